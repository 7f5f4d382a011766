/- Texts of this proof, joined, without what it does not use. No condition. -/
import Derived.Test.YtldaknhjmhlefaaGreatDoorQt

set_option maxHeartbeats 8000000
set_option linter.unusedSimpArgs false
set_option linter.unusedVariables false
set_option maxRecDepth 20000
namespace Go.Proofs.YtldaknhjmhlefaaGreatDoor
open Go Go.TL
theorem xT {p0:Program} {p1:Expr} {r0:Expr} {r1:Int} (hm:jJ p0 p1=some (r0,r1)):RetT Tryz.prog 21 [p0.enc,p1.enc] [r0.enc,.int .i64 r1]:=by
 refine .of (mv:=λ_=>false) (eR qJR Tryz.func21 Q Tryz.ntmps21 Q Q (λwX gX=>?_));unfold jJ at hm;refine WN [0,1] Q Q (RS (bV 0 Q Q Q (bV 1 Q Q Q (bZ 2 Q Q aJ Q (cC 2 [none,none,some 3] Q Q (SA TK Q (TN (WN [2,3,4] Q Q ?_))))))));refine RS (SA TK Q (SA TK Q (SX Q Q (aL TK Q Q Q) (SA TK Q (TN (WN [2,3,4,6] Q Q (TQ ?_)))))));refine aE hm (λx1=>([(23,.d (.bool (x1)))]:Fr)) (λx1=>([]:List (Nat×Blk))) [23] [2,3,4,6] Q (λz2 hm=>?_) (λx1 hm=>?_)
 ·refine TG (SA TK Q (BE hm λr3 hr3 hm=>SX Q Q (RN Q Q (SC (.d _) SN) (xD hr3)) (SA TK Q (SB TK Q (λq4 hq4=>?_)))));cases q4
  ·replace hm:=eL hq4 hm;refine SA TK Q (SA TK Q (BE hm λr5 hr5 hm=>SX Q Q (RN Q Q (SC (.d _) (SC (.d _) SN)) (kR hr5)) (SA TK Q (SA TK Q (TN (WT ?_))))));exact⟨_,[0,1,2],(SJ hm),Q,k0,Q⟩
  replace hm:=eK hq4 hm;iterate 5 (refine SA TK Q ?_)
  refine TN (WT ?_);exact⟨_,[0,1,2],(SJ hm),Q,k0,Q⟩
 refine WN [2,3,4,6,23] Q Q ?_;refine TC _ Q (λh6=>?_) (λh6=>?_)
 ·replace hm:=JA h6 hm;refine RS (SX Q Q (bF Q jD aJ Q Q Q Q) (uU 24 [none,none,some 3] Q (SA TK Q (SA TK Q (TN (WN [4,5] Q Q (TR (WR ?_))))))));obtain⟨rfl,rfl⟩:=Prod.mk.inj (Option.some.inj hm);exact⟨_,.mk _ (.cons (.agg (TK.lay Q) Q Q Q Q) (.cons (.tmp 5) .nil)) Q,(.cons (.d _) (.refl _) (.cons (.d _) (.refl _) .nil))⟩
 replace hm:=JB h6 hm;refine TS (WT (WN [2,3,4,6] Q Q (RS (SA TK Q (SA TK Q (SA TK Q (SX Q Q (aL TK Q Q Q) (GE hm λg7 hm=>SX Q Q (aR Q Q Q Q g7) (SA TK Q ?_)))))))));refine TN (WN [2,3,4,6,7] Q Q (RS (SA TK Q (SX Q Q (bF Q jD aJ Q Q Q Q) (uU 31 [none,none,some 3] Q (BE hm λr8 hr8 hm=>SX Q Q (RD Q Q Q (kS hr8)) (bZ 3 Q Q aJ Q ?_)))))));refine cC 3 [none,none,some 3] Q Q (SA TK Q (TN (WN [2,4,6,7,8] Q Q ?_)));refine bI hm (λ(c9,c10,c11)=>([]:Fr)) (λ(c9,c10,c11)=>([(3,.box 40 [.d (.int .i64 c9),.d (.int .i64 c10),.d (.sl 3 (c11.map Expr.encR))])]:List (Nat×Blk))) [] [4,8] Q (λz12 hm hz12=>?_) (λj hm=>?_)
 ·refine RS (SA TK Q (SA TK Q (SX Q Q (aL TK Q Q Q) (GE hm λg13 hm=>SX Q Q (aR Q Q Q Q g13) (SA TK Q (TN (WN [2,4,6,7,8,9] Q Q (TB ?_))))))));refine aN hm (λ(i19,c20,c21,c22)=>([(9,.d (.int .i64 i19))]:Fr)) (λ(i19,c20,c21,c22)=>([(3,.box 40 [.d (.int .i64 c20),.d (.int .i64 c21),.d (.sl 3 (c22.map Expr.encR))])]:List (Nat×Blk))) [9] [2,4,6,7,8] [0,1,2,3] Q k0 Q Q Q Q Q (λs z23 hm hz23=>?_);obtain⟨i19,c20,c21,c22⟩:=s;refine WN [2,4,6,7,8,9] Q Q (TQ (RS (SA TK Q (SA TK Q (TN (WN [2,4,6,7,8,9,38] Q Q ?_))))));refine TC _ Q (λh24=>?_) (λh24=>?_)
  ·replace hm:=JT h24 hm;refine TS (WT (WN [2,4,6,7,8,9] Q Q (TQ (TB (RS (SA TK Q (SA TK Q (SA TK Q (VE hm λe25 he25 hm=>SX Q Q (bC TK Q Q Q Q he25) ?_)))))))));refine SA TK Q (bZ 4 Q Q iH Q (cC 4 [none,none,none,none,none,some 3] Q Q (SA TK Q (TN (WN [2,4,6,7,8,9,10] Q Q (RS (SA TK Q (SA TK Q (bZ 5 Q Q aJ Q ?_)))))))));refine cC 5 [none,none,some 3] Q Q (SA TK Q (TN (WN [2,4,6,7,8,9,10,11] Q Q ?_)));refine aE hm (λ(c26,c27,c28)=>([]:Fr)) (λ(c26,c27,c28)=>([(5,.box 40 [.d (.int .i64 c26),.d (.int .i64 c27),.d (.sl 3 (c28.map Expr.encR))])]:List (Nat×Blk))) [] [2,4,6,7,8,9,10,11] Q (λz29 hm=>?_) (λj hm=>?_)
   ·refine RS (SA TK Q (SA TK Q (SA TK Q (TN (WN [2,4,6,7,8,9,10,11,50] Q Q ?_)))));refine TC _ Q (λh30=>?_) (λh30=>?_)
    ·replace hm:=JT h30 hm;refine TG (SA TK Q (SA TK Q (GE hm λg31 hm=>SX Q Q (aR Q Q Q Q g31) (SX Q Q (bF Q jD aJ Q Q Q Q) (uU 54 [none,none,some 3] Q (SA TK Q (TN (WT ?_))))))));exact⟨_,[0,1,2,3,4,5],(SJ hm),Q,k0,Q⟩
    replace hm:=JF h30 hm;refine TS (WT ?_);exact⟨_,[0,1,2,3,4,5],(SJ hm),Q,k0,Q⟩
   obtain⟨c26,c27,c28⟩:=j;refine WN [2,4,6,7,8,9,10,11] Q Q (TQ (bE follows  (DA [0,1,2,3,4,5] TK Q (BE hm λr32 hr32 hm=>DX [0,1,2,3,4,5] Q Q (RN Q Q (SC (.d _) SN) (oF hr32)) ?_))));iterate 3 (refine DA [0,1,2,3,4,5] TK Q ?_)
   refine BE hm λr33 hr33 hm=>DX [0,1,2,3,4,5] Q Q (RN Q Q (SC (.d _) (SC (.d _) SN)) (qP hr33)) (DA [0,1,2,3,4,5] TK Q (BE hm λr34 hr34 hm=>DX [0,1,2,3,4,5] Q Q (RN Q Q (SC (.d _) SN) (oF hr34)) (GE hm λg35 hm=>DX [0,1,2,3,4,5] Q Q (aR Q Q Q Q g35) (GE hm λg36 hm=>DX [0,1,2,3,4,5] Q Q (aR Q Q Q Q g36) ?_))));refine GE hm λg37 hm=>DX [0,1,2,3,4,5] Q Q (aR Q Q Q Q g37) (DA [0,1,2,3,4,5] TK Q ?_);refine DT ?_ (by kernel_rfl);refine TN (WN [2,4,6,7,8,9,10,11,66] Q Q ?_);refine TC _ Q (λh38=>?_) (λh38=>?_)
   ·replace hm:=JT h38 hm;refine RS (SX Q Q (bF Q jD aJ Q Q Q Q) (uU 67 [none,none,some 3] Q (SA TK Q (SA TK Q (TN (WN [4,5] Q Q (TR (WR (WB ?_)))))))));refine WR (IE hm λv39 hm hz=>?_);rw [hz23 _ hz] at hm;refine WR (WB (IE hm λv40 hm hz=>?_));rw [hz12 _ hz] at hm;refine WR ?_;obtain⟨rfl,rfl⟩:=Prod.mk.inj (Option.some.inj hm);exact⟨_,.mk _ (.cons (.agg (TK.lay Q) Q Q Q Q) (.cons (.tmp 5) .nil)) Q,(.cons (.d _) (.refl _) (.cons (.d _) (.refl _) .nil))⟩
   replace hm:=JF h38 hm;refine TS (WT (WN [2,4,6,7,8,9,10,11] Q Q (RS ?_)));iterate 4 (refine SA TK Q ?_)
   refine BE hm λr41 hr41 hm=>SX Q Q (RD Q Q Q (kS hr41)) (SA TK Q (TN (WN [2,4,6,7,8,9] Q Q (RS (SA TK Q (SA TK Q (BE hm λr42 hr42 hm=>SX Q Q (RN Q Q (SC (.d _) (SC (.d _) SN)) (kR hr42)) ?_)))))));refine SA TK Q (TN (WN [2,4,6,7,8,9,76] Q Q ?_));refine TC _ Q (λh43=>?_) (λh43=>?_)
   ·replace hm:=JA h43 hm;refine RS (SX Q Q (bF Q jD aJ Q Q Q Q) (uU 77 [none,none,some 3] Q (SA TK Q (SA TK Q (TN (WN [4,5] Q Q (TR (WB (WR ?_)))))))));refine IE hm λv44 hm hz=>?_;rw [hz23 _ hz] at hm;refine WR (WB (IE hm λv45 hm hz=>?_));rw [hz12 _ hz] at hm;refine WR ?_;obtain⟨rfl,rfl⟩:=Prod.mk.inj (Option.some.inj hm);exact⟨_,.mk _ (.cons (.agg (TK.lay Q) Q Q Q Q) (.cons (.tmp 5) .nil)) Q,(.cons (.d _) (.refl _) (.cons (.d _) (.refl _) .nil))⟩
   replace hm:=JB h43 hm;refine TS (WK (WT (WN [2,4,6,7,8,9] Q Q (TG (SA TK Q (GE hm λg46 hm=>SX Q Q (aR Q Q Q Q g46) (SA TK Q ?_)))))));refine TN (WT ?_);exact⟨_,[0,1,2,3],(SJ hm),Q,k0,Q⟩
  replace hm:=JF h24 hm;refine aC (WX (IE hm λv47 hm hz=>?_));rw [hz23 _ hz] at hm;refine WX (WH (WT ?_));exact⟨_,[0,1,2,3],(SJ hm),Q,k0,Q⟩
 obtain⟨c9,c10,c11⟩:=j;refine WN [4,8] Q Q (RS (SA TK Q (SA TK Q (SA TK Q (TN (WN [4,5] Q Q (TR ?_)))))));obtain⟨rfl,rfl⟩:=Prod.mk.inj (Option.some.inj hm);exact⟨_,.mk _ (.cons (.agg (TK.lay Q) Q Q Q Q) (.cons (.tmp 5) .nil)) Q,(.cons (.d _) (.refl _) (.cons (.d _) (.refl _) .nil))⟩
theorem qAS:∀ (fu:Nat) {p0:Expr} {p1:Expr} {r:Bool} (hm:kK fu p0 p1=some r),RetN Tryz.prog 23 [p0.enc,p1.enc] (.bool (r)):=by
 intro fu
 induction fu with
 | zero=>
  intro p0 p1 r hm;unfold kK at hm;cases hm
 | succ fu ih=>
  intro p0 p1 r hm;refine .unit (aF qVF Tryz.func23 Q Tryz.ntmps23 Q Q (λwX gX=>?_)) Q;unfold kK at hm;refine WN [0,1] Q Q (RS (bV 0 Q Q Q (bV 1 Q Q Q (SA TK Q (TN (WN [2,3] Q Q (TQ ?_)))))));refine eE [(26,.d (.bool (((!(decide (p0.op=p1.op)))||((!(decide (p0.var=p1.var)))||(!(decide ((p0.args.length:Int)=(p1.args.length:Int)))))))))] [26] [2,3] Q ?_ ?_
  ·refine TG ?_;iterate 5 (refine SA TK Q ?_)
   refine SB TK Q (λq1 hq1=>?_);cases q1
   ·iterate 6 (refine SA TK Q ?_)
    refine SB TK Q (λq2 hq2=>?_);cases q2
    ·refine SA TK Q (SA TK Q (SX Q Q (aL TK Q Q Q) (SA TK Q (SA TK Q (SX Q Q (aL TK Q Q Q) (SA TK Q (SA TK Q (TN (WT ?_)))))))));exact⟨[0,1],Q,k0,bB (aK (aM (by first|(simp [hq1,hq2];done)|(simp only [hq1,hq2];simp))) Q) Q⟩
    iterate 8 (refine SA TK Q ?_)
    refine TN (WT ?_);exact⟨[0,1],Q,k0,bB (aK (aM (by first|(simp [hq1,hq2];done)|(simp only [hq1,hq2];simp))) Q) Q⟩
   iterate 15 (refine SA TK Q ?_)
   refine TN (WT ?_);exact⟨[0,1],Q,k0,bB (aK (aM (by first|(simp [hq1];done)|(simp only [hq1];simp))) Q) Q⟩
  refine WN [2,3,26] Q Q ?_;refine TC _ Q (λh3=>?_) (λh3=>?_)
  ·replace hm:=JA h3 hm;refine RS (SA TK Q (TN (WN [4] Q Q (TR (WR ?_)))));obtain rfl:=OJ hm;exact EndsS.one _ Q (.d _) (.refl _)
  replace hm:=JB h3 hm;refine TS (WT (WN [2,3] Q Q ?_));refine bI hm (λ_=>([]:Fr)) (λ_=>([]:List (Nat×Blk))) [] [] Q (λz4 hm hz4=>?_) (λj hm=>?_)
  ·refine RS (SA TK Q (TN (WN [2,3,5] Q Q (TB (aN hm (λi6=>([(5,.d (.int .i64 i6))]:Fr)) (λi6=>([]:List (Nat×Blk))) [5] [2,3] [0,1] Q k0 Q Q Q Q Q (λi6 z7 hm hz7=>WN [2,3,5] Q Q (TQ (RS ?_))))))));refine SA TK Q (SA TK Q (SA TK Q (SX Q Q (aL TK Q Q Q) (SA TK Q (TN (WN [2,3,5,31] Q Q ?_))))));refine TC _ Q (λh8=>?_) (λh8=>?_)
   ·replace hm:=JT h8 hm;refine TS (WT (WN [2,3,5] Q Q (TQ (TB (bE follows  ?_)))));iterate 3 (refine DA [0,1] TK Q ?_)
    refine VE hm λe9 he9 hm=>DX [0,1] Q Q (lU TK Q Q Q Q he9 (Expr.encR_eq _)) ?_;iterate 4 (refine DA [0,1] TK Q ?_)
    refine VE hm λe10 he10 hm=>DX [0,1] Q Q (lU TK Q Q Q Q he10 (Expr.encR_eq _)) (DA [0,1] TK Q (BE hm λr11 hr11 hm=>DX [0,1] Q Q (RN Q Q (SC (.d _) (SC (.d _) SN)) (ih hr11)) (DA [0,1] TK Q ?_)));refine DT ?_ (by kernel_rfl);refine TN (WN [2,3,5,45] Q Q ?_);refine TC _ Q (λh12=>?_) (λh12=>?_)
    ·replace hm:=JA h12 hm;refine RS (SA TK Q (TN (WN [4] Q Q (TR (WB (WR (IE hm λv13 hm hz=>?_)))))));rw [hz7 _ hz] at hm;refine WR (WB (IE hm λv14 hm hz=>?_));rw [hz4 _ hz] at hm;refine WR ?_;obtain rfl:=OJ hm;exact EndsS.one _ Q (.d _) (.refl _)
    replace hm:=JB h12 hm;refine TS (WK (WT (WN [2,3,5] Q Q (TG (SA TK Q (GE hm λg15 hm=>SX Q Q (aR Q Q Q Q g15) (SA TK Q ?_)))))));refine TN (WT ?_);exact⟨_,[0,1],(SJ hm),Q,k0,Q⟩
   replace hm:=JF h8 hm;refine aC (WX (IE hm λv16 hm hz=>?_));rw [hz7 _ hz] at hm;refine WX (WH (WT ?_));exact⟨_,[0,1],(SJ hm),Q,k0,Q⟩
  refine WN [] Q Q (RS (SA TK Q (TN (WN [4] Q Q (TR ?_)))));obtain rfl:=OJ hm;exact EndsS.one _ Q (.d _) (.refl _)
theorem uX {p0:Expr} {p1:Expr} {r:Bool} (hm:tX p0 p1=some r):RetN Tryz.prog 23 [p0.enc,p1.enc] (.bool (r)):=qAS cA hm
theorem qBN {p0:Expr} {r:If_node} (hm:sB p0=some r):RetD Tryz.prog 185 [.ptr (p0.enc) 0] (r.enc):=by
 refine .of (mv:=λ_=>false) (aF qPQ Tryz.func185 Q Tryz.ntmps185 Q Q (λwX gX=>?_));unfold sB at hm;refine WN [0] Q Q (RS (SA TK Q (TN (WN [0] Q Q (TQ (RS ?_))))));iterate 4 (refine SA TK Q ?_)
 refine TN (WN [0,6] Q Q (TB (RS (SA TK Q (SA TK Q (TN (WN [0,6,7] Q Q ?_)))))));refine TC _ Q (λh1=>?_) (λh1=>?_)
 ·replace hm:=JT h1 hm;refine RS (SA TK Q (SX Q Q (bF Q plc200 qCH Q Q Q Q) (SA TK Q (SA TK Q (TN (WN [2] Q Q (TR (WB (WR ?_)))))))));obtain rfl:=OJ hm;exact EndsS.one _ Q (.d _) (.refl _)
 replace hm:=JF h1 hm;refine RS (SA TK Q (SA TK Q (TN (WN [0,6,12] Q Q ?_))));refine TC _ Q (λh2=>?_) (λh2=>?_)
 ·replace hm:=JT h2 hm;refine RS ?_;iterate 4 (refine SA TK Q ?_)
  refine SX Q Q (aL TK Q Q Q) (SA TK Q (TN (WN [0,19] Q Q ?_)));refine TC _ Q (λh3=>?_) (λh3=>?_)
  ·replace hm:=JT h3 hm;refine RS (SA TK Q (SX Q Q (bF Q plc201 qCG Q Q Q Q) (SA TK Q (SA TK Q (TN (WN [2] Q Q (TR (WB (WR ?_)))))))));obtain rfl:=OJ hm;exact EndsS.one _ Q (.d _) (.refl _)
  replace hm:=JF h3 hm;refine TS (WK (WT (WN [0] Q Q (RS (SA TK Q (SX Q Q (bF Q qMU qIE Q Q Q Q) (SA TK Q (SA TK Q (TN ?_)))))))));refine WN [2] Q Q (TR ?_);obtain rfl:=OJ hm;exact EndsS.one _ Q (.d _) (.refl _)
 replace hm:=JF h2 hm;refine RS (SA TK Q (SA TK Q (TN (WN [0,6,23] Q Q ?_))));refine TC _ Q (λh4=>?_) (λh4=>?_)
 ·replace hm:=JT h4 hm;refine RS (SA TK Q (SX Q Q (bF Q plc202 qCF Q Q Q Q) (SA TK Q (SA TK Q (TN (WN [2] Q Q (TR (WB (WR ?_)))))))));obtain rfl:=OJ hm;exact EndsS.one _ Q (.d _) (.refl _)
 replace hm:=JF h4 hm;refine RS (SA TK Q (SA TK Q (TN (WN [0,28] Q Q ?_))));refine TC _ Q (λh5=>?_) (λh5=>?_)
 ·replace hm:=JT h5 hm;refine RS (SA TK Q (SX Q Q (bF Q plc203 qCE Q Q Q Q) (SA TK Q (SA TK Q (TN (WN [2] Q Q (TR (WB (WR ?_)))))))));obtain rfl:=OJ hm;exact EndsS.one _ Q (.d _) (.refl _)
 replace hm:=JF h5 hm;refine TS (WK (WT (WN [0] Q Q (RS (SA TK Q (SX Q Q (bF Q qMU qIE Q Q Q Q) (SA TK Q (SA TK Q (TN ?_)))))))));refine WN [2] Q Q (TR ?_);obtain rfl:=OJ hm;exact EndsS.one _ Q (.d _) (.refl _)
theorem qDX:∀ (fu:Nat) {p0:Expr} {p1:(List Bool)} {r:Bool} (hm:iU fu p0 p1=some r),RetN Tryz.prog 120 [.ptr (p0.enc) 0,.sl 1 (p1.map D.bool)] (.bool (r)):=by
 intro fu
 induction fu with
 | zero=>
  intro p0 p1 r hm;unfold iU at hm;cases hm
 | succ fu ih=>
  intro p0 p1 r hm;refine .unit (aF qRJ Tryz.func120 Q Tryz.ntmps120 Q Q (λwX gX=>?_)) Q;unfold iU at hm;refine WN [0,1] Q Q (RS (SA TK Q (TN (WN [0,1] Q Q ?_))));refine bI hm (λ_=>([]:Fr)) (λ_=>([]:List (Nat×Blk))) [] [0] Q (λz1 hm hz1=>?_) (λj hm=>?_)
  ·refine RS (SA TK Q (BE hm λr2 hr2 hm=>SX Q Q (RD Q Q Q (qBN hr2)) (TN (WN [0,1,12] Q Q (TB (RS ?_))))));by_cases h3:r2.tid=200
   ·rw [if_pos h3] at hm;refine SX Q Q (qII Q qJN Q h3) (SA TK Q (SA TK Q (TN (WN [0,1,12,14,15] Q Q ?_))));refine TC true Q (λ_=>?_) (λh=>by cases h);refine RS (bZ 0 Q Q qCH Q (SA TK Q (TN (WN [1,5] Q Q ?_))));refine aE hm (λx4=>([(4,.d (.bool (x4)))]:Fr)) (λx4=>([]:List (Nat×Blk))) [4] [] Q (λz5 hm=>?_) (λx4 hm=>?_)
    ·refine TG ?_;iterate 6 (refine SA TK Q ?_)
     refine SB TK Q (λq6 hq6=>?_);cases q6
     ·replace hm:=JF hq6 hm;iterate 20 (refine SA TK Q ?_)
      refine TN (WT ?_);exact⟨_,[0],(SJ hm),Q,k0,Q⟩
     replace hm:=JT hq6 hm;iterate 6 (refine SA TK Q ?_)
     refine SX Q Q (aL TK Q Q Q) (SA TK Q (SA TK Q (SB TK Q (λq7 hq7=>?_))));cases q7
     ·replace hm:=JF hq7 hm;iterate 10 (refine SA TK Q ?_)
      refine TN (WT ?_);exact⟨_,[0],(SJ hm),Q,k0,Q⟩
     replace hm:=JT hq7 hm;iterate 6 (refine SA TK Q ?_)
     refine VE hm λe8 he8 hm=>SX Q Q (bC TK Q Q Q Q he8) (SA TK Q (SA TK Q (SA TK Q (TN (WT ?_)))));exact⟨_,[0],(SJ hm),Q,k0,Q⟩
    refine WN [4] Q Q (TR (WB (IE hm λv9 hm hz=>?_)));rw [hz1 _ hz] at hm;refine WR ?_;obtain rfl:=OJ hm;exact EndsS.one _ Q (.d _) (.refl _)
   rw [if_neg h3] at hm;refine SX Q Q (qIJ Q qJN Q h3 qCH Q) (SA TK Q (SA TK Q (TN (WN [0,1,12,14] Q Q (TC false Q (λh=>by cases h) (λ_=>RS ?_))))));by_cases h10:r2.tid=201
   ·rw [if_pos h10] at hm;refine SX Q Q (qII Q qJM Q h10) (SA TK Q (SA TK Q (TN (WN [0,1,12,43,44] Q Q ?_))));refine TC true Q (λ_=>?_) (λh=>by cases h);refine RS (bZ 0 Q Q qCG Q (SA TK Q (TN (WN [1,6] Q Q (RS ?_)))));iterate 5 (refine SA TK Q ?_)
    refine VE hm λe11 he11 hm=>SX Q Q (lU TK Q Q Q Q he11 (Expr.encR_eq _)) (SA TK Q (BE hm λr12 hr12 hm=>SX Q Q (RN Q Q (SC (.d _) (SC (.d _) SN)) (ih hr12)) (SA TK Q (SA TK Q (TN (WN [4] Q Q (TR ?_)))))));refine WB (IE hm λv13 hm hz=>?_);rw [hz1 _ hz] at hm;refine WR ?_;obtain rfl:=OJ hm;exact EndsS.one _ Q (.d _) (.refl _)
   rw [if_neg h10] at hm;refine SX Q Q (qIJ Q qJM Q h10 qCG Q) (SA TK Q (SA TK Q (TN (WN [0,1,12,43] Q Q (TC false Q (λh=>by cases h) (λ_=>RS ?_))))));by_cases h14:r2.tid=202
   ·rw [if_pos h14] at hm;refine SX Q Q (qII Q qJL Q h14) (SA TK Q (SA TK Q (TN (WN [0,1,12,55,56] Q Q ?_))));refine TC true Q (λ_=>?_) (λh=>by cases h);refine RS (bZ 0 Q Q qCF Q (SA TK Q (TN (WN [1,7] Q Q ?_))));refine bI hm (λ_=>([]:Fr)) (λ_=>([]:List (Nat×Blk))) [] [] Q (λz15 hm hz15=>?_) (λj hm=>?_)
    ·refine RS ?_;iterate 5 (refine SA TK Q ?_)
     refine SX Q Q (aL TK Q Q Q) (SA TK Q (TN (WN [1,7,62,63] Q Q (TB (aN hm (λx17=>([(63,.d (.int .i64 x17))]:Fr)) (λx17=>([]:List (Nat×Blk))) [63] [1,7,62] [0] Q k0 Q Q Q Q Q (λx17 z18 hm hz18=>WN [1,7,62,63] Q Q (RS (SA TK Q ?_))))))));refine TN (WN [1,7,62,63,64] Q Q (TQ ?_));refine TC _ Q (λh19=>?_) (λh19=>?_)
     ·replace hm:=JT h19 hm;refine TS (WT (WN [1,7,62,63] Q Q (TQ (TB (RS (SA TK Q (SA TK Q (TN (WN [1,7,8,62,63] Q Q ?_)))))))));refine RS ?_;iterate 6 (refine SA TK Q ?_)
      refine VE hm λe20 he20 hm=>SX Q Q (lU TK Q Q Q Q he20 (Expr.encR_eq _)) (SA TK Q (BE hm λr21 hr21 hm=>SX Q Q (RN Q Q (SC (.d _) (SC (.d _) SN)) (ih hr21)) (SA TK Q (TN (WN [1,7,62,63,75] Q Q ?_)))));refine TC _ Q (λh22=>?_) (λh22=>?_)
      ·replace hm:=JA h22 hm;refine RS (SA TK Q (TN (WN [4] Q Q (TR (WB (WR (IE hm λv23 hm hz=>?_)))))));rw [hz18 _ hz] at hm;refine WR (WB (IE hm λv24 hm hz=>?_));rw [hz15 _ hz] at hm;refine WR (WB (IE hm λv25 hm hz=>?_));rw [hz1 _ hz] at hm;refine WR ?_;obtain rfl:=OJ hm;exact EndsS.one _ Q (.d _) (.refl _)
      replace hm:=JB h22 hm;refine TS (WK (WT (WN [1,7,62,63] Q Q (TG (GE hm λg26 hm=>SX Q Q (aR Q Q Q Q g26) (SA TK Q (TN ?_)))))));refine WT ?_;exact⟨_,[0],(SJ hm),Q,k0,Q⟩
     replace hm:=JF h19 hm;refine aC (WX (IE hm λv27 hm hz=>?_));rw [hz18 _ hz] at hm;refine WX (WH (WT ?_));exact⟨_,[0],(SJ hm),Q,k0,Q⟩
    refine WN [] Q Q (RS (SA TK Q (TN (WN [4] Q Q (TR (WB (IE hm λv28 hm hz=>?_)))))));rw [hz1 _ hz] at hm;refine WR ?_;obtain rfl:=OJ hm;exact EndsS.one _ Q (.d _) (.refl _)
   rw [if_neg h14] at hm;refine SX Q Q (qIJ Q qJL Q h14 qCF Q) (SA TK Q (SA TK Q (TN (WN [0,1,12,55] Q Q (TC false Q (λh=>by cases h) (λ_=>RS ?_))))));by_cases h29:r2.tid=203
   ·rw [if_pos h29] at hm;refine SX Q Q (qII Q qJK Q h29) (SA TK Q (SA TK Q (TN (WN [0,1,78,79] Q Q ?_))));refine TC true Q (λ_=>?_) (λh=>by cases h);refine RS (bZ 0 Q Q qCE Q (SA TK Q (TN (WN [1,9] Q Q ?_))));refine bI hm (λ_=>([]:Fr)) (λ_=>([]:List (Nat×Blk))) [] [] Q (λz30 hm hz30=>?_) (λj hm=>?_)
    ·refine RS ?_;iterate 5 (refine SA TK Q ?_)
     refine SX Q Q (aL TK Q Q Q) (SA TK Q (TN (WN [1,9,85,86] Q Q (TB (aN hm (λx32=>([(86,.d (.int .i64 x32))]:Fr)) (λx32=>([]:List (Nat×Blk))) [86] [1,9,85] [0] Q k0 Q Q Q Q Q (λx32 z33 hm hz33=>WN [1,9,85,86] Q Q (RS (SA TK Q ?_))))))));refine TN (WN [1,9,85,86,87] Q Q (TQ ?_));refine TC _ Q (λh34=>?_) (λh34=>?_)
     ·replace hm:=JT h34 hm;refine TS (WT (WN [1,9,85,86] Q Q (TQ (TB (RS (SA TK Q (SA TK Q (TN (WN [1,9,10,85,86] Q Q ?_)))))))));refine RS ?_;iterate 6 (refine SA TK Q ?_)
      refine VE hm λe35 he35 hm=>SX Q Q (lU TK Q Q Q Q he35 (Expr.encR_eq _)) (SA TK Q (BE hm λr36 hr36 hm=>SX Q Q (RN Q Q (SC (.d _) (SC (.d _) SN)) (ih hr36)) (TN (WN [1,9,85,86,97] Q Q ?_))));refine TC _ Q (λh37=>?_) (λh37=>?_)
      ·replace hm:=JA h37 hm;refine RS (SA TK Q (TN (WN [4] Q Q (TR (WB (WR (IE hm λv38 hm hz=>?_)))))));rw [hz33 _ hz] at hm;refine WR (WB (IE hm λv39 hm hz=>?_));rw [hz30 _ hz] at hm;refine WR (WB (IE hm λv40 hm hz=>?_));rw [hz1 _ hz] at hm;refine WR ?_;obtain rfl:=OJ hm;exact EndsS.one _ Q (.d _) (.refl _)
      replace hm:=JB h37 hm;refine TS (WK (WT (WN [1,9,85,86] Q Q (TG (GE hm λg41 hm=>SX Q Q (aR Q Q Q Q g41) (SA TK Q (TN ?_)))))));refine WT ?_;exact⟨_,[0],(SJ hm),Q,k0,Q⟩
     replace hm:=JF h34 hm;refine aC (WX (IE hm λv42 hm hz=>?_));rw [hz33 _ hz] at hm;refine WX (WH (WT ?_));exact⟨_,[0],(SJ hm),Q,k0,Q⟩
    refine WN [] Q Q (RS (SA TK Q (TN (WN [4] Q Q (TR (WB (IE hm λv43 hm hz=>?_)))))));rw [hz1 _ hz] at hm;refine WR ?_;obtain rfl:=OJ hm;exact EndsS.one _ Q (.d _) (.refl _)
   rw [if_neg h29] at hm;refine SX Q Q (qIJ Q qJK Q h29 qCE Q) (SA TK Q (SA TK Q (TN (WN [0,1,78] Q Q (TC false Q (λh=>by cases h) (λ_=>TS (WK (WT ?_))))))));exact⟨_,[],(SJ hm),Q,k0,Q⟩
  refine WN [0] Q Q (RS ?_);iterate 6 (refine SA TK Q ?_)
  refine TN (WN [4] Q Q (TR ?_));obtain rfl:=OJ hm;exact EndsS.one _ Q (.d _) (.refl _)
theorem qGH {p0:Expr} {p1:(List Bool)} {r:Bool} (hm:qCC p0 p1=some r):RetN Tryz.prog 120 [.ptr (p0.enc) 0,.sl 1 (p1.map D.bool)] (.bool (r)):=qDX cA hm
theorem qGI {p0:Expr} {p1:(List Bool)} {r:Bool} (hm:wS p0 p1=some r):RetN Tryz.prog 52 [p0.enc,.sl 1 (p1.map D.bool)] (.bool (r)):=by
 refine .unit (aF qUN Tryz.func52 Q Tryz.ntmps52 Q Q (λwX gX=>?_)) Q;unfold wS at hm;refine WN [0,1] Q Q (RS (bV 0 Q Q Q (SA TK Q (TN (WN [1,2] Q Q (qJS 0 Q Q Q Q Q (RS (SA TK Q ?_))))))));refine BE hm λr1 hr1 hm=>SX Q Q (RN Q Q (SC (.d _) (SC (.d _) SN)) (qGH hr1)) (SA TK Q (TN (WN [4] Q Q (TR ?_))));obtain rfl:=OJ hm;exact EndsS.one _ Q (.d _) (.refl _)
theorem vG {p0:Obligation} {p1:Machine} {r:Bool} (hm:lQ p0 p1=some r):RetN Tryz.prog 51 [p0.enc,.ptr (p1.enc) 0] (.bool (r)):=by
 refine .unit (aF qUO Tryz.func51 Q Tryz.ntmps51 Q Q (λwX gX=>?_)) Q;unfold lQ at hm;refine WN [0,1] Q Q (RS (bV 0 Q Q Q (SA TK Q (TN (WN [1,2] Q Q (RS ?_))))));iterate 4 (refine SA TK Q ?_)
 refine BE hm λr1 hr1 hm=>SX Q Q (RN Q Q (SC (.d _) (SC (.d _) SN)) (qGI hr1)) (SA TK Q (SA TK Q (TN (WN [3] Q Q (TR ?_)))));obtain rfl:=OJ hm;exact EndsS.one _ Q (.d _) (.refl _)
theorem lL {p0:(List Obligation)} {p1:Obligation→Option Bool} {c1:D} (hf1:∀ a0 r,p1 a0=some r→∃ F cs,qGD c1=some (F,cs)∧RetD Tryz.prog F ([a0.enc]++cs) (.bool (r))) {r:Int} (hm:fK p0 p1=some r):RetN Tryz.prog 50 [.sl 4 (p0.map Obligation.enc),c1] (.int .i64 r):=by
 refine .unit (aF qUP Tryz.func50 Q Tryz.ntmps50 Q Q (λwX gX=>?_)) Q;unfold fK at hm;refine WN [0,1] Q Q (RS (SA TK Q (TN (WN [0,1] Q Q ?_))));refine bI hm (λ_=>([]:Fr)) (λ_=>([]:List (Nat×Blk))) [] [] Q (λz1 hm hz1=>?_) (λj hm=>?_)
 ·refine RS (SA TK Q (SX Q Q (aL TK Q Q Q) (SA TK Q (TN (WN [0,1,7,8] Q Q (TB (aN hm (λx3=>([(8,.d (.int .i64 x3))]:Fr)) (λx3=>([]:List (Nat×Blk))) [8] [0,1,7] [] Q k0 Q Q Q Q Q (λx3 z4 hm hz4=>WN [0,1,7,8] Q Q ?_))))))));refine RS (SA TK Q (TN (WN [0,1,7,8,9] Q Q (TQ ?_))));refine TC _ Q (λh5=>?_) (λh5=>?_)
  ·replace hm:=JT h5 hm;refine TS (WT (WN [0,1,7,8] Q Q (TQ (TB (RS (SA TK Q (SA TK Q (TN (WN [0,1,5,7,8] Q Q ?_)))))))));refine RS (SA TK Q (SA TK Q (SA TK Q (VE hm λe6 he6 hm=>SX Q Q (bC TK Q Q Q Q he6) (SA TK Q (BE hm λr7 hr7 hm=>?_))))));obtain⟨Fr7,csr7,hFr7,hcr7⟩:=hf1 _ _ hr7;refine SX Q Q (qMN Q Q hFr7 Q hcr7) (TN (WN [0,1,5,7,8,16] Q Q ?_));refine TC _ Q (λh8=>?_) (λh8=>?_)
   ·replace hm:=JA h8 hm;refine RS (SA TK Q (SA TK Q (TN (WN [4] Q Q (TR (WB (WR (IE hm λv9 hm hz=>?_))))))));rw [hz4 _ hz] at hm;refine WR (WB (IE hm λv10 hm hz=>?_));rw [hz1 _ hz] at hm;refine WR ?_;obtain rfl:=OJ hm;exact EndsS.one _ Q (.d _) (.refl _)
   replace hm:=JB h8 hm;refine TS (WK (WT (WN [0,1,7,8] Q Q (TG (GE hm λg11 hm=>SX Q Q (aR Q Q Q Q g11) (SA TK Q (TN ?_)))))));refine WT ?_;exact⟨_,[],(SJ hm),Q,k0,Q⟩
  replace hm:=JF h5 hm;refine aC (WX (IE hm λv12 hm hz=>?_));rw [hz4 _ hz] at hm;refine WX (WH (WT ?_));exact⟨_,[],(SJ hm),Q,k0,Q⟩
 refine WN [] Q Q (RS (SA TK Q (TN (WN [4] Q Q (TR ?_)))));obtain rfl:=OJ hm;exact EndsS.one _ Q (.d _) (.refl _)
theorem zK {p0:(List Obligation)} {p1:Machine} {r:Int} (hm:qD p0 p1=some r):RetN Tryz.prog 18 [.sl 4 (p0.map Obligation.enc),p1.enc] (.int .i64 r):=by
 refine .unit (aF qVH Tryz.func18 Q Tryz.ntmps18 Q Q (λwX gX=>?_)) Q;unfold qD at hm;refine WN [0,1] Q Q (RS (bV 0 Q Q Q (SA TK Q (TN (WN [0,3] Q Q (qJS 0 Q Q Q Q Q (RS (SA TK Q (SA TK Q ?_)))))))));refine BE hm λr1 hr1 hm=>SX Q Q (RN Q Q (SC (.d _) (SC (.d _) SN)) (lL (λ_ r h=>⟨51,_,Q,(vG h).retD⟩) hr1)) (SA TK Q (TN (WN [4] Q Q (TR ?_))));obtain rfl:=OJ hm;exact EndsS.one _ Q (.d _) (.refl _)
theorem oC {p0:Program} {p1:Expr} {r0:Expr} {r1:Int} (hm:jR p0 p1=some (r0,r1)):Ret Tryz.prog 21 [.flat 64 6 (p0.rungs.map Rung.enc)] (λ_=>false) [.agg [.d (.sl 1 (p0.names.map D.str)),.d (.int .i64 p0.inputs),.msl 0 6 0 p0.rungs.length],.d (p1.enc)] (.tup [.d (r0.enc),.d (.int .i64 r1)]) [.flat 64 6 (p0.rungs.map Rung.enc)]:=by
 refine cJ qJR Tryz.func21 Q Tryz.ntmps21 Q Q (λwX gX=>?_);unfold jR at hm;refine WN [0,1] Q Q (RS (bV 1 Q Q Q (bV 2 Q Q Q (bZ 3 Q Q aJ Q (cC 3 [none,none,some 3] Q Q (SA TK Q (TN (WN [2,3,4] Q Q ?_))))))));refine RS (SA TK Q (SA TK Q (SX Q Q (aL TK Q Q Q) (SA TK Q (TN (WN [2,3,4,6] Q Q (TQ ?_)))))));refine aE hm (λx1=>([(23,.d (.bool (x1)))]:Fr)) (λx1=>([]:List (Nat×Blk))) [23] [2,3,4,6] Q (λz2 hm=>?_) (λx1 hm=>?_)
 ·refine TG (SA TK Q (BE hm λr3 hr3 hm=>SX Q Q (RN Q Q (SC (eF (.cons (.d _) Q (.cons (.d _) Q (.cons (bG Q) Q .nil)))) SN) (xD hr3)) (SA TK Q (SB TK Q (λq4 hq4=>?_)))));cases q4
  ·replace hm:=eL hq4 hm;refine SA TK Q (SA TK Q (BE hm λr5 hr5 hm=>SX Q Q (RN Q Q (SC (.d _) (SC (.d _) SN)) (kR hr5)) (SA TK Q (SA TK Q (TN (WT ?_))))));exact⟨_,[0,1,2,3],(SJ hm),Q,(kB Q),Q⟩
  replace hm:=eK hq4 hm;iterate 5 (refine SA TK Q ?_)
  refine TN (WT ?_);exact⟨_,[0,1,2,3],(SJ hm),Q,(kB Q),Q⟩
 refine WN [2,3,4,6,23] Q Q ?_;refine TC _ Q (λh6=>?_) (λh6=>?_)
 ·replace hm:=JA h6 hm;refine RS (SX Q Q (bF Q jD aJ Q Q Q Q) (uU 24 [none,none,some 3] Q (SA TK Q (SA TK Q (TN (WN [4,5] Q Q (TR (WR ?_))))))));obtain⟨rfl,rfl⟩:=Prod.mk.inj (Option.some.inj hm);exact⟨_,[0],.mk _ (.cons (.agg (TK.lay Q) Q Q Q Q) (.cons (.tmp 5) .nil)) Q,by decide,(kB Q),Q,Q⟩
 replace hm:=JB h6 hm;refine TS (WT (WN [2,3,4,6] Q Q (RS ?_)));iterate 4 (refine SA TK Q ?_)
 refine GE hm λg7 hm=>SX Q Q (aR Q Q Q Q g7) (SA TK Q (TN (WN [2,3,4,6,7] Q Q (RS (SA TK Q (SX Q Q (bF Q jD aJ Q Q Q Q) (uU 31 [none,none,some 3] Q ?_)))))));refine BE hm λr8 hr8 hm=>SX Q Q (RD Q Q Q (kS hr8)) (bZ 4 Q Q aJ Q (cC 4 [none,none,some 3] Q Q (SA TK Q (TN (WN [2,4,6,7,8] Q Q ?_)))));refine bI hm (λ(c9,c10,c11)=>([]:Fr)) (λ(c9,c10,c11)=>([(4,.box 40 [.d (.int .i64 c9),.d (.int .i64 c10),.d (.sl 3 (c11.map Expr.encR))])]:List (Nat×Blk))) [] [4,8] Q (λz12 hm hz12=>?_) (λj hm=>?_)
 ·refine RS (SA TK Q (SA TK Q (SA TK Q (GE hm λg13 hm=>SX Q Q (aR Q Q Q Q g13) (SA TK Q (TN (WN [2,4,6,7,8,9] Q Q (TB (aN hm (λ(i19,c20,c21,c22)=>([(9,.d (.int .i64 i19))]:Fr)) (λ(i19,c20,c21,c22)=>([(4,.box 40 [.d (.int .i64 c20),.d (.int .i64 c21),.d (.sl 3 (c22.map Expr.encR))])]:List (Nat×Blk))) [9] [2,4,6,7,8] [0,1,2,3,4] Q (kB Q) Q Q Q Q Q (λs z23 hm hz23=>?_))))))))));obtain⟨i19,c20,c21,c22⟩:=s;refine WN [2,4,6,7,8,9] Q Q (TQ (RS (SA TK Q (SA TK Q (TN (WN [2,4,6,7,8,9,38] Q Q ?_))))));refine TC _ Q (λh24=>?_) (λh24=>?_)
  ·replace hm:=JT h24 hm;refine TS (WT (WN [2,4,6,7,8,9] Q Q (TQ (TB (RS (SA TK Q (SA TK Q (SA TK Q (VE hm λe25 he25 hm=>SX Q Q (kF TK Q Q Q Q he25 Q) ?_)))))))));refine SX Q Q (qX TK Q Q Q Q he25.2 Q) (bZ 5 Q Q iH Q (cC 5 [none,none,none,none,none,some 3] Q Q (SA TK Q (TN (WN [2,4,6,7,8,9,10] Q Q (RS (SA TK Q (SA TK Q (bZ 6 Q Q aJ Q ?_)))))))));refine cC 6 [none,none,some 3] Q Q (SA TK Q (TN (WN [2,4,6,7,8,9,10,11] Q Q ?_)));refine aE hm (λ(c26,c27,c28)=>([]:Fr)) (λ(c26,c27,c28)=>([(6,.box 40 [.d (.int .i64 c26),.d (.int .i64 c27),.d (.sl 3 (c28.map Expr.encR))])]:List (Nat×Blk))) [] [2,4,6,7,8,9,10,11] Q (λz29 hm=>?_) (λj hm=>?_)
   ·refine RS (SA TK Q (SA TK Q (SA TK Q (TN (WN [2,4,6,7,8,9,10,11,50] Q Q ?_)))));refine TC _ Q (λh30=>?_) (λh30=>?_)
    ·replace hm:=JT h30 hm;refine TG (SA TK Q (SA TK Q (GE hm λg31 hm=>SX Q Q (aR Q Q Q Q g31) (SX Q Q (bF Q jD aJ Q Q Q Q) (uU 54 [none,none,some 3] Q (SA TK Q (TN (WT ?_))))))));exact⟨_,[0,1,2,3,4,5,6],(SJ hm),Q,(kB Q),Q⟩
    replace hm:=JF h30 hm;refine TS (WT ?_);exact⟨_,[0,1,2,3,4,5,6],(SJ hm),Q,(kB Q),Q⟩
   obtain⟨c26,c27,c28⟩:=j;refine WN [2,4,6,7,8,9,10,11] Q Q (TQ (bE follows  (DA [0,1,2,3,4,5,6] TK Q (BE hm λr32 hr32 hm=>DX [0,1,2,3,4,5,6] Q Q (RN Q Q (SC (.d _) SN) (oF hr32)) ?_))));iterate 3 (refine DA [0,1,2,3,4,5,6] TK Q ?_)
   refine BE hm λr33 hr33 hm=>DX [0,1,2,3,4,5,6] Q Q (RN Q Q (SC (.d _) (SC (.d _) SN)) (qP hr33)) (DA [0,1,2,3,4,5,6] TK Q (BE hm λr34 hr34 hm=>DX [0,1,2,3,4,5,6] Q Q (RN Q Q (SC (.d _) SN) (oF hr34)) (GE hm λg35 hm=>DX [0,1,2,3,4,5,6] Q Q (aR Q Q Q Q g35) (GE hm λg36 hm=>DX [0,1,2,3,4,5,6] Q Q (aR Q Q Q Q g36) ?_))));refine GE hm λg37 hm=>DX [0,1,2,3,4,5,6] Q Q (aR Q Q Q Q g37) (DA [0,1,2,3,4,5,6] TK Q ?_);refine DT ?_ (by kernel_rfl);refine TN (WN [2,4,6,7,8,9,10,11,66] Q Q ?_);refine TC _ Q (λh38=>?_) (λh38=>?_)
   ·replace hm:=JT h38 hm;refine RS (SX Q Q (bF Q jD aJ Q Q Q Q) (uU 67 [none,none,some 3] Q (SA TK Q (SA TK Q (TN (WN [4,5] Q Q (TR (WR (WB ?_)))))))));refine WR (IE hm λv39 hm hz=>?_);rw [hz23 _ hz] at hm;refine WR (WB (IE hm λv40 hm hz=>?_));rw [hz12 _ hz] at hm;refine WR ?_;obtain⟨rfl,rfl⟩:=Prod.mk.inj (Option.some.inj hm);exact⟨_,[0],.mk _ (.cons (.agg (TK.lay Q) Q Q Q Q) (.cons (.tmp 5) .nil)) Q,by decide,(kB Q),Q,Q⟩
   replace hm:=JF h38 hm;refine TS (WT (WN [2,4,6,7,8,9,10,11] Q Q (RS ?_)));iterate 4 (refine SA TK Q ?_)
   refine BE hm λr41 hr41 hm=>SX Q Q (RD Q Q Q (kS hr41)) (SA TK Q (TN (WN [2,4,6,7,8,9] Q Q (RS (SA TK Q (SA TK Q (BE hm λr42 hr42 hm=>SX Q Q (RN Q Q (SC (.d _) (SC (.d _) SN)) (kR hr42)) ?_)))))));refine SA TK Q (TN (WN [2,4,6,7,8,9,76] Q Q ?_));refine TC _ Q (λh43=>?_) (λh43=>?_)
   ·replace hm:=JA h43 hm;refine RS (SX Q Q (bF Q jD aJ Q Q Q Q) (uU 77 [none,none,some 3] Q (SA TK Q (SA TK Q (TN (WN [4,5] Q Q (TR (WB (WR ?_)))))))));refine IE hm λv44 hm hz=>?_;rw [hz23 _ hz] at hm;refine WR (WB (IE hm λv45 hm hz=>?_));rw [hz12 _ hz] at hm;refine WR ?_;obtain⟨rfl,rfl⟩:=Prod.mk.inj (Option.some.inj hm);exact⟨_,[0],.mk _ (.cons (.agg (TK.lay Q) Q Q Q Q) (.cons (.tmp 5) .nil)) Q,by decide,(kB Q),Q,Q⟩
   replace hm:=JB h43 hm;refine TS (WK (WT (WN [2,4,6,7,8,9] Q Q (TG (SA TK Q (GE hm λg46 hm=>SX Q Q (aR Q Q Q Q g46) (SA TK Q ?_)))))));refine TN (WT ?_);exact⟨_,[0,1,2,3,4],(SJ hm),Q,(kB Q),Q⟩
  replace hm:=JF h24 hm;refine aC (WX (IE hm λv47 hm hz=>?_));rw [hz23 _ hz] at hm;refine WX (WH (WT ?_));exact⟨_,[0,1,2,3,4],(SJ hm),Q,(kB Q),Q⟩
 obtain⟨c9,c10,c11⟩:=j;refine WN [4,8] Q Q (RS (SA TK Q (SA TK Q (SA TK Q (TN (WN [4,5] Q Q (TR ?_)))))));obtain⟨rfl,rfl⟩:=Prod.mk.inj (Option.some.inj hm);exact⟨_,[0],.mk _ (.cons (.agg (TK.lay Q) Q Q Q Q) (.cons (.tmp 5) .nil)) Q,by decide,(kB Q),Q,Q⟩
theorem lJ  {r:Bool} (hm:gY=some r):RetN Tryz.prog 10 [] (.bool (r)):=by
 refine .unit (aF qVM Tryz.func10 Q Tryz.ntmps10 Q Q (λwX gX=>?_)) Q;unfold gY at hm;refine WN [] Q Q (RS (SA TK Q (TN (WN [] Q Q (RS (BE hm λr1 hr1 hm=>SX Q Q (RD Q Q Q (qDQ hr1)) (BE hm λr2 hr2 hm=>?_)))))));obtain⟨r3,r4⟩:=r2;refine SX Q Q (dW Q Q Q (qAV hr2)) (SA TK Q (SA TK Q (SA TK Q (bZ 0 Q Q yO Q (cC 0 [some 14,some 1,some 1,none,none] Q Q (SA TK Q (SA TK Q (TN (WN [1] Q Q (RS (SA TK Q ?_)))))))))));refine BE hm λr5 hr5 hm=>?_;obtain⟨r6,r7⟩:=r5;refine SX Q Q (dW Q Q Q (qDP hr5)) ?_;iterate 5 (refine SA TK Q ?_)
 refine TN (WN [3,4] Q Q (RS (SX Q Q (cI [.const (Value.string ⟨#[97]⟩),.const (Value.string ⟨#[98]⟩)] TK Q Q jC Q Q Q Q Q) (BE hm λr8 hr8 hm=>SX Q Q (RD Q Q Q (pG hr8)) (SX Q Q (bF Q qIT iH Q Q Q Q) (rC (f:=Rung.enc) 1 [.tmp 22] ([(⟨(1:Int),(1:Int),(0:Int),r8⟩:Rung)]:List Rung) TK Q Q Q iH Q Q Q Q Q (SX Q Q (fI Q qMT vV Q Q Q Q) ?_)))))));refine bZ 2 Q Q vV Q (dP (f:=Rung.enc) 2 2 3 64 6 Q Q Q (cC 2 [some 1,none,none] Q Q (SA TK Q (TN (WN [3,4,5] Q Q (eB (bE follows  (DA [2] TK Q ?_))))))));refine BE hm λr9 hr9 hm=>DX [] Q Q (RD Q Q Q (pG hr9)) (BE hm λr10 hr10 hm=>?_);obtain⟨r11,r12⟩:=r10;refine DX [1] Q Q (aQ [1] ⟨Q,Q,λ_=>Q⟩ Q Q Q (by decide) Q (aH Q) Q Q (oC hr10)) ?_;iterate 3 (refine DA [] TK Q ?_)
 refine oT [4] _ (.mptr 4 0 0 0) Q (fS Q) Q (lG Q Q aJ Q Q) (qGK 1000002 [4] [(4,.box 40 [.d (.int .i64 r11.op),.d (.int .i64 r11.var),.d (.sl 3 (r11.args.map Expr.encR))])] (fS Q) Q (qZ TK Q Q Q Q Q Q Q Q Q Q) ?_);refine DT ?_ (by kernel_rfl);refine SA TK Q (TN (WN [3,4,5,6,7] Q Q (RS (SA TK Q (SA TK Q (VE hm λe13 he13 hm=>SX Q Q (kF TK Q Q Q Q he13 Q) (SA TK Q (tG (x':=(⟨(2:Int),e13.var,e13.preset,e13.expr⟩:Rung)) TK Q Q Q Q Q he13.2 Q Q Q ?_))))))));refine kV 32 (([(⟨(1:Int),(1:Int),(0:Int),r8⟩:Rung)]:List Rung).set (0:Int).toNat (⟨(2:Int),e13.var,e13.preset,e13.expr⟩:Rung)).length Q List.length_set.symm ?_;refine qVZ 2 [.d (.sl 1 (([(⟨#[97]⟩:ByteArray),(⟨#[98]⟩:ByteArray)]:List ByteArray).map D.str)),.d (.int .i64 (1:Int)),.msl 1 6 0 (([(⟨(1:Int),(1:Int),(0:Int),r8⟩:Rung)]:List Rung).set (0:Int).toNat (⟨(2:Int),e13.var,e13.preset,e13.expr⟩:Rung)).length] Q (by simp only [List.length_set]<;>rfl) ?_;refine TN (WN [3,4,5,6,7] Q Q (RS (SA TK Q (SA TK Q (VE hm λe14 he14 hm=>SX Q Q (kF TK Q Q Q Q he14 Q) (SA TK Q (tG (x':=(⟨e14.kind,e14.var,(2:Int),e14.expr⟩:Rung)) TK Q Q Q Q Q he14.2 Q Q Q (kV 36 ((([(⟨(1:Int),(1:Int),(0:Int),r8⟩:Rung)]:List Rung).set (0:Int).toNat (⟨(2:Int),e13.var,e13.preset,e13.expr⟩:Rung)).set (0:Int).toNat (⟨e14.kind,e14.var,(2:Int),e14.expr⟩:Rung)).length Q List.length_set.symm ?_))))))));refine qVZ 2 [.d (.sl 1 (([(⟨#[97]⟩:ByteArray),(⟨#[98]⟩:ByteArray)]:List ByteArray).map D.str)),.d (.int .i64 (1:Int)),.msl 1 6 0 ((([(⟨(1:Int),(1:Int),(0:Int),r8⟩:Rung)]:List Rung).set (0:Int).toNat (⟨(2:Int),e13.var,e13.preset,e13.expr⟩:Rung)).set (0:Int).toNat (⟨e14.kind,e14.var,(2:Int),e14.expr⟩:Rung)).length] Q (by simp only [List.length_set]<;>rfl) ?_;refine TN (WN [3,4,5,6,7] Q Q (eB (bE follows  (DA [2] TK Q (BE hm λr15 hr15 hm=>DX [] Q Q (RD Q Q Q (pG hr15)) (BE hm λr16 hr16 hm=>?_))))));obtain⟨r17,r18⟩:=r16;refine DX [1] Q Q (aQ [1] ⟨Q,Q,λ_=>Q⟩ Q Q Q (by decide) Q (aH Q) Q Q (oC hr16)) ?_;iterate 3 (refine DA [] TK Q ?_)
 refine oT [5] _ (.mptr 5 0 0 0) Q (fS Q) Q (lG Q Q aJ Q Q) (qGK 1000004 [5] [(5,.box 40 [.d (.int .i64 r17.op),.d (.int .i64 r17.var),.d (.sl 3 (r17.args.map Expr.encR))])] (fS Q) Q (qZ TK Q Q Q Q Q Q Q Q Q Q) ?_);refine DT ?_ (by kernel_rfl);refine SA TK Q (TN (WN [3,4,6,7,8,9] Q Q ?_));refine aE hm (λx19=>([(0,.d (.bool (x19)))]:Fr)) (λx19=>([]:List (Nat×Blk))) [0] [] Q (λz20 hm=>?_) (λx19 hm=>?_)
 ·refine bK follows  ?_;iterate 2 (refine DA [0,1,2,3,4,5] TK Q ?_)
  refine d_b [0,1,2,3,4,5] TK Q (λq21 hq21=>?_);cases q21
  ·replace hm:=JF hq21 hm;iterate 42 (refine DA [0,1,2,3,4,5] TK Q ?_)
   refine DT ?_ (by kernel_rfl);refine SA TK Q (TN (WT ?_));exact⟨_,[0,1,2,3,4,5],(SJ hm),Q,k0,Q⟩
  replace hm:=JT hq21 hm;refine DA [0,1,2,3,4,5] TK Q (DX [0,1,2,3,4,5] Q Q (aL TK Q Q Q) ?_);iterate 2 (refine DA [0,1,2,3,4,5] TK Q ?_)
  refine d_b [0,1,2,3,4,5] TK Q (λq22 hq22=>?_);cases q22
  ·replace hm:=JF hq22 hm;iterate 37 (refine DA [0,1,2,3,4,5] TK Q ?_)
   refine DT ?_ (by kernel_rfl);refine SA TK Q (TN (WT ?_));exact⟨_,[0,1,2,3,4,5],(SJ hm),Q,k0,Q⟩
  replace hm:=JT hq22 hm;refine DA [0,1,2,3,4,5] TK Q (VE hm λe23 he23 hm=>DX [0,1,2,3,4,5] Q Q (bC TK Q Q Q Q he23) ?_);iterate 4 (refine DA [0,1,2,3,4,5] TK Q ?_)
  refine d_b [0,1,2,3,4,5] TK Q (λq24 hq24=>?_);cases q24
  ·replace hm:=JF hq24 hm;iterate 30 (refine DA [0,1,2,3,4,5] TK Q ?_)
   refine DT ?_ (by kernel_rfl);refine SA TK Q (TN (WT ?_));exact⟨_,[0,1,2,3,4,5],(SJ hm),Q,k0,Q⟩
  replace hm:=JT hq24 hm;refine DA [0,1,2,3,4,5] TK Q (VE hm λe25 he25 hm=>DX [0,1,2,3,4,5] Q Q (bC TK Q Q Q Q he25) ?_);iterate 4 (refine DA [0,1,2,3,4,5] TK Q ?_)
  refine d_b [0,1,2,3,4,5] TK Q (λq26 hq26=>?_);cases q26
  ·replace hm:=JF hq26 hm;iterate 23 (refine DA [0,1,2,3,4,5] TK Q ?_)
   refine DT ?_ (by kernel_rfl);refine SA TK Q (TN (WT ?_));exact⟨_,[0,1,2,3,4,5],(SJ hm),Q,k0,Q⟩
  replace hm:=JT hq26 hm;iterate 3 (refine DA [0,1,2,3,4,5] TK Q ?_)
  refine d_b [0,1,2,3,4,5] TK Q (λq27 hq27=>?_);cases q27
  ·replace hm:=JF hq27 hm;iterate 19 (refine DA [0,1,2,3,4,5] TK Q ?_)
   refine DT ?_ (by kernel_rfl);refine SA TK Q (TN (WT ?_));exact⟨_,[0,1,2,3,4,5],(SJ hm),Q,k0,Q⟩
  replace hm:=JT hq27 hm;refine DA [0,1,2,3,4,5] TK Q (BE hm λr28 hr28 hm=>DX [0,1,2,3,4,5] Q Q (RD Q Q Q (pG hr28)) (BE hm λr29 hr29 hm=>DX [0,1,2,3,4,5] Q Q (RN Q Q (SC (.d _) (SC (.d _) SN)) (uX hr29)) (DA [0,1,2,3,4,5] TK Q (d_b [0,1,2,3,4,5] TK Q (λq30 hq30=>?_)))));cases q30
  ·replace hm:=JB hq30 hm;iterate 14 (refine DA [0,1,2,3,4,5] TK Q ?_)
   refine DT ?_ (by kernel_rfl);refine SA TK Q (TN (WT ?_));exact⟨_,[0,1,2,3,4,5],(SJ hm),Q,k0,Q⟩
  replace hm:=JA hq30 hm;iterate 3 (refine DA [0,1,2,3,4,5] TK Q ?_)
  refine d_b [0,1,2,3,4,5] TK Q (λq31 hq31=>?_);cases q31
  ·replace hm:=JF hq31 hm;iterate 10 (refine DA [0,1,2,3,4,5] TK Q ?_)
   refine DT ?_ (by kernel_rfl);refine SA TK Q (TN (WT ?_));exact⟨_,[0,1,2,3,4,5],(SJ hm),Q,k0,Q⟩
  replace hm:=JT hq31 hm;refine DA [0,1,2,3,4,5] TK Q (BE hm λr32 hr32 hm=>DX [0,1,2,3,4,5] Q Q (RD Q Q Q (pG hr32)) (BE hm λr33 hr33 hm=>DX [0,1,2,3,4,5] Q Q (RN Q Q (SC (.d _) (SC (.d _) SN)) (uX hr33)) (DA [0,1,2,3,4,5] TK Q (d_b [0,1,2,3,4,5] TK Q (λq34 hq34=>?_)))));cases q34
  ·replace hm:=JB hq34 hm;iterate 5 (refine DA [0,1,2,3,4,5] TK Q ?_)
   refine DT ?_ (by kernel_rfl);refine SA TK Q (TN (WT ?_));exact⟨_,[0,1,2,3,4,5],(SJ hm),Q,k0,Q⟩
  replace hm:=JA hq34 hm;refine DA [0,1,2,3,4,5] TK Q (DX [0,1,2,3,4,5] Q Q (bF Q qIU pN Q Q Q Q) (BE hm λr35 hr35 hm=>DX [0,1,2,3,4,5] Q Q (RN Q Q (SC (.d _) (SC (.d _) SN)) ((zK hr35).args ((.cons (.refl _) (.cons (.agg (.cons (.nil _) Q (.cons (.nil _) Q (.cons (.refl _) Q .nil)))) .nil))))) ?_));iterate 2 (refine DA [0,1,2,3,4,5] TK Q ?_)
  refine DT ?_ (by kernel_rfl);refine SA TK Q (TN (WT ?_));exact⟨_,[0,1,2,3,4,5],(SJ hm),Q,k0,Q⟩
 refine WN [0] Q Q (TR ?_);obtain rfl:=OJ hm;exact EndsS.one _ Q (.d _) (.refl _)
theorem qAR:∀ (fu:Nat) {p0:Expr} {r:Int} (hm:hJ fu p0=some r),RetN Tryz.prog 17 [p0.enc] (.int .i64 r):=by
 intro fu
 induction fu with
 | zero=>
  intro p0 r hm;unfold hJ at hm;cases hm
 | succ fu ih=>
  intro p0 r hm;refine .unit (aF qVI Tryz.func17 Q Tryz.ntmps17 Q Q (λwX gX=>?_)) Q;unfold hJ at hm;refine WN [0] Q Q (RS (bV 0 Q Q Q (SA TK Q (TN (WN [1] Q Q (RS (SA TK Q (TN ?_))))))));refine WN [1,3] Q Q ?_;refine aE hm (λn1=>([(3,.d (.int .i64 n1))]:Fr)) (λn1=>([]:List (Nat×Blk))) [3] [] Q (λz2 hm=>?_) (λn1 hm=>?_)
  ·refine RS (SA TK Q (TN (WN [1,3,4] Q Q (TB (aN hm (λ(n5,i6)=>([(3,.d (.int .i64 n5)),(4,.d (.int .i64 i6))]:Fr)) (λ(n5,i6)=>([]:List (Nat×Blk))) [3,4] [1] [0] Q k0 Q Q Q Q Q (λs z7 hm hz7=>?_))))));obtain⟨n5,i6⟩:=s;refine WN [1,3,4] Q Q (TQ (RS (SA TK Q (SA TK Q (SA TK Q (SX Q Q (aL TK Q Q Q) (SA TK Q (TN (WN [1,3,4,9] Q Q ?_)))))))));refine TC _ Q (λh8=>?_) (λh8=>?_)
   ·replace hm:=JT h8 hm;refine TS (WT (WN [1,3,4] Q Q (TQ (TB (TG ?_)))));iterate 4 (refine SA TK Q ?_)
    refine VE hm λe9 he9 hm=>SX Q Q (lU TK Q Q Q Q he9 (Expr.encR_eq _)) (SA TK Q (BE hm λr10 hr10 hm=>SX Q Q (RN Q Q (SC (.d _) SN) (ih hr10)) (GE hm λg11 hm=>SX Q Q (aR Q Q Q Q g11) (SA TK Q (TN ?_)))));refine WK (WT (WN [1,3,4] Q Q (TG (SA TK Q (GE hm λg12 hm=>SX Q Q (aR Q Q Q Q g12) (SA TK Q (TN ?_)))))));refine WT ?_;exact⟨_,[0],(SJ hm),Q,k0,Q⟩
   replace hm:=JF h8 hm;refine aC (WX (IE hm λv13 hm hz=>?_));rw [hz7 _ hz] at hm;refine WX (WH (WT ?_));exact⟨_,[0],(SJ hm),Q,k0,Q⟩
  refine WN [3] Q Q (RS (SA TK Q (SA TK Q (TN (WN [2] Q Q (TR ?_))))));obtain rfl:=OJ hm;exact EndsS.one _ Q (.d _) (.refl _)
theorem pT {p0:Expr} {r:Int} (hm:jT p0=some r):RetN Tryz.prog 17 [p0.enc] (.int .i64 r):=qAR cA hm
theorem zA:∀ (fu:Nat) {p0:Expr} {r:Int} (hm:gH fu p0=some r),RetN Tryz.prog 48 [p0.enc] (.int .i64 r):=by
 intro fu
 induction fu with
 | zero=>
  intro p0 r hm;unfold gH at hm;cases hm
 | succ fu ih=>
  intro p0 r hm;refine .unit (aF qUR Tryz.func48 Q Tryz.ntmps48 Q Q (λwX gX=>?_)) Q;unfold gH at hm;refine WN [0] Q Q (RS (bV 0 Q Q Q (SA TK Q (TN (WN [1] Q Q (RS (SA TK Q (TN ?_))))))));refine WN [1,3] Q Q ?_;refine aE hm (λd1=>([(3,.d (.int .i64 d1))]:Fr)) (λd1=>([]:List (Nat×Blk))) [3] [] Q (λz2 hm=>?_) (λd1 hm=>?_)
  ·refine RS (SA TK Q (TN (WN [1,3,4] Q Q (TB (aN hm (λ(d5,i6)=>([(3,.d (.int .i64 d5)),(4,.d (.int .i64 i6))]:Fr)) (λ(d5,i6)=>([]:List (Nat×Blk))) [3,4] [1] [0] Q k0 Q Q Q Q Q (λs z7 hm hz7=>?_))))));obtain⟨d5,i6⟩:=s;refine WN [1,3,4] Q Q (TQ (RS (SA TK Q (SA TK Q (SA TK Q (SX Q Q (aL TK Q Q Q) (SA TK Q (TN (WN [1,3,4,9] Q Q ?_)))))))));refine TC _ Q (λh8=>?_) (λh8=>?_)
   ·replace hm:=JT h8 hm;refine TS (WT (WN [1,3,4] Q Q (TQ (TB (TG ?_)))));iterate 4 (refine SA TK Q ?_)
    refine VE hm λe9 he9 hm=>SX Q Q (lU TK Q Q Q Q he9 (Expr.encR_eq _)) (SA TK Q (BE hm λr10 hr10 hm=>SX Q Q (RN Q Q (SC (.d _) SN) (ih hr10)) (SX Q Q (qMK Q Q Q Q) (SA TK Q (TN (WK ?_))))));refine WT (WN [1,3,4] Q Q (TG (SA TK Q (GE hm λg11 hm=>SX Q Q (aR Q Q Q Q g11) (SA TK Q (TN (WT ?_)))))));exact⟨_,[0],(SJ hm),Q,k0,Q⟩
   replace hm:=JF h8 hm;refine aC (WX (IE hm λv12 hm hz=>?_));rw [hz7 _ hz] at hm;refine WX (WH (WT ?_));exact⟨_,[0],(SJ hm),Q,k0,Q⟩
  refine WN [3] Q Q (RS (SA TK Q (GE hm λg13 hm=>SX Q Q (aR Q Q Q Q g13) (SA TK Q (TN (WN [2] Q Q (TR ?_)))))));obtain rfl:=OJ hm;exact EndsS.one _ Q (.d _) (.refl _)
theorem qAU {p0:Expr} {r:Int} (hm:nX p0=some r):RetN Tryz.prog 48 [p0.enc] (.int .i64 r):=zA cA hm
theorem qAQ:∀ (fu:Nat) {p0:Expr} {p1:Int} {r:Bool} (hm:gB fu p0 p1=some r),RetN Tryz.prog 49 [p0.enc,.int .i64 p1] (.bool (r)):=by
 intro fu
 induction fu with
 | zero=>
  intro p0 p1 r hm;unfold gB at hm;cases hm
 | succ fu ih=>
  intro p0 p1 r hm;refine .unit (aF qUQ Tryz.func49 Q Tryz.ntmps49 Q Q (λwX gX=>?_)) Q;unfold gB at hm;refine WN [0,1] Q Q (RS (bV 0 Q Q Q (SA TK Q (TN (WN [1,2] Q Q (RS (SA TK Q (SA TK Q (SX Q Q (aL TK Q Q Q) ?_)))))))));refine SA TK Q (TN (WN [1,2,5] Q Q ?_));refine bI hm (λ_=>([]:Fr)) (λ_=>([]:List (Nat×Blk))) [] [1,2,5] Q (λz1 hm hz1=>?_) (λj hm=>?_)
  ·refine RS (SA TK Q (SA TK Q (TN (WN [1,2,5,11] Q Q (TB ?_)))));refine aE hm (λx2=>([(12,.d (.bool (x2)))]:Fr)) (λx2=>([]:List (Nat×Blk))) [12] [1,2,5,11] Q (λz3 hm=>?_) (λx2 hm=>?_)
   ·refine RS (SA TK Q (SA TK Q (TN (WN [1,2,5,11,12] Q Q ?_))));refine TC _ Q (λh4=>?_) (λh4=>?_)
    ·replace hm:=JT h4 hm;refine TS (WT ?_);exact⟨_,[0],(SJ hm),Q,k0,Q⟩
    replace hm:=JF h4 hm;refine TG (SA TK Q (SA TK Q (TN (WT ?_))));exact⟨_,[0],(SJ hm),Q,k0,Q⟩
   refine WN [1,2,5,11,12] Q Q ?_;refine TC _ Q (λh5=>?_) (λh5=>?_)
   ·replace hm:=JA h5 hm;refine eE [(4,.d (.bool (((decide (p0.var=(0:Int)))&&(decide ((p0.args.length:Int)=(0:Int)))))))] [4] [] Q ?_ ?_
    ·refine TG (SA TK Q (SA TK Q (SA TK Q (SB TK Q (λq6 hq6=>?_)))));cases q6
     ·iterate 4 (refine SA TK Q ?_)
      refine TN (WT ?_);exact⟨[0],Q,k0,bB (aK (aM (by first|(simp [hq6];done)|(simp only [hq6];simp))) Q) Q⟩
     iterate 4 (refine SA TK Q ?_)
     refine TN (WT ?_);exact⟨[0],Q,k0,bB (aK (aM (by first|(simp [hq6];done)|(simp only [hq6];simp))) Q) Q⟩
    refine WN [4] Q Q (TR (WB (IE hm λv7 hm hz=>?_)));rw [hz1 _ hz] at hm;refine WR ?_;obtain rfl:=OJ hm;exact EndsS.one _ Q (.d _) (.refl _)
   replace hm:=JB h5 hm;refine RS (SA TK Q (SA TK Q (TN (WN [1,2,5,11,22] Q Q ?_))));refine TC _ Q (λh8=>?_) (λh8=>?_)
   ·replace hm:=JT h8 hm;refine eE [(4,.d (.bool (((decide ((0:Int)≤p0.var))&&((decide (p0.var < p1))&&(decide ((p0.args.length:Int)=(0:Int))))))))] [4] [] Q ?_ ?_
    ·refine TG (SA TK Q (SA TK Q (SA TK Q (SB TK Q (λq9 hq9=>?_)))));cases q9
     ·iterate 10 (refine SA TK Q ?_)
      refine TN (WT ?_);exact⟨[0],Q,k0,bB (aK (aM (by first|(simp [hq9];done)|(simp only [hq9];simp))) Q) Q⟩
     iterate 5 (refine SA TK Q ?_)
     refine SB TK Q (λq10 hq10=>?_);cases q10
     ·iterate 4 (refine SA TK Q ?_)
      refine TN (WT ?_);exact⟨[0],Q,k0,bB (aK (aM (by first|(simp [hq9,hq10];done)|(simp only [hq9,hq10];simp))) Q) Q⟩
     iterate 4 (refine SA TK Q ?_)
     refine TN (WT ?_);exact⟨[0],Q,k0,bB (aK (aM (by first|(simp [hq9,hq10];done)|(simp only [hq9,hq10];simp))) Q) Q⟩
    refine WN [4] Q Q (TR (WB (IE hm λv11 hm hz=>?_)));rw [hz1 _ hz] at hm;refine WR ?_;obtain rfl:=OJ hm;exact EndsS.one _ Q (.d _) (.refl _)
   replace hm:=JF h8 hm;refine RS (SA TK Q (SA TK Q (TN (WN [1,2,5,11,37] Q Q ?_))));refine TC _ Q (λh12=>?_) (λh12=>?_)
   ·replace hm:=JT h12 hm;refine RS (SA TK Q (SA TK Q (TN (WN [1,2,5,40] Q Q ?_))));refine TC _ Q (λh13=>?_) (λh13=>?_)
    ·replace hm:=eK h13 hm;refine RS (SA TK Q (TN (WN [4] Q Q (TR (WB (IE hm λv14 hm hz=>?_))))));rw [hz1 _ hz] at hm;refine WR ?_;obtain rfl:=OJ hm;exact EndsS.one _ Q (.d _) (.refl _)
    replace hm:=eL h13 hm;refine TS (WK (WT ?_));exact⟨_,[0],(SJ hm),Q,k0,Q⟩
   replace hm:=JF h12 hm;refine TQ (RS (SA TK Q (SA TK Q (TN (WN [1,2,5,11,41] Q Q ?_)))));refine TC _ Q (λh15=>?_) (λh15=>?_)
   ·replace hm:=JT h15 hm;refine TS (WT (WN [1,2,5,41] Q Q (qIK Q true h15 (TS (WK (WT ?_))))));exact⟨_,[0],(SJ hm),Q,k0,Q⟩
   replace hm:=JF h15 hm;refine TG (SA TK Q (SA TK Q (TN (WT (WN [1,2,5,41] Q Q ?_)))));refine TC _ Q (λh16=>?_) (λh16=>?_)
   ·replace hm:=JT h16 hm;refine TS (WK (WT ?_));exact⟨_,[0],(SJ hm),Q,k0,Q⟩
   replace hm:=JF h16 hm;refine RS (SA TK Q (TN (WN [4] Q Q (TR (WB (IE hm λv17 hm hz=>?_))))));rw [hz1 _ hz] at hm;refine WR ?_;obtain rfl:=OJ hm;exact EndsS.one _ Q (.d _) (.refl _)
  refine WN [1,2,5] Q Q ?_;refine bI hm (λ_=>([]:Fr)) (λ_=>([]:List (Nat×Blk))) [] [2] Q (λz18 hm hz18=>?_) (λj hm=>?_)
  ·refine RS (SA TK Q (TN (WN [1,2,5,6] Q Q (TB (aN hm (λi20=>([(6,.d (.int .i64 i20))]:Fr)) (λi20=>([]:List (Nat×Blk))) [6] [1,2,5] [0] Q k0 Q Q Q Q Q (λi20 z21 hm hz21=>WN [1,2,5,6] Q Q (TQ (RS ?_))))))));refine SA TK Q (SA TK Q (SA TK Q (TN (WN [1,2,5,6,46] Q Q ?_))));refine TC _ Q (λh22=>?_) (λh22=>?_)
   ·replace hm:=JT h22 hm;refine TS (WT (WN [1,2,5,6] Q Q (TQ (TB (RS (SA TK Q (SA TK Q (SA TK Q (VE hm λe23 he23 hm=>SX Q Q (lU TK Q Q Q Q he23 (Expr.encR_eq _)) ?_)))))))));refine SA TK Q (SA TK Q (BE hm λr24 hr24 hm=>SX Q Q (RN Q Q (SC (.d _) (SC (.d _) SN)) (ih hr24)) (SA TK Q (TN (WN [1,2,5,6,56] Q Q ?_)))));refine TC _ Q (λh25=>?_) (λh25=>?_)
    ·replace hm:=JA h25 hm;refine RS (SA TK Q (TN (WN [4] Q Q (TR (WB (WR (IE hm λv26 hm hz=>?_)))))));rw [hz21 _ hz] at hm;refine WR (WB (IE hm λv27 hm hz=>?_));rw [hz18 _ hz] at hm;refine WR ?_;obtain rfl:=OJ hm;exact EndsS.one _ Q (.d _) (.refl _)
    replace hm:=JB h25 hm;refine TS (WK (WT (WN [1,2,5,6] Q Q (TG (SA TK Q (GE hm λg28 hm=>SX Q Q (aR Q Q Q Q g28) (SA TK Q ?_)))))));refine TN (WT ?_);exact⟨_,[0],(SJ hm),Q,k0,Q⟩
   replace hm:=JF h22 hm;refine aC (WX (IE hm λv29 hm hz=>?_));rw [hz21 _ hz] at hm;refine WX (WH (WT ?_));exact⟨_,[0],(SJ hm),Q,k0,Q⟩
  refine WN [2] Q Q (RS ?_);iterate 4 (refine SA TK Q ?_)
  refine TN (WN [4] Q Q (TR ?_));obtain rfl:=OJ hm;exact EndsS.one _ Q (.d _) (.refl _)
theorem qCV {p0:Expr} {p1:Int} {r:Bool} (hm:pS p0 p1=some r):RetN Tryz.prog 49 [p0.enc,.int .i64 p1] (.bool (r)):=qAQ cA hm
theorem tJ {p0:Expr} {p1:Int} {r:Bool} (hm:kA p0 p1=some r):RetN Tryz.prog 15 [p0.enc,.int .i64 p1] (.bool (r)):=by
 refine .unit (aF qVK Tryz.func15 Q Tryz.ntmps15 Q Q (λwX gX=>?_)) Q;unfold kA at hm;refine WN [0,1] Q Q (RS (bV 0 Q Q Q (SA TK Q (TN (WN [1,2] Q Q ?_)))));refine aE hm (λx1=>([(4,.d (.bool (x1)))]:Fr)) (λx1=>([]:List (Nat×Blk))) [4] [] Q (λz2 hm=>?_) (λx1 hm=>?_)
 ·refine TG (SA TK Q (BE hm λr3 hr3 hm=>SX Q Q (RN Q Q (SC (.d _) SN) (pT hr3)) (SA TK Q (SB TK Q (λq4 hq4=>?_)))));cases q4
  ·replace hm:=JF hq4 hm;iterate 10 (refine SA TK Q ?_)
   refine TN (WT ?_);exact⟨_,[0],(SJ hm),Q,k0,Q⟩
  replace hm:=JT hq4 hm;refine SA TK Q (BE hm λr5 hr5 hm=>SX Q Q (RN Q Q (SC (.d _) SN) (qAU hr5)) (SA TK Q (SA TK Q (SB TK Q (λq6 hq6=>?_)))));cases q6
  ·replace hm:=JF hq6 hm;iterate 5 (refine SA TK Q ?_)
   refine TN (WT ?_);exact⟨_,[0],(SJ hm),Q,k0,Q⟩
  replace hm:=JT hq6 hm;refine SA TK Q (SA TK Q (BE hm λr7 hr7 hm=>SX Q Q (RN Q Q (SC (.d _) (SC (.d _) SN)) (qCV hr7)) (SA TK Q (SA TK Q (TN (WT ?_))))));exact⟨_,[0],(SJ hm),Q,k0,Q⟩
 refine WN [4] Q Q (TR ?_);obtain rfl:=OJ hm;exact EndsS.one _ Q (.d _) (.refl _)
theorem qAT:∀ (fu:Nat) {p0:Expr} {p1:(List Bool)} {r:Bool} (hm:fL fu p0 p1=some r),RetN Tryz.prog 16 [p0.enc,.sl 1 (p1.map D.bool)] (.bool (r)):=by
 intro fu
 induction fu with
 | zero=>
  intro p0 p1 r hm;unfold fL at hm;cases hm
 | succ fu ih=>
  intro p0 p1 r hm;refine .unit (aF qVJ Tryz.func16 Q Tryz.ntmps16 Q Q (λwX gX=>?_)) Q;unfold fL at hm;refine WN [0,1] Q Q (RS (bV 0 Q Q Q (SA TK Q (TN (WN [1,2] Q Q ?_)))));refine bI hm (λ_=>([]:Fr)) (λ_=>([]:List (Nat×Blk))) [] [] Q (λz1 hm hz1=>?_) (λj hm=>?_)
  ·refine RS (SA TK Q (SA TK Q (TN (WN [1,2,7] Q Q (TB (RS (SA TK Q (SA TK Q (TN (WN [1,2,7,8] Q Q ?_))))))))));refine TC _ Q (λh2=>?_) (λh2=>?_)
   ·replace hm:=JT h2 hm;refine RS (SA TK Q (TN (WN [4] Q Q (TR (WB (IE hm λv3 hm hz=>?_))))));rw [hz1 _ hz] at hm;refine WR ?_;obtain rfl:=OJ hm;exact EndsS.one _ Q (.d _) (.refl _)
   replace hm:=JF h2 hm;refine RS (SA TK Q (SA TK Q (TN (WN [1,2,7,10] Q Q ?_))));refine TC _ Q (λh4=>?_) (λh4=>?_)
   ·replace hm:=JT h4 hm;refine aE hm (λx5=>([(4,.d (.bool (x5)))]:Fr)) (λx5=>([]:List (Nat×Blk))) [4] [] Q (λz6 hm=>?_) (λx5 hm=>?_)
    ·refine TG (SA TK Q (SA TK Q (SA TK Q (SB TK Q (λq7 hq7=>?_)))));cases q7
     ·replace hm:=JF hq7 hm;iterate 14 (refine SA TK Q ?_)
      refine TN (WT ?_);exact⟨_,[0],(SJ hm),Q,k0,Q⟩
     replace hm:=JT hq7 hm;refine SA TK Q (SA TK Q (SA TK Q (SX Q Q (aL TK Q Q Q) (SA TK Q (SA TK Q (SB TK Q (λq8 hq8=>?_)))))));cases q8
     ·replace hm:=JF hq8 hm;iterate 7 (refine SA TK Q ?_)
      refine TN (WT ?_);exact⟨_,[0],(SJ hm),Q,k0,Q⟩
     replace hm:=JT hq8 hm;refine SA TK Q (SA TK Q (SA TK Q (VE hm λe9 he9 hm=>SX Q Q (bC TK Q Q Q Q he9) (SA TK Q (SA TK Q (SA TK Q (TN (WT ?_))))))));exact⟨_,[0],(SJ hm),Q,k0,Q⟩
    refine WN [4] Q Q (TR (WB (IE hm λv10 hm hz=>?_)));rw [hz1 _ hz] at hm;refine WR ?_;obtain rfl:=OJ hm;exact EndsS.one _ Q (.d _) (.refl _)
   replace hm:=JF h4 hm;refine RS (SA TK Q (SA TK Q (TN (WN [1,2,7,29] Q Q ?_))));refine TC _ Q (λh11=>?_) (λh11=>?_)
   ·replace hm:=JT h11 hm;refine aE hm (λx12=>([(4,.d (.bool (x12)))]:Fr)) (λx12=>([]:List (Nat×Blk))) [4] [] Q (λz13 hm=>?_) (λx12 hm=>?_)
    ·refine TG (SA TK Q (SA TK Q (SX Q Q (aL TK Q Q Q) (SA TK Q (SB TK Q (λq14 hq14=>?_))))));cases q14
     ·replace hm:=JF hq14 hm;iterate 9 (refine SA TK Q ?_)
      refine TN (WT ?_);exact⟨_,[0],(SJ hm),Q,k0,Q⟩
     replace hm:=JT hq14 hm;refine SA TK Q (SA TK Q (VE hm λe15 he15 hm=>SX Q Q (lU TK Q Q Q Q he15 (Expr.encR_eq _)) (SA TK Q (SA TK Q (BE hm λr16 hr16 hm=>SX Q Q (RN Q Q (SC (.d _) (SC (.d _) SN)) (ih hr16)) (SA TK Q (SA TK Q (SA TK Q (TN (WT ?_))))))))));exact⟨_,[0],(SJ hm),Q,k0,Q⟩
    refine WN [4] Q Q (TR (WB (IE hm λv17 hm hz=>?_)));rw [hz1 _ hz] at hm;refine WR ?_;obtain rfl:=OJ hm;exact EndsS.one _ Q (.d _) (.refl _)
   replace hm:=JF h11 hm;refine aE hm (λx18=>([(44,.d (.bool (x18)))]:Fr)) (λx18=>([]:List (Nat×Blk))) [44] [1,2] Q (λz19 hm=>?_) (λx18 hm=>?_)
   ·refine RS (SA TK Q (SA TK Q (TN (WN [1,2,7,44] Q Q ?_))));refine TC _ Q (λh20=>?_) (λh20=>?_)
    ·replace hm:=JT h20 hm;refine TS (WT ?_);exact⟨_,[0],(SJ hm),Q,k0,Q⟩
    replace hm:=JF h20 hm;refine TG (SA TK Q (SA TK Q (TN (WT ?_))));exact⟨_,[0],(SJ hm),Q,k0,Q⟩
   refine WN [1,2,44] Q Q ?_;refine TC _ Q (λh21=>?_) (λh21=>?_)
   ·replace hm:=JA h21 hm;refine bI hm (λ_=>([]:Fr)) (λ_=>([]:List (Nat×Blk))) [] [2] Q (λz22 hm hz22=>?_) (λj hm=>?_)
    ·refine RS (SA TK Q (TN (WN [1,2,5] Q Q (TB (aN hm (λi24=>([(5,.d (.int .i64 i24))]:Fr)) (λi24=>([]:List (Nat×Blk))) [5] [1,2] [0] Q k0 Q Q Q Q Q (λi24 z25 hm hz25=>WN [1,2,5] Q Q (TQ (RS ?_))))))));refine SA TK Q (SA TK Q (SA TK Q (SX Q Q (aL TK Q Q Q) (SA TK Q (TN (WN [1,2,5,51] Q Q ?_))))));refine TC _ Q (λh26=>?_) (λh26=>?_)
     ·replace hm:=JT h26 hm;refine TS (WT (WN [1,2,5] Q Q (TQ (TB (bE follows  ?_)))));iterate 3 (refine DA [0] TK Q ?_)
      refine VE hm λe27 he27 hm=>DX [0] Q Q (lU TK Q Q Q Q he27 (Expr.encR_eq _)) ?_;iterate 2 (refine DA [0] TK Q ?_)
      refine BE hm λr28 hr28 hm=>DX [0] Q Q (RN Q Q (SC (.d _) (SC (.d _) SN)) (ih hr28)) ?_;iterate 4 (refine DA [0] TK Q ?_)
      refine DT ?_ (by kernel_rfl);refine TN (WN [1,2,5,64] Q Q ?_);refine TC _ Q (λh29=>?_) (λh29=>?_)
      ·replace hm:=JA h29 hm;refine RS ?_;iterate 4 (refine SA TK Q ?_)
       refine TN (WN [4] Q Q (TR (WB (WR (IE hm λv30 hm hz=>?_)))));rw [hz25 _ hz] at hm;refine WR (WB (IE hm λv31 hm hz=>?_));rw [hz22 _ hz] at hm;refine WR (WB (IE hm λv32 hm hz=>?_));rw [hz1 _ hz] at hm;refine WR ?_;obtain rfl:=OJ hm;exact EndsS.one _ Q (.d _) (.refl _)
      replace hm:=JB h29 hm;refine TS (WK (WT (WN [1,2,5] Q Q (TG (SA TK Q (GE hm λg33 hm=>SX Q Q (aR Q Q Q Q g33) (SA TK Q ?_)))))));refine TN (WT ?_);exact⟨_,[0],(SJ hm),Q,k0,Q⟩
     replace hm:=JF h26 hm;refine aC (WX (IE hm λv34 hm hz=>?_));rw [hz25 _ hz] at hm;refine WX (WH (WT ?_));exact⟨_,[0],(SJ hm),Q,k0,Q⟩
    refine WN [2] Q Q (RS ?_);iterate 4 (refine SA TK Q ?_)
    refine TN (WN [4] Q Q (TR (WB (IE hm λv35 hm hz=>?_))));rw [hz1 _ hz] at hm;refine WR ?_;obtain rfl:=OJ hm;exact EndsS.one _ Q (.d _) (.refl _)
   replace hm:=JB h21 hm;refine TS (WK (WT ?_));exact⟨_,[0],(SJ hm),Q,k0,Q⟩
  refine WN [] Q Q (RS (SA TK Q (TN (WN [4] Q Q (TR ?_)))));obtain rfl:=OJ hm;exact EndsS.one _ Q (.d _) (.refl _)
theorem pU {p0:Expr} {p1:(List Bool)} {r:Bool} (hm:lA p0 p1=some r):RetN Tryz.prog 16 [p0.enc,.sl 1 (p1.map D.bool)] (.bool (r)):=qAT cA hm
theorem qBK {p0:Program} {p1:Expr} {r:Bool} (hm:lN p0 p1=some r):RetN Tryz.prog 20 [p0.enc,p1.enc] (.bool (r)):=by
 refine .unit (aF qVG Tryz.func20 Q Tryz.ntmps20 Q Q (λwX gX=>?_)) Q;unfold lN at hm;refine WN [0,1] Q Q (RS (bV 0 Q Q Q (bV 1 Q Q Q (SA TK Q (TN (WN [2,3] Q Q (RS (SA TK Q ?_))))))));refine BE hm λr1 hr1 hm=>SX Q Q (RN Q Q (SC (.d _) SN) (pT hr1)) (SA TK Q (TN (WN [2,5] Q Q ?_)));refine aE hm (λn2=>([(5,.d (.int .i64 n2))]:Fr)) (λn2=>([]:List (Nat×Blk))) [5] [2] Q (λz3 hm=>?_) (λn2 hm=>?_)
 ·refine RS (SA TK Q (SA TK Q (SX Q Q (aL TK Q Q Q) (SA TK Q (TN (WN [2,5,11,12,13] Q Q (TB (aN hm (λ(n6,x7)=>([(5,.d (.int .i64 n6)),(13,.d (.int .i64 x7))]:Fr)) (λ(n6,x7)=>([]:List (Nat×Blk))) [5,13] [2,11,12] [0,1] Q k0 Q Q Q Q Q (λs z8 hm hz8=>?_)))))))));obtain⟨n6,x7⟩:=s;refine WN [2,5,11,12,13] Q Q (RS (SA TK Q (TN (WN [2,5,11,12,13,14] Q Q (TQ ?_)))));refine TC _ Q (λh9=>?_) (λh9=>?_)
  ·replace hm:=JT h9 hm;refine TS (WT (WN [2,5,11,12,13] Q Q (TQ (TB (RS (VE hm λe10 he10 hm=>SX Q Q (bC TK Q Q Q Q he10) (SA TK Q ?_)))))));refine bZ 2 Q Q iH Q (cC 2 [none,none,none,none,none,some 3] Q Q (SA TK Q (TN (WN [2,5,7,11,12,13] Q Q (TG (SA TK Q (SA TK Q (SA TK Q (BE hm λr11 hr11 hm=>SX Q Q (RN Q Q (SC (.d _) SN) (pT hr11)) ?_)))))))));refine GE hm λg12 hm=>SX Q Q (aR Q Q Q Q g12) (SA TK Q (TN (WK (WT (WN [2,5,11,12,13] Q Q (TG (GE hm λg13 hm=>?_)))))));refine SX Q Q (aR Q Q Q Q g13) (SA TK Q (TN (WT ?_)));exact⟨_,[0,1],(SJ hm),Q,k0,Q⟩
  replace hm:=JF h9 hm;refine aC (WX (IE hm λv14 hm hz=>?_));rw [hz8 _ hz] at hm;refine WX (WH (WT ?_));exact⟨_,[0,1],(SJ hm),Q,k0,Q⟩
 refine WN [2,5] Q Q ?_;refine eE [(4,.d (.bool (((decide ((p0.names.length:Int)≤(2100:Int)))&&((decide ((p0.rungs.length:Int)≤(60:Int)))&&(decide (n2≤(2000:Int))))))))] [4] [] Q ?_ ?_
 ·refine TG (SA TK Q (SA TK Q (SX Q Q (aL TK Q Q Q) (SA TK Q (SB TK Q (λq15 hq15=>?_))))));cases q15
  ·iterate 10 (refine SA TK Q ?_)
   refine TN (WT ?_);exact⟨[0,1],Q,k0,bB (aK (aM (by first|(simp [hq15];done)|(simp only [hq15];simp))) Q) Q⟩
  refine SA TK Q (SA TK Q (SX Q Q (aL TK Q Q Q) (SA TK Q (SA TK Q (SB TK Q (λq16 hq16=>?_))))));cases q16
  ·iterate 4 (refine SA TK Q ?_)
   refine TN (WT ?_);exact⟨[0,1],Q,k0,bB (aK (aM (by first|(simp [hq15,hq16];done)|(simp only [hq15,hq16];simp))) Q) Q⟩
  iterate 4 (refine SA TK Q ?_)
  refine TN (WT ?_);exact⟨[0,1],Q,k0,bB (aK (aM (by first|(simp [hq15,hq16];done)|(simp only [hq15,hq16];simp))) Q) Q⟩
 refine WN [4] Q Q (TR ?_);obtain rfl:=OJ hm;exact EndsS.one _ Q (.d _) (.refl _)
theorem qCS {p0:Program} {p1:Rung} {r:Bool} (hm:mZ p0 p1=some r):RetN Tryz.prog 124 [p0.enc,p1.enc] (.bool (r)):=by
 refine .unit (aF qRG Tryz.func124 Q Tryz.ntmps124 Q Q (λwX gX=>?_)) Q;unfold mZ at hm;refine WN [0,1] Q Q (RS (bV 0 Q Q Q (bV 1 Q Q Q (SA TK Q (TN (WN [2,3] Q Q (TQ ?_)))))));refine eE [(27,.d (.bool ((bif !(decide (p1.kind=(1:Int))) then ((!(decide (p1.kind=(2:Int))))||((decide (p1.var < p0.inputs))||(decide ((p0.names.length:Int)≤p1.var)))) else ((decide (p1.var < p0.inputs))||(decide ((p0.names.length:Int)≤p1.var)))))))] [27] [2,3] Q ?_ ?_
 ·refine TG (SA TK Q (SA TK Q (SA TK Q (SB TK Q (λq1 hq1=>?_)))));cases q1
  ·iterate 11 (refine SA TK Q ?_)
   refine SB TK Q (λq2 hq2=>?_);cases q2
   ·iterate 4 (refine SA TK Q ?_)
    refine SX Q Q (aL TK Q Q Q) (SA TK Q (SA TK Q (TN (WT ?_))));exact⟨[0,1],Q,k0,bB (aK (aM (by first|(simp [hq1,hq2];done)|(simp only [hq1,hq2];simp))) Q) Q⟩
   iterate 7 (refine SA TK Q ?_)
   refine TN (WT ?_);exact⟨[0,1],Q,k0,bB (aK (aM (by first|(simp [hq1,hq2];done)|(simp only [hq1,hq2];simp))) Q) Q⟩
  iterate 4 (refine SA TK Q ?_)
  refine SB TK Q (λq3 hq3=>?_);cases q3
  ·iterate 6 (refine SA TK Q ?_)
   refine SB TK Q (λq4 hq4=>?_);cases q4
   ·iterate 4 (refine SA TK Q ?_)
    refine SX Q Q (aL TK Q Q Q) (SA TK Q (SA TK Q (TN (WT ?_))));exact⟨[0,1],Q,k0,bB (aK (aM (by first|(simp [hq1,hq3,hq4];done)|(simp only [hq1,hq3,hq4];simp))) Q) Q⟩
   iterate 7 (refine SA TK Q ?_)
   refine TN (WT ?_);exact⟨[0,1],Q,k0,bB (aK (aM (by first|(simp [hq1,hq3,hq4];done)|(simp only [hq1,hq3,hq4];simp))) Q) Q⟩
  iterate 14 (refine SA TK Q ?_)
  refine TN (WT ?_);exact⟨[0,1],Q,k0,bB (aK (aM (by first|(simp [hq1,hq3];done)|(simp only [hq1,hq3];simp))) Q) Q⟩
 refine WN [2,3,27] Q Q ?_;refine TC _ Q (λh5=>?_) (λh5=>?_)
 ·replace hm:=JA h5 hm;refine RS (SA TK Q (TN (WN [4] Q Q (TR (WR ?_)))));obtain rfl:=OJ hm;exact EndsS.one _ Q (.d _) (.refl _)
 replace hm:=JB h5 hm;refine TS (WT (WN [2,3] Q Q (TQ ?_)));refine eE [(50,.d (.bool ((bif decide (p1.kind=(1:Int)) then ((!(decide (p1.preset=(0:Int))))||((decide (p1.kind=(2:Int)))&&((decide (p1.preset < (1:Int)))||(decide ((1073741824:Int) < p1.preset))))) else ((decide (p1.kind=(2:Int)))&&((decide (p1.preset < (1:Int)))||(decide ((1073741824:Int) < p1.preset))))))))] [50] [2,3] Q ?_ ?_
 ·refine TG (SA TK Q (SA TK Q (SA TK Q (SB TK Q (λq6 hq6=>?_)))));cases q6
  ·iterate 8 (refine SA TK Q ?_)
   refine SB TK Q (λq7 hq7=>?_);cases q7
   ·iterate 10 (refine SA TK Q ?_)
    refine TN (WT ?_);exact⟨[0,1],Q,k0,bB (aK (aM (by first|(simp [hq6,hq7];done)|(simp only [hq6,hq7];simp))) Q) Q⟩
   refine SA TK Q (SA TK Q (SA TK Q (SB TK Q (λq8 hq8=>?_))));cases q8
   ·iterate 6 (refine SA TK Q ?_)
    refine TN (WT ?_);exact⟨[0,1],Q,k0,bB (aK (aM (by first|(simp [hq6,hq7,hq8];done)|(simp only [hq6,hq7,hq8];simp))) Q) Q⟩
   iterate 6 (refine SA TK Q ?_)
   refine TN (WT ?_);exact⟨[0,1],Q,k0,bB (aK (aM (by first|(simp [hq6,hq7,hq8];done)|(simp only [hq6,hq7,hq8];simp))) Q) Q⟩
  iterate 4 (refine SA TK Q ?_)
  refine SB TK Q (λq9 hq9=>?_);cases q9
  ·refine SA TK Q (SA TK Q (SA TK Q (SB TK Q (λq10 hq10=>?_))));cases q10
   ·iterate 10 (refine SA TK Q ?_)
    refine TN (WT ?_);exact⟨[0,1],Q,k0,bB (aK (aM (by first|(simp [hq6,hq9,hq10];done)|(simp only [hq6,hq9,hq10];simp))) Q) Q⟩
   refine SA TK Q (SA TK Q (SA TK Q (SB TK Q (λq11 hq11=>?_))));cases q11
   ·iterate 6 (refine SA TK Q ?_)
    refine TN (WT ?_);exact⟨[0,1],Q,k0,bB (aK (aM (by first|(simp [hq6,hq9,hq10,hq11];done)|(simp only [hq6,hq9,hq10,hq11];simp))) Q) Q⟩
   iterate 6 (refine SA TK Q ?_)
   refine TN (WT ?_);exact⟨[0,1],Q,k0,bB (aK (aM (by first|(simp [hq6,hq9,hq10,hq11];done)|(simp only [hq6,hq9,hq10,hq11];simp))) Q) Q⟩
  iterate 14 (refine SA TK Q ?_)
  refine TN (WT ?_);exact⟨[0,1],Q,k0,bB (aK (aM (by first|(simp [hq6,hq9];done)|(simp only [hq6,hq9];simp))) Q) Q⟩
 refine WN [2,3,50] Q Q ?_;refine TC _ Q (λh12=>?_) (λh12=>?_)
 ·replace hm:=JA h12 hm;refine RS (SA TK Q (TN (WN [4] Q Q (TR (WR ?_)))));obtain rfl:=OJ hm;exact EndsS.one _ Q (.d _) (.refl _)
 replace hm:=JB h12 hm;refine TS (WT (WN [2,3] Q Q (RS ?_)));iterate 4 (refine SA TK Q ?_)
 refine SX Q Q (aL TK Q Q Q) (BE hm λr13 hr13 hm=>SX Q Q (RN Q Q (SC (.d _) (SC (.d _) SN)) (tJ hr13)) (SA TK Q (TN (WN [4] Q Q (TR ?_)))));obtain rfl:=OJ hm;exact EndsS.one _ Q (.d _) (.refl _)
theorem tI {p0:Program} {r:Int} (hm:jZ p0=some r):RetN Tryz.prog 58 [p0.enc] (.int .i64 r):=by
 refine .unit (aF qUH Tryz.func58 Q Tryz.ntmps58 Q Q (λwX gX=>?_)) Q;unfold jZ at hm;refine WN [0] Q Q (RS (bV 0 Q Q Q (SA TK Q (TN (WN [1] Q Q (TQ (RS (SA TK Q (SA TK Q ?_)))))))));refine SX Q Q (aL TK Q Q Q) (SA TK Q (TN (WN [1,9] Q Q ?_)));refine TC _ Q (λh1=>?_) (λh1=>?_)
 ·replace hm:=JT h1 hm;refine RS (SA TK Q (TN (WN [2] Q Q (TR (WR ?_)))));obtain rfl:=OJ hm;exact EndsS.one _ Q (.d _) (.refl _)
 replace hm:=JF h1 hm;refine TS (WT (WN [1] Q Q (TQ ?_)));refine eE [(20,.d (.bool (((decide (p0.inputs < (0:Int)))||(decide ((p0.names.length:Int) < p0.inputs))))))] [20] [1] Q ?_ ?_
 ·refine TG (SA TK Q (SA TK Q (SA TK Q (SB TK Q (λq2 hq2=>?_)))));cases q2
  ·iterate 4 (refine SA TK Q ?_)
   refine SX Q Q (aL TK Q Q Q) (SA TK Q (SA TK Q (TN (WT ?_))));exact⟨[0],Q,k0,bB (aK (aM (by first|(simp [hq2];done)|(simp only [hq2];simp))) Q) Q⟩
  iterate 7 (refine SA TK Q ?_)
  refine TN (WT ?_);exact⟨[0],Q,k0,bB (aK (aM (by first|(simp [hq2];done)|(simp only [hq2];simp))) Q) Q⟩
 refine WN [1,20] Q Q ?_;refine TC _ Q (λh3=>?_) (λh3=>?_)
 ·replace hm:=JA h3 hm;refine RS (SA TK Q (TN (WN [2] Q Q (TR (WR ?_)))));obtain rfl:=OJ hm;exact EndsS.one _ Q (.d _) (.refl _)
 replace hm:=JB h3 hm;refine TS (WT (WN [1] Q Q ?_));refine bI hm (λ_=>([]:Fr)) (λ_=>([]:List (Nat×Blk))) [] [1] Q (λz4 hm hz4=>?_) (λj hm=>?_)
 ·refine RS (SA TK Q (TN (WN [1,3] Q Q (TB (aN hm (λi6=>([(3,.d (.int .i64 i6))]:Fr)) (λi6=>([]:List (Nat×Blk))) [3] [1] [0] Q k0 Q Q Q Q Q (λi6 z7 hm hz7=>WN [1,3] Q Q (TQ (RS ?_))))))));refine SA TK Q (SA TK Q (SA TK Q (SX Q Q (aL TK Q Q Q) (SA TK Q (TN (WN [1,3,25] Q Q ?_))))));refine TC _ Q (λh8=>?_) (λh8=>?_)
  ·replace hm:=JT h8 hm;refine TS (WT (WN [1,3] Q Q (TQ (TB (bE follows  ?_)))));iterate 4 (refine DA [0] TK Q ?_)
   refine VE hm λe9 he9 hm=>DX [0] Q Q (bC TK Q Q Q Q he9) (DA [0] TK Q (BE hm λr10 hr10 hm=>DX [0] Q Q (RN Q Q (SC (.d _) (SC (.d _) SN)) (qCS hr10)) (DA [0] TK Q ?_)));refine DT ?_ (by kernel_rfl);refine TN (WN [1,3,35] Q Q ?_);refine TC _ Q (λh11=>?_) (λh11=>?_)
   ·replace hm:=JA h11 hm;refine RS (SA TK Q (TN (WN [2] Q Q (TR (WB (WR (IE hm λv12 hm hz=>?_)))))));rw [hz7 _ hz] at hm;refine WR (WB (IE hm λv13 hm hz=>?_));rw [hz4 _ hz] at hm;refine WR ?_;obtain rfl:=OJ hm;exact EndsS.one _ Q (.d _) (.refl _)
   replace hm:=JB h11 hm;refine TS (WK (WT (WN [1,3] Q Q (TG (SA TK Q (GE hm λg14 hm=>SX Q Q (aR Q Q Q Q g14) (SA TK Q ?_)))))));refine TN (WT ?_);exact⟨_,[0],(SJ hm),Q,k0,Q⟩
  replace hm:=JF h8 hm;refine aC (WX (IE hm λv15 hm hz=>?_));rw [hz7 _ hz] at hm;refine WX (WH (WT ?_));exact⟨_,[0],(SJ hm),Q,k0,Q⟩
 refine WN [1] Q Q ?_;refine bI hm (λ_=>([]:Fr)) (λ_=>([]:List (Nat×Blk))) [] [] Q (λz16 hm hz16=>?_) (λj hm=>?_)
 ·refine RS (SA TK Q (TN (WN [1,4] Q Q (TB (aN hm (λi18=>([(4,.d (.int .i64 i18))]:Fr)) (λi18=>([]:List (Nat×Blk))) [4] [1] [0] Q k0 Q Q Q Q Q (λi18 z19 hm hz19=>WN [1,4] Q Q (TQ (RS ?_))))))));refine SA TK Q (SA TK Q (SA TK Q (SX Q Q (aL TK Q Q Q) (SA TK Q (TN (WN [1,4,40] Q Q ?_))))));refine TC _ Q (λh20=>?_) (λh20=>?_)
  ·replace hm:=JT h20 hm;refine TS (WT (WN [1,4] Q Q ?_));refine bI hm (λ_=>([]:Fr)) (λ_=>([]:List (Nat×Blk))) [] [1,4] Q (λz21 hm hz21=>?_) (λj hm=>?_)
   ·refine TB (RS (SA TK Q (TN (WN [1,4,5] Q Q (TB (aN hm (λk23=>([(5,.d (.int .i64 k23))]:Fr)) (λk23=>([]:List (Nat×Blk))) [5] [1,4] [0] Q k0 Q Q Q Q Q (λk23 z24 hm hz24=>WN [1,4,5] Q Q (TQ ?_))))))));refine RS (SA TK Q (SA TK Q (SA TK Q (TN (WN [1,4,5,45] Q Q ?_)))));refine TC _ Q (λh25=>?_) (λh25=>?_)
    ·replace hm:=JT h25 hm;refine TS (WT (WN [1,4,5] Q Q (TQ (TB (bE follows  ?_)))));iterate 3 (refine DA [0] TK Q ?_)
     refine VE hm λe26 he26 hm=>DX [0] Q Q (bC TK Q Q Q Q he26) ?_;iterate 5 (refine DA [0] TK Q ?_)
     refine VE hm λe27 he27 hm=>DX [0] Q Q (bC TK Q Q Q Q he27) ?_;iterate 3 (refine DA [0] TK Q ?_)
     refine DT ?_ (by kernel_rfl);refine TN (WN [1,4,5,60] Q Q ?_);refine TC _ Q (λh28=>?_) (λh28=>?_)
     ·replace hm:=JT h28 hm;refine RS (SA TK Q (TN (WN [2] Q Q (TR (WB (WR (IE hm λv29 hm hz=>?_)))))));rw [hz24 _ hz] at hm;refine WR (WB (WB (IE hm λv30 hm hz=>?_)));rw [hz21 _ hz] at hm;refine WR (IE hm λv31 hm hz=>?_);rw [hz19 _ hz] at hm;refine WR (WB (IE hm λv32 hm hz=>?_));rw [hz16 _ hz] at hm;refine WR ?_;obtain rfl:=OJ hm;exact EndsS.one _ Q (.d _) (.refl _)
     replace hm:=JF h28 hm;refine TS (WK (WT (WN [1,4,5] Q Q (TG (SA TK Q (GE hm λg33 hm=>SX Q Q (aR Q Q Q Q g33) (SA TK Q ?_)))))));refine TN (WT ?_);exact⟨_,[0],(SJ hm),Q,k0,Q⟩
    replace hm:=JF h25 hm;refine aC (WX (IE hm λv34 hm hz=>?_));rw [hz24 _ hz] at hm;refine WX (WH (WK (WT ?_)));exact⟨_,[0],(SJ hm),Q,k0,Q⟩
   refine WN [1,4] Q Q (TG (SA TK Q (GE hm λg35 hm=>SX Q Q (aR Q Q Q Q g35) (SA TK Q (TN (WT ?_))))));exact⟨_,[0],(SJ hm),Q,k0,Q⟩
  replace hm:=JF h20 hm;refine aC (WX (IE hm λv36 hm hz=>?_));rw [hz19 _ hz] at hm;refine WX (WH (WT ?_));exact⟨_,[0],(SJ hm),Q,k0,Q⟩
 refine WN [] Q Q (RS (SA TK Q (TN (WN [2] Q Q (TR ?_)))));obtain rfl:=OJ hm;exact EndsS.one _ Q (.d _) (.refl _)
theorem uW {p0:Program} {p1:Machine} {r:Bool} (hm:kZ p0 p1=some r):RetN Tryz.prog 24 [p0.enc,p1.enc] (.bool (r)):=by
 refine .unit (aF qVE Tryz.func24 Q Tryz.ntmps24 Q Q (λwX gX=>?_)) Q;unfold kZ at hm;refine WN [0,1] Q Q (RS (bV 0 Q Q Q (bV 1 Q Q Q (SA TK Q (TN (WN [2,3] Q Q (TQ ?_)))))));refine aE hm (λx1=>([(26,.d (.bool (x1)))]:Fr)) (λx1=>([]:List (Nat×Blk))) [26] [2,3] Q (λz2 hm=>?_) (λx1 hm=>?_)
 ·refine TG (SA TK Q (BE hm λr3 hr3 hm=>SX Q Q (RN Q Q (SC (.d _) SN) (tI hr3)) (SA TK Q (SB TK Q (λq4 hq4=>?_)))));cases q4
  ·replace hm:=eL hq4 hm;refine SA TK Q (SA TK Q (SX Q Q (aL TK Q Q Q) (SA TK Q (SA TK Q (SX Q Q (aL TK Q Q Q) (SA TK Q (SA TK Q (SB TK Q (λq5 hq5=>?_)))))))));cases q5
   ·replace hm:=eL hq5 hm;refine SA TK Q (SA TK Q (SX Q Q (aL TK Q Q Q) (SA TK Q (SA TK Q (SX Q Q (aL TK Q Q Q) (SA TK Q (SA TK Q (TN (WT ?_)))))))));exact⟨_,[0,1],(SJ hm),Q,k0,Q⟩
   replace hm:=eK hq5 hm;iterate 8 (refine SA TK Q ?_)
   refine TN (WT ?_);exact⟨_,[0,1],(SJ hm),Q,k0,Q⟩
  replace hm:=eK hq4 hm;iterate 17 (refine SA TK Q ?_)
  refine TN (WT ?_);exact⟨_,[0,1],(SJ hm),Q,k0,Q⟩
 refine WN [2,3,26] Q Q ?_;refine TC _ Q (λh6=>?_) (λh6=>?_)
 ·replace hm:=JA h6 hm;refine RS (SA TK Q (TN (WN [4] Q Q (TR (WR ?_)))));obtain rfl:=OJ hm;exact EndsS.one _ Q (.d _) (.refl _)
 replace hm:=JB h6 hm;refine TS (WT (WN [2,3] Q Q ?_));refine bI hm (λ_=>([]:Fr)) (λ_=>([]:List (Nat×Blk))) [] [] Q (λz7 hm hz7=>?_) (λj hm=>?_)
 ·refine RS (SA TK Q (TN (WN [2,3,5] Q Q (TB (aN hm (λi9=>([(5,.d (.int .i64 i9))]:Fr)) (λi9=>([]:List (Nat×Blk))) [5] [2,3] [0,1] Q k0 Q Q Q Q Q (λi9 z10 hm hz10=>WN [2,3,5] Q Q (TQ (RS ?_))))))));refine SA TK Q (SA TK Q (SA TK Q (SX Q Q (aL TK Q Q Q) (SA TK Q (TN (WN [2,3,5,31] Q Q ?_))))));refine TC _ Q (λh11=>?_) (λh11=>?_)
  ·replace hm:=JT h11 hm;refine TS (WT (WN [2,3,5] Q Q (TQ (TB ?_))));refine aE hm (λx12=>([(53,.d (.bool (x12)))]:Fr)) (λx12=>([]:List (Nat×Blk))) [53] [2,3,5] Q (λz13 hm=>?_) (λx12 hm=>?_)
   ·refine bK follows  ?_;iterate 3 (refine DA [0,1] TK Q ?_)
    refine VE hm λe14 he14 hm=>DX [0,1] Q Q (bC TK Q Q Q Q he14) ?_;iterate 2 (refine DA [0,1] TK Q ?_)
    refine d_b [0,1] TK Q (λq15 hq15=>?_);cases q15
    ·replace hm:=JF hq15 hm;iterate 3 (refine DA [0,1] TK Q ?_)
     refine VE hm λe16 he16 hm=>DX [0,1] Q Q (bC TK Q Q Q Q he16) ?_;iterate 4 (refine DA [0,1] TK Q ?_)
     refine VE hm λe17 he17 hm=>DX [0,1] Q Q (bC TK Q Q Q Q he17) ?_;iterate 4 (refine DA [0,1] TK Q ?_)
     refine DT ?_ (by kernel_rfl);refine TN (WT ?_);exact⟨_,[0,1],(SJ hm),Q,k0,Q⟩
    replace hm:=JT hq15 hm;iterate 13 (refine DA [0,1] TK Q ?_)
    refine DT ?_ (by kernel_rfl);refine TN (WT ?_);exact⟨_,[0,1],(SJ hm),Q,k0,Q⟩
   refine WN [2,3,5,53] Q Q ?_;refine TC _ Q (λh18=>?_) (λh18=>?_)
   ·replace hm:=JA h18 hm;refine RS (SA TK Q (TN (WN [4] Q Q (TR (WB (WR (IE hm λv19 hm hz=>?_)))))));rw [hz10 _ hz] at hm;refine WR (WB (IE hm λv20 hm hz=>?_));rw [hz7 _ hz] at hm;refine WR ?_;obtain rfl:=OJ hm;exact EndsS.one _ Q (.d _) (.refl _)
   replace hm:=JB h18 hm;refine TS (WK (WT (WN [2,3,5] Q Q (TG (SA TK Q (GE hm λg21 hm=>SX Q Q (aR Q Q Q Q g21) (SA TK Q ?_)))))));refine TN (WT ?_);exact⟨_,[0,1],(SJ hm),Q,k0,Q⟩
  replace hm:=JF h11 hm;refine aC (WX (IE hm λv22 hm hz=>?_));rw [hz10 _ hz] at hm;refine WX (WH (WT ?_));exact⟨_,[0,1],(SJ hm),Q,k0,Q⟩
 refine WN [] Q Q (RS (SA TK Q (TN (WN [4] Q Q (TR ?_)))));obtain rfl:=OJ hm;exact EndsS.one _ Q (.d _) (.refl _)
theorem qAP {p0:Program} {r:Machine} (hm:rF p0=some r):RetD Tryz.prog 29 [p0.enc] (r.enc):=by
 refine .of (mv:=λ_=>false) (aF qVB Tryz.func29 Q Tryz.ntmps29 Q Q (λwX gX=>?_));unfold rF at hm;refine WN [0] Q Q (RS (bV 0 Q Q Q (bZ 1 Q Q pN Q (cC 1 [some 1,some 1,none] Q Q (TN (WN [1,2] Q Q (TQ (RS ?_))))))));refine SA TK Q (BE hm λr1 hr1 hm=>SX Q Q (RN Q Q (SC (.d _) SN) (tI hr1)) (SA TK Q (TN (WN [1,2,5] Q Q ?_))));refine TC _ Q (λh2=>?_) (λh2=>?_)
 ·replace hm:=eK h2 hm;refine RS (SX Q Q (bF Q qIU pN Q Q Q Q) (uU 6 [some 1,some 1,none] Q (SA TK Q (TN (WN [2] Q Q (TR (WR ?_)))))));obtain rfl:=OJ hm;exact EndsS.cellR _ TK Q Q Q Q Q (.d _)
 replace hm:=eL h2 hm;refine TS (WT (WN [1,2] Q Q (bE follows  ?_)));iterate 2 (refine DA [0,1] TK Q ?_)
 refine DX [0,1] Q Q (aL TK Q Q Q) (GE hm λg3 hm=>DX [0,1] Q Q (qLN (f:=D.bool) (x:=false) TK Q Q qM Q Q Q Q Q g3 Q) ?_);iterate 2 (refine DA [0,1] TK Q ?_)
 refine DX [0,1] Q Q (aL TK Q Q Q) (GE hm λg4 hm=>DX [0,1] Q Q (qLN (f:=(D.int .i64)) (x:=(0:Int)) TK Q Q dK Q Q Q Q Q g4 Q) (DX [0,1] Q Q (bF Q qIU pN Q Q Q Q) ?_));refine DT ?_ (by kernel_rfl);refine SA TK Q (TN (WN [2] Q Q (TR ?_)));obtain rfl:=OJ hm;exact EndsS.cellR _ TK Q Q Q Q Q (.d _)
theorem qCU {p0:Program} {r:Machine} (hm:tW p0=some r):RetD Tryz.prog 62 [p0.enc] (r.enc):=by
 refine .of (mv:=λ_=>false) (aF qUG Tryz.func62 Q Tryz.ntmps62 Q Q (λwX gX=>?_));unfold tW at hm;refine WN [0] Q Q (RS (bV 0 Q Q Q (bZ 1 Q Q pN Q (cC 1 [some 1,some 1,none] Q Q (TN (WN [1,2] Q Q (RS (SA TK Q ?_))))))));refine BE hm λr1 hr1 hm=>SX Q Q (RD Q Q Q (qAP hr1)) (bZ 2 Q Q pN Q (cC 2 [some 1,some 1,none] Q Q (SA TK Q (TN (WN [2,3] Q Q (RS (SA TK Q (SA TK Q ?_))))))));refine TN (WN [2,3] Q Q (RS (SA TK Q (SA TK Q (TN (WN [2] Q Q (TR ?_)))))));obtain rfl:=OJ hm;exact EndsS.cellR _ TK Q Q Q Q Q (.d _)
theorem qCT {p0:Program} {p1:Machine} {p2:(List Bool)} {r:Machine} (hm:nA p0 p1 p2=some r):RetD Tryz.prog 25 [p0.enc,p1.enc,.sl 1 (p2.map D.bool)] (r.enc):=by
 refine .of (mv:=λ_=>false) (aF qVD Tryz.func25 Q Tryz.ntmps25 Q Q (λwX gX=>?_));unfold nA at hm;refine WN [0,1,2] Q Q (RS (bV 0 Q Q Q (bV 1 Q Q Q (bZ 2 Q Q pN Q (cC 2 [some 1,some 1,none] Q Q (TN (WN [2,3,4,6] Q Q (TQ ?_))))))));refine aE hm (λx1=>([(21,.d (.bool (x1)))]:Fr)) (λx1=>([]:List (Nat×Blk))) [21] [2,3,4,6] Q (λz2 hm=>?_) (λx1 hm=>?_)
 ·refine TG (SA TK Q (SA TK Q (BE hm λr3 hr3 hm=>SX Q Q (RN Q Q (SC (.d _) (SC (.d _) SN)) (uW hr3)) (SA TK Q (SB TK Q (λq4 hq4=>?_))))));cases q4
  ·replace hm:=JB hq4 hm;refine SA TK Q (SA TK Q (SA TK Q (TN (WT ?_))));exact⟨_,[0,1,2],(SJ hm),Q,k0,Q⟩
  replace hm:=JA hq4 hm;refine SA TK Q (SA TK Q (SA TK Q (TN (WT ?_))));exact⟨_,[0,1,2],(SJ hm),Q,k0,Q⟩
 refine WN [2,3,4,6,21] Q Q ?_;refine TC _ Q (λh5=>?_) (λh5=>?_)
 ·replace hm:=JA h5 hm;refine RS (SA TK Q (BE hm λr6 hr6 hm=>SX Q Q (RD Q Q Q (qCU hr6)) (SA TK Q (TN (WN [6] Q Q (TR (WR ?_)))))));obtain rfl:=OJ hm;exact EndsS.cellR _ TK Q Q Q Q Q (.d _)
 replace hm:=JB h5 hm;refine TS (WT (WN [2,3,4,6] Q Q (RS (rC (f:=D.bool) 3 [] ([]:List Bool) TK Q Q Q qM Q Q Q Q Q (SA TK Q (SA TK Q (GE hm λg7 hm=>cX (f:=D.bool) p1.vars TK Q Q qM Q Q Q Q Q (λh=>absurd h (zQV _)) Q cP g7 Q Q (SA TK Q ?_))))))));refine TN (WN [2,3,4,6,7] Q Q (RS (rC (f:=(D.int .i64)) 4 [] ([]:List Int) TK Q Q Q dK Q Q Q Q Q (SA TK Q (SA TK Q (GE hm λg8 hm=>cX (f:=(D.int .i64)) p1.counts TK Q Q dK Q Q Q Q Q (λh=>absurd h (zQV _)) Q cP g8 Q Q (SA TK Q (TN ?_))))))));refine WN [2,3,6,7,8] Q Q ?_;refine aE hm (λb9=>([(7,.msl 3 1 0 b9.length)]:Fr)) (λb9=>([(3,.flat 4 1 (b9.map D.bool))]:List (Nat×Blk))) [7] [3,6,8] Q (λz10 hm=>?_) (λb9 hm=>?_)
 ·refine RS (SA TK Q (TN (WN [2,3,6,7,8,9] Q Q (TB (aN hm (λ(i14,b15)=>([(7,.msl 3 1 0 b15.length),(9,.d (.int .i64 i14))]:Fr)) (λ(i14,b15)=>([(3,.flat 4 1 (b15.map D.bool))]:List (Nat×Blk))) [7,9] [2,3,6,8] [0,1,2,3,4] Q k0 Q Q Q Q Q (λs z16 hm hz16=>?_))))));obtain⟨i14,b15⟩:=s;refine WN [2,3,6,7,8,9] Q Q (TQ (RS ?_));iterate 4 (refine SA TK Q ?_)
  refine TN (WN [2,3,6,7,8,9,35] Q Q ?_);refine TC _ Q (λh17=>?_) (λh17=>?_)
  ·replace hm:=JT h17 hm;refine TS (WT (WN [2,3,6,7,8,9] Q Q (TQ (TB (TG ?_)))));iterate 4 (refine SA TK Q ?_)
   refine SX Q Q (aL TK Q Q Q) (SA TK Q (SB TK Q (λq18 hq18=>?_)));cases q18
   ·replace hm:=JF hq18 hm;iterate 5 (refine SA TK Q ?_)
    refine VE hm λe19 he19 hm=>SX Q Q (kF TK Q Q Q Q he19 Q) (tG (x':=false) TK Q Q Q Q Q he19.2 Q Q Q (kV 7 (b15.set i14.toNat false).length Q List.length_set.symm (kV 38 (b15.set i14.toNat false).length Q List.length_set.symm (TN (WK (WT (WN [2,3,6,7,8,9] Q Q ?_)))))));refine TG (SA TK Q (GE hm λg20 hm=>SX Q Q (aR Q Q Q Q g20) (SA TK Q (TN (WT ?_)))));exact⟨_,[0,1,2,3,4],(SJ hm),Q,k0,Q⟩
   replace hm:=JT hq18 hm;refine SA TK Q (SA TK Q (VE hm λe21 he21 hm=>SX Q Q (bC TK Q Q Q Q he21) (SA TK Q (SA TK Q (VE hm λe22 he22 hm=>SX Q Q (kF TK Q Q Q Q he22 Q) (tG (x':=e21) TK Q Q Q Q Q he22.2 Q Q Q (kV 7 (b15.set i14.toNat e21).length Q List.length_set.symm (kV 38 (b15.set i14.toNat e21).length Q List.length_set.symm ?_))))))));refine TN (WK (WT (WN [2,3,6,7,8,9] Q Q (TG (SA TK Q (GE hm λg23 hm=>SX Q Q (aR Q Q Q Q g23) (SA TK Q ?_)))))));refine TN (WT ?_);exact⟨_,[0,1,2,3,4],(SJ hm),Q,k0,Q⟩
  replace hm:=JF h17 hm;refine aC (WX (IE hm λv24 hm hz=>?_));rw [hz16 _ hz] at hm;refine WX (WH (WT ?_));exact⟨_,[0,1,2,3,4],(SJ hm),Q,k0,Q⟩
 refine WN [3,6,7,8] Q Q ?_;refine aE hm (λ(b25,b26)=>([(7,.msl 3 1 0 b25.length),(8,.msl 4 1 0 b26.length)]:Fr)) (λ(b25,b26)=>([(3,.flat 4 1 (b25.map D.bool)),(4,.flat 3 1 (b26.map (D.int .i64)))]:List (Nat×Blk))) [7,8] [6] Q (λz27 hm=>?_) (λj hm=>?_)
 ·refine RS (SA TK Q (TN (WN [3,6,7,8,10] Q Q (TB (aN hm (λ(i32,b33,b34)=>([(7,.msl 3 1 0 b33.length),(8,.msl 4 1 0 b34.length),(10,.d (.int .i64 i32))]:Fr)) (λ(i32,b33,b34)=>([(3,.flat 4 1 (b33.map D.bool)),(4,.flat 3 1 (b34.map (D.int .i64)))]:List (Nat×Blk))) [7,8,10] [3,6] [0,1,2,3,4] Q k0 Q Q Q Q Q (λs z35 hm hz35=>?_))))));obtain⟨i32,b33,b34⟩:=s;refine WN [3,6,7,8,10] Q Q (TQ (RS (SA TK Q (SA TK Q (SA TK Q (SX Q Q (aL TK Q Q Q) (SA TK Q (TN (WN [3,6,7,8,10,55] Q Q ?_)))))))));refine TC _ Q (λh36=>?_) (λh36=>?_)
  ·replace hm:=JT h36 hm;refine TS (WT (WN [3,6,7,8,10] Q Q (TQ (TB (RS (SA TK Q (SA TK Q (SA TK Q (VE hm λe37 he37 hm=>SX Q Q (bC TK Q Q Q Q he37) ?_)))))))));refine SA TK Q (bZ 5 Q Q iH Q (cC 5 [none,none,none,none,none,some 3] Q Q (SA TK Q (TN (WN [3,6,7,8,10,11] Q Q (RS (SA TK Q (SA TK Q (SA TK Q (BE hm λr38 hr38 hm=>?_))))))))));refine SX Q Q (RN Q Q (SC (.d _) (SC (bG Q) SN)) (pU hr38)) (SA TK Q (TN (WN [3,6,7,8,10,11,12] Q Q ?_)));refine aE hm (λ(value39,b40)=>([(8,.msl 4 1 0 b40.length),(12,.d (.bool (value39)))]:Fr)) (λ(value39,b40)=>([(4,.flat 3 1 (b40.map (D.int .i64)))]:List (Nat×Blk))) [8,12] [3,6,7,10,11] Q (λz41 hm=>?_) (λj hm=>?_)
   ·refine RS (SA TK Q (SA TK Q (SA TK Q (TN (WN [3,6,7,8,10,11,12,69] Q Q ?_)))));refine TC _ Q (λh42=>?_) (λh42=>?_)
    ·replace hm:=JT h42 hm;refine RS (SA TK Q (TN (WN [3,6,7,8,10,11,12,13] Q Q ?_)));refine aE hm (λn43=>([(13,.d (.int .i64 n43))]:Fr)) (λn43=>([]:List (Nat×Blk))) [13] [3,6,7,8,10,11] Q (λz44 hm=>?_) (λn43 hm=>?_)
     ·refine RS (SA TK Q (TN (WN [3,6,7,8,10,11,13,70] Q Q ?_)));refine TC _ Q (λh45=>?_) (λh45=>?_)
      ·replace hm:=JA h45 hm;refine bK follows  ?_;iterate 2 (refine DA [0,1,2,3,4,5] TK Q ?_)
       refine VE hm λe46 he46 hm=>DX [0,1,2,3,4,5] Q Q (kF TK Q Q Q Q he46 Q) (DX [0,1,2,3,4,5] Q Q (qX TK Q Q Q Q he46.2 Q) (GE hm λg47 hm=>DX [0,1,2,3,4,5] Q Q (aR Q Q Q Q g47) ?_));iterate 2 (refine DA [0,1,2,3,4,5] TK Q ?_)
       refine DX [0,1,2,3,4,5] Q Q (qMJ Q Q Q Q) ?_;refine DT ?_ (by kernel_rfl);refine SA TK Q (TN (WT ?_));exact⟨_,[0,1,2,3,4,5],(SJ hm),Q,k0,Q⟩
      replace hm:=JB h45 hm;refine TS (WT ?_);exact⟨_,[0,1,2,3,4,5],(SJ hm),Q,k0,Q⟩
     refine WN [3,6,7,8,10,11,13] Q Q (RS (SA TK Q (SA TK Q (SA TK Q (VE hm λe48 he48 hm=>SX Q Q (kF TK Q Q Q Q he48 Q) (tG (x':=n43) TK Q Q Q Q Q he48.2 Q Q Q (kV 8 (b34.set i32.toNat n43).length Q List.length_set.symm (kV 79 (b34.set i32.toNat n43).length Q List.length_set.symm (TN ?_)))))))));refine WN [3,6,7,8,10,11,13] Q Q (TG ?_);iterate 5 (refine SA TK Q ?_)
     refine TN (WT ?_);exact⟨_,[0,1,2,3,4,5],(SJ hm),Q,k0,Q⟩
    replace hm:=JF h42 hm;refine TS (WT ?_);exact⟨_,[0,1,2,3,4,5],(SJ hm),Q,k0,Q⟩
   obtain⟨value39,b40⟩:=j;refine WN [3,6,7,8,10,11,12] Q Q (TG ?_);iterate 4 (refine SA TK Q ?_)
   refine VE hm λe49 he49 hm=>SX Q Q (kF TK Q Q Q Q he49 Q) (tG (x':=value39) TK Q Q Q Q Q he49.2 Q Q Q (kV 7 (b33.set e37.var.toNat value39).length Q List.length_set.symm (kV 87 (b33.set e37.var.toNat value39).length Q List.length_set.symm (TN (WK (WT (WN [3,6,7,8,10] Q Q ?_)))))));refine TG (SA TK Q (GE hm λg50 hm=>SX Q Q (aR Q Q Q Q g50) (SA TK Q (TN (WT ?_)))));exact⟨_,[0,1,2,3,4],(SJ hm),Q,k0,Q⟩
  replace hm:=JF h36 hm;refine aC (WX (IE hm λv51 hm hz=>?_));rw [hz35 _ hz] at hm;refine WX (WH (WT ?_));exact⟨_,[0,1,2,3,4],(SJ hm),Q,k0,Q⟩
 obtain⟨b25,b26⟩:=j;refine WN [6,7,8] Q Q (RS (SA TK Q (SA TK Q (SX Q Q (fI Q qIU pN Q Q Q Q) (SA TK Q (TN (WN [6] Q Q (TR ?_))))))));obtain rfl:=OJ hm;exact EndsS.cellR _ TK Q Q Q Q Q (eF (.cons (bG Q) Q (.cons (bG Q) Q (.cons (.d _) Q .nil))))
theorem qJ {p0:Program} {p1:Expr} {p2:Moment} {r:Bool} (hm:gE p0 p1 p2=some r):Ret Tryz.prog 6 [] (λ_=>false) ([p0.enc,p1.enc,p2.enc].map .d) (.d (.bool (r))) []:=by
 refine aF callB6 Tryz.func6 Q Tryz.ntmps6 Q Q (λwX gX=>?_);unfold gE at hm;refine WN [0,1,2] Q Q (RS (bV 0 Q Q Q (bV 1 Q Q Q (bV 2 Q Q Q (SA TK Q (TN (WN [3,4,5] Q Q (TQ ?_))))))));refine aE hm (λx1=>([(35,.d (.bool (x1)))]:Fr)) (λx1=>([]:List (Nat×Blk))) [35] [3,4,5] Q (λz2 hm=>?_) (λx1 hm=>?_)
 ·refine TG (SA TK Q (SA TK Q (BE hm λr3 hr3 hm=>SX Q Q (RN Q Q (SC (.d _) (SC (.d _) SN)) (qBK hr3)) (SA TK Q (SB TK Q (λq4 hq4=>?_))))));cases q4
  ·replace hm:=JB hq4 hm;refine SA TK Q (SA TK Q (SX Q Q (aL TK Q Q Q) (SA TK Q (SA TK Q (SB TK Q (λq5 hq5=>?_))))));cases q5
   ·replace hm:=JF hq5 hm;iterate 4 (refine SA TK Q ?_)
    refine SB TK Q (λq6 hq6=>?_);cases q6
    ·replace hm:=JB hq6 hm;refine SA TK Q (SA TK Q (SA TK Q (BE hm λr7 hr7 hm=>SX Q Q (RN Q Q (SC (.d _) (SC (.d _) SN)) (uW hr7)) (SA TK Q (SA TK Q (TN (WT ?_)))))));exact⟨_,[0,1,2],(SJ hm),Q,k0,Q⟩
    replace hm:=JA hq6 hm;iterate 6 (refine SA TK Q ?_)
    refine TN (WT ?_);exact⟨_,[0,1,2],(SJ hm),Q,k0,Q⟩
   replace hm:=JT hq5 hm;iterate 11 (refine SA TK Q ?_)
   refine TN (WT ?_);exact⟨_,[0,1,2],(SJ hm),Q,k0,Q⟩
  replace hm:=JA hq4 hm;iterate 17 (refine SA TK Q ?_)
  refine TN (WT ?_);exact⟨_,[0,1,2],(SJ hm),Q,k0,Q⟩
 refine WN [3,4,5,35] Q Q ?_;refine TC _ Q (λh8=>?_) (λh8=>?_)
 ·replace hm:=JA h8 hm;refine RS (BE hm λr9 hr9 hm=>SX Q Q (RN Q Q SN (lJ hr9)) (SA TK Q (TN (WN [6] Q Q (TR (WR ?_))))));obtain rfl:=OJ hm;exact EndsS.one _ Q (.d _) (.refl _)
 replace hm:=JB h8 hm;refine TS (WT (WN [3,4,5] Q Q (RS (SA TK Q (SA TK Q (BE hm λr10 hr10 hm=>?_))))));obtain⟨r11,r12⟩:=r10;refine SX Q Q (dW Q Q Q (xT hr10)) (SA TK Q (SA TK Q (SA TK Q (bZ 3 Q Q aJ Q (cC 3 [none,none,some 3] Q Q (SA TK Q (SA TK Q (TN (WN [3,4,5,7,8] Q Q (TQ (RS ?_)))))))))));refine SA TK Q (SA TK Q (TN (WN [3,4,5,7,8,44] Q Q ?_)));refine TC _ Q (λh13=>?_) (λh13=>?_)
 ·replace hm:=eK h13 hm;refine aE hm (λx14=>([(6,.d (.bool (x14)))]:Fr)) (λx14=>([]:List (Nat×Blk))) [6] [] Q (λz15 hm=>?_) (λx14 hm=>?_)
  ·refine TG (SA TK Q (SA TK Q (SB TK Q (λq16 hq16=>?_))));cases q16
   ·replace hm:=JF hq16 hm;refine SA TK Q (SA TK Q (SA TK Q (SX Q Q (aL TK Q Q Q) (BE hm λr17 hr17 hm=>SX Q Q (RN Q Q (SC (.d _) (SC (.d _) SN)) (tJ hr17)) (SA TK Q (SA TK Q (SB TK Q (λq18 hq18=>?_))))))));cases q18
    ·replace hm:=JB hq18 hm;refine SA TK Q (SA TK Q (SA TK Q (TN (WT ?_))));exact⟨_,[0,1,2,3],(SJ hm),Q,k0,Q⟩
    replace hm:=JA hq18 hm;refine BE hm λr19 hr19 hm=>SX Q Q (RN Q Q SN (lJ hr19)) (SA TK Q (SA TK Q (TN (WT ?_))));exact⟨_,[0,1,2,3],(SJ hm),Q,k0,Q⟩
   replace hm:=JT hq16 hm;iterate 8 (refine SA TK Q ?_)
   refine BE hm λr20 hr20 hm=>SX Q Q (RN Q Q SN (lJ hr20)) (SA TK Q (SA TK Q (TN (WT ?_))));exact⟨_,[0,1,2,3],(SJ hm),Q,k0,Q⟩
  refine WN [6] Q Q (TR (WR ?_));obtain rfl:=OJ hm;exact EndsS.one _ Q (.d _) (.refl _)
 replace hm:=eL h13 hm;refine TS (WT (WN [3,4,5,7] Q Q (RS ?_)));iterate 5 (refine SA TK Q ?_)
 refine BE hm λr21 hr21 hm=>SX Q Q (RD Q Q Q (qCT hr21)) (bZ 4 Q Q pN Q (cC 4 [some 1,some 1,none] Q Q (SA TK Q (TN (WN [3,4,5,7,9] Q Q (RS (rC (f:=D.bool) 5 [] ([]:List Bool) TK Q Q Q qM Q Q Q Q Q ?_)))))));refine SA TK Q (SA TK Q (SA TK Q (GE hm λg22 hm=>cX (f:=D.bool) p2.machine.vars TK Q Q qM Q Q Q Q Q (λh=>absurd h (zQV _)) Q cP g22 Q Q (SA TK Q (TN (WN [3,4,5,7,9,10] Q Q ?_))))));refine aE hm (λb23=>([(10,.msl 5 1 0 b23.length)]:Fr)) (λb23=>([(5,.flat 4 1 (b23.map D.bool))]:List (Nat×Blk))) [10] [3,4,7,9] Q (λz24 hm=>?_) (λb23 hm=>?_)
 ·refine RS (SA TK Q (TN (WN [3,4,5,7,9,10,11] Q Q (TB (aN hm (λ(i28,b29)=>([(10,.msl 5 1 0 b29.length),(11,.d (.int .i64 i28))]:Fr)) (λ(i28,b29)=>([(5,.flat 4 1 (b29.map D.bool))]:List (Nat×Blk))) [10,11] [3,4,5,7,9] [0,1,2,3,4,5] Q k0 Q Q Q Q Q (λs z30 hm hz30=>?_))))));obtain⟨i28,b29⟩:=s;refine WN [3,4,5,7,9,10,11] Q Q (TQ (RS ?_));iterate 4 (refine SA TK Q ?_)
  refine TN (WN [3,4,5,7,9,10,11,72] Q Q ?_);refine TC _ Q (λh31=>?_) (λh31=>?_)
  ·replace hm:=JT h31 hm;refine TS (WT (WN [3,4,5,7,9,10,11] Q Q (TQ (TB (TG ?_)))));iterate 5 (refine SA TK Q ?_)
   refine SX Q Q (aL TK Q Q Q) (SA TK Q (SB TK Q (λq32 hq32=>?_)));cases q32
   ·replace hm:=JF hq32 hm;iterate 6 (refine SA TK Q ?_)
    refine VE hm λe33 he33 hm=>SX Q Q (kF TK Q Q Q Q he33 Q) (tG (x':=false) TK Q Q Q Q Q he33.2 Q Q Q (kV 10 (b29.set i28.toNat false).length Q List.length_set.symm (kV 75 (b29.set i28.toNat false).length Q List.length_set.symm (TN (WK (WT (WN [3,4,5,7,9,10,11] Q Q ?_)))))));refine TG (SA TK Q (GE hm λg34 hm=>SX Q Q (aR Q Q Q Q g34) (SA TK Q (TN (WT ?_)))));exact⟨_,[0,1,2,3,4,5],(SJ hm),Q,k0,Q⟩
   replace hm:=JT hq32 hm;refine SA TK Q (SA TK Q (SA TK Q (VE hm λe35 he35 hm=>SX Q Q (bC TK Q Q Q Q he35) (SA TK Q (SA TK Q (VE hm λe36 he36 hm=>SX Q Q (kF TK Q Q Q Q he36 Q) (tG (x':=e35) TK Q Q Q Q Q he36.2 Q Q Q (kV 10 (b29.set i28.toNat e35).length Q List.length_set.symm (kV 75 (b29.set i28.toNat e35).length Q List.length_set.symm ?_)))))))));refine TN (WK (WT (WN [3,4,5,7,9,10,11] Q Q (TG (SA TK Q (GE hm λg37 hm=>SX Q Q (aR Q Q Q Q g37) (SA TK Q ?_)))))));refine TN (WT ?_);exact⟨_,[0,1,2,3,4,5],(SJ hm),Q,k0,Q⟩
  replace hm:=JF h31 hm;refine aC (WX (IE hm λv38 hm hz=>?_));rw [hz30 _ hz] at hm;refine WX (WH (WT ?_));exact⟨_,[0,1,2,3,4,5],(SJ hm),Q,k0,Q⟩
 refine WN [3,4,7,9,10] Q Q ?_;refine aE hm (λb39=>([(10,.msl 5 1 0 b39.length)]:Fr)) (λb39=>([(5,.flat 4 1 (b39.map D.bool))]:List (Nat×Blk))) [10] [4,7,9] Q (λz40 hm=>?_) (λb39 hm=>?_)
 ·refine RS (SA TK Q (SA TK Q (SX Q Q (aL TK Q Q Q) (SA TK Q (TN (WN [4,7,9,10,91,92,93] Q Q (TB (aN hm (λ(x44,b45)=>([(10,.msl 5 1 0 b45.length),(93,.d (.int .i64 x44))]:Fr)) (λ(x44,b45)=>([(5,.flat 4 1 (b45.map D.bool))]:List (Nat×Blk))) [10,93] [4,7,9,91,92] [0,1,2,3,4,5] Q k0 Q Q Q Q Q (λs z46 hm hz46=>?_)))))))));obtain⟨x44,b45⟩:=s;refine WN [4,7,9,10,91,92,93] Q Q (RS (SA TK Q (TN (WN [4,7,9,10,91,92,93,94] Q Q (TQ ?_)))));refine TC _ Q (λh47=>?_) (λh47=>?_)
  ·replace hm:=JT h47 hm;refine TS (WT (WN [4,7,9,10,91,92,93] Q Q (TQ (TB (RS (SA TK Q (VE hm λe48 he48 hm=>SX Q Q (bC TK Q Q Q Q he48) ?_)))))));refine SA TK Q (bZ 6 Q Q iH Q (cC 6 [none,none,none,none,none,some 3] Q Q (SA TK Q (SA TK Q (TN (WN [4,7,9,10,12,13,91,92,93] Q Q (bK follows  ?_)))))));iterate 4 (refine DA [0,1,2,3,4,5,6] TK Q ?_)
   refine d_b [0,1,2,3,4,5,6] TK Q (λq49 hq49=>?_);cases q49
   ·replace hm:=JF hq49 hm;iterate 9 (refine DA [0,1,2,3,4,5,6] TK Q ?_)
    refine DX [0,1,2,3,4,5,6] Q Q (cI [.tmp 111] TK Q Q qM Q Q Q Q Q) ?_;refine DT ?_ (by kernel_rfl);refine GE hm λg50 hm=>cX (f:=D.bool) ([false]:List Bool) TK Q Q qM Q Q Q Q Q (λh=>absurd h (zQV _)) Q cP g50 Q Q (SA TK Q (TN (WK (WT (WN [4,7,9,10,91,92,93] Q Q (TG (GE hm λg51 hm=>?_)))))));refine SX Q Q (aR Q Q Q Q g51) (SA TK Q (TN (WT ?_)));exact⟨_,[0,1,2,3,4,5],(SJ hm),Q,k0,Q⟩
   replace hm:=JT hq49 hm;iterate 3 (refine DA [0,1,2,3,4,5,6] TK Q ?_)
   refine VE hm λe52 he52 hm=>DX [0,1,2,3,4,5,6] Q Q (bC TK Q Q Q Q he52) ?_;iterate 5 (refine DA [0,1,2,3,4,5,6] TK Q ?_)
   refine DX [0,1,2,3,4,5,6] Q Q (cI [.tmp 111] TK Q Q qM Q Q Q Q Q) ?_;refine DT ?_ (by kernel_rfl);refine GE hm λg53 hm=>cX (f:=D.bool) ([decide (e52=e48.preset)]:List Bool) TK Q Q qM Q Q Q Q Q (λh=>absurd h (zQV _)) Q cP g53 Q Q (SA TK Q (TN (WK (WT (WN [4,7,9,10,91,92,93] Q Q (TG (GE hm λg54 hm=>?_)))))));refine SX Q Q (aR Q Q Q Q g54) (SA TK Q (TN (WT ?_)));exact⟨_,[0,1,2,3,4,5],(SJ hm),Q,k0,Q⟩
  replace hm:=JF h47 hm;refine aC (WX (IE hm λv55 hm hz=>?_));rw [hz46 _ hz] at hm;refine WX (WH (WT ?_));exact⟨_,[0,1,2,3,4,5],(SJ hm),Q,k0,Q⟩
 refine WN [4,7,9,10] Q Q ?_;refine aE hm (λx56=>([(6,.d (.bool (x56)))]:Fr)) (λx56=>([]:List (Nat×Blk))) [6] [] Q (λz57 hm=>?_) (λx56 hm=>?_)
 ·refine bK follows  ?_;iterate 2 (refine DA [0,1,2,3,4,5] TK Q ?_)
  refine BE hm λr58 hr58 hm=>DX [0,1,2,3,4,5] Q Q (RN Q Q (SC (.d _) (SC (bG Q) SN)) (pU hr58)) ?_;iterate 3 (refine DA [0,1,2,3,4,5] TK Q ?_)
  refine BE hm λr59 hr59 hm=>DX [0,1,2,3,4,5] Q Q (RN Q Q (SC (.d _) (SC (.d _) SN)) (pU hr59)) (DA [0,1,2,3,4,5] TK Q (d_b [0,1,2,3,4,5] TK Q (λq60 hq60=>?_)));cases q60
  ·replace hm:=JB hq60 hm;iterate 2 (refine DA [0,1,2,3,4,5] TK Q ?_)
   refine DT ?_ (by kernel_rfl);refine SA TK Q (TN (WT ?_));exact⟨_,[0,1,2,3,4,5],(SJ hm),Q,k0,Q⟩
  replace hm:=JA hq60 hm;refine BE hm λr61 hr61 hm=>DX [0,1,2,3,4,5] Q Q (RN Q Q SN (lJ hr61)) (DA [0,1,2,3,4,5] TK Q ?_);refine DT ?_ (by kernel_rfl);refine SA TK Q (TN (WT ?_));exact⟨_,[0,1,2,3,4,5],(SJ hm),Q,k0,Q⟩
 refine WN [6] Q Q (TR ?_);obtain rfl:=OJ hm;exact EndsS.one _ Q (.d _) (.refl _)
structure RouteState where
 state:Int
 rel:Int
 timer:Int
deriving DecidableEq,Inhabited
def RouteState.ok (x:RouteState):Prop:=I64 x.state∧I64 x.rel∧I64 x.timer
instance (x:RouteState):Decidable (RouteState.ok x):=by unfold RouteState.ok;infer_instance
structure Inter where
 routes:(List RouteState)
 lies:(List Int)
deriving DecidableEq,Inhabited
section chk
variable {t:Table}
end chk
theorem len_ok {n:Nat} (h:n≤reachBytes):n≤140737488351232:=h
theorem qE {α:Type} (l:List α) (P:α→Bool):(l.any λi=>!P i)=!l.all P:=by simp [List.not_all_eq_any_not]
structure Short (r:Route):Prop where
 secs:r.sections.length+r.overSections.length≤2000000
 points:r.points.length≤2000000
 over:r.overPoints.length≤2000000
 flank:r.flank.length≤2000000
structure TOk (t:Table):Prop where
 routes:t.routes.length≤2000000
 points:t.points.length≤2000000
 each:∀ r∈t.routes,Short r
end Go.Proofs.YtldaknhjmhlefaaGreatDoor
set_option linter.unusedVariables false
set_option linter.unusedSimpArgs false
set_option maxHeartbeats 400000
set_option maxRecDepth 100000
namespace Go.Proofs.YtldaknhjmhlefaaGreatDoor
open Go Go.TL
theorem qBZ {α:Type} {l:List α}:l.Nodup↔∀ a c,a < c→c < l.length→l[a]?≠l[c]?:=by
 unfold List.Nodup;rw [List.pairwise_iff_getElem];constructor
 ·intro h a c hac hc he;rw [zQR hc,zQR (show a < l.length by omega)] at he;exact h a c (by omega) hc hac (Option.some.inj he)
 intro h a c ha hc hac he;refine h a c hac hc ?_;rw [zQR hc,zQR ha,he]
theorem Expr.eta (e:Expr):(⟨e.op,e.var,e.args⟩:Expr)=e:=by cases e;rfl
def opB (v:List Bool) (op x:Int) (bs:List Bool):Bool:=
 if op=3 then decide (0≤x)&&v.getD x.toNat false
 else if op=4 then (match bs with|[]=>false|b :: _=>!b)
 else if op=5 then bs.all id
 else if op=6 then bs.any id
 else decide (op=2)
mutual
def evE (v:List Bool):Expr→Bool
 | ⟨op,x,l⟩=>opB v op x (evL v l)
def evL (v:List Bool):List Expr→List Bool
 | []=>[]
 | e :: r=>evE v e :: evL v r
end
mutual
def dpE:Expr→Nat
 | ⟨_,_,l⟩=>dpL l+1
def dpL:List Expr→Nat
 | []=>0
 | e :: r=>max (dpE e) (dpL r)
end
mutual
def szE:Expr→Nat
 | ⟨_,_,l⟩=>szL l+1
def szL:List Expr→Nat
 | []=>0
 | e :: r=>szE e+szL r
end
abbrev qHS:Nat:=9223372036854775807
mutual
def okE:Expr→Prop
 | ⟨_,_,l⟩=>l.length≤qHS∧okL l
def okL:List Expr→Prop
 | []=>True
 | e :: r=>okE e∧okL r
end
theorem qJH (v:List Bool):∀ l,evL v l=l.map (evE v)
 | []=>by simp [evL]
 | e :: r=>by simp [evL,qJH v r]
theorem uN (v:List Bool) (e:Expr):evE v e=opB v e.op e.var (e.args.map (evE v)):=by
 cases e with
 | mk a b c=>rw [evE,qJH]
theorem dpL_le {d:Nat}:∀ {l:List Expr},dpL l≤d↔∀ e∈l,dpE e≤d
 | []=>by simp [dpL]
 | e :: r=>by rw [dpL,Nat.max_le,dpL_le (l:=r)];simp
theorem hZ (e:Expr):dpE e=dpL e.args+1:=by
 cases e with
 | mk a b c=>rw [dpE]
theorem qCL:∀ l:List Expr,szL l=(l.map szE).sum
 | []=>by simp [szL]
 | e :: r=>by simp [szL,qCL r]
theorem kH (e:Expr):szE e=szL e.args+1:=by
 cases e with
 | mk a b c=>rw [szE]
theorem xZ (a b:List Expr):szL (a++b)=szL a+szL b:=by simp [qCL]
theorem qIW:∀ {l:List Expr},okL l↔∀ e∈l,okE e
 | []=>by simp [okL]
 | e :: r=>by rw [okL,qIW (l:=r)];simp
theorem okE_iff {e:Expr}:okE e↔e.args.length≤qHS∧∀ x∈e.args,okE x:=by
 cases e with
 | mk a b c=>rw [okE,qIW]
theorem qKR {e:Expr} (h:Expr.Wf e):okE e:=by
 induction h with
 | mk x h0 h1 h2 g2 ih=>
  rw [okE_iff];exact⟨by have:=len_ok h2;unfold qHS;omega,ih⟩
def gT (n:Int) (op x:Int) (k:Nat):Bool:=
 if op=1∨op=2 then decide (x=0∧k=0)
 else if op=3 then decide (0≤x∧x < n∧k=0)
 else if op=4 then decide (k=1∧x=0)
 else if op=5∨op=6 then decide (x=0)
 else false
mutual
def dQ (n:Int):Expr→Bool
 | ⟨op,x,l⟩=>gT n op x l.length&&kX n l
def kX (n:Int):List Expr→Bool
 | []=>true
 | e :: r=>dQ n e&&kX n r
end
theorem wO {n:Int}:∀ {l:List Expr},kX n l=true↔∀ e∈l,dQ n e=true
 | []=>by simp [kX]
 | e :: r=>by rw [kX,zQA,wO (l:=r)];simp
theorem goodE_iff {n:Int} {e:Expr}:dQ n e=true↔gT n e.op e.var e.args.length=true∧∀ x∈e.args,dQ n x=true:=by
 cases e with
 | mk a b c=>rw [dQ,zQA,wO]
def kE (n:Int) (d left:Int) (e:Expr):Prop:=dQ n e=true∧d+(dpE e:Int)≤13∧(szE e:Int)≤left
instance (n d left:Int) (e:Expr):Decidable (kE n d left e):=by unfold kE;infer_instance
theorem qIZ {σ ρ:Type} {f:σ→Option (σ ⊕ ρ)} (P:ρ→Prop) (I:Nat→σ→Prop) {s:σ} (n:Nat) (hn:n≤qHS) (h0:I 0 s) (hs:∀ i,i < n→∀ s,I i s→(∃ s',f s=some (.inl s')∧I (i+1) s')∨(∃ o,f s=some (.inr o)∧P o)) (he:∀ s,I n s→∃ o,f s=some (.inr o)∧P o):∃ o,aT f s=some o∧P o:=by
 suffices h:∀ k i s,i+k=n→I i s→∃ o,kW f (k+1) s=some o∧P o by
  obtain⟨o,h1,h2⟩:=h n 0 s (by omega) h0;exact⟨o,rY h1 (by unfold cA qHS at *; omega),h2⟩
 intro k
 induction k with
 | zero=>
  intro i s hi hI;obtain⟨o,h1,h2⟩:=he s (by rw [show n=i by omega];exact hI);exact⟨o,by simp [kW,h1],h2⟩
 | succ k ih=>
  intro i s hi hI;rcases hs i (by omega) s hI with ⟨s',h1,h2⟩|⟨o,h1,h2⟩
  ·obtain ⟨o, h3, h4⟩ := ih (i + 1) s' (by omega) h2;exact⟨o,by rw [kW,h1];exact h3,h4⟩
  exact⟨o,by rw [kW,h1],h2⟩
theorem yQ (n:Int):∀ (fu:Nat) (e:Expr) (d left:Int),14≤(fu:Int)+d→0 < fu→1≤d→d≤13→0≤left→left≤1000000→okE e→∃ k,fM fu e n d left=some (decide (kE n d left e),k)∧0≤k∧k≤left∧(kE n d left e→k=left - (szE e:Int))
 | 0,e,d,left,hfu,hp,_,_,_,_,_=>by omega
 | fu+1,e,d,left,hfu,hp,hd1,hd13,h0,hm,ho=>by
  obtain⟨hl,hox⟩:=okE_iff.1 ho;have hdp:=hZ e;have hsz:=kH e;have hgd:=goodE_iff (n:=n) (e:=e);unfold fM;by_cases hx:12 < d∨left=0
  ·rw [if_pos (by simpa using hx)];have hno:¬ kE n d left e:=by unfold kE;omega
   exact⟨left,by rw [decide_eq_false hno],h0,by omega,λh=>absurd h hno⟩
  rw [if_neg (by simpa using hx), aZ (by unfold I64; omega)]
  have args (hform : gT n e.op e.var e.args.length = true ↔ e.var = 0) (hform2 : 0 < e.args.length → 0 < fu) : ∃ k, (if e.var = (0 : Int) then
    cU (
     aT (fun ((x27 : Int), (c28 : Int)) =>
      if x27 < (e.args.length : Int) then
       aU e.args x27 fun e31 =>
       aB (I64 (d + (1 : Int))) <|
       aA ((fM fu) e31 n (d + (1 : Int)) c28) fun (r34, r35) =>
       if (!(r34)) = true then
        aI (
         aI (
          some (false, r35)))
       else
        aB (I64 (x27 + (1 : Int))) <|
        some (.inl ((x27 + (1 : Int)), r35))
      else
       aI (
        some (.inl c28))) ((0 : Int), (left - (1 : Int)))) fun c22 =>
    some (true, c22)
   else
    some (false, (left - (1 : Int)))) = some (decide (kE n d left e), k) ∧ 0 ≤ k ∧ k ≤ left ∧ (kE n d left e → k = left - (szE e : Int)) := by
   by_cases hv:e.var=0
   ·rw [if_pos hv]
    have hval:kE n d left e↔(∀ x∈e.args,dQ n x=true)∧(∀ x∈e.args,d+1+(dpE x:Int)≤13)∧(szL e.args:Int)≤left - 1:=by
     unfold kE;rw [hgd,hform,hdp,hsz]
     have hdl:d+((dpL e.args+1:Nat):Int)≤13↔∀ x∈e.args,d+1+(dpE x:Int)≤13:=by
      have h1:=dpL_le (l:=e.args) (d:=(12 - d).toNat);constructor
      ·intro h x hx;have:=h1.1 (by omega) x hx;omega
      intro h;have:=h1.2 (λx hx=>by have:=h x hx;omega);omega
     rw [hdl];constructor
     ·rintro⟨⟨_,a⟩,b,c⟩;exact⟨a,b,by omega⟩
     rintro⟨a,b,c⟩;exact⟨⟨hv,a⟩,b,by omega⟩
    obtain ⟨o, ho1, ho2⟩ := qIZ (f := fun ((x27 : Int), (c28 : Int)) =>
      if x27 < (e.args.length : Int) then
       aU e.args x27 fun e31 =>
       aB (I64 (d + (1 : Int))) <|
       aA ((fM fu) e31 n (d + (1 : Int)) c28) fun (r34, r35) =>
       if (!(r34)) = true then
        aI (
         aI (
          some (false, r35)))
       else
        aB (I64 (x27 + (1 : Int))) <|
        some (.inl ((x27 + (1 : Int)), r35))
      else
       aI (
        some (.inl c28))) (s := ((0 : Int), left - 1))
     (fun (o : Int ⊕ (Bool × Int)) => match o with
      | .inl c => kE n d left e ∧ c = left - (szE e : Int)
      | .inr r => ¬ kE n d left e ∧ r.1 = false ∧ 0 ≤ r.2 ∧ r.2 ≤ left)
     (fun i s => s.1 = (i : Int) ∧ s.2 = left - 1 - (szL (e.args.take i) : Int) ∧ 0 ≤ s.2 ∧ ∀ x ∈ e.args.take i, kE n (d + 1) 1000000 x ∧ dQ n x = true ∧ d + 1 + (dpE x : Int) ≤ 13) e.args.length hl ⟨rfl, by simp [szL], by show 0 ≤ left - 1; omega, by simp⟩ (fun i hi s hI => by
      obtain ⟨x27, c28⟩ := s;obtain ⟨h1, h2, h3, h4⟩ := hI;dsimp only at h1 h2 h3;subst h1;have hxi := zQR hi;have hmem := List.getElem_mem hi;dsimp only;rw [if_pos (by omega), eC hxi, aZ (by unfold I64; omega)];obtain ⟨k, hk1, hk2, hk3, hk4⟩ := yQ n fu e.args[i] (d + 1) c28 (by omega) (hform2 (by omega)) (by omega) (by omega) h3 (by omega) (hox _ hmem);rw [hk1, aG]
      have hsplit : szL (e.args.take (i + 1)) = szL (e.args.take i) + szE e.args[i] := by
       rw [List.take_add_one, hxi, xZ];simp [szL]
      by_cases hV : kE n (d + 1) c28 e.args[i]
      ·left;rw [decide_eq_true hV, if_neg (by simp), aZ (oE hi hl)];refine ⟨_, rfl, by push_cast; rfl, ?_, hk2, ?_⟩
       ·dsimp only;rw [hk4 hV, hsplit];omega
       intro x hx;rw [List.take_add_one, hxi] at hx;simp only [Option.toList_some, zQN, List.mem_singleton] at hx;rcases hx with hx | hx
       ·exact h4 x hx
       subst hx;exact ⟨⟨hV.1, hV.2.1, by have := hV.2.2; omega⟩, hV.1, hV.2.1⟩
      ·right;rw [decide_eq_false hV];simp only [Bool.not_false, if_true, dT];refine ⟨_, rfl, ?_, rfl, hk2, by omega⟩;intro hc;rw [hval] at hc;apply hV;refine ⟨hc.1 _ hmem, hc.2.1 _ hmem, ?_⟩
       have h5 : szL (e.args.take (i + 1)) ≤ szL e.args := by
        conv => rhs; rw [← List.take_append_drop (i + 1) e.args, xZ]
        omega
       have h6 := hc.2.2
       omega) (fun s hI => by
      obtain ⟨x27, c28⟩ := s;obtain ⟨h1, h2, h3, h4⟩ := hI;dsimp only at h1 h2 h3;subst h1;rw [List.take_length] at h2 h4;dsimp only;rw [if_neg (by omega)];refine ⟨_, rfl, ?_, by rw [hsz]; omega⟩;rw [hval]
      exact ⟨fun x hx => (h4 x hx).2.1, fun x hx => (h4 x hx).2.2, by omega⟩)
    rw [ho1]
    cases o with
    | inl c=>
     dsimp only at ho2;rw [eI];have hsz2:(szE e:Int)≤left:=ho2.1.2.2;exact⟨c,by rw [decide_eq_true ho2.1],by omega,by omega,λ_=>ho2.2⟩
    | inr r=>
     obtain⟨r1,r2⟩:=r;dsimp only at ho2;obtain⟨p1,p2,p3,p4⟩:=ho2;subst p2;rw [dB];exact⟨r2,by rw [decide_eq_false p1],p3,p4,λh=>absurd h p1⟩
   rw [if_neg hv]
   have hno:¬ kE n d left e:=by
    unfold kE;rw [hgd,hform];intro h;exact hv h.1.1
   exact⟨left - 1,by rw [decide_eq_false hno],by omega,by omega,λh=>absurd h hno⟩
  have leaf (b:Bool) (hform:gT n e.op e.var e.args.length=b) (hb:b=true→e.args.length=0):∃ k,(some (b,left - 1):Option (Bool×Int))=some (decide (kE n d left e),k)∧0≤k∧k≤left∧(kE n d left e→k=left - (szE e:Int)):=by
   cases b with
   | true=>
    have hnil:e.args=[]:=List.eq_nil_of_length_eq_zero (hb rfl);have h1:dpE e=1:=by rw [hdp,hnil];rfl
    have h2:szE e=1:=by rw [hsz,hnil];rfl
    have hyes:kE n d left e:=⟨hgd.2 ⟨hform,by rw [hnil];simp⟩,by omega,by omega⟩;exact⟨left - 1,by rw [decide_eq_true hyes],by omega,by omega,λ_=>by omega⟩
   | false=>
    have hno:¬ kE n d left e:=by
     unfold kE;rw [hgd,hform];intro h;exact absurd h.1.1 (by simp)
    exact⟨left - 1,by rw [decide_eq_false hno],by omega,by omega,λh=>absurd h hno⟩
  have hpos:0 < e.args.length→0 < fu:=by intro _;omega
  unfold gT at args leaf;by_cases h12:e.op=1∨e.op=2
  ·have e1:(if e.op=(1:Int) then some (decide (e.op=(1:Int))) else some (decide (e.op=(2:Int))))=some true:=by
    rcases h12 with h|h<;>simp [h]
   rw [e1,aG,if_pos rfl,dT,dB];refine leaf _ ?_ ?_
   ·rw [if_pos h12,Bool.eq_iff_iff];simp only [decide_eq_true_eq,zQA];omega
   simp only [zQA,decide_eq_true_eq];omega
  have e1:(if e.op=(1:Int) then some (decide (e.op=(1:Int))) else some (decide (e.op=(2:Int))))=some false:=by
   rw [if_neg (by omega),decide_eq_false (by omega)]
  rw [e1,aG,if_neg (by simp)];by_cases h3:e.op=3
  ·rw [if_pos h3,dT,dB];refine leaf _ ?_ ?_
   ·rw [if_neg h12,if_pos h3,Bool.eq_iff_iff];simp only [decide_eq_true_eq,zQA];omega
   simp only [zQA,decide_eq_true_eq];omega
  rw [if_neg h3];by_cases h4:e.op=4
  ·rw [if_pos h4];by_cases h1:e.args.length=1
   ·rw [if_pos (by omega), eI];exact args (by rw [if_neg h12,if_neg h3,if_pos h4];simp [h1]) hpos
   rw [if_neg (by omega), dT, dB];exact leaf false (by rw [if_neg h12,if_neg h3,if_pos h4,decide_eq_false (by omega)]) (by simp)
  rw [if_neg h4];by_cases h5:e.op=5
  ·rw [if_pos h5,eI];exact args (by rw [if_neg h12,if_neg h3,if_neg h4,if_pos (.inl h5)];simp) hpos
  rw [if_neg h5];by_cases h6:e.op=6
  ·rw [if_pos h6,eI];exact args (by rw [if_neg h12,if_neg h3,if_neg h4,if_pos (.inr h6)];simp) hpos
  rw [if_neg h6,dT,dB];exact leaf false (by rw [if_neg h12,if_neg h3,if_neg h4,if_neg (by omega)]) (by simp)
abbrev qEM (n:Int) (e:Expr):Bool:=decide (kE n 1 20000 e)
theorem qAG (n:Int) {e:Expr} (ho:okE e):fW e n=some (qEM n e):=by
 unfold fW uM;obtain⟨k,hk,_⟩:=yQ n cA e 1 20000 (by unfold cA;omega) (by unfold cA;omega) (by omega) (by omega) (by omega) (by omega) ho;rw [hk,aG]
mutual
theorem qCK:∀ e:Expr,szE e≤e.encR.bulk
 | ⟨a,b,c⟩=>by
  have:=qEO c;simp only [szE,Expr.encR,D.bulk,D.bulks];omega
theorem qEO:∀ l:List Expr,szL l≤D.bulks (Expr.encsR l)
 | []=>by simp [szL]
 | e :: r=>by
  have:=qCK e;have:=qEO r;simp only [szL,Expr.encsR,D.bulks];omega
end
mutual
theorem tQ:∀ e:Expr,dpE e≤szE e
 | ⟨a,b,c⟩=>by
  have:=qNO c;simp only [szE,dpE];omega
theorem qNO:∀ l:List Expr,dpL l≤szL l
 | []=>by simp [szL,dpL]
 | e :: r=>by
  have:=tQ e;have:=qNO r;simp only [szL,dpL];omega
end
theorem vX (e:Expr):1≤szE e:=by rw [kH];omega
theorem nH:∀ l:List Expr,l.length≤szL l
 | []=>by simp [szL]
 | e :: r=>by have:=vX e;have:=nH r;simp only [szL,List.length_cons];omega
theorem kQ:∀ {l:List Expr} {x:Expr},x∈l→szE x≤szL l
 | e :: r,x,h=>by
  rcases zQB.1 h with rfl|h
  ·simp only [szL];omega
  have:=kQ h;simp only [szL];omega
theorem qF {l:List Expr} {x:Expr} (h:x∈l):dpE x≤dpL l:=(dpL_le.1 (zQW _)) x h
theorem qBS:∀ (fu:Nat) (e:Expr),dpE e≤fu→szE e≤1000000000→hJ fu e=some (szE e:Int)
 | 0,e,h,_=>by rw [hZ] at h;omega
 | fu+1,e,h,hs=>by
  rw [hZ] at h;have hse:=kH e;have hl:=nH e.args;unfold hJ;rw [qG (s:=((1:Int),(0:Int))) (λi=>((1:Int)+(szL (e.args.take i):Int),(i:Int))) e.args.length (o:=(1:Int)+(szL e.args:Int)) rfl (by omega) ?_ ?_]
  ·rw [aG]
   congr 1
   omega
  ·intro i hi;have hm:=List.getElem_mem hi;have h1:=qF hm;have h2:=kQ hm;have hq:e.args.take (i+1)=e.args.take i++[e.args[i]]:=by rw [List.take_add_one,zQR hi];rfl
   have hn:szL (e.args.take (i+1))=szL (e.args.take i)+szE e.args[i]:=by rw [hq,xZ];simp [szL]
   have hle:szL (e.args.take (i+1))≤szL e.args:=by
    have:=xZ (e.args.take (i+1)) (e.args.drop (i+1));rw [List.take_append_drop] at this;omega
   dsimp only;rw [if_pos (by omega),eC (zQR hi),qBS fu e.args[i] (by omega) (by omega),aG,aZ (by unfold I64;omega),aZ (by unfold I64;omega)]
   congr 3
   omega
  dsimp only;rw [if_neg (by omega),List.take_length];rfl
theorem qCN {e:Expr} (hs:szE e≤1000000000):jT e=some (szE e:Int):=by
 unfold jT;exact qBS cA e (by have:=tQ e;unfold cA;omega) hs
theorem qSY (a b:List Expr):dpL (a++b)=max (dpL a) (dpL b):=by
 induction a with
 | nil=>simp [dpL]
 | cons x r ih=>simp only [List.cons_append,dpL,ih];omega
theorem zW:∀ (fu:Nat) (e:Expr),dpE e≤fu→szE e≤1000000000→gH fu e=some (dpE e:Int)
 | 0,e,h,_=>by rw [hZ] at h;omega
 | fu+1,e,h,hs=>by
  rw [hZ] at h;have hse:=kH e;have hde:=hZ e;have hds:=tQ e;have hl:=nH e.args;unfold gH;rw [qG (s:=((0:Int),(0:Int))) (λi=>((dpL (e.args.take i):Int),(i:Int))) e.args.length (o:=(dpL e.args:Int)) rfl (by omega) ?_ ?_]
  ·rw [aG, aZ (by unfold I64; omega)]
   congr 1
   omega
  ·intro i hi;have hm:=List.getElem_mem hi;have h1:=qF hm;have h2:=kQ hm;have hq:e.args.take (i+1)=e.args.take i++[e.args[i]]:=by rw [List.take_add_one,zQR hi];rfl
   have hn:dpL (e.args.take (i+1))=max (dpL (e.args.take i)) (dpE e.args[i]):=by rw [hq,qSY];simp [dpL]
   dsimp only;rw [if_pos (by omega),eC (zQR hi),zW fu e.args[i] (by omega) (by omega),aG,aZ (by unfold I64;omega)]
   congr 3
   omega
  dsimp only;rw [if_neg (by omega),List.take_length];rfl
theorem qNP {e:Expr} (hs:szE e≤1000000000):nX e=some (dpE e:Int):=by
 unfold nX;exact zW cA e (by have:=tQ e;unfold cA;omega) hs
theorem qCB (n:Int):∀ (fu:Nat) (e:Expr),dpE e≤fu→szE e≤1000000000→gB fu e n=some (dQ n e)
 | 0,e,h,_=>by rw [hZ] at h;omega
 | fu+1,e,h,hs=>by
  rw [hZ] at h;have hse:=kH e;have hl:=nH e.args;have hg:dQ n e=(gT n e.op e.var e.args.length&&kX n e.args):=by cases e;rw [dQ]
  have hgl:kX n e.args=!(e.args.any λx=>!dQ n x):=by
   rw [Bool.eq_iff_iff,wO];simp
  have hloop : aT (ρ := Unit ⊕ Bool) (fun i20 =>
    if i20 < (e.args.length : Int) then
     aU e.args i20 fun e23 =>
     aA ((gB fu) e23 n) fun r24 =>
     if (!(r24)) = true then
      aI (
       aI (
        some false))
     else
      aB (I64 (i20 + (1 : Int))) <|
      some (.inl (i20 + (1 : Int)))
    else
     aI (
      some (.inl ()))) (0 : Int) = some (if (e.args.any fun x => !dQ n x) = true then (.inr false : Unit ⊕ Bool) else .inl ()) := by
   refine pF (ρ:=Unit ⊕ Bool) e.args (λx=>!dQ n x) (Sum.inr false) (Sum.inl ()) (by omega) ?_ ?_
   ·intro i x hx;have hi:=(zQQ.1 hx).1;have hm:=zQM hx;have h1:=qF hm;have h2:=kQ hm;rw [if_pos (by omega),eC hx,qCB n fu x (by omega) (by omega),aG,aZ (by unfold I64;omega)];cases dQ n x<;>rfl
   rw [if_neg (by omega)];rfl
  unfold gB;rw [hloop,hg,hgl]
  have leaf:e.op=1∨e.op=2→some ((decide (e.var=0))&&(decide ((e.args.length:Int)=0)))=some (gT n e.op e.var e.args.length&&!(e.args.any λx=>!dQ n x)):=λh=>by
   have hf:gT n e.op e.var e.args.length=decide (e.var=0∧e.args.length=0):=by unfold gT;rw [if_pos h]
   rw [hf];by_cases hk:e.var=0∧e.args.length=0
   ·have ha:e.args=[]:=List.length_eq_zero_iff.1 hk.2;simp [hk.1,ha]
   rw [decide_eq_false hk,Bool.false_and]
   congr 1
   rw [Bool.and_eq_false_iff,decide_eq_false_iff_not,decide_eq_false_iff_not];omega
  by_cases h1:e.op=1
  ·rw [if_pos h1,aG,decide_eq_true h1,if_pos rfl,dT,dB];exact leaf (.inl h1)
  rw [if_neg h1,aG];by_cases h2:e.op=2
  ·rw [decide_eq_true h2,if_pos rfl,dT,dB];exact leaf (.inr h2)
  have h12 : ¬ (e.op = 1 ∨ e.op = 2) := by omega
  rw [decide_eq_false h2,if_neg Bool.false_ne_true];by_cases h3:e.op=3
  ·have hf : gT n e.op e.var e.args.length = decide (0 ≤ e.var ∧ e.var < n ∧ e.args.length = 0) := by unfold gT; rw [if_neg h12, if_pos h3]
   rw [if_pos h3,dT,dB,hf];by_cases hk:0≤e.var∧e.var < n∧e.args.length=0
   ·have ha:e.args=[]:=List.length_eq_zero_iff.1 hk.2.2;simp [hk.1,hk.2.1,ha]
   rw [decide_eq_false hk,Bool.false_and]
   congr 1
   rw [Bool.and_eq_false_iff,Bool.and_eq_false_iff,decide_eq_false_iff_not,decide_eq_false_iff_not,decide_eq_false_iff_not];omega
  rw [if_neg h3];by_cases h4:e.op=4
  ·have hf : gT n e.op e.var e.args.length = decide (e.args.length = 1 ∧ e.var = 0) := by unfold gT; rw [if_neg h12, if_neg h3, if_pos h4]
   rw [if_pos h4,hf];by_cases hk:e.args.length=1
   ·rw [if_pos (by omega), eI];cases e.args.any λx=>!dQ n x<;>simp [hk]
   rw [if_neg (by omega), dT, dB];simp [hk]
  rw [if_neg h4];by_cases h5:e.op=5
  ·have hf : gT n e.op e.var e.args.length = decide (e.var = 0) := by unfold gT; rw [if_neg h12, if_neg h3, if_neg h4, if_pos (.inl h5)]
   rw [if_pos h5,eI,hf];cases e.args.any λx=>!dQ n x<;>simp
  rw [if_neg h5];by_cases h6:e.op=6
  ·have hf : gT n e.op e.var e.args.length = decide (e.var = 0) := by unfold gT; rw [if_neg h12, if_neg h3, if_neg h4, if_pos (.inr h6)]
   rw [if_pos h6,eI,hf];cases e.args.any λx=>!dQ n x<;>simp
  have hf : gT n e.op e.var e.args.length = false := by unfold gT; rw [if_neg h12, if_neg h3, if_neg h4, if_neg (by omega)]
  rw [if_neg h6,dT,dB,hf];rfl
theorem qSX (n:Int) {e:Expr} (hs:szE e≤1000000000):pS e n=some (dQ n e):=by
 unfold pS;exact qCB n cA e (by have:=tQ e;unfold cA;omega) hs
theorem qAK (n:Int) {e:Expr} (hs:szE e≤1000000000):kA e n=some (qEM n e):=by
 unfold kA;rw [qCN hs,aG];by_cases h1:(szE e:Int)≤20000
 ·rw [if_pos h1,qNP hs,aG];by_cases h2:(dpE e:Int)≤12
  ·rw [if_pos h2,qSX n hs,aG,aG]
   congr 1
   cases hg:dQ n e with
   | false=>exact (decide_eq_false (show ¬ kE n 1 20000 e from λh=>by rw [h.1] at hg;cases hg)).symm
   | true=>exact (decide_eq_true (show kE n 1 20000 e from ⟨hg,by omega,h1⟩)).symm
  rw [if_neg h2,aG]
  congr 1
  exact (decide_eq_false (show ¬ kE n 1 20000 e from λh=>by have:=h.2.1;omega)).symm
 rw [if_neg h1,aG]
 congr 1
 exact (decide_eq_false (show ¬ kE n 1 20000 e from λh=>by have:=h.2.2;omega)).symm
theorem tV (v:List Bool):∀ (fu:Nat) (e:Expr),dpE e≤fu→szE e≤1000000000→fL fu e v=some (evE v e)
 | 0,e,h,_=>by rw [hZ] at h;omega
 | fu+1,e,h,hs=>by
  rw [hZ] at h;have hse:=kH e;have hl:=nH e.args;rw [uN];unfold fL opB;by_cases h2:e.op=2
  ·rw [if_pos h2,dT,dB,if_neg (by omega),if_neg (by omega),if_neg (by omega),if_neg (by omega),decide_eq_true h2]
  rw [if_neg h2];by_cases h3:e.op=3
  ·rw [if_pos h3,if_pos h3];by_cases h0:0≤e.var
   ·rw [if_pos h0];by_cases hv:e.var < (v.length:Int)
    ·have hget:v[e.var.toNat]?=some (v.getD e.var.toNat false):=by
      rw [zQD,zQR (by omega)];rfl
     rw [if_pos hv,nI h0 hget,aG,dT,dB,decide_eq_true h0,Bool.true_and]
    rw [if_neg hv, aG, dT, dB, zQD, List.getElem?_eq_none (by omega)];simp
   rw [if_neg h0,aG,dT,dB,decide_eq_false h0,Bool.false_and]
  rw [if_neg h3,if_neg h3];by_cases h4:e.op=4
  ·rw [if_pos h4,if_pos h4]
   cases ha:e.args with
   | nil=>
    rw [if_neg (by simp),aG,dT,dB];rfl
   | cons x r=>
    have hm:x∈e.args:=by rw [ha];exact List.mem_cons_self ..
    have q1:=qF hm;have q2:=kQ hm;rw [if_pos (by simp),nI (by omega) (by rfl),tV v fu x (by omega) (by omega),aG,aG,dT,dB];rfl
  rw [if_neg h4,if_neg h4]
  have hloop : ∀ c : Bool, aT (ρ := Unit ⊕ (Unit ⊕ Bool)) (fun i24 =>
      if i24 < (e.args.length : Int) then
       aU e.args i24 fun e27 =>
       aA ((fL fu) e27 v) fun r28 =>
       if ((r28 == c)) = true then
        aI (
         aI (
          aI (
           some c)))
       else
        aB (I64 (i24 + (1 : Int))) <|
        some (.inl (i24 + (1 : Int)))
      else
       aI (
        some (.inl ()))) (0 : Int) = some (if (e.args.any fun x => evE v x == c) = true then .inr (.inr c) else .inl ()) := fun c => by
   refine pF (ρ:=Unit ⊕ (Unit ⊕ Bool)) e.args (λx=>evE v x == c) (Sum.inr (Sum.inr c)) (Sum.inl ()) (by omega) ?_ ?_
   ·intro i x hx;have hi:=(zQQ.1 hx).1;have hm:=zQM hx;have q1:=qF hm;have q2:=kQ hm;rw [if_pos (by omega),eC hx,tV v fu x (by omega) (by omega),aG,aZ (by unfold I64;omega)];cases evE v x == c<;>rfl
   rw [if_neg (by omega)];rfl
  by_cases h5:e.op=5
  ·have h6 : ¬ e.op = 6 := by omega
   rw [if_pos h5,if_pos h5,aG,decide_eq_true h5,if_pos rfl,decide_eq_false h6,hloop false]
   have:(e.args.map (evE v)).all id=!(e.args.any λx=>evE v x == false):=by
    rw [List.all_map,List.all_eq_not_any_not]
    congr 2
    funext x
    show (!(evE v x))=(evE v x == false);cases evE v x<;>rfl
   rw [this];cases (e.args.any λx=>evE v x == false)<;>rfl
  rw [if_neg h5,if_neg h5,aG];by_cases h6:e.op=6
  ·rw [if_pos h6,decide_eq_true h6,if_pos rfl,decide_eq_false h5,hloop true]
   have:(e.args.map (evE v)).any id=(e.args.any λx=>evE v x == true):=by
    rw [List.any_map]
    congr 1
    funext x
    show evE v x=(evE v x == true);cases evE v x<;>rfl
   rw [this];cases (e.args.any λx=>evE v x == true)<;>rfl
  rw [if_neg h6,decide_eq_false h6,if_neg (by simp),eI,decide_eq_false h2]
theorem qAL (v:List Bool) {e:Expr} (hs:szE e≤1000000000):lA e v=some (evE v e):=by
 unfold lA;exact tV v cA e (by have:=tQ e;unfold cA;omega) hs
theorem qJY:gY=some true:=by decide+kernel
mutual
def kC (x:Int) (b:Expr):Expr→Expr
 | ⟨op,v,l⟩=>if op=3∧v=x then b else ⟨op,v,qU x b l⟩
def qU (x:Int) (b:Expr):List Expr→List Expr
 | []=>[]
 | e :: r=>kC x b e :: qU x b r
end
mutual
def qW (x:Int):Expr→Nat
 | ⟨op,v,l⟩=>(if op=3∧v=x then 1 else 0)+zZ x l
def zZ (x:Int):List Expr→Nat
 | []=>0
 | e :: r=>qW x e+zZ x r
end
theorem yZ (x:Int) (b:Expr):∀ l,qU x b l=l.map (kC x b)
 | []=>by simp [qU]
 | e :: r=>by simp [qU,yZ x b r]
theorem qIR (x:Int) (b e:Expr):kC x b e=if e.op=3∧e.var=x then b else ⟨e.op,e.var,e.args.map (kC x b)⟩:=by
 cases e with
 | mk o v l=>rw [kC,yZ]
theorem qGM (x:Int):∀ l,zZ x l=(l.map (qW x)).sum
 | []=>by simp [zZ]
 | e :: r=>by simp [zZ,qGM x r]
theorem qTA (x:Int) (e:Expr):qW x e=(if e.op=3∧e.var=x then 1 else 0)+zZ x e.args:=by
 cases e with
 | mk o v l=>rw [qW]
mutual
theorem qNQ (x:Int):∀ e,qW x e≤szE e
 | ⟨o,v,l⟩=>by
  have:=qEC x l;simp only [qW,szE];split<;>omega
theorem qEC (x:Int):∀ l,zZ x l≤szL l
 | []=>by simp [zZ,szL]
 | e :: r=>by
  have:=qNQ x e;have:=qEC x r;simp only [zZ,szL];omega
end
mutual
theorem qMH (x:Int) (b:Expr):∀ e,szE (kC x b e)≤szE e+qW x e * (szE b - 1)
 | ⟨o,v,l⟩=>by
  have h1:=qIP x b l;have h2:=vX b;simp only [qW,szE,kC];split
  ·rw [Nat.add_mul];omega
  simp only [szE,Nat.zero_add];omega
theorem qIP (x:Int) (b:Expr):∀ l,szL (qU x b l)≤szL l+zZ x l * (szE b - 1)
 | []=>by simp [qU,szL]
 | e :: r=>by
  have h1:=qMH x b e;have h2:=qIP x b r;simp only [zZ,szL,qU];rw [Nat.add_mul];omega
end
theorem qLA {n m op x:Int} {k:Nat} (h:n≤m) (hf:gT n op x k=true):gT m op x k=true:=by
 unfold gT at *;by_cases h1:op=1∨op=2
 ·rw [if_pos h1] at *; exact hf
 rw [if_neg h1] at *;by_cases h3:op=3
 ·rw [if_pos h3] at *;simp only [decide_eq_true_eq] at *;omega
 rw [if_neg h3] at *;exact hf
mutual
theorem yY {n m:Int} (x:Int) {b:Expr} (hnm:n≤m) (hb:dQ m b=true):∀ e,dQ n e=true→dQ m (kC x b e)=true
 | ⟨o,v,l⟩,h=>by
  simp only [dQ,zQA] at h;have h1:=qBW x hnm hb l h.2;simp only [kC];split
  ·exact hb
  simp only [dQ,zQA];have hl:(qU x b l).length=l.length:=by rw [yZ,zQC]
  rw [hl];exact⟨qLA hnm h.1,h1⟩
theorem qBW {n m:Int} (x:Int) {b:Expr} (hnm:n≤m) (hb:dQ m b=true):∀ l,kX n l=true→kX m (qU x b l)=true
 | [],_=>by simp [qU,kX]
 | e :: r,h=>by
  simp only [kX,zQA] at h;simp only [qU,kX,zQA];exact⟨yY x hnm hb e h.1,qBW x hnm hb r h.2⟩
end
mutual
theorem qMI {n:Int} (x:Int) (b:Expr):∀ e,dQ n e=true→dpE e≤dpE (kC x b e)
 | ⟨o,v,l⟩,h=>by
  simp only [dQ,zQA] at h;have h1:=qIQ x b l h.2;simp only [kC];split
  ·rename_i hc;have hf:=h.1;unfold gT at hf;rw [if_neg (by omega),if_pos hc.1,decide_eq_true_eq] at hf;have:l=[]:=List.length_eq_zero_iff.1 hf.2.2;subst this;have:=hZ b;simp only [dpE,dpL];omega
  simp only [dpE];omega
theorem qIQ {n:Int} (x:Int) (b:Expr):∀ l,kX n l=true→dpL l≤dpL (qU x b l)
 | [],_=>by simp [qU]
 | e :: r,h=>by
  simp only [kX,zQA] at h;have h1:=qMI x b e h.1;have h2:=qIQ x b r h.2;simp only [qU,dpL];omega
end
mutual
theorem yX {n x:Int} (b:Expr) (hx:x < 0∨n≤x):∀ e,dQ n e=true→kC x b e=e
 | ⟨o,v,l⟩,h=>by
  simp only [dQ,zQA] at h;have h1:=qBV b hx l h.2;simp only [kC];split
  ·rename_i hc;have hf:=h.1;unfold gT at hf;rw [if_neg (by omega),if_pos hc.1,decide_eq_true_eq] at hf;omega
  rw [h1]
theorem qBV {n x:Int} (b:Expr) (hx:x < 0∨n≤x):∀ l,kX n l=true→qU x b l=l
 | [],_=>by simp [qU]
 | e :: r,h=>by
  simp only [kX,zQA] at h;simp only [qU,yX b hx e h.1,qBV b hx r h.2]
end
theorem wN {n m:Int} (h:n≤m) {e:Expr} (he:dQ n e=true):dQ m e=true:=by
 have h2:=yY (m:=m) (-1) (b:=⟨1,0,[]⟩) h (by simp [dQ,gT,kX]) e he;rw [yX _ (.inl (by omega)) e he] at h2;exact h2
theorem qJD {n:Int} {e:Expr} (hs:szE e≤1000000000):okE e:=by
 suffices h:∀ (k:Nat) (e:Expr),szE e≤k→k≤1000000000→okE e from h _ e hs (zQW _)
 intro k
 induction k with
 | zero=>intro e h;have:=vX e;omega
 | succ k ih=>
  intro e h hk;rw [kH] at h;rw [okE_iff];have:=nH e.args;exact⟨by unfold qHS;omega,λx hx=>ih x (by have:=kQ hx;omega) (by omega)⟩
theorem wT {l : List Expr} (g : Expr → Expr) (F : Expr → Option Expr) (hl : l.length ≤ 1000000000) (hF : ∀ e ∈ l, F e = some (g e)) : aT (ρ := List Expr) (fun (x6, b7) =>
    if x6 < (l.length : Int) then
     aU l x6 fun e10 =>
     aA (F e10) fun r11 =>
     aB ((b7 ++ ([r11] : List Expr)).length ≤ 1000000000) <|
     aB (I64 (x6 + (1 : Int))) <|
     some (.inl ((x6 + (1 : Int)), (b7 ++ ([r11] : List Expr))))
    else
     aI (
      some b7)) ((0 : Int), ([] : List Expr)) = some (l.map g) := by
 rw [qG (s:=((0:Int),([]:List Expr))) (λi=>((i:Int),(l.take i).map g)) l.length (o:=l.map g) rfl (by omega) ?_ ?_]
 ·intro i hi;dsimp only;have hq:(l.take (i+1)).map g=(l.take i).map g++[g l[i]]:=by rw [List.take_add_one,zQR hi,List.map_append];rfl
  rw [if_pos (by omega),eC (zQR hi),hF _ (List.getElem_mem hi),aG,aZ (by simp;omega),aZ (by unfold I64;omega),hq];rfl
 dsimp only;rw [if_neg (by omega),List.take_length];rfl
theorem yR {α : Type} {l : List α} (g : α → Nat) (F : α → Option Int) (a : Int) (h0 : 0 ≤ a) (hl : l.length ≤ 1000000000) (hs : a + ((l.map g).sum : Nat) ≤ 9000000000000000000) (hF : ∀ e ∈ l, F e = some (g e : Int)) : aT (ρ := Int) (fun (n5, x6) =>
    if x6 < (l.length : Int) then
     aU l x6 fun e9 =>
     aA (F e9) fun r10 =>
     aB (I64 (n5 + r10)) <|
     aB (I64 (x6 + (1 : Int))) <|
     some (.inl ((n5 + r10), (x6 + (1 : Int))))
    else
     aI (
      some n5)) (a, (0 : Int)) = some (a + ((l.map g).sum : Nat)) := by
 rw [qG (s:=(a,(0:Int))) (λi=>(a+(((l.take i).map g).sum:Nat),(i:Int))) l.length (o:=a+((l.map g).sum:Nat)) (by simp) (by omega) ?_ ?_]
 ·intro i hi;dsimp only;have hq:((l.take (i+1)).map g).sum=((l.take i).map g).sum+g l[i]:=by rw [List.take_add_one,zQR hi,List.map_append,List.sum_append];simp
  have hle:((l.take (i+1)).map g).sum≤(l.map g).sum:=by
   have h1:=List.take_append_drop (i+1) l
   have h2:(l.map g).sum=((l.take (i+1)).map g).sum+((l.drop (i+1)).map g).sum:=by
    rw [← List.sum_append,← List.map_append,h1]
   omega
  rw [if_pos (by omega),eC (zQR hi),hF _ (List.getElem_mem hi),aG,aZ (by unfold I64;omega),aZ (by unfold I64;omega)]
  congr 3
  omega
 dsimp only;rw [if_neg (by omega),List.take_length];rfl
theorem xJ:∀ (fu:Nat) (e:Expr),dpE e≤fu→szE e≤1000000000→gF fu e=some e
 | 0,e,h,_=>by rw [hZ] at h;omega
 | fu+1,e,h,hs=>by
  rw [hZ] at h;have hse:=kH e;have hl:=nH e.args;unfold gF;rw [wT id (λe10=>gF fu e10) (by omega) λx hx=>xJ fu x (by have:=qF hx;omega) (by have:=kQ hx;omega),aG,List.map_id,Expr.eta]
theorem qLD {e:Expr} (hs:szE e≤1000000000):nJ e=some e:=by
 unfold nJ;exact xJ cA e (by have:=tQ e;unfold cA;omega) hs
theorem qGJ {e:Expr} (hs:szE e≤1000000000):mJ e=some e:=by
 have hse:=kH e;have hl:=nH e.args;unfold mJ;obtain⟨n,hn⟩:∃ n,cA=n+1:=⟨73786976294838206463,rfl⟩;rw [hn];unfold iV;dsimp only;rw [wT id (λe10=>nJ e10) (by omega) λx hx=>qLD (by have:=kQ hx;omega),aG,List.map_id,Expr.eta]
theorem qEZ (x:Int) {b:Expr} (hb:szE b≤1000000000):∀ (fu:Nat) (e:Expr),dpE e≤fu→szE e≤1000000000→fA fu e x b=some (kC x b e)
 | 0,e,h,_=>by rw [hZ] at h;omega
 | fu+1,e,h,hs=>by
  rw [hZ] at h;have hse:=kH e;have hl:=nH e.args;unfold fA;rw [qIR];by_cases hc:e.op=3∧e.var=x
  ·rw [if_pos hc,if_pos (by simp [hc.1,hc.2]),qGJ hb,aG]
  rw [if_neg hc,if_neg (by simpa using hc),wT (kC x b) (λe13=>fA fu e13 x b) (by omega) λy hy=>qEZ x hb fu y (by have:=qF hy;omega) (by have:=kQ hy;omega),aG]
theorem qAJ (x:Int) {b e:Expr} (hb:szE b≤1000000000) (hs:szE e≤1000000000):gG e x b=some (kC x b e):=by
 unfold gG;exact qEZ x hb cA e (by have:=tQ e;unfold cA;omega) hs
theorem zH:∀ (fu:Nat) (e:Expr),dpE e≤fu→szE e≤1000000000→gZ fu e=some (szE e:Int)
 | 0,e,h,_=>by rw [hZ] at h;omega
 | fu+1,e,h,hs=>by
  rw [hZ] at h;have hse:=kH e;have hl:=nH e.args;have hsum:=qCL e.args;unfold gZ;rw [yR szE (λe9=>gZ fu e9) 1 (by omega) (by omega) (by omega) λy hy=>zH fu y (by have:=qF hy;omega) (by have:=kQ hy;omega),aG]
  congr 1
  omega
theorem qKA {e:Expr} (hs:szE e≤1000000000):jB e=some (szE e:Int):=by
 unfold jB;exact zH cA e (by have:=tQ e;unfold cA;omega) hs
theorem xE (x:Int):∀ (fu:Nat) (e:Expr),dpE e≤fu→szE e≤1000000000→eJ fu e x=some (qW x e:Int)
 | 0,e,h,_=>by rw [hZ] at h;omega
 | fu+1,e,h,hs=>by
  rw [hZ] at h;have hse:=kH e;have hl:=nH e.args;have hsum:=qGM x e.args;have hcs:=qEC x e.args;have hce:=qTA x e;unfold eJ
  have h1:(if ((decide (e.op=(3:Int)))&&(decide (e.var=x)))=true then some (1:Int) else some 0)=some (((if e.op=3∧e.var=x then 1 else 0:Nat)):Int):=by
   by_cases hc:e.op=3∧e.var=x
   ·rw [if_pos hc,if_pos (by simp [hc.1,hc.2])];rfl
   rw [if_neg hc,if_neg (by simpa using hc)];rfl
  rw [h1,aG,yR (qW x) (λe9=>eJ fu e9 x) _ (by omega) (by omega) (by split<;>omega) λy hy=>xE x fu y (by have:=qF hy;omega) (by have:=kQ hy;omega),aG]
  congr 1
  omega
theorem qKN (x:Int) {e:Expr} (hs:szE e≤1000000000):iG e x=some (qW x e:Int):=by
 unfold iG;exact xE x cA e (by have:=tQ e;unfold cA;omega) hs
def nV (n inp:Int) (r:Rung):Bool:=(decide (r.kind=1∧r.preset=0)||decide (r.kind=2∧1≤r.preset∧r.preset≤1073741824))&&(decide (inp≤r.var∧r.var < n)&&qEM n r.expr)
theorem qCQ (p:Go.Proofs.YtldaknhjmhlefaaGreatDoor.Program) {r:Rung} (ho:okE r.expr):jI p r=some (nV (p.names.length:Int) p.inputs r):=by
 unfold jI nV
 have tail : aA (
  if p.inputs ≤ r.var then
   if r.var < (p.names.length : Int) then
    aA (fW r.expr (p.names.length : Int)) fun r14 =>
    some r14
   else
    some false
  else
   some false) (fun x10 =>
 some x10) = some (decide (p.inputs ≤ r.var ∧ r.var < (p.names.length : Int)) && qEM (p.names.length : Int) r.expr) := by
  by_cases h1:p.inputs≤r.var
  ·rw [if_pos h1];by_cases h2:r.var < (p.names.length:Int)
   ·rw [if_pos h2,qAG _ ho,aG,aG,decide_eq_true ⟨h1,h2⟩,Bool.true_and]
   rw [if_neg h2,aG,decide_eq_false (λh=>h2 h.2),Bool.false_and]
  rw [if_neg h1,aG,decide_eq_false (λh=>h1 h.1),Bool.false_and]
 by_cases h1:r.kind=1
 ·rw [if_pos h1];by_cases h0:r.preset=0
  ·rw [if_pos h0,eI,tail,decide_eq_true (⟨h1,h0⟩:r.kind=1∧r.preset=0),Bool.true_or,Bool.true_and]
  rw [if_neg h0, dT, dB, decide_eq_false (by omega), decide_eq_false (by omega)];rfl
 rw [if_neg h1];by_cases h2:r.kind=2
 ·rw [if_pos h2];by_cases h0:r.preset < 1∨1073741824 < r.preset
  ·rw [if_pos (by simpa using h0), dT, dB, decide_eq_false (by omega), decide_eq_false (by omega)];rfl
  rw [if_neg (by simpa using h0),eI,tail,decide_eq_true (show r.kind=2∧1≤r.preset∧r.preset≤1073741824 by omega),Bool.or_true,Bool.true_and]
 rw [if_neg h2, dT, dB, decide_eq_false (by omega), decide_eq_false (by omega)];rfl
def iZ (p:Go.Proofs.YtldaknhjmhlefaaGreatDoor.Program):Int:=
 if 2000 < p.names.length then 2
 else if p.inputs < 0∨(p.names.length:Int) < p.inputs then 1
 else if p.rungs.all (nV (p.names.length:Int) p.inputs)=false then 1
 else if (p.rungs.map (·.var)).Nodup then 0 else 8
def tM (n:Nat) (l:List Int):List Bool:=(List.range n).map λ(j:Nat)=>decide ((j:Int)∈l)
theorem qKT (n:Nat) (l:List Int):(tM n l).length=n:=by simp [tM]
theorem zL {n:Nat} {l:List Int} {x:Int} (h0:0≤x) (h1:x < (n:Int)):(tM n l)[x.toNat]?=some (decide (x∈l)):=by
 unfold tM;rw [zQP,List.getElem?_range (by omega)];simp only [Option.map_some];rw [show ((x.toNat:Nat):Int)=x by omega]
theorem qKS {n:Nat} {l:List Int} {x:Int} (h0:0≤x) (h1:x < (n:Int)):(tM n l).set x.toNat true=tM n (l++[x]):=by
 apply List.ext_getElem?;intro j;rw [List.getElem?_set,qKT];by_cases hj:x.toNat=j
 ·subst hj;rw [if_pos rfl,if_pos (by omega),zL h0 h1];simp
 rw [if_neg hj];unfold tM;rw [zQP,zQP]
 cases hr:(List.range n)[j]? with
 | none=>rfl
 | some k=>
  have hk:k=j:=by
   rw [zQQ] at hr;obtain⟨hr1,hr2⟩:=hr;rw [List.getElem_range] at hr2;exact hr2.symm
  subst hk;simp only [Option.map_some,zQN,List.mem_singleton]
  congr 1
  rw [Bool.eq_iff_iff];simp only [decide_eq_true_eq];constructor
  ·intro h;exact .inl h
  rintro (h|h)
  ·exact h
  omega
theorem nodup_take {l:List Int}:l.Nodup↔∀ (i:Nat) (x:Int),l[i]?=some x→x∉l.take i:=by
 constructor
 ·intro h i x hx hm;have hi:=(zQQ.1 hx).1;obtain⟨j,hj,he⟩:=List.mem_take_iff_getElem.1 hm;rw [qBZ] at h;refine h j i (by omega) hi ?_;rw [hx,zQR (by omega),he]
 intro h;rw [qBZ];intro a c hac hc he;have hx:=zQR hc;rw [hx] at he;refine h c _ hx (List.mem_take_iff_getElem.2 ⟨a,by omega,?_⟩);exact (zQQ.1 he).2
structure POk (p:Go.Proofs.YtldaknhjmhlefaaGreatDoor.Program):Prop where
 rungs:p.rungs.length≤1000000000
 names:p.names.length≤9000000000000000000
 exprs:∀ r∈p.rungs,okE r.expr
theorem qKO {p:Go.Proofs.YtldaknhjmhlefaaGreatDoor.Program} (h:POk p):mM p=some (iZ p):=by
 have hr:=h.rungs;unfold mM iZ;by_cases h1:2000 < p.names.length
 ·rw [if_pos (by omega),if_pos h1]
 rw [if_neg (by omega), if_neg h1];by_cases h2:p.inputs < 0∨(p.names.length:Int) < p.inputs
 ·rw [if_pos (by simpa using h2),if_pos h2]
 rw [if_neg (by simpa using h2), if_neg h2, pF p.rungs (fun r => !nV (p.names.length : Int) p.inputs r) (.inr 1) (.inl ()) (by omega) (fun i r hx => ?_) (by rw [if_neg (by omega)]; rfl)]
 ·rw [qE]
  cases ha:p.rungs.all (nV (p.names.length:Int) p.inputs) with
  | false=>rw [Bool.not_false,if_pos rfl,dB,if_pos rfl]
  | true=>
   rw [Bool.not_true,if_neg Bool.false_ne_true,eI,if_neg (by simp),aZ (by omega)];rw [zQT] at ha
   have hv:∀ r∈p.rungs,0≤r.var∧r.var < (p.names.length:Int):=by
    intro r hr;have:=ha r hr;unfold nV at this;simp only [zQA,decide_eq_true_eq] at this;omega
   have hn:((p.names.length:Int)).toNat=p.names.length:=by omega
   rw [hn,qKW p.rungs.length (λi=>tM p.names.length ((p.rungs.map (·.var)).take i)) (λi=>match p.rungs[i]? with|some r=>decide (r.var∈(p.rungs.map (·.var)).take i)|none=>false) (.inr 8) (.inl (tM p.names.length (p.rungs.map (·.var)))) (by simp [tM,List.map_const']) (by omega) (λi hi _=>?_) (λ_=>by dsimp only;rw [if_neg (by omega),List.take_of_length_le (by simp)];rfl)]
   ·by_cases hd:(p.rungs.map (·.var)).Nodup
    ·rw [if_pos hd,if_neg ?_,eI];rw [zQU];rintro⟨i,hi,hc⟩;rw [List.mem_range] at hi;rw [zQR hi] at hc;exact nodup_take.1 hd i p.rungs[i].var (by simp [hi]) (of_decide_eq_true hc)
    rw [if_neg hd,if_pos ?_,dB];rw [zQU];rw [nodup_take] at hd;simp only [Classical.not_forall,Classical.not_not] at hd;obtain⟨i,x,hx,hm⟩:=hd;have hi:=(zQQ.1 hx).1;rw [zQC] at hi;refine⟨i,List.mem_range.2 hi,?_⟩;rw [zQP,zQR hi] at hx;simp only [Option.map_some,Option.some.injEq] at hx;rw [zQR hi];subst hx;exact decide_eq_true hm
   have hx:=zQR hi;have hvi:=hv _ (List.getElem_mem hi);dsimp only;rw [if_pos (by omega),eC hx,nI hvi.1 (zL hvi.1 hvi.2),hx];dsimp only;by_cases hm:p.rungs[i].var∈(p.rungs.map (·.var)).take i
   ·simp only [decide_eq_true hm];rfl
   simp only [decide_eq_false hm, Bool.false_eq_true, if_false]; rw [nI hvi.1 (zL hvi.1 hvi.2), aZ (oE hi (by omega)), qKS hvi.1 hvi.2];rw [List.take_add_one (l:=p.rungs.map (·.var)),zQP,hx];rfl
 have hi:=(zQQ.1 hx).1;rw [if_pos (by omega),eC hx,qCQ p (h.exprs r (zQM hx)),aG,aZ (oE hi (by omega))];rfl
theorem iY {p:Go.Proofs.YtldaknhjmhlefaaGreatDoor.Program} (h:iZ p=0):p.names.length≤2000∧0≤p.inputs∧p.inputs≤(p.names.length:Int)∧(∀ r∈p.rungs,nV (p.names.length:Int) p.inputs r=true)∧(p.rungs.map (·.var)).Nodup:=by
 unfold iZ at h;split at h
 ·cases h
 split at h
 ·cases h
 split at h
 ·cases h
 split at h
 ·rename_i h1 h2 h3 h4;refine⟨by omega,by omega,by omega,?_,h4⟩;rw [← zQT];simpa using h3
 cases h
def qNT (r:Rung) (c:Int):Bool:=decide (0≤c∧c≤r.preset)
def zR (p:Go.Proofs.YtldaknhjmhlefaaGreatDoor.Program) (m:Machine):Bool:=decide (iZ p=0∧m.vars.length=p.names.length∧m.counts.length=p.rungs.length)&&(List.zip p.rungs m.counts).all λx=>qNT x.1 x.2
def vS (r:Rung) (v:Bool) (c:Int):Int×Bool:=if r.kind=2 then (if v=true then (if c < r.preset then (c+1,decide (c+1=r.preset)) else (c,decide (c=r.preset))) else (0,false)) else (c,v)
def yS (V:List Bool) (x:Rung×Int):List Bool:=V.set x.1.var.toNat (vS x.1 (evE V x.1.expr) x.2).2
def lY (l:List (Rung×Int)) (V:List Bool):List Bool:=l.foldl yS V
theorem qKC (V:List Bool) (x:Rung×Int):(yS V x).length=V.length:=by unfold yS;rw [List.length_set]
theorem uV:∀ (l:List (Rung×Int)) (V:List Bool),(lY l V).length=V.length
 | [],V=>rfl
 | x :: l,V=>by
  show (lY l (yS V x)).length=V.length;rw [uV l,qKC]
theorem qEX (a b:List (Rung×Int)) (V:List Bool):lY (a++b) V=lY b (lY a V):=by unfold lY;rw [List.foldl_append]
def uP (l:List (Rung×Int)) (V:List Bool):List Int:=l.mapIdx λi x=>(vS x.1 (evE (lY (l.take i) V) x.1.expr) x.2).1
theorem zY (l:List (Rung×Int)) (V:List Bool):(uP l V).length=l.length:=by simp [uP]
def inV (n:Nat) (I V:List Bool):List Bool:=(List.range n).map (λi=>I.getD i false)++V.drop n
theorem qDR {n:Nat} {I V:List Bool} (h:n≤V.length):(inV n I V).length=V.length:=by unfold inV;simp;omega
theorem qMG (p:Go.Proofs.YtldaknhjmhlefaaGreatDoor.Program) {r:Rung} (hs:szE r.expr≤1000000000):mZ p r=some (nV (p.names.length:Int) p.inputs r):=by
 unfold mZ nV;rw [qAK _ hs,aG];by_cases h1:r.kind=1
 ·have h2 : ¬ r.kind = 2 := by omega
  by_cases hv:p.inputs≤r.var∧r.var < (p.names.length:Int)
  ·have hv1 : ¬ r.var < p.inputs := by omega
   have hv2:¬ (p.names.length:Int)≤r.var:=by omega
   by_cases hp:r.preset=0<;>simp [h1,hv,hv1,hv2,hp]
  by_cases hv1:r.var < p.inputs
  ·simp [h1,hv1,Int.not_le.2 hv1]
  have hv2 : (p.names.length : Int) ≤ r.var := by omega
  simp [h1,hv2,Int.not_lt.2 hv2]
 by_cases h2:r.kind=2
 ·by_cases hv:p.inputs≤r.var∧r.var < (p.names.length:Int)
  ·have hv1 : ¬ r.var < p.inputs := by omega
   have hv2:¬ (p.names.length:Int)≤r.var:=by omega
   by_cases hp:r.preset < 1∨1073741824 < r.preset
   ·have hp2 : ¬ (1 ≤ r.preset ∧ r.preset ≤ 1073741824) := by omega
    simp [h2,hv,hv1,hv2,hp,hp2]
   have hp2 : 1 ≤ r.preset ∧ r.preset ≤ 1073741824 := by omega
   simp [h2,hv,hv1,hv2,hp,hp2]
  by_cases hv1:r.var < p.inputs
  ·simp [h2,hv1,Int.not_le.2 hv1]
  have hv2 : (p.names.length : Int) ≤ r.var := by omega
  simp [h2,hv2,Int.not_lt.2 hv2]
 simp [h1,h2]
structure Slim (p:Go.Proofs.YtldaknhjmhlefaaGreatDoor.Program):Prop where
 ok:POk p
 rungs:p.rungs.length≤2000000
 size:∀ r∈p.rungs,szE r.expr≤2000000
theorem qKL {p:Go.Proofs.YtldaknhjmhlefaaGreatDoor.Program} (h:Slim p):jZ p=some (iZ p):=by
 have hr:=h.rungs;unfold jZ iZ;by_cases h1:2000 < p.names.length
 ·rw [if_pos (by omega),if_pos h1]
 rw [if_neg (by omega), if_neg h1];by_cases h2:p.inputs < 0∨(p.names.length:Int) < p.inputs
 ·rw [if_pos (by simpa using h2),if_pos h2]
 rw [if_neg (by simpa using h2), if_neg h2, pF p.rungs (fun r => !nV (p.names.length : Int) p.inputs r) (.inr 1) (.inl ()) (by omega) (fun i r hx => ?_) (by rw [if_neg (by omega)]; rfl)]
 ·rw [qE]
  cases ha:p.rungs.all (nV (p.names.length:Int) p.inputs) with
  | false=>rw [Bool.not_false,if_pos rfl,dB,if_pos rfl]
  | true=>
   rw [Bool.not_true,if_neg Bool.false_ne_true,eI,if_neg (by simp)];rw [qKV p.rungs.length (λi=>match p.rungs[i]? with|some r=>decide (r.var∈(p.rungs.map (·.var)).take i)|none=>false) (.inr 8) (.inl ()) (by omega) (λi hi=>?_) (by rw [if_neg (by omega)];rfl)]
   ·by_cases hd:(p.rungs.map (·.var)).Nodup
    ·rw [if_pos hd,if_neg ?_,eI];rw [zQU];rintro⟨i,hi,hc⟩;rw [List.mem_range] at hi;rw [zQR hi] at hc;exact nodup_take.1 hd i p.rungs[i].var (by simp [hi]) (of_decide_eq_true hc)
    rw [if_neg hd,if_pos ?_,dB];rw [zQU];rw [nodup_take] at hd;simp only [Classical.not_forall,Classical.not_not] at hd;obtain⟨i,x,hx,hm⟩:=hd;have hi:=(zQQ.1 hx).1;rw [zQC] at hi;refine⟨i,List.mem_range.2 hi,?_⟩;rw [zQP,zQR hi] at hx;simp only [Option.map_some,Option.some.injEq] at hx;rw [zQR hi];subst hx;exact decide_eq_true hm
   have hx:=zQR hi;have hlen:(p.rungs.take i).length=i:=by rw [List.length_take];omega
   rw [if_pos (by omega),hx,pF (ρ:=Unit ⊕ (Int ⊕ (Unit ⊕ Int))) (p.rungs.take i) (λr=>decide (r.var=p.rungs[i].var)) (.inr (.inr (.inr 8))) (.inl ()) (by omega) (λk r hk=>?_) (by rw [hlen,if_neg (by omega)];rfl)]
   ·have he:((p.rungs.take i).any λr=>decide (r.var=p.rungs[i].var))=decide (p.rungs[i].var∈(p.rungs.map (·.var)).take i):=by
     rw [Bool.eq_iff_iff,zQU,decide_eq_true_eq,← List.map_take,List.mem_map];exact⟨λ⟨x,h1,h2⟩=>⟨x,h1,of_decide_eq_true h2⟩,λ⟨x,h1,h2⟩=>⟨x,h1,decide_eq_true h2⟩⟩
    rw [he];dsimp only;by_cases hm:p.rungs[i].var∈(p.rungs.map (·.var)).take i
    ·rw [if_pos (decide_eq_true hm),if_pos (decide_eq_true hm),dB]
    rw [if_neg (λh=>hm (of_decide_eq_true h)),if_neg (λh=>hm (of_decide_eq_true h)),eI,aZ (oE hi (by omega))]
   have hk2:=(zQQ.1 hk).1
   have hkr:p.rungs[k]?=some r:=by
    rw [List.getElem?_take] at hk;split at hk
    ·exact hk
    cases hk
   rw [if_pos (by omega),eC hkr,eC hx,aZ (by unfold I64;omega)];by_cases hv:r.var=p.rungs[i].var
   ·rw [if_pos hv,decide_eq_true hv];rfl
   rw [if_neg hv,decide_eq_false hv];rfl
 have hi:=(zQQ.1 hx).1;rw [if_pos (by omega),eC hx,qMG p (by have:=h.size r (zQM hx);omega),aG,aZ (oE hi (by omega))];rfl
def byR (p:Go.Proofs.YtldaknhjmhlefaaGreatDoor.Program) (i:Nat) (r:Rung):Expr:=if r.kind=2 then ⟨3,(p.names.length:Int)+i,[]⟩ else r.expr
def vR (p:Go.Proofs.YtldaknhjmhlefaaGreatDoor.Program):Nat→Expr→Option Expr
 | 0,c=>some c
 | i+1,c=>match p.rungs[i]? with
  | none=>some c
  | some r=>if 20000 < szE c+qW r.var c * (szE (byR p i r) - 1) then none else vR p i (kC r.var (byR p i r) c)
def xW (p:Go.Proofs.YtldaknhjmhlefaaGreatDoor.Program):Nat→Expr→Option Expr
 | 0,c=>some c
 | i+1,c=>match p.rungs[i]? with
  | none=>some c
  | some r=>if 20000 < szE c+qW r.var c * (szE (byR p i r) - 1) then none else if dpE (kC r.var (byR p i r) c)≤12 then xW p i (kC r.var (byR p i r) c) else none
def wW (p:Go.Proofs.YtldaknhjmhlefaaGreatDoor.Program):Int:=(p.names.length:Int)+(p.rungs.length:Int)
theorem val_dp {n:Int} {e:Expr} (hg:dQ n e=true) (hs:szE e≤20000):qEM n e=decide (dpE e≤12):=by
 show decide (kE n 1 20000 e)=_;rw [decide_eq_decide];unfold kE;constructor
 ·rintro⟨_,h,_⟩;omega
 intro h;exact⟨hg,by omega,by omega⟩
theorem qJT {p:Go.Proofs.YtldaknhjmhlefaaGreatDoor.Program} (hc:iZ p=0) {i:Nat} {r:Rung} (hx:p.rungs[i]?=some r):dQ (wW p) (byR p i r)=true∧szE (byR p i r)≤20000∧(r.kind=1∨r.kind=2):=by
 have h:=(iY hc).2.2.2.1 r (zQM hx);have hi:=(zQQ.1 hx).1;unfold nV at h;simp only [zQA,Bool.or_eq_true,decide_eq_true_eq] at h;obtain⟨h1,h2,h3⟩:=h;unfold byR wW;refine⟨?_,?_,by omega⟩
 ·split
  ·simp [dQ,gT,kX];omega
  exact wN (by omega) h3.1
 split
 ·simp [szE,szL]
 have:=h3.2.2;omega
theorem qHF {p:Go.Proofs.YtldaknhjmhlefaaGreatDoor.Program} (hc:iZ p=0) {i:Nat} {r:Rung} (hx:p.rungs[i]?=some r) {c:Expr} (hg:dQ (wW p) c=true) (hs:¬ 20000 < szE c+qW r.var c * (szE (byR p i r) - 1)):dQ (wW p) (kC r.var (byR p i r) c)=true∧szE (kC r.var (byR p i r) c)≤20000∧dpE c≤dpE (kC r.var (byR p i r) c):=
 ⟨yY _ (Int.le_refl _) (qJT hc hx).1 c hg,by have:=qMH r.var (byR p i r) c;omega,qMI _ _ c hg⟩
theorem qEK {p:Go.Proofs.YtldaknhjmhlefaaGreatDoor.Program} (hc:iZ p=0):∀ {i:Nat} {c e:Expr},vR p i c=some e→dQ (wW p) c=true→szE c≤20000→dQ (wW p) e=true∧szE e≤20000∧dpE c≤dpE e
 | 0,c,e,h,hg,hs=>by
  simp only [vR,Option.some.injEq] at h;subst h;exact⟨hg,hs,zQW _⟩
 | i+1,c,e,h,hg,hs=>by
  simp only [vR] at h;split at h
  ·simp only [Option.some.injEq] at h;subst h;exact⟨hg,hs,zQW _⟩
  rename_i r hx;split at h
  ·cases h
  rename_i hl;obtain⟨a,b,d⟩:=qHF hc hx hg hl;obtain⟨a2,b2,d2⟩:=qEK hc h a b;exact⟨a2,b2,by omega⟩
theorem qRS {p : Go.Proofs.YtldaknhjmhlefaaGreatDoor.Program} (hc : iZ p = 0) : ∀ (i : Nat) (c : Expr), dQ (wW p) c = true → szE c ≤ 20000 → dpE c ≤ 12 → xW p i c = (vR p i c).bind fun e => if dpE e ≤ 12 then some e else none
 | 0,c,hg,hs,hd=>by simp [vR,xW,hd]
 | i+1,c,hg,hs,hd=>by
  simp only [vR,xW];split
  ·simp [hd]
  rename_i r hx;split
  ·rfl
  rename_i hl;obtain⟨a,b,d⟩:=qHF hc hx hg hl;split
  ·rename_i h12;exact qRS hc i _ a b h12
  rename_i h12
  cases he:vR p i (kC r.var (byR p i r) c) with
  | none=>rfl
  | some e=>
   obtain⟨a2,b2,d2⟩:=qEK hc he a b;show none=if dpE e≤12 then some e else none;rw [if_neg (by omega)]
def yM (p:Go.Proofs.YtldaknhjmhlefaaGreatDoor.Program) (e:Expr):Expr×Int:=
 if iZ p=0∧qEM (p.names.length:Int) e=true then
  match xW p p.rungs.length e with
  | some x=>(x,0)
  | none=>(⟨0,0,[]⟩,2)
 else (⟨0,0,[]⟩,1)
theorem qGZ {n i:Nat} {k:Int} (h1:n≤20000) (h2:i≤20000) (hk:(0:Int)≤k∧k≤20000):I64 (k - 1)∧I64 ((i:Int) * (k - 1))∧I64 ((n:Int)+(i:Int) * (k - 1)):=by
 have h3:(i:Int) * (k - 1)≤20000 * 20000:=by
  rcases Int.le_total 0 (k - 1) with h|h
  ·exact Int.mul_le_mul (by omega) (by omega) h (by omega)
  have := Int.mul_nonpos_of_nonneg_of_nonpos (show (0 : Int) ≤ (i : Int) by omega) h;omega
 have h4:-20000≤(i:Int) * (k - 1):=by
  rcases Int.le_total 0 (k - 1) with h|h
  ·have := Int.mul_nonneg (show (0 : Int) ≤ (i : Int) by omega) h;omega
  have h5 : k = 0 ∨ k = 1 := by omega
  rcases h5 with h5|h5<;>subst h5<;>omega
 unfold I64;omega
theorem qJU {a c b:Nat} (hb:1≤b):((20000:Int) < (a:Int)+(c:Int) * ((b:Int) - 1))↔20000 < a+c * (b - 1):=by
 have:(c:Int) * ((b:Int) - 1)=((c * (b - 1):Nat):Int):=by
  rw [Int.natCast_mul,Int.natCast_sub hb];rfl
 rw [this];omega
theorem qLF {p:Go.Proofs.YtldaknhjmhlefaaGreatDoor.Program} {i:Nat} {r:Rung} (hx:p.rungs[i]?=some r) (c:Expr):xW p (i+1) c=if 20000 < szE c+qW r.var c * (szE (byR p i r) - 1) then none else if dpE (kC r.var (byR p i r) c)≤12 then xW p i (kC r.var (byR p i r) c) else none:=by
 simp only [xW,hx]
theorem qLE {p:Go.Proofs.YtldaknhjmhlefaaGreatDoor.Program} {i:Nat} {r:Rung} (hx:p.rungs[i]?=some r) (c:Expr):vR p (i+1) c=if 20000 < szE c+qW r.var c * (szE (byR p i r) - 1) then none else vR p i (kC r.var (byR p i r) c):=by
 simp only [vR,hx]
def endB (o:Option Expr):(Int×Int×List Expr) ⊕ (Expr×Int):=match o with
 | some e=>.inl (e.op,e.var,e.args)
 | none=>.inr (⟨0,0,[]⟩,2)
theorem qLK {p:Go.Proofs.YtldaknhjmhlefaaGreatDoor.Program} (h:Slim p) {e:Expr} (hs:szE e≤2000000):jJ p e=some (yM p e):=by
 have hlen:=h.rungs;unfold jJ yM;rw [qKO h.ok,aG];by_cases hc:iZ p=0
 ·rw [if_pos hc, qAG _ (qJD (n := 0) (e := e) (by omega)), aG, aG];by_cases hv:qEM (p.names.length:Int) e=true
  ·obtain⟨hn1,hn2,hn3,hn4,hn5⟩:=iY hc;have hV:kE (p.names.length:Int) 1 20000 e:=of_decide_eq_true hv;have hsz:szE e≤20000:=by have:=hV.2.2;omega
   have hge:dQ (wW p) e=true:=wN (by unfold wW;omega) hV.1;rw [hv,if_neg (by simp),if_pos ⟨hc,rfl⟩,aZ (by unfold I64;omega),qAJ (-1) (b:=⟨0,0,[]⟩) (by simp [szE,szL]) (by omega),yX _ (.inl (by omega)) e hge,aG,aZ (by unfold I64;omega)]
   obtain ⟨o, h1, h2⟩ := qIZ (f := fun ((i19 : Int), (c20 : Int), (c21 : Int), (c22 : List Expr)) =>
    if (0 : Int) ≤ i19 then
     aU p.rungs i19 fun e25 =>
     aA (
      if e25.kind = (2 : Int) then
       aB (I64 ((p.names.length : Int) + i19)) <|
       some ((3 : Int), ((p.names.length : Int) + i19), ([] : List Expr))
      else
       some (e25.expr.op, e25.expr.var, e25.expr.args)) fun (c26, c27, c28) =>
     aA (jB (⟨c20, c21, c22⟩ : Expr)) fun r32 =>
     aA (iG (⟨c20, c21, c22⟩ : Expr) e25.var) fun r33 =>
     aA (jB (⟨c26, c27, c28⟩ : Expr)) fun r34 =>
     aB (I64 (r34 - (1 : Int))) <|
     aB (I64 (r33 * (r34 - (1 : Int)))) <|
     aB (I64 (r32 + (r33 * (r34 - (1 : Int))))) <|
     if (20000 : Int) < (r32 + (r33 * (r34 - (1 : Int)))) then
      aI (
       aI (
        some ((⟨(0 : Int), (0 : Int), ([] : List Expr)⟩ : Expr), (2 : Int))))
     else
      aA (gG (⟨c20, c21, c22⟩ : Expr) e25.var (⟨c26, c27, c28⟩ : Expr)) fun r41 =>
      aA (fW r41 ((p.names.length : Int) + (p.rungs.length : Int))) fun r42 =>
      if (!(r42)) = true then
       aI (
        aI (
         some ((⟨(0 : Int), (0 : Int), ([] : List Expr)⟩ : Expr), (2 : Int))))
      else
       aB (I64 (i19 - (1 : Int))) <|
       some (.inl ((i19 - (1 : Int)), r41.op, r41.var, r41.args))
    else
     aI (
      some (.inl (c20, c21, c22)))) (s := ((p.rungs.length : Int) - (1 : Int), e.op, e.var, e.args))
    (λo=>o=endB (xW p p.rungs.length e))
    (fun k s => ∃ c : Expr, s = ((p.rungs.length : Int) - 1 - (k : Int), c.op, c.var, c.args) ∧ xW p (p.rungs.length - k) c = xW p p.rungs.length e ∧ dQ (wW p) c = true ∧ szE c ≤ 20000) p.rungs.length (by unfold qHS; omega) ⟨e, by simp, rfl, hge, hsz⟩ (fun k hk s hI => by
     obtain ⟨c, rfl, hb, hg, hcs⟩ := hI;obtain ⟨i, hi⟩ : ∃ i, p.rungs.length - k = i + 1 := ⟨p.rungs.length - k - 1, by omega⟩;have hil : i < p.rungs.length := by omega
     have hx := zQR hil;have hidx : (p.rungs.length : Int) - 1 - (k : Int) = (i : Int) := by omega
     obtain ⟨bg, bs, bk⟩ := qJT hc hx
     have hby : (if p.rungs[i].kind = (2 : Int) then
       aB (I64 ((p.names.length : Int) + (i : Int))) <|
       some ((3 : Int), ((p.names.length : Int) + (i : Int)), ([] : List Expr))
      else
       some (p.rungs[i].expr.op, p.rungs[i].expr.var, p.rungs[i].expr.args)) = some ((byR p i p.rungs[i]).op, (byR p i p.rungs[i]).var, (byR p i p.rungs[i]).args) := by
      unfold byR;by_cases hk2 : p.rungs[i].kind = 2
      ·rw [if_pos hk2, if_pos hk2, aZ (by unfold I64; omega)]
      rw [if_neg hk2, if_neg hk2]
     rw [hi] at hb;rw [qLF hx] at hb;dsimp only;rw [hidx, if_pos (by omega), eC hx, hby, aG];dsimp only;rw [Expr.eta, Expr.eta, qKA (by omega), aG, qKN _ (by omega), aG, qKA (by omega), aG];have hcnt := qNQ p.rungs[i].var c;have hp1 := vX (byR p i p.rungs[i]);obtain ⟨g1, g2, g3⟩ := qGZ (n := szE c) (i := qW p.rungs[i].var c) (k := (szE (byR p i p.rungs[i]) : Int)) hcs (by omega) (by omega);rw [aZ g1, aZ g2, aZ g3];by_cases hl : 20000 < szE c + qW p.rungs[i].var c * (szE (byR p i p.rungs[i]) - 1)
     ·right;rw [if_pos hl] at hb;rw [if_pos ((qJU hp1).2 hl), ← hb];exact ⟨_, rfl, rfl⟩
     ·rw [if_neg hl] at hb;obtain ⟨q1, q2, q3⟩ := qHF hc hx hg hl;rw [if_neg (fun h => hl ((qJU hp1).1 h)), qAJ _ (by omega) (by omega), aG, qAG _ (qJD (n := 0) (by omega)), aG, show ((p.names.length : Int) + (p.rungs.length : Int)) = wW p from rfl, val_dp q1 q2];by_cases hd : dpE (kC p.rungs[i].var (byR p i p.rungs[i]) c) ≤ 12
      ·left;rw [if_pos hd] at hb;rw [decide_eq_true hd, if_neg (by simp), aZ (by unfold I64; omega)];refine ⟨_, rfl, kC p.rungs[i].var (byR p i p.rungs[i]) c, ?_, ?_, q1, q2⟩
       ·rw [show ((i : Int) - 1) = (p.rungs.length : Int) - 1 - ((k + 1 : Nat) : Int) by omega]
       rw [show p.rungs.length - (k + 1) = i by omega];exact hb
      right;rw [if_neg hd] at hb;rw [decide_eq_false hd, if_pos (by simp), ← hb]
      exact ⟨_, rfl, rfl⟩) (fun s hI => by
     obtain ⟨c, rfl, hb, hg, hcs⟩ := hI;rw [Nat.sub_self] at hb;dsimp only;rw [if_neg (by omega), ← hb]
     exact ⟨_, rfl, rfl⟩)
   rw [h1,h2]
   cases xW p p.rungs.length e with
   | none=>rfl
   | some x=>show cU (some (Sum.inl (x.op,x.var,x.args))) _=_;rw [eI];dsimp only;rw [Expr.eta]
  rw [Bool.not_eq_true] at hv;rw [hv,if_pos (by simp),if_neg (by simp)]
 rw [if_neg hc,aG,if_pos rfl,if_neg (λh=>hc h.1)]
theorem qKF (r:Rung):szE r.expr≤r.enc.bulk:=by
 have:=qCK r.expr;rw [Expr.encR_eq] at this;simp only [Rung.enc,Expr.enc,D.bulk,D.bulks] at *;omega
theorem yU : ∀ l : List Rung, (l.map fun r => szE r.expr).sum ≤ D.bulks (l.map Rung.enc)
 | []=>by simp [D.bulks]
 | r :: l=>by
  have:=qKF r;have:=yU l;simp only [List.map_cons,List.sum_cons,D.bulks];omega
theorem qBY {p:Go.Proofs.YtldaknhjmhlefaaGreatDoor.Program} {n:Nat} (h:p.enc.bulk≤n):(p.rungs.map λr=>szE r.expr).sum≤n∧p.rungs.length≤n∧p.names.length≤n:=by
 have h1:=yU p.rungs;have h2:=D.length_le (p.rungs.map Rung.enc);have h3:=D.length_le (p.names.map D.str);rw [zQC] at h2 h3;simp only [Go.Proofs.YtldaknhjmhlefaaGreatDoor.Program.enc,D.bulk,D.bulks] at h;omega
theorem qCM : ∀ {l : List Rung} {r : Rung}, r ∈ l → szE r.expr ≤ (l.map fun r => szE r.expr).sum
 | x :: l,r,h=>by
  rw [List.map_cons,List.sum_cons];rcases zQB.1 h with rfl|h
  ·omega
  have:=qCM h;omega
theorem qKD {p:Go.Proofs.YtldaknhjmhlefaaGreatDoor.Program} (hw:Go.Proofs.YtldaknhjmhlefaaGreatDoor.Program.Wf p) (h:p.enc.bulk≤1048576):Slim p:=by
 obtain⟨h1,h2,h3⟩:=qBY h;refine⟨⟨by omega,by omega,λr hr=>qKR (hw.rungs.2 r hr).expr⟩,by omega,λr hr=>?_⟩;have:=qCM hr;omega
theorem qLW {p:Go.Proofs.YtldaknhjmhlefaaGreatDoor.Program} {e:Expr} (hp:p.enc.bulk≤1048576) (hs:szE e≤1048576):∃ b,lN p e=some b:=by
 obtain⟨h1,h2,h3⟩:=qBY hp;unfold lN;rw [qCN (by omega),aG,yR (λr:Rung=>szE r.expr) (λr=>jT r.expr) _ (by omega) (by omega) (by omega) λr hr=>qCN (by have:=qCM hr;omega),aG];exact⟨_,rfl⟩
theorem qFO {p:Go.Proofs.YtldaknhjmhlefaaGreatDoor.Program} (h:Slim p) (m:Machine):kZ p m=some (zR p m):=by
 have hr:=h.rungs;unfold kZ zR;rw [qKL h,aG];by_cases hh:iZ p=0∧m.vars.length=p.names.length∧m.counts.length=p.rungs.length
 ·obtain⟨h1,h2,h3⟩:=hh;have hzl:(List.zip p.rungs m.counts).length=p.rungs.length:=by rw [List.length_zip];omega
  rw [if_pos h1,if_pos (by omega),aG,decide_eq_true (show (m.counts.length:Int)=(p.rungs.length:Int) by omega),if_neg (by simp),decide_eq_true ⟨h1,h2,h3⟩,Bool.true_and];rw [pF (List.zip p.rungs m.counts) (λx=>!qNT x.1 x.2) (.inr false) (.inl ()) (by omega) (λi x hx=>?_) (by rw [if_neg (by omega)];rfl),qE]
  ·cases (List.zip p.rungs m.counts).all (λx=>qNT x.1 x.2)<;>rfl
  have hi:=(zQQ.1 hx).1;obtain⟨r,c⟩:=x;rw [List.getElem?_zip_eq_some] at hx;obtain⟨hx1,hx2⟩:=hx;dsimp only at hx1 hx2 ⊢;rw [if_pos (by omega),eC hx2,eC hx2,eC hx1,aZ (oE hi (by omega))];unfold qNT;by_cases hc:c < 0
  ·rw [if_pos hc, aG, if_pos rfl, if_pos (by rw [decide_eq_false (by omega)]; rfl)];rfl
  rw [if_neg hc,aG];by_cases hd:r.preset < c
  ·rw [decide_eq_true hd,if_pos rfl,if_pos (by rw [decide_eq_false (by omega)];rfl)];rfl
  rw [decide_eq_false hd,if_neg (by simp),if_neg (by rw [decide_eq_true (by omega)];simp)]
 rw [decide_eq_false hh,Bool.false_and]
 have e1:(if iZ p=(0:Int) then if (m.vars.length:Int)=(p.names.length:Int) then some (!(decide ((m.counts.length:Int)=(p.rungs.length:Int)))) else some true else some true)=some true:=by
  by_cases h1:iZ p=0
  ·rw [if_pos h1];by_cases h2:m.vars.length=p.names.length
   ·rw [if_pos (by omega),decide_eq_false (by omega)];rfl
   rw [if_neg (by omega)]
  rw [if_neg h1]
 rw [e1,aG,if_pos rfl]
theorem qVV (r : Rung) (c : Int) (v : Bool) (h0 : 0 ≤ c) (h1 : c ≤ r.preset) (hp : r.kind = 2 → 1 ≤ r.preset ∧ r.preset ≤ 1073741824) : (if r.kind = (2 : Int) then
       aA (
        if v = true then
         aB (I64 (c + (1 : Int))) <|
         some (min (c + (1 : Int)) r.preset)
        else
         some (0 : Int)) fun n43 =>
       some (decide (n43 = r.preset), n43)
      else
       some (v, c)) = some ((vS r v c).2, (vS r v c).1) := by
 unfold vS;by_cases h2:r.kind=2
 ·have hp:=hp h2;rw [if_pos h2,if_pos h2]
  cases v with
  | false=>rw [if_neg Bool.false_ne_true,if_neg Bool.false_ne_true,aG,decide_eq_false (by omega)]
  | true=>
   rw [if_pos rfl,if_pos rfl,aZ (by unfold I64;omega),aG];by_cases hl:c < r.preset
   ·rw [if_pos hl,Int.min_eq_left (by omega)]
   rw [if_neg hl,Int.min_eq_right (by omega),show r.preset=c by omega]
 rw [if_neg h2,if_neg h2]
theorem qMR {p : Go.Proofs.YtldaknhjmhlefaaGreatDoor.Program} {n : Nat} {I V : List Bool} (hn : p.inputs = (n : Int)) (hl : n ≤ V.length) (hv : V.length ≤ 1000000000) : aT (ρ := List Bool) (fun (i14, b15) =>
    if i14 < p.inputs then
     if i14 < (I.length : Int) then
      aU I i14 fun e21 =>
      aU b15 i14 fun e22 =>
      aB (I64 (i14 + (1 : Int))) <|
      some (.inl ((i14 + (1 : Int)), (b15.set i14.toNat e21)))
     else
      aU b15 i14 fun e19 =>
      aB (I64 (i14 + (1 : Int))) <|
      some (.inl ((i14 + (1 : Int)), (b15.set i14.toNat false)))
    else
     aI (
      some b15)) ((0 : Int), (([] : List Bool) ++ V)) = some (inV n I V) := by
 have hsetin (k:Nat) (hk:k < V.length):(inV k I V).set k (I.getD k false)=inV (k+1) I V:=by
  unfold inV;rw [List.set_append_right _ _ (by simp),List.range_succ,List.map_append];simp only [zQC,List.length_range,Nat.sub_self,List.map_cons,List.map_nil,List.append_assoc];rw [List.drop_eq_getElem_cons hk];rfl
 rw [hn,rX n (λk=>inV k I V) (o:=inV n I V) (by simp [inV]) (by omega) (λk hk=>?_) (by dsimp only;rw [if_neg (by omega)];rfl)];have hlk:(inV k I V).length=V.length:=qDR (by omega);have hgk:(inV k I V)[k]?=some ((inV k I V)[k]'(by omega)):=zQR (by omega);dsimp only;rw [if_pos (by omega),show ((k:Int)).toNat=k by omega,← hsetin k (by omega)];by_cases hki:k < I.length
 ·rw [if_pos (by omega), eC (zQR hki), eC hgk, aZ (by unfold I64; omega), zQD, zQR hki];rfl
 rw [if_neg (by omega), eC hgk, aZ (by unfold I64; omega), zQD, List.getElem?_eq_none (by omega)];rfl
theorem zQ {p:Go.Proofs.YtldaknhjmhlefaaGreatDoor.Program} {m:Machine} (h:zR p m=true):iZ p=0∧m.vars.length=p.names.length∧m.counts.length=p.rungs.length∧∀ x∈List.zip p.rungs m.counts,0≤x.2∧x.2≤x.1.preset:=by
 unfold zR at h;simp only [zQA,decide_eq_true_eq,zQT] at h;obtain⟨⟨hz,hvl,hcl⟩,hcnt⟩:=h;refine⟨hz,hvl,hcl,λx hx=>?_⟩;have:=hcnt x hx;unfold qNT at this;exact of_decide_eq_true this
theorem qMQ {p:Go.Proofs.YtldaknhjmhlefaaGreatDoor.Program} (h:Slim p) {m:Machine} (I:List Bool) (hf:zR p m=true) (hh:m.halted=false):nA p m I=some ⟨lY (List.zip p.rungs m.counts) (inV p.inputs.toNat I m.vars),uP (List.zip p.rungs m.counts) (inV p.inputs.toNat I m.vars),false⟩:=by
 have hr:=h.rungs;obtain⟨hz,hvl,hcl,hcnt⟩:=zQ hf;obtain⟨hn1,hn2,hn3,hn4,hn5⟩:=iY hz;unfold nA;rw [qFO h,aG,hf,if_neg (by simp),aG,hh,if_neg (by simp),aZ (by simp;omega),aZ (by simp;omega),qMR (n:=p.inputs.toNat) (by omega) (by omega) (by omega),aG];have hV0:(inV p.inputs.toNat I m.vars).length=p.names.length:=by rw [qDR (by omega),hvl]
 generalize inV p.inputs.toNat I m.vars=V0 at hV0;have hzl:(List.zip p.rungs m.counts).length=p.rungs.length:=by rw [List.length_zip];omega
 rw [rX p.rungs.length (λk=>(lY ((List.zip p.rungs m.counts).take k) V0,(uP (List.zip p.rungs m.counts) V0).take k++m.counts.drop k)) (o:=(lY (List.zip p.rungs m.counts) V0,uP (List.zip p.rungs m.counts) V0)) (by simp [lY]) (by omega) (λk hk=>?_) (by dsimp only;rw [if_neg (by omega),List.take_of_length_le (by omega),List.take_of_length_le (by rw [zY];omega),List.drop_of_length_le (by omega),List.append_nil];rfl),aG];have hrk:=zQR hk;obtain⟨c,hck⟩:∃ c,m.counts[k]?=some c:=⟨_,zQR (by omega)⟩;have hrm:=List.getElem_mem hk;have hrb:=hn4 _ hrm;have hrs:=h.size _ hrm;generalize p.rungs[k]=r at hrk hrm hrb hrs;have hzk:(List.zip p.rungs m.counts)[k]?=some (r,c):=List.getElem?_zip_eq_some.2 ⟨hrk,hck⟩;have hcb3:=hcnt _ (zQM hzk);unfold nV at hrb;simp only [zQA,Bool.or_eq_true,decide_eq_true_eq] at hrb;dsimp only at hcb3;have hVk:(lY ((List.zip p.rungs m.counts).take k) V0).length=p.names.length:=by rw [uV,hV0]
 have hcg:((uP (List.zip p.rungs m.counts) V0).take k++m.counts.drop k)[k]?=some c:=by
  rw [List.getElem?_append_right (by rw [List.length_take];omega),List.length_take,zY,hzl,show k - min k p.rungs.length=0 by omega,List.getElem?_drop];exact hck
 have hvk:0≤r.var∧r.var.toNat < p.names.length:=by omega
 have hnext:lY ((List.zip p.rungs m.counts).take (k+1)) V0=yS (lY ((List.zip p.rungs m.counts).take k) V0) (r,c):=by
  rw [List.take_add_one,hzk,qEX];rfl
 have hcnx:(uP (List.zip p.rungs m.counts) V0)[k]?=some (vS r (evE (lY ((List.zip p.rungs m.counts).take k) V0) r.expr) c).1:=by
  unfold uP;rw [List.getElem?_mapIdx,hzk];rfl
 have hcset (x:Int) (hx:(uP (List.zip p.rungs m.counts) V0)[k]?=some x):((uP (List.zip p.rungs m.counts) V0).take k++m.counts.drop k).set k x=(uP (List.zip p.rungs m.counts) V0).take (k+1)++m.counts.drop (k+1):=by
  have hlt:((uP (List.zip p.rungs m.counts) V0).take k).length=k:=by rw [List.length_take,zY];omega
  rw [List.set_append_right _ _ (by omega),hlt,Nat.sub_self,List.take_add_one,hx,List.drop_eq_getElem_cons (by omega),List.set_cons_zero,List.append_assoc];rfl
 rw [hnext,← hcset _ hcnx];unfold yS;dsimp only;rw [if_pos (by omega),eC hrk];generalize (uP (List.zip p.rungs m.counts) V0).take k++m.counts.drop k=T at hcg;generalize lY ((List.zip p.rungs m.counts).take k) V0=U at hVk;obtain⟨old,hvg⟩:∃ b,U[r.var.toNat]?=some b:=⟨_,zQR (by omega)⟩;rw [qAL U (by omega),aG];have hact:=qVV r c (evE U r.expr) hcb3.1 hcb3.2 (λh2=>by omega);have hg64:I64 ((k:Int)+1):=oE hk (by omega);by_cases h2:r.kind=2
 ·rw [if_pos h2] at hact;rw [if_pos h2,eC hcg]
  cases hv:evE U r.expr with
  | false=>
   rw [hv,if_neg Bool.false_ne_true,aG] at hact;have h3:=Prod.mk.inj (Option.some.inj hact);rw [if_neg Bool.false_ne_true,aG,eC hcg,aG];dsimp only;rw [nI hvk.1 hvg,aZ hg64,← h3.1,← h3.2];rfl
  | true=>
   have hg1:I64 (c+1):=by unfold I64;omega
   rw [hv,if_pos rfl,aZ hg1,aG] at hact;have h3:=Prod.mk.inj (Option.some.inj hact);rw [if_pos rfl,aZ hg1,aG,eC hcg,aG];dsimp only;rw [nI hvk.1 hvg,aZ hg64,← h3.1,← h3.2];rfl
 rw [if_neg h2] at hact;have h3:=Prod.mk.inj (Option.some.inj hact);rw [if_neg h2,aG];dsimp only;rw [nI hvk.1 hvg,aZ hg64,← h3.1,← h3.2]
 have hTs:T.set k c=T:=by
  apply List.ext_getElem?;intro j;rw [List.getElem?_set];split
  ·rename_i hj;subst hj;rw [if_pos (zQQ.1 hcg).1,hcg]
  rfl
 rw [hTs]
theorem qEA {n:Nat} {V:List Bool} (hV:V.length=n) (T:List Bool):∀ (k:Nat) (e:Expr),szE e≤k→dQ (n:Int) e=true→evE (V++T) e=evE V e
 | 0,e,h,_=>by have:=vX e;omega
 | k+1,e,h,hg=>by
  have hse:=kH e;obtain⟨hf,hx⟩:=goodE_iff.1 hg;have ih:e.args.map (evE (V++T))=e.args.map (evE V):=List.map_congr_left λx hm=>qEA hV T k x (by have:=kQ hm;omega) (hx x hm);rw [uN,uN,ih];unfold opB;by_cases h3:e.op=3
  ·rw [if_pos h3,if_pos h3];unfold gT at hf;rw [if_neg (by omega),if_pos h3,decide_eq_true_eq] at hf;rw [zQD,zQD,List.getElem?_append_left (by omega)]
  rw [if_neg h3,if_neg h3]
theorem qJI {V:List Bool} {x:Int} (h0:0≤x) (h1:x.toNat < V.length) (b:Expr):∀ (k:Nat) (e:Expr),szE e≤k→evE V (kC x b e)=evE (V.set x.toNat (evE V b)) e
 | 0,e,h=>by have:=vX e;omega
 | k+1,e,h=>by
  have hse:=kH e
  have ih:(e.args.map (kC x b)).map (evE V)=e.args.map (evE (V.set x.toNat (evE V b))):=by
   rw [List.map_map];exact List.map_congr_left λy hm=>qJI h0 h1 b k y (by have:=kQ hm;omega)
  rw [qIR];by_cases hc:e.op=3∧e.var=x
  ·rw [if_pos hc,uN _ e];unfold opB;rw [if_pos hc.1,hc.2,decide_eq_true h0,Bool.true_and,zQD,List.getElem?_set_self h1];rfl
  rw [if_neg hc,uN,uN _ e];dsimp only;rw [ih];unfold opB;by_cases h3:e.op=3
  ·rw [if_pos h3,if_pos h3];have hne:e.var≠x:=λh=>hc ⟨h3,h⟩;by_cases hv:0≤e.var
   ·rw [zQD,zQD,List.getElem?_set_ne (by omega)]
   rw [decide_eq_false hv,Bool.false_and,Bool.false_and]
  rw [if_neg h3,if_neg h3]
theorem qVU {r:Rung} {v:Bool} {c:Int} (h2:r.kind=2) (h0:0≤c) (h1:c≤r.preset) (hp:1≤r.preset):(vS r v c).2=decide ((vS r v c).1=r.preset):=by
 unfold vS;rw [if_pos h2]
 cases v with
 | false=>rw [if_neg Bool.false_ne_true,decide_eq_false (by omega)]
 | true=>
  rw [if_pos rfl];split<;>rfl
def qCJ (l:List (Rung×Int)) (V:List Bool):List Bool:=l.mapIdx λi x=>decide (x.1.kind=2)&&decide ((vS x.1 (evE (lY (l.take i) V) x.1.expr) x.2).1=x.1.preset)
theorem qEN (l:List (Rung×Int)) (V:List Bool):(qCJ l V).length=l.length:=by simp [qCJ]
theorem qIL {l:List (Rung×Int)} {V:List Bool} {i:Nat} {x:Rung×Int} (h:l[i]?=some x):(qCJ l V)[i]?=some (decide (x.1.kind=2)&&decide ((vS x.1 (evE (lY (l.take i) V) x.1.expr) x.2).1=x.1.preset)):=by
 unfold qCJ;rw [List.getElem?_mapIdx,h];rfl
theorem qSZ {l:List (Rung×Int)} {V:List Bool} {i:Nat} {x:Rung×Int} (h:l[i]?=some x):(uP l V)[i]?=some (vS x.1 (evE (lY (l.take i) V) x.1.expr) x.2).1:=by
 unfold uP;rw [List.getElem?_mapIdx,h];rfl
theorem back {p:Go.Proofs.YtldaknhjmhlefaaGreatDoor.Program} {m:Machine} (hf:zR p m=true) {V:List Bool} (hV:V.length=p.names.length):∀ (i:Nat) (c e:Expr),i≤p.rungs.length→vR p i c=some e→evE (V++qCJ (List.zip p.rungs m.counts) V) e=evE (lY ((List.zip p.rungs m.counts).take i) V++qCJ (List.zip p.rungs m.counts) V) c
 | 0,c,e,_,h=>by
  simp only [vR,Option.some.injEq] at h;subst h;rfl
 | i+1,c,e,hi,h=>by
  obtain⟨hz,hvl,hcl,hcnt⟩:=zQ hf;obtain⟨hn1,hn2,hn3,hn4,hn5⟩:=iY hz;have hil:i < p.rungs.length:=by omega
  have hrk:=zQR hil;have hrm:=List.getElem_mem hil;rw [qLE hrk] at h;have hrb:=hn4 _ hrm;generalize p.rungs[i]=r at hrk hrm hrb h;obtain⟨k,hck⟩:∃ c,m.counts[i]?=some c:=⟨_,zQR (by omega)⟩;have hzk:(List.zip p.rungs m.counts)[i]?=some (r,k):=List.getElem?_zip_eq_some.2 ⟨hrk,hck⟩;have hcb:=hcnt _ (zQM hzk);have hzl:(List.zip p.rungs m.counts).length=p.rungs.length:=by rw [List.length_zip];omega
  have htl:=qEN (List.zip p.rungs m.counts) V;unfold nV at hrb;simp only [zQA,Bool.or_eq_true,decide_eq_true_eq] at hrb;dsimp only at hcb;split at h
  ·cases h
  have hnext:lY ((List.zip p.rungs m.counts).take (i+1)) V=yS (lY ((List.zip p.rungs m.counts).take i) V) (r,k):=by
   rw [List.take_add_one,hzk,qEX];rfl
  have hta:=qIL (V:=V) hzk;have hVk:(lY ((List.zip p.rungs m.counts).take i) V).length=p.names.length:=by rw [uV,hV]
  rw [back hf hV i _ _ (by omega) h,hnext];generalize lY ((List.zip p.rungs m.counts).take i) V=U at hVk hta;generalize qCJ (List.zip p.rungs m.counts) V=T at hta htl;dsimp only at hta
  have hval:evE (U++T) (byR p i r)=(vS r (evE U r.expr) k).2:=by
   unfold byR;by_cases h2:r.kind=2
   ·rw [if_pos h2,uN];unfold opB;dsimp only;rw [if_pos rfl,decide_eq_true (by omega),Bool.true_and,zQD,List.getElem?_append_right (by omega),show ((p.names.length:Int)+(i:Int)).toNat - U.length=i by omega,hta,qVU h2 hcb.1 hcb.2 (by omega),decide_eq_true h2,Bool.true_and];rfl
   rw [if_neg h2,qEA hVk T _ r.expr (zQW _) hrb.2.2.1];unfold vS;rw [if_neg h2]
  rw [qJI (by omega) (by rw [zQL];omega) _ _ c (zQW _),hval,List.set_append_left _ _ (by omega)];rfl
theorem qBE {p0:Go.Proofs.YtldaknhjmhlefaaGreatDoor.Program} {p1:Expr} {p2:Moment} (w0:Go.Proofs.YtldaknhjmhlefaaGreatDoor.Program.Wf p0) (w1:Expr.Wf p1) (w2:Moment.Wf p2) (hb:D.bulks [p0.enc,p1.enc,p2.enc]≤1048576):gE p0 p1 p2=some true:=by
 have hp:p0.enc.bulk≤1048576:=by simp only [D.bulks] at hb;omega
 have he:szE p1≤1048576:=by
  have:=qCK p1;rw [Expr.encR_eq] at this;simp only [D.bulks] at hb;omega
 obtain⟨b,hs⟩:=qLW hp he;have h:=qKD w0 hp;have hlen:=h.rungs
 have skip:(aA (some true) λx1=>if x1=true then aA gY λr9=>some r9 else none)=some true:=by
  rw [aG,if_pos rfl,qJY,aG]
 unfold gE;rw [hs,aG,qJY]
 cases b with
 | false=>rfl
 | true=>
  rw [if_neg (by simp)];by_cases hi:(3000:Int) < (p2.inputs.length:Int)
  ·rw [if_pos hi];rfl
  rw [if_neg hi]
  cases hh:p2.machine.halted with
  | true=>rfl
  | false=>
   rw [if_neg Bool.false_ne_true,qFO h,aG,aG]
   cases hf:zR p0 p2.machine with
   | false=>rfl
   | true=>
    obtain⟨hz,hvl,hcl,hcnt⟩:=zQ hf;obtain⟨hn1,hn2,hn3,hn4,hn5⟩:=iY hz;rw [if_neg (by simp),qLK h (by omega),aG];by_cases hv:qEM (p0.names.length:Int) p1=true
    ·have hV:kE (p0.names.length:Int) 1 20000 p1:=of_decide_eq_true hv;have hsz:szE p1≤20000:=by have:=hV.2.2;omega
     have hdp:dpE p1≤12:=by have:=hV.2.1;omega
     have hge:dQ (wW p0) p1=true:=wN (by unfold wW;omega) hV.1;unfold yM;rw [if_pos ⟨hz,hv⟩,qRS hz _ _ hge hsz hdp]
     cases hbe:vR p0 p0.rungs.length p1 with
     | none=>rfl
     | some x=>
      obtain⟨q1,q2,q3⟩:=qEK hz hbe hge hsz;by_cases hd:dpE x≤12
      ·rw [Option.bind_some,if_pos hd];dsimp only;rw [if_pos rfl,qMQ h p2.inputs hf hh,aG,aZ (by simp;omega),qMR (n:=p0.inputs.toNat) (by omega) (by omega) (by omega),aG];have hV0:(inV p0.inputs.toNat p2.inputs p2.machine.vars).length=p0.names.length:=by rw [qDR (by omega),hvl]
       generalize inV p0.inputs.toNat p2.inputs p2.machine.vars=V0 at hV0;have hzl:(List.zip p0.rungs p2.machine.counts).length=p0.rungs.length:=by rw [List.length_zip];omega
       have htl:=qEN (List.zip p0.rungs p2.machine.counts) V0;have hback:=back hf hV0 _ _ _ (zQW _) hbe;rw [List.take_of_length_le (by omega)] at hback;rw [qEA (n:=p0.names.length) (by rw [uV,hV0]) _ _ p1 (zQW _) hV.1] at hback;rw [rX p0.rungs.length (λk=>V0++(qCJ (List.zip p0.rungs p2.machine.counts) V0).take k) (o:=V0++qCJ (List.zip p0.rungs p2.machine.counts) V0) (by simp) (by omega) (λk hk=>?_) (by dsimp only;rw [if_neg (by omega),List.take_of_length_le (by omega)];rfl),aG,qAL _ (by omega),aG,qAL _ (by omega),aG,hback,if_pos (by simp),aG,aG];have hrk:=zQR hk;generalize p0.rungs[k]=r at hrk;obtain⟨c,hck⟩:∃ c,p2.machine.counts[k]?=some c:=⟨_,zQR (by omega)⟩;have hzk:(List.zip p0.rungs p2.machine.counts)[k]?=some (r,c):=List.getElem?_zip_eq_some.2 ⟨hrk,hck⟩;have hta:=qIL (V:=V0) hzk;have hca:=qSZ (V:=V0) hzk;dsimp only at hta hca ⊢;rw [if_pos (by omega),eC hrk,List.take_add_one,hta];have hg64:I64 ((k:Int)+1):=oE hk (by omega);by_cases h2:r.kind=2
       ·rw [if_pos h2, eC hca, aZ (by simp; omega), aZ hg64, decide_eq_true h2, Bool.true_and, List.append_assoc];rfl
       rw [if_neg h2, aZ (by simp; omega), aZ hg64, decide_eq_false h2, Bool.false_and, List.append_assoc];rfl
      rw [Option.bind_some,if_neg hd];rfl
    unfold yM;rw [if_neg (λh=>hv h.2)];rw [Bool.not_eq_true] at hv;dsimp only;rw [if_neg (by decide),if_neg (by decide),qAK _ (by omega),aG,hv];rfl
end Go.Proofs.YtldaknhjmhlefaaGreatDoor
