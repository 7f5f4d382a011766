/- Texts of this proof, joined, without what it does not use. No condition. -/
import Derived.Test.YtldaknhjmhlefaaGreatDoorQt

set_option maxHeartbeats 8000000
set_option linter.unusedSimpArgs false
set_option linter.unusedVariables false
set_option maxRecDepth 20000
namespace Go.Proofs.YtldaknhjmhlefaaGreatDoor
open Go Go.TL
theorem xI {p0:Program} {p1:Expr} {r0:Expr} {r1:Int} (hm:jM p0 p1=some (r0,r1)):RetT Tryz.prog 21 [p0.enc,p1.enc] [r0.enc,.int .i64 r1]:=by
 refine .of (mv:=λ_=>false) (eG qJA Tryz.func21 Q Tryz.ntmps21 Q Q (λwX gX=>?_));unfold jM at hm;refine WN [0,1] Q Q (RS (bZ 0 Q Q Q (bZ 1 Q Q Q (cA 2 Q Q aG Q (cD 2 [none,none,some 3] Q Q (SA TK Q (TN (WN [2,3,4] Q Q ?_))))))));refine RS (SA TK Q (SA TK Q (SX Q Q (aL TK Q Q Q) (SA TK Q (TN (WN [2,3,4,6] Q Q (TQ ?_)))))));refine aF hm (λx1=>([(23,.d (.bool (x1)))]:Fr)) (λx1=>([]:List (Nat×Blk))) [23] [2,3,4,6] Q (λz2 hm=>?_) (λx1 hm=>?_)
 ·refine TG (SA TK Q (BE hm λr3 hr3 hm=>SX Q Q (RN Q Q (SC (.d _) SN) (wQ hr3)) (SA TK Q (SB TK Q (λq4 hq4=>?_)))));cases q4
  ·replace hm:=fC hq4 hm;refine SA TK Q (SA TK Q (BE hm λr5 hr5 hm=>SX Q Q (RN Q Q (SC (.d _) (SC (.d _) SN)) (kP hr5)) (SA TK Q (SA TK Q (TN (WT ?_))))));exact⟨_,[0,1,2],(SJ hm),Q,k0,Q⟩
  replace hm:=fB hq4 hm;iterate 5 (refine SA TK Q ?_)
  refine TN (WT ?_);exact⟨_,[0,1,2],(SJ hm),Q,k0,Q⟩
 refine WN [2,3,4,6,23] Q Q ?_;refine TC _ Q (λh6=>?_) (λh6=>?_)
 ·replace hm:=JA h6 hm;refine RS (SX Q Q (bB Q gS aG Q Q Q Q) (qW 24 [none,none,some 3] Q (SA TK Q (SA TK Q (TN (WN [4,5] Q Q (TR (WR ?_))))))));obtain⟨rfl,rfl⟩:=Prod.mk.inj (Option.some.inj hm);exact⟨_,.mk _ (.cons (.agg (TK.lay Q) Q Q Q Q) (.cons (.tmp 5) .nil)) Q,(.cons (.d _) (.refl _) (.cons (.d _) (.refl _) .nil))⟩
 replace hm:=JB h6 hm;refine TS (WT (WN [2,3,4,6] Q Q (RS (SA TK Q (SA TK Q (SA TK Q (SX Q Q (aL TK Q Q Q) (GE hm λg7 hm=>SX Q Q (aR Q Q Q Q g7) (SA TK Q ?_)))))))));refine TN (WN [2,3,4,6,7] Q Q (RS (SA TK Q (SX Q Q (bB Q gS aG Q Q Q Q) (qW 31 [none,none,some 3] Q (BE hm λr8 hr8 hm=>SX Q Q (RD Q Q Q (kQ hr8)) (cA 3 Q Q aG Q ?_)))))));refine cD 3 [none,none,some 3] Q Q (SA TK Q (TN (WN [2,4,6,7,8] Q Q ?_)));refine bI hm (λ(c9,c10,c11)=>([]:Fr)) (λ(c9,c10,c11)=>([(3,.box 40 [.d (.int .i64 c9),.d (.int .i64 c10),.d (.sl 3 (c11.map Expr.encR))])]:List (Nat×Blk))) [] [4,8] Q (λz12 hm hz12=>?_) (λj hm=>?_)
 ·refine RS (SA TK Q (SA TK Q (SX Q Q (aL TK Q Q Q) (GE hm λg13 hm=>SX Q Q (aR Q Q Q Q g13) (SA TK Q (TN (WN [2,4,6,7,8,9] Q Q (TB ?_))))))));refine aM hm (λ(i19,c20,c21,c22)=>([(9,.d (.int .i64 i19))]:Fr)) (λ(i19,c20,c21,c22)=>([(3,.box 40 [.d (.int .i64 c20),.d (.int .i64 c21),.d (.sl 3 (c22.map Expr.encR))])]:List (Nat×Blk))) [9] [2,4,6,7,8] [0,1,2,3] Q k0 Q Q Q Q Q (λs z23 hm hz23=>?_);obtain⟨i19,c20,c21,c22⟩:=s;refine WN [2,4,6,7,8,9] Q Q (TQ (RS (SA TK Q (SA TK Q (TN (WN [2,4,6,7,8,9,38] Q Q ?_))))));refine TC _ Q (λh24=>?_) (λh24=>?_)
  ·replace hm:=JT h24 hm;refine TS (WT (WN [2,4,6,7,8,9] Q Q (TQ (TB (RS (SA TK Q (SA TK Q (SA TK Q (VE hm λe25 he25 hm=>SX Q Q (bC TK Q Q Q Q he25) ?_)))))))));refine SA TK Q (cA 4 Q Q jG Q (cD 4 [none,none,none,none,none,some 3] Q Q (SA TK Q (TN (WN [2,4,6,7,8,9,10] Q Q (RS (SA TK Q (SA TK Q (cA 5 Q Q aG Q ?_)))))))));refine cD 5 [none,none,some 3] Q Q (SA TK Q (TN (WN [2,4,6,7,8,9,10,11] Q Q ?_)));refine aF hm (λ(c26,c27,c28)=>([]:Fr)) (λ(c26,c27,c28)=>([(5,.box 40 [.d (.int .i64 c26),.d (.int .i64 c27),.d (.sl 3 (c28.map Expr.encR))])]:List (Nat×Blk))) [] [2,4,6,7,8,9,10,11] Q (λz29 hm=>?_) (λj hm=>?_)
   ·refine RS (SA TK Q (SA TK Q (SA TK Q (TN (WN [2,4,6,7,8,9,10,11,50] Q Q ?_)))));refine TC _ Q (λh30=>?_) (λh30=>?_)
    ·replace hm:=JT h30 hm;refine TG (SA TK Q (SA TK Q (GE hm λg31 hm=>SX Q Q (aR Q Q Q Q g31) (SX Q Q (bB Q gS aG Q Q Q Q) (qW 54 [none,none,some 3] Q (SA TK Q (TN (WT ?_))))))));exact⟨_,[0,1,2,3,4,5],(SJ hm),Q,k0,Q⟩
    replace hm:=JF h30 hm;refine TS (WT ?_);exact⟨_,[0,1,2,3,4,5],(SJ hm),Q,k0,Q⟩
   obtain⟨c26,c27,c28⟩:=j;refine WN [2,4,6,7,8,9,10,11] Q Q (TQ (bE follows  (DA [0,1,2,3,4,5] TK Q (BE hm λr32 hr32 hm=>DX [0,1,2,3,4,5] Q Q (RN Q Q (SC (.d _) SN) (oE hr32)) ?_))));iterate 3 (refine DA [0,1,2,3,4,5] TK Q ?_)
   refine BE hm λr33 hr33 hm=>DX [0,1,2,3,4,5] Q Q (RN Q Q (SC (.d _) (SC (.d _) SN)) (qK hr33)) (DA [0,1,2,3,4,5] TK Q (BE hm λr34 hr34 hm=>DX [0,1,2,3,4,5] Q Q (RN Q Q (SC (.d _) SN) (oE hr34)) (GE hm λg35 hm=>DX [0,1,2,3,4,5] Q Q (aR Q Q Q Q g35) (GE hm λg36 hm=>DX [0,1,2,3,4,5] Q Q (aR Q Q Q Q g36) ?_))));refine GE hm λg37 hm=>DX [0,1,2,3,4,5] Q Q (aR Q Q Q Q g37) (DA [0,1,2,3,4,5] TK Q ?_);refine DT ?_ (by kernel_rfl);refine TN (WN [2,4,6,7,8,9,10,11,66] Q Q ?_);refine TC _ Q (λh38=>?_) (λh38=>?_)
   ·replace hm:=JT h38 hm;refine RS (SX Q Q (bB Q gS aG Q Q Q Q) (qW 67 [none,none,some 3] Q (SA TK Q (SA TK Q (TN (WN [4,5] Q Q (TR (WR (WB ?_)))))))));refine WR (IE hm λv39 hm hz=>?_);rw [hz23 _ hz] at hm;refine WR (WB (IE hm λv40 hm hz=>?_));rw [hz12 _ hz] at hm;refine WR ?_;obtain⟨rfl,rfl⟩:=Prod.mk.inj (Option.some.inj hm);exact⟨_,.mk _ (.cons (.agg (TK.lay Q) Q Q Q Q) (.cons (.tmp 5) .nil)) Q,(.cons (.d _) (.refl _) (.cons (.d _) (.refl _) .nil))⟩
   replace hm:=JF h38 hm;refine TS (WT (WN [2,4,6,7,8,9,10,11] Q Q (RS ?_)));iterate 4 (refine SA TK Q ?_)
   refine BE hm λr41 hr41 hm=>SX Q Q (RD Q Q Q (kQ hr41)) (SA TK Q (TN (WN [2,4,6,7,8,9] Q Q (RS (SA TK Q (SA TK Q (BE hm λr42 hr42 hm=>SX Q Q (RN Q Q (SC (.d _) (SC (.d _) SN)) (kP hr42)) ?_)))))));refine SA TK Q (TN (WN [2,4,6,7,8,9,76] Q Q ?_));refine TC _ Q (λh43=>?_) (λh43=>?_)
   ·replace hm:=JA h43 hm;refine RS (SX Q Q (bB Q gS aG Q Q Q Q) (qW 77 [none,none,some 3] Q (SA TK Q (SA TK Q (TN (WN [4,5] Q Q (TR (WB (WR ?_)))))))));refine IE hm λv44 hm hz=>?_;rw [hz23 _ hz] at hm;refine WR (WB (IE hm λv45 hm hz=>?_));rw [hz12 _ hz] at hm;refine WR ?_;obtain⟨rfl,rfl⟩:=Prod.mk.inj (Option.some.inj hm);exact⟨_,.mk _ (.cons (.agg (TK.lay Q) Q Q Q Q) (.cons (.tmp 5) .nil)) Q,(.cons (.d _) (.refl _) (.cons (.d _) (.refl _) .nil))⟩
   replace hm:=JB h43 hm;refine TS (WK (WT (WN [2,4,6,7,8,9] Q Q (TG (SA TK Q (GE hm λg46 hm=>SX Q Q (aR Q Q Q Q g46) (SA TK Q ?_)))))));refine TN (WT ?_);exact⟨_,[0,1,2,3],(SJ hm),Q,k0,Q⟩
  replace hm:=JF h24 hm;refine aD (WX (IE hm λv47 hm hz=>?_));rw [hz23 _ hz] at hm;refine WX (WH (WT ?_));exact⟨_,[0,1,2,3],(SJ hm),Q,k0,Q⟩
 obtain⟨c9,c10,c11⟩:=j;refine WN [4,8] Q Q (RS (SA TK Q (SA TK Q (SA TK Q (TN (WN [4,5] Q Q (TR ?_)))))));obtain⟨rfl,rfl⟩:=Prod.mk.inj (Option.some.inj hm);exact⟨_,.mk _ (.cons (.agg (TK.lay Q) Q Q Q Q) (.cons (.tmp 5) .nil)) Q,(.cons (.d _) (.refl _) (.cons (.d _) (.refl _) .nil))⟩
theorem qAK:∀ (fu:Nat) {p0:Expr} {p1:Expr} {r:Bool} (hm:hR fu p0 p1=some r),RetN Tryz.prog 23 [p0.enc,p1.enc] (.bool (r)):=by
 intro fu
 induction fu with
 | zero=>
  intro p0 p1 r hm;unfold hR at hm;cases hm
 | succ fu ih=>
  intro p0 p1 r hm;refine .unit (aE qUD Tryz.func23 Q Tryz.ntmps23 Q Q (λwX gX=>?_)) Q;unfold hR at hm;refine WN [0,1] Q Q (RS (bZ 0 Q Q Q (bZ 1 Q Q Q (SA TK Q (TN (WN [2,3] Q Q (TQ ?_)))))));refine eB [(26,.d (.bool (((!(decide (p0.op=p1.op)))||((!(decide (p0.var=p1.var)))||(!(decide ((p0.args.length:Int)=(p1.args.length:Int)))))))))] [26] [2,3] Q ?_ ?_
  ·refine TG ?_;iterate 5 (refine SA TK Q ?_)
   refine SB TK Q (λq1 hq1=>?_);cases q1
   ·iterate 6 (refine SA TK Q ?_)
    refine SB TK Q (λq2 hq2=>?_);cases q2
    ·refine SA TK Q (SA TK Q (SX Q Q (aL TK Q Q Q) (SA TK Q (SA TK Q (SX Q Q (aL TK Q Q Q) (SA TK Q (SA TK Q (TN (WT ?_)))))))));exact⟨[0,1],Q,k0,bA (aI (aK (by first|(simp [hq1,hq2];done)|(simp only [hq1,hq2];simp))) Q) Q⟩
    iterate 8 (refine SA TK Q ?_)
    refine TN (WT ?_);exact⟨[0,1],Q,k0,bA (aI (aK (by first|(simp [hq1,hq2];done)|(simp only [hq1,hq2];simp))) Q) Q⟩
   iterate 15 (refine SA TK Q ?_)
   refine TN (WT ?_);exact⟨[0,1],Q,k0,bA (aI (aK (by first|(simp [hq1];done)|(simp only [hq1];simp))) Q) Q⟩
  refine WN [2,3,26] Q Q ?_;refine TC _ Q (λh3=>?_) (λh3=>?_)
  ·replace hm:=JA h3 hm;refine RS (SA TK Q (TN (WN [4] Q Q (TR (WR ?_)))));obtain rfl:=OJ hm;exact EndsS.one _ Q (.d _) (.refl _)
  replace hm:=JB h3 hm;refine TS (WT (WN [2,3] Q Q ?_));refine bI hm (λ_=>([]:Fr)) (λ_=>([]:List (Nat×Blk))) [] [] Q (λz4 hm hz4=>?_) (λj hm=>?_)
  ·refine RS (SA TK Q (TN (WN [2,3,5] Q Q (TB (aM hm (λi6=>([(5,.d (.int .i64 i6))]:Fr)) (λi6=>([]:List (Nat×Blk))) [5] [2,3] [0,1] Q k0 Q Q Q Q Q (λi6 z7 hm hz7=>WN [2,3,5] Q Q (TQ (RS ?_))))))));refine SA TK Q (SA TK Q (SA TK Q (SX Q Q (aL TK Q Q Q) (SA TK Q (TN (WN [2,3,5,31] Q Q ?_))))));refine TC _ Q (λh8=>?_) (λh8=>?_)
   ·replace hm:=JT h8 hm;refine TS (WT (WN [2,3,5] Q Q (TQ (TB (bE follows  ?_)))));iterate 3 (refine DA [0,1] TK Q ?_)
    refine VE hm λe9 he9 hm=>DX [0,1] Q Q (lV TK Q Q Q Q he9 (Expr.encR_eq _)) ?_;iterate 4 (refine DA [0,1] TK Q ?_)
    refine VE hm λe10 he10 hm=>DX [0,1] Q Q (lV TK Q Q Q Q he10 (Expr.encR_eq _)) (DA [0,1] TK Q (BE hm λr11 hr11 hm=>DX [0,1] Q Q (RN Q Q (SC (.d _) (SC (.d _) SN)) (ih hr11)) (DA [0,1] TK Q ?_)));refine DT ?_ (by kernel_rfl);refine TN (WN [2,3,5,45] Q Q ?_);refine TC _ Q (λh12=>?_) (λh12=>?_)
    ·replace hm:=JA h12 hm;refine RS (SA TK Q (TN (WN [4] Q Q (TR (WB (WR (IE hm λv13 hm hz=>?_)))))));rw [hz7 _ hz] at hm;refine WR (WB (IE hm λv14 hm hz=>?_));rw [hz4 _ hz] at hm;refine WR ?_;obtain rfl:=OJ hm;exact EndsS.one _ Q (.d _) (.refl _)
    replace hm:=JB h12 hm;refine TS (WK (WT (WN [2,3,5] Q Q (TG (SA TK Q (GE hm λg15 hm=>SX Q Q (aR Q Q Q Q g15) (SA TK Q ?_)))))));refine TN (WT ?_);exact⟨_,[0,1],(SJ hm),Q,k0,Q⟩
   replace hm:=JF h8 hm;refine aD (WX (IE hm λv16 hm hz=>?_));rw [hz7 _ hz] at hm;refine WX (WH (WT ?_));exact⟨_,[0,1],(SJ hm),Q,k0,Q⟩
  refine WN [] Q Q (RS (SA TK Q (TN (WN [4] Q Q (TR ?_)))));obtain rfl:=OJ hm;exact EndsS.one _ Q (.d _) (.refl _)
theorem pQ {p0:Expr} {p1:Expr} {r:Bool} (hm:kW p0 p1=some r):RetN Tryz.prog 23 [p0.enc,p1.enc] (.bool (r)):=qAK bJ hm
theorem qBD {p0:Expr} {r:If_node} (hm:rV p0=some r):RetD Tryz.prog 185 [.ptr (p0.enc) 0] (r.enc):=by
 refine .of (mv:=λ_=>false) (aE qOV Tryz.func185 Q Tryz.ntmps185 Q Q (λwX gX=>?_));unfold rV at hm;refine WN [0] Q Q (RS (SA TK Q (TN (WN [0] Q Q (TQ (RS ?_))))));iterate 4 (refine SA TK Q ?_)
 refine TN (WN [0,6] Q Q (TB (RS (SA TK Q (SA TK Q (TN (WN [0,6,7] Q Q ?_)))))));refine TC _ Q (λh1=>?_) (λh1=>?_)
 ·replace hm:=JT h1 hm;refine RS (SA TK Q (SX Q Q (bB Q plc200 qCA Q Q Q Q) (SA TK Q (SA TK Q (TN (WN [2] Q Q (TR (WB (WR ?_)))))))));obtain rfl:=OJ hm;exact EndsS.one _ Q (.d _) (.refl _)
 replace hm:=JF h1 hm;refine RS (SA TK Q (SA TK Q (TN (WN [0,6,12] Q Q ?_))));refine TC _ Q (λh2=>?_) (λh2=>?_)
 ·replace hm:=JT h2 hm;refine RS ?_;iterate 4 (refine SA TK Q ?_)
  refine SX Q Q (aL TK Q Q Q) (SA TK Q (TN (WN [0,19] Q Q ?_)));refine TC _ Q (λh3=>?_) (λh3=>?_)
  ·replace hm:=JT h3 hm;refine RS (SA TK Q (SX Q Q (bB Q plc201 qBZ Q Q Q Q) (SA TK Q (SA TK Q (TN (WN [2] Q Q (TR (WB (WR ?_)))))))));obtain rfl:=OJ hm;exact EndsS.one _ Q (.d _) (.refl _)
  replace hm:=JF h3 hm;refine TS (WK (WT (WN [0] Q Q (RS (SA TK Q (SX Q Q (bB Q qMB qHT Q Q Q Q) (SA TK Q (SA TK Q (TN ?_)))))))));refine WN [2] Q Q (TR ?_);obtain rfl:=OJ hm;exact EndsS.one _ Q (.d _) (.refl _)
 replace hm:=JF h2 hm;refine RS (SA TK Q (SA TK Q (TN (WN [0,6,23] Q Q ?_))));refine TC _ Q (λh4=>?_) (λh4=>?_)
 ·replace hm:=JT h4 hm;refine RS (SA TK Q (SX Q Q (bB Q plc202 qBY Q Q Q Q) (SA TK Q (SA TK Q (TN (WN [2] Q Q (TR (WB (WR ?_)))))))));obtain rfl:=OJ hm;exact EndsS.one _ Q (.d _) (.refl _)
 replace hm:=JF h4 hm;refine RS (SA TK Q (SA TK Q (TN (WN [0,28] Q Q ?_))));refine TC _ Q (λh5=>?_) (λh5=>?_)
 ·replace hm:=JT h5 hm;refine RS (SA TK Q (SX Q Q (bB Q plc203 qBX Q Q Q Q) (SA TK Q (SA TK Q (TN (WN [2] Q Q (TR (WB (WR ?_)))))))));obtain rfl:=OJ hm;exact EndsS.one _ Q (.d _) (.refl _)
 replace hm:=JF h5 hm;refine TS (WK (WT (WN [0] Q Q (RS (SA TK Q (SX Q Q (bB Q qMB qHT Q Q Q Q) (SA TK Q (SA TK Q (TN ?_)))))))));refine WN [2] Q Q (TR ?_);obtain rfl:=OJ hm;exact EndsS.one _ Q (.d _) (.refl _)
theorem qDN:∀ (fu:Nat) {p0:Expr} {p1:(List Bool)} {r:Bool} (hm:iX fu p0 p1=some r),RetN Tryz.prog 120 [.ptr (p0.enc) 0,.sl 1 (p1.map D.bool)] (.bool (r)):=by
 intro fu
 induction fu with
 | zero=>
  intro p0 p1 r hm;unfold iX at hm;cases hm
 | succ fu ih=>
  intro p0 p1 r hm;refine .unit (aE qQO Tryz.func120 Q Tryz.ntmps120 Q Q (λwX gX=>?_)) Q;unfold iX at hm;refine WN [0,1] Q Q (RS (SA TK Q (TN (WN [0,1] Q Q ?_))));refine bI hm (λ_=>([]:Fr)) (λ_=>([]:List (Nat×Blk))) [] [0] Q (λz1 hm hz1=>?_) (λj hm=>?_)
  ·refine RS (SA TK Q (BE hm λr2 hr2 hm=>SX Q Q (RD Q Q Q (qBD hr2)) (TN (WN [0,1,12] Q Q (TB (RS ?_))))));by_cases h3:r2.tid=200
   ·rw [if_pos h3] at hm;refine SX Q Q (qHX Q qIX Q h3) (SA TK Q (SA TK Q (TN (WN [0,1,12,14,15] Q Q ?_))));refine TC true Q (λ_=>?_) (λh=>by cases h);refine RS (cA 0 Q Q qCA Q (SA TK Q (TN (WN [1,5] Q Q ?_))));refine aF hm (λx4=>([(4,.d (.bool (x4)))]:Fr)) (λx4=>([]:List (Nat×Blk))) [4] [] Q (λz5 hm=>?_) (λx4 hm=>?_)
    ·refine TG ?_;iterate 6 (refine SA TK Q ?_)
     refine SB TK Q (λq6 hq6=>?_);cases q6
     ·replace hm:=JF hq6 hm;iterate 20 (refine SA TK Q ?_)
      refine TN (WT ?_);exact⟨_,[0],(SJ hm),Q,k0,Q⟩
     replace hm:=JT hq6 hm;iterate 6 (refine SA TK Q ?_)
     refine SX Q Q (aL TK Q Q Q) (SA TK Q (SA TK Q (SB TK Q (λq7 hq7=>?_))));cases q7
     ·replace hm:=JF hq7 hm;iterate 10 (refine SA TK Q ?_)
      refine TN (WT ?_);exact⟨_,[0],(SJ hm),Q,k0,Q⟩
     replace hm:=JT hq7 hm;iterate 6 (refine SA TK Q ?_)
     refine VE hm λe8 he8 hm=>SX Q Q (bC TK Q Q Q Q he8) (SA TK Q (SA TK Q (SA TK Q (TN (WT ?_)))));exact⟨_,[0],(SJ hm),Q,k0,Q⟩
    refine WN [4] Q Q (TR (WB (IE hm λv9 hm hz=>?_)));rw [hz1 _ hz] at hm;refine WR ?_;obtain rfl:=OJ hm;exact EndsS.one _ Q (.d _) (.refl _)
   rw [if_neg h3] at hm;refine SX Q Q (qHY Q qIX Q h3 qCA Q) (SA TK Q (SA TK Q (TN (WN [0,1,12,14] Q Q (TC false Q (λh=>by cases h) (λ_=>RS ?_))))));by_cases h10:r2.tid=201
   ·rw [if_pos h10] at hm;refine SX Q Q (qHX Q qIW Q h10) (SA TK Q (SA TK Q (TN (WN [0,1,12,43,44] Q Q ?_))));refine TC true Q (λ_=>?_) (λh=>by cases h);refine RS (cA 0 Q Q qBZ Q (SA TK Q (TN (WN [1,6] Q Q (RS ?_)))));iterate 5 (refine SA TK Q ?_)
    refine VE hm λe11 he11 hm=>SX Q Q (lV TK Q Q Q Q he11 (Expr.encR_eq _)) (SA TK Q (BE hm λr12 hr12 hm=>SX Q Q (RN Q Q (SC (.d _) (SC (.d _) SN)) (ih hr12)) (SA TK Q (SA TK Q (TN (WN [4] Q Q (TR ?_)))))));refine WB (IE hm λv13 hm hz=>?_);rw [hz1 _ hz] at hm;refine WR ?_;obtain rfl:=OJ hm;exact EndsS.one _ Q (.d _) (.refl _)
   rw [if_neg h10] at hm;refine SX Q Q (qHY Q qIW Q h10 qBZ Q) (SA TK Q (SA TK Q (TN (WN [0,1,12,43] Q Q (TC false Q (λh=>by cases h) (λ_=>RS ?_))))));by_cases h14:r2.tid=202
   ·rw [if_pos h14] at hm;refine SX Q Q (qHX Q qIV Q h14) (SA TK Q (SA TK Q (TN (WN [0,1,12,55,56] Q Q ?_))));refine TC true Q (λ_=>?_) (λh=>by cases h);refine RS (cA 0 Q Q qBY Q (SA TK Q (TN (WN [1,7] Q Q ?_))));refine bI hm (λ_=>([]:Fr)) (λ_=>([]:List (Nat×Blk))) [] [] Q (λz15 hm hz15=>?_) (λj hm=>?_)
    ·refine RS ?_;iterate 5 (refine SA TK Q ?_)
     refine SX Q Q (aL TK Q Q Q) (SA TK Q (TN (WN [1,7,62,63] Q Q (TB (aM hm (λx17=>([(63,.d (.int .i64 x17))]:Fr)) (λx17=>([]:List (Nat×Blk))) [63] [1,7,62] [0] Q k0 Q Q Q Q Q (λx17 z18 hm hz18=>WN [1,7,62,63] Q Q (RS (SA TK Q ?_))))))));refine TN (WN [1,7,62,63,64] Q Q (TQ ?_));refine TC _ Q (λh19=>?_) (λh19=>?_)
     ·replace hm:=JT h19 hm;refine TS (WT (WN [1,7,62,63] Q Q (TQ (TB (RS (SA TK Q (SA TK Q (TN (WN [1,7,8,62,63] Q Q ?_)))))))));refine RS ?_;iterate 6 (refine SA TK Q ?_)
      refine VE hm λe20 he20 hm=>SX Q Q (lV TK Q Q Q Q he20 (Expr.encR_eq _)) (SA TK Q (BE hm λr21 hr21 hm=>SX Q Q (RN Q Q (SC (.d _) (SC (.d _) SN)) (ih hr21)) (SA TK Q (TN (WN [1,7,62,63,75] Q Q ?_)))));refine TC _ Q (λh22=>?_) (λh22=>?_)
      ·replace hm:=JA h22 hm;refine RS (SA TK Q (TN (WN [4] Q Q (TR (WB (WR (IE hm λv23 hm hz=>?_)))))));rw [hz18 _ hz] at hm;refine WR (WB (IE hm λv24 hm hz=>?_));rw [hz15 _ hz] at hm;refine WR (WB (IE hm λv25 hm hz=>?_));rw [hz1 _ hz] at hm;refine WR ?_;obtain rfl:=OJ hm;exact EndsS.one _ Q (.d _) (.refl _)
      replace hm:=JB h22 hm;refine TS (WK (WT (WN [1,7,62,63] Q Q (TG (GE hm λg26 hm=>SX Q Q (aR Q Q Q Q g26) (SA TK Q (TN ?_)))))));refine WT ?_;exact⟨_,[0],(SJ hm),Q,k0,Q⟩
     replace hm:=JF h19 hm;refine aD (WX (IE hm λv27 hm hz=>?_));rw [hz18 _ hz] at hm;refine WX (WH (WT ?_));exact⟨_,[0],(SJ hm),Q,k0,Q⟩
    refine WN [] Q Q (RS (SA TK Q (TN (WN [4] Q Q (TR (WB (IE hm λv28 hm hz=>?_)))))));rw [hz1 _ hz] at hm;refine WR ?_;obtain rfl:=OJ hm;exact EndsS.one _ Q (.d _) (.refl _)
   rw [if_neg h14] at hm;refine SX Q Q (qHY Q qIV Q h14 qBY Q) (SA TK Q (SA TK Q (TN (WN [0,1,12,55] Q Q (TC false Q (λh=>by cases h) (λ_=>RS ?_))))));by_cases h29:r2.tid=203
   ·rw [if_pos h29] at hm;refine SX Q Q (qHX Q qIU Q h29) (SA TK Q (SA TK Q (TN (WN [0,1,78,79] Q Q ?_))));refine TC true Q (λ_=>?_) (λh=>by cases h);refine RS (cA 0 Q Q qBX Q (SA TK Q (TN (WN [1,9] Q Q ?_))));refine bI hm (λ_=>([]:Fr)) (λ_=>([]:List (Nat×Blk))) [] [] Q (λz30 hm hz30=>?_) (λj hm=>?_)
    ·refine RS ?_;iterate 5 (refine SA TK Q ?_)
     refine SX Q Q (aL TK Q Q Q) (SA TK Q (TN (WN [1,9,85,86] Q Q (TB (aM hm (λx32=>([(86,.d (.int .i64 x32))]:Fr)) (λx32=>([]:List (Nat×Blk))) [86] [1,9,85] [0] Q k0 Q Q Q Q Q (λx32 z33 hm hz33=>WN [1,9,85,86] Q Q (RS (SA TK Q ?_))))))));refine TN (WN [1,9,85,86,87] Q Q (TQ ?_));refine TC _ Q (λh34=>?_) (λh34=>?_)
     ·replace hm:=JT h34 hm;refine TS (WT (WN [1,9,85,86] Q Q (TQ (TB (RS (SA TK Q (SA TK Q (TN (WN [1,9,10,85,86] Q Q ?_)))))))));refine RS ?_;iterate 6 (refine SA TK Q ?_)
      refine VE hm λe35 he35 hm=>SX Q Q (lV TK Q Q Q Q he35 (Expr.encR_eq _)) (SA TK Q (BE hm λr36 hr36 hm=>SX Q Q (RN Q Q (SC (.d _) (SC (.d _) SN)) (ih hr36)) (TN (WN [1,9,85,86,97] Q Q ?_))));refine TC _ Q (λh37=>?_) (λh37=>?_)
      ·replace hm:=JA h37 hm;refine RS (SA TK Q (TN (WN [4] Q Q (TR (WB (WR (IE hm λv38 hm hz=>?_)))))));rw [hz33 _ hz] at hm;refine WR (WB (IE hm λv39 hm hz=>?_));rw [hz30 _ hz] at hm;refine WR (WB (IE hm λv40 hm hz=>?_));rw [hz1 _ hz] at hm;refine WR ?_;obtain rfl:=OJ hm;exact EndsS.one _ Q (.d _) (.refl _)
      replace hm:=JB h37 hm;refine TS (WK (WT (WN [1,9,85,86] Q Q (TG (GE hm λg41 hm=>SX Q Q (aR Q Q Q Q g41) (SA TK Q (TN ?_)))))));refine WT ?_;exact⟨_,[0],(SJ hm),Q,k0,Q⟩
     replace hm:=JF h34 hm;refine aD (WX (IE hm λv42 hm hz=>?_));rw [hz33 _ hz] at hm;refine WX (WH (WT ?_));exact⟨_,[0],(SJ hm),Q,k0,Q⟩
    refine WN [] Q Q (RS (SA TK Q (TN (WN [4] Q Q (TR (WB (IE hm λv43 hm hz=>?_)))))));rw [hz1 _ hz] at hm;refine WR ?_;obtain rfl:=OJ hm;exact EndsS.one _ Q (.d _) (.refl _)
   rw [if_neg h29] at hm;refine SX Q Q (qHY Q qIU Q h29 qBX Q) (SA TK Q (SA TK Q (TN (WN [0,1,78] Q Q (TC false Q (λh=>by cases h) (λ_=>TS (WK (WT ?_))))))));exact⟨_,[],(SJ hm),Q,k0,Q⟩
  refine WN [0] Q Q (RS ?_);iterate 6 (refine SA TK Q ?_)
  refine TN (WN [4] Q Q (TR ?_));obtain rfl:=OJ hm;exact EndsS.one _ Q (.d _) (.refl _)
theorem qFX {p0:Expr} {p1:(List Bool)} {r:Bool} (hm:qBV p0 p1=some r):RetN Tryz.prog 120 [.ptr (p0.enc) 0,.sl 1 (p1.map D.bool)] (.bool (r)):=qDN bJ hm
theorem qFY {p0:Expr} {p1:(List Bool)} {r:Bool} (hm:wI p0 p1=some r):RetN Tryz.prog 52 [p0.enc,.sl 1 (p1.map D.bool)] (.bool (r)):=by
 refine .unit (aE qTO Tryz.func52 Q Tryz.ntmps52 Q Q (λwX gX=>?_)) Q;unfold wI at hm;refine WN [0,1] Q Q (RS (bZ 0 Q Q Q (SA TK Q (TN (WN [1,2] Q Q (qJB 0 Q Q Q Q Q (RS (SA TK Q ?_))))))));refine BE hm λr1 hr1 hm=>SX Q Q (RN Q Q (SC (.d _) (SC (.d _) SN)) (qFX hr1)) (SA TK Q (TN (WN [4] Q Q (TR ?_))));obtain rfl:=OJ hm;exact EndsS.one _ Q (.d _) (.refl _)
theorem uX {p0:Obligation} {p1:Machine} {r:Bool} (hm:lR p0 p1=some r):RetN Tryz.prog 51 [p0.enc,.ptr (p1.enc) 0] (.bool (r)):=by
 refine .unit (aE qTP Tryz.func51 Q Tryz.ntmps51 Q Q (λwX gX=>?_)) Q;unfold lR at hm;refine WN [0,1] Q Q (RS (bZ 0 Q Q Q (SA TK Q (TN (WN [1,2] Q Q (RS ?_))))));iterate 4 (refine SA TK Q ?_)
 refine BE hm λr1 hr1 hm=>SX Q Q (RN Q Q (SC (.d _) (SC (.d _) SN)) (qFY hr1)) (SA TK Q (SA TK Q (TN (WN [3] Q Q (TR ?_)))));obtain rfl:=OJ hm;exact EndsS.one _ Q (.d _) (.refl _)
theorem lJ {p0:(List Obligation)} {p1:Obligation→Option Bool} {c1:D} (hf1:∀ a0 r,p1 a0=some r→∃ F cs,qFT c1=some (F,cs)∧RetD Tryz.prog F ([a0.enc]++cs) (.bool (r))) {r:Int} (hm:fK p0 p1=some r):RetN Tryz.prog 50 [.sl 4 (p0.map Obligation.enc),c1] (.int .i64 r):=by
 refine .unit (aE qTQ Tryz.func50 Q Tryz.ntmps50 Q Q (λwX gX=>?_)) Q;unfold fK at hm;refine WN [0,1] Q Q (RS (SA TK Q (TN (WN [0,1] Q Q ?_))));refine bI hm (λ_=>([]:Fr)) (λ_=>([]:List (Nat×Blk))) [] [] Q (λz1 hm hz1=>?_) (λj hm=>?_)
 ·refine RS (SA TK Q (SX Q Q (aL TK Q Q Q) (SA TK Q (TN (WN [0,1,7,8] Q Q (TB (aM hm (λx3=>([(8,.d (.int .i64 x3))]:Fr)) (λx3=>([]:List (Nat×Blk))) [8] [0,1,7] [] Q k0 Q Q Q Q Q (λx3 z4 hm hz4=>WN [0,1,7,8] Q Q ?_))))))));refine RS (SA TK Q (TN (WN [0,1,7,8,9] Q Q (TQ ?_))));refine TC _ Q (λh5=>?_) (λh5=>?_)
  ·replace hm:=JT h5 hm;refine TS (WT (WN [0,1,7,8] Q Q (TQ (TB (RS (SA TK Q (SA TK Q (TN (WN [0,1,5,7,8] Q Q ?_)))))))));refine RS (SA TK Q (SA TK Q (SA TK Q (VE hm λe6 he6 hm=>SX Q Q (bC TK Q Q Q Q he6) (SA TK Q (BE hm λr7 hr7 hm=>?_))))));obtain⟨Fr7,csr7,hFr7,hcr7⟩:=hf1 _ _ hr7;refine SX Q Q (qLW Q Q hFr7 Q hcr7) (TN (WN [0,1,5,7,8,16] Q Q ?_));refine TC _ Q (λh8=>?_) (λh8=>?_)
   ·replace hm:=JA h8 hm;refine RS (SA TK Q (SA TK Q (TN (WN [4] Q Q (TR (WB (WR (IE hm λv9 hm hz=>?_))))))));rw [hz4 _ hz] at hm;refine WR (WB (IE hm λv10 hm hz=>?_));rw [hz1 _ hz] at hm;refine WR ?_;obtain rfl:=OJ hm;exact EndsS.one _ Q (.d _) (.refl _)
   replace hm:=JB h8 hm;refine TS (WK (WT (WN [0,1,7,8] Q Q (TG (GE hm λg11 hm=>SX Q Q (aR Q Q Q Q g11) (SA TK Q (TN ?_)))))));refine WT ?_;exact⟨_,[],(SJ hm),Q,k0,Q⟩
  replace hm:=JF h5 hm;refine aD (WX (IE hm λv12 hm hz=>?_));rw [hz4 _ hz] at hm;refine WX (WH (WT ?_));exact⟨_,[],(SJ hm),Q,k0,Q⟩
 refine WN [] Q Q (RS (SA TK Q (TN (WN [4] Q Q (TR ?_)))));obtain rfl:=OJ hm;exact EndsS.one _ Q (.d _) (.refl _)
theorem zF {p0:(List Obligation)} {p1:Machine} {r:Int} (hm:pZ p0 p1=some r):RetN Tryz.prog 18 [.sl 4 (p0.map Obligation.enc),p1.enc] (.int .i64 r):=by
 refine .unit (aE qUG Tryz.func18 Q Tryz.ntmps18 Q Q (λwX gX=>?_)) Q;unfold pZ at hm;refine WN [0,1] Q Q (RS (bZ 0 Q Q Q (SA TK Q (TN (WN [0,3] Q Q (qJB 0 Q Q Q Q Q (RS (SA TK Q (SA TK Q ?_)))))))));refine BE hm λr1 hr1 hm=>SX Q Q (RN Q Q (SC (.d _) (SC (.d _) SN)) (lJ (λ_ r h=>⟨51,_,Q,(uX h).retD⟩) hr1)) (SA TK Q (TN (WN [4] Q Q (TR ?_))));obtain rfl:=OJ hm;exact EndsS.one _ Q (.d _) (.refl _)
theorem oC {p0:Program} {p1:Expr} {r0:Expr} {r1:Int} (hm:jU p0 p1=some (r0,r1)):Ret Tryz.prog 21 [.flat 64 6 (p0.rungs.map Rung.enc)] (λ_=>false) [.agg [.d (.sl 1 (p0.names.map D.str)),.d (.int .i64 p0.inputs),.msl 0 6 0 p0.rungs.length],.d (p1.enc)] (.tup [.d (r0.enc),.d (.int .i64 r1)]) [.flat 64 6 (p0.rungs.map Rung.enc)]:=by
 refine cI qJA Tryz.func21 Q Tryz.ntmps21 Q Q (λwX gX=>?_);unfold jU at hm;refine WN [0,1] Q Q (RS (bZ 1 Q Q Q (bZ 2 Q Q Q (cA 3 Q Q aG Q (cD 3 [none,none,some 3] Q Q (SA TK Q (TN (WN [2,3,4] Q Q ?_))))))));refine RS (SA TK Q (SA TK Q (SX Q Q (aL TK Q Q Q) (SA TK Q (TN (WN [2,3,4,6] Q Q (TQ ?_)))))));refine aF hm (λx1=>([(23,.d (.bool (x1)))]:Fr)) (λx1=>([]:List (Nat×Blk))) [23] [2,3,4,6] Q (λz2 hm=>?_) (λx1 hm=>?_)
 ·refine TG (SA TK Q (BE hm λr3 hr3 hm=>SX Q Q (RN Q Q (SC (eD (.cons (.d _) Q (.cons (.d _) Q (.cons (bH Q) Q .nil)))) SN) (wQ hr3)) (SA TK Q (SB TK Q (λq4 hq4=>?_)))));cases q4
  ·replace hm:=fC hq4 hm;refine SA TK Q (SA TK Q (BE hm λr5 hr5 hm=>SX Q Q (RN Q Q (SC (.d _) (SC (.d _) SN)) (kP hr5)) (SA TK Q (SA TK Q (TN (WT ?_))))));exact⟨_,[0,1,2,3],(SJ hm),Q,(kB Q),Q⟩
  replace hm:=fB hq4 hm;iterate 5 (refine SA TK Q ?_)
  refine TN (WT ?_);exact⟨_,[0,1,2,3],(SJ hm),Q,(kB Q),Q⟩
 refine WN [2,3,4,6,23] Q Q ?_;refine TC _ Q (λh6=>?_) (λh6=>?_)
 ·replace hm:=JA h6 hm;refine RS (SX Q Q (bB Q gS aG Q Q Q Q) (qW 24 [none,none,some 3] Q (SA TK Q (SA TK Q (TN (WN [4,5] Q Q (TR (WR ?_))))))));obtain⟨rfl,rfl⟩:=Prod.mk.inj (Option.some.inj hm);exact⟨_,[0],.mk _ (.cons (.agg (TK.lay Q) Q Q Q Q) (.cons (.tmp 5) .nil)) Q,by decide,(kB Q),Q,Q⟩
 replace hm:=JB h6 hm;refine TS (WT (WN [2,3,4,6] Q Q (RS ?_)));iterate 4 (refine SA TK Q ?_)
 refine GE hm λg7 hm=>SX Q Q (aR Q Q Q Q g7) (SA TK Q (TN (WN [2,3,4,6,7] Q Q (RS (SA TK Q (SX Q Q (bB Q gS aG Q Q Q Q) (qW 31 [none,none,some 3] Q ?_)))))));refine BE hm λr8 hr8 hm=>SX Q Q (RD Q Q Q (kQ hr8)) (cA 4 Q Q aG Q (cD 4 [none,none,some 3] Q Q (SA TK Q (TN (WN [2,4,6,7,8] Q Q ?_)))));refine bI hm (λ(c9,c10,c11)=>([]:Fr)) (λ(c9,c10,c11)=>([(4,.box 40 [.d (.int .i64 c9),.d (.int .i64 c10),.d (.sl 3 (c11.map Expr.encR))])]:List (Nat×Blk))) [] [4,8] Q (λz12 hm hz12=>?_) (λj hm=>?_)
 ·refine RS (SA TK Q (SA TK Q (SA TK Q (GE hm λg13 hm=>SX Q Q (aR Q Q Q Q g13) (SA TK Q (TN (WN [2,4,6,7,8,9] Q Q (TB (aM hm (λ(i19,c20,c21,c22)=>([(9,.d (.int .i64 i19))]:Fr)) (λ(i19,c20,c21,c22)=>([(4,.box 40 [.d (.int .i64 c20),.d (.int .i64 c21),.d (.sl 3 (c22.map Expr.encR))])]:List (Nat×Blk))) [9] [2,4,6,7,8] [0,1,2,3,4] Q (kB Q) Q Q Q Q Q (λs z23 hm hz23=>?_))))))))));obtain⟨i19,c20,c21,c22⟩:=s;refine WN [2,4,6,7,8,9] Q Q (TQ (RS (SA TK Q (SA TK Q (TN (WN [2,4,6,7,8,9,38] Q Q ?_))))));refine TC _ Q (λh24=>?_) (λh24=>?_)
  ·replace hm:=JT h24 hm;refine TS (WT (WN [2,4,6,7,8,9] Q Q (TQ (TB (RS (SA TK Q (SA TK Q (SA TK Q (VE hm λe25 he25 hm=>SX Q Q (qG TK Q Q Q Q he25 Q) ?_)))))))));refine SX Q Q (tA TK Q Q Q Q he25.2 Q) (cA 5 Q Q jG Q (cD 5 [none,none,none,none,none,some 3] Q Q (SA TK Q (TN (WN [2,4,6,7,8,9,10] Q Q (RS (SA TK Q (SA TK Q (cA 6 Q Q aG Q ?_)))))))));refine cD 6 [none,none,some 3] Q Q (SA TK Q (TN (WN [2,4,6,7,8,9,10,11] Q Q ?_)));refine aF hm (λ(c26,c27,c28)=>([]:Fr)) (λ(c26,c27,c28)=>([(6,.box 40 [.d (.int .i64 c26),.d (.int .i64 c27),.d (.sl 3 (c28.map Expr.encR))])]:List (Nat×Blk))) [] [2,4,6,7,8,9,10,11] Q (λz29 hm=>?_) (λj hm=>?_)
   ·refine RS (SA TK Q (SA TK Q (SA TK Q (TN (WN [2,4,6,7,8,9,10,11,50] Q Q ?_)))));refine TC _ Q (λh30=>?_) (λh30=>?_)
    ·replace hm:=JT h30 hm;refine TG (SA TK Q (SA TK Q (GE hm λg31 hm=>SX Q Q (aR Q Q Q Q g31) (SX Q Q (bB Q gS aG Q Q Q Q) (qW 54 [none,none,some 3] Q (SA TK Q (TN (WT ?_))))))));exact⟨_,[0,1,2,3,4,5,6],(SJ hm),Q,(kB Q),Q⟩
    replace hm:=JF h30 hm;refine TS (WT ?_);exact⟨_,[0,1,2,3,4,5,6],(SJ hm),Q,(kB Q),Q⟩
   obtain⟨c26,c27,c28⟩:=j;refine WN [2,4,6,7,8,9,10,11] Q Q (TQ (bE follows  (DA [0,1,2,3,4,5,6] TK Q (BE hm λr32 hr32 hm=>DX [0,1,2,3,4,5,6] Q Q (RN Q Q (SC (.d _) SN) (oE hr32)) ?_))));iterate 3 (refine DA [0,1,2,3,4,5,6] TK Q ?_)
   refine BE hm λr33 hr33 hm=>DX [0,1,2,3,4,5,6] Q Q (RN Q Q (SC (.d _) (SC (.d _) SN)) (qK hr33)) (DA [0,1,2,3,4,5,6] TK Q (BE hm λr34 hr34 hm=>DX [0,1,2,3,4,5,6] Q Q (RN Q Q (SC (.d _) SN) (oE hr34)) (GE hm λg35 hm=>DX [0,1,2,3,4,5,6] Q Q (aR Q Q Q Q g35) (GE hm λg36 hm=>DX [0,1,2,3,4,5,6] Q Q (aR Q Q Q Q g36) ?_))));refine GE hm λg37 hm=>DX [0,1,2,3,4,5,6] Q Q (aR Q Q Q Q g37) (DA [0,1,2,3,4,5,6] TK Q ?_);refine DT ?_ (by kernel_rfl);refine TN (WN [2,4,6,7,8,9,10,11,66] Q Q ?_);refine TC _ Q (λh38=>?_) (λh38=>?_)
   ·replace hm:=JT h38 hm;refine RS (SX Q Q (bB Q gS aG Q Q Q Q) (qW 67 [none,none,some 3] Q (SA TK Q (SA TK Q (TN (WN [4,5] Q Q (TR (WR (WB ?_)))))))));refine WR (IE hm λv39 hm hz=>?_);rw [hz23 _ hz] at hm;refine WR (WB (IE hm λv40 hm hz=>?_));rw [hz12 _ hz] at hm;refine WR ?_;obtain⟨rfl,rfl⟩:=Prod.mk.inj (Option.some.inj hm);exact⟨_,[0],.mk _ (.cons (.agg (TK.lay Q) Q Q Q Q) (.cons (.tmp 5) .nil)) Q,by decide,(kB Q),Q,Q⟩
   replace hm:=JF h38 hm;refine TS (WT (WN [2,4,6,7,8,9,10,11] Q Q (RS ?_)));iterate 4 (refine SA TK Q ?_)
   refine BE hm λr41 hr41 hm=>SX Q Q (RD Q Q Q (kQ hr41)) (SA TK Q (TN (WN [2,4,6,7,8,9] Q Q (RS (SA TK Q (SA TK Q (BE hm λr42 hr42 hm=>SX Q Q (RN Q Q (SC (.d _) (SC (.d _) SN)) (kP hr42)) ?_)))))));refine SA TK Q (TN (WN [2,4,6,7,8,9,76] Q Q ?_));refine TC _ Q (λh43=>?_) (λh43=>?_)
   ·replace hm:=JA h43 hm;refine RS (SX Q Q (bB Q gS aG Q Q Q Q) (qW 77 [none,none,some 3] Q (SA TK Q (SA TK Q (TN (WN [4,5] Q Q (TR (WB (WR ?_)))))))));refine IE hm λv44 hm hz=>?_;rw [hz23 _ hz] at hm;refine WR (WB (IE hm λv45 hm hz=>?_));rw [hz12 _ hz] at hm;refine WR ?_;obtain⟨rfl,rfl⟩:=Prod.mk.inj (Option.some.inj hm);exact⟨_,[0],.mk _ (.cons (.agg (TK.lay Q) Q Q Q Q) (.cons (.tmp 5) .nil)) Q,by decide,(kB Q),Q,Q⟩
   replace hm:=JB h43 hm;refine TS (WK (WT (WN [2,4,6,7,8,9] Q Q (TG (SA TK Q (GE hm λg46 hm=>SX Q Q (aR Q Q Q Q g46) (SA TK Q ?_)))))));refine TN (WT ?_);exact⟨_,[0,1,2,3,4],(SJ hm),Q,(kB Q),Q⟩
  replace hm:=JF h24 hm;refine aD (WX (IE hm λv47 hm hz=>?_));rw [hz23 _ hz] at hm;refine WX (WH (WT ?_));exact⟨_,[0,1,2,3,4],(SJ hm),Q,(kB Q),Q⟩
 obtain⟨c9,c10,c11⟩:=j;refine WN [4,8] Q Q (RS (SA TK Q (SA TK Q (SA TK Q (TN (WN [4,5] Q Q (TR ?_)))))));obtain⟨rfl,rfl⟩:=Prod.mk.inj (Option.some.inj hm);exact⟨_,[0],.mk _ (.cons (.agg (TK.lay Q) Q Q Q Q) (.cons (.tmp 5) .nil)) Q,by decide,(kB Q),Q,Q⟩
theorem tK  {r:Bool} (hm:lO=some r):RetN Tryz.prog 10 [] (.bool (r)):=by
 refine .unit (aE qUK Tryz.func10 Q Tryz.ntmps10 Q Q (λwX gX=>?_)) Q;unfold lO at hm;refine WN [] Q Q (RS (SA TK Q (TN (WN [] Q Q (RS (BE hm λr1 hr1 hm=>SX Q Q (RD Q Q Q (qDH hr1)) (BE hm λr2 hr2 hm=>?_)))))));obtain⟨r3,r4⟩:=r2;refine SX Q Q (dQ Q Q Q (qAM hr2)) (SA TK Q (SA TK Q (SA TK Q (cA 0 Q Q yF Q (cD 0 [some 14,some 1,some 1,none,none] Q Q (SA TK Q (SA TK Q (TN (WN [1] Q Q (RS (SA TK Q ?_)))))))))));refine BE hm λr5 hr5 hm=>?_;obtain⟨r6,r7⟩:=r5;refine SX Q Q (dQ Q Q Q (qDF hr5)) ?_;iterate 5 (refine SA TK Q ?_)
 refine TN (WN [3,4] Q Q (RS (SX Q Q (cM [.const (Value.string ⟨#[97]⟩),.const (Value.string ⟨#[98]⟩)] TK Q Q jD Q Q Q Q Q) (BE hm λr8 hr8 hm=>SX Q Q (RD Q Q Q (pE hr8)) (SX Q Q (bB Q qII jG Q Q Q Q) (yL (f:=Rung.enc) 1 [.tmp 22] ([(⟨(1:Int),(1:Int),(0:Int),r8⟩:Rung)]:List Rung) TK Q Q Q jG Q Q Q Q Q (SX Q Q (fH Q qMA vM Q Q Q Q) ?_)))))));refine cA 2 Q Q vM Q (dK (f:=Rung.enc) 2 2 3 64 6 Q Q Q (cD 2 [some 1,none,none] Q Q (SA TK Q (TN (WN [3,4,5] Q Q (dT (bE follows  (DA [2] TK Q ?_))))))));refine BE hm λr9 hr9 hm=>DX [] Q Q (RD Q Q Q (pE hr9)) (BE hm λr10 hr10 hm=>?_);obtain⟨r11,r12⟩:=r10;refine DX [1] Q Q (aQ [1] ⟨Q,Q,λ_=>Q⟩ Q Q Q (by decide) Q (aH Q) Q Q (oC hr10)) ?_;iterate 3 (refine DA [] TK Q ?_)
 refine nT [4] _ (.mptr 4 0 0 0) Q (fI Q) Q (lF Q Q aG Q Q) (qGA 1000002 [4] [(4,.box 40 [.d (.int .i64 r11.op),.d (.int .i64 r11.var),.d (.sl 3 (r11.args.map Expr.encR))])] (fI Q) Q (qT TK Q Q Q Q Q Q Q Q Q Q) ?_);refine DT ?_ (by kernel_rfl);refine SA TK Q (TN (WN [3,4,5,6,7] Q Q (RS (SA TK Q (SA TK Q (VE hm λe13 he13 hm=>SX Q Q (qG TK Q Q Q Q he13 Q) (SA TK Q (qID (x':=(⟨(2:Int),e13.var,e13.preset,e13.expr⟩:Rung)) TK Q Q Q Q Q he13.2 Q Q Q ?_))))))));refine qBL 32 (([(⟨(1:Int),(1:Int),(0:Int),r8⟩:Rung)]:List Rung).set (0:Int).toNat (⟨(2:Int),e13.var,e13.preset,e13.expr⟩:Rung)).length Q List.length_set.symm ?_;refine qUX 2 [.d (.sl 1 (([(⟨#[97]⟩:ByteArray),(⟨#[98]⟩:ByteArray)]:List ByteArray).map D.str)),.d (.int .i64 (1:Int)),.msl 1 6 0 (([(⟨(1:Int),(1:Int),(0:Int),r8⟩:Rung)]:List Rung).set (0:Int).toNat (⟨(2:Int),e13.var,e13.preset,e13.expr⟩:Rung)).length] Q (by simp only [List.length_set]<;>rfl) ?_;refine TN (WN [3,4,5,6,7] Q Q (RS (SA TK Q (SA TK Q (VE hm λe14 he14 hm=>SX Q Q (qG TK Q Q Q Q he14 Q) (SA TK Q (qID (x':=(⟨e14.kind,e14.var,(2:Int),e14.expr⟩:Rung)) TK Q Q Q Q Q he14.2 Q Q Q (qBL 36 ((([(⟨(1:Int),(1:Int),(0:Int),r8⟩:Rung)]:List Rung).set (0:Int).toNat (⟨(2:Int),e13.var,e13.preset,e13.expr⟩:Rung)).set (0:Int).toNat (⟨e14.kind,e14.var,(2:Int),e14.expr⟩:Rung)).length Q List.length_set.symm ?_))))))));refine qUX 2 [.d (.sl 1 (([(⟨#[97]⟩:ByteArray),(⟨#[98]⟩:ByteArray)]:List ByteArray).map D.str)),.d (.int .i64 (1:Int)),.msl 1 6 0 ((([(⟨(1:Int),(1:Int),(0:Int),r8⟩:Rung)]:List Rung).set (0:Int).toNat (⟨(2:Int),e13.var,e13.preset,e13.expr⟩:Rung)).set (0:Int).toNat (⟨e14.kind,e14.var,(2:Int),e14.expr⟩:Rung)).length] Q (by simp only [List.length_set]<;>rfl) ?_;refine TN (WN [3,4,5,6,7] Q Q (dT (bE follows  (DA [2] TK Q (BE hm λr15 hr15 hm=>DX [] Q Q (RD Q Q Q (pE hr15)) (BE hm λr16 hr16 hm=>?_))))));obtain⟨r17,r18⟩:=r16;refine DX [1] Q Q (aQ [1] ⟨Q,Q,λ_=>Q⟩ Q Q Q (by decide) Q (aH Q) Q Q (oC hr16)) ?_;iterate 3 (refine DA [] TK Q ?_)
 refine nT [5] _ (.mptr 5 0 0 0) Q (fI Q) Q (lF Q Q aG Q Q) (qGA 1000004 [5] [(5,.box 40 [.d (.int .i64 r17.op),.d (.int .i64 r17.var),.d (.sl 3 (r17.args.map Expr.encR))])] (fI Q) Q (qT TK Q Q Q Q Q Q Q Q Q Q) ?_);refine DT ?_ (by kernel_rfl);refine SA TK Q (TN (WN [3,4,6,7,8,9] Q Q ?_));refine aF hm (λx19=>([(0,.d (.bool (x19)))]:Fr)) (λx19=>([]:List (Nat×Blk))) [0] [] Q (λz20 hm=>?_) (λx19 hm=>?_)
 ·refine bQ follows  ?_;iterate 2 (refine DA [0,1,2,3,4,5] TK Q ?_)
  refine d_b [0,1,2,3,4,5] TK Q (λq21 hq21=>?_);cases q21
  ·replace hm:=JF hq21 hm;iterate 42 (refine DA [0,1,2,3,4,5] TK Q ?_)
   refine DT ?_ (by kernel_rfl);refine SA TK Q (TN (WT ?_));exact⟨_,[0,1,2,3,4,5],(SJ hm),Q,k0,Q⟩
  replace hm:=JT hq21 hm;refine DA [0,1,2,3,4,5] TK Q (DX [0,1,2,3,4,5] Q Q (aL TK Q Q Q) ?_);iterate 2 (refine DA [0,1,2,3,4,5] TK Q ?_)
  refine d_b [0,1,2,3,4,5] TK Q (λq22 hq22=>?_);cases q22
  ·replace hm:=JF hq22 hm;iterate 37 (refine DA [0,1,2,3,4,5] TK Q ?_)
   refine DT ?_ (by kernel_rfl);refine SA TK Q (TN (WT ?_));exact⟨_,[0,1,2,3,4,5],(SJ hm),Q,k0,Q⟩
  replace hm:=JT hq22 hm;refine DA [0,1,2,3,4,5] TK Q (VE hm λe23 he23 hm=>DX [0,1,2,3,4,5] Q Q (bC TK Q Q Q Q he23) ?_);iterate 4 (refine DA [0,1,2,3,4,5] TK Q ?_)
  refine d_b [0,1,2,3,4,5] TK Q (λq24 hq24=>?_);cases q24
  ·replace hm:=JF hq24 hm;iterate 30 (refine DA [0,1,2,3,4,5] TK Q ?_)
   refine DT ?_ (by kernel_rfl);refine SA TK Q (TN (WT ?_));exact⟨_,[0,1,2,3,4,5],(SJ hm),Q,k0,Q⟩
  replace hm:=JT hq24 hm;refine DA [0,1,2,3,4,5] TK Q (VE hm λe25 he25 hm=>DX [0,1,2,3,4,5] Q Q (bC TK Q Q Q Q he25) ?_);iterate 4 (refine DA [0,1,2,3,4,5] TK Q ?_)
  refine d_b [0,1,2,3,4,5] TK Q (λq26 hq26=>?_);cases q26
  ·replace hm:=JF hq26 hm;iterate 23 (refine DA [0,1,2,3,4,5] TK Q ?_)
   refine DT ?_ (by kernel_rfl);refine SA TK Q (TN (WT ?_));exact⟨_,[0,1,2,3,4,5],(SJ hm),Q,k0,Q⟩
  replace hm:=JT hq26 hm;iterate 3 (refine DA [0,1,2,3,4,5] TK Q ?_)
  refine d_b [0,1,2,3,4,5] TK Q (λq27 hq27=>?_);cases q27
  ·replace hm:=JF hq27 hm;iterate 19 (refine DA [0,1,2,3,4,5] TK Q ?_)
   refine DT ?_ (by kernel_rfl);refine SA TK Q (TN (WT ?_));exact⟨_,[0,1,2,3,4,5],(SJ hm),Q,k0,Q⟩
  replace hm:=JT hq27 hm;refine DA [0,1,2,3,4,5] TK Q (BE hm λr28 hr28 hm=>DX [0,1,2,3,4,5] Q Q (RD Q Q Q (pE hr28)) (BE hm λr29 hr29 hm=>DX [0,1,2,3,4,5] Q Q (RN Q Q (SC (.d _) (SC (.d _) SN)) (pQ hr29)) (DA [0,1,2,3,4,5] TK Q (d_b [0,1,2,3,4,5] TK Q (λq30 hq30=>?_)))));cases q30
  ·replace hm:=JB hq30 hm;iterate 14 (refine DA [0,1,2,3,4,5] TK Q ?_)
   refine DT ?_ (by kernel_rfl);refine SA TK Q (TN (WT ?_));exact⟨_,[0,1,2,3,4,5],(SJ hm),Q,k0,Q⟩
  replace hm:=JA hq30 hm;iterate 3 (refine DA [0,1,2,3,4,5] TK Q ?_)
  refine d_b [0,1,2,3,4,5] TK Q (λq31 hq31=>?_);cases q31
  ·replace hm:=JF hq31 hm;iterate 10 (refine DA [0,1,2,3,4,5] TK Q ?_)
   refine DT ?_ (by kernel_rfl);refine SA TK Q (TN (WT ?_));exact⟨_,[0,1,2,3,4,5],(SJ hm),Q,k0,Q⟩
  replace hm:=JT hq31 hm;refine DA [0,1,2,3,4,5] TK Q (BE hm λr32 hr32 hm=>DX [0,1,2,3,4,5] Q Q (RD Q Q Q (pE hr32)) (BE hm λr33 hr33 hm=>DX [0,1,2,3,4,5] Q Q (RN Q Q (SC (.d _) (SC (.d _) SN)) (pQ hr33)) (DA [0,1,2,3,4,5] TK Q (d_b [0,1,2,3,4,5] TK Q (λq34 hq34=>?_)))));cases q34
  ·replace hm:=JB hq34 hm;iterate 5 (refine DA [0,1,2,3,4,5] TK Q ?_)
   refine DT ?_ (by kernel_rfl);refine SA TK Q (TN (WT ?_));exact⟨_,[0,1,2,3,4,5],(SJ hm),Q,k0,Q⟩
  replace hm:=JA hq34 hm;refine DA [0,1,2,3,4,5] TK Q (DX [0,1,2,3,4,5] Q Q (bB Q plc47 zero47 Q Q Q Q) (BE hm λr35 hr35 hm=>DX [0,1,2,3,4,5] Q Q (RN Q Q (SC (.d _) (SC (.d _) SN)) ((zF hr35).args ((.cons (.refl _) (.cons (.agg (.cons (.nil _) Q (.cons (.nil _) Q (.cons (.refl _) Q .nil)))) .nil))))) ?_));iterate 2 (refine DA [0,1,2,3,4,5] TK Q ?_)
  refine DT ?_ (by kernel_rfl);refine SA TK Q (TN (WT ?_));exact⟨_,[0,1,2,3,4,5],(SJ hm),Q,k0,Q⟩
 refine WN [0] Q Q (TR ?_);obtain rfl:=OJ hm;exact EndsS.one _ Q (.d _) (.refl _)
theorem qJO {p0:Int} {r:Expr} (hm:uO p0=some r):RetD Tryz.prog 59 [.int .i64 p0] (r.enc):=by
 refine .of (mv:=λ_=>false) (aE qTH Tryz.func59 Q Tryz.ntmps59 Q Q (λwX gX=>?_));unfold uO at hm;refine WN [0] Q Q (RS (cA 0 Q Q aG Q (cD 0 [none,none,some 3] Q Q (TN (WN [0,2] Q Q (RS (SA TK Q (SX Q Q (bB Q gS aG Q Q Q Q) ?_))))))));refine qW 4 [none,none,some 3] Q (SA TK Q (TN (WN [2] Q Q (TR ?_))));obtain rfl:=OJ hm;exact EndsS.cellR _ TK Q Q Q Q Q (.d _)
theorem qAJ:∀ (fu:Nat) {p0:Expr} {r:Int} (hm:hP fu p0=some r),RetN Tryz.prog 17 [p0.enc] (.int .i64 r):=by
 intro fu
 induction fu with
 | zero=>
  intro p0 r hm;unfold hP at hm;cases hm
 | succ fu ih=>
  intro p0 r hm;refine .unit (aE qUH Tryz.func17 Q Tryz.ntmps17 Q Q (λwX gX=>?_)) Q;unfold hP at hm;refine WN [0] Q Q (RS (bZ 0 Q Q Q (SA TK Q (TN (WN [1] Q Q (RS (SA TK Q (TN ?_))))))));refine WN [1,3] Q Q ?_;refine aF hm (λn1=>([(3,.d (.int .i64 n1))]:Fr)) (λn1=>([]:List (Nat×Blk))) [3] [] Q (λz2 hm=>?_) (λn1 hm=>?_)
  ·refine RS (SA TK Q (TN (WN [1,3,4] Q Q (TB (aM hm (λ(n5,i6)=>([(3,.d (.int .i64 n5)),(4,.d (.int .i64 i6))]:Fr)) (λ(n5,i6)=>([]:List (Nat×Blk))) [3,4] [1] [0] Q k0 Q Q Q Q Q (λs z7 hm hz7=>?_))))));obtain⟨n5,i6⟩:=s;refine WN [1,3,4] Q Q (TQ (RS (SA TK Q (SA TK Q (SA TK Q (SX Q Q (aL TK Q Q Q) (SA TK Q (TN (WN [1,3,4,9] Q Q ?_)))))))));refine TC _ Q (λh8=>?_) (λh8=>?_)
   ·replace hm:=JT h8 hm;refine TS (WT (WN [1,3,4] Q Q (TQ (TB (TG ?_)))));iterate 4 (refine SA TK Q ?_)
    refine VE hm λe9 he9 hm=>SX Q Q (lV TK Q Q Q Q he9 (Expr.encR_eq _)) (SA TK Q (BE hm λr10 hr10 hm=>SX Q Q (RN Q Q (SC (.d _) SN) (ih hr10)) (GE hm λg11 hm=>SX Q Q (aR Q Q Q Q g11) (SA TK Q (TN ?_)))));refine WK (WT (WN [1,3,4] Q Q (TG (SA TK Q (GE hm λg12 hm=>SX Q Q (aR Q Q Q Q g12) (SA TK Q (TN ?_)))))));refine WT ?_;exact⟨_,[0],(SJ hm),Q,k0,Q⟩
   replace hm:=JF h8 hm;refine aD (WX (IE hm λv13 hm hz=>?_));rw [hz7 _ hz] at hm;refine WX (WH (WT ?_));exact⟨_,[0],(SJ hm),Q,k0,Q⟩
  refine WN [3] Q Q (RS (SA TK Q (SA TK Q (TN (WN [2] Q Q (TR ?_))))));obtain rfl:=OJ hm;exact EndsS.one _ Q (.d _) (.refl _)
theorem kJ {p0:Expr} {r:Int} (hm:fW p0=some r):RetN Tryz.prog 17 [p0.enc] (.int .i64 r):=qAJ bJ hm
theorem yV:∀ (fu:Nat) {p0:Expr} {r:Int} (hm:gJ fu p0=some r),RetN Tryz.prog 48 [p0.enc] (.int .i64 r):=by
 intro fu
 induction fu with
 | zero=>
  intro p0 r hm;unfold gJ at hm;cases hm
 | succ fu ih=>
  intro p0 r hm;refine .unit (aE qTS Tryz.func48 Q Tryz.ntmps48 Q Q (λwX gX=>?_)) Q;unfold gJ at hm;refine WN [0] Q Q (RS (bZ 0 Q Q Q (SA TK Q (TN (WN [1] Q Q (RS (SA TK Q (TN ?_))))))));refine WN [1,3] Q Q ?_;refine aF hm (λd1=>([(3,.d (.int .i64 d1))]:Fr)) (λd1=>([]:List (Nat×Blk))) [3] [] Q (λz2 hm=>?_) (λd1 hm=>?_)
  ·refine RS (SA TK Q (TN (WN [1,3,4] Q Q (TB (aM hm (λ(d5,i6)=>([(3,.d (.int .i64 d5)),(4,.d (.int .i64 i6))]:Fr)) (λ(d5,i6)=>([]:List (Nat×Blk))) [3,4] [1] [0] Q k0 Q Q Q Q Q (λs z7 hm hz7=>?_))))));obtain⟨d5,i6⟩:=s;refine WN [1,3,4] Q Q (TQ (RS (SA TK Q (SA TK Q (SA TK Q (SX Q Q (aL TK Q Q Q) (SA TK Q (TN (WN [1,3,4,9] Q Q ?_)))))))));refine TC _ Q (λh8=>?_) (λh8=>?_)
   ·replace hm:=JT h8 hm;refine TS (WT (WN [1,3,4] Q Q (TQ (TB (TG ?_)))));iterate 4 (refine SA TK Q ?_)
    refine VE hm λe9 he9 hm=>SX Q Q (lV TK Q Q Q Q he9 (Expr.encR_eq _)) (SA TK Q (BE hm λr10 hr10 hm=>SX Q Q (RN Q Q (SC (.d _) SN) (ih hr10)) (SX Q Q (qLT Q Q Q Q) (SA TK Q (TN (WK ?_))))));refine WT (WN [1,3,4] Q Q (TG (SA TK Q (GE hm λg11 hm=>SX Q Q (aR Q Q Q Q g11) (SA TK Q (TN (WT ?_)))))));exact⟨_,[0],(SJ hm),Q,k0,Q⟩
   replace hm:=JF h8 hm;refine aD (WX (IE hm λv12 hm hz=>?_));rw [hz7 _ hz] at hm;refine WX (WH (WT ?_));exact⟨_,[0],(SJ hm),Q,k0,Q⟩
  refine WN [3] Q Q (RS (SA TK Q (GE hm λg13 hm=>SX Q Q (aR Q Q Q Q g13) (SA TK Q (TN (WN [2] Q Q (TR ?_)))))));obtain rfl:=OJ hm;exact EndsS.one _ Q (.d _) (.refl _)
theorem qAL {p0:Expr} {r:Int} (hm:nX p0=some r):RetN Tryz.prog 48 [p0.enc] (.int .i64 r):=yV bJ hm
theorem qAI:∀ (fu:Nat) {p0:Expr} {p1:Int} {r:Bool} (hm:gE fu p0 p1=some r),RetN Tryz.prog 49 [p0.enc,.int .i64 p1] (.bool (r)):=by
 intro fu
 induction fu with
 | zero=>
  intro p0 p1 r hm;unfold gE at hm;cases hm
 | succ fu ih=>
  intro p0 p1 r hm;refine .unit (aE qTR Tryz.func49 Q Tryz.ntmps49 Q Q (λwX gX=>?_)) Q;unfold gE at hm;refine WN [0,1] Q Q (RS (bZ 0 Q Q Q (SA TK Q (TN (WN [1,2] Q Q (RS (SA TK Q (SA TK Q (SX Q Q (aL TK Q Q Q) ?_)))))))));refine SA TK Q (TN (WN [1,2,5] Q Q ?_));refine bI hm (λ_=>([]:Fr)) (λ_=>([]:List (Nat×Blk))) [] [1,2,5] Q (λz1 hm hz1=>?_) (λj hm=>?_)
  ·refine RS (SA TK Q (SA TK Q (TN (WN [1,2,5,11] Q Q (TB ?_)))));refine aF hm (λx2=>([(12,.d (.bool (x2)))]:Fr)) (λx2=>([]:List (Nat×Blk))) [12] [1,2,5,11] Q (λz3 hm=>?_) (λx2 hm=>?_)
   ·refine RS (SA TK Q (SA TK Q (TN (WN [1,2,5,11,12] Q Q ?_))));refine TC _ Q (λh4=>?_) (λh4=>?_)
    ·replace hm:=JT h4 hm;refine TS (WT ?_);exact⟨_,[0],(SJ hm),Q,k0,Q⟩
    replace hm:=JF h4 hm;refine TG (SA TK Q (SA TK Q (TN (WT ?_))));exact⟨_,[0],(SJ hm),Q,k0,Q⟩
   refine WN [1,2,5,11,12] Q Q ?_;refine TC _ Q (λh5=>?_) (λh5=>?_)
   ·replace hm:=JA h5 hm;refine eB [(4,.d (.bool (((decide (p0.var=(0:Int)))&&(decide ((p0.args.length:Int)=(0:Int)))))))] [4] [] Q ?_ ?_
    ·refine TG (SA TK Q (SA TK Q (SA TK Q (SB TK Q (λq6 hq6=>?_)))));cases q6
     ·iterate 4 (refine SA TK Q ?_)
      refine TN (WT ?_);exact⟨[0],Q,k0,bA (aI (aK (by first|(simp [hq6];done)|(simp only [hq6];simp))) Q) Q⟩
     iterate 4 (refine SA TK Q ?_)
     refine TN (WT ?_);exact⟨[0],Q,k0,bA (aI (aK (by first|(simp [hq6];done)|(simp only [hq6];simp))) Q) Q⟩
    refine WN [4] Q Q (TR (WB (IE hm λv7 hm hz=>?_)));rw [hz1 _ hz] at hm;refine WR ?_;obtain rfl:=OJ hm;exact EndsS.one _ Q (.d _) (.refl _)
   replace hm:=JB h5 hm;refine RS (SA TK Q (SA TK Q (TN (WN [1,2,5,11,22] Q Q ?_))));refine TC _ Q (λh8=>?_) (λh8=>?_)
   ·replace hm:=JT h8 hm;refine eB [(4,.d (.bool (((decide ((0:Int)≤p0.var))&&((decide (p0.var < p1))&&(decide ((p0.args.length:Int)=(0:Int))))))))] [4] [] Q ?_ ?_
    ·refine TG (SA TK Q (SA TK Q (SA TK Q (SB TK Q (λq9 hq9=>?_)))));cases q9
     ·iterate 10 (refine SA TK Q ?_)
      refine TN (WT ?_);exact⟨[0],Q,k0,bA (aI (aK (by first|(simp [hq9];done)|(simp only [hq9];simp))) Q) Q⟩
     iterate 5 (refine SA TK Q ?_)
     refine SB TK Q (λq10 hq10=>?_);cases q10
     ·iterate 4 (refine SA TK Q ?_)
      refine TN (WT ?_);exact⟨[0],Q,k0,bA (aI (aK (by first|(simp [hq9,hq10];done)|(simp only [hq9,hq10];simp))) Q) Q⟩
     iterate 4 (refine SA TK Q ?_)
     refine TN (WT ?_);exact⟨[0],Q,k0,bA (aI (aK (by first|(simp [hq9,hq10];done)|(simp only [hq9,hq10];simp))) Q) Q⟩
    refine WN [4] Q Q (TR (WB (IE hm λv11 hm hz=>?_)));rw [hz1 _ hz] at hm;refine WR ?_;obtain rfl:=OJ hm;exact EndsS.one _ Q (.d _) (.refl _)
   replace hm:=JF h8 hm;refine RS (SA TK Q (SA TK Q (TN (WN [1,2,5,11,37] Q Q ?_))));refine TC _ Q (λh12=>?_) (λh12=>?_)
   ·replace hm:=JT h12 hm;refine RS (SA TK Q (SA TK Q (TN (WN [1,2,5,40] Q Q ?_))));refine TC _ Q (λh13=>?_) (λh13=>?_)
    ·replace hm:=fB h13 hm;refine RS (SA TK Q (TN (WN [4] Q Q (TR (WB (IE hm λv14 hm hz=>?_))))));rw [hz1 _ hz] at hm;refine WR ?_;obtain rfl:=OJ hm;exact EndsS.one _ Q (.d _) (.refl _)
    replace hm:=fC h13 hm;refine TS (WK (WT ?_));exact⟨_,[0],(SJ hm),Q,k0,Q⟩
   replace hm:=JF h12 hm;refine TQ (RS (SA TK Q (SA TK Q (TN (WN [1,2,5,11,41] Q Q ?_)))));refine TC _ Q (λh15=>?_) (λh15=>?_)
   ·replace hm:=JT h15 hm;refine TS (WT (WN [1,2,5,41] Q Q (qHZ Q true h15 (TS (WK (WT ?_))))));exact⟨_,[0],(SJ hm),Q,k0,Q⟩
   replace hm:=JF h15 hm;refine TG (SA TK Q (SA TK Q (TN (WT (WN [1,2,5,41] Q Q ?_)))));refine TC _ Q (λh16=>?_) (λh16=>?_)
   ·replace hm:=JT h16 hm;refine TS (WK (WT ?_));exact⟨_,[0],(SJ hm),Q,k0,Q⟩
   replace hm:=JF h16 hm;refine RS (SA TK Q (TN (WN [4] Q Q (TR (WB (IE hm λv17 hm hz=>?_))))));rw [hz1 _ hz] at hm;refine WR ?_;obtain rfl:=OJ hm;exact EndsS.one _ Q (.d _) (.refl _)
  refine WN [1,2,5] Q Q ?_;refine bI hm (λ_=>([]:Fr)) (λ_=>([]:List (Nat×Blk))) [] [2] Q (λz18 hm hz18=>?_) (λj hm=>?_)
  ·refine RS (SA TK Q (TN (WN [1,2,5,6] Q Q (TB (aM hm (λi20=>([(6,.d (.int .i64 i20))]:Fr)) (λi20=>([]:List (Nat×Blk))) [6] [1,2,5] [0] Q k0 Q Q Q Q Q (λi20 z21 hm hz21=>WN [1,2,5,6] Q Q (TQ (RS ?_))))))));refine SA TK Q (SA TK Q (SA TK Q (TN (WN [1,2,5,6,46] Q Q ?_))));refine TC _ Q (λh22=>?_) (λh22=>?_)
   ·replace hm:=JT h22 hm;refine TS (WT (WN [1,2,5,6] Q Q (TQ (TB (RS (SA TK Q (SA TK Q (SA TK Q (VE hm λe23 he23 hm=>SX Q Q (lV TK Q Q Q Q he23 (Expr.encR_eq _)) ?_)))))))));refine SA TK Q (SA TK Q (BE hm λr24 hr24 hm=>SX Q Q (RN Q Q (SC (.d _) (SC (.d _) SN)) (ih hr24)) (SA TK Q (TN (WN [1,2,5,6,56] Q Q ?_)))));refine TC _ Q (λh25=>?_) (λh25=>?_)
    ·replace hm:=JA h25 hm;refine RS (SA TK Q (TN (WN [4] Q Q (TR (WB (WR (IE hm λv26 hm hz=>?_)))))));rw [hz21 _ hz] at hm;refine WR (WB (IE hm λv27 hm hz=>?_));rw [hz18 _ hz] at hm;refine WR ?_;obtain rfl:=OJ hm;exact EndsS.one _ Q (.d _) (.refl _)
    replace hm:=JB h25 hm;refine TS (WK (WT (WN [1,2,5,6] Q Q (TG (SA TK Q (GE hm λg28 hm=>SX Q Q (aR Q Q Q Q g28) (SA TK Q ?_)))))));refine TN (WT ?_);exact⟨_,[0],(SJ hm),Q,k0,Q⟩
   replace hm:=JF h22 hm;refine aD (WX (IE hm λv29 hm hz=>?_));rw [hz21 _ hz] at hm;refine WX (WH (WT ?_));exact⟨_,[0],(SJ hm),Q,k0,Q⟩
  refine WN [2] Q Q (RS ?_);iterate 4 (refine SA TK Q ?_)
  refine TN (WN [4] Q Q (TR ?_));obtain rfl:=OJ hm;exact EndsS.one _ Q (.d _) (.refl _)
theorem qCL {p0:Expr} {p1:Int} {r:Bool} (hm:pP p0 p1=some r):RetN Tryz.prog 49 [p0.enc,.int .i64 p1] (.bool (r)):=qAI bJ hm
theorem oH {p0:Expr} {p1:Int} {r:Bool} (hm:iT p0 p1=some r):RetN Tryz.prog 15 [p0.enc,.int .i64 p1] (.bool (r)):=by
 refine .unit (aE qUI Tryz.func15 Q Tryz.ntmps15 Q Q (λwX gX=>?_)) Q;unfold iT at hm;refine WN [0,1] Q Q (RS (bZ 0 Q Q Q (SA TK Q (TN (WN [1,2] Q Q ?_)))));refine aF hm (λx1=>([(4,.d (.bool (x1)))]:Fr)) (λx1=>([]:List (Nat×Blk))) [4] [] Q (λz2 hm=>?_) (λx1 hm=>?_)
 ·refine TG (SA TK Q (BE hm λr3 hr3 hm=>SX Q Q (RN Q Q (SC (.d _) SN) (kJ hr3)) (SA TK Q (SB TK Q (λq4 hq4=>?_)))));cases q4
  ·replace hm:=JF hq4 hm;iterate 10 (refine SA TK Q ?_)
   refine TN (WT ?_);exact⟨_,[0],(SJ hm),Q,k0,Q⟩
  replace hm:=JT hq4 hm;refine SA TK Q (BE hm λr5 hr5 hm=>SX Q Q (RN Q Q (SC (.d _) SN) (qAL hr5)) (SA TK Q (SA TK Q (SB TK Q (λq6 hq6=>?_)))));cases q6
  ·replace hm:=JF hq6 hm;iterate 5 (refine SA TK Q ?_)
   refine TN (WT ?_);exact⟨_,[0],(SJ hm),Q,k0,Q⟩
  replace hm:=JT hq6 hm;refine SA TK Q (SA TK Q (BE hm λr7 hr7 hm=>SX Q Q (RN Q Q (SC (.d _) (SC (.d _) SN)) (qCL hr7)) (SA TK Q (SA TK Q (TN (WT ?_))))));exact⟨_,[0],(SJ hm),Q,k0,Q⟩
 refine WN [4] Q Q (TR ?_);obtain rfl:=OJ hm;exact EndsS.one _ Q (.d _) (.refl _)
theorem qBA {p0:Program} {p1:Expr} {r:Bool} (hm:lN p0 p1=some r):RetN Tryz.prog 20 [p0.enc,p1.enc] (.bool (r)):=by
 refine .unit (aE qUF Tryz.func20 Q Tryz.ntmps20 Q Q (λwX gX=>?_)) Q;unfold lN at hm;refine WN [0,1] Q Q (RS (bZ 0 Q Q Q (bZ 1 Q Q Q (SA TK Q (TN (WN [2,3] Q Q (RS (SA TK Q ?_))))))));refine BE hm λr1 hr1 hm=>SX Q Q (RN Q Q (SC (.d _) SN) (kJ hr1)) (SA TK Q (TN (WN [2,5] Q Q ?_)));refine aF hm (λn2=>([(5,.d (.int .i64 n2))]:Fr)) (λn2=>([]:List (Nat×Blk))) [5] [2] Q (λz3 hm=>?_) (λn2 hm=>?_)
 ·refine RS (SA TK Q (SA TK Q (SX Q Q (aL TK Q Q Q) (SA TK Q (TN (WN [2,5,11,12,13] Q Q (TB (aM hm (λ(n6,x7)=>([(5,.d (.int .i64 n6)),(13,.d (.int .i64 x7))]:Fr)) (λ(n6,x7)=>([]:List (Nat×Blk))) [5,13] [2,11,12] [0,1] Q k0 Q Q Q Q Q (λs z8 hm hz8=>?_)))))))));obtain⟨n6,x7⟩:=s;refine WN [2,5,11,12,13] Q Q (RS (SA TK Q (TN (WN [2,5,11,12,13,14] Q Q (TQ ?_)))));refine TC _ Q (λh9=>?_) (λh9=>?_)
  ·replace hm:=JT h9 hm;refine TS (WT (WN [2,5,11,12,13] Q Q (TQ (TB (RS (VE hm λe10 he10 hm=>SX Q Q (bC TK Q Q Q Q he10) (SA TK Q ?_)))))));refine cA 2 Q Q jG Q (cD 2 [none,none,none,none,none,some 3] Q Q (SA TK Q (TN (WN [2,5,7,11,12,13] Q Q (TG (SA TK Q (SA TK Q (SA TK Q (BE hm λr11 hr11 hm=>SX Q Q (RN Q Q (SC (.d _) SN) (kJ hr11)) ?_)))))))));refine GE hm λg12 hm=>SX Q Q (aR Q Q Q Q g12) (SA TK Q (TN (WK (WT (WN [2,5,11,12,13] Q Q (TG (GE hm λg13 hm=>?_)))))));refine SX Q Q (aR Q Q Q Q g13) (SA TK Q (TN (WT ?_)));exact⟨_,[0,1],(SJ hm),Q,k0,Q⟩
  replace hm:=JF h9 hm;refine aD (WX (IE hm λv14 hm hz=>?_));rw [hz8 _ hz] at hm;refine WX (WH (WT ?_));exact⟨_,[0,1],(SJ hm),Q,k0,Q⟩
 refine WN [2,5] Q Q ?_;refine eB [(4,.d (.bool (((decide ((p0.names.length:Int)≤(2100:Int)))&&((decide ((p0.rungs.length:Int)≤(60:Int)))&&(decide (n2≤(2000:Int))))))))] [4] [] Q ?_ ?_
 ·refine TG (SA TK Q (SA TK Q (SX Q Q (aL TK Q Q Q) (SA TK Q (SB TK Q (λq15 hq15=>?_))))));cases q15
  ·iterate 10 (refine SA TK Q ?_)
   refine TN (WT ?_);exact⟨[0,1],Q,k0,bA (aI (aK (by first|(simp [hq15];done)|(simp only [hq15];simp))) Q) Q⟩
  refine SA TK Q (SA TK Q (SX Q Q (aL TK Q Q Q) (SA TK Q (SA TK Q (SB TK Q (λq16 hq16=>?_))))));cases q16
  ·iterate 4 (refine SA TK Q ?_)
   refine TN (WT ?_);exact⟨[0,1],Q,k0,bA (aI (aK (by first|(simp [hq15,hq16];done)|(simp only [hq15,hq16];simp))) Q) Q⟩
  iterate 4 (refine SA TK Q ?_)
  refine TN (WT ?_);exact⟨[0,1],Q,k0,bA (aI (aK (by first|(simp [hq15,hq16];done)|(simp only [hq15,hq16];simp))) Q) Q⟩
 refine WN [4] Q Q (TR ?_);obtain rfl:=OJ hm;exact EndsS.one _ Q (.d _) (.refl _)
theorem qCK {p0:Program} {p1:Rung} {r:Bool} (hm:nA p0 p1=some r):RetN Tryz.prog 124 [p0.enc,p1.enc] (.bool (r)):=by
 refine .unit (aE qQL Tryz.func124 Q Tryz.ntmps124 Q Q (λwX gX=>?_)) Q;unfold nA at hm;refine WN [0,1] Q Q (RS (bZ 0 Q Q Q (bZ 1 Q Q Q (SA TK Q (TN (WN [2,3] Q Q (TQ ?_)))))));refine eB [(27,.d (.bool ((bif !(decide (p1.kind=(1:Int))) then ((!(decide (p1.kind=(2:Int))))||((decide (p1.var < p0.inputs))||(decide ((p0.names.length:Int)≤p1.var)))) else ((decide (p1.var < p0.inputs))||(decide ((p0.names.length:Int)≤p1.var)))))))] [27] [2,3] Q ?_ ?_
 ·refine TG (SA TK Q (SA TK Q (SA TK Q (SB TK Q (λq1 hq1=>?_)))));cases q1
  ·iterate 11 (refine SA TK Q ?_)
   refine SB TK Q (λq2 hq2=>?_);cases q2
   ·iterate 4 (refine SA TK Q ?_)
    refine SX Q Q (aL TK Q Q Q) (SA TK Q (SA TK Q (TN (WT ?_))));exact⟨[0,1],Q,k0,bA (aI (aK (by first|(simp [hq1,hq2];done)|(simp only [hq1,hq2];simp))) Q) Q⟩
   iterate 7 (refine SA TK Q ?_)
   refine TN (WT ?_);exact⟨[0,1],Q,k0,bA (aI (aK (by first|(simp [hq1,hq2];done)|(simp only [hq1,hq2];simp))) Q) Q⟩
  iterate 4 (refine SA TK Q ?_)
  refine SB TK Q (λq3 hq3=>?_);cases q3
  ·iterate 6 (refine SA TK Q ?_)
   refine SB TK Q (λq4 hq4=>?_);cases q4
   ·iterate 4 (refine SA TK Q ?_)
    refine SX Q Q (aL TK Q Q Q) (SA TK Q (SA TK Q (TN (WT ?_))));exact⟨[0,1],Q,k0,bA (aI (aK (by first|(simp [hq1,hq3,hq4];done)|(simp only [hq1,hq3,hq4];simp))) Q) Q⟩
   iterate 7 (refine SA TK Q ?_)
   refine TN (WT ?_);exact⟨[0,1],Q,k0,bA (aI (aK (by first|(simp [hq1,hq3,hq4];done)|(simp only [hq1,hq3,hq4];simp))) Q) Q⟩
  iterate 14 (refine SA TK Q ?_)
  refine TN (WT ?_);exact⟨[0,1],Q,k0,bA (aI (aK (by first|(simp [hq1,hq3];done)|(simp only [hq1,hq3];simp))) Q) Q⟩
 refine WN [2,3,27] Q Q ?_;refine TC _ Q (λh5=>?_) (λh5=>?_)
 ·replace hm:=JA h5 hm;refine RS (SA TK Q (TN (WN [4] Q Q (TR (WR ?_)))));obtain rfl:=OJ hm;exact EndsS.one _ Q (.d _) (.refl _)
 replace hm:=JB h5 hm;refine TS (WT (WN [2,3] Q Q (TQ ?_)));refine eB [(50,.d (.bool ((bif decide (p1.kind=(1:Int)) then ((!(decide (p1.preset=(0:Int))))||((decide (p1.kind=(2:Int)))&&((decide (p1.preset < (1:Int)))||(decide ((1073741824:Int) < p1.preset))))) else ((decide (p1.kind=(2:Int)))&&((decide (p1.preset < (1:Int)))||(decide ((1073741824:Int) < p1.preset))))))))] [50] [2,3] Q ?_ ?_
 ·refine TG (SA TK Q (SA TK Q (SA TK Q (SB TK Q (λq6 hq6=>?_)))));cases q6
  ·iterate 8 (refine SA TK Q ?_)
   refine SB TK Q (λq7 hq7=>?_);cases q7
   ·iterate 10 (refine SA TK Q ?_)
    refine TN (WT ?_);exact⟨[0,1],Q,k0,bA (aI (aK (by first|(simp [hq6,hq7];done)|(simp only [hq6,hq7];simp))) Q) Q⟩
   refine SA TK Q (SA TK Q (SA TK Q (SB TK Q (λq8 hq8=>?_))));cases q8
   ·iterate 6 (refine SA TK Q ?_)
    refine TN (WT ?_);exact⟨[0,1],Q,k0,bA (aI (aK (by first|(simp [hq6,hq7,hq8];done)|(simp only [hq6,hq7,hq8];simp))) Q) Q⟩
   iterate 6 (refine SA TK Q ?_)
   refine TN (WT ?_);exact⟨[0,1],Q,k0,bA (aI (aK (by first|(simp [hq6,hq7,hq8];done)|(simp only [hq6,hq7,hq8];simp))) Q) Q⟩
  iterate 4 (refine SA TK Q ?_)
  refine SB TK Q (λq9 hq9=>?_);cases q9
  ·refine SA TK Q (SA TK Q (SA TK Q (SB TK Q (λq10 hq10=>?_))));cases q10
   ·iterate 10 (refine SA TK Q ?_)
    refine TN (WT ?_);exact⟨[0,1],Q,k0,bA (aI (aK (by first|(simp [hq6,hq9,hq10];done)|(simp only [hq6,hq9,hq10];simp))) Q) Q⟩
   refine SA TK Q (SA TK Q (SA TK Q (SB TK Q (λq11 hq11=>?_))));cases q11
   ·iterate 6 (refine SA TK Q ?_)
    refine TN (WT ?_);exact⟨[0,1],Q,k0,bA (aI (aK (by first|(simp [hq6,hq9,hq10,hq11];done)|(simp only [hq6,hq9,hq10,hq11];simp))) Q) Q⟩
   iterate 6 (refine SA TK Q ?_)
   refine TN (WT ?_);exact⟨[0,1],Q,k0,bA (aI (aK (by first|(simp [hq6,hq9,hq10,hq11];done)|(simp only [hq6,hq9,hq10,hq11];simp))) Q) Q⟩
  iterate 14 (refine SA TK Q ?_)
  refine TN (WT ?_);exact⟨[0,1],Q,k0,bA (aI (aK (by first|(simp [hq6,hq9];done)|(simp only [hq6,hq9];simp))) Q) Q⟩
 refine WN [2,3,50] Q Q ?_;refine TC _ Q (λh12=>?_) (λh12=>?_)
 ·replace hm:=JA h12 hm;refine RS (SA TK Q (TN (WN [4] Q Q (TR (WR ?_)))));obtain rfl:=OJ hm;exact EndsS.one _ Q (.d _) (.refl _)
 replace hm:=JB h12 hm;refine TS (WT (WN [2,3] Q Q (RS ?_)));iterate 4 (refine SA TK Q ?_)
 refine SX Q Q (aL TK Q Q Q) (BE hm λr13 hr13 hm=>SX Q Q (RN Q Q (SC (.d _) (SC (.d _) SN)) (oH hr13)) (SA TK Q (TN (WN [4] Q Q (TR ?_)))));obtain rfl:=OJ hm;exact EndsS.one _ Q (.d _) (.refl _)
theorem qAH {p0:Program} {r:Int} (hm:lL p0=some r):RetN Tryz.prog 58 [p0.enc] (.int .i64 r):=by
 refine .unit (aE qTI Tryz.func58 Q Tryz.ntmps58 Q Q (λwX gX=>?_)) Q;unfold lL at hm;refine WN [0] Q Q (RS (bZ 0 Q Q Q (SA TK Q (TN (WN [1] Q Q (TQ (RS (SA TK Q (SA TK Q ?_)))))))));refine SX Q Q (aL TK Q Q Q) (SA TK Q (TN (WN [1,9] Q Q ?_)));refine TC _ Q (λh1=>?_) (λh1=>?_)
 ·replace hm:=JT h1 hm;refine RS (SA TK Q (TN (WN [2] Q Q (TR (WR ?_)))));obtain rfl:=OJ hm;exact EndsS.one _ Q (.d _) (.refl _)
 replace hm:=JF h1 hm;refine TS (WT (WN [1] Q Q (TQ ?_)));refine eB [(20,.d (.bool (((decide (p0.inputs < (0:Int)))||(decide ((p0.names.length:Int) < p0.inputs))))))] [20] [1] Q ?_ ?_
 ·refine TG (SA TK Q (SA TK Q (SA TK Q (SB TK Q (λq2 hq2=>?_)))));cases q2
  ·iterate 4 (refine SA TK Q ?_)
   refine SX Q Q (aL TK Q Q Q) (SA TK Q (SA TK Q (TN (WT ?_))));exact⟨[0],Q,k0,bA (aI (aK (by first|(simp [hq2];done)|(simp only [hq2];simp))) Q) Q⟩
  iterate 7 (refine SA TK Q ?_)
  refine TN (WT ?_);exact⟨[0],Q,k0,bA (aI (aK (by first|(simp [hq2];done)|(simp only [hq2];simp))) Q) Q⟩
 refine WN [1,20] Q Q ?_;refine TC _ Q (λh3=>?_) (λh3=>?_)
 ·replace hm:=JA h3 hm;refine RS (SA TK Q (TN (WN [2] Q Q (TR (WR ?_)))));obtain rfl:=OJ hm;exact EndsS.one _ Q (.d _) (.refl _)
 replace hm:=JB h3 hm;refine TS (WT (WN [1] Q Q ?_));refine bI hm (λ_=>([]:Fr)) (λ_=>([]:List (Nat×Blk))) [] [1] Q (λz4 hm hz4=>?_) (λj hm=>?_)
 ·refine RS (SA TK Q (TN (WN [1,3] Q Q (TB (aM hm (λi6=>([(3,.d (.int .i64 i6))]:Fr)) (λi6=>([]:List (Nat×Blk))) [3] [1] [0] Q k0 Q Q Q Q Q (λi6 z7 hm hz7=>WN [1,3] Q Q (TQ (RS ?_))))))));refine SA TK Q (SA TK Q (SA TK Q (SX Q Q (aL TK Q Q Q) (SA TK Q (TN (WN [1,3,25] Q Q ?_))))));refine TC _ Q (λh8=>?_) (λh8=>?_)
  ·replace hm:=JT h8 hm;refine TS (WT (WN [1,3] Q Q (TQ (TB (bE follows  ?_)))));iterate 4 (refine DA [0] TK Q ?_)
   refine VE hm λe9 he9 hm=>DX [0] Q Q (bC TK Q Q Q Q he9) (DA [0] TK Q (BE hm λr10 hr10 hm=>DX [0] Q Q (RN Q Q (SC (.d _) (SC (.d _) SN)) (qCK hr10)) (DA [0] TK Q ?_)));refine DT ?_ (by kernel_rfl);refine TN (WN [1,3,35] Q Q ?_);refine TC _ Q (λh11=>?_) (λh11=>?_)
   ·replace hm:=JA h11 hm;refine RS (SA TK Q (TN (WN [2] Q Q (TR (WB (WR (IE hm λv12 hm hz=>?_)))))));rw [hz7 _ hz] at hm;refine WR (WB (IE hm λv13 hm hz=>?_));rw [hz4 _ hz] at hm;refine WR ?_;obtain rfl:=OJ hm;exact EndsS.one _ Q (.d _) (.refl _)
   replace hm:=JB h11 hm;refine TS (WK (WT (WN [1,3] Q Q (TG (SA TK Q (GE hm λg14 hm=>SX Q Q (aR Q Q Q Q g14) (SA TK Q ?_)))))));refine TN (WT ?_);exact⟨_,[0],(SJ hm),Q,k0,Q⟩
  replace hm:=JF h8 hm;refine aD (WX (IE hm λv15 hm hz=>?_));rw [hz7 _ hz] at hm;refine WX (WH (WT ?_));exact⟨_,[0],(SJ hm),Q,k0,Q⟩
 refine WN [1] Q Q ?_;refine bI hm (λ_=>([]:Fr)) (λ_=>([]:List (Nat×Blk))) [] [] Q (λz16 hm hz16=>?_) (λj hm=>?_)
 ·refine RS (SA TK Q (TN (WN [1,4] Q Q (TB (aM hm (λi18=>([(4,.d (.int .i64 i18))]:Fr)) (λi18=>([]:List (Nat×Blk))) [4] [1] [0] Q k0 Q Q Q Q Q (λi18 z19 hm hz19=>WN [1,4] Q Q (TQ (RS ?_))))))));refine SA TK Q (SA TK Q (SA TK Q (SX Q Q (aL TK Q Q Q) (SA TK Q (TN (WN [1,4,40] Q Q ?_))))));refine TC _ Q (λh20=>?_) (λh20=>?_)
  ·replace hm:=JT h20 hm;refine TS (WT (WN [1,4] Q Q ?_));refine bI hm (λ_=>([]:Fr)) (λ_=>([]:List (Nat×Blk))) [] [1,4] Q (λz21 hm hz21=>?_) (λj hm=>?_)
   ·refine TB (RS (SA TK Q (TN (WN [1,4,5] Q Q (TB (aM hm (λk23=>([(5,.d (.int .i64 k23))]:Fr)) (λk23=>([]:List (Nat×Blk))) [5] [1,4] [0] Q k0 Q Q Q Q Q (λk23 z24 hm hz24=>WN [1,4,5] Q Q (TQ ?_))))))));refine RS (SA TK Q (SA TK Q (SA TK Q (TN (WN [1,4,5,45] Q Q ?_)))));refine TC _ Q (λh25=>?_) (λh25=>?_)
    ·replace hm:=JT h25 hm;refine TS (WT (WN [1,4,5] Q Q (TQ (TB (bE follows  ?_)))));iterate 3 (refine DA [0] TK Q ?_)
     refine VE hm λe26 he26 hm=>DX [0] Q Q (bC TK Q Q Q Q he26) ?_;iterate 5 (refine DA [0] TK Q ?_)
     refine VE hm λe27 he27 hm=>DX [0] Q Q (bC TK Q Q Q Q he27) ?_;iterate 3 (refine DA [0] TK Q ?_)
     refine DT ?_ (by kernel_rfl);refine TN (WN [1,4,5,60] Q Q ?_);refine TC _ Q (λh28=>?_) (λh28=>?_)
     ·replace hm:=JT h28 hm;refine RS (SA TK Q (TN (WN [2] Q Q (TR (WB (WR (IE hm λv29 hm hz=>?_)))))));rw [hz24 _ hz] at hm;refine WR (WB (WB (IE hm λv30 hm hz=>?_)));rw [hz21 _ hz] at hm;refine WR (IE hm λv31 hm hz=>?_);rw [hz19 _ hz] at hm;refine WR (WB (IE hm λv32 hm hz=>?_));rw [hz16 _ hz] at hm;refine WR ?_;obtain rfl:=OJ hm;exact EndsS.one _ Q (.d _) (.refl _)
     replace hm:=JF h28 hm;refine TS (WK (WT (WN [1,4,5] Q Q (TG (SA TK Q (GE hm λg33 hm=>SX Q Q (aR Q Q Q Q g33) (SA TK Q ?_)))))));refine TN (WT ?_);exact⟨_,[0],(SJ hm),Q,k0,Q⟩
    replace hm:=JF h25 hm;refine aD (WX (IE hm λv34 hm hz=>?_));rw [hz24 _ hz] at hm;refine WX (WH (WK (WT ?_)));exact⟨_,[0],(SJ hm),Q,k0,Q⟩
   refine WN [1,4] Q Q (TG (SA TK Q (GE hm λg35 hm=>SX Q Q (aR Q Q Q Q g35) (SA TK Q (TN (WT ?_))))));exact⟨_,[0],(SJ hm),Q,k0,Q⟩
  replace hm:=JF h20 hm;refine aD (WX (IE hm λv36 hm hz=>?_));rw [hz19 _ hz] at hm;refine WX (WH (WT ?_));exact⟨_,[0],(SJ hm),Q,k0,Q⟩
 refine WN [] Q Q (RS (SA TK Q (TN (WN [2] Q Q (TR ?_)))));obtain rfl:=OJ hm;exact EndsS.one _ Q (.d _) (.refl _)
theorem yT:∀ (fu:Nat) {p0:Expr} {p1:Int} {r:Int} (hm:fR fu p0 p1=some r),RetN Tryz.prog 60 [p0.enc,.int .i64 p1] (.int .i64 r):=by
 intro fu
 induction fu with
 | zero=>
  intro p0 p1 r hm;unfold fR at hm;cases hm
 | succ fu ih=>
  intro p0 p1 r hm;refine .unit (aE qTG Tryz.func60 Q Tryz.ntmps60 Q Q (λwX gX=>?_)) Q;unfold fR at hm;refine WN [0,1] Q Q (RS (bZ 0 Q Q Q (SA TK Q (TN (WN [1,2] Q Q (RS (SA TK Q (TN ?_))))))));refine WN [1,2,5] Q Q ?_;refine aF hm (λsum1=>([(5,.d (.int .i64 sum1))]:Fr)) (λsum1=>([]:List (Nat×Blk))) [5] [1,2] Q (λz2 hm=>?_) (λsum1 hm=>?_)
  ·refine eB [(16,.d (.bool (((decide (p0.op=(3:Int)))&&(decide (p0.var=p1))))))] [16] [1,2,5] Q ?_ ?_
   ·refine TG (SA TK Q (SA TK Q (SA TK Q (SB TK Q (λq3 hq3=>?_)))));cases q3
    ·iterate 5 (refine SA TK Q ?_)
     refine TN (WT ?_);exact⟨[0],Q,k0,bA (aI (aK (by first|(simp [hq3];done)|(simp only [hq3];simp))) Q) Q⟩
    iterate 5 (refine SA TK Q ?_)
    refine TN (WT ?_);exact⟨[0],Q,k0,bA (aI (aK (by first|(simp [hq3];done)|(simp only [hq3];simp))) Q) Q⟩
   refine WN [1,2,5,16] Q Q ?_;refine TC _ Q (λh4=>?_) (λh4=>?_)
   ·replace hm:=JA h4 hm;refine TG (SA TK Q (TN (WT ?_)));exact⟨_,[0],(SJ hm),Q,k0,Q⟩
   replace hm:=JB h4 hm;refine TS (WT ?_);exact⟨_,[0],(SJ hm),Q,k0,Q⟩
  refine WN [1,2,5] Q Q ?_;refine aF hm (λsum5=>([(5,.d (.int .i64 sum5))]:Fr)) (λsum5=>([]:List (Nat×Blk))) [5] [] Q (λz6 hm=>?_) (λsum5 hm=>?_)
  ·refine RS (SA TK Q (SA TK Q (SX Q Q (aL TK Q Q Q) (SA TK Q (TN (WN [1,5,18,19,20] Q Q (TB (aM hm (λ(sum9,x10)=>([(5,.d (.int .i64 sum9)),(20,.d (.int .i64 x10))]:Fr)) (λ(sum9,x10)=>([]:List (Nat×Blk))) [5,20] [1,18,19] [0] Q k0 Q Q Q Q Q (λs z11 hm hz11=>?_)))))))));obtain⟨sum9,x10⟩:=s;refine WN [1,5,18,19,20] Q Q (RS (SA TK Q (TN (WN [1,5,18,19,20,21] Q Q (TQ ?_)))));refine TC _ Q (λh12=>?_) (λh12=>?_)
   ·replace hm:=JT h12 hm;refine TS (WT (WN [1,5,18,19,20] Q Q (TQ (TB (RS (VE hm λe13 he13 hm=>SX Q Q (lV TK Q Q Q Q he13 (Expr.encR_eq _)) (SA TK Q ?_)))))));refine cA 1 Q Q aG Q (cD 1 [none,none,some 3] Q Q (SA TK Q (TN (WN [1,5,7,18,19,20] Q Q (TG (SA TK Q (SA TK Q (SA TK Q (BE hm λr14 hr14 hm=>SX Q Q (RN Q Q (SC (.d _) (SC (.d _) SN)) (ih hr14)) ?_)))))))));refine GE hm λg15 hm=>SX Q Q (aR Q Q Q Q g15) (SA TK Q (TN (WK (WT (WN [1,5,18,19,20] Q Q (TG (GE hm λg16 hm=>?_)))))));refine SX Q Q (aR Q Q Q Q g16) (SA TK Q (TN (WT ?_)));exact⟨_,[0],(SJ hm),Q,k0,Q⟩
   replace hm:=JF h12 hm;refine aD (WX (IE hm λv17 hm hz=>?_));rw [hz11 _ hz] at hm;refine WX (WH (WT ?_));exact⟨_,[0],(SJ hm),Q,k0,Q⟩
  refine WN [5] Q Q (RS (SA TK Q (SA TK Q (TN (WN [4] Q Q (TR ?_))))));obtain rfl:=OJ hm;exact EndsS.one _ Q (.d _) (.refl _)
theorem qAG {p0:Expr} {p1:Int} {r:Int} (hm:lK p0 p1=some r):RetN Tryz.prog 60 [p0.enc,.int .i64 p1] (.int .i64 r):=yT bJ hm
theorem vQ:∀ (fu:Nat) {p0:Expr} {p1:Int} {p2:Expr} {r:Expr} (hm:eI fu p0 p1 p2=some r),RetD Tryz.prog 61 [p0.enc,.int .i64 p1,p2.enc] (r.enc):=by
 intro fu
 induction fu with
 | zero=>
  intro p0 p1 p2 r hm;unfold eI at hm;cases hm
 | succ fu ih=>
  intro p0 p1 p2 r hm;refine .of (mv:=λ_=>false) (aE qTF Tryz.func61 Q Tryz.ntmps61 Q Q (λwX gX=>?_));unfold eI at hm;refine WN [0,1,2] Q Q (RS (bZ 0 Q Q Q (bZ 1 Q Q Q (cA 2 Q Q aG Q (dK (f:=Expr.encR) 2 2 3 40 3 Q Q Q (TN (WN [1,3,5,6] Q Q (TQ ?_))))))));refine eB [(17,.d (.bool (((decide (p0.op=(3:Int)))&&(decide (p0.var=p1))))))] [17] [1,3,5,6] Q ?_ ?_
  ·refine TG (SA TK Q (SA TK Q (SA TK Q (SB TK Q (λq1 hq1=>?_)))));cases q1
   ·iterate 5 (refine SA TK Q ?_)
    refine TN (WT ?_);exact⟨[0,1,2,3],Q,k0,bA (aI (aK (by first|(simp [hq1];done)|(simp only [hq1];simp))) Q) Q⟩
   iterate 5 (refine SA TK Q ?_)
   refine TN (WT ?_);exact⟨[0,1,2,3],Q,k0,bA (aI (aK (by first|(simp [hq1];done)|(simp only [hq1];simp))) Q) Q⟩
  refine WN [1,3,5,6,17] Q Q ?_;refine TC _ Q (λh2=>?_) (λh2=>?_)
  ·replace hm:=JA h2 hm;refine RS (SA TK Q (SA TK Q (TN (WN [6] Q Q (TR (WR ?_))))));obtain rfl:=OJ hm;exact EndsS.cellR _ TK Q Q Q Q Q (.d _)
  replace hm:=JB h2 hm;refine TS (WT (WN [1,3,5,6] Q Q (RS ?_)));iterate 4 (refine SA TK Q ?_)
  refine SX Q Q (fH Q gS aG Q Q Q Q) (cA 4 Q Q aG Q (dK (f:=Expr.encR) 4 2 5 40 3 Q Q Q (SA TK Q (dK (f:=Expr.encR) 4 2 6 40 3 Q Q Q (TN (WN [1,3,5,6,7] Q Q ?_))))));refine aF hm (λb3=>([]:Fr)) (λb3=>([(4,.box 40 [.d (.int .i64 p0.op),.d (.int .i64 p0.var),.msl 6 3 0 b3.length]),(6,.flat 40 3 (b3.map Expr.encR))]:List (Nat×Blk))) [] [6,7] Q (λz4 hm=>?_) (λb3 hm=>?_)
  ·refine RS (SA TK Q (TN (WN [1,3,5,6,7,8] Q Q (TB (aM hm (λ(i8,b9)=>([(8,.d (.int .i64 i8))]:Fr)) (λ(i8,b9)=>([(4,.box 40 [.d (.int .i64 p0.op),.d (.int .i64 p0.var),.msl 6 3 0 b9.length]),(6,.flat 40 3 (b9.map Expr.encR))]:List (Nat×Blk))) [8] [1,3,5,6,7] [0,1,2,3,4,5,6] Q k0 Q Q Q Q Q (λs z10 hm hz10=>?_))))));obtain⟨i8,b9⟩:=s;refine WN [1,3,5,6,7,8] Q Q (TQ (RS (SA TK Q (SA TK Q (SA TK Q (SX Q Q (aL TK Q Q Q) (SA TK Q (TN (WN [1,3,5,6,7,8,28] Q Q ?_)))))))));refine TC _ Q (λh11=>?_) (λh11=>?_)
   ·replace hm:=JT h11 hm;refine TS (WT (WN [1,3,5,6,7,8] Q Q (TQ (TB (dT (bQ follows  (DA [] TK Q (DA [4] TK Q ?_))))))));refine DA [] TK Q (DA [0] TK Q (DA [] TK Q (VE hm λe12 he12 hm=>DX [] Q Q (lV TK Q Q Q Q he12 (Expr.encR_eq _)) ?_)));iterate 2 (refine DA [] TK Q ?_)
    refine DA [1] TK Q (BE hm λr13 hr13 hm=>DX [] Q Q (RD Q Q Q (ih hr13)) (DX [] Q Q (cB (f:=Expr.encR) (xs:=([r13]:List Expr)) [.tmp 40] TK Q Q aG Q (bT Q (aC (Expr.encR_eq _) aX)) Q (aS Expr.encR_cells) Q) (GE hm λg14 hm=>nT [6,7] _ (.msl 7 3 0 (b9++([r13]:List Expr)).length) Q (fI Q) Q (mT (f:=Expr.encR) (xs:=b9) ([r13]:List Expr) Q Q Q TK Q aG Q Q Q Q Q Q cR g14) (DA [] TK Q ?_))));refine DT ?_ (by kernel_rfl);refine SA TK Q (TN (WK (WT (WN [1,3,5,6,7,8] Q Q (TG (SA TK Q (GE hm λg15 hm=>SX Q Q (aR Q Q Q Q g15) ?_)))))));refine SA TK Q (TN (WT ?_));exact⟨_,[0,1,2,3,4,5,7],(SJ hm),Q,k0,Q⟩
   replace hm:=JF h11 hm;refine aD (WX (IE hm λv16 hm hz=>?_));rw [hz10 _ hz] at hm;refine WX (WH (WT ?_));exact⟨_,[0,1,2,3,4,5,6],(SJ hm),Q,k0,Q⟩
  refine WN [6,7] Q Q (RS (SA TK Q (SA TK Q (TN (WN [6] Q Q (TR ?_))))));obtain rfl:=OJ hm;exact EndsS.cellR _ TK Q Q Q Q Q (eD (.cons (.d _) Q (.cons (.d _) Q (.cons (bH Q) Q .nil))))
theorem wZ {p0:Expr} {p1:Int} {p2:Expr} {r:Expr} (hm:jK p0 p1 p2=some r):RetD Tryz.prog 61 [p0.enc,.int .i64 p1,p2.enc] (r.enc):=vQ bJ hm
theorem yU {p0:Program} {p1:Expr} {r0:Expr} {r1:Int} (hm:kI p0 p1=some (r0,r1)):RetT Tryz.prog 22 [p0.enc,p1.enc] [r0.enc,.int .i64 r1]:=by
 refine .of (mv:=λ_=>false) (eG qUE Tryz.func22 Q Tryz.ntmps22 Q Q (λwX gX=>?_));unfold kI at hm;refine WN [0,1] Q Q (RS (bZ 0 Q Q Q (bZ 1 Q Q Q (cA 2 Q Q aG Q (cD 2 [none,none,some 3] Q Q (SA TK Q (TN (WN [2,3,4] Q Q ?_))))))));refine TQ ?_;refine aF hm (λx1=>([(18,.d (.bool (x1)))]:Fr)) (λx1=>([]:List (Nat×Blk))) [18] [2,3,4] Q (λz2 hm=>?_) (λx1 hm=>?_)
 ·refine TG (SA TK Q (BE hm λr3 hr3 hm=>SX Q Q (RN Q Q (SC (.d _) SN) (qAH hr3)) (SA TK Q (SB TK Q (λq4 hq4=>?_)))));cases q4
  ·replace hm:=fC hq4 hm;refine SA TK Q (SA TK Q (SA TK Q (SX Q Q (aL TK Q Q Q) (BE hm λr5 hr5 hm=>SX Q Q (RN Q Q (SC (.d _) (SC (.d _) SN)) (oH hr5)) (SA TK Q (SA TK Q (TN (WT ?_))))))));exact⟨_,[0,1,2],(SJ hm),Q,k0,Q⟩
  replace hm:=fB hq4 hm;iterate 7 (refine SA TK Q ?_)
  refine TN (WT ?_);exact⟨_,[0,1,2],(SJ hm),Q,k0,Q⟩
 refine WN [2,3,4,18] Q Q ?_;refine TC _ Q (λh6=>?_) (λh6=>?_)
 ·replace hm:=JA h6 hm;refine RS (SX Q Q (bB Q gS aG Q Q Q Q) (qW 19 [none,none,some 3] Q (SA TK Q (SA TK Q (TN (WN [4,5] Q Q (TR (WR ?_))))))));obtain⟨rfl,rfl⟩:=Prod.mk.inj (Option.some.inj hm);exact⟨_,.mk _ (.cons (.agg (TK.lay Q) Q Q Q Q) (.cons (.tmp 5) .nil)) Q,(.cons (.d _) (.refl _) (.cons (.d _) (.refl _) .nil))⟩
 replace hm:=JB h6 hm;refine TS (WT (WN [2,3,4] Q Q ?_));refine bI hm (λ(c7,c8,c9)=>([]:Fr)) (λ(c7,c8,c9)=>([(1,.box 40 [.d (.int .i64 c7),.d (.int .i64 c8),.d (.sl 3 (c9.map Expr.encR))])]:List (Nat×Blk))) [] [2,3,4] Q (λz10 hm hz10=>?_) (λj hm=>?_)
 ·refine RS (SA TK Q (SA TK Q (SX Q Q (aL TK Q Q Q) (GE hm λg11 hm=>SX Q Q (aR Q Q Q Q g11) (SA TK Q (TN (WN [2,3,4,6] Q Q (TB ?_))))))));refine aM hm (λ(i17,c18,c19,c20)=>([(6,.d (.int .i64 i17))]:Fr)) (λ(i17,c18,c19,c20)=>([(1,.box 40 [.d (.int .i64 c18),.d (.int .i64 c19),.d (.sl 3 (c20.map Expr.encR))])]:List (Nat×Blk))) [6] [2,3,4] [0,1,2] Q k0 Q Q Q Q Q (λs z21 hm hz21=>?_);obtain⟨i17,c18,c19,c20⟩:=s;refine WN [2,3,4,6] Q Q (TQ (RS (SA TK Q (SA TK Q (TN (WN [2,3,4,6,25] Q Q ?_))))));refine TC _ Q (λh22=>?_) (λh22=>?_)
  ·replace hm:=JT h22 hm;refine TS (WT (WN [2,3,4,6] Q Q (TQ (TB (RS (SA TK Q (SA TK Q (SX Q Q (aL TK Q Q Q) (SA TK Q ?_)))))))));refine GE hm λg23 hm=>SX Q Q (aR Q Q Q Q g23) (BE hm λr24 hr24 hm=>SX Q Q (RD Q Q Q (qJO hr24)) (cA 3 Q Q aG Q (cD 3 [none,none,some 3] Q Q (SA TK Q (TN (WN [2,3,4,6,7] Q Q ?_))))));refine aF hm (λ(c25,c26,c27)=>([]:Fr)) (λ(c25,c26,c27)=>([(3,.box 40 [.d (.int .i64 c25),.d (.int .i64 c26),.d (.sl 3 (c27.map Expr.encR))])]:List (Nat×Blk))) [] [2,3,4,6,7] Q (λz28 hm=>?_) (λj hm=>?_)
   ·refine RS (SA TK Q (SA TK Q (SA TK Q (VE hm λe29 he29 hm=>SX Q Q (bC TK Q Q Q Q he29) (SA TK Q (SA TK Q (SA TK Q (TN (WN [2,3,4,6,7,40] Q Q ?_)))))))));refine TC _ Q (λh30=>?_) (λh30=>?_)
    ·replace hm:=JT h30 hm;refine TG (SA TK Q (SA TK Q (SA TK Q (VE hm λe31 he31 hm=>SX Q Q (bC TK Q Q Q Q he31) (SA TK Q (SA TK Q (SA TK Q (TN (WT ?_)))))))));exact⟨_,[0,1,2,3],(SJ hm),Q,k0,Q⟩
    replace hm:=JF h30 hm;refine TS (WT ?_);exact⟨_,[0,1,2,3],(SJ hm),Q,k0,Q⟩
   obtain⟨c25,c26,c27⟩:=j;refine WN [2,3,4,6,7] Q Q (TQ (bE follows  (DA [0,1,2,3] TK Q (BE hm λr32 hr32 hm=>DX [0,1,2,3] Q Q (RN Q Q (SC (.d _) SN) (kJ hr32)) ?_))));iterate 4 (refine DA [0,1,2,3] TK Q ?_)
   refine VE hm λe33 he33 hm=>DX [0,1,2,3] Q Q (bC TK Q Q Q Q he33) ?_;iterate 2 (refine DA [0,1,2,3] TK Q ?_)
   refine BE hm λr34 hr34 hm=>DX [0,1,2,3] Q Q (RN Q Q (SC (.d _) (SC (.d _) SN)) (qAG hr34)) (DA [0,1,2,3] TK Q (BE hm λr35 hr35 hm=>DX [0,1,2,3] Q Q (RN Q Q (SC (.d _) SN) (kJ hr35)) (GE hm λg36 hm=>DX [0,1,2,3] Q Q (aR Q Q Q Q g36) (GE hm λg37 hm=>DX [0,1,2,3] Q Q (aR Q Q Q Q g37) ?_))));refine GE hm λg38 hm=>DX [0,1,2,3] Q Q (aR Q Q Q Q g38) (DA [0,1,2,3] TK Q ?_);refine DT ?_ (by kernel_rfl);refine TN (WN [2,3,4,6,7,62] Q Q ?_);refine TC _ Q (λh39=>?_) (λh39=>?_)
   ·replace hm:=JT h39 hm;refine RS (SX Q Q (bB Q gS aG Q Q Q Q) (qW 63 [none,none,some 3] Q (SA TK Q (SA TK Q (TN (WN [4,5] Q Q (TR (WR (WB ?_)))))))));refine WR (IE hm λv40 hm hz=>?_);rw [hz21 _ hz] at hm;refine WR (WB (IE hm λv41 hm hz=>?_));rw [hz10 _ hz] at hm;refine WR ?_;obtain⟨rfl,rfl⟩:=Prod.mk.inj (Option.some.inj hm);exact⟨_,.mk _ (.cons (.agg (TK.lay Q) Q Q Q Q) (.cons (.tmp 5) .nil)) Q,(.cons (.d _) (.refl _) (.cons (.d _) (.refl _) .nil))⟩
   replace hm:=JF h39 hm;refine TS (WT (WN [2,3,4,6,7] Q Q (bQ follows  ?_)));iterate 4 (refine DA [0,1,2,3] TK Q ?_)
   refine VE hm λe42 he42 hm=>DX [0,1,2,3] Q Q (bC TK Q Q Q Q he42) ?_;iterate 3 (refine DA [0,1,2,3] TK Q ?_)
   refine BE hm λr43 hr43 hm=>DX [0,1,2,3] Q Q (RD Q Q Q (wZ hr43)) ?_;refine DT ?_ (by kernel_rfl);refine SA TK Q (TN (WK (WT (WN [2,3,4,6] Q Q (TG (SA TK Q (GE hm λg44 hm=>SX Q Q (aR Q Q Q Q g44) ?_)))))));refine SA TK Q (TN (WT ?_));exact⟨_,[0,1,2],(SJ hm),Q,k0,Q⟩
  replace hm:=JF h22 hm;refine aD (WX (IE hm λv45 hm hz=>?_));rw [hz21 _ hz] at hm;refine WX (WH (WT ?_));exact⟨_,[0,1,2],(SJ hm),Q,k0,Q⟩
 obtain⟨c7,c8,c9⟩:=j;refine WN [2,3,4] Q Q (TQ (RS (SA TK Q (SA TK Q (SA TK Q (SX Q Q (aL TK Q Q Q) (SA TK Q (SA TK Q (SX Q Q (aL TK Q Q Q) (GE hm λg46 hm=>SX Q Q (aR Q Q Q Q g46) ?_))))))))));refine BE hm λr47 hr47 hm=>SX Q Q (RN Q Q (SC (.d _) (SC (.d _) SN)) (oH hr47)) (SA TK Q (TN (WN [3,4,82] Q Q ?_)));refine TC _ Q (λh48=>?_) (λh48=>?_)
 ·replace hm:=JA h48 hm;refine RS (SX Q Q (bB Q gS aG Q Q Q Q) (qW 83 [none,none,some 3] Q (SA TK Q (SA TK Q (TN (WN [4,5] Q Q (TR (WR ?_))))))));obtain⟨rfl,rfl⟩:=Prod.mk.inj (Option.some.inj hm);exact⟨_,.mk _ (.cons (.agg (TK.lay Q) Q Q Q Q) (.cons (.tmp 5) .nil)) Q,(.cons (.d _) (.refl _) (.cons (.d _) (.refl _) .nil))⟩
 replace hm:=JB h48 hm;refine TS (WT (WN [3,4] Q Q (RS (SA TK Q (SA TK Q (SA TK Q (TN (WN [4,5] Q Q (TR ?_)))))))));obtain⟨rfl,rfl⟩:=Prod.mk.inj (Option.some.inj hm);exact⟨_,.mk _ (.cons (.agg (TK.lay Q) Q Q Q Q) (.cons (.tmp 5) .nil)) Q,(.cons (.d _) (.refl _) (.cons (.d _) (.refl _) .nil))⟩
theorem rS {p0:Program} {p1:Expr} {r:Bool} (hm:iC p0 p1=some r):Ret Tryz.prog 5 [] (λ_=>false) ([p0.enc,p1.enc].map .d) (.d (.bool (r))) []:=by
 refine aE callB5 Tryz.func5 Q Tryz.ntmps5 Q Q (λwX gX=>?_);unfold iC at hm;refine WN [0,1] Q Q (RS (bZ 0 Q Q Q (bZ 1 Q Q Q (SA TK Q (TN (WN [2,3] Q Q (TQ (RS ?_))))))));refine SA TK Q (SA TK Q (BE hm λr1 hr1 hm=>SX Q Q (RN Q Q (SC (.d _) (SC (.d _) SN)) (qBA hr1)) (SA TK Q (TN (WN [2,3,12] Q Q ?_)))));refine TC _ Q (λh2=>?_) (λh2=>?_)
 ·replace hm:=JA h2 hm;refine RS (BE hm λr3 hr3 hm=>SX Q Q (RN Q Q SN (tK hr3)) (SA TK Q (TN (WN [4] Q Q (TR (WR ?_))))));obtain rfl:=OJ hm;exact EndsS.one _ Q (.d _) (.refl _)
 replace hm:=JB h2 hm;refine TS (WT (WN [2,3] Q Q (RS (SA TK Q (SA TK Q (BE hm λr4 hr4 hm=>?_))))));obtain⟨r5,r6⟩:=r4;refine SX Q Q (dQ Q Q Q (xI hr4)) (SA TK Q (SA TK Q (SA TK Q (cA 2 Q Q aG Q (cD 2 [none,none,some 3] Q Q (SA TK Q (SA TK Q (TN (WN [2,3,5,6] Q Q (RS (SA TK Q (SA TK Q ?_))))))))))));refine BE hm λr7 hr7 hm=>?_;obtain⟨r8,r9⟩:=r7;refine SX Q Q (dQ Q Q Q (yU hr7)) (SA TK Q (SA TK Q (SA TK Q (cA 3 Q Q aG Q (cD 3 [none,none,some 3] Q Q (SA TK Q (SA TK Q (TN (WN [5,6,7,8] Q Q ?_)))))))));refine aF hm (λx10=>([(4,.d (.bool (x10)))]:Fr)) (λx10=>([]:List (Nat×Blk))) [4] [] Q (λz11 hm=>?_) (λx10 hm=>?_)
 ·refine TG (SA TK Q (SA TK Q (SA TK Q (SB TK Q (λq12 hq12=>?_)))));cases q12
  ·replace hm:=JF hq12 hm;iterate 8 (refine SA TK Q ?_)
   refine TN (WT ?_);exact⟨_,[0,1,2,3],(SJ hm),Q,k0,Q⟩
  replace hm:=JT hq12 hm;refine SA TK Q (SA TK Q (BE hm λr13 hr13 hm=>SX Q Q (RN Q Q (SC (.d _) (SC (.d _) SN)) (pQ hr13)) (SA TK Q (SB TK Q (λq14 hq14=>?_)))));cases q14
  ·replace hm:=JB hq14 hm;refine SA TK Q (SA TK Q (SA TK Q (TN (WT ?_))));exact⟨_,[0,1,2,3],(SJ hm),Q,k0,Q⟩
  replace hm:=JA hq14 hm;refine BE hm λr15 hr15 hm=>SX Q Q (RN Q Q SN (tK hr15)) (SA TK Q (SA TK Q (TN (WT ?_))));exact⟨_,[0,1,2,3],(SJ hm),Q,k0,Q⟩
 refine WN [4] Q Q (TR ?_);obtain rfl:=OJ hm;exact EndsS.one _ Q (.d _) (.refl _)
structure RouteState where
 state:Int
 rel:Int
 timer:Int
deriving DecidableEq,Inhabited
def RouteState.ok (x:RouteState):Prop:=I64 x.state∧I64 x.rel∧I64 x.timer
instance (x:RouteState):Decidable (RouteState.ok x):=by unfold RouteState.ok;infer_instance
structure Inter where
 routes:(List RouteState)
 lies:(List Int)
deriving DecidableEq,Inhabited
section chk
variable {t:Table}
end chk
theorem len_ok {n:Nat} (h:n≤reachBytes):n≤140737488351232:=h
theorem uY {α:Type} (l:List α) (P:α→Bool):(l.any λi=>!P i)=!l.all P:=by simp [List.not_all_eq_any_not]
structure Short (r:Route):Prop where
 secs:r.sections.length+r.overSections.length≤2000000
 points:r.points.length≤2000000
 over:r.overPoints.length≤2000000
 flank:r.flank.length≤2000000
structure TOk (t:Table):Prop where
 routes:t.routes.length≤2000000
 points:t.points.length≤2000000
 each:∀ r∈t.routes,Short r
end Go.Proofs.YtldaknhjmhlefaaGreatDoor
set_option linter.unusedVariables false
set_option linter.unusedSimpArgs false
set_option maxHeartbeats 400000
set_option maxRecDepth 100000
namespace Go.Proofs.YtldaknhjmhlefaaGreatDoor
open Go Go.TL
theorem qBS {α:Type} {l:List α}:l.Nodup↔∀ a c,a < c→c < l.length→l[a]?≠l[c]?:=by
 unfold List.Nodup;rw [List.pairwise_iff_getElem];constructor
 ·intro h a c hac hc he;rw [zQR hc,zQR (show a < l.length by omega)] at he;exact h a c (by omega) hc hac (Option.some.inj he)
 intro h a c ha hc hac he;refine h a c hac hc ?_;rw [zQR hc,zQR ha,he]
theorem Expr.eta (e:Expr):(⟨e.op,e.var,e.args⟩:Expr)=e:=by cases e;rfl
def opB (v:List Bool) (op x:Int) (bs:List Bool):Bool:=
 if op=3 then decide (0≤x)&&v.getD x.toNat false
 else if op=4 then (match bs with|[]=>false|b :: _=>!b)
 else if op=5 then bs.all id
 else if op=6 then bs.any id
 else decide (op=2)
mutual
def evE (v:List Bool):Expr→Bool
 | ⟨op,x,l⟩=>opB v op x (evL v l)
def evL (v:List Bool):List Expr→List Bool
 | []=>[]
 | e :: r=>evE v e :: evL v r
end
mutual
def dpE:Expr→Nat
 | ⟨_,_,l⟩=>dpL l+1
def dpL:List Expr→Nat
 | []=>0
 | e :: r=>max (dpE e) (dpL r)
end
mutual
def szE:Expr→Nat
 | ⟨_,_,l⟩=>szL l+1
def szL:List Expr→Nat
 | []=>0
 | e :: r=>szE e+szL r
end
abbrev qFG:Nat:=9223372036854775807
mutual
def okE:Expr→Prop
 | ⟨_,_,l⟩=>l.length≤qFG∧okL l
def okL:List Expr→Prop
 | []=>True
 | e :: r=>okE e∧okL r
end
theorem dpL_le {d:Nat}:∀ {l:List Expr},dpL l≤d↔∀ e∈l,dpE e≤d
 | []=>by simp [dpL]
 | e :: r=>by rw [dpL,Nat.max_le,dpL_le (l:=r)];simp
theorem fY (e:Expr):dpE e=dpL e.args+1:=by
 cases e with
 | mk a b c=>rw [dpE]
theorem qCD:∀ l:List Expr,szL l=(l.map szE).sum
 | []=>by simp [szL]
 | e :: r=>by simp [szL,qCD r]
theorem kF (e:Expr):szE e=szL e.args+1:=by
 cases e with
 | mk a b c=>rw [szE]
theorem xO (a b:List Expr):szL (a++b)=szL a+szL b:=by simp [qCD]
theorem qIK:∀ {l:List Expr},okL l↔∀ e∈l,okE e
 | []=>by simp [okL]
 | e :: r=>by rw [okL,qIK (l:=r)];simp
theorem okE_iff {e:Expr}:okE e↔e.args.length≤qFG∧∀ x∈e.args,okE x:=by
 cases e with
 | mk a b c=>rw [okE,qIK]
theorem qJX {e:Expr} (h:Expr.Wf e):okE e:=by
 induction h with
 | mk x h0 h1 h2 g2 ih=>
  rw [okE_iff];exact⟨by have:=len_ok h2;unfold qFG;omega,ih⟩
def hJ (n:Int) (op x:Int) (k:Nat):Bool:=
 if op=1∨op=2 then decide (x=0∧k=0)
 else if op=3 then decide (0≤x∧x < n∧k=0)
 else if op=4 then decide (k=1∧x=0)
 else if op=5∨op=6 then decide (x=0)
 else false
mutual
def dO (n:Int):Expr→Bool
 | ⟨op,x,l⟩=>hJ n op x l.length&&kU n l
def kU (n:Int):List Expr→Bool
 | []=>true
 | e :: r=>dO n e&&kU n r
end
theorem wE {n:Int}:∀ {l:List Expr},kU n l=true↔∀ e∈l,dO n e=true
 | []=>by simp [kU]
 | e :: r=>by rw [kU,zQA,wE (l:=r)];simp
theorem qKG {n:Int} {e:Expr}:dO n e=true↔hJ n e.op e.var e.args.length=true∧∀ x∈e.args,dO n x=true:=by
 cases e with
 | mk a b c=>rw [dO,zQA,wE]
def kC (n:Int) (d left:Int) (e:Expr):Prop:=dO n e=true∧d+(dpE e:Int)≤13∧(szE e:Int)≤left
instance (n d left:Int) (e:Expr):Decidable (kC n d left e):=by unfold kC;infer_instance
theorem qDG {σ ρ:Type} {f:σ→Option (σ ⊕ ρ)} (P:ρ→Prop) (I:Nat→σ→Prop) {s:σ} (n:Nat) (hn:n≤qFG) (h0:I 0 s) (hs:∀ i,i < n→∀ s,I i s→(∃ s',f s=some (.inl s')∧I (i+1) s')∨(∃ o,f s=some (.inr o)∧P o)) (he:∀ s,I n s→∃ o,f s=some (.inr o)∧P o):∃ o,aT f s=some o∧P o:=by
 suffices h:∀ k i s,i+k=n→I i s→∃ o,kT f (k+1) s=some o∧P o by
  obtain⟨o,h1,h2⟩:=h n 0 s (by omega) h0;exact⟨o,rR h1 (by unfold bJ qFG at *; omega),h2⟩
 intro k
 induction k with
 | zero=>
  intro i s hi hI;obtain⟨o,h1,h2⟩:=he s (by rw [show n=i by omega];exact hI);exact⟨o,by simp [kT,h1],h2⟩
 | succ k ih=>
  intro i s hi hI;rcases hs i (by omega) s hI with ⟨s',h1,h2⟩|⟨o,h1,h2⟩
  ·obtain ⟨o, h3, h4⟩ := ih (i + 1) s' (by omega) h2;exact⟨o,by rw [kT,h1];exact h3,h4⟩
  exact⟨o,by rw [kT,h1],h2⟩
theorem yH (n:Int):∀ (fu:Nat) (e:Expr) (d left:Int),14≤(fu:Int)+d→0 < fu→1≤d→d≤13→0≤left→left≤1000000→okE e→∃ k,fL fu e n d left=some (decide (kC n d left e),k)∧0≤k∧k≤left∧(kC n d left e→k=left - (szE e:Int))
 | 0,e,d,left,hfu,hp,_,_,_,_,_=>by omega
 | fu+1,e,d,left,hfu,hp,hd1,hd13,h0,hm,ho=>by
  obtain⟨hl,hox⟩:=okE_iff.1 ho;have hdp:=fY e;have hsz:=kF e;have hgd:=qKG (n:=n) (e:=e);unfold fL;by_cases hx:12 < d∨left=0
  ·rw [if_pos (by simpa using hx)];have hno:¬ kC n d left e:=by unfold kC;omega
   exact⟨left,by rw [decide_eq_false hno],h0,by omega,λh=>absurd h hno⟩
  rw [if_neg (by simpa using hx), bF (by unfold I64; omega)]
  have args (hform : hJ n e.op e.var e.args.length = true ↔ e.var = 0) (hform2 : 0 < e.args.length → 0 < fu) : ∃ k, (if e.var = (0 : Int) then
    cU (
     aT (fun ((x27 : Int), (c28 : Int)) =>
      if x27 < (e.args.length : Int) then
       aU e.args x27 fun e31 =>
       aB (I64 (d + (1 : Int))) <|
       aA ((fL fu) e31 n (d + (1 : Int)) c28) fun (r34, r35) =>
       if (!(r34)) = true then
        aJ (
         aJ (
          some (false, r35)))
       else
        aB (I64 (x27 + (1 : Int))) <|
        some (.inl ((x27 + (1 : Int)), r35))
      else
       aJ (
        some (.inl c28))) ((0 : Int), (left - (1 : Int)))) fun c22 =>
    some (true, c22)
   else
    some (false, (left - (1 : Int)))) = some (decide (kC n d left e), k) ∧ 0 ≤ k ∧ k ≤ left ∧ (kC n d left e → k = left - (szE e : Int)) := by
   by_cases hv:e.var=0
   ·rw [if_pos hv]
    have hval:kC n d left e↔(∀ x∈e.args,dO n x=true)∧(∀ x∈e.args,d+1+(dpE x:Int)≤13)∧(szL e.args:Int)≤left - 1:=by
     unfold kC;rw [hgd,hform,hdp,hsz]
     have hdl:d+((dpL e.args+1:Nat):Int)≤13↔∀ x∈e.args,d+1+(dpE x:Int)≤13:=by
      have h1:=dpL_le (l:=e.args) (d:=(12 - d).toNat);constructor
      ·intro h x hx;have:=h1.1 (by omega) x hx;omega
      intro h;have:=h1.2 (λx hx=>by have:=h x hx;omega);omega
     rw [hdl];constructor
     ·rintro⟨⟨_,a⟩,b,c⟩;exact⟨a,b,by omega⟩
     rintro⟨a,b,c⟩;exact⟨⟨hv,a⟩,b,by omega⟩
    obtain ⟨o, ho1, ho2⟩ := qDG (f := fun ((x27 : Int), (c28 : Int)) =>
      if x27 < (e.args.length : Int) then
       aU e.args x27 fun e31 =>
       aB (I64 (d + (1 : Int))) <|
       aA ((fL fu) e31 n (d + (1 : Int)) c28) fun (r34, r35) =>
       if (!(r34)) = true then
        aJ (
         aJ (
          some (false, r35)))
       else
        aB (I64 (x27 + (1 : Int))) <|
        some (.inl ((x27 + (1 : Int)), r35))
      else
       aJ (
        some (.inl c28))) (s := ((0 : Int), left - 1))
     (fun (o : Int ⊕ (Bool × Int)) => match o with
      | .inl c => kC n d left e ∧ c = left - (szE e : Int)
      | .inr r => ¬ kC n d left e ∧ r.1 = false ∧ 0 ≤ r.2 ∧ r.2 ≤ left)
     (fun i s => s.1 = (i : Int) ∧ s.2 = left - 1 - (szL (e.args.take i) : Int) ∧ 0 ≤ s.2 ∧ ∀ x ∈ e.args.take i, kC n (d + 1) 1000000 x ∧ dO n x = true ∧ d + 1 + (dpE x : Int) ≤ 13) e.args.length hl ⟨rfl, by simp [szL], by show 0 ≤ left - 1; omega, by simp⟩ (fun i hi s hI => by
      obtain ⟨x27, c28⟩ := s;obtain ⟨h1, h2, h3, h4⟩ := hI;dsimp only at h1 h2 h3;subst h1;have hxi := zQR hi;have hmem := List.getElem_mem hi;dsimp only;rw [if_pos (by omega), fZ hxi, bF (by unfold I64; omega)];obtain ⟨k, hk1, hk2, hk3, hk4⟩ := yH n fu e.args[i] (d + 1) c28 (by omega) (hform2 (by omega)) (by omega) (by omega) h3 (by omega) (hox _ hmem);rw [hk1, aN]
      have hsplit : szL (e.args.take (i + 1)) = szL (e.args.take i) + szE e.args[i] := by
       rw [List.take_add_one, hxi, xO];simp [szL]
      by_cases hV : kC n (d + 1) c28 e.args[i]
      ·left;rw [decide_eq_true hV, if_neg (by simp), bF (vB hi hl)];refine ⟨_, rfl, by push_cast; rfl, ?_, hk2, ?_⟩
       ·dsimp only;rw [hk4 hV, hsplit];omega
       intro x hx;rw [List.take_add_one, hxi] at hx;simp only [Option.toList_some, zQN, List.mem_singleton] at hx;rcases hx with hx | hx
       ·exact h4 x hx
       subst hx;exact ⟨⟨hV.1, hV.2.1, by have := hV.2.2; omega⟩, hV.1, hV.2.1⟩
      ·right;rw [decide_eq_false hV];simp only [Bool.not_false, if_true, fV];refine ⟨_, rfl, ?_, rfl, hk2, by omega⟩;intro hc;rw [hval] at hc;apply hV;refine ⟨hc.1 _ hmem, hc.2.1 _ hmem, ?_⟩
       have h5 : szL (e.args.take (i + 1)) ≤ szL e.args := by
        conv => rhs; rw [← List.take_append_drop (i + 1) e.args, xO]
        omega
       have h6 := hc.2.2
       omega) (fun s hI => by
      obtain ⟨x27, c28⟩ := s;obtain ⟨h1, h2, h3, h4⟩ := hI;dsimp only at h1 h2 h3;subst h1;rw [List.take_length] at h2 h4;dsimp only;rw [if_neg (by omega)];refine ⟨_, rfl, ?_, by rw [hsz]; omega⟩;rw [hval]
      exact ⟨fun x hx => (h4 x hx).2.1, fun x hx => (h4 x hx).2.2, by omega⟩)
    rw [ho1]
    cases o with
    | inl c=>
     dsimp only at ho2;rw [eH];have hsz2:(szE e:Int)≤left:=ho2.1.2.2;exact⟨c,by rw [decide_eq_true ho2.1],by omega,by omega,λ_=>ho2.2⟩
    | inr r=>
     obtain⟨r1,r2⟩:=r;dsimp only at ho2;obtain⟨p1,p2,p3,p4⟩:=ho2;subst p2;rw [eA];exact⟨r2,by rw [decide_eq_false p1],p3,p4,λh=>absurd h p1⟩
   rw [if_neg hv]
   have hno:¬ kC n d left e:=by
    unfold kC;rw [hgd,hform];intro h;exact hv h.1.1
   exact⟨left - 1,by rw [decide_eq_false hno],by omega,by omega,λh=>absurd h hno⟩
  have leaf (b:Bool) (hform:hJ n e.op e.var e.args.length=b) (hb:b=true→e.args.length=0):∃ k,(some (b,left - 1):Option (Bool×Int))=some (decide (kC n d left e),k)∧0≤k∧k≤left∧(kC n d left e→k=left - (szE e:Int)):=by
   cases b with
   | true=>
    have hnil:e.args=[]:=List.eq_nil_of_length_eq_zero (hb rfl);have h1:dpE e=1:=by rw [hdp,hnil];rfl
    have h2:szE e=1:=by rw [hsz,hnil];rfl
    have hyes:kC n d left e:=⟨hgd.2 ⟨hform,by rw [hnil];simp⟩,by omega,by omega⟩;exact⟨left - 1,by rw [decide_eq_true hyes],by omega,by omega,λ_=>by omega⟩
   | false=>
    have hno:¬ kC n d left e:=by
     unfold kC;rw [hgd,hform];intro h;exact absurd h.1.1 (by simp)
    exact⟨left - 1,by rw [decide_eq_false hno],by omega,by omega,λh=>absurd h hno⟩
  have hpos:0 < e.args.length→0 < fu:=by intro _;omega
  unfold hJ at args leaf;by_cases h12:e.op=1∨e.op=2
  ·have e1:(if e.op=(1:Int) then some (decide (e.op=(1:Int))) else some (decide (e.op=(2:Int))))=some true:=by
    rcases h12 with h|h<;>simp [h]
   rw [e1,aN,if_pos rfl,fV,eA];refine leaf _ ?_ ?_
   ·rw [if_pos h12,Bool.eq_iff_iff];simp only [decide_eq_true_eq,zQA];omega
   simp only [zQA,decide_eq_true_eq];omega
  have e1:(if e.op=(1:Int) then some (decide (e.op=(1:Int))) else some (decide (e.op=(2:Int))))=some false:=by
   rw [if_neg (by omega),decide_eq_false (by omega)]
  rw [e1,aN,if_neg (by simp)];by_cases h3:e.op=3
  ·rw [if_pos h3,fV,eA];refine leaf _ ?_ ?_
   ·rw [if_neg h12,if_pos h3,Bool.eq_iff_iff];simp only [decide_eq_true_eq,zQA];omega
   simp only [zQA,decide_eq_true_eq];omega
  rw [if_neg h3];by_cases h4:e.op=4
  ·rw [if_pos h4];by_cases h1:e.args.length=1
   ·rw [if_pos (by omega), eH];exact args (by rw [if_neg h12,if_neg h3,if_pos h4];simp [h1]) hpos
   rw [if_neg (by omega), fV, eA];exact leaf false (by rw [if_neg h12,if_neg h3,if_pos h4,decide_eq_false (by omega)]) (by simp)
  rw [if_neg h4];by_cases h5:e.op=5
  ·rw [if_pos h5,eH];exact args (by rw [if_neg h12,if_neg h3,if_neg h4,if_pos (.inl h5)];simp) hpos
  rw [if_neg h5];by_cases h6:e.op=6
  ·rw [if_pos h6,eH];exact args (by rw [if_neg h12,if_neg h3,if_neg h4,if_pos (.inr h6)];simp) hpos
  rw [if_neg h6,fV,eA];exact leaf false (by rw [if_neg h12,if_neg h3,if_neg h4,if_neg (by omega)]) (by simp)
abbrev qEB (n:Int) (e:Expr):Bool:=decide (kC n 1 20000 e)
theorem zZ (n:Int) {e:Expr} (ho:okE e):fX e n=some (qEB n e):=by
 unfold fX uF;obtain⟨k,hk,_⟩:=yH n bJ e 1 20000 (by unfold bJ;omega) (by unfold bJ;omega) (by omega) (by omega) (by omega) (by omega) ho;rw [hk,aN]
mutual
theorem qCC:∀ e:Expr,szE e≤e.encR.bulk
 | ⟨a,b,c⟩=>by
  have:=qEC c;simp only [szE,Expr.encR,D.bulk,D.bulks];omega
theorem qEC:∀ l:List Expr,szL l≤D.bulks (Expr.encsR l)
 | []=>by simp [szL]
 | e :: r=>by
  have:=qCC e;have:=qEC r;simp only [szL,Expr.encsR,D.bulks];omega
end
mutual
theorem qN:∀ e:Expr,dpE e≤szE e
 | ⟨a,b,c⟩=>by
  have:=qMV c;simp only [szE,dpE];omega
theorem qMV:∀ l:List Expr,dpL l≤szL l
 | []=>by simp [szL,dpL]
 | e :: r=>by
  have:=qN e;have:=qMV r;simp only [szL,dpL];omega
end
theorem yJ (e:Expr):1≤szE e:=by rw [kF];omega
theorem lA:∀ l:List Expr,l.length≤szL l
 | []=>by simp [szL]
 | e :: r=>by have:=yJ e;have:=lA r;simp only [szL,List.length_cons];omega
theorem kZ:∀ {l:List Expr} {x:Expr},x∈l→szE x≤szL l
 | e :: r,x,h=>by
  rcases zQB.1 h with rfl|h
  ·simp only [szL];omega
  have:=kZ h;simp only [szL];omega
theorem oR {l:List Expr} {x:Expr} (h:x∈l):dpE x≤dpL l:=(dpL_le.1 (zQW _)) x h
theorem qBI:∀ (fu:Nat) (e:Expr),dpE e≤fu→szE e≤1000000000→hP fu e=some (szE e:Int)
 | 0,e,h,_=>by rw [fY] at h;omega
 | fu+1,e,h,hs=>by
  rw [fY] at h;have hse:=kF e;have hl:=lA e.args;unfold hP;rw [qA (s:=((1:Int),(0:Int))) (λi=>((1:Int)+(szL (e.args.take i):Int),(i:Int))) e.args.length (o:=(1:Int)+(szL e.args:Int)) rfl (by omega) ?_ ?_]
  ·rw [aN]
   congr 1
   omega
  ·intro i hi;have hm:=List.getElem_mem hi;have h1:=oR hm;have h2:=kZ hm;have hq:e.args.take (i+1)=e.args.take i++[e.args[i]]:=by rw [List.take_add_one,zQR hi];rfl
   have hn:szL (e.args.take (i+1))=szL (e.args.take i)+szE e.args[i]:=by rw [hq,xO];simp [szL]
   have hle:szL (e.args.take (i+1))≤szL e.args:=by
    have:=xO (e.args.take (i+1)) (e.args.drop (i+1));rw [List.take_append_drop] at this;omega
   dsimp only;rw [if_pos (by omega),fZ (zQR hi),qBI fu e.args[i] (by omega) (by omega),aN,bF (by unfold I64;omega),bF (by unfold I64;omega)]
   congr 3
   omega
  dsimp only;rw [if_neg (by omega),List.take_length];rfl
theorem uN {e:Expr} (hs:szE e≤1000000000):fW e=some (szE e:Int):=by
 unfold fW;exact qBI bJ e (by have:=qN e;unfold bJ;omega) hs
theorem qSB (a b:List Expr):dpL (a++b)=max (dpL a) (dpL b):=by
 induction a with
 | nil=>simp [dpL]
 | cons x r ih=>simp only [List.cons_append,dpL,ih];omega
theorem zP:∀ (fu:Nat) (e:Expr),dpE e≤fu→szE e≤1000000000→gJ fu e=some (dpE e:Int)
 | 0,e,h,_=>by rw [fY] at h;omega
 | fu+1,e,h,hs=>by
  rw [fY] at h;have hse:=kF e;have hde:=fY e;have hds:=qN e;have hl:=lA e.args;unfold gJ;rw [qA (s:=((0:Int),(0:Int))) (λi=>((dpL (e.args.take i):Int),(i:Int))) e.args.length (o:=(dpL e.args:Int)) rfl (by omega) ?_ ?_]
  ·rw [aN, bF (by unfold I64; omega)]
   congr 1
   omega
  ·intro i hi;have hm:=List.getElem_mem hi;have h1:=oR hm;have h2:=kZ hm;have hq:e.args.take (i+1)=e.args.take i++[e.args[i]]:=by rw [List.take_add_one,zQR hi];rfl
   have hn:dpL (e.args.take (i+1))=max (dpL (e.args.take i)) (dpE e.args[i]):=by rw [hq,qSB];simp [dpL]
   dsimp only;rw [if_pos (by omega),fZ (zQR hi),zP fu e.args[i] (by omega) (by omega),aN,bF (by unfold I64;omega)]
   congr 3
   omega
  dsimp only;rw [if_neg (by omega),List.take_length];rfl
theorem qMW {e:Expr} (hs:szE e≤1000000000):nX e=some (dpE e:Int):=by
 unfold nX;exact zP bJ e (by have:=qN e;unfold bJ;omega) hs
theorem qBU (n:Int):∀ (fu:Nat) (e:Expr),dpE e≤fu→szE e≤1000000000→gE fu e n=some (dO n e)
 | 0,e,h,_=>by rw [fY] at h;omega
 | fu+1,e,h,hs=>by
  rw [fY] at h;have hse:=kF e;have hl:=lA e.args;have hg:dO n e=(hJ n e.op e.var e.args.length&&kU n e.args):=by cases e;rw [dO]
  have hgl:kU n e.args=!(e.args.any λx=>!dO n x):=by
   rw [Bool.eq_iff_iff,wE];simp
  have hloop : aT (ρ := Unit ⊕ Bool) (fun i20 =>
    if i20 < (e.args.length : Int) then
     aU e.args i20 fun e23 =>
     aA ((gE fu) e23 n) fun r24 =>
     if (!(r24)) = true then
      aJ (
       aJ (
        some false))
     else
      aB (I64 (i20 + (1 : Int))) <|
      some (.inl (i20 + (1 : Int)))
    else
     aJ (
      some (.inl ()))) (0 : Int) = some (if (e.args.any fun x => !dO n x) = true then (.inr false : Unit ⊕ Bool) else .inl ()) := by
   refine rQ (ρ:=Unit ⊕ Bool) e.args (λx=>!dO n x) (Sum.inr false) (Sum.inl ()) (by omega) ?_ ?_
   ·intro i x hx;have hi:=(zQQ.1 hx).1;have hm:=zQM hx;have h1:=oR hm;have h2:=kZ hm;rw [if_pos (by omega),fZ hx,qBU n fu x (by omega) (by omega),aN,bF (by unfold I64;omega)];cases dO n x<;>rfl
   rw [if_neg (by omega)];rfl
  unfold gE;rw [hloop,hg,hgl]
  have leaf:e.op=1∨e.op=2→some ((decide (e.var=0))&&(decide ((e.args.length:Int)=0)))=some (hJ n e.op e.var e.args.length&&!(e.args.any λx=>!dO n x)):=λh=>by
   have hf:hJ n e.op e.var e.args.length=decide (e.var=0∧e.args.length=0):=by unfold hJ;rw [if_pos h]
   rw [hf];by_cases hk:e.var=0∧e.args.length=0
   ·have ha:e.args=[]:=List.length_eq_zero_iff.1 hk.2;simp [hk.1,ha]
   rw [decide_eq_false hk,Bool.false_and]
   congr 1
   rw [Bool.and_eq_false_iff,decide_eq_false_iff_not,decide_eq_false_iff_not];omega
  by_cases h1:e.op=1
  ·rw [if_pos h1,aN,decide_eq_true h1,if_pos rfl,fV,eA];exact leaf (.inl h1)
  rw [if_neg h1,aN];by_cases h2:e.op=2
  ·rw [decide_eq_true h2,if_pos rfl,fV,eA];exact leaf (.inr h2)
  have h12 : ¬ (e.op = 1 ∨ e.op = 2) := by omega
  rw [decide_eq_false h2,if_neg Bool.false_ne_true];by_cases h3:e.op=3
  ·have hf : hJ n e.op e.var e.args.length = decide (0 ≤ e.var ∧ e.var < n ∧ e.args.length = 0) := by unfold hJ; rw [if_neg h12, if_pos h3]
   rw [if_pos h3,fV,eA,hf];by_cases hk:0≤e.var∧e.var < n∧e.args.length=0
   ·have ha:e.args=[]:=List.length_eq_zero_iff.1 hk.2.2;simp [hk.1,hk.2.1,ha]
   rw [decide_eq_false hk,Bool.false_and]
   congr 1
   rw [Bool.and_eq_false_iff,Bool.and_eq_false_iff,decide_eq_false_iff_not,decide_eq_false_iff_not,decide_eq_false_iff_not];omega
  rw [if_neg h3];by_cases h4:e.op=4
  ·have hf : hJ n e.op e.var e.args.length = decide (e.args.length = 1 ∧ e.var = 0) := by unfold hJ; rw [if_neg h12, if_neg h3, if_pos h4]
   rw [if_pos h4,hf];by_cases hk:e.args.length=1
   ·rw [if_pos (by omega), eH];cases e.args.any λx=>!dO n x<;>simp [hk]
   rw [if_neg (by omega), fV, eA];simp [hk]
  rw [if_neg h4];by_cases h5:e.op=5
  ·have hf : hJ n e.op e.var e.args.length = decide (e.var = 0) := by unfold hJ; rw [if_neg h12, if_neg h3, if_neg h4, if_pos (.inl h5)]
   rw [if_pos h5,eH,hf];cases e.args.any λx=>!dO n x<;>simp
  rw [if_neg h5];by_cases h6:e.op=6
  ·have hf : hJ n e.op e.var e.args.length = decide (e.var = 0) := by unfold hJ; rw [if_neg h12, if_neg h3, if_neg h4, if_pos (.inr h6)]
   rw [if_pos h6,eH,hf];cases e.args.any λx=>!dO n x<;>simp
  have hf : hJ n e.op e.var e.args.length = false := by unfold hJ; rw [if_neg h12, if_neg h3, if_neg h4, if_neg (by omega)]
  rw [if_neg h6,fV,eA,hf];rfl
theorem qSA (n:Int) {e:Expr} (hs:szE e≤1000000000):pP e n=some (dO n e):=by
 unfold pP;exact qBU n bJ e (by have:=qN e;unfold bJ;omega) hs
theorem uI (n:Int) {e:Expr} (hs:szE e≤1000000000):iT e n=some (qEB n e):=by
 unfold iT;rw [uN hs,aN];by_cases h1:(szE e:Int)≤20000
 ·rw [if_pos h1,qMW hs,aN];by_cases h2:(dpE e:Int)≤12
  ·rw [if_pos h2,qSA n hs,aN,aN]
   congr 1
   cases hg:dO n e with
   | false=>exact (decide_eq_false (show ¬ kC n 1 20000 e from λh=>by rw [h.1] at hg;cases hg)).symm
   | true=>exact (decide_eq_true (show kC n 1 20000 e from ⟨hg,by omega,h1⟩)).symm
  rw [if_neg h2,aN]
  congr 1
  exact (decide_eq_false (show ¬ kC n 1 20000 e from λh=>by have:=h.2.1;omega)).symm
 rw [if_neg h1,aN]
 congr 1
 exact (decide_eq_false (show ¬ kC n 1 20000 e from λh=>by have:=h.2.2;omega)).symm
theorem qUS:lO=some true:=by decide+kernel
mutual
def jJ (x:Int) (b:Expr):Expr→Expr
 | ⟨op,v,l⟩=>if op=3∧v=x then b else ⟨op,v,qQ x b l⟩
def qQ (x:Int) (b:Expr):List Expr→List Expr
 | []=>[]
 | e :: r=>jJ x b e :: qQ x b r
end
mutual
def nL (x:Int):Expr→Nat
 | ⟨op,v,l⟩=>(if op=3∧v=x then 1 else 0)+zT x l
def zT (x:Int):List Expr→Nat
 | []=>0
 | e :: r=>nL x e+zT x r
end
theorem yS (x:Int) (b:Expr):∀ l,qQ x b l=l.map (jJ x b)
 | []=>by simp [qQ]
 | e :: r=>by simp [qQ,yS x b r]
theorem qIG (x:Int) (b e:Expr):jJ x b e=if e.op=3∧e.var=x then b else ⟨e.op,e.var,e.args.map (jJ x b)⟩:=by
 cases e with
 | mk o v l=>rw [jJ,yS]
theorem zS (x:Int):∀ l,zT x l=(l.map (nL x)).sum
 | []=>by simp [zT]
 | e :: r=>by simp [zT,zS x r]
theorem qIY (x:Int) (e:Expr):nL x e=(if e.op=3∧e.var=x then 1 else 0)+zT x e.args:=by
 cases e with
 | mk o v l=>rw [nL]
mutual
theorem qHM (x:Int):∀ e,nL x e≤szE e
 | ⟨o,v,l⟩=>by
  have:=xY x l;simp only [nL,szE];split<;>omega
theorem xY (x:Int):∀ l,zT x l≤szL l
 | []=>by simp [zT,szL]
 | e :: r=>by
  have:=qHM x e;have:=xY x r;simp only [zT,szL];omega
end
mutual
theorem qLR (x:Int) (b:Expr):∀ e,szE (jJ x b e)≤szE e+nL x e * (szE b - 1)
 | ⟨o,v,l⟩=>by
  have h1:=qIE x b l;have h2:=yJ b;simp only [nL,szE,jJ];split
  ·rw [Nat.add_mul];omega
  simp only [szE,Nat.zero_add];omega
theorem qIE (x:Int) (b:Expr):∀ l,szL (qQ x b l)≤szL l+zT x l * (szE b - 1)
 | []=>by simp [qQ,szL]
 | e :: r=>by
  have h1:=qLR x b e;have h2:=qIE x b r;simp only [zT,szL,qQ];rw [Nat.add_mul];omega
end
theorem qKH {n m op x:Int} {k:Nat} (h:n≤m) (hf:hJ n op x k=true):hJ m op x k=true:=by
 unfold hJ at *;by_cases h1:op=1∨op=2
 ·rw [if_pos h1] at *; exact hf
 rw [if_neg h1] at *;by_cases h3:op=3
 ·rw [if_pos h3] at *;simp only [decide_eq_true_eq] at *;omega
 rw [if_neg h3] at *;exact hf
mutual
theorem yR {n m:Int} (x:Int) {b:Expr} (hnm:n≤m) (hb:dO m b=true):∀ e,dO n e=true→dO m (jJ x b e)=true
 | ⟨o,v,l⟩,h=>by
  simp only [dO,zQA] at h;have h1:=qBP x hnm hb l h.2;simp only [jJ];split
  ·exact hb
  simp only [dO,zQA];have hl:(qQ x b l).length=l.length:=by rw [yS,zQC]
  rw [hl];exact⟨qKH hnm h.1,h1⟩
theorem qBP {n m:Int} (x:Int) {b:Expr} (hnm:n≤m) (hb:dO m b=true):∀ l,kU n l=true→kU m (qQ x b l)=true
 | [],_=>by simp [qQ,kU]
 | e :: r,h=>by
  simp only [kU,zQA] at h;simp only [qQ,kU,zQA];exact⟨yR x hnm hb e h.1,qBP x hnm hb r h.2⟩
end
mutual
theorem qLS {n:Int} (x:Int) (b:Expr):∀ e,dO n e=true→dpE e≤dpE (jJ x b e)
 | ⟨o,v,l⟩,h=>by
  simp only [dO,zQA] at h;have h1:=qIF x b l h.2;simp only [jJ];split
  ·rename_i hc;have hf:=h.1;unfold hJ at hf;rw [if_neg (by omega),if_pos hc.1,decide_eq_true_eq] at hf;have:l=[]:=List.length_eq_zero_iff.1 hf.2.2;subst this;have:=fY b;simp only [dpE,dpL];omega
  simp only [dpE];omega
theorem qIF {n:Int} (x:Int) (b:Expr):∀ l,kU n l=true→dpL l≤dpL (qQ x b l)
 | [],_=>by simp [qQ]
 | e :: r,h=>by
  simp only [kU,zQA] at h;have h1:=qLS x b e h.1;have h2:=qIF x b r h.2;simp only [qQ,dpL];omega
end
mutual
theorem yQ {n x:Int} (b:Expr) (hx:x < 0∨n≤x):∀ e,dO n e=true→jJ x b e=e
 | ⟨o,v,l⟩,h=>by
  simp only [dO,zQA] at h;have h1:=qBO b hx l h.2;simp only [jJ];split
  ·rename_i hc;have hf:=h.1;unfold hJ at hf;rw [if_neg (by omega),if_pos hc.1,decide_eq_true_eq] at hf;omega
  rw [h1]
theorem qBO {n x:Int} (b:Expr) (hx:x < 0∨n≤x):∀ l,kU n l=true→qQ x b l=l
 | [],_=>by simp [qQ]
 | e :: r,h=>by
  simp only [kU,zQA] at h;simp only [qQ,yQ b hx e h.1,qBO b hx r h.2]
end
theorem sL {n m:Int} (h:n≤m) {e:Expr} (he:dO n e=true):dO m e=true:=by
 have h2:=yR (m:=m) (-1) (b:=⟨1,0,[]⟩) h (by simp [dO,hJ,kU]) e he;rw [yQ _ (.inl (by omega)) e he] at h2;exact h2
theorem qIP {n:Int} {e:Expr} (hs:szE e≤1000000000):okE e:=by
 suffices h:∀ (k:Nat) (e:Expr),szE e≤k→k≤1000000000→okE e from h _ e hs (zQW _)
 intro k
 induction k with
 | zero=>intro e h;have:=yJ e;omega
 | succ k ih=>
  intro e h hk;rw [kF] at h;rw [okE_iff];have:=lA e.args;exact⟨by unfold qFG;omega,λx hx=>ih x (by have:=kZ hx;omega) (by omega)⟩
theorem sP {l : List Expr} (g : Expr → Expr) (F : Expr → Option Expr) (hl : l.length ≤ 1000000000) (hF : ∀ e ∈ l, F e = some (g e)) : aT (ρ := List Expr) (fun (x6, b7) =>
    if x6 < (l.length : Int) then
     aU l x6 fun e10 =>
     aA (F e10) fun r11 =>
     aB ((b7 ++ ([r11] : List Expr)).length ≤ 1000000000) <|
     aB (I64 (x6 + (1 : Int))) <|
     some (.inl ((x6 + (1 : Int)), (b7 ++ ([r11] : List Expr))))
    else
     aJ (
      some b7)) ((0 : Int), ([] : List Expr)) = some (l.map g) := by
 rw [qA (s:=((0:Int),([]:List Expr))) (λi=>((i:Int),(l.take i).map g)) l.length (o:=l.map g) rfl (by omega) ?_ ?_]
 ·intro i hi;dsimp only;have hq:(l.take (i+1)).map g=(l.take i).map g++[g l[i]]:=by rw [List.take_add_one,zQR hi,List.map_append];rfl
  rw [if_pos (by omega),fZ (zQR hi),hF _ (List.getElem_mem hi),aN,bF (by simp;omega),bF (by unfold I64;omega),hq];rfl
 dsimp only;rw [if_neg (by omega),List.take_length];rfl
theorem uK {α : Type} {l : List α} (g : α → Nat) (F : α → Option Int) (a : Int) (h0 : 0 ≤ a) (hl : l.length ≤ 1000000000) (hs : a + ((l.map g).sum : Nat) ≤ 9000000000000000000) (hF : ∀ e ∈ l, F e = some (g e : Int)) : aT (ρ := Int) (fun (n5, x6) =>
    if x6 < (l.length : Int) then
     aU l x6 fun e9 =>
     aA (F e9) fun r10 =>
     aB (I64 (n5 + r10)) <|
     aB (I64 (x6 + (1 : Int))) <|
     some (.inl ((n5 + r10), (x6 + (1 : Int))))
    else
     aJ (
      some n5)) (a, (0 : Int)) = some (a + ((l.map g).sum : Nat)) := by
 rw [qA (s:=(a,(0:Int))) (λi=>(a+(((l.take i).map g).sum:Nat),(i:Int))) l.length (o:=a+((l.map g).sum:Nat)) (by simp) (by omega) ?_ ?_]
 ·intro i hi;dsimp only;have hq:((l.take (i+1)).map g).sum=((l.take i).map g).sum+g l[i]:=by rw [List.take_add_one,zQR hi,List.map_append,List.sum_append];simp
  have hle:((l.take (i+1)).map g).sum≤(l.map g).sum:=by
   have h1:=List.take_append_drop (i+1) l
   have h2:(l.map g).sum=((l.take (i+1)).map g).sum+((l.drop (i+1)).map g).sum:=by
    rw [← List.sum_append,← List.map_append,h1]
   omega
  rw [if_pos (by omega),fZ (zQR hi),hF _ (List.getElem_mem hi),aN,bF (by unfold I64;omega),bF (by unfold I64;omega)]
  congr 3
  omega
 dsimp only;rw [if_neg (by omega),List.take_length];rfl
theorem wW:∀ (fu:Nat) (e:Expr),dpE e≤fu→szE e≤1000000000→gH fu e=some e
 | 0,e,h,_=>by rw [fY] at h;omega
 | fu+1,e,h,hs=>by
  rw [fY] at h;have hse:=kF e;have hl:=lA e.args;unfold gH;rw [sP id (λe10=>gH fu e10) (by omega) λx hx=>wW fu x (by have:=oR hx;omega) (by have:=kZ hx;omega),aN,List.map_id,Expr.eta]
theorem qKK {e:Expr} (hs:szE e≤1000000000):nH e=some e:=by
 unfold nH;exact wW bJ e (by have:=qN e;unfold bJ;omega) hs
theorem qFZ {e:Expr} (hs:szE e≤1000000000):mJ e=some e:=by
 have hse:=kF e;have hl:=lA e.args;unfold mJ;obtain⟨n,hn⟩:∃ n,bJ=n+1:=⟨73786976294838206463,rfl⟩;rw [hn];unfold iY;dsimp only;rw [sP id (λe10=>nH e10) (by omega) λx hx=>qKK (by have:=kZ hx;omega),aN,List.map_id,Expr.eta]
theorem qEM (x:Int) {b:Expr} (hb:szE b≤1000000000):∀ (fu:Nat) (e:Expr),dpE e≤fu→szE e≤1000000000→eX fu e x b=some (jJ x b e)
 | 0,e,h,_=>by rw [fY] at h;omega
 | fu+1,e,h,hs=>by
  rw [fY] at h;have hse:=kF e;have hl:=lA e.args;unfold eX;rw [qIG];by_cases hc:e.op=3∧e.var=x
  ·rw [if_pos hc,if_pos (by simp [hc.1,hc.2]),qFZ hb,aN]
  rw [if_neg hc,if_neg (by simpa using hc),sP (jJ x b) (λe13=>eX fu e13 x b) (by omega) λy hy=>qEM x hb fu y (by have:=oR hy;omega) (by have:=kZ hy;omega),aN]
theorem qAC (x:Int) {b e:Expr} (hb:szE b≤1000000000) (hs:szE e≤1000000000):gI e x b=some (jJ x b e):=by
 unfold gI;exact qEM x hb bJ e (by have:=qN e;unfold bJ;omega) hs
theorem qBN (x:Int) (b:Expr):∀ (fu:Nat) (e:Expr),dpE e≤fu→szE e≤1000000000→eI fu e x b=some (jJ x b e)
 | 0,e,h,_=>by rw [fY] at h;omega
 | fu+1,e,h,hs=>by
  rw [fY] at h;have hse:=kF e;have hl:=lA e.args;unfold eI;rw [qIG];by_cases hc:e.op=3∧e.var=x
  ·rw [if_pos hc,if_pos (by simp [hc.1,hc.2])]
  rw [if_neg hc,if_neg (by simpa using hc),sP (jJ x b) (λe13=>eI fu e13 x b) (by omega) λy hy=>qBN x b fu y (by have:=oR hy;omega) (by have:=kZ hy;omega),aN]
theorem qGJ (x:Int) (b:Expr) {e:Expr} (hs:szE e≤1000000000):jK e x b=some (jJ x b e):=by
 unfold jK;exact qBN x b bJ e (by have:=qN e;unfold bJ;omega) hs
theorem zC:∀ (fu:Nat) (e:Expr),dpE e≤fu→szE e≤1000000000→hO fu e=some (szE e:Int)
 | 0,e,h,_=>by rw [fY] at h;omega
 | fu+1,e,h,hs=>by
  rw [fY] at h;have hse:=kF e;have hl:=lA e.args;have hsum:=qCD e.args;unfold hO;rw [uK szE (λe9=>hO fu e9) 1 (by omega) (by omega) (by omega) λy hy=>zC fu y (by have:=oR hy;omega) (by have:=kZ hy;omega),aN]
  congr 1
  omega
theorem qJG {e:Expr} (hs:szE e≤1000000000):jC e=some (szE e:Int):=by
 unfold jC;exact zC bJ e (by have:=qN e;unfold bJ;omega) hs
theorem wR (x:Int):∀ (fu:Nat) (e:Expr),dpE e≤fu→szE e≤1000000000→eJ fu e x=some (nL x e:Int)
 | 0,e,h,_=>by rw [fY] at h;omega
 | fu+1,e,h,hs=>by
  rw [fY] at h;have hse:=kF e;have hl:=lA e.args;have hsum:=zS x e.args;have hcs:=xY x e.args;have hce:=qIY x e;unfold eJ
  have h1:(if ((decide (e.op=(3:Int)))&&(decide (e.var=x)))=true then some (1:Int) else some 0)=some (((if e.op=3∧e.var=x then 1 else 0:Nat)):Int):=by
   by_cases hc:e.op=3∧e.var=x
   ·rw [if_pos hc,if_pos (by simp [hc.1,hc.2])];rfl
   rw [if_neg hc,if_neg (by simpa using hc)];rfl
  rw [h1,aN,uK (nL x) (λe9=>eJ fu e9 x) _ (by omega) (by omega) (by split<;>omega) λy hy=>wR x fu y (by have:=oR hy;omega) (by have:=kZ hy;omega),aN]
  congr 1
  omega
theorem qJT (x:Int) {e:Expr} (hs:szE e≤1000000000):iJ e x=some (nL x e:Int):=by
 unfold iJ;exact wR x bJ e (by have:=qN e;unfold bJ;omega) hs
theorem yI (x:Int):∀ (fu:Nat) (e:Expr),dpE e≤fu→szE e≤1000000000→fR fu e x=some (nL x e:Int)
 | 0,e,h,_=>by rw [fY] at h;omega
 | fu+1,e,h,hs=>by
  rw [fY] at h;have hse:=kF e;have hl:=lA e.args;have hsum:=zS x e.args;have hcs:=xY x e.args;have hce:=qIY x e;unfold fR
  have h1:(if ((decide (e.op=(3:Int)))&&(decide (e.var=x)))=true then some (1:Int) else some 0)=some (((if e.op=3∧e.var=x then 1 else 0:Nat)):Int):=by
   by_cases hc:e.op=3∧e.var=x
   ·rw [if_pos hc,if_pos (by simp [hc.1,hc.2])];rfl
   rw [if_neg hc,if_neg (by simpa using hc)];rfl
  rw [h1,aN,uK (nL x) (λe9=>fR fu e9 x) _ (by omega) (by omega) (by split<;>omega) λy hy=>yI x fu y (by have:=oR hy;omega) (by have:=kZ hy;omega),aN]
  congr 1
  omega
theorem qLB (x:Int) {e:Expr} (hs:szE e≤1000000000):lK e x=some (nL x e:Int):=by
 unfold lK;exact yI x bJ e (by have:=qN e;unfold bJ;omega) hs
theorem qBJ:∀ (fu:Nat) (e:Expr),dpE e≤fu→szE e≤1000000000→hR fu e e=some true
 | 0,e,h,_=>by rw [fY] at h;omega
 | fu+1,e,h,hs=>by
  rw [fY] at h;have hse:=kF e;have hl:=lA e.args;unfold hR;rw [if_neg (by simp),rQ (ρ:=Unit ⊕ Bool) e.args (λ_=>false) (Sum.inr false) (Sum.inl ()) (by omega) ?_ ?_]
  ·have : (e.args.any fun _ => false) = false := by simp
   rw [this];rfl
  ·intro i x hx;have hi:=(zQQ.1 hx).1;have hm:=zQM hx;rw [if_pos (by omega),fZ hx,fZ hx,qBJ fu x (by have:=oR hm;omega) (by have:=kZ hm;omega),aN,bF (by unfold I64;omega)];rfl
  rw [if_neg (by omega)];rfl
theorem qUT {e:Expr} (hs:szE e≤1000000000):kW e e=some true:=by
 unfold kW;exact qBJ bJ e (by have:=qN e;unfold bJ;omega) hs
def qH (n inp:Int) (r:Rung):Bool:=(decide (r.kind=1∧r.preset=0)||decide (r.kind=2∧1≤r.preset∧r.preset≤1073741824))&&(decide (inp≤r.var∧r.var < n)&&qEB n r.expr)
theorem qCH (p:Go.Proofs.YtldaknhjmhlefaaGreatDoor.Program) {r:Rung} (ho:okE r.expr):jL p r=some (qH (p.names.length:Int) p.inputs r):=by
 unfold jL qH
 have tail : aA (
  if p.inputs ≤ r.var then
   if r.var < (p.names.length : Int) then
    aA (fX r.expr (p.names.length : Int)) fun r14 =>
    some r14
   else
    some false
  else
   some false) (fun x10 =>
 some x10) = some (decide (p.inputs ≤ r.var ∧ r.var < (p.names.length : Int)) && qEB (p.names.length : Int) r.expr) := by
  by_cases h1:p.inputs≤r.var
  ·rw [if_pos h1];by_cases h2:r.var < (p.names.length:Int)
   ·rw [if_pos h2,zZ _ ho,aN,aN,decide_eq_true ⟨h1,h2⟩,Bool.true_and]
   rw [if_neg h2,aN,decide_eq_false (λh=>h2 h.2),Bool.false_and]
  rw [if_neg h1,aN,decide_eq_false (λh=>h1 h.1),Bool.false_and]
 by_cases h1:r.kind=1
 ·rw [if_pos h1];by_cases h0:r.preset=0
  ·rw [if_pos h0,eH,tail,decide_eq_true (⟨h1,h0⟩:r.kind=1∧r.preset=0),Bool.true_or,Bool.true_and]
  rw [if_neg h0, fV, eA, decide_eq_false (by omega), decide_eq_false (by omega)];rfl
 rw [if_neg h1];by_cases h2:r.kind=2
 ·rw [if_pos h2];by_cases h0:r.preset < 1∨1073741824 < r.preset
  ·rw [if_pos (by simpa using h0), fV, eA, decide_eq_false (by omega), decide_eq_false (by omega)];rfl
  rw [if_neg (by simpa using h0),eH,tail,decide_eq_true (show r.kind=2∧1≤r.preset∧r.preset≤1073741824 by omega),Bool.or_true,Bool.true_and]
 rw [if_neg h2, fV, eA, decide_eq_false (by omega), decide_eq_false (by omega)];rfl
def lC (p:Go.Proofs.YtldaknhjmhlefaaGreatDoor.Program):Int:=
 if 2000 < p.names.length then 2
 else if p.inputs < 0∨(p.names.length:Int) < p.inputs then 1
 else if p.rungs.all (qH (p.names.length:Int) p.inputs)=false then 1
 else if (p.rungs.map (·.var)).Nodup then 0 else 8
def tI (n:Nat) (l:List Int):List Bool:=(List.range n).map λ(j:Nat)=>decide ((j:Int)∈l)
theorem qJZ (n:Nat) (l:List Int):(tI n l).length=n:=by simp [tI]
theorem zG {n:Nat} {l:List Int} {x:Int} (h0:0≤x) (h1:x < (n:Int)):(tI n l)[x.toNat]?=some (decide (x∈l)):=by
 unfold tI;rw [zQP,List.getElem?_range (by omega)];simp only [Option.map_some];rw [show ((x.toNat:Nat):Int)=x by omega]
theorem qJY {n:Nat} {l:List Int} {x:Int} (h0:0≤x) (h1:x < (n:Int)):(tI n l).set x.toNat true=tI n (l++[x]):=by
 apply List.ext_getElem?;intro j;rw [List.getElem?_set,qJZ];by_cases hj:x.toNat=j
 ·subst hj;rw [if_pos rfl,if_pos (by omega),zG h0 h1];simp
 rw [if_neg hj];unfold tI;rw [zQP,zQP]
 cases hr:(List.range n)[j]? with
 | none=>rfl
 | some k=>
  have hk:k=j:=by
   rw [zQQ] at hr;obtain⟨hr1,hr2⟩:=hr;rw [List.getElem_range] at hr2;exact hr2.symm
  subst hk;simp only [Option.map_some,zQN,List.mem_singleton]
  congr 1
  rw [Bool.eq_iff_iff];simp only [decide_eq_true_eq];constructor
  ·intro h;exact .inl h
  rintro (h|h)
  ·exact h
  omega
theorem nodup_take {l:List Int}:l.Nodup↔∀ (i:Nat) (x:Int),l[i]?=some x→x∉l.take i:=by
 constructor
 ·intro h i x hx hm;have hi:=(zQQ.1 hx).1;obtain⟨j,hj,he⟩:=List.mem_take_iff_getElem.1 hm;rw [qBS] at h;refine h j i (by omega) hi ?_;rw [hx,zQR (by omega),he]
 intro h;rw [qBS];intro a c hac hc he;have hx:=zQR hc;rw [hx] at he;refine h c _ hx (List.mem_take_iff_getElem.2 ⟨a,by omega,?_⟩);exact (zQQ.1 he).2
structure POk (p:Go.Proofs.YtldaknhjmhlefaaGreatDoor.Program):Prop where
 rungs:p.rungs.length≤1000000000
 names:p.names.length≤9000000000000000000
 exprs:∀ r∈p.rungs,okE r.expr
theorem qJU {p:Go.Proofs.YtldaknhjmhlefaaGreatDoor.Program} (h:POk p):mM p=some (lC p):=by
 have hr:=h.rungs;unfold mM lC;by_cases h1:2000 < p.names.length
 ·rw [if_pos (by omega),if_pos h1]
 rw [if_neg (by omega), if_neg h1];by_cases h2:p.inputs < 0∨(p.names.length:Int) < p.inputs
 ·rw [if_pos (by simpa using h2),if_pos h2]
 rw [if_neg (by simpa using h2), if_neg h2, rQ p.rungs (fun r => !qH (p.names.length : Int) p.inputs r) (.inr 1) (.inl ()) (by omega) (fun i r hx => ?_) (by rw [if_neg (by omega)]; rfl)]
 ·rw [uY]
  cases ha:p.rungs.all (qH (p.names.length:Int) p.inputs) with
  | false=>rw [Bool.not_false,if_pos rfl,eA,if_pos rfl]
  | true=>
   rw [Bool.not_true,if_neg Bool.false_ne_true,eH,if_neg (by simp),bF (by omega)];rw [zQT] at ha
   have hv:∀ r∈p.rungs,0≤r.var∧r.var < (p.names.length:Int):=by
    intro r hr;have:=ha r hr;unfold qH at this;simp only [zQA,decide_eq_true_eq] at this;omega
   have hn:((p.names.length:Int)).toNat=p.names.length:=by omega
   rw [hn,qKC p.rungs.length (λi=>tI p.names.length ((p.rungs.map (·.var)).take i)) (λi=>match p.rungs[i]? with|some r=>decide (r.var∈(p.rungs.map (·.var)).take i)|none=>false) (.inr 8) (.inl (tI p.names.length (p.rungs.map (·.var)))) (by simp [tI,List.map_const']) (by omega) (λi hi _=>?_) (λ_=>by dsimp only;rw [if_neg (by omega),List.take_of_length_le (by simp)];rfl)]
   ·by_cases hd:(p.rungs.map (·.var)).Nodup
    ·rw [if_pos hd,if_neg ?_,eH];rw [zQU];rintro⟨i,hi,hc⟩;rw [List.mem_range] at hi;rw [zQR hi] at hc;exact nodup_take.1 hd i p.rungs[i].var (by simp [hi]) (of_decide_eq_true hc)
    rw [if_neg hd,if_pos ?_,eA];rw [zQU];rw [nodup_take] at hd;simp only [Classical.not_forall,Classical.not_not] at hd;obtain⟨i,x,hx,hm⟩:=hd;have hi:=(zQQ.1 hx).1;rw [zQC] at hi;refine⟨i,List.mem_range.2 hi,?_⟩;rw [zQP,zQR hi] at hx;simp only [Option.map_some,Option.some.injEq] at hx;rw [zQR hi];subst hx;exact decide_eq_true hm
   have hx:=zQR hi;have hvi:=hv _ (List.getElem_mem hi);dsimp only;rw [if_pos (by omega),fZ hx,qFR hvi.1 (zG hvi.1 hvi.2),hx];dsimp only;by_cases hm:p.rungs[i].var∈(p.rungs.map (·.var)).take i
   ·simp only [decide_eq_true hm];rfl
   simp only [decide_eq_false hm, Bool.false_eq_true, if_false]; rw [qFR hvi.1 (zG hvi.1 hvi.2), bF (vB hi (by omega)), qJY hvi.1 hvi.2];rw [List.take_add_one (l:=p.rungs.map (·.var)),zQP,hx];rfl
 have hi:=(zQQ.1 hx).1;rw [if_pos (by omega),fZ hx,qCH p (h.exprs r (zQM hx)),aN,bF (vB hi (by omega))];rfl
theorem nN {p:Go.Proofs.YtldaknhjmhlefaaGreatDoor.Program} (h:lC p=0):p.names.length≤2000∧0≤p.inputs∧p.inputs≤(p.names.length:Int)∧(∀ r∈p.rungs,qH (p.names.length:Int) p.inputs r=true)∧(p.rungs.map (·.var)).Nodup:=by
 unfold lC at h;split at h
 ·cases h
 split at h
 ·cases h
 split at h
 ·cases h
 split at h
 ·rename_i h1 h2 h3 h4;refine⟨by omega,by omega,by omega,?_,h4⟩;rw [← zQT];simpa using h3
 cases h
def inV (n:Nat) (I V:List Bool):List Bool:=(List.range n).map (λi=>I.getD i false)++V.drop n
theorem qLQ (p:Go.Proofs.YtldaknhjmhlefaaGreatDoor.Program) {r:Rung} (hs:szE r.expr≤1000000000):nA p r=some (qH (p.names.length:Int) p.inputs r):=by
 unfold nA qH;rw [uI _ hs,aN];by_cases h1:r.kind=1
 ·have h2 : ¬ r.kind = 2 := by omega
  by_cases hv:p.inputs≤r.var∧r.var < (p.names.length:Int)
  ·have hv1 : ¬ r.var < p.inputs := by omega
   have hv2:¬ (p.names.length:Int)≤r.var:=by omega
   by_cases hp:r.preset=0<;>simp [h1,hv,hv1,hv2,hp]
  by_cases hv1:r.var < p.inputs
  ·simp [h1,hv1,Int.not_le.2 hv1]
  have hv2 : (p.names.length : Int) ≤ r.var := by omega
  simp [h1,hv2,Int.not_lt.2 hv2]
 by_cases h2:r.kind=2
 ·by_cases hv:p.inputs≤r.var∧r.var < (p.names.length:Int)
  ·have hv1 : ¬ r.var < p.inputs := by omega
   have hv2:¬ (p.names.length:Int)≤r.var:=by omega
   by_cases hp:r.preset < 1∨1073741824 < r.preset
   ·have hp2 : ¬ (1 ≤ r.preset ∧ r.preset ≤ 1073741824) := by omega
    simp [h2,hv,hv1,hv2,hp,hp2]
   have hp2 : 1 ≤ r.preset ∧ r.preset ≤ 1073741824 := by omega
   simp [h2,hv,hv1,hv2,hp,hp2]
  by_cases hv1:r.var < p.inputs
  ·simp [h2,hv1,Int.not_le.2 hv1]
  have hv2 : (p.names.length : Int) ≤ r.var := by omega
  simp [h2,hv2,Int.not_lt.2 hv2]
 simp [h1,h2]
structure Slim (p:Go.Proofs.YtldaknhjmhlefaaGreatDoor.Program):Prop where
 ok:POk p
 rungs:p.rungs.length≤2000000
 size:∀ r∈p.rungs,szE r.expr≤2000000
theorem qJR {p:Go.Proofs.YtldaknhjmhlefaaGreatDoor.Program} (h:Slim p):lL p=some (lC p):=by
 have hr:=h.rungs;unfold lL lC;by_cases h1:2000 < p.names.length
 ·rw [if_pos (by omega),if_pos h1]
 rw [if_neg (by omega), if_neg h1];by_cases h2:p.inputs < 0∨(p.names.length:Int) < p.inputs
 ·rw [if_pos (by simpa using h2),if_pos h2]
 rw [if_neg (by simpa using h2), if_neg h2, rQ p.rungs (fun r => !qH (p.names.length : Int) p.inputs r) (.inr 1) (.inl ()) (by omega) (fun i r hx => ?_) (by rw [if_neg (by omega)]; rfl)]
 ·rw [uY]
  cases ha:p.rungs.all (qH (p.names.length:Int) p.inputs) with
  | false=>rw [Bool.not_false,if_pos rfl,eA,if_pos rfl]
  | true=>
   rw [Bool.not_true,if_neg Bool.false_ne_true,eH,if_neg (by simp)];rw [qKB p.rungs.length (λi=>match p.rungs[i]? with|some r=>decide (r.var∈(p.rungs.map (·.var)).take i)|none=>false) (.inr 8) (.inl ()) (by omega) (λi hi=>?_) (by rw [if_neg (by omega)];rfl)]
   ·by_cases hd:(p.rungs.map (·.var)).Nodup
    ·rw [if_pos hd,if_neg ?_,eH];rw [zQU];rintro⟨i,hi,hc⟩;rw [List.mem_range] at hi;rw [zQR hi] at hc;exact nodup_take.1 hd i p.rungs[i].var (by simp [hi]) (of_decide_eq_true hc)
    rw [if_neg hd,if_pos ?_,eA];rw [zQU];rw [nodup_take] at hd;simp only [Classical.not_forall,Classical.not_not] at hd;obtain⟨i,x,hx,hm⟩:=hd;have hi:=(zQQ.1 hx).1;rw [zQC] at hi;refine⟨i,List.mem_range.2 hi,?_⟩;rw [zQP,zQR hi] at hx;simp only [Option.map_some,Option.some.injEq] at hx;rw [zQR hi];subst hx;exact decide_eq_true hm
   have hx:=zQR hi;have hlen:(p.rungs.take i).length=i:=by rw [List.length_take];omega
   rw [if_pos (by omega),hx,rQ (ρ:=Unit ⊕ (Int ⊕ (Unit ⊕ Int))) (p.rungs.take i) (λr=>decide (r.var=p.rungs[i].var)) (.inr (.inr (.inr 8))) (.inl ()) (by omega) (λk r hk=>?_) (by rw [hlen,if_neg (by omega)];rfl)]
   ·have he:((p.rungs.take i).any λr=>decide (r.var=p.rungs[i].var))=decide (p.rungs[i].var∈(p.rungs.map (·.var)).take i):=by
     rw [Bool.eq_iff_iff,zQU,decide_eq_true_eq,← List.map_take,List.mem_map];exact⟨λ⟨x,h1,h2⟩=>⟨x,h1,of_decide_eq_true h2⟩,λ⟨x,h1,h2⟩=>⟨x,h1,decide_eq_true h2⟩⟩
    rw [he];dsimp only;by_cases hm:p.rungs[i].var∈(p.rungs.map (·.var)).take i
    ·rw [if_pos (decide_eq_true hm),if_pos (decide_eq_true hm),eA]
    rw [if_neg (λh=>hm (of_decide_eq_true h)),if_neg (λh=>hm (of_decide_eq_true h)),eH,bF (vB hi (by omega))]
   have hk2:=(zQQ.1 hk).1
   have hkr:p.rungs[k]?=some r:=by
    rw [List.getElem?_take] at hk;split at hk
    ·exact hk
    cases hk
   rw [if_pos (by omega),fZ hkr,fZ hx,bF (by unfold I64;omega)];by_cases hv:r.var=p.rungs[i].var
   ·rw [if_pos hv,decide_eq_true hv];rfl
   rw [if_neg hv,decide_eq_false hv];rfl
 have hi:=(zQQ.1 hx).1;rw [if_pos (by omega),fZ hx,qLQ p (by have:=h.size r (zQM hx);omega),aN,bF (vB hi (by omega))];rfl
def byR (p:Go.Proofs.YtldaknhjmhlefaaGreatDoor.Program) (i:Nat) (r:Rung):Expr:=if r.kind=2 then ⟨3,(p.names.length:Int)+i,[]⟩ else r.expr
def sY (p:Go.Proofs.YtldaknhjmhlefaaGreatDoor.Program):Nat→Expr→Option Expr
 | 0,c=>some c
 | i+1,c=>match p.rungs[i]? with
  | none=>some c
  | some r=>if 20000 < szE c+nL r.var c * (szE (byR p i r) - 1) then none else sY p i (jJ r.var (byR p i r) c)
def xL (p:Go.Proofs.YtldaknhjmhlefaaGreatDoor.Program):Nat→Expr→Option Expr
 | 0,c=>some c
 | i+1,c=>match p.rungs[i]? with
  | none=>some c
  | some r=>if 20000 < szE c+nL r.var c * (szE (byR p i r) - 1) then none else if dpE (jJ r.var (byR p i r) c)≤12 then xL p i (jJ r.var (byR p i r) c) else none
def sB (p:Go.Proofs.YtldaknhjmhlefaaGreatDoor.Program):Int:=(p.names.length:Int)+(p.rungs.length:Int)
theorem qKX {n:Int} {e:Expr} (hg:dO n e=true) (hs:szE e≤20000):qEB n e=decide (dpE e≤12):=by
 show decide (kC n 1 20000 e)=_;rw [decide_eq_decide];unfold kC;constructor
 ·rintro⟨_,h,_⟩;omega
 intro h;exact⟨hg,by omega,by omega⟩
theorem qDZ {p:Go.Proofs.YtldaknhjmhlefaaGreatDoor.Program} (hc:lC p=0) {i:Nat} {r:Rung} (hx:p.rungs[i]?=some r):dO (sB p) (byR p i r)=true∧szE (byR p i r)≤20000∧(r.kind=1∨r.kind=2):=by
 have h:=(nN hc).2.2.2.1 r (zQM hx);have hi:=(zQQ.1 hx).1;unfold qH at h;simp only [zQA,Bool.or_eq_true,decide_eq_true_eq] at h;obtain⟨h1,h2,h3⟩:=h;unfold byR sB;refine⟨?_,?_,by omega⟩
 ·split
  ·simp [dO,hJ,kU];omega
  exact sL (by omega) h3.1
 split
 ·simp [szE,szL]
 have:=h3.2.2;omega
theorem qCJ {p:Go.Proofs.YtldaknhjmhlefaaGreatDoor.Program} (hc:lC p=0) {i:Nat} {r:Rung} (hx:p.rungs[i]?=some r) {c:Expr} (hg:dO (sB p) c=true) (hs:¬ 20000 < szE c+nL r.var c * (szE (byR p i r) - 1)):dO (sB p) (jJ r.var (byR p i r) c)=true∧szE (jJ r.var (byR p i r) c)≤20000∧dpE c≤dpE (jJ r.var (byR p i r) c):=
 ⟨yR _ (Int.le_refl _) (qDZ hc hx).1 c hg,by have:=qLR r.var (byR p i r) c;omega,qLS _ _ c hg⟩
theorem yD {p:Go.Proofs.YtldaknhjmhlefaaGreatDoor.Program} (hc:lC p=0):∀ {i:Nat} {c e:Expr},sY p i c=some e→dO (sB p) c=true→szE c≤20000→dO (sB p) e=true∧szE e≤20000∧dpE c≤dpE e
 | 0,c,e,h,hg,hs=>by
  simp only [sY,Option.some.injEq] at h;subst h;exact⟨hg,hs,zQW _⟩
 | i+1,c,e,h,hg,hs=>by
  simp only [sY] at h;split at h
  ·simp only [Option.some.injEq] at h;subst h;exact⟨hg,hs,zQW _⟩
  rename_i r hx;split at h
  ·cases h
  rename_i hl;obtain⟨a,b,d⟩:=qCJ hc hx hg hl;obtain⟨a2,b2,d2⟩:=yD hc h a b;exact⟨a2,b2,by omega⟩
theorem qHQ {p : Go.Proofs.YtldaknhjmhlefaaGreatDoor.Program} (hc : lC p = 0) : ∀ (i : Nat) (c : Expr), dO (sB p) c = true → szE c ≤ 20000 → dpE c ≤ 12 → xL p i c = (sY p i c).bind fun e => if dpE e ≤ 12 then some e else none
 | 0,c,hg,hs,hd=>by simp [sY,xL,hd]
 | i+1,c,hg,hs,hd=>by
  simp only [sY,xL];split
  ·simp [hd]
  rename_i r hx;split
  ·rfl
  rename_i hl;obtain⟨a,b,d⟩:=qCJ hc hx hg hl;split
  ·rename_i h12;exact qHQ hc i _ a b h12
  rename_i h12
  cases he:sY p i (jJ r.var (byR p i r) c) with
  | none=>rfl
  | some e=>
   obtain⟨a2,b2,d2⟩:=yD hc he a b;show none=if dpE e≤12 then some e else none;rw [if_neg (by omega)]
def qF (p:Go.Proofs.YtldaknhjmhlefaaGreatDoor.Program) (e:Expr):Expr×Int:=
 if lC p=0∧qEB (p.names.length:Int) e=true then
  match xL p p.rungs.length e with
  | some x=>(x,0)
  | none=>(⟨0,0,[]⟩,2)
 else (⟨0,0,[]⟩,1)
theorem yK {n i:Nat} {k:Int} (h1:n≤20000) (h2:i≤20000) (hk:(0:Int)≤k∧k≤20000):I64 (k - 1)∧I64 ((i:Int) * (k - 1))∧I64 ((n:Int)+(i:Int) * (k - 1)):=by
 have h3:(i:Int) * (k - 1)≤20000 * 20000:=by
  rcases Int.le_total 0 (k - 1) with h|h
  ·exact Int.mul_le_mul (by omega) (by omega) h (by omega)
  have := Int.mul_nonpos_of_nonneg_of_nonpos (show (0 : Int) ≤ (i : Int) by omega) h;omega
 have h4:-20000≤(i:Int) * (k - 1):=by
  rcases Int.le_total 0 (k - 1) with h|h
  ·have := Int.mul_nonneg (show (0 : Int) ≤ (i : Int) by omega) h;omega
  have h5 : k = 0 ∨ k = 1 := by omega
  rcases h5 with h5|h5<;>subst h5<;>omega
 unfold I64;omega
theorem yC {a c b:Nat} (hb:1≤b):((20000:Int) < (a:Int)+(c:Int) * ((b:Int) - 1))↔20000 < a+c * (b - 1):=by
 have:(c:Int) * ((b:Int) - 1)=((c * (b - 1):Nat):Int):=by
  rw [Int.natCast_mul,Int.natCast_sub hb];rfl
 rw [this];omega
theorem qKN {p:Go.Proofs.YtldaknhjmhlefaaGreatDoor.Program} {i:Nat} {r:Rung} (hx:p.rungs[i]?=some r) (c:Expr):xL p (i+1) c=if 20000 < szE c+nL r.var c * (szE (byR p i r) - 1) then none else if dpE (jJ r.var (byR p i r) c)≤12 then xL p i (jJ r.var (byR p i r) c) else none:=by
 simp only [xL,hx]
theorem qKM {p:Go.Proofs.YtldaknhjmhlefaaGreatDoor.Program} {i:Nat} {r:Rung} (hx:p.rungs[i]?=some r) (c:Expr):sY p (i+1) c=if 20000 < szE c+nL r.var c * (szE (byR p i r) - 1) then none else sY p i (jJ r.var (byR p i r) c):=by
 simp only [sY,hx]
def endB (o:Option Expr):(Int×Int×List Expr) ⊕ (Expr×Int):=match o with
 | some e=>.inl (e.op,e.var,e.args)
 | none=>.inr (⟨0,0,[]⟩,2)
theorem qKS {p:Go.Proofs.YtldaknhjmhlefaaGreatDoor.Program} (h:Slim p) {e:Expr} (hs:szE e≤2000000):jM p e=some (qF p e):=by
 have hlen:=h.rungs;unfold jM qF;rw [qJU h.ok,aN];by_cases hc:lC p=0
 ·rw [if_pos hc, zZ _ (qIP (n := 0) (e := e) (by omega)), aN, aN];by_cases hv:qEB (p.names.length:Int) e=true
  ·obtain⟨hn1,hn2,hn3,hn4,hn5⟩:=nN hc;have hV:kC (p.names.length:Int) 1 20000 e:=of_decide_eq_true hv;have hsz:szE e≤20000:=by have:=hV.2.2;omega
   have hge:dO (sB p) e=true:=sL (by unfold sB;omega) hV.1;rw [hv,if_neg (by simp),if_pos ⟨hc,rfl⟩,bF (by unfold I64;omega),qAC (-1) (b:=⟨0,0,[]⟩) (by simp [szE,szL]) (by omega),yQ _ (.inl (by omega)) e hge,aN,bF (by unfold I64;omega)]
   obtain ⟨o, h1, h2⟩ := qDG (f := fun ((i19 : Int), (c20 : Int), (c21 : Int), (c22 : List Expr)) =>
    if (0 : Int) ≤ i19 then
     aU p.rungs i19 fun e25 =>
     aA (
      if e25.kind = (2 : Int) then
       aB (I64 ((p.names.length : Int) + i19)) <|
       some ((3 : Int), ((p.names.length : Int) + i19), ([] : List Expr))
      else
       some (e25.expr.op, e25.expr.var, e25.expr.args)) fun (c26, c27, c28) =>
     aA (jC (⟨c20, c21, c22⟩ : Expr)) fun r32 =>
     aA (iJ (⟨c20, c21, c22⟩ : Expr) e25.var) fun r33 =>
     aA (jC (⟨c26, c27, c28⟩ : Expr)) fun r34 =>
     aB (I64 (r34 - (1 : Int))) <|
     aB (I64 (r33 * (r34 - (1 : Int)))) <|
     aB (I64 (r32 + (r33 * (r34 - (1 : Int))))) <|
     if (20000 : Int) < (r32 + (r33 * (r34 - (1 : Int)))) then
      aJ (
       aJ (
        some ((⟨(0 : Int), (0 : Int), ([] : List Expr)⟩ : Expr), (2 : Int))))
     else
      aA (gI (⟨c20, c21, c22⟩ : Expr) e25.var (⟨c26, c27, c28⟩ : Expr)) fun r41 =>
      aA (fX r41 ((p.names.length : Int) + (p.rungs.length : Int))) fun r42 =>
      if (!(r42)) = true then
       aJ (
        aJ (
         some ((⟨(0 : Int), (0 : Int), ([] : List Expr)⟩ : Expr), (2 : Int))))
      else
       aB (I64 (i19 - (1 : Int))) <|
       some (.inl ((i19 - (1 : Int)), r41.op, r41.var, r41.args))
    else
     aJ (
      some (.inl (c20, c21, c22)))) (s := ((p.rungs.length : Int) - (1 : Int), e.op, e.var, e.args))
    (λo=>o=endB (xL p p.rungs.length e))
    (fun k s => ∃ c : Expr, s = ((p.rungs.length : Int) - 1 - (k : Int), c.op, c.var, c.args) ∧ xL p (p.rungs.length - k) c = xL p p.rungs.length e ∧ dO (sB p) c = true ∧ szE c ≤ 20000) p.rungs.length (by unfold qFG; omega) ⟨e, by simp, rfl, hge, hsz⟩ (fun k hk s hI => by
     obtain ⟨c, rfl, hb, hg, hcs⟩ := hI;obtain ⟨i, hi⟩ : ∃ i, p.rungs.length - k = i + 1 := ⟨p.rungs.length - k - 1, by omega⟩;have hil : i < p.rungs.length := by omega
     have hx := zQR hil;have hidx : (p.rungs.length : Int) - 1 - (k : Int) = (i : Int) := by omega
     obtain ⟨bg, bs, bk⟩ := qDZ hc hx
     have hby : (if p.rungs[i].kind = (2 : Int) then
       aB (I64 ((p.names.length : Int) + (i : Int))) <|
       some ((3 : Int), ((p.names.length : Int) + (i : Int)), ([] : List Expr))
      else
       some (p.rungs[i].expr.op, p.rungs[i].expr.var, p.rungs[i].expr.args)) = some ((byR p i p.rungs[i]).op, (byR p i p.rungs[i]).var, (byR p i p.rungs[i]).args) := by
      unfold byR;by_cases hk2 : p.rungs[i].kind = 2
      ·rw [if_pos hk2, if_pos hk2, bF (by unfold I64; omega)]
      rw [if_neg hk2, if_neg hk2]
     rw [hi] at hb;rw [qKN hx] at hb;dsimp only;rw [hidx, if_pos (by omega), fZ hx, hby, aN];dsimp only;rw [Expr.eta, Expr.eta, qJG (by omega), aN, qJT _ (by omega), aN, qJG (by omega), aN];have hcnt := qHM p.rungs[i].var c;have hp1 := yJ (byR p i p.rungs[i]);obtain ⟨g1, g2, g3⟩ := yK (n := szE c) (i := nL p.rungs[i].var c) (k := (szE (byR p i p.rungs[i]) : Int)) hcs (by omega) (by omega);rw [bF g1, bF g2, bF g3];by_cases hl : 20000 < szE c + nL p.rungs[i].var c * (szE (byR p i p.rungs[i]) - 1)
     ·right;rw [if_pos hl] at hb;rw [if_pos ((yC hp1).2 hl), ← hb];exact ⟨_, rfl, rfl⟩
     ·rw [if_neg hl] at hb;obtain ⟨q1, q2, q3⟩ := qCJ hc hx hg hl;rw [if_neg (fun h => hl ((yC hp1).1 h)), qAC _ (by omega) (by omega), aN, zZ _ (qIP (n := 0) (by omega)), aN, show ((p.names.length : Int) + (p.rungs.length : Int)) = sB p from rfl, qKX q1 q2];by_cases hd : dpE (jJ p.rungs[i].var (byR p i p.rungs[i]) c) ≤ 12
      ·left;rw [if_pos hd] at hb;rw [decide_eq_true hd, if_neg (by simp), bF (by unfold I64; omega)];refine ⟨_, rfl, jJ p.rungs[i].var (byR p i p.rungs[i]) c, ?_, ?_, q1, q2⟩
       ·rw [show ((i : Int) - 1) = (p.rungs.length : Int) - 1 - ((k + 1 : Nat) : Int) by omega]
       rw [show p.rungs.length - (k + 1) = i by omega];exact hb
      right;rw [if_neg hd] at hb;rw [decide_eq_false hd, if_pos (by simp), ← hb]
      exact ⟨_, rfl, rfl⟩) (fun s hI => by
     obtain ⟨c, rfl, hb, hg, hcs⟩ := hI;rw [Nat.sub_self] at hb;dsimp only;rw [if_neg (by omega), ← hb]
     exact ⟨_, rfl, rfl⟩)
   rw [h1,h2]
   cases xL p p.rungs.length e with
   | none=>rfl
   | some x=>show cU (some (Sum.inl (x.op,x.var,x.args))) _=_;rw [eH];dsimp only;rw [Expr.eta]
  rw [Bool.not_eq_true] at hv;rw [hv,if_pos (by simp),if_neg (by simp)]
 rw [if_neg hc,aN,if_pos rfl,if_neg (λh=>hc h.1)]
theorem qHS {p:Go.Proofs.YtldaknhjmhlefaaGreatDoor.Program} (h:Slim p) {e:Expr} (hs:szE e≤2000000):kI p e=some (qF p e):=by
 have hlen:=h.rungs;unfold kI qF;rw [qJR h,aN];by_cases hc:lC p=0
 ·rw [if_pos hc, uI _ (by omega), aN, aN];by_cases hv:qEB (p.names.length:Int) e=true
  ·obtain⟨hn1,hn2,hn3,hn4,hn5⟩:=nN hc;have hV:kC (p.names.length:Int) 1 20000 e:=of_decide_eq_true hv;have hsz:szE e≤20000:=by have:=hV.2.2;omega
   have hdp:dpE e≤12:=by have:=hV.2.1;omega
   have hge:dO (sB p) e=true:=sL (by unfold sB;omega) hV.1;rw [hv,if_neg (by simp),if_pos ⟨hc,rfl⟩,bF (by unfold I64;omega)]
   obtain ⟨o, h1, h2⟩ := qDG (f := fun ((i17 : Int), (c18 : Int), (c19 : Int), (c20 : List Expr)) =>
    if (0 : Int) ≤ i17 then
     aB (I64 ((p.names.length : Int) + i17)) <|
     aA (uO ((p.names.length : Int) + i17)) fun r24 =>
     aA (
      aU p.rungs i17 fun e29 =>
      if e29.kind = (1 : Int) then
       aU p.rungs i17 fun e31 =>
       some (e31.expr.op, e31.expr.var, e31.expr.args)
      else
       some (r24.op, r24.var, r24.args)) fun (c25, c26, c27) =>
     aA (fW (⟨c18, c19, c20⟩ : Expr)) fun r32 =>
     aU p.rungs i17 fun e33 =>
     aA (lK (⟨c18, c19, c20⟩ : Expr) e33.var) fun r34 =>
     aA (fW (⟨c25, c26, c27⟩ : Expr)) fun r35 =>
     aB (I64 (r35 - (1 : Int))) <|
     aB (I64 (r34 * (r35 - (1 : Int)))) <|
     aB (I64 (r32 + (r34 * (r35 - (1 : Int))))) <|
     if (20000 : Int) < (r32 + (r34 * (r35 - (1 : Int)))) then
      aJ (
       aJ (
        some ((⟨(0 : Int), (0 : Int), ([] : List Expr)⟩ : Expr), (2 : Int))))
     else
      aU p.rungs i17 fun e42 =>
      aA (jK (⟨c18, c19, c20⟩ : Expr) e42.var (⟨c25, c26, c27⟩ : Expr)) fun r43 =>
      aB (I64 (i17 - (1 : Int))) <|
      some (.inl ((i17 - (1 : Int)), r43.op, r43.var, r43.args))
    else
     aJ (
      some (.inl (c18, c19, c20)))) (s := ((p.rungs.length : Int) - (1 : Int), e.op, e.var, e.args))
    (λo=>o=endB (sY p p.rungs.length e))
    (fun k s => ∃ c : Expr, s = ((p.rungs.length : Int) - 1 - (k : Int), c.op, c.var, c.args) ∧ sY p (p.rungs.length - k) c = sY p p.rungs.length e ∧ dO (sB p) c = true ∧ szE c ≤ 20000) p.rungs.length (by unfold qFG; omega) ⟨e, by simp, rfl, hge, hsz⟩ (fun k hk s hI => by
     obtain ⟨c, rfl, hb, hg, hcs⟩ := hI;obtain ⟨i, hi⟩ : ∃ i, p.rungs.length - k = i + 1 := ⟨p.rungs.length - k - 1, by omega⟩;have hil : i < p.rungs.length := by omega
     have hx := zQR hil;have hidx : (p.rungs.length : Int) - 1 - (k : Int) = (i : Int) := by omega
     obtain ⟨bg, bs, bk⟩ := qDZ hc hx
     have hby : (if p.rungs[i].kind = (1 : Int) then
       some (p.rungs[i].expr.op, p.rungs[i].expr.var, p.rungs[i].expr.args)
      else
       some ((3 : Int), ((p.names.length : Int) + (i : Int)), ([] : List Expr))) = some ((byR p i p.rungs[i]).op, (byR p i p.rungs[i]).var, (byR p i p.rungs[i]).args) := by
      unfold byR;by_cases hk2 : p.rungs[i].kind = 2
      ·rw [if_neg (by omega), if_pos hk2]
      rw [if_pos (by omega), if_neg hk2]
     rw [hi] at hb;rw [qKM hx] at hb;dsimp only;unfold uO;rw [hidx, if_pos (by omega), bF (by unfold I64; omega), aN, fZ hx, fZ hx];dsimp only;rw [hby, aN];dsimp only;rw [Expr.eta, Expr.eta, uN (by omega), aN, fZ hx, qLB _ (by omega), aN, uN (by omega), aN];have hcnt := qHM p.rungs[i].var c;have hp1 := yJ (byR p i p.rungs[i]);obtain ⟨g1, g2, g3⟩ := yK (n := szE c) (i := nL p.rungs[i].var c) (k := (szE (byR p i p.rungs[i]) : Int)) hcs (by omega) (by omega);rw [bF g1, bF g2, bF g3];by_cases hl : 20000 < szE c + nL p.rungs[i].var c * (szE (byR p i p.rungs[i]) - 1)
     ·right;rw [if_pos hl] at hb;rw [if_pos ((yC hp1).2 hl), ← hb];exact ⟨_, rfl, rfl⟩
     ·rw [if_neg hl] at hb;obtain ⟨q1, q2, q3⟩ := qCJ hc hx hg hl;left;rw [if_neg (fun h => hl ((yC hp1).1 h)), fZ hx, qGJ _ _ (by omega), aN, bF (by unfold I64; omega)];refine ⟨_, rfl, jJ p.rungs[i].var (byR p i p.rungs[i]) c, ?_, ?_, q1, q2⟩
      ·rw [show ((i : Int) - 1) = (p.rungs.length : Int) - 1 - ((k + 1 : Nat) : Int) by omega]
      rw [show p.rungs.length - (k + 1) = i by omega]
      exact hb) (fun s hI => by
     obtain ⟨c, rfl, hb, hg, hcs⟩ := hI;rw [Nat.sub_self] at hb;dsimp only;rw [if_neg (by omega), ← hb]
     exact ⟨_, rfl, rfl⟩)
   rw [h1,h2,qHQ hc _ _ hge hsz hdp]
   cases hbe:sY p p.rungs.length e with
   | none=>rfl
   | some x=>
    obtain⟨q1,q2,q3⟩:=yD hc hbe hge hsz;show cU (some (Sum.inl (x.op,x.var,x.args))) _=_;rw [eH];dsimp only;rw [Expr.eta,bF (by unfold I64;omega),uI _ (by omega),aN,show ((p.names.length:Int)+(p.rungs.length:Int))=sB p from rfl,qKX q1 q2];by_cases hd:dpE x≤12
    ·rw [decide_eq_true hd,if_neg (by simp),Option.bind_some,if_pos hd]
    rw [decide_eq_false hd,if_pos (by simp),Option.bind_some,if_neg hd]
  rw [Bool.not_eq_true] at hv;rw [hv,if_pos (by simp),if_neg (by simp)]
 rw [if_neg hc,aN,if_pos rfl,if_neg (λh=>hc h.1)]
theorem qJK (r:Rung):szE r.expr≤r.enc.bulk:=by
 have:=qCC r.expr;rw [Expr.encR_eq] at this;simp only [Rung.enc,Expr.enc,D.bulk,D.bulks] at *;omega
theorem yN : ∀ l : List Rung, (l.map fun r => szE r.expr).sum ≤ D.bulks (l.map Rung.enc)
 | []=>by simp [D.bulks]
 | r :: l=>by
  have:=qJK r;have:=yN l;simp only [List.map_cons,List.sum_cons,D.bulks];omega
theorem qBR {p:Go.Proofs.YtldaknhjmhlefaaGreatDoor.Program} {n:Nat} (h:p.enc.bulk≤n):(p.rungs.map λr=>szE r.expr).sum≤n∧p.rungs.length≤n∧p.names.length≤n:=by
 have h1:=yN p.rungs;have h2:=D.length_le (p.rungs.map Rung.enc);have h3:=D.length_le (p.names.map D.str);rw [zQC] at h2 h3;simp only [Go.Proofs.YtldaknhjmhlefaaGreatDoor.Program.enc,D.bulk,D.bulks] at h;omega
theorem qCE : ∀ {l : List Rung} {r : Rung}, r ∈ l → szE r.expr ≤ (l.map fun r => szE r.expr).sum
 | x :: l,r,h=>by
  rw [List.map_cons,List.sum_cons];rcases zQB.1 h with rfl|h
  ·omega
  have:=qCE h;omega
theorem qJI {p:Go.Proofs.YtldaknhjmhlefaaGreatDoor.Program} (hw:Go.Proofs.YtldaknhjmhlefaaGreatDoor.Program.Wf p) (h:p.enc.bulk≤1048576):Slim p:=by
 obtain⟨h1,h2,h3⟩:=qBR h;refine⟨⟨by omega,by omega,λr hr=>qJX (hw.rungs.2 r hr).expr⟩,by omega,λr hr=>?_⟩;have:=qCE hr;omega
theorem qLG {p:Go.Proofs.YtldaknhjmhlefaaGreatDoor.Program} {e:Expr} (hp:p.enc.bulk≤1048576) (hs:szE e≤1048576):∃ b,lN p e=some b:=by
 obtain⟨h1,h2,h3⟩:=qBR hp;unfold lN;rw [uN (by omega),aN,uK (λr:Rung=>szE r.expr) (λr=>fW r.expr) _ (by omega) (by omega) (by omega) λr hr=>uN (by have:=qCE hr;omega),aN];exact⟨_,rfl⟩
theorem qKL {p:Go.Proofs.YtldaknhjmhlefaaGreatDoor.Program} {e:Expr}:szE (qF p e).1≤20000:=by
 unfold qF;split
 ·rename_i h;have hV:kC (p.names.length:Int) 1 20000 e:=of_decide_eq_true h.2;have hsz:szE e≤20000:=by have:=hV.2.2;omega
  have hge:dO (sB p) e=true:=sL (by unfold sB;omega) hV.1;rw [qHQ h.1 _ _ hge hsz (by have:=hV.2.1;omega)]
  cases hb:sY p p.rungs.length e with
  | none=>simp [szE,szL]
  | some x=>
   obtain⟨q1,q2,q3⟩:=yD h.1 hb hge hsz;by_cases hd:dpE x≤12
   ·rw [Option.bind_some,if_pos hd];exact q2
   rw [Option.bind_some,if_neg hd];simp [szE,szL]
 simp [szE,szL]
theorem qFD {p0:Go.Proofs.YtldaknhjmhlefaaGreatDoor.Program} {p1:Expr} (w0:Go.Proofs.YtldaknhjmhlefaaGreatDoor.Program.Wf p0) (w1:Expr.Wf p1) (hb:D.bulks [p0.enc,p1.enc]≤1048576):iC p0 p1=some true:=by
 have hp:p0.enc.bulk≤1048576:=by simp only [D.bulks] at hb;omega
 have he:szE p1≤1048576:=by
  have:=qCC p1;rw [Expr.encR_eq] at this;simp only [D.bulks] at hb;omega
 obtain⟨b,hs⟩:=qLG hp he;have hsl:=qJI w0 hp;unfold iC;rw [hs,aN,qUS]
 cases b with
 | false=>rfl
 | true=>
  rw [if_neg (by simp),qKS hsl (by omega),qHS hsl (by omega)];have h1:=qKL (p:=p0) (e:=p1);rcases hbp:qF p0 p1 with ⟨a,c⟩;rw [hbp] at h1;dsimp only at h1;simp only [aN];rw [if_pos trivial,qUT (by omega),aN,if_pos rfl,aN]
end Go.Proofs.YtldaknhjmhlefaaGreatDoor
