/- Texts of this proof, joined, without what it does not use. No condition. -/
import Derived.Test.YtofndjhpbonpbaaGreatDoorQs

set_option maxHeartbeats 8000000
set_option linter.unusedSimpArgs false
set_option linter.unusedVariables false
set_option maxRecDepth 20000
namespace Go.Proofs.YtofndjhpbonpbaaGreatDoor
open Go Go.TL Go.Proofs.Tryz
theorem rC {p0:Al} {p1:(List A6)} {r:Int} (hm:iJ p0 p1=some r):RetN TP 26 [p0.enc,.sl 2 (p1.map A6.enc)] (.int .i64 r):=by
 refine .unit (aK (bA Q) func26 Q ntmps26 Q Q (λwX gX=>?_)) Q;unfold iJ at hm;refine WN [0,1] Q Q (aO 1 Q (bQ 0 Q Q Q (aF 6 Q (SX Q Q (aN TK Q Q Q) (aL 3 Q (bJ hm Q (λh1 hm=>?_) (λh1 hm=>?_)))))))
 ·exact aM 6 Q (aR hm Q)
 refine bM 2 Q (bE hm (λ_=>[]) (λ_=>[]) [] [1,2] Q (λz2 hm hz2=>?_) (λj hm=>?_))
 ·refine bO 5 Q (aW hm (λi4=>([(5,.d (.int .i64 i4))])) (λi4=>[]) [5] [1,2] [0] Q k0 Q Q Q Q Q (λi4 z5 hm hz5=>WN [1,2,5] Q Q (aO 4 Q (SX Q Q (aN TK Q Q Q) (aL 3 Q (bJ hm Q (λh6 hm=>?_) (λh6 hm=>?_)))))))
  ·refine bM 4 Q (aS hm (λx7=>([(38,.d (.bool (x7)))])) (λx7=>[]) [38] [1,2,5] Q (λz8 hm=>?_) (λx7 hm=>?_))
   ·refine aO 3 Q (VE hm λe9 he9 hm=>SX Q Q (bD TK Q Q Q Q he9) (aF 2 Q (SX Q Q (aN TK Q Q Q) (aF 1 Q (SB TK Q (λq10 hq10=>?_))))));cases q10
    ·replace hm:=JF hq10 hm;exact aF 2 Q (VE hm λe11 he11 hm=>SX Q Q (bD TK Q Q Q Q he11) (aF 2 Q (SX Q Q (aN TK Q Q Q) (aD 3 Q (aU [0] hm Q Q)))))
    replace hm:=JT hq10 hm;exact aD 9 Q (aU [0] hm Q Q)
   refine WN [1,2,5,38] Q Q (bF hm Q (λh12 hm=>?_) (λh12 hm=>?_))
   ·refine aM 7 Q (IE hm λv13 hm hz=>?_);rw [hz5 _ hz] at hm;refine WR (bC 1 Q (IE hm λv14 hm hz=>?_));rw [hz2 _ hz] at hm;exact WR (aR hm Q)
   exact aQ 5 Q (GE hm λg15 hm=>SX Q Q (bL Q Q Q Q g15) (aD 2 Q (aY [0] hm Q Q)))
  refine aM 2 Q (IE hm λv16 hm hz=>?_);rw [hz5 _ hz] at hm;exact WX (bC 1 Q (aY [0] hm Q Q))
 refine WN [1,2] Q Q (bE hm (λ_=>[]) (λ_=>[]) [] [1,2] Q (λz17 hm hz17=>?_) (λj hm=>?_))
 ·refine bO 5 Q (aW hm (λi19=>([(6,.d (.int .i64 i19))])) (λi19=>[]) [6] [1,2] [0] Q k0 Q Q Q Q Q (λi19 z20 hm hz20=>WN [1,2,6] Q Q (aO 4 Q (SX Q Q (aN TK Q Q Q) (aL 3 Q (bJ hm Q (λh21 hm=>?_) (λh21 hm=>?_)))))))
  ·refine bM 4 Q (bI follows ?_);iterate 3 (refine DA [0] TK Q ?_)
   refine VE hm λe22 he22 hm=>DX [0] Q Q (bD TK Q Q Q Q he22) (DA [0] TK Q (dQ [0] hm (qGT ·) Q Q Q Q λr23 hm=>DA [0] TK Q ?_));refine DT ?_ (by kernel_rfl);refine aL 2 Q (bF hm Q (λh24 hm=>?_) (λh24 hm=>?_))
   ·refine aM 7 Q (IE hm λv25 hm hz=>?_);rw [hz20 _ hz] at hm;refine WR (bC 1 Q (IE hm λv26 hm hz=>?_));rw [hz17 _ hz] at hm;exact WR (aR hm Q)
   exact aQ 5 Q (GE hm λg27 hm=>SX Q Q (bL Q Q Q Q g27) (aD 2 Q (aY [0] hm Q Q)))
  refine aM 2 Q (IE hm λv28 hm hz=>?_);rw [hz20 _ hz] at hm;exact WX (bC 1 Q (aY [0] hm Q Q))
 refine WN [1,2] Q Q (bE hm (λ_=>[]) (λ_=>[]) [] [1,2] Q (λz29 hm hz29=>?_) (λj hm=>?_))
 ·refine bO 5 Q (aW hm (λi31=>([(7,.d (.int .i64 i31))])) (λi31=>[]) [7] [1,2] [0] Q k0 Q Q Q Q Q (λi31 z32 hm hz32=>WN [1,2,7] Q Q (aO 4 Q (SX Q Q (aN TK Q Q Q) (aL 3 Q (bJ hm Q (λh33 hm=>?_) (λh33 hm=>?_)))))))
  ·refine bM 4 Q (bI follows ?_);iterate 4 (refine DA [0] TK Q ?_)
   refine VE hm λe34 he34 hm=>DX [0] Q Q (bD TK Q Q Q Q he34) ?_;iterate 2 (refine DA [0] TK Q ?_)
   refine dQ [0] hm (qJT ·) Q Q Q Q λr35 hm=>?_;iterate 2 (refine DA [0] TK Q ?_)
   refine DT ?_ (by kernel_rfl);refine aL 2 Q (eC hm Q (λh36 hm=>?_) (λh36 hm=>?_))
   ·refine bM 4 Q (WN [4] Q Q (aM 3 Q (IE hm λv37 hm hz=>?_)));rw [hz32 _ hz] at hm;refine WR (bC 1 Q (IE hm λv38 hm hz=>?_));rw [hz29 _ hz] at hm;exact WR (aR hm Q)
   exact aQ 5 Q (GE hm λg39 hm=>SX Q Q (bL Q Q Q Q g39) (aD 2 Q (aY [0] hm Q Q)))
  refine aM 2 Q (IE hm λv40 hm hz=>?_);rw [hz32 _ hz] at hm;exact WX (bC 1 Q (aY [0] hm Q Q))
 refine WN [1,2] Q Q (bE hm (λ_=>[]) (λ_=>[]) [] [1] Q (λz41 hm hz41=>?_) (λj hm=>?_))
 ·refine bO 5 Q (aW hm (λi43=>([(8,.d (.int .i64 i43))])) (λi43=>[]) [8] [1,2] [0] Q k0 Q Q Q Q Q (λi43 z44 hm hz44=>WN [1,2,8] Q Q (aO 4 Q (SX Q Q (aN TK Q Q Q) (aL 3 Q (bJ hm Q (λh45 hm=>?_) (λh45 hm=>?_)))))))
  ·refine bM 2 Q (bE hm (λ_=>[]) (λ_=>[]) [] [1,2,8] Q (λz46 hm hz46=>?_) (λj hm=>?_))
   ·refine aO 4 Q (VE hm λe47 he47 hm=>SX Q Q (bD TK Q Q Q Q he47) (aL 10 Q (aW hm (λk49=>([(10,.d (.int .i64 k49))])) (λk49=>[]) [10] [1,2,8,9] [0] Q k0 Q Q Q Q Q (λk49 z50 hm hz50=>WN [1,2,8,9,10] Q Q (aO 4 Q (SX Q Q (aN TK Q Q Q) (aL 3 Q (bJ hm Q (λh51 hm=>?_) (λh51 hm=>?_)))))))))
    ·refine bM 4 Q (bI follows ?_);iterate 4 (refine DA [0] TK Q ?_)
     refine GE hm λg52 hm=>DX [0] Q Q (bL Q Q Q Q g52) (VE hm λe53 he53 hm=>DX [0] Q Q (bD TK Q Q Q Q he53) ?_);iterate 2 (refine DA [0] TK Q ?_)
     refine VE hm λe54 he54 hm=>DX [0] Q Q (bD TK Q Q Q Q he54) ?_;iterate 5 (refine DA [0] TK Q ?_)
     refine VE hm λe55 he55 hm=>DX [0] Q Q (bD TK Q Q Q Q he55) ?_;iterate 2 (refine DA [0] TK Q ?_)
     refine VE hm λe56 he56 hm=>DX [0] Q Q (bD TK Q Q Q Q he56) (DA [0] TK Q (dQ [0] hm (qCD ·) Q Q Q Q λr57 hm=>DA [0] TK Q ?_));refine DT ?_ (by kernel_rfl);refine aL 2 Q (WN [1,2,8,9,10,105] Q Q (bF hm Q (λh58 hm=>?_) (λh58 hm=>?_)))
     ·refine aM 7 Q (IE hm λv59 hm hz=>?_);rw [hz50 _ hz] at hm;refine WR (bC 2 Q (IE hm λv60 hm hz=>?_));rw [hz46 _ hz] at hm;refine WR (IE hm λv61 hm hz=>?_);rw [hz44 _ hz] at hm;refine WR (bC 1 Q (IE hm λv62 hm hz=>?_));rw [hz41 _ hz] at hm;exact WR (aR hm Q)
     exact aQ 5 Q (GE hm λg63 hm=>SX Q Q (bL Q Q Q Q g63) (aD 2 Q (aY [0] hm Q Q)))
    refine aM 2 Q (IE hm λv64 hm hz=>?_);rw [hz50 _ hz] at hm;exact WX (bC 2 Q (aY [0] hm Q Q))
   exact WN [1,2,8] Q Q (aQ 2 Q (GE hm λg65 hm=>SX Q Q (bL Q Q Q Q g65) (aD 2 Q (aY [0] hm Q Q))))
  refine aM 2 Q (IE hm λv66 hm hz=>?_);rw [hz44 _ hz] at hm;exact WX (bC 1 Q (aY [0] hm Q Q))
 refine WN [1] Q Q (bE hm (λ_=>[]) (λ_=>[]) [] [] Q (λz67 hm hz67=>?_) (λj hm=>?_))
 ·refine bO 5 Q (aW hm (λi69=>([(11,.d (.int .i64 i69))])) (λi69=>[]) [11] [1] [0] Q k0 Q Q Q Q Q (λi69 z70 hm hz70=>WN [1,11] Q Q (aO 4 Q (SX Q Q (aN TK Q Q Q) (aL 3 Q (bJ hm Q (λh71 hm=>?_) (λh71 hm=>?_)))))))
  ·refine bM 2 Q (bE hm (λ_=>[]) (λ_=>[]) [] [1,11] Q (λz72 hm hz72=>?_) (λj hm=>?_))
   ·refine aO 4 Q (VE hm λe73 he73 hm=>SX Q Q (bD TK Q Q Q Q he73) (aL 10 Q (aW hm (λk75=>([(13,.d (.int .i64 k75))])) (λk75=>[]) [13] [1,11,12] [0] Q k0 Q Q Q Q Q (λk75 z76 hm hz76=>WN [1,11,12,13] Q Q (aO 4 Q (SX Q Q (aN TK Q Q Q) (aL 3 Q (bJ hm Q (λh77 hm=>?_) (λh77 hm=>?_)))))))))
    ·refine bM 4 Q (bI follows ?_);iterate 2 (refine DA [0] TK Q ?_)
     refine VE hm λe78 he78 hm=>DX [0] Q Q (bD TK Q Q Q Q he78) ?_;iterate 4 (refine DA [0] TK Q ?_)
     refine GE hm λg79 hm=>DX [0] Q Q (bL Q Q Q Q g79) (VE hm λe80 he80 hm=>DX [0] Q Q (bD TK Q Q Q Q he80) ?_);iterate 3 (refine DA [0] TK Q ?_)
     refine DT ?_ (by kernel_rfl);refine aL 2 Q (WN [1,11,12,13,134] Q Q (bJ hm Q (λh81 hm=>?_) (λh81 hm=>?_)))
     ·refine aM 7 Q (IE hm λv82 hm hz=>?_);rw [hz76 _ hz] at hm;refine WR (bC 2 Q (IE hm λv83 hm hz=>?_));rw [hz72 _ hz] at hm;refine WR (IE hm λv84 hm hz=>?_);rw [hz70 _ hz] at hm;refine WR (bC 1 Q (IE hm λv85 hm hz=>?_));rw [hz67 _ hz] at hm;exact WR (aR hm Q)
     exact aQ 5 Q (GE hm λg86 hm=>SX Q Q (bL Q Q Q Q g86) (aD 2 Q (aY [0] hm Q Q)))
    refine aM 2 Q (IE hm λv87 hm hz=>?_);rw [hz76 _ hz] at hm;exact WX (bC 2 Q (aY [0] hm Q Q))
   exact WN [1,11] Q Q (aQ 2 Q (GE hm λg88 hm=>SX Q Q (bL Q Q Q Q g88) (aD 2 Q (aY [0] hm Q Q))))
  refine aM 2 Q (IE hm λv89 hm hz=>?_);rw [hz70 _ hz] at hm;exact WX (bC 1 Q (aY [0] hm Q Q))
 exact WN [] Q Q (aM 5 Q (aR hm Q))
theorem qGU {p0:(List A6)} {p1:(List (List Int))} {r:Bool} (hm:mS p0 p1=some r):RetN TP 125 [.sl 2 (p0.map A6.enc),.sl 1 (p1.map (λ(l:List Int)=>D.sl 1 (l.map (D.int .i64))))] (.bool (r)):=by
 refine .unit (aK (bA Q) func125 Q ntmps125 Q Q (λwX gX=>?_)) Q;unfold mS at hm;refine WN [0,1] Q Q (aO 7 Q (SX Q Q (aN TK Q Q Q) (aF 1 Q (SX Q Q (aN TK Q Q Q) (aL 3 Q (eC hm Q (λh1 hm=>?_) (λh1 hm=>?_)))))))
 ·exact aM 6 Q (aR hm Q)
 refine bM 2 Q (bE hm (λ_=>[]) (λ_=>[]) [] [] Q (λz2 hm hz2=>?_) (λj hm=>?_))
 ·refine bO 5 Q (aW hm (λi4=>([(5,.d (.int .i64 i4))])) (λi4=>[]) [5] [0,1] [] Q k0 Q Q Q Q Q (λi4 z5 hm hz5=>WN [0,1,5] Q Q (aO 4 Q (SX Q Q (aN TK Q Q Q) (aL 3 Q (bJ hm Q (λh6 hm=>?_) (λh6 hm=>?_)))))))
  ·refine bM 4 Q (bI follows ?_);iterate 2 (refine DA [] TK Q ?_)
   refine VE hm λe7 he7 hm=>DX [] Q Q (bD TK Q Q Q Q he7) ?_;iterate 2 (refine DA [] TK Q ?_)
   refine DX [] Q Q (aN TK Q Q Q) ?_;iterate 2 (refine DA [] TK Q ?_)
   refine VE hm λe8 he8 hm=>DX [] Q Q (bD TK Q Q Q Q he8) (DA [] TK Q (DX [] Q Q (aN TK Q Q Q) (DA [] TK Q ?_)));refine DT ?_ (by kernel_rfl);refine aL 2 Q (WN [0,1,5,28] Q Q (eC hm Q (λh9 hm=>?_) (λh9 hm=>?_)))
   ·refine aM 7 Q (IE hm λv10 hm hz=>?_);rw [hz5 _ hz] at hm;refine WR (bC 1 Q (IE hm λv11 hm hz=>?_));rw [hz2 _ hz] at hm;exact WR (aR hm Q)
   exact aQ 5 Q (GE hm λg12 hm=>SX Q Q (bL Q Q Q Q g12) (aD 2 Q (aY [] hm Q Q)))
  refine aM 2 Q (IE hm λv13 hm hz=>?_);rw [hz5 _ hz] at hm;exact WX (bC 1 Q (aY [] hm Q Q))
 exact WN [] Q Q (aM 5 Q (aR hm Q))
theorem qGV {p0:(List A6)} {p1:(List (List Int))} {r0:Int} {r1:Int} (hm:kJ p0 p1=some (r0,r1)):Ret TP 64 [] (λ_=>false) ([.sl 2 (p0.map A6.enc),.sl 1 (p1.map (λ(l:List Int)=>D.sl 1 (l.map (D.int .i64))))].map .d) (.tup ([.int .i64 r0,.int .i64 r1].map .d)) []:=by
 refine dP (bA Q) func64 Q ntmps64 Q Q (λwX gX=>?_);unfold kJ at hm;refine WN [0,1] Q Q (aO 9 Q (c_N hm (qGU ·) Q Q Q Q λr1 hm=>aL 3 Q (bF hm Q (λh2 hm=>?_) (λh2 hm=>?_))))
 ·refine aM 7 Q ?_;obtain⟨rfl,rfl⟩:=Prod.mk.inj (Option.some.inj hm);exact EndsT.two Q (.d _) (.refl _) (.d _) (.refl _)
 refine bM 10 Q (bE hm (λ(sum3,early4)=>([(6,.d (.int .i64 sum3)),(7,.d (.bool (early4)))])) (λ(sum3,early4)=>[]) [6,7] [] Q (λz5 hm hz5=>?_) (λj hm=>?_))
 ·refine bO 5 Q (aW hm (λ(sum9,early10,i11)=>([(6,.d (.int .i64 sum9)),(7,.d (.bool (early10))),(8,.d (.int .i64 i11))])) (λ(sum9,early10,i11)=>[]) [6,7,8] [0,1] [] Q k0 Q Q Q Q Q (λs z12 hm hz12=>?_));obtain⟨sum9,early10,i11⟩:=s;refine WN [0,1,6,7,8] Q Q (aO 4 Q (SX Q Q (aN TK Q Q Q) (aL 3 Q (bJ hm Q (λh13 hm=>?_) (λh13 hm=>?_)))))
  ·refine bM 2 Q (bE hm (λ(sum14,early15)=>([(6,.d (.int .i64 sum14)),(7,.d (.bool (early15)))])) (λ(sum14,early15)=>[]) [6,7] [0,1,8] Q (λz16 hm hz16=>?_) (λj hm=>?_))
   ·refine bO 6 Q (aW hm (λ(sum20,early21,k22)=>([(6,.d (.int .i64 sum20)),(7,.d (.bool (early21))),(9,.d (.int .i64 k22))])) (λ(sum20,early21,k22)=>[]) [6,7,9] [0,1,8] [] Q k0 Q Q Q Q Q (λs z23 hm hz23=>?_));obtain⟨sum20,early21,k22⟩:=s;refine WN [0,1,6,7,8,9] Q Q (aO 5 Q (VE hm λe24 he24 hm=>SX Q Q (bD TK Q Q Q Q he24) (aF 2 Q (SX Q Q (aN TK Q Q Q) (aL 3 Q (bJ hm Q (λh25 hm=>?_) (λh25 hm=>?_)))))))
    ·refine aQ 7 Q (VE hm λe26 he26 hm=>SX Q Q (bD TK Q Q Q Q he26) (aF 3 Q (VE hm λe27 he27 hm=>SX Q Q (bD TK Q Q Q Q he27) (aF 1 Q (cH 0 Q Q qST Q (aL 3 Q (WN [0,1,6,7,8,9,10] Q Q (aQ 3 Q (VE hm λe28 he28 hm=>SX Q Q (bD TK Q Q Q Q he28) (aF 2 Q ?_))))))))));refine VE hm λe29 he29 hm=>SX Q Q (bD TK Q Q Q Q he29) (aL 5 Q ?_);refine cF [(72,.d (.bool (((decide (e29 < (0:Int)))||((decide ((2147483648:Int) < e29))||((decide (e27.due < (0:Int)))||((decide ((1073741824:Int) < e27.due))||((decide (e27.weight < (0:Int)))||(decide ((100:Int) < e27.weight))))))))))] [72] [0,1,6,7,8,9,10,11] Q ?_ ?_
     ·refine aO 3 Q (SB TK Q (λq30 hq30=>?_));cases q30
      ·refine aF 3 Q (SB TK Q (λq31 hq31=>?_));cases q31
       ·refine aF 4 Q (SB TK Q (λq32 hq32=>?_));cases q32
        ·refine aF 4 Q (SB TK Q (λq33 hq33=>?_));cases q33
         ·refine aF 4 Q (SB TK Q (λq34 hq34=>?_));cases q34
          ·refine aD 5 Q ?_;exact⟨[0],Q,k0,aV (aG (aI (by first|(simp [hq30,hq31,hq32,hq33,hq34];done)|(simp only [hq30,hq31,hq32,hq33,hq34];simp))) Q) Q⟩
          refine aD 5 Q ?_;exact⟨[0],Q,k0,aV (aG (aI (by first|(simp [hq30,hq31,hq32,hq33,hq34];done)|(simp only [hq30,hq31,hq32,hq33,hq34];simp))) Q) Q⟩
         refine aD 10 Q ?_;exact⟨[0],Q,k0,aV (aG (aI (by first|(simp [hq30,hq31,hq32,hq33];done)|(simp only [hq30,hq31,hq32,hq33];simp))) Q) Q⟩
        refine aD 15 Q ?_;exact⟨[0],Q,k0,aV (aG (aI (by first|(simp [hq30,hq31,hq32];done)|(simp only [hq30,hq31,hq32];simp))) Q) Q⟩
       refine aD 20 Q ?_;exact⟨[0],Q,k0,aV (aG (aI (by first|(simp [hq30,hq31];done)|(simp only [hq30,hq31];simp))) Q) Q⟩
      refine aD 24 Q ?_;exact⟨[0],Q,k0,aV (aG (aI (by first|(simp [hq30];done)|(simp only [hq30];simp))) Q) Q⟩
     refine WN [0,1,6,7,8,9,10,11,72] Q Q (bF hm Q (λh35 hm=>?_) (λh35 hm=>?_))
     ·refine aM 9 Q (IE hm λv36 hm hz=>?_);rw [hz23 _ hz] at hm;refine WR (bC 2 Q (IE hm λv37 hm hz=>?_));rw [hz16 _ hz] at hm;refine WR (IE hm λv38 hm hz=>?_);rw [hz12 _ hz] at hm;refine WR (bC 1 Q (IE hm λv39 hm hz=>?_));rw [hz5 _ hz] at hm;refine WR ?_;obtain⟨rfl,rfl⟩:=Prod.mk.inj (Option.some.inj hm);exact EndsT.two Q (.d _) (.refl _) (.d _) (.refl _)
     refine bM 2 Q ?_;refine cF [(7,.d (.bool ((early21||(decide (e29 < e27.due))))))] [7] [0,1,6,8,9,10,11] Q ?_ ?_
     ·refine aO 2 Q (SB TK Q (λq40 hq40=>?_));cases q40
      ·refine aD 7 Q ?_;exact⟨[0],Q,k0,aV (aG (aI (by first|(simp [hq40];done)|(simp only [hq40];simp))) Q) Q⟩
      refine aD 7 Q ?_;exact⟨[0],Q,k0,aV (aG (aI (by first|(simp [hq40];done)|(simp only [hq40];simp))) Q) Q⟩
     exact WN [0,1,6,7,8,9,10,11] Q Q (aQ 7 Q (GE hm λg41 hm=>SX Q Q (bL Q Q Q Q g41) (GE hm λg42 hm=>SX Q Q (bL Q Q Q Q g42) (GE hm λg43 hm=>SX Q Q (bL Q Q Q Q g43) (aF 6 Q (GE hm λg44 hm=>SX Q Q (bL Q Q Q Q g44) (aD 2 Q (aY [] hm Q Q))))))))
    refine aM 2 Q (IE hm λv45 hm hz=>?_);rw [hz23 _ hz] at hm;exact WX (bC 2 Q (aY [] hm Q Q))
   obtain⟨sum14,early15⟩:=j;exact WN [0,1,6,7,8] Q Q (aQ 2 Q (GE hm λg46 hm=>SX Q Q (bL Q Q Q Q g46) (aD 2 Q (aY [] hm Q Q))))
  refine aM 2 Q (IE hm λv47 hm hz=>?_);rw [hz12 _ hz] at hm;exact WX (bC 1 Q (aY [] hm Q Q))
 obtain⟨sum3,early4⟩:=j;refine WN [6,7] Q Q (bM 5 Q (bF hm Q (λh48 hm=>?_) (λh48 hm=>?_)))
 ·refine aM 7 Q ?_;obtain⟨rfl,rfl⟩:=Prod.mk.inj (Option.some.inj hm);exact EndsT.two Q (.d _) (.refl _) (.d _) (.refl _)
 refine aM 9 Q ?_;obtain⟨rfl,rfl⟩:=Prod.mk.inj (Option.some.inj hm);exact EndsT.two Q (.d _) (.refl _) (.d _) (.refl _)
theorem qGW {p0:(List A6)} {p1:(List (List Int))} {r0:Int} {r1:Int} (hm:kJ p0 p1=some (r0,r1)):RetT TP 64 [.sl 2 (p0.map A6.enc),.sl 1 (p1.map (λ(l:List Int)=>D.sl 1 (l.map (D.int .i64))))] [.int .i64 r0,.int .i64 r1]:=.of (mv:=λ_=>false) (qGV hm)
theorem qCC {p0:An} {r:Bool} (hm:jL p0=some r):RetN TP 27 [p0.enc] (.bool (r)):=by
 refine .unit (aK (bA Q) func27 Q ntmps27 Q Q (λwX gX=>?_)) Q;unfold jL at hm;refine WN [0] Q Q (aO 1 Q (bQ 0 Q Q Q (aF 9 Q (BE hm λr1 hr1 hm=>?_))));obtain⟨r2,r3⟩:=r1;refine SX Q Q (cU Q Q Q (qGW hr1)) (aL 7 Q (bE hm (λ_=>[]) (λ_=>[]) [] [1,4] Q (λz4 hm hz4=>?_) (λj hm=>?_)))
 ·refine bO 5 Q (aW hm (λi6=>([(5,.d (.int .i64 i6))])) (λi6=>[]) [5] [1,4] [0] Q k0 Q Q Q Q Q (λi6 z7 hm hz7=>WN [1,4,5] Q Q (aO 5 Q (SX Q Q (aN TK Q Q Q) (aL 3 Q (bJ hm Q (λh8 hm=>?_) (λh8 hm=>?_)))))))
  ·refine bM 4 Q (aS hm (λx9=>([(35,.d (.bool (x9)))])) (λx9=>[]) [35] [1,4,5] Q (λz10 hm=>?_) (λx9 hm=>?_))
   ·refine aO 4 Q (VE hm λe11 he11 hm=>SX Q Q (bD TK Q Q Q Q he11) (aF 2 Q (SB TK Q (λq12 hq12=>?_))));cases q12
    ·replace hm:=JF hq12 hm;exact aF 3 Q (VE hm λe13 he13 hm=>SX Q Q (bD TK Q Q Q Q he13) (aD 4 Q (aU [0] hm Q Q)))
    replace hm:=JT hq12 hm;exact aD 8 Q (aU [0] hm Q Q)
   refine WN [1,4,5,35] Q Q (bF hm Q (λh14 hm=>?_) (λh14 hm=>?_))
   ·refine aM 7 Q (IE hm λv15 hm hz=>?_);rw [hz7 _ hz] at hm;refine WR (bC 1 Q (IE hm λv16 hm hz=>?_));rw [hz4 _ hz] at hm;exact WR (aR hm Q)
   exact aQ 5 Q (GE hm λg17 hm=>SX Q Q (bL Q Q Q Q g17) (aD 2 Q (aY [0] hm Q Q)))
  refine aM 2 Q (IE hm λv18 hm hz=>?_);rw [hz7 _ hz] at hm;exact WX (bC 1 Q (aY [0] hm Q Q))
 refine WN [1,4] Q Q (cF [(2,.d (.bool (((decide (r3=(0:Int)))&&((decide ((p0.progress.length:Int)=(p0.trips.length:Int)))&&((decide ((0:Int)<=p0.now))&&(decide (p0.now<=(1073741824:Int)))))))))] [2] [] Q ?_ ?_)
 ·refine aO 3 Q (SB TK Q (λq19 hq19=>?_));cases q19
  ·refine aD 20 Q ?_;exact⟨[0],Q,k0,aV (aG (aI (by first|(simp [hq19];done)|(simp only [hq19];simp))) Q) Q⟩
  refine aF 2 Q (SX Q Q (aN TK Q Q Q) (aF 2 Q (SX Q Q (aN TK Q Q Q) (aF 2 Q (SB TK Q (λq20 hq20=>?_))))));cases q20
  ·refine aD 11 Q ?_;exact⟨[0],Q,k0,aV (aG (aI (by first|(simp [hq19,hq20];done)|(simp only [hq19,hq20];simp))) Q) Q⟩
  refine aF 4 Q (SB TK Q (λq21 hq21=>?_));cases q21
  ·refine aD 6 Q ?_;exact⟨[0],Q,k0,aV (aG (aI (by first|(simp [hq19,hq20,hq21];done)|(simp only [hq19,hq20,hq21];simp))) Q) Q⟩
  refine aD 6 Q ?_;exact⟨[0],Q,k0,aV (aG (aI (by first|(simp [hq19,hq20,hq21];done)|(simp only [hq19,hq20,hq21];simp))) Q) Q⟩
 exact WN [2] Q Q (aM 1 Q (aR hm Q))
theorem qGR {p0:An} {r:Int} (hm:mQ p0=some r):RetN TP 7 [p0.enc] (.int .i64 r):=by
 refine .unit (aK (bA Q) func7 Q ntmps7 Q Q (λwX gX=>?_)) Q;unfold mQ at hm;refine WN [0] Q Q (aO 1 Q (bQ 0 Q Q Q (aF 7 Q (c_N hm (rJ ·) Q Q Q Q λr1 hm=>aL 8 Q (eC hm Q (λh2 hm=>?_) (λh2 hm=>?_))))))
 ·exact aM 7 Q (aR hm Q)
 refine aQ 5 Q (BE hm λr3 hr3 hm=>?_);obtain⟨r4,r5⟩:=r3;refine SX Q Q (cU Q Q Q (wQ hr3)) (aF 3 Q (cH 1 Q Q zV Q (cR 1 [some 14,some 1,some 1,none,none] Q Q (aL 5 Q (aS hm (λx6=>([(27,.d (.bool (x6)))])) (λx6=>[]) [27] [1] Q (λz7 hm=>?_) (λx6 hm=>?_))))))
 ·refine aO 3 Q (SB TK Q (λq8 hq8=>?_));cases q8
  ·replace hm:=eN hq8 hm;exact aF 3 Q (c_N hm (qJV ·) Q Q Q Q λr9 hm=>aD 3 Q (aU [0,1] hm Q Q))
  replace hm:=eM hq8 hm;exact aD 7 Q (aU [0,1] hm Q Q)
 refine WN [1,27] Q Q (bF hm Q (λh10 hm=>?_) (λh10 hm=>?_))
 ·exact aM 6 Q (aR hm Q)
 refine bM 3 Q (aS hm (λx11=>([(38,.d (.bool (x11)))])) (λx11=>[]) [38] [1] Q (λz12 hm=>?_) (λx11 hm=>?_))
 ·refine aO 5 Q (c_N hm (qHD ·) Q Q Q Q λr13 hm=>aF 1 Q (SB TK Q (λq14 hq14=>?_)));cases q14
  ·replace hm:=JB hq14 hm;exact aF 1 Q (c_N hm (qAE ·) Q Q Q Q λr15 hm=>aD 3 Q (aU [0,1] hm Q Q))
  replace hm:=JA hq14 hm;exact aD 5 Q (aU [0,1] hm Q Q)
 refine WN [1,38] Q Q (bF hm Q (λh16 hm=>?_) (λh16 hm=>?_))
 ·exact aM 6 Q (aR hm Q)
 refine bM 3 Q (aS hm (λx17=>([(46,.d (.bool (x17)))])) (λx17=>[]) [46] [1] Q (λz18 hm=>?_) (λx17 hm=>?_))
 ·refine aO 2 Q (c_N hm (qGQ ·) Q Q Q Q λr19 hm=>aF 1 Q (SB TK Q (λq20 hq20=>?_)));cases q20
  ·replace hm:=JB hq20 hm;exact aF 1 Q (c_N hm (qDQ ·) Q Q Q Q λr21 hm=>aD 3 Q (aU [0,1] hm Q Q))
  replace hm:=JA hq20 hm;exact aD 5 Q (aU [0,1] hm Q Q)
 refine WN [1,46] Q Q (bF hm Q (λh22 hm=>?_) (λh22 hm=>?_))
 ·exact aM 6 Q (aR hm Q)
 refine aQ 8 Q (c_N hm (rC ·) Q Q Q Q λr23 hm=>aL 8 Q (eC hm Q (λh24 hm=>?_) (λh24 hm=>?_)))
 ·exact aM 7 Q (aR hm Q)
 refine aQ 5 Q (c_N hm (qCC ·) Q Q Q Q λr25 hm=>aL 3 Q (bF hm Q (λh26 hm=>?_) (λh26 hm=>?_)))
 ·exact aM 6 Q (aR hm Q)
 exact aM 7 Q (aR hm Q)
theorem qHU  {r0:Bd} {r1:Be} (hm:uS=some (r0,r1)):RetT TP 28 [] [r0.enc,r1.enc]:=by
 refine .of (mv:=λ_=>false) (dP (bA Q) func28 Q ntmps28 Q Q (λwX gX=>?_));unfold uS at hm;refine WN [] Q Q (aO 1 Q (cH 0 Q Q xD Q (cH 1 Q Q zU Q (cR 1 [some 3,none,none] Q Q (aF 3 Q (SX Q Q (bV Q plc64 xD Q Q Q Q) (SX Q Q (bV Q qRG fF Q Q Q Q) (SX Q Q (cI [.tmp 3] TK Q Q fF Q Q Q Q Q) (SX Q Q (bV Q zEQ zU Q Q Q Q) (aD 5 Q ?_))))))))));obtain⟨rfl,rfl⟩:=Prod.mk.inj (Option.some.inj hm);exact⟨_,.mk _ (.cons (.agg (TK.lay Q) Q Q Q Q) (.cons (.agg (TK.lay Q) Q Q Q Q) .nil)) Q,(.cons (.d _) (.refl _) (.cons (.d _) (.refl _) .nil))⟩
theorem yS  {r:Ag} (hm:tI=some r):RetD TP 30 [] (r.enc):=by
 refine .of (mv:=λ_=>false) (aK (bA Q) func30 Q ntmps30 Q Q (λwX gX=>?_));unfold tI at hm;refine WN [] Q Q (aO 1 Q (cH 0 Q Q qQJ Q (fJ (f:=Aw.enc) 0 2 1 151 7 Q Q Q (cR 0 [none,some 1,none,some 4,some 4,some 3] Q Q (aF 3 Q (SX Q Q (cI [.const (Value.string ⟨#[97]⟩),.const (Value.string ⟨#[98]⟩),.const (Value.string ⟨#[99]⟩)] TK Q Q wK Q Q Q Q Q) (SX Q Q (bV Q nP cP Q Q Q Q) (SX Q Q (bV Q qRF nT Q Q Q Q) (SX Q Q (bV Q nP cP Q Q Q Q) (SX Q Q (bV Q qRF nT Q Q Q Q) (SX Q Q (cI [.tmp 6,.tmp 8] TK Q Q nT Q Q Q Q Q) (SX Q Q (nC Q plc28 qQJ Q Q Q Q) (cH 2 Q Q qQJ Q ?_)))))))))))));refine fJ (f:=Aw.enc) 2 2 3 151 7 Q Q Q (cR 2 [none,some 1,none,some 4,some 4,some 3] Q Q (aF 1 Q (fJ (f:=Aw.enc) 2 2 4 151 7 Q Q Q (cR 2 [none,none,none,some 4,none,some 3] Q Q (aL 2 Q (WN [0,1] Q Q (aS hm (λb1=>[]) (λb1=>([(2,.box 28 [.d (.str (⟨#[108,105,110,101]⟩:BA)),.d (.sl 1 (([(⟨#[97]⟩:BA),(⟨#[98]⟩:BA),(⟨#[99]⟩:BA)]:List BA).map D.str)),.msl 4 7 0 b1.length,.d (.sl 4 (([]:List Bb).map Bb.enc)),.d (.sl 4 (([(⟨(⟨#[115,49]⟩:BA),(⟨(0:Int),(1:Int)⟩:End),(0:Int)⟩:A0),(⟨(⟨#[115,50]⟩:BA),(⟨(1:Int),(1:Int)⟩:End),(0:Int)⟩:A0)]:List A0).map A0.enc)),.d (.sl 3 (([]:List A4).map A4.enc))]),(4,.flat 151 7 (b1.map Aw.enc))])) [] [0,1] Q (λz2 hm=>?_) (λb1 hm=>?_))))))))
 ·refine aO 3 Q (SX Q Q (aN (f:=D.str) (xs:=([(⟨#[97]⟩:BA),(⟨#[98]⟩:BA),(⟨#[99]⟩:BA)]:List BA)) TK Q Q Q) (aL 4 Q (aW hm (λ(x6,b7)=>([(14,.d (.int .i64 x6))])) (λ(x6,b7)=>([(2,.box 28 [.d (.str (⟨#[108,105,110,101]⟩:BA)),.d (.sl 1 (([(⟨#[97]⟩:BA),(⟨#[98]⟩:BA),(⟨#[99]⟩:BA)]:List BA).map D.str)),.msl 4 7 0 b7.length,.d (.sl 4 (([]:List Bb).map Bb.enc)),.d (.sl 4 (([(⟨(⟨#[115,49]⟩:BA),(⟨(0:Int),(1:Int)⟩:End),(0:Int)⟩:A0),(⟨(⟨#[115,50]⟩:BA),(⟨(1:Int),(1:Int)⟩:End),(0:Int)⟩:A0)]:List A0).map A0.enc)),.d (.sl 3 (([]:List A4).map A4.enc))]),(4,.flat 151 7 (b7.map Aw.enc))])) [14] [0,1,12,13] [0,1,2,3,4] Q k0 Q Q Q Q Q (λs z8 hm hz8=>?_))));obtain⟨x6,b7⟩:=s;refine WN [0,1,12,13,14] Q Q (bO 5 Q (bJ hm Q (λh9 hm=>?_) (λh9 hm=>?_)))
  ·exact aQ 6 Q (VE hm λe10 he10 hm=>SX Q Q (bD (f:=D.str) (xs:=([(⟨#[97]⟩:BA),(⟨#[98]⟩:BA),(⟨#[99]⟩:BA)]:List BA)) TK Q Q Q Q he10) (aF 10 Q (SX Q Q (bV Q plc151 sM Q Q Q Q) (SX Q Q (cI [.tmp 23] TK Q Q sM Q Q Q Q Q) (GE hm λg11 hm=>cK (f:=Aw.enc) ([(⟨e10,(1:Int),(20000:Int),(0:Int),(1000:Int),(0:Int),x6⟩:Aw)]:List Aw) TK Q Q sM Q Q Q Q Q (λh=>absurd h (zQV _)) Q cC g11 Q Q (aL 5 Q (WN [0,1,12,13,14] Q Q (aQ 1 Q (GE hm λg12 hm=>SX Q Q (bL Q Q Q Q g12) (aD 2 Q (aY [0,1,2,3,4] hm Q Q)))))))))))
  refine aM 2 Q (IE hm λv13 hm hz=>?_);rw [hz8 _ hz] at hm;exact WX (bC 1 Q (aU [0,1,2,3,4] hm Q Q))
 refine WN [0,1] Q Q (aQ 1 Q (SX Q Q (bV Q nP cP Q Q Q Q) (SX Q Q (bV Q nP cP Q Q Q Q) (SX Q Q (bV Q qYO xS Q Q Q Q) (SX Q Q (bV Q nP cP Q Q Q Q) (SX Q Q (bV Q nP cP Q Q Q Q) (SX Q Q (bV Q qYO xS Q Q Q Q) (SX Q Q (cI [.tmp 30,.tmp 33] TK Q Q xS Q Q Q Q Q) (aL 4 Q (WN [0,1] Q Q (bM 5 Q (WN [0] Q Q (aM 1 Q ?_)))))))))))));obtain rfl:=OJ hm;exact EndsS.cellR _ TK Q Q Q Q Q (gU (.cons (.d _) Q (.cons (.d _) Q (.cons (bS Q) Q (.cons (.d _) Q (.cons (.d _) Q (.cons (.d _) Q .nil)))))))
theorem qGY {p0:Ag} {p1:Bd} {p2:Be} {r0:A5} {r1:Int} (hm:uF p0 p1 p2=some (r0,r1)):RetT TP 126 [p0.enc,p1.enc,p2.enc] [r0.enc,.int .i64 r1]:=by
 refine .of (mv:=λ_=>false) (dP (bA Q) func126 Q ntmps126 Q Q (λwX gX=>?_));unfold uF at hm;refine WN [0,1,2] Q Q (aO 1 Q (bQ 0 Q Q Q (bQ 1 Q Q Q (bQ 2 Q Q Q (cH 3 Q Q qG Q (fJ (f:=Am.enc) 3 4 4 106 3 Q Q Q (cR 3 [none,none,none,none,none,some 1,some 1,some 1,some 1,none,none,none,none,none] Q Q (aL 3 Q (WN [3,4,5,6] Q Q (bM 1 Q (aS hm (λx1=>([(32,.d (.bool (x1)))])) (λx1=>[]) [32] [3,4,5,6] Q (λz2 hm=>?_) (λx1 hm=>?_))))))))))))
 ·refine aO 2 Q (c_N hm (rJ ·) Q Q Q Q λr3 hm=>aF 1 Q (SB TK Q (λq4 hq4=>?_)));cases q4
  ·replace hm:=eN hq4 hm;refine aF 1 Q (c_N hm (rD ·) Q Q Q Q λr5 hm=>aF 2 Q (SB TK Q (λq6 hq6=>?_)));cases q6
   ·replace hm:=eN hq6 hm;refine aF 2 Q (c_N hm (rH ·) Q Q Q Q λr7 hm=>aF 2 Q (SB TK Q (λq8 hq8=>?_)));cases q8
    ·replace hm:=eN hq8 hm;exact aD 7 Q (aU [0,1,2,3,4] hm Q Q)
    replace hm:=eM hq8 hm;exact aD 7 Q (aU [0,1,2,3,4] hm Q Q)
   replace hm:=eM hq6 hm;exact aD 13 Q (aU [0,1,2,3,4] hm Q Q)
  replace hm:=eM hq4 hm;exact aD 18 Q (aU [0,1,2,3,4] hm Q Q)
 refine WN [3,4,5,6,32] Q Q (bF hm Q (λh9 hm=>?_) (λh9 hm=>?_))
 ·cases hm
 refine aQ 7 Q (SX Q Q (aN TK Q Q Q) (GE hm λg10 hm=>SX Q Q (bL Q Q Q Q g10) (VE hm λe11 he11 hm=>SX Q Q (bD TK Q Q Q Q he11) (aF 1 Q (cH 5 Q Q fF Q (aL 3 Q (WN [3,4,5,6,8] Q Q (aQ 6 Q (SX Q Q (bV Q nP cP Q Q Q Q) (c_N hm (pK ·) Q Q Q Q λr12 hm=>aL 9 Q (bJ hm Q (λh13 hm=>?_) (λh13 hm=>?_))))))))))))
 ·cases hm
 refine aQ 7 Q (VE hm λe14 he14 hm=>SX Q Q (bD TK Q Q Q Q he14) (aL 5 Q (WN [3,4,5,6,9,10] Q Q (cV (bI follows (DA [] TK Q (DA [1] TK Q ?_)))))));iterate 3 (refine DA [] TK Q ?_)
 refine DA [2] TK Q (GE hm λg15 hm=>DX [] Q Q (bL Q Q Q Q g15) (DA [] TK Q (DA [0] TK Q (DA [] TK Q (DA [2] TK Q (dQ [] hm (pI ·) Q Q Q Q λr16 hm=>GE hm λg17 hm=>DX [] Q Q (bL Q Q Q Q g17) (DA [] TK Q (DA [2] TK Q (GE hm λg18 hm=>DX [] Q Q (bL Q Q Q Q g18) ?_)))))))));refine DX [] Q Q (nC Q plc115 qG Q Q Q Q) (oC [6] _ (.mptr 6 0 0 0) Q (eH Q) Q (kR Q Q qG Q Q) ?_);refine DT ?_ (by kernel_rfl);refine aF 1 Q (fJ (f:=Am.enc) 6 4 7 106 3 Q Q Q (cR 6 [none,none,none,none,none,some 1,some 1,some 1,some 1,none,none,none,none,none] Q Q (aL 2 Q (WN [5,6,11] Q Q (aQ 5 Q (GE hm λg19 hm=>cK (f:=Am.enc) p2.steps TK Q Q fF Q Q Q Q Q (λh=>absurd h (zQV _)) Q cC g19 Q Q (aL 4 Q (WN [6,11] Q Q (bM 6 Q (WN [6,7] Q Q (aM 1 Q ?_)))))))))));obtain⟨rfl,rfl⟩:=Prod.mk.inj (Option.some.inj hm);exact⟨_,.mk _ (.cons (.agg (TK.lay Q) Q Q Q Q) (.cons (.tmp 7) .nil)) Q,(.cons (gU (.cons (.d _) Q (.cons (.d _) Q (.cons (.d _) Q (.cons (.d _) Q (.cons (bS Q) Q (.cons (.d _) Q (.cons (.d _) Q (.cons (.d _) Q (.cons (.d _) Q (.cons (.d _) Q (.cons (.d _) Q (.cons (.d _) Q (.cons (.d _) Q (.cons (.d _) Q .nil))))))))))))))) (.refl _) (.cons (.d _) (.refl _) .nil))⟩
theorem qBP {p0:Int} {p1:Int} {r:Ax} (hm:vS p0 p1=some r):RetN TP 127 [.int .i64 p0,.int .i64 p1] (r.enc):=by
 refine .unit (aK (bA Q) func127 Q ntmps127 Q Q (λwX gX=>?_)) Q;unfold vS at hm;refine WN [0,1] Q Q (aO 1 Q (cH 0 Q Q qJB Q (aF 5 Q (SX Q Q (bV Q plc72 qJB Q Q Q Q) (aD 4 Q ?_)))));obtain rfl:=OJ hm;exact EndsS.cellR _ TK Q Q Q Q Q (.d _)
theorem rT {p0:Ag} {p1:Be} {r:(List Int)} (hm:lC p0 p1=some r):RetD TP 43 [p0.enc,p1.enc] (.sl 1 (r.map (D.int .i64))):=by
 refine .of (mv:=λ_=>false) (aK (bA Q) func43 Q ntmps43 Q Q (λwX gX=>?_));unfold lC at hm;refine WN [0,1] Q Q (aO 1 Q (bQ 0 Q Q Q (bQ 1 Q Q Q (aF 4 Q (cS (f:=(D.int .i64)) 2 3 1 Q Q Q (aL 2 Q (aS hm (λb1=>([(5,.msl 2 1 0 b1.length)])) (λb1=>([(2,.flat 3 1 (b1.map (D.int .i64)))])) [5] [] Q (λz2 hm=>?_) (λb1 hm=>?_))))))))
 ·refine bO 5 Q (aW hm (λ(i6,b7)=>([(5,.msl 2 1 0 b7.length),(6,.d (.int .i64 i6))])) (λ(i6,b7)=>([(2,.flat 3 1 (b7.map (D.int .i64)))])) [5,6] [2,3] [0,1,2] Q k0 Q Q Q Q Q (λs z8 hm hz8=>?_));obtain⟨i6,b7⟩:=s;refine WN [2,3,5,6] Q Q (aO 5 Q (SX Q Q (aN TK Q Q Q) (aL 3 Q (bJ hm Q (λh9 hm=>?_) (λh9 hm=>?_)))))
  ·refine bM 4 Q (bI follows ?_);iterate 4 (refine DA [0,1,2] TK Q ?_)
   refine VE hm λe10 he10 hm=>DX [0,1,2] Q Q (bD TK Q Q Q Q he10) ?_;iterate 2 (refine DA [0,1,2] TK Q ?_)
   refine dQ [0,1,2] hm (fM ·) Q Q Q Q λr11 hm=>?_;refine DT ?_ (by kernel_rfl);refine aL 8 Q (bJ hm Q (λh12 hm=>?_) (λh12 hm=>?_))
   ·exact aQ 3 Q (SX Q Q (cI [.tmp 26] TK Q Q dD Q Q Q Q Q) (GE hm λg13 hm=>cK (f:=(D.int .i64)) ([r11]:List Int) TK Q Q dD Q Q Q Q Q (λh=>absurd h (zQV _)) Q cC g13 Q Q (aL 4 Q (WN [2,3,5,6] Q Q (aQ 2 Q (GE hm λg14 hm=>SX Q Q (bL Q Q Q Q g14) (aD 2 Q (aY [0,1,2] hm Q Q))))))))
   exact bM 3 Q (WN [2,3,5,6] Q Q (aQ 2 Q (GE hm λg15 hm=>SX Q Q (bL Q Q Q Q g15) (aD 2 Q (aY [0,1,2] hm Q Q)))))
  refine aM 2 Q (IE hm λv16 hm hz=>?_);rw [hz8 _ hz] at hm;exact WX (bC 1 Q (aU [0,1,2] hm Q Q))
 refine WN [5] Q Q ?_;refine qFL 5 2 [] Q Q Q Q Q (by simp) Q Q ?_;refine aQ 2 Q (c_D hm (yI ·) Q Q Q Q λr17 hm=>aD 4 Q ?_);obtain rfl:=OJ hm;exact EndsS.one _ Q (.d _) (.refl _)
theorem qDW {p0:(List Int)} {p1:(List Int)} {p2:Bool} {r:(List Int)} (hm:tC p0 p1 p2=some r):RetD TP 85 [.sl 1 (p0.map (D.int .i64)),.sl 1 (p1.map (D.int .i64)),.bool (p2)] (.sl 1 (r.map (D.int .i64))):=by
 refine .of (mv:=λ_=>false) (aK (bA Q) func85 Q ntmps85 Q Q (λwX gX=>?_));unfold tC at hm;refine WN [0,1,2] Q Q (bO 8 Q (vI 7 [some 1] Q (aS hm (λout1=>([(7,.d (.sl 1 (out1.map (D.int .i64))))])) (λout1=>[]) [7] [] Q (λz2 hm=>?_) (λout1 hm=>?_))))
 ·refine bO 5 Q (aW hm (λ(out5,i6)=>([(7,.d (.sl 1 (out5.map (D.int .i64)))),(8,.d (.int .i64 i6))])) (λ(out5,i6)=>[]) [7,8] [0,1,2] [] Q k0 Q Q Q Q Q (λs z7 hm hz7=>?_));obtain⟨out5,i6⟩:=s;refine WN [0,1,2,7,8] Q Q (aO 4 Q (SX Q Q (aN TK Q Q Q) (aL 3 Q (bJ hm Q (λh8 hm=>?_) (λh8 hm=>?_)))))
  ·refine aQ 8 Q (VE hm λe9 he9 hm=>SX Q Q (bD TK Q Q Q Q he9) (aF 1 Q (c_N hm (qQ ·) Q Q Q Q λr10 hm=>aL 4 Q (bF hm Q (λh11 hm=>?_) (λh11 hm=>?_)))))
   ·exact aQ 4 Q (VE hm λe12 he12 hm=>SX Q Q (bD TK Q Q Q Q he12) (aF 1 Q (c_D hm (pL ·) Q Q Q Q λr13 hm=>aL 4 Q (WN [0,1,2,7,8] Q Q (aQ 2 Q (GE hm λg14 hm=>SX Q Q (bL Q Q Q Q g14) (aD 2 Q (aY [] hm Q Q))))))))
   exact aQ 5 Q (GE hm λg15 hm=>SX Q Q (bL Q Q Q Q g15) (aD 2 Q (aY [] hm Q Q)))
  refine aM 2 Q (IE hm λv16 hm hz=>?_);rw [hz7 _ hz] at hm;exact WX (bC 1 Q (aU [] hm Q Q))
 refine WN [7] Q Q (aM 6 Q ?_);obtain rfl:=OJ hm;exact EndsS.one _ Q (.d _) (.refl _)
theorem qDX {p0:(List Int)} {p1:(List Int)} {r:(List Int)} (hm:tD p0 p1=some r):RetD TP 42 [.sl 1 (p0.map (D.int .i64)),.sl 1 (p1.map (D.int .i64))] (.sl 1 (r.map (D.int .i64))):=by
 refine .of (mv:=λ_=>false) (aK (bA Q) func42 Q ntmps42 Q Q (λwX gX=>?_));unfold tD at hm;refine WN [0,1] Q Q (aO 7 Q (c_D hm (qDW ·) Q Q Q Q λr1 hm=>aD 4 Q ?_));obtain rfl:=OJ hm;exact EndsS.one _ Q (.d _) (.refl _)
theorem qGX {p0:Ag} {p1:(List Be)} {r:Bool} (hm:uE p0 p1=some r):RetN TP 128 [p0.enc,.sl 3 (p1.map Be.enc)] (.bool (r)):=by
 refine .unit (aK (bA Q) func128 Q ntmps128 Q Q (λwX gX=>?_)) Q;unfold uE at hm;refine WN [0,1] Q Q (aO 1 Q (bQ 0 Q Q Q (aL 3 Q (bE hm (λ_=>[]) (λ_=>[]) [] [] Q (λz1 hm hz1=>?_) (λj hm=>?_)))))
 ·refine bO 5 Q (aW hm (λi3=>([(5,.d (.int .i64 i3))])) (λi3=>[]) [5] [1,2] [0] Q k0 Q Q Q Q Q (λi3 z4 hm hz4=>WN [1,2,5] Q Q (aO 4 Q (SX Q Q (aN TK Q Q Q) (aL 3 Q (bJ hm Q (λh5 hm=>?_) (λh5 hm=>?_)))))))
  ·refine bM 2 Q (bE hm (λ_=>[]) (λ_=>[]) [] [1,2,5] Q (λz6 hm hz6=>?_) (λj hm=>?_))
   ·refine bO 6 Q (aW hm (λk8=>([(6,.d (.int .i64 k8))])) (λk8=>[]) [6] [1,2,5] [0] Q k0 Q Q Q Q Q (λk8 z9 hm hz9=>WN [1,2,5,6] Q Q (bO 7 Q (bJ hm Q (λh10 hm=>?_) (λh10 hm=>?_)))))
    ·refine bM 4 Q (bI follows ?_);iterate 3 (refine DA [0] TK Q ?_)
     refine VE hm λe11 he11 hm=>DX [0] Q Q (bD TK Q Q Q Q he11) (DA [0] TK Q (mD [0] hm (rT ·) Q Q Q Q λr12 hm=>?_));iterate 3 (refine DA [0] TK Q ?_)
     refine VE hm λe13 he13 hm=>DX [0] Q Q (bD TK Q Q Q Q he13) (DA [0] TK Q (mD [0] hm (rT ·) Q Q Q Q λr14 hm=>mD [0] hm (qDX ·) Q Q Q Q λr15 hm=>DX [0] Q Q (aN TK Q Q Q) (DA [0] TK Q ?_)));refine DT ?_ (by kernel_rfl);refine aL 2 Q (WN [1,2,5,6,32] Q Q (bJ hm Q (λh16 hm=>?_) (λh16 hm=>?_)))
     ·cases hm
     exact aQ 5 Q (GE hm λg17 hm=>SX Q Q (bL Q Q Q Q g17) (aD 2 Q (aY [0] hm Q Q)))
    refine aM 2 Q (IE hm λv18 hm hz=>?_);rw [hz9 _ hz] at hm;exact WX (bC 2 Q (aY [0] hm Q Q))
   exact WN [1,2,5] Q Q (aQ 2 Q (GE hm λg19 hm=>SX Q Q (bL Q Q Q Q g19) (aD 2 Q (aY [0] hm Q Q))))
  refine aM 2 Q (IE hm λv20 hm hz=>?_);rw [hz4 _ hz] at hm;exact WX (bC 1 Q (aY [0] hm Q Q))
 exact WN [] Q Q (aM 5 Q (aR hm Q))
theorem qMR {p0:Ag} {p1:(List Bd)} {p2:(List Be)} {r0:Bh} {r1:Int} (hm:qAF p0 p1 p2=some (r0,r1)):RetT TP 65 [p0.enc,.sl 10 (p1.map Bd.enc),.sl 3 (p2.map Be.enc)] [r0.enc,.int .i64 r1]:=by
 refine .of (mv:=λ_=>false) (dP (bA Q) func65 Q ntmps65 Q Q (λwX gX=>?_));unfold qAF at hm;refine WN [0,1,2] Q Q (aO 1 Q (bQ 0 Q Q Q (cH 1 Q Q qQI Q (fJ (f:=A5.enc) 1 0 2 115 14 Q Q Q (fJ (f:=Ax.enc) 1 1 3 72 4 Q Q Q (aL 4 Q ?_))))));refine cF [(27,.d (.bool (((decide ((p1.length:Int) < (1:Int)))||((decide ((6:Int) < (p1.length:Int)))||(!(decide ((p2.length:Int)=(p1.length:Int)))))))))] [27] [1,2,3,6] Q ?_ ?_
 ·refine aO 2 Q (SX Q Q (aN TK Q Q Q) (aF 1 Q (SB TK Q (λq1 hq1=>?_))));cases q1
  ·refine aF 1 Q (SX Q Q (aN TK Q Q Q) (aF 2 Q (SB TK Q (λq2 hq2=>?_))));cases q2
   ·refine aF 1 Q (SX Q Q (aN TK Q Q Q) (aF 1 Q (SX Q Q (aN TK Q Q Q) (aD 3 Q ?_))));exact⟨[0,1,2,3],Q,k0,aV (aG (aI (by first|(simp [hq1,hq2];done)|(simp only [hq1,hq2];simp))) Q) Q⟩
   refine aD 7 Q ?_;exact⟨[0,1,2,3],Q,k0,aV (aG (aI (by first|(simp [hq1,hq2];done)|(simp only [hq1,hq2];simp))) Q) Q⟩
  refine aD 12 Q ?_;exact⟨[0,1,2,3],Q,k0,aV (aG (aI (by first|(simp [hq1];done)|(simp only [hq1];simp))) Q) Q⟩
 refine WN [1,2,3,6,27] Q Q (bF hm Q (λh3 hm=>?_) (λh3 hm=>?_))
 ·cases hm
 refine bM 2 Q (bE hm (λ_=>[]) (λ_=>[]) [] [1,2,3,6] Q (λz4 hm hz4=>?_) (λj hm=>?_))
 ·refine bO 5 Q (aW hm (λi6=>([(8,.d (.int .i64 i6))])) (λi6=>[]) [8] [1,2,3,6] [0,1,2,3] Q k0 Q Q Q Q Q (λi6 z7 hm hz7=>WN [1,2,3,6,8] Q Q (aO 4 Q (SX Q Q (aN TK Q Q Q) (aL 3 Q (bJ hm Q (λh8 hm=>?_) (λh8 hm=>?_)))))))
  ·refine bM 4 Q (bI follows ?_);iterate 2 (refine DA [0,1,2,3] TK Q ?_)
   refine VE hm λe9 he9 hm=>DX [0,1,2,3] Q Q (bD TK Q Q Q Q he9) ?_;iterate 4 (refine DA [0,1,2,3] TK Q ?_)
   refine GE hm λg10 hm=>DX [0,1,2,3] Q Q (bL Q Q Q Q g10) (VE hm λe11 he11 hm=>DX [0,1,2,3] Q Q (bD TK Q Q Q Q he11) ?_);iterate 3 (refine DA [0,1,2,3] TK Q ?_)
   refine DT ?_ (by kernel_rfl);refine aL 2 Q (WN [1,2,3,6,8,46] Q Q (bJ hm Q (λh12 hm=>?_) (λh12 hm=>?_)))
   ·cases hm
   exact aQ 5 Q (GE hm λg13 hm=>SX Q Q (bL Q Q Q Q g13) (aD 2 Q (aY [0,1,2,3] hm Q Q)))
  refine aM 2 Q (IE hm λv14 hm hz=>?_);rw [hz7 _ hz] at hm;exact WX (bC 1 Q (aY [0,1,2,3] hm Q Q))
 refine WN [1,2,3,6] Q Q (aQ 1 Q (cH 4 Q Q qQI Q (fJ (f:=A5.enc) 4 0 5 115 14 Q Q Q (fJ (f:=Ax.enc) 4 1 6 72 4 Q Q Q (aL 2 Q (WN [1,2,3,6,9] Q Q (bE hm (λ(b15,b16)=>[]) (λ(b15,b16)=>([(4,.box 42 [.msl 5 14 0 b15.length,.msl 6 4 0 b16.length]),(5,.flat 115 14 (b15.map A5.enc)),(6,.flat 72 4 (b16.map Ax.enc))])) [] [2,3,6,9] Q (λz17 hm hz17=>?_) (λj hm=>?_))))))))
 ·refine bO 5 Q (aW hm (λ(i22,b23,b24)=>([(10,.d (.int .i64 i22))])) (λ(i22,b23,b24)=>([(4,.box 42 [.msl 5 14 0 b23.length,.msl 6 4 0 b24.length]),(5,.flat 115 14 (b23.map A5.enc)),(6,.flat 72 4 (b24.map Ax.enc))])) [10] [1,2,3,6,9] [0,1,2,3,4,5,6] Q k0 Q Q Q Q Q (λs z25 hm hz25=>?_));obtain⟨i22,b23,b24⟩:=s;refine WN [1,2,3,6,9,10] Q Q (aO 4 Q (SX Q Q (aN TK Q Q Q) (aL 3 Q (bJ hm Q (λh26 hm=>?_) (λh26 hm=>?_)))))
  ·refine bM 4 Q (cV (bI follows (DA [0] TK Q ?_)));iterate 2 (refine DA [] TK Q ?_)
   refine VE hm λe27 he27 hm=>DX [] Q Q (bD TK Q Q Q Q he27) ?_;iterate 3 (refine DA [] TK Q ?_)
   refine VE hm λe28 he28 hm=>DX [] Q Q (bD TK Q Q Q Q he28) (DA [] TK Q (BE hm λr29 hr29 hm=>?_));obtain⟨r30,r31⟩:=r29;refine DX [] Q Q (cU Q Q Q (qGY hr29)) ?_;iterate 3 (refine DA [] TK Q ?_)
   refine oC [7] _ (.mptr 7 0 0 0) Q (eH Q) Q (kR Q Q qG Q Q) (qPC 1000012 [7] [(7,.box 115 [.d (.int .i64 r30.id),.d (.int .i64 r30.origin),.d (.int .i64 r30.endV),.d (.int .i64 r30.atV),.d (.sl 3 (r30.steps.map Am.enc)),.d (.sl 1 (r30.Ab.map (D.int .i64))),.d (.sl 1 (r30.starts.map (D.int .i64))),.d (.sl 1 (r30.ends.map (D.int .i64))),.d (.sl 1 (r30.done.map (D.int .i64))),.d (.int .i64 r30.min),.d (.int .i64 r30.sent),.d (.int .i64 r30.accepted),.d (.int .i64 r30.cut),.d (.int .i64 r30.cutSeq)])] (eH Q) Q (tX TK Q Q Q Q Q Q Q Q Q Q) ?_);refine DT ?_ (by kernel_rfl);refine aL 3 Q (WN [1,2,3,6,9,10,11,12] Q Q (bM 6 Q (eC hm Q (λh32 hm=>?_) (λh32 hm=>?_))))
   ·cases hm
   refine aQ 6 Q (SX Q Q (cI [.tmp 73] TK Q Q qG Q Q Q Q Q) (GE hm λg33 hm=>cK (f:=A5.enc) ([r30]:List A5) TK Q Q qG Q Q Q Q Q (λh=>absurd h (zQV _)) Q cC g33 Q Q (aL 4 Q (WN [1,2,3,6,9,10] Q Q (cV (dV follows (DA [] TK Q (DA [4] TK Q ?_))))))));iterate 2 (refine DA [] TK Q ?_)
   refine VE hm λe34 he34 hm=>DX [] Q Q (bD TK Q Q Q Q he34) ?_;iterate 2 (refine DA [] TK Q ?_)
   refine dQ [] hm (qBP ·) Q Q Q Q λr35 hm=>DX [] Q Q (cI [.tmp 84] TK Q Q qJB Q Q Q Q Q) (GE hm λg36 hm=>oC [6,8] _ (.msl 8 4 0 (b24++([r35]:List Ax)).length) Q (eH Q) Q (sN (f:=Ax.enc) (xs:=b24) ([r35]:List Ax) Q Q Q TK Q qJB Q Q Q Q Q Q cC g36) (DA [] TK Q ?_));refine DT ?_ (by kernel_rfl);exact aL 4 Q (WN [1,2,3,6,9,10] Q Q (aQ 2 Q (GE hm λg37 hm=>SX Q Q (bL Q Q Q Q g37) (aD 2 Q (aY [0,1,2,3,4,5,8] hm Q Q)))))
  refine aM 2 Q (IE hm λv38 hm hz=>?_);rw [hz25 _ hz] at hm;exact WX (bC 1 Q (aY [0,1,2,3,4,5,6] hm Q Q))
 obtain⟨b15,b16⟩:=j;refine WN [2,3,6,9] Q Q (aQ 4 Q (c_N hm (qGX ·) Q Q Q Q λr39 hm=>aL 3 Q (bF hm Q (λh40 hm=>?_) (λh40 hm=>?_))))
 ·cases hm
 refine bM 8 Q (WN [6,7] Q Q (aM 1 Q ?_));obtain⟨rfl,rfl⟩:=Prod.mk.inj (Option.some.inj hm);exact⟨_,.mk _ (.cons (.agg (TK.lay Q) Q Q Q Q) (.cons (.tmp 7) .nil)) Q,(.cons (gU (.cons (bS Q) Q (.cons (bS Q) Q .nil))) (.refl _) (.cons (.d _) (.refl _) .nil))⟩
theorem qHA {p0:Al} {r:Az} (hm:uH p0=some r):RetD TP 66 [p0.enc] (r.enc):=by
 refine .of (mv:=λ_=>false) (aK (bA Q) func66 Q ntmps66 Q Q (λwX gX=>?_));unfold uH at hm;refine WN [0] Q Q (aO 1 Q (bQ 0 Q Q Q (cH 1 Q Q qXH Q (cR 1 [some 3,some 1] Q Q (aF 5 Q (c_N hm (wP ·) Q Q Q Q λr1 hm=>aL 3 Q (eC hm Q (λh2 hm=>?_) (λh2 hm=>?_))))))))
 ·cases hm
 refine aQ 5 Q (SX Q Q (aN TK Q Q Q) (GE hm λg3 hm=>zEP (f:=(D.int .i64)) (x:=(0:Int)) 2 TK Q Q Q dD Q Q Q Q Q g3 Q (aL 3 Q (aS hm (λ_=>[]) (λ_=>[]) [] [1,2,3] Q (λz4 hm=>?_) (λj hm=>?_)))))
 ·refine bO 5 Q (aW hm (λi6=>([(4,.d (.int .i64 i6))])) (λi6=>[]) [4] [1,2,3] [0,1,2] Q k0 Q Q Q Q Q (λi6 z7 hm hz7=>WN [1,2,3,4] Q Q (bO 8 Q (bJ hm Q (λh8 hm=>?_) (λh8 hm=>?_)))))
  ·cases hm
  refine aM 2 Q (IE hm λv9 hm hz=>?_);rw [hz7 _ hz] at hm;exact WX (bC 1 Q (aU [0,1,2] hm Q Q))
 refine WN [1,2,3] Q Q (aQ 3 Q (SX Q Q (aN TK Q Q Q) (GE hm λg10 hm=>SX Q Q (qJD (f:=Ak.enc) (x:=(⟨(0:Int),(0:Int),(0:Int)⟩:Ak)) TK Q Q qSS Q Q Q Q Q g10 Q) (aF 1 Q (SX Q Q (nC Q plc35 qXH Q Q Q Q) (aD 4 Q ?_))))));obtain rfl:=OJ hm;exact EndsS.cellR _ TK Q Q Q Q Q (gU (.cons (.d _) Q (.cons (bS Q) Q .nil)))
theorem qGZ {p0:Al} {r:(List At)} (hm:uG p0=some r):RetD TP 67 [p0.enc] (.sl 3 (r.map At.enc)):=by
 refine .of (mv:=λ_=>false) (aK (bA Q) func67 Q ntmps67 Q Q (λwX gX=>?_));unfold uG at hm;refine WN [0] Q Q (aO 1 Q (bQ 0 Q Q Q (aF 4 Q (cS (f:=At.enc) 1 129 3 Q Q Q (aL 2 Q (aS hm (λ_=>([(3,.msl 1 3 0 ([]:List At).length)])) (λ_=>[]) [3] [] Q (λz1 hm=>?_) (λj hm=>?_)))))))
 ·refine bO 5 Q (aW hm (λi3=>([(3,.msl 1 3 0 ([]:List At).length),(4,.d (.int .i64 i3))])) (λi3=>[]) [3,4] [1] [0,1] Q k0 Q Q Q Q Q (λi3 z4 hm hz4=>WN [1,3,4] Q Q (aO 5 Q (SX Q Q (aN TK Q Q Q) (aL 3 Q (bJ hm Q (λh5 hm=>?_) (λh5 hm=>?_)))))))
  ·cases hm
  refine aM 2 Q (IE hm λv6 hm hz=>?_);rw [hz4 _ hz] at hm;exact WX (bC 1 Q (aU [0,1] hm Q Q))
 refine WN [3] Q Q (aM 6 Q ?_);obtain rfl:=OJ hm;exact EndsS.one _ Q (bS Q) (.refl _)
theorem qAD {p0:Ag} {p1:Be} {r:Bool} (hm:oZ p0 p1=some r):RetN TP 68 [p0.enc,p1.enc] (.bool (r)):=by
 refine .unit (aK (bA Q) func68 Q ntmps68 Q Q (λwX gX=>?_)) Q;unfold oZ at hm;refine WN [0,1] Q Q (aO 1 Q (bQ 0 Q Q Q (bQ 1 Q Q Q (aL 3 Q (bE hm (λ_=>[]) (λ_=>[]) [] [] Q (λz1 hm hz1=>?_) (λj hm=>?_))))))
 ·refine bO 5 Q (aW hm (λi3=>([(5,.d (.int .i64 i3))])) (λi3=>[]) [5] [2,3] [0,1] Q k0 Q Q Q Q Q (λi3 z4 hm hz4=>WN [2,3,5] Q Q (aO 5 Q (SX Q Q (aN TK Q Q Q) (aL 3 Q (bJ hm Q (λh5 hm=>?_) (λh5 hm=>?_)))))))
  ·refine aQ 8 Q (VE hm λe6 he6 hm=>SX Q Q (bD TK Q Q Q Q he6) (aF 1 Q (cH 2 Q Q fF Q (aL 4 Q ?_))));refine cF [(31,.d (.bool (((decide (e6.el < (0:Int)))||(decide ((p0.Ae.length:Int)<=e6.el))))))] [31] [2,3,5,6] Q ?_ ?_
   ·refine aO 4 Q (SB TK Q (λq7 hq7=>?_));cases q7
    ·refine aF 4 Q (SX Q Q (aN TK Q Q Q) (aD 3 Q ?_));exact⟨[0,1,2],Q,k0,aV (aG (aI (by first|(simp [hq7];done)|(simp only [hq7];simp))) Q) Q⟩
    refine aD 8 Q ?_;exact⟨[0,1,2],Q,k0,aV (aG (aI (by first|(simp [hq7];done)|(simp only [hq7];simp))) Q) Q⟩
   refine WN [2,3,5,6,31] Q Q (bF hm Q (λh8 hm=>?_) (λh8 hm=>?_))
   ·cases hm
   refine bM 2 Q (bI follows ?_);iterate 4 (refine DA [0,1,2] TK Q ?_)
   refine VE hm λe9 he9 hm=>DX [0,1,2] Q Q (bD TK Q Q Q Q he9) ?_;iterate 6 (refine DA [0,1,2] TK Q ?_)
   refine BE hm λr10 hr10 hm=>?_;obtain⟨r11,r12⟩:=r10;refine DX [0,1,2] Q Q (cU Q Q Q (lH hr10)) ?_;iterate 4 (refine DA [0,1,2] TK Q ?_)
   refine DT ?_ (by kernel_rfl);refine aL 3 Q (WN [2,3,5,7,8] Q Q ?_);refine cF [(52,.d (.bool (((!(r12))||(decide (r11=(2:Int)))))))] [52] [2,3,5] Q ?_ ?_
   ·refine aO 3 Q (SB TK Q (λq13 hq13=>?_));cases q13
    ·refine aD 4 Q ?_;exact⟨[0,1,2],Q,k0,aV (aG (aI (by first|(simp [hq13];done)|(simp only [hq13];simp))) Q) Q⟩
    refine aD 4 Q ?_;exact⟨[0,1,2],Q,k0,aV (aG (aI (by first|(simp [hq13];done)|(simp only [hq13];simp))) Q) Q⟩
   refine WN [2,3,5,52] Q Q (bF hm Q (λh14 hm=>?_) (λh14 hm=>?_))
   ·cases hm
   exact aQ 5 Q (GE hm λg15 hm=>SX Q Q (bL Q Q Q Q g15) (aD 2 Q (aY [0,1] hm Q Q)))
  refine aM 2 Q (IE hm λv16 hm hz=>?_);rw [hz4 _ hz] at hm;exact WX (bC 1 Q (aY [0,1] hm Q Q))
 exact WN [] Q Q (aM 5 Q (aR hm Q))
theorem qMS {p0:Bd} {p1:Int} {r:Cab} (hm:qAG p0 p1=some r):RetD TP 69 [p0.enc,.int .i64 p1] (r.enc):=by
 refine .of (mv:=λ_=>false) (aK (bA Q) func69 Q ntmps69 Q Q (λwX gX=>?_));unfold qAG at hm;refine WN [0,1] Q Q (aO 1 Q (bQ 0 Q Q Q (cH 1 Q Q qXG Q (cR 1 [none,none,none,none,none,none,none,none,none,none,none,none,none,none,none,none,none,none,some 4,some 2,none,none,none,none,none,none] Q Q (aL 2 Q (bI follows ?_))))));iterate 2 (refine DA [0,1] TK Q ?_)
 refine dQ [0,1] hm (qBP ·) Q Q Q Q λr1 hm=>DX [0,1] Q Q (bV Q plc76 qXG Q Q Q Q) ?_;refine DT ?_ (by kernel_rfl);refine aF 1 Q (cR 1 [none,none,none,none,none,none,none,none,none,none,none,none,none,none,none,none,none,none,some 4,some 2,none,none,none,none,none,none] Q Q (aD 3 Q ?_));obtain rfl:=OJ hm;exact EndsS.cellR _ TK Q Q Q Q Q (.d _)
theorem qDR {p0:A7} {p1:A7} {r:Bool} (hm:sT p0 p1=some r):RetN TP 171 [p0.enc,p1.enc] (.bool (r)):=by
 refine .unit (aK (bA Q) func171 Q ntmps171 Q Q (λwX gX=>?_)) Q;unfold sT at hm;refine WN [0,1] Q Q (aO 1 Q (bQ 0 Q Q Q (bQ 1 Q Q Q (aL 12 Q (eC hm Q (λh1 hm=>?_) (λh1 hm=>?_))))))
 ·cases hm
 cases hm
theorem sS:∀ (fu:Nat) {p0:Bo} {p1:(List (List Int))} {p2:Int} {r:Bo} (hm:fH fu p0 p1 p2=some r),Ret TP 129 [.box 218 [.d (.sl 14 (p0.t.Ab.map Ai.enc)),.d (.sl 1 (p0.t.Ad.map (D.int .i64))),.d (.sl 1 (p0.t.A1.map (D.int .i64))),.d (.int .i64 p0.t.Ac),.d (.int .i64 p0.t.Ah),.d (.sl 2 (p0.trips.map A6.enc)),.d (.sl 1 (p0.best.starts.map (λ(l:List Int)=>D.sl 1 (l.map (D.int .i64))))),.d (.int .i64 p0.best.cost),.d (.bool (p0.found))]] (λ_=>false) [.mptr 0 0 0 0,.d (.sl 1 (p1.map (λ(l:List Int)=>D.sl 1 (l.map (D.int .i64))))),.d (.int .i64 p2)] (.tup []) [.box 218 [.d (.sl 14 (p0.t.Ab.map Ai.enc)),.d (.sl 1 (p0.t.Ad.map (D.int .i64))),.d (.sl 1 (p0.t.A1.map (D.int .i64))),.d (.int .i64 p0.t.Ac),.d (.int .i64 p0.t.Ah),.d (.sl 2 (p0.trips.map A6.enc)),.d (.sl 1 (r.best.starts.map (λ(l:List Int)=>D.sl 1 (l.map (D.int .i64))))),.d (.int .i64 r.best.cost),.d (.bool (r.found))]]:=by
 intro fu
 induction fu with
 | zero=>
  intro p0 p1 p2 r hm;unfold fH at hm;cases hm
 | succ fu ih=>
  intro p0 p1 p2 r hm;refine iH (bA Q) func129 Q ntmps129 Q Q (λwX gX=>?_);unfold fH at hm;refine WN [0,1,2] Q Q (bO 4 Q (aS hm (λdone1=>([(6,.d (.bool (done1)))])) (λdone1=>[]) [6] [0,1,2] Q (λz2 hm=>?_) (λdone1 hm=>?_)))
  ·refine bO 5 Q (aW hm (λ(done5,i6)=>([(6,.d (.bool (done5))),(7,.d (.int .i64 i6))])) (λ(done5,i6)=>[]) [6,7] [0,1,2] [0] Q (kB Q) Q Q Q Q Q (λs z7 hm hz7=>?_));obtain⟨done5,i6⟩:=s;refine WN [0,1,2,6,7] Q Q (aO 4 Q (SX Q Q (aN TK Q Q Q) (aL 3 Q (bJ hm Q (λh8 hm=>?_) (λh8 hm=>?_)))))
   ·cases hm
   refine aM 2 Q (IE hm λv9 hm hz=>?_);rw [hz7 _ hz] at hm;exact WX (bC 1 Q (e_j [0] hm Q (kB Q) Q))
  refine WN [0,1,2,6] Q Q (bM 6 Q (bF hm Q (λh10 hm=>?_) (λh10 hm=>?_)))
  ·cases hm
  refine aQ 5 Q (SX Q Q (bV Q plc52 qJC Q Q Q Q) (cH 1 Q Q qJC Q (cR 1 [some 1,none] Q Q (aL 3 Q (aS hm (λx11=>([(83,.d (.bool (x11)))])) (λx11=>[]) [83] [0,10] Q (λz12 hm=>?_) (λx11 hm=>?_))))))
  ·refine cG follows ?_;iterate 5 (refine DA [0,1] TK Q ?_)
   refine d_b [0,1] TK Q (λq13 hq13=>?_);cases q13
   ·replace hm:=JB hq13 hm;iterate 5 (refine DA [0,1] TK Q ?_)
    refine dQ [0,1] hm (qDR ·) Q Q Q Q λr14 hm=>DA [0,1] TK Q ?_;refine DT ?_ (by kernel_rfl);exact aD 1 Q (e_j [0,1] hm Q (kB Q) Q)
   replace hm:=JA hq13 hm;iterate 7 (refine DA [0,1] TK Q ?_)
   refine DT ?_ (by kernel_rfl);exact aD 1 Q (e_j [0,1] hm Q (kB Q) Q)
  refine WN [0,10,83] Q Q (bF hm Q (λh15 hm=>?_) (λh15 hm=>?_))
  ·refine aM 14 Q ?_;obtain rfl:=OJ hm;exact⟨_,[0],res Q,by decide,(kB Q),Q,Q⟩
  cases hm
theorem tU {p0:Bo} {p1:(List (List Int))} {p2:Int} {r:Bo} (hm:nR p0 p1 p2=some r):Ret TP 129 [.box 218 [.d (.sl 14 (p0.t.Ab.map Ai.enc)),.d (.sl 1 (p0.t.Ad.map (D.int .i64))),.d (.sl 1 (p0.t.A1.map (D.int .i64))),.d (.int .i64 p0.t.Ac),.d (.int .i64 p0.t.Ah),.d (.sl 2 (p0.trips.map A6.enc)),.d (.sl 1 (p0.best.starts.map (λ(l:List Int)=>D.sl 1 (l.map (D.int .i64))))),.d (.int .i64 p0.best.cost),.d (.bool (p0.found))]] (λ_=>false) [.mptr 0 0 0 0,.d (.sl 1 (p1.map (λ(l:List Int)=>D.sl 1 (l.map (D.int .i64))))),.d (.int .i64 p2)] (.tup []) [.box 218 [.d (.sl 14 (p0.t.Ab.map Ai.enc)),.d (.sl 1 (p0.t.Ad.map (D.int .i64))),.d (.sl 1 (p0.t.A1.map (D.int .i64))),.d (.int .i64 p0.t.Ac),.d (.int .i64 p0.t.Ah),.d (.sl 2 (p0.trips.map A6.enc)),.d (.sl 1 (r.best.starts.map (λ(l:List Int)=>D.sl 1 (l.map (D.int .i64))))),.d (.int .i64 r.best.cost),.d (.bool (r.found))]]:=sS kY hm
theorem qGS {p0:Al} {p1:(List A6)} {r0:A7} {r1:Int} (hm:uD p0 p1=some (r0,r1)):RetT TP 70 [p0.enc,.sl 2 (p1.map A6.enc)] [r0.enc,.int .i64 r1]:=by
 refine .of (mv:=λ_=>false) (dP (bA Q) func70 Q ntmps70 Q Q (λwX gX=>?_));unfold uD at hm;refine WN [0,1] Q Q (aO 1 Q (bQ 0 Q Q Q (cH 1 Q Q qJC Q (cR 1 [some 1,none] Q Q (aF 6 Q (c_N hm (rC ·) Q Q Q Q λr1 hm=>aL 9 Q (eC hm Q (λh2 hm=>?_) (λh2 hm=>?_))))))))
 ·cases hm
 refine aQ 5 Q (SX Q Q (bV Q plc218 zBD Q Q Q Q) (s_wk 17 [none,none,none,none,none,none,some 1,none,none] Q (bQ 2 Q Q Q (aF 6 Q (SX Q Q (aN TK Q Q Q) (GE hm λg3 hm=>SX Q Q (zBH (s:=1) (f:=(D.int .i64)) TK Q Q qXI Q Q Q Q Q g3) (BE hm λr4 hr4 hm=>?_)))))));refine qJP [2] (λ_=>false) Q Q Q (by decide) Q Q Q Q (tU hr4) Q Q Q ?_;refine aL 2 Q (WN [4,7] Q Q (aM 10 Q ?_));obtain⟨rfl,rfl⟩:=Prod.mk.inj (Option.some.inj hm);exact⟨_,.mk _ (.cons (.agg (TK.lay Q) Q Q Q Q) (.cons (.tmp 5) .nil)) Q,(.cons (.d _) (.refl _) (.cons (.d _) (.refl _) .nil))⟩
theorem qGG {p0:Ag} {p1:Int} {r:Bool} (hm:qH p0 p1=some r):RetN TP 174 [p0.enc,.int .i64 p1] (.bool (r)):=by
 refine .unit (aK (bA Q) func174 Q ntmps174 Q Q (λwX gX=>?_)) Q;unfold qH at hm;refine WN [0,1] Q Q (aO 1 Q (bQ 0 Q Q Q (aL 3 Q (cF [(4,.d (.bool (((decide ((0:Int)<=p1))&&(decide (p1 < (p0.Ae.length:Int)))))))] [4] [] Q ?_ ?_))))
 ·refine aO 3 Q (SB TK Q (λq1 hq1=>?_));cases q1
  ·refine aD 8 Q ?_;exact⟨[0],Q,k0,aV (aG (aI (by first|(simp [hq1];done)|(simp only [hq1];simp))) Q) Q⟩
  refine aF 3 Q (SX Q Q (aN TK Q Q Q) (aD 4 Q ?_));exact⟨[0],Q,k0,aV (aG (aI (by first|(simp [hq1];done)|(simp only [hq1];simp))) Q) Q⟩
 exact WN [4] Q Q (aM 1 Q (aR hm Q))
theorem xU {p0:Ag} {p1:(List Am)} {r:(List Int)} (hm:jH p0 p1=some r):Ret TP 133 [] (λ_=>false) ([p0.enc,.sl 3 (p1.map Am.enc)].map .d) (.msl 0 1 0 r.length) [.flat 3 1 (r.map (D.int .i64))]:=by
 refine iH (bA Q) func133 Q ntmps133 Q Q (λwX gX=>?_);unfold jH at hm;refine WN [0,1] Q Q (aO 1 Q (bQ 0 Q Q Q (cS (f:=(D.int .i64)) 1 3 1 Q Q Q (aF 3 Q (cS (f:=(D.int .i64)) 2 3 1 Q Q Q (aF 3 Q (vQ 3 4 Q (qGL 10 (.mmap 3) Q Q (aL 3 Q (aS hm (λ(b1,m2)=>([(5,.msl 2 1 0 b1.length)])) (λ(b1,m2)=>([(2,.flat 3 1 (b1.map (D.int .i64))),(3,.map 3 4 (dB (D.int .i64) D.bool m2))])) [5] [] Q (λz3 hm=>?_) (λj hm=>?_)))))))))))
 ·refine aO 2 Q (SX Q Q (aN TK Q Q Q) (aL 4 Q (aW hm (λ(x8,b9,b10)=>([(5,.msl 2 1 0 b9.length),(13,.d (.int .i64 x8))])) (λ(x8,b9,b10)=>([(2,.flat 3 1 (b9.map (D.int .i64))),(3,.map 3 4 (dB (D.int .i64) D.bool b10))])) [5,13] [2,6,11,12] [0,1,2,3] Q k0 Q Q Q Q Q (λs z11 hm hz11=>?_))));obtain⟨x8,b9,b10⟩:=s;refine WN [2,5,6,11,12,13] Q Q (bO 5 Q (bJ hm Q (λh12 hm=>?_) (λh12 hm=>?_)))
  ·refine aQ 5 Q (VE hm λe13 he13 hm=>SX Q Q (bD TK Q Q Q Q he13) (aF 1 Q (cH 4 Q Q fF Q (aL 3 Q (WN [2,5,6,8,11,12,13] Q Q (aQ 5 Q (c_N hm (qGG ·) Q Q Q Q λr14 hm=>aL 3 Q (bF hm Q (λh15 hm=>?_) (λh15 hm=>?_)))))))))
   ·exact aQ 5 Q (GE hm λg16 hm=>SX Q Q (bL Q Q Q Q g16) (aD 2 Q (aY [0,1,2,3] hm Q Q)))
   refine aQ 7 Q (VE hm λe17 he17 hm=>SX Q Q (bD TK Q Q Q Q he17) (aF 8 Q (GE hm λg18 hm=>SX Q Q (vL (nK .i64) D.bool _ _ false Q qKU qLY Q Q Q Q g18) (aL 3 Q (WN [2,5,6,9,11,12,13,32] Q Q (bF hm Q (λh19 hm=>?_) (λh19 hm=>?_)))))))
   ·refine aQ 3 Q (GE hm λg20 hm=>qJN (nK .i64) D.bool qKU Q Q Q Q g20 (aL 2 Q (WN [2,5,6,9,11,12,13] Q Q (aQ 3 Q (SX Q Q (cI [.tmp 36] TK Q Q dD Q Q Q Q Q) (GE hm λg21 hm=>cK (f:=(D.int .i64)) ([e17.As]:List Int) TK Q Q dD Q Q Q Q Q (λh=>absurd h (zQV _)) Q cC g21 Q Q (aL 4 Q (WN [2,5,6,11,12,13] Q Q (aQ 1 Q (GE hm λg22 hm=>SX Q Q (bL Q Q Q Q g22) ?_))))))))));exact aD 2 Q (aY [0,1,2,3] hm Q Q)
   exact aQ 4 Q (GE hm λg23 hm=>SX Q Q (bL Q Q Q Q g23) (aD 2 Q (aY [0,1,2,3] hm Q Q)))
  refine aM 2 Q (IE hm λv24 hm hz=>?_);rw [hz11 _ hz] at hm;exact WX (bC 1 Q (aU [0,1,2,3] hm Q Q))
 obtain⟨b1,m2⟩:=j;refine WN [5] Q Q (aM 6 Q ?_);obtain rfl:=OJ hm;exact⟨_,[2],res Q,by decide,k0,Q,Q⟩
theorem tQ {p0:Ag} {p1:Be} {r:(List Int)} (hm:hU p0 p1=some r):RetD TP 75 [p0.enc,p1.enc] (.sl 1 (r.map (D.int .i64))):=by
 refine .of (mv:=λ_=>false) (aK (bA Q) func75 Q ntmps75 Q Q (λwX gX=>?_));unfold hU at hm;refine WN [0,1] Q Q (aO 1 Q (bQ 0 Q Q Q (bQ 1 Q Q Q (aF 7 Q (BE hm λr1 hr1 hm=>sR Q Q Q (xU hr1) Q Q (qGL 9 (.msl 2 1 0 r1.length) Q Q (aF 5 Q (GE hm λg2 hm=>?_))))))));refine qCS [2] Q Q Q (by simp) Q Q Q (qJ r1 g2) Q Q ?_;refine oW 5 (kI r1).length Q (gM _).symm (oW 10 (kI r1).length Q (gM _).symm (aD 8 Q ?_));obtain rfl:=OJ hm;exact EndsS.one _ Q (bS Q) (.refl _)
theorem oU {p0:(List Int)} {r:(List Int)} (hm:dA p0=some r):RetD TP 172 [.sl 1 (p0.map (D.int .i64))] (.sl 1 (r.map (D.int .i64))):=by
 refine .of (mv:=λ_=>false) (aK (bA Q) func172 Q ntmps172 Q Q (λwX gX=>?_));unfold dA at hm;refine WN [0] Q Q (aO 7 Q (qTC Q Tryz.underlying30 Q Q (λb1 hb1=>aL 2 Q (TC _ Q (λh2=>?_) (λh2=>?_)))))
 ·obtain⟨hnb1,hm⟩:=zES (hb1 h2) hm;subst hnb1;refine bM 4 Q (vI 2 [some 1] Q (aM 2 Q ?_));obtain rfl:=OJ hm;exact EndsS.one _ Q (.d _) (.refl _)
 replace hm:=zET hm;refine aQ 3 Q (qJO (f:=(D.int .i64)) 0 [] ([]:List Int) TK Q Q Q dD Q Q Q Q Q (aF 1 Q (GE hm λg3 hm=>cK (f:=(D.int .i64)) p0 TK Q Q dD Q Q Q Q Q (λh=>absurd h (zQV _)) Q cC g3 Q Q (aD 4 Q ?_))));obtain rfl:=OJ hm;exact EndsS.one _ Q (bS Q) (.refl _)
theorem uA {p0:(List Int)} {r:(List Int)} (hm:dA p0=some r):Ret TP 172 [] (λ_=>false) ([.sl 1 (p0.map (D.int .i64))].map .d) (.msl 0 1 0 r.length) [.flat 3 1 (r.map (D.int .i64))]:=by
 refine iH (bA Q) func172 Q ntmps172 Q Q (λwX gX=>?_);unfold dA at hm;refine WN [0] Q Q (aO 1 Q (cS (f:=(D.int .i64)) 0 3 1 Q Q Q (aF 5 Q (qTC Q Tryz.underlying30 Q Q (λb1 hb1=>aL 2 Q (TC _ Q (λh2=>?_) (λh2=>?_)))))))
 ·obtain⟨hnb1,hm⟩:=zES (hb1 h2) hm;subst hnb1;refine aQ 1 Q (cS (f:=(D.int .i64)) 1 3 1 Q Q Q (aD 4 Q ?_));obtain rfl:=OJ hm;exact⟨_,[1],res Q,by decide,k0,Q,Q⟩
 replace hm:=zET hm;refine aQ 3 Q (qJO (f:=(D.int .i64)) 1 [] ([]:List Int) TK Q Q Q dD Q Q Q Q Q (aF 1 Q (GE hm λg3 hm=>cK (f:=(D.int .i64)) p0 TK Q Q dD Q Q Q Q Q (λh=>absurd h (zQV _)) Q cC g3 Q Q (aD 4 Q ?_))));obtain rfl:=OJ hm;exact⟨_,[1],res Q,by decide,k0,Q,Q⟩
theorem yV {p0:(List Int)} {r:(List Int)} (hm:mA p0=some r):RetD TP 131 [.sl 1 (p0.map (D.int .i64))] (.sl 1 (r.map (D.int .i64))):=by
 refine .of (mv:=λ_=>false) (aK (bA Q) func131 Q ntmps131 Q Q (λwX gX=>?_));unfold mA at hm;refine WN [0] Q Q (aO 6 Q (BE hm λr1 hr1 hm=>sR Q Q Q (uA hr1) Q Q (qGL 5 (.msl 0 1 0 r1.length) Q Q (aF 5 Q (GE hm λg2 hm=>?_)))));refine qCS [0] Q Q Q (by simp) Q Q Q (qJ r1 g2) Q Q ?_;refine oW 3 (kI r1).length Q (gM _).symm (oW 6 (kI r1).length Q (gM _).symm (aF 4 Q (GE hm λg3 hm=>?_)));refine qCS [0] Q Q Q (by simp) Q Q Q (tZ (kI r1) g3) Q Q ?_;refine aD 4 Q ?_;obtain rfl:=OJ hm;exact EndsS.one _ Q (bS Q) (.refl _)
theorem yU {p0:(List Int)} {p1:(List Int)} {p2:Bool->Bool->Option Bool} {c2:D} (hf2:∀ a0 a1 r,p2 a0 a1=some r->∃ F cs,qCO c2=some (F,cs)/\RetD TP F ([.bool (a0),.bool (a1)]++cs) (.bool (r))) {r:(List Int)} (hm:hJ p0 p1 p2=some r):RetD TP 130 [.sl 1 (p0.map (D.int .i64)),.sl 1 (p1.map (D.int .i64)),c2] (.sl 1 (r.map (D.int .i64))):=by
 refine .of (mv:=λ_=>false) (aK (bA Q) func130 Q ntmps130 Q Q (λwX gX=>?_));unfold hJ at hm;refine WN [0,1,2] Q Q (aO 5 Q (cS (f:=(D.int .i64)) 0 3 1 Q Q Q (aL 2 Q (aS hm (λb1=>([(7,.msl 0 1 0 b1.length)])) (λb1=>([(0,.flat 3 1 (b1.map (D.int .i64)))])) [7] [] Q (λz2 hm=>?_) (λb1 hm=>?_)))))
 ·refine bO 1 Q (aW hm (λ(a8,b9,b10)=>([(0,.d (.sl 1 (a8.map (D.int .i64)))),(1,.d (.sl 1 (b9.map (D.int .i64)))),(7,.msl 0 1 0 b10.length)])) (λ(a8,b9,b10)=>([(0,.flat 3 1 (b10.map (D.int .i64)))])) [0,1,7] [2] [0] Q k0 Q Q Q Q Q (λs z11 hm hz11=>?_));obtain⟨a8,b9,b10⟩:=s;refine WN [0,1,2,7] Q Q (bO 1 Q ?_);refine cF [(18,.d (.bool (((decide ((0:Int) < (a8.length:Int)))||(decide ((0:Int) < (b9.length:Int)))))))] [18] [0,1,2,7] Q ?_ ?_
  ·refine aO 2 Q (SX Q Q (aN TK Q Q Q) (aF 1 Q (SB TK Q (λq12 hq12=>?_))));cases q12
   ·refine aF 1 Q (SX Q Q (aN TK Q Q Q) (aD 3 Q ?_));exact⟨[0],Q,k0,aV (aG (aI (by first|(simp [hq12];done)|(simp only [hq12];simp))) Q) Q⟩
   refine aD 5 Q ?_;exact⟨[0],Q,k0,aV (aG (aI (by first|(simp [hq12];done)|(simp only [hq12];simp))) Q) Q⟩
  refine WN [0,1,2,7,18] Q Q (bF hm Q (λh13 hm=>?_) (λh13 hm=>?_))
  ·refine bM 3 Q (aS hm (λinA14=>([(8,.d (.bool (inA14)))])) (λinA14=>[]) [8] [0,1,2,7] Q (λz15 hm=>?_) (λinA14 hm=>?_))
   ·refine cG follows (DA [0] TK Q (DX [0] Q Q (aN TK Q Q Q) (DA [0] TK Q (d_b [0] TK Q (λq16 hq16=>?_)))));cases q16
    ·replace hm:=JF hq16 hm;iterate 13 (refine DA [0] TK Q ?_)
     refine DT ?_ (by kernel_rfl);exact aD 2 Q (aU [0] hm Q Q)
    replace hm:=JT hq16 hm;refine DA [0] TK Q (DX [0] Q Q (aN TK Q Q Q) (DA [0] TK Q (d_b [0] TK Q (λq17 hq17=>?_))));cases q17
    ·replace hm:=JF hq17 hm;refine DA [0] TK Q (VE hm λe18 he18 hm=>DX [0] Q Q (bD TK Q Q Q Q he18) ?_);iterate 2 (refine DA [0] TK Q ?_)
     refine VE hm λe19 he19 hm=>DX [0] Q Q (bD TK Q Q Q Q he19) ?_;iterate 4 (refine DA [0] TK Q ?_)
     refine DT ?_ (by kernel_rfl);exact aD 2 Q (aU [0] hm Q Q)
    replace hm:=JT hq17 hm;iterate 9 (refine DA [0] TK Q ?_)
    refine DT ?_ (by kernel_rfl);exact aD 2 Q (aU [0] hm Q Q)
   refine WN [0,1,2,7,8] Q Q (aS hm (λinB20=>([(9,.d (.bool (inB20)))])) (λinB20=>[]) [9] [0,1,2,7,8] Q (λz21 hm=>?_) (λinB20 hm=>?_))
   ·refine cG follows (DA [0] TK Q (DX [0] Q Q (aN TK Q Q Q) (DA [0] TK Q (d_b [0] TK Q (λq22 hq22=>?_)))));cases q22
    ·replace hm:=JF hq22 hm;iterate 13 (refine DA [0] TK Q ?_)
     refine DT ?_ (by kernel_rfl);exact aD 2 Q (aU [0] hm Q Q)
    replace hm:=JT hq22 hm;refine DA [0] TK Q (DX [0] Q Q (aN TK Q Q Q) (DA [0] TK Q (d_b [0] TK Q (λq23 hq23=>?_))));cases q23
    ·replace hm:=JF hq23 hm;refine DA [0] TK Q (VE hm λe24 he24 hm=>DX [0] Q Q (bD TK Q Q Q Q he24) ?_);iterate 2 (refine DA [0] TK Q ?_)
     refine VE hm λe25 he25 hm=>DX [0] Q Q (bD TK Q Q Q Q he25) ?_;iterate 4 (refine DA [0] TK Q ?_)
     refine DT ?_ (by kernel_rfl);exact aD 2 Q (aU [0] hm Q Q)
    replace hm:=JT hq23 hm;iterate 9 (refine DA [0] TK Q ?_)
    refine DT ?_ (by kernel_rfl);exact aD 2 Q (aU [0] hm Q Q)
   refine WN [0,1,2,7,8,9] Q Q (bM 4 Q (aS hm (λ(a26,n27)=>([(0,.d (.sl 1 (a26.map (D.int .i64)))),(10,.d (.int .i64 n27))])) (λ(a26,n27)=>[]) [0,10] [1,2,7,8,9] Q (λz28 hm=>?_) (λj hm=>?_)))
   ·refine bO 4 Q (bF hm Q (λh29 hm=>?_) (λh29 hm=>?_))
    ·refine dV follows (DA [0] TK Q (VE hm λe30 he30 hm=>DX [0] Q Q (bD TK Q Q Q Q he30) ?_));iterate 2 (refine DA [0] TK Q ?_)
     refine GE hm λg31 hm=>DX [0] Q Q (xT TK Q Q Q Q Q g31) (DA [0] TK Q ?_);refine DT ?_ (by kernel_rfl);exact aD 2 Q (aU [0] hm Q Q)
    exact aM 1 Q (aU [0] hm Q Q)
   obtain⟨a26,n27⟩:=j;refine WN [0,1,2,7,8,9,10] Q Q (aS hm (λ(b32,n33)=>([(1,.d (.sl 1 (b32.map (D.int .i64)))),(10,.d (.int .i64 n33))])) (λ(b32,n33)=>[]) [1,10] [0,2,7,8,9] Q (λz34 hm=>?_) (λj hm=>?_))
   ·refine bO 4 Q (bF hm Q (λh35 hm=>?_) (λh35 hm=>?_))
    ·refine dV follows (DA [0] TK Q (VE hm λe36 he36 hm=>DX [0] Q Q (bD TK Q Q Q Q he36) ?_));iterate 2 (refine DA [0] TK Q ?_)
     refine GE hm λg37 hm=>DX [0] Q Q (xT TK Q Q Q Q Q g37) (DA [0] TK Q ?_);refine DT ?_ (by kernel_rfl);exact aD 2 Q (aU [0] hm Q Q)
    exact aM 1 Q (aU [0] hm Q Q)
   obtain⟨b32,n33⟩:=j;refine WN [0,1,2,7,8,9,10] Q Q (aQ 4 Q (BE hm λr38 hr38 hm=>?_));obtain⟨Fr38,csr38,hFr38,hcr38⟩:=hf2 _ _ _ hr38;refine SX Q Q (uO Q Q hFr38 Q hcr38) (aL 2 Q (bF hm Q (λh39 hm=>?_) (λh39 hm=>?_)))
   ·exact aQ 3 Q (SX Q Q (cI [.tmp 70] TK Q Q dD Q Q Q Q Q) (GE hm λg40 hm=>cK (f:=(D.int .i64)) ([n33]:List Int) TK Q Q dD Q Q Q Q Q (λh=>absurd h (zQV _)) Q cC g40 Q Q (aD 3 Q (aY [0] hm Q Q))))
   exact aM 2 Q (aY [0] hm Q Q)
  refine aM 2 Q (IE hm λv41 hm hz=>?_);rw [hz11 _ hz] at hm;exact WX (bC 1 Q (aU [0] hm Q Q))
 refine WN [7] Q Q (aM 6 Q ?_);obtain rfl:=OJ hm;exact EndsS.one _ Q (bS Q) (.refl _)
theorem yW {p0:Bool} {p1:Bool} {r:Bool} (hm:dM p0 p1=some r):RetN TP 132 [.bool (p0),.bool (p1)] (.bool (r)):=by
 refine .unit (aK (bA Q) func132 Q ntmps132 Q Q (λwX gX=>?_)) Q;unfold dM at hm;refine WN [0,1] Q Q (bO 4 Q (cF [(4,.d (.bool ((p0&&p1))))] [4] [] Q ?_ ?_))
 ·refine aO 2 Q (SB TK Q (λq1 hq1=>?_));cases q1
  ·refine aD 4 Q ?_;exact⟨[],Q,k0,aV (aG (aI (by first|(simp [hq1];done)|(simp only [hq1];simp))) Q) Q⟩
  refine aD 4 Q ?_;exact⟨[],Q,k0,aV (aG (aI (by first|(simp [hq1];done)|(simp only [hq1];simp))) Q) Q⟩
 exact WN [4] Q Q (aM 1 Q (aR hm Q))
theorem qET {p0:(List Int)} {p1:(List Int)} {r:(List Int)} (hm:lJ p0 p1=some r):RetD TP 74 [.sl 1 (p0.map (D.int .i64)),.sl 1 (p1.map (D.int .i64))] (.sl 1 (r.map (D.int .i64))):=by
 refine .of (mv:=λ_=>false) (aK (bA Q) func74 Q ntmps74 Q Q (λwX gX=>?_));unfold lJ at hm;refine WN [0,1] Q Q (aO 6 Q (c_D hm (yV ·) Q Q Q Q λr1 hm=>aF 1 Q (c_D hm (yV ·) Q Q Q Q λr2 hm=>BE hm λr3 hr3 hm=>SX Q Q (RD Q Q Q (yU (λ_ _ r h=>⟨132,_,Q,(yW h).retD⟩) hr3)) (aD 4 Q ?_))));obtain rfl:=OJ hm;exact EndsS.one _ Q (.d _) (.refl _)
theorem kX {p0:Ap} {p1:Ap} {p2:An} {r:Bool} (hm:dO p0 p1 p2=some r):RetN TP 73 [p0.enc,p1.enc,.ptr (p2.enc) 0] (.bool (r)):=by
 refine .unit (aK (bA Q) func73 Q ntmps73 Q Q (λwX gX=>?_)) Q;unfold dO at hm;refine WN [0,1,2] Q Q (aO 1 Q (bQ 0 Q Q Q (bQ 1 Q Q Q (aL 3 Q (bI follows ?_)))));iterate 4 (refine DA [0,1] TK Q ?_)
 refine mD [0,1] hm (tQ ·) Q Q Q Q λr1 hm=>?_;iterate 4 (refine DA [0,1] TK Q ?_)
 refine mD [0,1] hm (tQ ·) Q Q Q Q λr2 hm=>mD [0,1] hm (qET ·) Q Q Q Q λr3 hm=>DX [0,1] Q Q (aN TK Q Q Q) (DA [0,1] TK Q ?_);refine DT ?_ (by kernel_rfl);exact aL 3 Q (WN [5] Q Q (aM 1 Q (aR hm Q)))
theorem rP {p0:(List Ap)} {p1:Ap->Ap->Option Bool} {p2:Ap->Ap->Option Af} {c1:D} (hf1:∀ a0 a1 r,p1 a0 a1=some r->∃ F cs,qCO c1=some (F,cs)/\RetD TP F ([a0.enc,a1.enc]++cs) (.bool (r))) {c2:D} (hf2:∀ a0 a1 r,p2 a0 a1=some r->∃ F cs,qCO c2=some (F,cs)/\RetD TP F ([a0.enc,a1.enc]++cs) (r.enc)) {r:(List Af)} (hm:dH p0 p1 p2=some r):RetD TP 76 [.sl 32 (p0.map Ap.enc),c1,c2] (.sl 3 (r.map Af.enc)):=by
 refine .of (mv:=λ_=>false) (aK (bA Q) func76 Q ntmps76 Q Q (λwX gX=>?_));unfold dH at hm;refine WN [0,1,2] Q Q (aO 5 Q (cS (f:=Af.enc) 0 83 3 Q Q Q (aL 2 Q (aS hm (λb1=>([(7,.msl 0 3 0 b1.length)])) (λb1=>([(0,.flat 83 3 (b1.map Af.enc))])) [7] [] Q (λz2 hm=>?_) (λb1 hm=>?_)))))
 ·refine aO 2 Q (SX Q Q (aN TK Q Q Q) (aL 4 Q (aW hm (λ(x6,b7)=>([(7,.msl 0 3 0 b7.length),(14,.d (.int .i64 x6))])) (λ(x6,b7)=>([(0,.flat 83 3 (b7.map Af.enc))])) [7,14] [0,1,2,12,13] [0] Q k0 Q Q Q Q Q (λs z8 hm hz8=>?_))));obtain⟨x6,b7⟩:=s;refine WN [0,1,2,7,12,13,14] Q Q (bO 5 Q (bJ hm Q (λh9 hm=>?_) (λh9 hm=>?_)))
  ·refine bM 2 Q (aS hm (λb10=>([(7,.msl 0 3 0 b10.length)])) (λb10=>([(0,.flat 83 3 (b10.map Af.enc))])) [7] [0,1,2,12,13,14] Q (λz11 hm=>?_) (λb10 hm=>?_))
   ·refine aO 3 Q (VE hm λe12 he12 hm=>SX Q Q (bD TK Q Q Q Q he12) (aF 1 Q (cH 1 Q Q nM Q (cR 1 [some 3,none,none,none,none,none,none,none,none,none,none,none,none,none,none,none,none,none,none,none,none,none,none,none,some 4,some 2,none,none,none,none,none,none] Q Q (aF 7 Q (GE hm λg13 hm=>SX Q Q (bL Q Q Q Q g13) (GE hm λg14 hm=>SX Q Q (xT TK Q Q Q Q Q g14) (SX Q Q (aN TK Q Q Q) (aL 4 Q (aW hm (λ(x18,b19)=>([(7,.msl 0 3 0 b19.length),(24,.d (.int .i64 x18))])) (λ(x18,b19)=>([(0,.flat 83 3 (b19.map Af.enc))])) [7,24] [0,1,2,9,12,13,14,22,23] [0,1] Q k0 Q Q Q Q Q (λs z20 hm hz20=>?_)))))))))));obtain⟨x18,b19⟩:=s;refine WN [0,1,2,7,9,12,13,14,22,23,24] Q Q (bO 5 Q (bJ hm Q (λh21 hm=>?_) (λh21 hm=>?_)))
    ·refine aQ 5 Q (VE hm λe22 he22 hm=>SX Q Q (bD TK Q Q Q Q he22) (aF 1 Q (cH 2 Q Q nM Q (cR 2 [some 3,none,none,none,none,none,none,none,none,none,none,none,none,none,none,none,none,none,none,none,none,none,none,none,some 4,some 2,none,none,none,none,none,none] Q Q (aF 7 Q (BE hm λr23 hr23 hm=>?_))))));obtain⟨Fr23,csr23,hFr23,hcr23⟩:=hf1 _ _ _ hr23;refine SX Q Q (uO Q Q hFr23 Q hcr23) (aL 2 Q (bF hm Q (λh24 hm=>?_) (λh24 hm=>?_)))
     ·refine aQ 5 Q (BE hm λr25 hr25 hm=>?_);obtain⟨Fr25,csr25,hFr25,hcr25⟩:=hf2 _ _ _ hr25;exact SX Q Q (uO Q Q hFr25 Q hcr25) (SX Q Q (cI [.tmp 36] TK Q Q eA Q Q Q Q Q) (GE hm λg26 hm=>cK (f:=Af.enc) ([r25]:List Af) TK Q Q eA Q Q Q Q Q (λh=>absurd h (zQV _)) Q cC g26 Q Q (aL 4 Q (WN [0,1,2,7,9,12,13,14,22,23,24] Q Q (aQ 1 Q (GE hm λg27 hm=>SX Q Q (bL Q Q Q Q g27) (aD 2 Q (aY [0,1] hm Q Q))))))))
     exact aQ 4 Q (GE hm λg28 hm=>SX Q Q (bL Q Q Q Q g28) (aD 2 Q (aY [0,1] hm Q Q)))
    refine aM 2 Q (IE hm λv29 hm hz=>?_);rw [hz20 _ hz] at hm;exact WX (bC 2 Q (aU [0] hm Q Q))
   exact WN [0,1,2,7,12,13,14] Q Q (aQ 1 Q (GE hm λg30 hm=>SX Q Q (bL Q Q Q Q g30) (aD 2 Q (aY [0] hm Q Q))))
  refine aM 2 Q (IE hm λv31 hm hz=>?_);rw [hz8 _ hz] at hm;exact WX (bC 1 Q (aU [0] hm Q Q))
 refine WN [7] Q Q (aM 6 Q ?_);obtain rfl:=OJ hm;exact EndsS.one _ Q (bS Q) (.refl _)
theorem kW {p0:Ap} {p1:Ap} {r:Af} (hm:fQ p0 p1=some r):RetN TP 77 [p0.enc,p1.enc] (r.enc):=by
 refine .unit (aK (bA Q) func77 Q ntmps77 Q Q (λwX gX=>?_)) Q;unfold fQ at hm;refine WN [0,1] Q Q (aO 1 Q (bQ 0 Q Q Q (bQ 1 Q Q Q (cH 2 Q Q eA Q (aF 11 Q (SX Q Q (bV Q yL eA Q Q Q Q) (aD 4 Q ?_)))))));obtain rfl:=OJ hm;exact EndsS.cellR _ TK Q Q Q Q Q (.d _)
theorem wH {p0:An} {r:(List Af)} (hm:dF p0=some r):RetD TP 36 [p0.enc] (.sl 3 (r.map Af.enc)):=by
 refine .of (mv:=λ_=>false) (aK (bA Q) func36 Q ntmps36 Q Q (λwX gX=>?_));unfold dF at hm;refine WN [0] Q Q (aO 1 Q (bQ 0 Q Q Q (aL 3 Q (zEZ 0 Q Q Q Q Q (aQ 9 Q (BE hm λr1 hr1 hm=>SX Q Q (RD Q Q Q (rP (λ_ _ r h=>⟨73,_,Q,(kX h).retD⟩) (λ_ _ r h=>⟨77,_,Q,(kW h).retD⟩) hr1)) (aD 4 Q ?_)))))));obtain rfl:=OJ hm;exact EndsS.one _ Q (.d _) (.refl _)
theorem xI {p0:Int} {r:Bool} (hm:gG p0=some r):RetN TP 37 [.int .i64 p0] (.bool (r)):=by
 refine .unit (aK (bA Q) func37 Q ntmps37 Q Q (λwX gX=>?_)) Q;unfold gG at hm;exact WN [0] Q Q (qYJ 11 Q (aR hm Q))
theorem eF {p0:Int} {p1:Int} {r:Bool} (hm:cO p0 p1=some r):RetN TP 177 [.int .i64 p0,.int .i64 p1] (.bool (r)):=by
 refine .unit (aK (bA Q) func177 Q ntmps177 Q Q (λwX gX=>?_)) Q;unfold cO at hm;refine WN [0,1] Q Q (bO 4 Q (cF [(4,.d (.bool (((decide ((0:Int)<=p0))&&(decide (p0 < p1))))))] [4] [] Q ?_ ?_))
 ·refine aO 3 Q (SB TK Q (λq1 hq1=>?_));cases q1
  ·refine aD 6 Q ?_;exact⟨[],Q,k0,aV (aG (aI (by first|(simp [hq1];done)|(simp only [hq1];simp))) Q) Q⟩
  refine aD 6 Q ?_;exact⟨[],Q,k0,aV (aG (aI (by first|(simp [hq1];done)|(simp only [hq1];simp))) Q) Q⟩
 exact WN [4] Q Q (aM 1 Q (aR hm Q))
theorem wE {p0:Al} {r:Bool} (hm:fO p0=some r):RetN TP 178 [p0.enc] (.bool (r)):=by
 refine .unit (aK (bA Q) func178 Q ntmps178 Q Q (λwX gX=>?_)) Q;unfold fO at hm;refine WN [0] Q Q (aO 1 Q (bQ 0 Q Q Q (aF 7 Q (SX Q Q (aN TK Q Q Q) (aF 2 Q (SX Q Q (aN TK Q Q Q) (aL 3 Q (eC hm Q (λh1 hm=>?_) (λh1 hm=>?_)))))))))
 ·exact aM 6 Q (aR hm Q)
 refine bM 2 Q (bE hm (λ_=>[]) (λ_=>[]) [] [] Q (λz2 hm hz2=>?_) (λj hm=>?_))
 ·refine aO 3 Q (SX Q Q (aN TK Q Q Q) (aL 4 Q (aW hm (λx4=>([(15,.d (.int .i64 x4))])) (λx4=>[]) [15] [1,13,14] [0] Q k0 Q Q Q Q Q (λx4 z5 hm hz5=>WN [1,13,14,15] Q Q (bO 5 Q (bJ hm Q (λh6 hm=>?_) (λh6 hm=>?_)))))))
  ·refine aQ 6 Q (VE hm λe7 he7 hm=>SX Q Q (bD TK Q Q Q Q he7) (aL 5 Q (aS hm (λx8=>([(46,.d (.bool (x8)))])) (λx8=>[]) [46] [1,13,14,15] Q (λz9 hm=>?_) (λx8 hm=>?_))))
   ·refine cG follows ?_;iterate 2 (refine DA [0] TK Q ?_)
    refine d_b [0] TK Q (λq10 hq10=>?_);cases q10
    ·replace hm:=JF hq10 hm;iterate 2 (refine DA [0] TK Q ?_)
     refine d_b [0] TK Q (λq11 hq11=>?_);cases q11
     ·replace hm:=JF hq11 hm;iterate 14 (refine DA [0] TK Q ?_)
      refine VE hm λe12 he12 hm=>DX [0] Q Q (bD TK Q Q Q Q he12) ?_;iterate 3 (refine DA [0] TK Q ?_)
      refine dQ [0] hm (eF ·) Q Q Q Q λr13 hm=>?_;iterate 2 (refine DA [0] TK Q ?_)
      refine DT ?_ (by kernel_rfl);exact aD 1 Q (aU [0] hm Q Q)
     replace hm:=JT hq11 hm;iterate 4 (refine DA [0] TK Q ?_)
     refine GE hm λg14 hm=>DX [0] Q Q (bL Q Q Q Q g14) (VE hm λe15 he15 hm=>DX [0] Q Q (bD TK Q Q Q Q he15) ?_);iterate 4 (refine DA [0] TK Q ?_)
     refine d_b [0] TK Q (λq16 hq16=>?_);cases q16
     ·replace hm:=JF hq16 hm;iterate 3 (refine DA [0] TK Q ?_)
      refine VE hm λe17 he17 hm=>DX [0] Q Q (bD TK Q Q Q Q he17) ?_;iterate 3 (refine DA [0] TK Q ?_)
      refine dQ [0] hm (eF ·) Q Q Q Q λr18 hm=>?_;iterate 2 (refine DA [0] TK Q ?_)
      refine DT ?_ (by kernel_rfl);exact aD 1 Q (aU [0] hm Q Q)
     replace hm:=JT hq16 hm;iterate 10 (refine DA [0] TK Q ?_)
     refine DT ?_ (by kernel_rfl);exact aD 1 Q (aU [0] hm Q Q)
    replace hm:=JT hq10 hm;iterate 24 (refine DA [0] TK Q ?_)
    refine DT ?_ (by kernel_rfl);exact aD 1 Q (aU [0] hm Q Q)
   refine WN [1,13,14,15,46] Q Q (bF hm Q (λh19 hm=>?_) (λh19 hm=>?_))
   ·refine aM 7 Q (IE hm λv20 hm hz=>?_);rw [hz5 _ hz] at hm;refine WR (bC 1 Q (IE hm λv21 hm hz=>?_));rw [hz2 _ hz] at hm;exact WR (aR hm Q)
   exact aQ 4 Q (GE hm λg22 hm=>SX Q Q (bL Q Q Q Q g22) (aD 2 Q (aY [0] hm Q Q)))
  refine aM 2 Q (IE hm λv23 hm hz=>?_);rw [hz5 _ hz] at hm;exact WX (bC 1 Q (aY [0] hm Q Q))
 exact WN [] Q Q (aM 5 Q (aR hm Q))
theorem tS (n:Nat) (hn:n<=1000000000) (mv:Nat->Bool):Ret TP 214 [] mv ([.nilsl,.int .i64 n].map .d) (.msl 0 1 0 0) [.flat 3 1 []]:=by
 refine iH (bA Q) func214 Q ntmps214 Q Q (λwX gX=>bP [0,1] (bB Q (bB Q .nil)) (bT Q) (RS (bY _ Q (eE (.inr Q) Q) (TN (bP [0,1] (bB Q (bB Q .nil)) (bT Q) (TQ (RS (bY _ Q (eE (.inl Q) Q) (bY _ Q (mL Q Q Q Q) (TN (bP [0,1,6] (bB Q (bB Q (bB Q .nil))) (bT Q) (TC _ Q (λhneg=>?_) (λhneg=>?_)))))))))))))
 ·exact absurd (of_decide_eq_true hneg) (by omega)
 refine TS (WT (bP [0,1] (bB Q (bB Q .nil)) (bT Q) (TQ (RS (bY _ Q (eE (.inl Q) Q) (bY _ Q (eE (.inl Q) Q) (bY _ Q (qDC Q wN Q) (bY _ Q (eE (.inl Q) Q) (bY _ Q (mK Q wN Q) ?_)))))))));refine bY _ Q (sI (r:=0) Q Q Q Q Q (by first|omega|(constructor<;>omega))) ?_;refine bY _ Q (sI (r:=(n:Int)) Q Q Q Q (by omega) (by first|omega|(constructor<;>omega))) ?_;refine bY _ Q (eE (.inr Q) Q) (TN (bP [0,1] (bB Q (bB Q .nil)) (bT Q) (RS (bY _ Q (eE (.inl Q) Q) (bY _ Q (mL Q Q Q Q) (TN (bP [0,1,16] (bB Q (bB Q (bB Q .nil))) (bT Q) (TC _ Q (λhpos=>?_) (λhpos=>?_)))))))))
 ·have hpos:0 < n:=by simpa using hpos
  refine TG (bY _ Q (eE (.inl Q) Q) (bY _ Q (eE (.inl Q) Q) (bY _ Q (qDC Q wN Q) (bY _ Q (qTT Q wN Q Q Q) (bY _ Q (eE (.inl Q) Q) ?_)))));refine qTB (n:=n) Q wN Tryz.underlying3 dD Q Q Q hpos (by decide) (by omega) (by omega) ?_;refine bY _ Q (eE (.inl Q) Q) (bY _ Q (mK Q wN Q) (bY _ Q (qDZ 0 1 8 0 n 0 0 Q wN Q Q Q (zQW _) (Nat.zero_le _)) (bY _ Q (gE (.inr Q) Q) (TN (WT (bP [0] (dE Q .nil) (cN Q (bT Q)) (RS (bY _ Q (gE (.inl Q) Q) (bY _ Q (gE (.inr Q) Q) (TN (bP [4] (dE Q .nil) (cN Q (bT Q)) (TR ?_))))))))))));exact⟨_,[0],res Q,by decide,λi hi=>absurd hi (zQV i),Q,Q⟩
 refine qBN 0 3 1 Q (TS (WT (bP [0] (dE Q .nil) (cN Q (bT Q)) (RS (bY _ Q (gE (.inl Q) Q) (bY _ Q (gE (.inr Q) Q) (TN (bP [4] (dE Q .nil) (cN Q (bT Q)) (TR ?_)))))))));exact⟨_,[0],res Q,by decide,λi hi=>absurd hi (zQV i),Q,Q⟩
theorem rN (xss:List (List Int)) (hn:xss.length<=1000) (ht:xss.flatten.length<=1000000000) (mv:Nat->Bool):Ret TP 204 [] mv ([.sl 1 (xss.map λl=>.sl 1 (l.map (D.int .i64)))].map .d) (.msl 0 1 0 xss.flatten.length) [.flat 3 1 (xss.flatten.map (D.int .i64))]:=by
 refine iH (bA Q) func204 Q ntmps204 Q Q (λwX gX=>bP [0] (bB Q .nil) (bT Q) (RS (bY _ Q (eE (.inr Q) Q) (TN (bP [0] (bB Q .nil) (bT Q) (RS (bY _ Q (eE (.inr Q) Q) (TN (bP [0,3] (bB Q (bB Q .nil)) (bT Q) (TQ (RS (bY _ Q (eE (.inl Q) Q) ?_))))))))))));refine bY _ Q (by first|exact qEM Q qIF Q (by first|exact zQC _|rfl)|exact mK Q qIF Q) ?_;refine bY _ Q (eE (.inl Q) Q) (TN (bP [0,3,9,10,11] (bB Q (bB Q (bB Q (bB Q (bB Q .nil))))) (bT Q) (TB ?_)));refine oP (λi=>([(3,.d (.int .i64 ((eO xss i).length:Int))),(11,.d (.int .i64 ((i:Nat):Int)))])) (λi=>[]) (λi=>i<=xss.length) (λi=>xss.length - i) [3,11] [0,9,10] [] 0 (by decide) (λi hi=>absurd hi (zQV i)) (Nat.zero_le _) (bB Q (bB Q (bB Q .nil))) Q (by rw [oK];rfl) (bT Q) Q ?_;rintro i hok;refine bP [3,11,0,9,10] (bB Q (bB Q (bB Q (bB Q (bB Q .nil))))) (bT Q) (RS (bY _ Q (mL Q Q Q Q) (TN (bP [0,3,9,10,11,12] (bB Q (bB Q (bB Q (bB Q (bB Q (bB Q .nil)))))) (bT Q) (TQ (TC _ Q (λhlt=>?_) (λhlt=>?_)))))))
 ·have hlt:i < xss.length:=by simpa using hlt
  obtain⟨x,hx⟩:∃ x,(xss)[i]?=some x:=⟨_,zQR (by first|exact hlt|omega|(simp;omega))⟩;have hs:=vY hx;have hle:=eK xss (i+1);refine TS (WT (bP [0,3,9,10,11] (bB Q (bB Q (bB Q (bB Q (bB Q .nil))))) (bT Q) (TQ (TB (RS (bY _ Q (uW Q qIF Q Q (qCY hx)) (bY _ Q (yR Q zEW Q Q) (bY _ Q (eE (.inr Q) Q) (TN (bP [0,3,5,9,10,11] (bB Q (bB Q (bB Q (bB Q (bB Q (bB Q .nil)))))) (bT Q) (RS (bY _ Q (eE (.inl Q) Q) (bY _ Q (eE (.inl Q) Q) ?_)))))))))))));refine bY _ Q (by first|exact qEM Q wN Q (by first|exact zQC _|rfl)|exact mK Q wN Q) ?_;refine bY _ Q (sI (r:=((eO xss (i+1)).length:Int)) Q Q Q Q (by rw [hs];simp) (by omega)) ?_;refine bY _ Q (eE (.inr Q) Q) (TN (bP [0,3,9,10,11] (bB Q (bB Q (bB Q (bB Q (bB Q .nil))))) (bT Q) (RS (bY _ Q (eE (.inl Q) Q) (bY _ Q (mL Q Q Q Q) (TN (bP [0,3,9,10,11,20] (bB Q (bB Q (bB Q (bB Q (bB Q (bB Q .nil)))))) (bT Q) (TC _ Q (λhneg=>?_) (λhneg=>?_)))))))))
  ·exact absurd (of_decide_eq_true hneg) (by omega)
  refine TS (WK (WT (bP [0,3,9,10,11] (bB Q (bB Q (bB Q (bB Q (bB Q .nil))))) (bT Q) (TG ?_))));refine bY _ Q (sJ Q Q Q Q (by first|omega|(constructor<;>omega))) ?_;refine bY _ Q (eE (.inl Q) Q) (TN (WT ?_));exact⟨(i+1),[],by decide,(λi hi=>absurd hi (zQV i)),(by omega),(by omega),Q⟩
 have hge:¬ i < xss.length:=by simpa using hlt
 have hi:i=xss.length:=by omega
 refine tY (WX (WX (WH (WT (bP [0,3] (bB Q (bB Q .nil)) (bT Q) (RS (bY _ Q (eE (.inl Q) Q) ?_)))))));refine sR Q Q Q (tS _ (by have:=eK xss i;omega) (λ_=>false)) Q Q ?_;refine bY _ Q (gE (.inr Q) Q) (TN (bP [0,6] (bB Q (dE Q .nil)) (cN Q (bT Q)) (TQ (RS (bY _ Q (eE (.inl Q) Q) ?_)))));refine bY _ Q (by first|exact qEM Q qIF Q (by first|exact zQC _|rfl)|exact mK Q qIF Q) ?_;refine bY _ Q (eE (.inl Q) Q) (TN (bP [6,25,26,27] (dE Q (bB Q (bB Q (bB Q .nil)))) (cN Q (bT Q)) (TB ?_)));refine oP (λi=>([(6,.msl 0 1 0 (eO xss i).length),(27,.d (.int .i64 ((i:Nat):Int)))])) (λi=>([(0,.flat 3 1 ((eO xss i).map (D.int .i64)))])) (λi=>i<=xss.length) (λi=>xss.length - i) [6,27] [25,26] [0] 0 (by decide) (λi hi=>absurd hi (zQV i)) (Nat.zero_le _) (bB Q (bB Q .nil)) Q (by rw [oK];rfl) (cN Q (bT Q)) (by rw [oK];rfl) ?_;rintro i hok;refine bP [6,27,25,26] (dE Q (bB Q (bB Q (bB Q .nil)))) (cN Q (bT Q)) (RS (bY _ Q (mL Q Q Q Q) (TN (bP [6,25,26,27,28] (dE Q (bB Q (bB Q (bB Q (bB Q .nil))))) (cN Q (bT Q)) (TQ (TC _ Q (λhlt=>?_) (λhlt=>?_)))))))
 ·have hlt:i < xss.length:=by simpa using hlt
  obtain⟨x,hx⟩:∃ x,(xss)[i]?=some x:=⟨_,zQR (by first|exact hlt|omega|(simp;omega))⟩;have hs:=vY hx;have hle:=eK xss (i+1);have hsl:(eO xss (i+1)).length=(eO xss i).length+x.length:=by rw [hs];simp
  refine TS (WT (bP [6,25,26,27] (dE Q (bB Q (bB Q (bB Q .nil)))) (cN Q (bT Q)) (TQ (TB (RS (bY _ Q (uW Q qIF Q Q (qCY hx)) (bY _ Q (yR Q zEW Q Q) (bY _ Q (eE (.inr Q) Q) (TN (bP [6,8,25,26,27] (dE Q (bB Q (bB Q (bB Q (bB Q .nil))))) (cN Q (bT Q)) (TG (bY _ Q (gE (.inl Q) Q) (bY _ Q (eE (.inl Q) Q) ?_)))))))))))));refine qDN (m:=(eO xss (i+1)).length) (ds:=x.map (D.int .i64)) (es':=(eO xss (i+1)).map (D.int .i64)) Q wN dD Q Q Q (by simp) (λh=>absurd h (zQV _)) Q ⟨Q,(by first|rfl|(simp [List.map_take,List.map_drop];done)|(rw [<- List.map_drop,List.take_of_length_le (by simp)]))⟩ (by rw [hs];simp) (by simp;omega) (by omega) (by omega) Q Q ?_;refine bY _ Q (gE (.inr Q) Q) (TN (WK (WT (bP [6,25,26,27] (dE Q (bB Q (bB Q (bB Q .nil)))) (cN Q (bT Q)) (TG ?_)))));refine bY _ Q (sJ Q Q Q Q (by first|omega|(constructor<;>omega))) ?_;refine bY _ Q (eE (.inl Q) Q) (TN (WT ?_));exact⟨(i+1),[0],by decide,(λi hi=>absurd hi (zQV i)),(by omega),(by omega),Q⟩
 have hge:¬ i < xss.length:=by simpa using hlt
 have hi:i=xss.length:=by omega
 have hall:=qOX hge;refine tY (WX (WX (WH (WT (bP [6] (dE Q .nil) (cN Q (bT Q)) (RS (bY _ Q (gE (.inl Q) Q) (bY _ Q (gE (.inr Q) Q) (TN (bP [2] (dE Q .nil) (cN Q (bT Q)) (TR ?_)))))))))));rw [hall];exact⟨_,[0],res Q,by decide,λi hi=>absurd hi (zQV i),Q,Q⟩
theorem wG {p0:List (List Int)} {r:List Int} (hm:iC p0=some r):RetN TP 204 [.sl 1 (p0.map (λl=>D.sl 1 (l.map (D.int .i64))))] (.sl 1 (r.map (D.int .i64))):=by
 unfold iC at hm;refine GE hm λg hm=>?_;obtain rfl:=OJ hm;exact .flat (rN p0 g.1 g.2 (λ_=>false)) (by rw [zQC]) (λe he=>by obtain⟨x,_,rfl⟩:=List.mem_map.1 he;rfl)
theorem xE {p0:Al} {p1:Ai} {r:Bool} (hm:eV p0 p1=some r):RetN TP 179 [p0.enc,p1.enc] (.bool (r)):=by
 refine .unit (aK (bA Q) func179 Q ntmps179 Q Q (λwX gX=>?_)) Q;unfold eV at hm;refine WN [0,1] Q Q (aO 1 Q (bQ 0 Q Q Q (bQ 1 Q Q Q (aL 4 Q (aS hm (λx1=>([(26,.d (.bool (x1)))])) (λx1=>[]) [26] [2,3] Q (λz2 hm=>?_) (λx1 hm=>?_))))))
 ·refine aO 5 Q (c_N hm (eF ·) Q Q Q Q λr3 hm=>aF 1 Q (SB TK Q (λq4 hq4=>?_)));cases q4
  ·replace hm:=JB hq4 hm;refine aF 3 Q (SB TK Q (λq5 hq5=>?_));cases q5
   ·replace hm:=eN hq5 hm;exact aD 9 Q (aU [0,1] hm Q Q)
   replace hm:=eM hq5 hm;exact aF 4 Q (c_N hm (eF ·) Q Q Q Q λr6 hm=>aD 4 Q (aU [0,1] hm Q Q))
  replace hm:=JA hq4 hm;exact aD 13 Q (aU [0,1] hm Q Q)
 refine WN [2,3,26] Q Q (bF hm Q (λh7 hm=>?_) (λh7 hm=>?_))
 ·exact aM 6 Q (aR hm Q)
 refine bM 3 Q ?_;refine cF [(42,.d (.bool (((decide ((p1.path.length:Int) < (1:Int)))||((decide ((12:Int) < (p1.path.length:Int)))||(decide ((p1.Ac.length:Int)=(0:Int))))))))] [42] [2,3] Q ?_ ?_
 ·refine aO 3 Q (SX Q Q (aN TK Q Q Q) (aF 1 Q (SB TK Q (λq8 hq8=>?_))));cases q8
  ·refine aF 2 Q (SX Q Q (aN TK Q Q Q) (aF 2 Q (SB TK Q (λq9 hq9=>?_))));cases q9
   ·refine aF 2 Q (SX Q Q (aN TK Q Q Q) (aD 3 Q ?_));exact⟨[0,1],Q,k0,aV (aG (aI (by first|(simp [hq8,hq9];done)|(simp only [hq8,hq9];simp))) Q) Q⟩
   refine aD 6 Q ?_;exact⟨[0,1],Q,k0,aV (aG (aI (by first|(simp [hq8,hq9];done)|(simp only [hq8,hq9];simp))) Q) Q⟩
  refine aD 12 Q ?_;exact⟨[0,1],Q,k0,aV (aG (aI (by first|(simp [hq8];done)|(simp only [hq8];simp))) Q) Q⟩
 refine WN [2,3,42] Q Q (bF hm Q (λh10 hm=>?_) (λh10 hm=>?_))
 ·exact aM 6 Q (aR hm Q)
 refine aQ 3 Q (s_ala (f:=D.bool) (x:=false) 2 23 Q Q zBA Q Q Q (aL 2 Q (bE hm (λb11=>[]) (λb11=>([(2,.flat 281 1 (b11.map D.bool))])) [] [2,3] Q (λz12 hm hz12=>?_) (λb11 hm=>?_))))
 ·refine aO 5 Q (SX Q Q (cI [.tmp 44,.tmp 46] TK Q Q qXI Q Q Q Q Q) (c_N hm (wG ·) Q Q Q Q λr13 hm=>SX Q Q (aN TK Q Q Q) (aL 4 Q (aW hm (λ(x17,b18)=>([(50,.d (.int .i64 x17))])) (λ(x17,b18)=>([(2,.flat 281 1 (b18.map D.bool))])) [50] [2,3,5,48,49] [0,1,2] Q k0 Q Q Q Q Q (λs z19 hm hz19=>?_)))));obtain⟨x17,b18⟩:=s;refine WN [2,3,5,48,49,50] Q Q (bO 5 Q (bJ hm Q (λh20 hm=>?_) (λh20 hm=>?_)))
  ·refine aQ 5 Q (VE hm λe21 he21 hm=>SX Q Q (bD TK Q Q Q Q he21) (aL 5 Q (aS hm (λx22=>([(63,.d (.bool (x22)))])) (λx22=>[]) [63] [2,3,5,7,48,49,50] Q (λz23 hm=>?_) (λx22 hm=>?_))))
   ·refine aO 4 Q (c_N hm (eF ·) Q Q Q Q λr24 hm=>aF 1 Q (SB TK Q (λq25 hq25=>?_)));cases q25
    ·replace hm:=JB hq25 hm;exact aF 1 Q (GE hm λg27 hm=>VE hm λe26 he26 hm=>SX Q Q (zEN Q qUK Q Q he26 g27) (SX Q Q (oN TK Q Q Q Q he26.2 Q) (aD 2 Q (aU [0,1,2] hm Q Q))))
    replace hm:=JA hq25 hm;exact aD 5 Q (aU [0,1,2] hm Q Q)
   refine WN [2,3,5,7,48,49,50,63] Q Q (bF hm Q (λh28 hm=>?_) (λh28 hm=>?_))
   ·refine aM 8 Q (IE hm λv29 hm hz=>?_);rw [hz19 _ hz] at hm;refine WR (bC 1 Q (IE hm λv30 hm hz=>?_));rw [hz12 _ hz] at hm;exact WR (aR hm Q)
   exact aQ 4 Q (GE hm λg32 hm=>VE hm λe31 he31 hm=>SX Q Q (zEN Q qUK Q Q he31 g32) (qIH (x':=true) TK Q Q Q Q Q he31.2 Q Q Q (aF 4 Q (GE hm λg33 hm=>SX Q Q (bL Q Q Q Q g33) (aD 2 Q (aY [0,1,2] hm Q Q))))))
  refine aM 2 Q (IE hm λv34 hm hz=>?_);rw [hz19 _ hz] at hm;exact WX (bC 1 Q (aY [0,1,2] hm Q Q))
 refine WN [2,3] Q Q (aS hm (λx35=>([(4,.d (.bool (x35)))])) (λx35=>[]) [4] [] Q (λz36 hm=>?_) (λx35 hm=>?_))
 ·refine aO 5 Q (c_N hm (eF ·) Q Q Q Q λr37 hm=>SB TK Q (λq38 hq38=>?_));cases q38
  ·replace hm:=JB hq38 hm;exact aD 6 Q (aU [0,1,2] hm Q Q)
  replace hm:=JA hq38 hm;exact aD 6 Q (aU [0,1,2] hm Q Q)
 exact WN [4] Q Q (aM 1 Q (aR hm Q))
theorem oT {p0:(List Int)} {p1:Int} {r:Int} (hm:eW p0 p1=some r):RetN TP 143 [.sl 1 (p0.map (D.int .i64)),.int .i64 p1] (.int .i64 r):=by
 refine .unit (aK (bA Q) func143 Q ntmps143 Q Q (λwX gX=>?_)) Q;unfold eW at hm;refine WN [0,1] Q Q (bO 4 Q (bE hm (λ_=>[]) (λ_=>[]) [] [] Q (λz1 hm hz1=>?_) (λj hm=>?_)))
 ·refine aO 2 Q (SX Q Q (aN TK Q Q Q) (aL 4 Q (aW hm (λx3=>([(8,.d (.int .i64 x3))])) (λx3=>[]) [8] [0,1,7] [] Q k0 Q Q Q Q Q (λx3 z4 hm hz4=>WN [0,1,7,8] Q Q (bO 5 Q (bJ hm Q (λh5 hm=>?_) (λh5 hm=>?_)))))))
  ·refine aQ 13 Q (VE hm λe6 he6 hm=>SX Q Q (bD TK Q Q Q Q he6) (aL 4 Q (bJ hm Q (λh7 hm=>?_) (λh7 hm=>?_))))
   ·refine aM 8 Q (IE hm λv8 hm hz=>?_);rw [hz4 _ hz] at hm;refine WR (bC 1 Q (IE hm λv9 hm hz=>?_));rw [hz1 _ hz] at hm;exact WR (aR hm Q)
   exact aQ 4 Q (GE hm λg10 hm=>SX Q Q (bL Q Q Q Q g10) (aD 2 Q (aY [] hm Q Q)))
  refine aM 2 Q (IE hm λv11 hm hz=>?_);rw [hz4 _ hz] at hm;exact WX (bC 1 Q (aY [] hm Q Q))
 exact WN [] Q Q (aM 5 Q (aR hm Q))
theorem jJ {p0:Al} {p1:Int} {r:Int} (hm:fP p0 p1=some r):RetN TP 82 [p0.enc,.int .i64 p1] (.int .i64 r):=by
 refine .unit (aK (bA Q) func82 Q ntmps82 Q Q (λwX gX=>?_)) Q;unfold fP at hm;exact WN [0,1] Q Q (aO 1 Q (bQ 0 Q Q Q (aF 7 Q (c_N hm (oT ·) Q Q Q Q λr1 hm=>aD 4 Q (aR hm Q)))))
theorem hZ {p0:Al} {p1:(List Aa)} {r:Bool} (hm:cJ p0 p1=some r):RetN TP 180 [p0.enc,.sl 2 (p1.map Aa.enc)] (.bool (r)):=by
 refine .unit (aK (bA Q) func180 Q ntmps180 Q Q (λwX gX=>?_)) Q;unfold cJ at hm;refine WN [0,1] Q Q (aO 1 Q (bQ 0 Q Q Q (aL 3 Q (bE hm (λ_=>[]) (λ_=>[]) [] [] Q (λz1 hm hz1=>?_) (λj hm=>?_)))))
 ·refine aO 2 Q (SX Q Q (aN TK Q Q Q) (aL 4 Q (aW hm (λx3=>([(9,.d (.int .i64 x3))])) (λx3=>[]) [9] [1,2,7,8] [0] Q k0 Q Q Q Q Q (λx3 z4 hm hz4=>WN [1,2,7,8,9] Q Q (bO 5 Q (bJ hm Q (λh5 hm=>?_) (λh5 hm=>?_)))))))
  ·refine aQ 6 Q (VE hm λe6 he6 hm=>SX Q Q (bD TK Q Q Q Q he6) (aF 1 Q (cH 1 Q Q bW Q (aL 5 Q (aS hm (λx7=>([(33,.d (.bool (x7)))])) (λx7=>[]) [33] [1,2,6,7,8,9] Q (λz8 hm=>?_) (λx7 hm=>?_))))))
   ·refine cG follows ?_;iterate 2 (refine DA [0,1] TK Q ?_)
    refine d_b [0,1] TK Q (λq9 hq9=>?_);cases q9
    ·replace hm:=JF hq9 hm;iterate 14 (refine DA [0,1] TK Q ?_)
     refine dQ [0,1] hm (jJ ·) Q Q Q Q λr10 hm=>?_;iterate 2 (refine DA [0,1] TK Q ?_)
     refine DT ?_ (by kernel_rfl);exact aD 1 Q (aU [0,1] hm Q Q)
    replace hm:=JT hq9 hm;iterate 4 (refine DA [0,1] TK Q ?_)
    refine GE hm λg11 hm=>DX [0,1] Q Q (bL Q Q Q Q g11) (VE hm λe12 he12 hm=>DX [0,1] Q Q (bD TK Q Q Q Q he12) ?_);iterate 4 (refine DA [0,1] TK Q ?_)
    refine d_b [0,1] TK Q (λq13 hq13=>?_);cases q13
    ·replace hm:=JF hq13 hm;iterate 3 (refine DA [0,1] TK Q ?_)
     refine dQ [0,1] hm (jJ ·) Q Q Q Q λr14 hm=>?_;iterate 2 (refine DA [0,1] TK Q ?_)
     refine DT ?_ (by kernel_rfl);exact aD 1 Q (aU [0,1] hm Q Q)
    replace hm:=JT hq13 hm;iterate 6 (refine DA [0,1] TK Q ?_)
    refine DT ?_ (by kernel_rfl);exact aD 1 Q (aU [0,1] hm Q Q)
   refine WN [1,2,6,7,8,9,33] Q Q (bF hm Q (λh15 hm=>?_) (λh15 hm=>?_))
   ·refine aM 8 Q (IE hm λv16 hm hz=>?_);rw [hz4 _ hz] at hm;refine WR (bC 1 Q (IE hm λv17 hm hz=>?_));rw [hz1 _ hz] at hm;exact WR (aR hm Q)
   refine bM 2 Q (cF [(41,.d (.bool (((!(decide (e6.pos=(1:Int))))&&(!(decide (e6.pos=(2:Int))))))))] [41] [1,2,7,8,9] Q ?_ ?_)
   ·refine aO 4 Q (SB TK Q (λq18 hq18=>?_));cases q18
    ·refine aD 5 Q ?_;exact⟨[0,1],Q,k0,aV (aG (aI (by first|(simp [hq18];done)|(simp only [hq18];simp))) Q) Q⟩
    refine aD 5 Q ?_;exact⟨[0,1],Q,k0,aV (aG (aI (by first|(simp [hq18];done)|(simp only [hq18];simp))) Q) Q⟩
   refine WN [1,2,7,8,9,41] Q Q (bF hm Q (λh19 hm=>?_) (λh19 hm=>?_))
   ·refine aM 7 Q (IE hm λv20 hm hz=>?_);rw [hz4 _ hz] at hm;refine WR (bC 1 Q (IE hm λv21 hm hz=>?_));rw [hz1 _ hz] at hm;exact WR (aR hm Q)
   exact aQ 4 Q (GE hm λg22 hm=>SX Q Q (bL Q Q Q Q g22) (aD 2 Q (aY [0] hm Q Q)))
  refine aM 2 Q (IE hm λv23 hm hz=>?_);rw [hz4 _ hz] at hm;exact WX (bC 1 Q (aY [0] hm Q Q))
 exact WN [] Q Q (aM 5 Q (aR hm Q))
theorem mB {p0:(List Aa)} {p1:(List Aa)} {r:Bool} (hm:dL p0 p1=some r):RetN TP 181 [.sl 2 (p0.map Aa.enc),.sl 2 (p1.map Aa.enc)] (.bool (r)):=by
 refine .unit (aK (bA Q) func181 Q ntmps181 Q Q (λwX gX=>?_)) Q;unfold dL at hm;refine WN [0,1] Q Q (bO 4 Q (bE hm (λ_=>[]) (λ_=>[]) [] [] Q (λz1 hm hz1=>?_) (λj hm=>?_)))
 ·refine aO 2 Q (SX Q Q (aN TK Q Q Q) (aL 4 Q (aW hm (λx3=>([(11,.d (.int .i64 x3))])) (λx3=>[]) [11] [1,9,10] [] Q k0 Q Q Q Q Q (λx3 z4 hm hz4=>WN [1,9,10,11] Q Q (bO 5 Q (bJ hm Q (λh5 hm=>?_) (λh5 hm=>?_)))))))
  ·refine bM 2 Q (bE hm (λ_=>[]) (λ_=>[]) [] [1,9,10,11] Q (λz6 hm hz6=>?_) (λj hm=>?_))
   ·refine aO 2 Q (VE hm λe7 he7 hm=>SX Q Q (bD TK Q Q Q Q he7) (aF 1 Q (cH 0 Q Q bW Q (aF 5 Q (SX Q Q (aN TK Q Q Q) (aL 4 Q (aW hm (λx9=>([(17,.d (.int .i64 x9))])) (λx9=>[]) [17] [1,6,9,10,11,15,16] [0] Q k0 Q Q Q Q Q (λx9 z10 hm hz10=>WN [1,6,9,10,11,15,16,17] Q Q (bO 5 Q (bJ hm Q (λh11 hm=>?_) (λh11 hm=>?_)))))))))))
    ·refine aQ 5 Q (VE hm λe12 he12 hm=>SX Q Q (bD TK Q Q Q Q he12) (aF 1 Q (cH 1 Q Q bW Q (aL 3 Q (cF [(32,.d (.bool (((decide (e7.el=e12.el))&&(!(decide (e7.pos=e12.pos)))))))] [32] [1,6,9,10,11,15,16,17] Q ?_ ?_)))))
     ·refine aO 6 Q (SB TK Q (λq13 hq13=>?_));cases q13
      ·refine aD 7 Q ?_;exact⟨[0,1],Q,k0,aV (aG (aI (by first|(simp [hq13];done)|(simp only [hq13];simp))) Q) Q⟩
      refine aD 7 Q ?_;exact⟨[0,1],Q,k0,aV (aG (aI (by first|(simp [hq13];done)|(simp only [hq13];simp))) Q) Q⟩
     refine WN [1,6,9,10,11,15,16,17,32] Q Q (bF hm Q (λh14 hm=>?_) (λh14 hm=>?_))
     ·refine aM 7 Q (IE hm λv15 hm hz=>?_);rw [hz10 _ hz] at hm;refine WR (bC 2 Q (IE hm λv16 hm hz=>?_));rw [hz6 _ hz] at hm;refine WR (IE hm λv17 hm hz=>?_);rw [hz4 _ hz] at hm;refine WR (bC 1 Q (IE hm λv18 hm hz=>?_));rw [hz1 _ hz] at hm;exact WR (aR hm Q)
     exact aQ 4 Q (GE hm λg19 hm=>SX Q Q (bL Q Q Q Q g19) (aD 2 Q (aY [0] hm Q Q)))
    refine aM 2 Q (IE hm λv20 hm hz=>?_);rw [hz10 _ hz] at hm;exact WX (bC 2 Q (aY [] hm Q Q))
   exact WN [1,9,10,11] Q Q (aQ 1 Q (GE hm λg21 hm=>SX Q Q (bL Q Q Q Q g21) (aD 2 Q (aY [] hm Q Q))))
  refine aM 2 Q (IE hm λv22 hm hz=>?_);rw [hz4 _ hz] at hm;exact WX (bC 1 Q (aY [] hm Q Q))
 exact WN [] Q Q (aM 5 Q (aR hm Q))
theorem qGI {p0:Al} {r:Int} (hm:mO p0=some r):RetN TP 135 [p0.enc] (.int .i64 r):=by
 refine .unit (aK (bA Q) func135 Q ntmps135 Q Q (λwX gX=>?_)) Q;unfold mO at hm;refine WN [0] Q Q (aO 1 Q (bQ 0 Q Q Q (aL 4 Q (aS hm (λx1=>([(33,.d (.bool (x1)))])) (λx1=>[]) [33] [1] Q (λz2 hm=>?_) (λx1 hm=>?_)))))
 ·refine aO 3 Q (SX Q Q (aN TK Q Q Q) (aF 1 Q (SB TK Q (λq3 hq3=>?_))));cases q3
  ·replace hm:=JF hq3 hm;refine aF 2 Q (SX Q Q (aN TK Q Q Q) (aF 2 Q (SB TK Q (λq4 hq4=>?_))));cases q4
   ·replace hm:=JF hq4 hm;refine aF 2 Q (c_N hm (eF ·) Q Q Q Q λr5 hm=>aF 2 Q (SB TK Q (λq6 hq6=>?_)));cases q6
    ·replace hm:=JB hq6 hm;exact aF 2 Q (c_N hm (eF ·) Q Q Q Q λr7 hm=>aD 3 Q (aU [0] hm Q Q))
    replace hm:=JA hq6 hm;exact aD 6 Q (aU [0] hm Q Q)
   replace hm:=JT hq4 hm;exact aD 12 Q (aU [0] hm Q Q)
  replace hm:=JT hq3 hm;exact aD 18 Q (aU [0] hm Q Q)
 refine WN [1,33] Q Q (bF hm Q (λh8 hm=>?_) (λh8 hm=>?_))
 ·exact aM 6 Q (aR hm Q)
 refine aQ 5 Q (c_N hm (wE ·) Q Q Q Q λr9 hm=>aL 3 Q (bF hm Q (λh10 hm=>?_) (λh10 hm=>?_)))
 ·exact aM 6 Q (aR hm Q)
 refine bM 2 Q (bE hm (λ_=>[]) (λ_=>[]) [] [1] Q (λz11 hm hz11=>?_) (λj hm=>?_))
 ·refine aO 3 Q (SX Q Q (aN TK Q Q Q) (aL 4 Q (aW hm (λx13=>([(40,.d (.int .i64 x13))])) (λx13=>[]) [40] [1,38,39] [0] Q k0 Q Q Q Q Q (λx13 z14 hm hz14=>WN [1,38,39,40] Q Q (bO 5 Q (bJ hm Q (λh15 hm=>?_) (λh15 hm=>?_)))))))
  ·refine aQ 5 Q (VE hm λe16 he16 hm=>SX Q Q (bD TK Q Q Q Q he16) (aF 1 Q (cH 1 Q Q dR Q (cR 1 [none,none,none,some 3,some 2,some 1,none,none,some 3,some 2,some 1,some 2,some 1,some 2] Q Q (aF 6 Q (c_N hm (xE ·) Q Q Q Q λr17 hm=>aL 3 Q (bF hm Q (λh18 hm=>?_) (λh18 hm=>?_))))))))
   ·refine aM 7 Q (IE hm λv19 hm hz=>?_);rw [hz14 _ hz] at hm;refine WR (bC 1 Q (IE hm λv20 hm hz=>?_));rw [hz11 _ hz] at hm;exact WR (aR hm Q)
   exact aQ 4 Q (GE hm λg21 hm=>SX Q Q (bL Q Q Q Q g21) (aD 2 Q (aY [0] hm Q Q)))
  refine aM 2 Q (IE hm λv22 hm hz=>?_);rw [hz14 _ hz] at hm;exact WX (bC 1 Q (aY [0] hm Q Q))
 refine WN [1] Q Q (bE hm (λ_=>[]) (λ_=>[]) [] [1] Q (λz23 hm hz23=>?_) (λj hm=>?_))
 ·refine aO 3 Q (SX Q Q (aN TK Q Q Q) (aL 4 Q (aW hm (λx25=>([(52,.d (.int .i64 x25))])) (λx25=>[]) [52] [1,50,51] [0] Q k0 Q Q Q Q Q (λx25 z26 hm hz26=>WN [1,50,51,52] Q Q (bO 5 Q (bJ hm Q (λh27 hm=>?_) (λh27 hm=>?_)))))))
  ·refine aQ 5 Q (VE hm λe28 he28 hm=>SX Q Q (bD TK Q Q Q Q he28) (aF 1 Q (cH 1 Q Q dR Q (cR 1 [none,none,none,some 3,some 2,some 1,none,none,some 3,some 2,some 1,some 2,some 1,some 2] Q Q (aL 3 Q (aS hm (λx29=>([(74,.d (.bool (x29)))])) (λx29=>[]) [74] [1,50,51,52] Q (λz30 hm=>?_) (λx29 hm=>?_)))))))
   ·refine aO 4 Q (c_N hm (hZ ·) Q Q Q Q λr31 hm=>aF 1 Q (SB TK Q (λq32 hq32=>?_)));cases q32
    ·replace hm:=JB hq32 hm;refine aF 3 Q (c_N hm (hZ ·) Q Q Q Q λr33 hm=>aF 2 Q (SB TK Q (λq34 hq34=>?_)));cases q34
     ·replace hm:=JB hq34 hm;exact aF 3 Q (c_N hm (hZ ·) Q Q Q Q λr35 hm=>aD 3 Q (aU [0,1] hm Q Q))
     replace hm:=JA hq34 hm;exact aD 7 Q (aU [0,1] hm Q Q)
    replace hm:=JA hq32 hm;exact aD 14 Q (aU [0,1] hm Q Q)
   refine WN [1,50,51,52,74] Q Q (bF hm Q (λh36 hm=>?_) (λh36 hm=>?_))
   ·refine aM 7 Q (IE hm λv37 hm hz=>?_);rw [hz26 _ hz] at hm;refine WR (bC 1 Q (IE hm λv38 hm hz=>?_));rw [hz23 _ hz] at hm;exact WR (aR hm Q)
   exact aQ 4 Q (GE hm λg39 hm=>SX Q Q (bL Q Q Q Q g39) (aD 2 Q (aY [0] hm Q Q)))
  refine aM 2 Q (IE hm λv40 hm hz=>?_);rw [hz26 _ hz] at hm;exact WX (bC 1 Q (aY [0] hm Q Q))
 refine WN [1] Q Q (bE hm (λ_=>[]) (λ_=>[]) [] [1] Q (λz41 hm hz41=>?_) (λj hm=>?_))
 ·refine aO 3 Q (SX Q Q (aN TK Q Q Q) (aL 4 Q (aW hm (λx43=>([(79,.d (.int .i64 x43))])) (λx43=>[]) [79] [1,77,78] [0] Q k0 Q Q Q Q Q (λx43 z44 hm hz44=>WN [1,77,78,79] Q Q (bO 5 Q (bJ hm Q (λh45 hm=>?_) (λh45 hm=>?_)))))))
  ·refine aQ 5 Q (VE hm λe46 he46 hm=>SX Q Q (bD TK Q Q Q Q he46) (aF 1 Q (cH 1 Q Q dR Q (cR 1 [none,none,none,some 3,some 2,some 1,none,none,some 3,some 2,some 1,some 2,some 1,some 2] Q Q (aL 3 Q (aS hm (λx47=>([(104,.d (.bool (x47)))])) (λx47=>[]) [104] [1,77,78,79] Q (λz48 hm=>?_) (λx47 hm=>?_)))))))
   ·refine aO 5 Q (c_N hm (mB ·) Q Q Q Q λr49 hm=>aF 1 Q (SB TK Q (λq50 hq50=>?_)));cases q50
    ·replace hm:=JB hq50 hm;refine aF 4 Q (c_N hm (mB ·) Q Q Q Q λr51 hm=>aF 2 Q (SB TK Q (λq52 hq52=>?_)));cases q52
     ·replace hm:=JB hq52 hm;exact aF 4 Q (c_N hm (mB ·) Q Q Q Q λr53 hm=>aD 3 Q (aU [0,1] hm Q Q))
     replace hm:=JA hq52 hm;exact aD 8 Q (aU [0,1] hm Q Q)
    replace hm:=JA hq50 hm;exact aD 16 Q (aU [0,1] hm Q Q)
   refine WN [1,77,78,79,104] Q Q (bF hm Q (λh54 hm=>?_) (λh54 hm=>?_))
   ·refine aM 7 Q (IE hm λv55 hm hz=>?_);rw [hz44 _ hz] at hm;refine WR (bC 1 Q (IE hm λv56 hm hz=>?_));rw [hz41 _ hz] at hm;exact WR (aR hm Q)
   exact aQ 4 Q (GE hm λg57 hm=>SX Q Q (bL Q Q Q Q g57) (aD 2 Q (aY [0] hm Q Q)))
  refine aM 2 Q (IE hm λv58 hm hz=>?_);rw [hz44 _ hz] at hm;exact WX (bC 1 Q (aY [0] hm Q Q))
 refine WN [1] Q Q (aQ 1 Q (vQ 9 4 Q (qGL 106 (.mmap 1) Q Q (aL 3 Q (bE hm (λm59=>[]) (λm59=>([(1,.map 9 4 (dB D.str D.bool m59))])) [] [] Q (λz60 hm hz60=>?_) (λm59 hm=>?_))))))
 ·refine aO 3 Q (SX Q Q (aN TK Q Q Q) (aL 4 Q (aW hm (λ(x64,b65)=>([(110,.d (.int .i64 x64))])) (λ(x64,b65)=>([(1,.map 9 4 (dB D.str D.bool b65))])) [110] [9,108,109] [0,1] Q k0 Q Q Q Q Q (λs z66 hm hz66=>?_))));obtain⟨x64,b65⟩:=s;refine WN [9,108,109,110] Q Q (bO 5 Q (bJ hm Q (λh67 hm=>?_) (λh67 hm=>?_)))
  ·refine aQ 5 Q (VE hm λe68 he68 hm=>SX Q Q (bD TK Q Q Q Q he68) (aF 1 Q (cH 2 Q Q dR Q (cR 2 [none,none,none,some 3,some 2,some 1,none,none,some 3,some 2,some 1,some 2,some 1,some 2] Q Q (aF 8 Q (GE hm λg69 hm=>SX Q Q (vL qOK D.bool _ _ false Q qZD qLY Q Q Q Q g69) (aL 2 Q (bF hm Q (λh70 hm=>?_) (λh70 hm=>?_)))))))))
   ·refine aM 8 Q (IE hm λv71 hm hz=>?_);rw [hz66 _ hz] at hm;refine WR (bC 1 Q (IE hm λv72 hm hz=>?_));rw [hz60 _ hz] at hm;exact WR (aR hm Q)
   exact aQ 6 Q (GE hm λg73 hm=>qJN qOK D.bool qZD Q Q Q Q g73 (aF 4 Q (GE hm λg74 hm=>SX Q Q (bL Q Q Q Q g74) (aD 2 Q (aY [0,1] hm Q Q)))))
  refine aM 2 Q (IE hm λv75 hm hz=>?_);rw [hz66 _ hz] at hm;exact WX (bC 1 Q (aY [0,1] hm Q Q))
 exact WN [] Q Q (aM 5 Q (aR hm Q))
theorem yQ {p0:Ak} {p1:Int} {r:Bool} (hm:gZ p0 p1=some r):RetN TP 136 [p0.enc,.int .i64 p1] (.bool (r)):=by
 refine .unit (aK (bA Q) func136 Q ntmps136 Q Q (λwX gX=>?_)) Q;unfold gZ at hm;refine WN [0,1] Q Q (aO 1 Q (bQ 0 Q Q Q (aL 10 Q (aS hm (λx1=>([(7,.d (.bool (x1)))])) (λx1=>[]) [7] [1,2,6] Q (λz2 hm=>?_) (λx1 hm=>?_)))))
 ·refine bO 5 Q (bJ hm Q (λh3 hm=>?_) (λh3 hm=>?_))
  ·exact aM 1 Q (aU [0] hm Q Q)
  refine bM 5 Q (bJ hm Q (λh4 hm=>?_) (λh4 hm=>?_))
  ·exact aM 1 Q (aU [0] hm Q Q)
  exact aM 4 Q (aU [0] hm Q Q)
 refine WN [1,2,6,7] Q Q (bF hm Q (λh5 hm=>?_) (λh5 hm=>?_))
 ·refine cF [(4,.d (.bool (((decide (p0.rel=(0:Int)))&&(decide (p0.timer=(0:Int)))))))] [4] [] Q ?_ ?_
  ·refine aO 4 Q (SB TK Q (λq6 hq6=>?_));cases q6
   ·refine aD 6 Q ?_;exact⟨[0],Q,k0,aV (aG (aI (by first|(simp [hq6];done)|(simp only [hq6];simp))) Q) Q⟩
   refine aD 6 Q ?_;exact⟨[0],Q,k0,aV (aG (aI (by first|(simp [hq6];done)|(simp only [hq6];simp))) Q) Q⟩
  exact WN [4] Q Q (aM 3 Q (aR hm Q))
 refine bM 5 Q (bJ hm Q (λh7 hm=>?_) (λh7 hm=>?_))
 ·refine bM 1 Q ?_;refine cF [(29,.d (.bool (((decide (p0.rel < (0:Int)))||(decide (p1<=p0.rel))))))] [29] [1,2] Q ?_ ?_
  ·refine aO 4 Q (SB TK Q (λq8 hq8=>?_));cases q8
   ·refine aD 6 Q ?_;exact⟨[0],Q,k0,aV (aG (aI (by first|(simp [hq8];done)|(simp only [hq8];simp))) Q) Q⟩
   refine aD 6 Q ?_;exact⟨[0],Q,k0,aV (aG (aI (by first|(simp [hq8];done)|(simp only [hq8];simp))) Q) Q⟩
  refine WN [1,2,29] Q Q (bF hm Q (λh9 hm=>?_) (λh9 hm=>?_))
  ·exact aM 8 Q (aR hm Q)
  refine bM 2 Q (aS hm (λx10=>([(4,.d (.bool (x10)))])) (λx10=>[]) [4] [] Q (λz11 hm=>?_) (λx10 hm=>?_))
  ·refine aO 4 Q (SB TK Q (λq12 hq12=>?_));cases q12
   ·replace hm:=JF hq12 hm;refine aF 3 Q (GE hm λg13 hm=>SX Q Q (bL Q Q Q Q g13) (aF 1 Q (SB TK Q (λq14 hq14=>?_))));cases q14
    ·replace hm:=JF hq14 hm;exact aD 12 Q (aU [0] hm Q Q)
    replace hm:=JT hq14 hm;refine aF 4 Q (SB TK Q (λq15 hq15=>?_));cases q15
    ·replace hm:=JF hq15 hm;exact aD 7 Q (aU [0] hm Q Q)
    replace hm:=JT hq15 hm;exact aD 7 Q (aU [0] hm Q Q)
   replace hm:=JT hq12 hm;exact aD 18 Q (aU [0] hm Q Q)
  exact WN [4] Q Q (aM 3 Q (aR hm Q))
 refine bM 5 Q (bJ hm Q (λh16 hm=>?_) (λh16 hm=>?_))
 ·refine cF [(4,.d (.bool (((decide ((0:Int)<=p0.rel))&&((decide (p0.rel < p1))&&((decide ((0:Int)<=p0.timer))&&(decide (p0.timer < (12:Int)))))))))] [4] [] Q ?_ ?_
  ·refine aO 4 Q (SB TK Q (λq17 hq17=>?_));cases q17
   ·refine aD 17 Q ?_;exact⟨[0],Q,k0,aV (aG (aI (by first|(simp [hq17];done)|(simp only [hq17];simp))) Q) Q⟩
   refine aF 5 Q (SB TK Q (λq18 hq18=>?_));cases q18
   ·refine aD 11 Q ?_;exact⟨[0],Q,k0,aV (aG (aI (by first|(simp [hq17,hq18];done)|(simp only [hq17,hq18];simp))) Q) Q⟩
   refine aF 4 Q (SB TK Q (λq19 hq19=>?_));cases q19
   ·refine aD 6 Q ?_;exact⟨[0],Q,k0,aV (aG (aI (by first|(simp [hq17,hq18,hq19];done)|(simp only [hq17,hq18,hq19];simp))) Q) Q⟩
   refine aD 6 Q ?_;exact⟨[0],Q,k0,aV (aG (aI (by first|(simp [hq17,hq18,hq19];done)|(simp only [hq17,hq18,hq19];simp))) Q) Q⟩
  exact WN [4] Q Q (aM 3 Q (aR hm Q))
 exact aM 8 Q (aR hm Q)
theorem qLA {p0:Al} {p1:Az} {r:Bool} (hm:pS p0 p1=some r):RetN TP 78 [p0.enc,p1.enc] (.bool (r)):=by
 refine .unit (aK (bA Q) func78 Q ntmps78 Q Q (λwX gX=>?_)) Q;unfold pS at hm;refine WN [0,1] Q Q (aO 1 Q (bQ 0 Q Q Q (bQ 1 Q Q Q (aL 4 Q (aS hm (λx1=>([(29,.d (.bool (x1)))])) (λx1=>[]) [29] [2,3] Q (λz2 hm=>?_) (λx1 hm=>?_))))))
 ·refine aO 2 Q (c_N hm (qGI ·) Q Q Q Q λr3 hm=>aF 1 Q (SB TK Q (λq4 hq4=>?_)));cases q4
  ·replace hm:=eN hq4 hm;refine aF 2 Q (SX Q Q (aN TK Q Q Q) (aF 2 Q (SX Q Q (aN TK Q Q Q) (aF 2 Q (SB TK Q (λq5 hq5=>?_))))));cases q5
   ·replace hm:=eN hq5 hm;exact aF 2 Q (SX Q Q (aN TK Q Q Q) (aF 2 Q (SX Q Q (aN TK Q Q Q) (aD 3 Q (aU [0,1] hm Q Q)))))
   replace hm:=eM hq5 hm;exact aD 9 Q (aU [0,1] hm Q Q)
  replace hm:=eM hq4 hm;exact aD 18 Q (aU [0,1] hm Q Q)
 refine WN [2,3,29] Q Q (bF hm Q (λh6 hm=>?_) (λh6 hm=>?_))
 ·exact aM 6 Q (aR hm Q)
 refine bM 2 Q (bE hm (λ_=>[]) (λ_=>[]) [] [3] Q (λz7 hm hz7=>?_) (λj hm=>?_))
 ·refine aO 3 Q (SX Q Q (aN TK Q Q Q) (aL 4 Q (aW hm (λx9=>([(33,.d (.int .i64 x9))])) (λx9=>[]) [33] [2,3,31,32] [0,1] Q k0 Q Q Q Q Q (λx9 z10 hm hz10=>WN [2,3,31,32,33] Q Q (bO 5 Q (bJ hm Q (λh11 hm=>?_) (λh11 hm=>?_)))))))
  ·refine aQ 6 Q (VE hm λe12 he12 hm=>SX Q Q (bD TK Q Q Q Q he12) (aF 1 Q (cH 2 Q Q qSS Q (aL 4 Q (bI follows ?_)))));iterate 4 (refine DA [0,1,2] TK Q ?_)
   refine VE hm λe13 he13 hm=>DX [0,1,2] Q Q (bD TK Q Q Q Q he13) ?_;iterate 2 (refine DA [0,1,2] TK Q ?_)
   refine DX [0,1,2] Q Q (aN TK Q Q Q) (dQ [0,1,2] hm (yQ ·) Q Q Q Q λr14 hm=>DA [0,1,2] TK Q ?_);refine DT ?_ (by kernel_rfl);refine aL 2 Q (WN [2,3,31,32,33,47] Q Q (bF hm Q (λh15 hm=>?_) (λh15 hm=>?_)))
   ·refine aM 7 Q (IE hm λv16 hm hz=>?_);rw [hz10 _ hz] at hm;refine WR (bC 1 Q (IE hm λv17 hm hz=>?_));rw [hz7 _ hz] at hm;exact WR (aR hm Q)
   exact aQ 4 Q (GE hm λg18 hm=>SX Q Q (bL Q Q Q Q g18) (aD 2 Q (aY [0,1] hm Q Q)))
  refine aM 2 Q (IE hm λv19 hm hz=>?_);rw [hz10 _ hz] at hm;exact WX (bC 1 Q (aY [0,1] hm Q Q))
 refine WN [3] Q Q (bE hm (λ_=>[]) (λ_=>[]) [] [] Q (λz20 hm hz20=>?_) (λj hm=>?_))
 ·refine aO 3 Q (SX Q Q (aN TK Q Q Q) (aL 4 Q (aW hm (λx22=>([(52,.d (.int .i64 x22))])) (λx22=>[]) [52] [50,51] [0,1] Q k0 Q Q Q Q Q (λx22 z23 hm hz23=>WN [50,51,52] Q Q (bO 5 Q (bJ hm Q (λh24 hm=>?_) (λh24 hm=>?_)))))))
  ·refine aQ 5 Q (VE hm λe25 he25 hm=>SX Q Q (bD TK Q Q Q Q he25) (aL 4 Q (cF [(61,.d (.bool (((!(decide (e25=(1:Int))))&&(!(decide (e25=(2:Int))))))))] [61] [50,51,52] Q ?_ ?_)))
   ·refine aO 3 Q (SB TK Q (λq26 hq26=>?_));cases q26
    ·refine aD 4 Q ?_;exact⟨[0,1],Q,k0,aV (aG (aI (by first|(simp [hq26];done)|(simp only [hq26];simp))) Q) Q⟩
    refine aD 4 Q ?_;exact⟨[0,1],Q,k0,aV (aG (aI (by first|(simp [hq26];done)|(simp only [hq26];simp))) Q) Q⟩
   refine WN [50,51,52,61] Q Q (bF hm Q (λh27 hm=>?_) (λh27 hm=>?_))
   ·refine aM 7 Q (IE hm λv28 hm hz=>?_);rw [hz23 _ hz] at hm;refine WR (bC 1 Q (IE hm λv29 hm hz=>?_));rw [hz20 _ hz] at hm;exact WR (aR hm Q)
   exact aQ 4 Q (GE hm λg30 hm=>SX Q Q (bL Q Q Q Q g30) (aD 2 Q (aY [0,1] hm Q Q)))
  refine aM 2 Q (IE hm λv31 hm hz=>?_);rw [hz23 _ hz] at hm;exact WX (bC 1 Q (aY [0,1] hm Q Q))
 exact WN [] Q Q (aM 5 Q (aR hm Q))
theorem qKY {p0:Ai} {p1:Ak} {r:(List Int)} (hm:pQ p0 p1=some r):RetD TP 137 [p0.enc,p1.enc] (.sl 1 (r.map (D.int .i64))):=by
 refine .of (mv:=λ_=>false) (aK (bA Q) func137 Q ntmps137 Q Q (λwX gX=>?_));unfold pQ at hm;refine WN [0,1] Q Q (aO 1 Q (bQ 0 Q Q Q (bQ 1 Q Q Q (aL 10 Q (bJ hm Q (λh1 hm=>?_) (λh1 hm=>?_))))))
 ·refine bM 4 Q (vI 4 [some 1] Q (aM 2 Q ?_));obtain rfl:=OJ hm;exact EndsS.one _ Q (.d _) (.refl _)
 refine aQ 7 Q (GE hm λg2 hm=>SX Q Q (xT TK Q Q Q Q Q g2) (c_D hm (oU ·) Q Q Q Q λr3 hm=>aD 4 Q ?_));obtain rfl:=OJ hm;exact EndsS.one _ Q (.d _) (.refl _)
theorem qKZ {p0:Ai} {p1:Ak} {r:(List Int)} (hm:pR p0 p1=some r):RetD TP 138 [p0.enc,p1.enc] (.sl 1 (r.map (D.int .i64))):=by
 refine .of (mv:=λ_=>false) (aK (bA Q) func138 Q ntmps138 Q Q (λwX gX=>?_));unfold pR at hm;refine WN [0,1] Q Q (aO 1 Q (bQ 0 Q Q Q (bQ 1 Q Q Q (aL 10 Q (bJ hm Q (λh1 hm=>?_) (λh1 hm=>?_))))))
 ·refine bM 4 Q (vI 4 [some 1] Q (aM 2 Q ?_));obtain rfl:=OJ hm;exact EndsS.one _ Q (.d _) (.refl _)
 refine aQ 5 Q (c_D hm (oU ·) Q Q Q Q λr2 hm=>aD 4 Q ?_);obtain rfl:=OJ hm;exact EndsS.one _ Q (.d _) (.refl _)
theorem qEJ {p0:Ai} {p1:Ak} {r:(List Aq)} (hm:lI p0 p1=some r):RetD TP 79 [p0.enc,p1.enc] (.sl 2 (r.map Aq.enc)):=by
 refine .of (mv:=λ_=>false) (aK (bA Q) func79 Q ntmps79 Q Q (λwX gX=>?_));unfold lI at hm;refine WN [0,1] Q Q (aO 1 Q (bQ 0 Q Q Q (bQ 1 Q Q Q (aF 4 Q (cS (f:=Aq.enc) 2 224 2 Q Q Q (aL 2 Q (aS hm (λb1=>([(5,.msl 2 2 0 b1.length)])) (λb1=>([(2,.flat 224 2 (b1.map Aq.enc))])) [5] [2,3] Q (λz2 hm=>?_) (λb1 hm=>?_))))))))
 ·refine aO 3 Q (c_D hm (qKY ·) Q Q Q Q λr3 hm=>SX Q Q (aN TK Q Q Q) (aL 4 Q (aW hm (λ(x7,b8)=>([(5,.msl 2 2 0 b8.length),(14,.d (.int .i64 x7))])) (λ(x7,b8)=>([(2,.flat 224 2 (b8.map Aq.enc))])) [5,14] [2,3,12,13] [0,1,2] Q k0 Q Q Q Q Q (λs z9 hm hz9=>?_))));obtain⟨x7,b8⟩:=s;refine WN [2,3,5,12,13,14] Q Q (bO 5 Q (bJ hm Q (λh10 hm=>?_) (λh10 hm=>?_)))
  ·exact aQ 5 Q (VE hm λe11 he11 hm=>SX Q Q (bD TK Q Q Q Q he11) (aF 7 Q (SX Q Q (qLR Q qKM nS Q Q Q Q) (SX Q Q (cI [.tmp 20] TK Q Q nS Q Q Q Q Q) (GE hm λg12 hm=>cK (f:=Aq.enc) ([(⟨e11,(0:Int)⟩:Aq)]:List Aq) TK Q Q nS Q Q Q Q Q (λh=>absurd h (zQV _)) Q cC g12 Q Q (aF 5 Q (GE hm λg13 hm=>SX Q Q (bL Q Q Q Q g13) (aD 2 Q (aY [0,1,2] hm Q Q)))))))))
  refine aM 2 Q (IE hm λv14 hm hz=>?_);rw [hz9 _ hz] at hm;exact WX (bC 1 Q (aU [0,1,2] hm Q Q))
 refine WN [2,3,5] Q Q (aS hm (λb15=>([(5,.msl 2 2 0 b15.length)])) (λb15=>([(2,.flat 224 2 (b15.map Aq.enc))])) [5] [] Q (λz16 hm=>?_) (λb15 hm=>?_))
 ·refine aO 3 Q (c_D hm (qKZ ·) Q Q Q Q λr17 hm=>SX Q Q (aN TK Q Q Q) (aL 4 Q (aW hm (λ(x21,b22)=>([(5,.msl 2 2 0 b22.length),(28,.d (.int .i64 x21))])) (λ(x21,b22)=>([(2,.flat 224 2 (b22.map Aq.enc))])) [5,28] [26,27] [0,1,2] Q k0 Q Q Q Q Q (λs z23 hm hz23=>?_))));obtain⟨x21,b22⟩:=s;refine WN [5,26,27,28] Q Q (bO 5 Q (bJ hm Q (λh24 hm=>?_) (λh24 hm=>?_)))
  ·exact aQ 5 Q (VE hm λe25 he25 hm=>SX Q Q (bD TK Q Q Q Q he25) (aF 7 Q (SX Q Q (qLR Q qKM nS Q Q Q Q) (SX Q Q (cI [.tmp 34] TK Q Q nS Q Q Q Q Q) (GE hm λg26 hm=>cK (f:=Aq.enc) ([(⟨e25,(1:Int)⟩:Aq)]:List Aq) TK Q Q nS Q Q Q Q Q (λh=>absurd h (zQV _)) Q cC g26 Q Q (aF 5 Q (GE hm λg27 hm=>SX Q Q (bL Q Q Q Q g27) (aD 2 Q (aY [0,1,2] hm Q Q)))))))))
  refine aM 2 Q (IE hm λv28 hm hz=>?_);rw [hz23 _ hz] at hm;exact WX (bC 1 Q (aU [0,1,2] hm Q Q))
 refine WN [5] Q Q (aM 6 Q ?_);obtain rfl:=OJ hm;exact EndsS.one _ Q (bS Q) (.refl _)
theorem pW {p0:Ai} {p1:Ai} {r:Bool} (hm:gH p0 p1=some r):RetN TP 139 [p0.enc,p1.enc] (.bool (r)):=by
 refine .unit (aK (bA Q) func139 Q ntmps139 Q Q (λwX gX=>?_)) Q;unfold gH at hm;refine WN [0,1] Q Q (aO 1 Q (bQ 0 Q Q Q (bQ 1 Q Q Q (aL 3 Q (cF [(4,.d (.bool (((decide ((0:Int)<=p0.exit))&&(decide (p1.entry=p0.exit))))))] [4] [] Q ?_ ?_)))))
 ·refine aO 4 Q (SB TK Q (λq1 hq1=>?_));cases q1
  ·refine aD 8 Q ?_;exact⟨[0,1],Q,k0,aV (aG (aI (by first|(simp [hq1];done)|(simp only [hq1];simp))) Q) Q⟩
  refine aD 8 Q ?_;exact⟨[0,1],Q,k0,aV (aG (aI (by first|(simp [hq1];done)|(simp only [hq1];simp))) Q) Q⟩
 exact WN [4] Q Q (aM 1 Q (aR hm Q))
theorem qBV {p0:(List Aq)} {p1:Int} {p2:Int} {r:Bool} (hm:oJ p0 p1 p2=some r):RetN TP 140 [.sl 2 (p0.map Aq.enc),.int .i64 p1,.int .i64 p2] (.bool (r)):=by
 refine .unit (aK (bA Q) func140 Q ntmps140 Q Q (λwX gX=>?_)) Q;unfold oJ at hm;refine WN [0,1,2] Q Q (bO 4 Q (bE hm (λ_=>[]) (λ_=>[]) [] [] Q (λz1 hm hz1=>?_) (λj hm=>?_)))
 ·refine aO 2 Q (SX Q Q (aN TK Q Q Q) (aL 4 Q (aW hm (λx3=>([(11,.d (.int .i64 x3))])) (λx3=>[]) [11] [1,2,9,10] [] Q k0 Q Q Q Q Q (λx3 z4 hm hz4=>WN [1,2,9,10,11] Q Q (bO 5 Q (bJ hm Q (λh5 hm=>?_) (λh5 hm=>?_)))))))
  ·refine aQ 5 Q (VE hm λe6 he6 hm=>SX Q Q (bD TK Q Q Q Q he6) (aF 1 Q (cH 0 Q Q nS Q (aF 7 Q (SX Q Q (qLR Q qKM nS Q Q Q Q) (GE hm λg7 hm=>SX Q Q (qXE Q Q Q g7.1 g7.2) (aL 2 Q (bJ hm Q (λh9 hm=>?_) (λh9 hm=>?_)))))))))
   ·refine aM 7 Q (IE hm λv10 hm hz=>?_);rw [hz4 _ hz] at hm;refine WR (bC 1 Q (IE hm λv11 hm hz=>?_));rw [hz1 _ hz] at hm;exact WR (aR hm Q)
   exact aQ 4 Q (GE hm λg12 hm=>SX Q Q (bL Q Q Q Q g12) (aD 2 Q (aY [] hm Q Q)))
  refine aM 2 Q (IE hm λv13 hm hz=>?_);rw [hz4 _ hz] at hm;exact WX (bC 1 Q (aY [] hm Q Q))
 exact WN [] Q Q (aM 5 Q (aR hm Q))
theorem qHR {p0:Ai} {p1:Ai} {p2:(List Aq)} {p3:(List Aq)} {r:Bool} (hm:kP p0 p1 p2 p3=some r):RetN TP 80 [p0.enc,p1.enc,.sl 2 (p2.map Aq.enc),.sl 2 (p3.map Aq.enc)] (.bool (r)):=by
 refine .unit (aK (bA Q) func80 Q ntmps80 Q Q (λwX gX=>?_)) Q;unfold kP at hm;refine WN [0,1,2,3] Q Q (aO 1 Q (bQ 0 Q Q Q (bQ 1 Q Q Q (aL 3 Q (bI follows ?_)))));iterate 2 (refine DA [0,1] TK Q ?_)
 refine dQ [0,1] hm (pW ·) Q Q Q Q λr1 hm=>?_;iterate 2 (refine DA [0,1] TK Q ?_)
 refine dQ [0,1] hm (pW ·) Q Q Q Q λr2 hm=>?_;refine DT ?_ (by kernel_rfl);refine aL 4 Q (bE hm (λ_=>[]) (λ_=>[]) [] [] Q (λz3 hm hz3=>?_) (λj hm=>?_))
 ·refine aO 2 Q (SX Q Q (aN TK Q Q Q) (aL 4 Q (aW hm (λx5=>([(21,.d (.int .i64 x5))])) (λx5=>[]) [21] [3,9,10,19,20] [0,1] Q k0 Q Q Q Q Q (λx5 z6 hm hz6=>WN [3,9,10,19,20,21] Q Q (bO 5 Q (bJ hm Q (λh7 hm=>?_) (λh7 hm=>?_)))))))
  ·refine aQ 5 Q (VE hm λe8 he8 hm=>SX Q Q (bD TK Q Q Q Q he8) (aF 1 Q (cH 2 Q Q nS Q (aL 4 Q (aS hm (λx9=>([(37,.d (.bool (x9)))])) (λx9=>[]) [37] [3,9,10,12,19,20,21] Q (λz10 hm=>?_) (λx9 hm=>?_))))))
   ·refine aO 2 Q ?_;refine SX Q Q (dC Q qDF Q Q (by decide) (by decide) Q) ?_;refine aF 1 Q (c_N hm (qBV ·) Q Q Q Q λr11 hm=>SB TK Q (λq12 hq12=>?_));cases q12
    ·replace hm:=JB hq12 hm;exact aD 9 Q (aU [0,1,2] hm Q Q)
    replace hm:=JA hq12 hm;refine SX Q Q (dC Q qDF Q Q (by decide) (by decide) Q) ?_;refine aF 2 Q (SB TK Q (λq13 hq13=>?_));cases q13
    ·replace hm:=JF hq13 hm;exact aD 5 Q (aU [0,1,2] hm Q Q)
    replace hm:=JT hq13 hm;exact aD 5 Q (aU [0,1,2] hm Q Q)
   refine WN [3,9,10,12,19,20,21,37] Q Q (bF hm Q (λh14 hm=>?_) (λh14 hm=>?_))
   ·refine aM 8 Q (IE hm λv15 hm hz=>?_);rw [hz6 _ hz] at hm;refine WR (bC 1 Q (IE hm λv16 hm hz=>?_));rw [hz3 _ hz] at hm;exact WR (aR hm Q)
   refine bM 2 Q (aS hm (λx17=>([(54,.d (.bool (x17)))])) (λx17=>[]) [54] [3,9,10,19,20,21] Q (λz18 hm=>?_) (λx17 hm=>?_))
   ·refine aO 2 Q ?_;refine SX Q Q (dC Q qDF Q Q (by decide) (by decide) Q) ?_;refine aF 1 Q (c_N hm (qBV ·) Q Q Q Q λr19 hm=>SB TK Q (λq20 hq20=>?_));cases q20
    ·replace hm:=JB hq20 hm;exact aD 13 Q (aU [0,1,2] hm Q Q)
    replace hm:=JA hq20 hm;refine aF 3 Q (SB TK Q (λq21 hq21=>?_));cases q21
    ·replace hm:=JB hq21 hm;exact aD 9 Q (aU [0,1,2] hm Q Q)
    replace hm:=JA hq21 hm;refine SX Q Q (dC Q qDF Q Q (by decide) (by decide) Q) ?_;refine aF 2 Q (SB TK Q (λq22 hq22=>?_));cases q22
    ·replace hm:=JF hq22 hm;exact aD 5 Q (aU [0,1,2] hm Q Q)
    replace hm:=JT hq22 hm;exact aD 5 Q (aU [0,1,2] hm Q Q)
   refine WN [3,9,10,19,20,21,54] Q Q (bF hm Q (λh23 hm=>?_) (λh23 hm=>?_))
   ·refine aM 7 Q (IE hm λv24 hm hz=>?_);rw [hz6 _ hz] at hm;refine WR (bC 1 Q (IE hm λv25 hm hz=>?_));rw [hz3 _ hz] at hm;exact WR (aR hm Q)
   exact aQ 4 Q (GE hm λg26 hm=>SX Q Q (bL Q Q Q Q g26) (aD 2 Q (aY [0,1] hm Q Q)))
  refine aM 2 Q (IE hm λv27 hm hz=>?_);rw [hz6 _ hz] at hm;exact WX (bC 1 Q (aY [0,1] hm Q Q))
 exact WN [] Q Q (aM 5 Q (aR hm Q))
theorem tR {p0:(List Int)} {p1:Int} {r:Bool} (hm:eQ p0 p1=some r):RetN TP 182 [.sl 1 (p0.map (D.int .i64)),.int .i64 p1] (.bool (r)):=by
 refine .unit (aK (bA Q) func182 Q ntmps182 Q Q (λwX gX=>?_)) Q;unfold eQ at hm;exact WN [0,1] Q Q (aO 7 Q (c_N hm (oT ·) Q Q Q Q λr1 hm=>aD 5 Q (aR hm Q)))
theorem qOR {p0:(List Int)} {p1:Int} {r:Bool} (hm:sD p0 p1=some r):RetN TP 141 [.sl 1 (p0.map (D.int .i64)),.int .i64 p1] (.bool (r)):=by
 refine .unit (aK (bA Q) func141 Q ntmps141 Q Q (λwX gX=>?_)) Q;unfold sD at hm;exact WN [0,1] Q Q (aO 7 Q (c_N hm (tR ·) Q Q Q Q λr1 hm=>aD 4 Q (aR hm Q)))
theorem qE (n:Nat) (hn:n<=1000000000) (mv:Nat->Bool):Ret TP 205 [] mv ([.nilsl,.int .i64 n].map .d) (.msl 0 2 0 0) [.flat 126 2 []]:=by
 refine iH (bA Q) func205 Q ntmps205 Q Q (λwX gX=>bP [0,1] (bB Q (bB Q .nil)) (bT Q) (RS (bY _ Q (eE (.inr Q) Q) (TN (bP [0,1] (bB Q (bB Q .nil)) (bT Q) (TQ (RS (bY _ Q (eE (.inl Q) Q) (bY _ Q (mL Q Q Q Q) (TN (bP [0,1,6] (bB Q (bB Q (bB Q .nil))) (bT Q) (TC _ Q (λhneg=>?_) (λhneg=>?_)))))))))))))
 ·exact absurd (of_decide_eq_true hneg) (by omega)
 refine TS (WT (bP [0,1] (bB Q (bB Q .nil)) (bT Q) (TQ (RS (bY _ Q (eE (.inl Q) Q) (bY _ Q (eE (.inl Q) Q) (bY _ Q (qDC Q qZ Q) (bY _ Q (eE (.inl Q) Q) (bY _ Q (mK Q qZ Q) ?_)))))))));refine bY _ Q (sI (r:=0) Q Q Q Q Q (by first|omega|(constructor<;>omega))) ?_;refine bY _ Q (sI (r:=(n:Int)) Q Q Q Q (by omega) (by first|omega|(constructor<;>omega))) ?_;refine bY _ Q (eE (.inr Q) Q) (TN (bP [0,1] (bB Q (bB Q .nil)) (bT Q) (RS (bY _ Q (eE (.inl Q) Q) (bY _ Q (mL Q Q Q Q) (TN (bP [0,1,16] (bB Q (bB Q (bB Q .nil))) (bT Q) (TC _ Q (λhpos=>?_) (λhpos=>?_)))))))))
 ·have hpos:0 < n:=by simpa using hpos
  refine TG (bY _ Q (eE (.inl Q) Q) (bY _ Q (eE (.inl Q) Q) (bY _ Q (qDC Q qZ Q) (bY _ Q (qTT Q qZ Q Q Q) (bY _ Q (eE (.inl Q) Q) ?_)))));refine qTB (n:=n) Q qZ Tryz.underlying3 bW Q Q Q hpos (by decide) (by omega) (by omega) ?_;refine bY _ Q (eE (.inl Q) Q) (bY _ Q (mK Q qZ Q) (bY _ Q (qDZ 0 2 16 0 n 0 0 Q qZ Q Q Q (zQW _) (Nat.zero_le _)) (bY _ Q (gE (.inr Q) Q) (TN (WT (bP [0] (dE Q .nil) (cN Q (bT Q)) (RS (bY _ Q (gE (.inl Q) Q) (bY _ Q (gE (.inr Q) Q) (TN (bP [4] (dE Q .nil) (cN Q (bT Q)) (TR ?_))))))))))));exact⟨_,[0],res Q,by decide,λi hi=>absurd hi (zQV i),Q,Q⟩
 refine qBN 0 126 2 Q (TS (WT (bP [0] (dE Q .nil) (cN Q (bT Q)) (RS (bY _ Q (gE (.inl Q) Q) (bY _ Q (gE (.inr Q) Q) (TN (bP [4] (dE Q .nil) (cN Q (bT Q)) (TR ?_)))))))));exact⟨_,[0],res Q,by decide,λi hi=>absurd hi (zQV i),Q,Q⟩
theorem nW (xss:List (List Aa)) (hn:xss.length<=1000) (ht:xss.flatten.length<=1000000000) (mv:Nat->Bool):Ret TP 183 [] mv ([.sl 1 (xss.map λl=>.sl 2 (l.map Aa.enc))].map .d) (.msl 0 2 0 xss.flatten.length) [.flat 126 2 (xss.flatten.map Aa.enc)]:=by
 refine iH (bA Q) func183 Q ntmps183 Q Q (λwX gX=>bP [0] (bB Q .nil) (bT Q) (RS (bY _ Q (eE (.inr Q) Q) (TN (bP [0] (bB Q .nil) (bT Q) (RS (bY _ Q (eE (.inr Q) Q) (TN (bP [0,3] (bB Q (bB Q .nil)) (bT Q) (TQ (RS (bY _ Q (eE (.inl Q) Q) ?_))))))))))));refine bY _ Q (by first|exact qEM Q zZ Q (by first|exact zQC _|rfl)|exact mK Q zZ Q) ?_;refine bY _ Q (eE (.inl Q) Q) (TN (bP [0,3,9,10,11] (bB Q (bB Q (bB Q (bB Q (bB Q .nil))))) (bT Q) (TB ?_)));refine oP (λi=>([(3,.d (.int .i64 ((eO xss i).length:Int))),(11,.d (.int .i64 ((i:Nat):Int)))])) (λi=>[]) (λi=>i<=xss.length) (λi=>xss.length - i) [3,11] [0,9,10] [] 0 (by decide) (λi hi=>absurd hi (zQV i)) (Nat.zero_le _) (bB Q (bB Q (bB Q .nil))) Q (by rw [oK];rfl) (bT Q) Q ?_;rintro i hok;refine bP [3,11,0,9,10] (bB Q (bB Q (bB Q (bB Q (bB Q .nil))))) (bT Q) (RS (bY _ Q (mL Q Q Q Q) (TN (bP [0,3,9,10,11,12] (bB Q (bB Q (bB Q (bB Q (bB Q (bB Q .nil)))))) (bT Q) (TQ (TC _ Q (λhlt=>?_) (λhlt=>?_)))))))
 ·have hlt:i < xss.length:=by simpa using hlt
  obtain⟨x,hx⟩:∃ x,(xss)[i]?=some x:=⟨_,zQR (by first|exact hlt|omega|(simp;omega))⟩;have hs:=vY hx;have hle:=eK xss (i+1);refine TS (WT (bP [0,3,9,10,11] (bB Q (bB Q (bB Q (bB Q (bB Q .nil))))) (bT Q) (TQ (TB (RS (bY _ Q (uW Q zZ Q Q (qCY hx)) (bY _ Q (yR Q qZP Q Q) (bY _ Q (eE (.inr Q) Q) (TN (bP [0,3,5,9,10,11] (bB Q (bB Q (bB Q (bB Q (bB Q (bB Q .nil)))))) (bT Q) (RS (bY _ Q (eE (.inl Q) Q) (bY _ Q (eE (.inl Q) Q) ?_)))))))))))));refine bY _ Q (by first|exact qEM Q qZ Q (by first|exact zQC _|rfl)|exact mK Q qZ Q) ?_;refine bY _ Q (sI (r:=((eO xss (i+1)).length:Int)) Q Q Q Q (by rw [hs];simp) (by omega)) ?_;refine bY _ Q (eE (.inr Q) Q) (TN (bP [0,3,9,10,11] (bB Q (bB Q (bB Q (bB Q (bB Q .nil))))) (bT Q) (RS (bY _ Q (eE (.inl Q) Q) (bY _ Q (mL Q Q Q Q) (TN (bP [0,3,9,10,11,20] (bB Q (bB Q (bB Q (bB Q (bB Q (bB Q .nil)))))) (bT Q) (TC _ Q (λhneg=>?_) (λhneg=>?_)))))))))
  ·exact absurd (of_decide_eq_true hneg) (by omega)
  refine TS (WK (WT (bP [0,3,9,10,11] (bB Q (bB Q (bB Q (bB Q (bB Q .nil))))) (bT Q) (TG ?_))));refine bY _ Q (sJ Q Q Q Q (by first|omega|(constructor<;>omega))) ?_;refine bY _ Q (eE (.inl Q) Q) (TN (WT ?_));exact⟨(i+1),[],by decide,(λi hi=>absurd hi (zQV i)),(by omega),(by omega),Q⟩
 have hge:¬ i < xss.length:=by simpa using hlt
 have hi:i=xss.length:=by omega
 refine tY (WX (WX (WH (WT (bP [0,3] (bB Q (bB Q .nil)) (bT Q) (RS (bY _ Q (eE (.inl Q) Q) ?_)))))));refine sR Q Q Q (qE _ (by have:=eK xss i;omega) (λ_=>false)) Q Q ?_;refine bY _ Q (gE (.inr Q) Q) (TN (bP [0,6] (bB Q (dE Q .nil)) (cN Q (bT Q)) (TQ (RS (bY _ Q (eE (.inl Q) Q) ?_)))));refine bY _ Q (by first|exact qEM Q zZ Q (by first|exact zQC _|rfl)|exact mK Q zZ Q) ?_;refine bY _ Q (eE (.inl Q) Q) (TN (bP [6,25,26,27] (dE Q (bB Q (bB Q (bB Q .nil)))) (cN Q (bT Q)) (TB ?_)));refine oP (λi=>([(6,.msl 0 2 0 (eO xss i).length),(27,.d (.int .i64 ((i:Nat):Int)))])) (λi=>([(0,.flat 126 2 ((eO xss i).map Aa.enc))])) (λi=>i<=xss.length) (λi=>xss.length - i) [6,27] [25,26] [0] 0 (by decide) (λi hi=>absurd hi (zQV i)) (Nat.zero_le _) (bB Q (bB Q .nil)) Q (by rw [oK];rfl) (cN Q (bT Q)) (by rw [oK];rfl) ?_;rintro i hok;refine bP [6,27,25,26] (dE Q (bB Q (bB Q (bB Q .nil)))) (cN Q (bT Q)) (RS (bY _ Q (mL Q Q Q Q) (TN (bP [6,25,26,27,28] (dE Q (bB Q (bB Q (bB Q (bB Q .nil))))) (cN Q (bT Q)) (TQ (TC _ Q (λhlt=>?_) (λhlt=>?_)))))))
 ·have hlt:i < xss.length:=by simpa using hlt
  obtain⟨x,hx⟩:∃ x,(xss)[i]?=some x:=⟨_,zQR (by first|exact hlt|omega|(simp;omega))⟩;have hs:=vY hx;have hle:=eK xss (i+1);have hsl:(eO xss (i+1)).length=(eO xss i).length+x.length:=by rw [hs];simp
  refine TS (WT (bP [6,25,26,27] (dE Q (bB Q (bB Q (bB Q .nil)))) (cN Q (bT Q)) (TQ (TB (RS (bY _ Q (uW Q zZ Q Q (qCY hx)) (bY _ Q (yR Q qZP Q Q) (bY _ Q (eE (.inr Q) Q) (TN (bP [6,8,25,26,27] (dE Q (bB Q (bB Q (bB Q (bB Q .nil))))) (cN Q (bT Q)) (TG (bY _ Q (gE (.inl Q) Q) (bY _ Q (eE (.inl Q) Q) ?_)))))))))))));refine qDN (m:=(eO xss (i+1)).length) (ds:=x.map Aa.enc) (es':=(eO xss (i+1)).map Aa.enc) Q qZ bW Q Q Q (by simp) (λh=>absurd h (zQV _)) Q ⟨Q,(by first|rfl|(simp [List.map_take,List.map_drop];done)|(rw [<- List.map_drop,List.take_of_length_le (by simp)]))⟩ (by rw [hs];simp) (by simp;omega) (by omega) (by omega) Q Q ?_;refine bY _ Q (gE (.inr Q) Q) (TN (WK (WT (bP [6,25,26,27] (dE Q (bB Q (bB Q (bB Q .nil)))) (cN Q (bT Q)) (TG ?_)))));refine bY _ Q (sJ Q Q Q Q (by first|omega|(constructor<;>omega))) ?_;refine bY _ Q (eE (.inl Q) Q) (TN (WT ?_));exact⟨(i+1),[0],by decide,(λi hi=>absurd hi (zQV i)),(by omega),(by omega),Q⟩
 have hge:¬ i < xss.length:=by simpa using hlt
 have hi:i=xss.length:=by omega
 have hall:=qOX hge;refine tY (WX (WX (WH (WT (bP [6] (dE Q .nil) (cN Q (bT Q)) (RS (bY _ Q (gE (.inl Q) Q) (bY _ Q (gE (.inr Q) Q) (TN (bP [2] (dE Q .nil) (cN Q (bT Q)) (TR ?_)))))))))));rw [hall];exact⟨_,[0],res Q,by decide,λi hi=>absurd hi (zQV i),Q,Q⟩
theorem qD {p0:List (List Aa)} {r:List Aa} (hm:fG p0=some r):Ret TP 183 [] (λ_=>false) ([.sl 1 (p0.map (λl=>D.sl 2 (l.map Aa.enc)))].map .d) (.msl 0 2 0 r.length) [.flat 126 2 (r.map Aa.enc)]:=by
 unfold fG at hm;refine GE hm λg hm=>?_;obtain rfl:=OJ hm;exact nW p0 g.1 g.2 (λ_=>false)
theorem tO {p0:Int} {r:Bool} (hm:jU p0=some r):RetN TP 207 [.int .i64 p0] (.bool (r)):=by
 refine .unit (aK (bA Q) func207 Q ntmps207 Q Q (λwX gX=>?_)) Q;unfold jU at hm;exact WN [0] Q Q (qYJ 12 Q (aR hm Q))
theorem qW {p0:Int} {p1:Int} {r:Int} (hm:fN p0 p1=some r):RetN TP 187 [.int .i64 p0,.int .i64 p1] (.int .i64 r):=by
 refine .unit (aK (bA Q) func187 Q ntmps187 Q Q (λwX gX=>?_)) Q;unfold fN at hm;refine WN [0,1] Q Q (aO 6 Q (c_N hm (tO ·) Q Q Q Q λr1 hm=>aF 5 Q (c_N hm (tO ·) Q Q Q Q λr2 hm=>aL 8 Q (bF hm Q (λh3 hm=>?_) (λh3 hm=>?_)))))
 ·refine bM 5 Q (bF hm Q (λh4 hm=>?_) (λh4 hm=>?_))
  ·exact aM 7 Q (aR hm Q)
  exact aM 8 Q (aR hm Q)
 refine bM 7 Q (bF hm Q (λh5 hm=>?_) (λh5 hm=>?_))
 ·exact aM 6 Q (aR hm Q)
 refine bM 9 Q (bJ hm Q (λh6 hm=>?_) (λh6 hm=>?_))
 ·exact aM 6 Q (aR hm Q)
 refine bM 9 Q (WN [19] Q Q (bJ hm Q (λh7 hm=>?_) (λh7 hm=>?_)))
 ·exact aM 6 Q (aR hm Q)
 exact aM 7 Q (aR hm Q)
theorem qLK {p0:(List Int)} {r:Int} (hm:pX p0=some r):RetN TP 186 [.sl 1 (p0.map (D.int .i64))] (.int .i64 r):=by
 refine .unit (aK (bA Q) func186 Q ntmps186 Q Q (λwX gX=>?_)) Q;unfold pX at hm;refine WN [0] Q Q (bO 8 Q (bE hm (λ_=>[]) (λ_=>[]) [] [3] Q (λz1 hm hz1=>?_) (λj hm=>?_)))
 ·refine aO 2 Q (SX Q Q (aN TK Q Q Q) (aL 4 Q (aW hm (λx3=>([(8,.d (.int .i64 x3))])) (λx3=>[]) [8] [3,6,7] [] Q k0 Q Q Q Q Q (λx3 z4 hm hz4=>WN [3,6,7,8] Q Q (bO 5 Q (bJ hm Q (λh5 hm=>?_) (λh5 hm=>?_)))))))
  ·refine aQ 5 Q (VE hm λe6 he6 hm=>SX Q Q (bD TK Q Q Q Q he6) (aL 10 Q (eC hm Q (λh7 hm=>?_) (λh7 hm=>?_))))
   ·refine aM 8 Q (IE hm λv8 hm hz=>?_);rw [hz4 _ hz] at hm;refine WR (bC 1 Q (IE hm λv9 hm hz=>?_));rw [hz1 _ hz] at hm;exact WR (aR hm Q)
   exact aQ 4 Q (GE hm λg10 hm=>SX Q Q (bL Q Q Q Q g10) (aD 2 Q (aY [] hm Q Q)))
  refine aM 2 Q (IE hm λv11 hm hz=>?_);rw [hz4 _ hz] at hm;exact WX (bC 1 Q (aY [] hm Q Q))
 exact WN [3] Q Q (aM 6 Q (aR hm Q))
theorem wF {p0:Aa} {p1:Aa} {r:Int} (hm:cD p0 p1=some r):RetN TP 185 [p0.enc,p1.enc] (.int .i64 r):=by
 refine .unit (aK (bA Q) func185 Q ntmps185 Q Q (λwX gX=>?_)) Q;unfold cD at hm;refine WN [0,1] Q Q (aO 1 Q (bQ 0 Q Q Q (bQ 1 Q Q Q (aL 3 Q (bI follows ?_)))));iterate 4 (refine DA [0,1] TK Q ?_)
 refine dQ [0,1] hm (qW ·) Q Q Q Q λr1 hm=>?_;iterate 4 (refine DA [0,1] TK Q ?_)
 refine dQ [0,1] hm (qW ·) Q Q Q Q λr2 hm=>DX [0,1] Q Q (cI [.tmp 9,.tmp 14] TK Q Q dD Q Q Q Q Q) (dQ [0,1] hm (qLK ·) Q Q Q Q λr3 hm=>?_);refine DT ?_ (by kernel_rfl);exact aL 3 Q (WN [4] Q Q (aM 1 Q (aR hm Q)))
theorem zW {p0:Ai} {r:(List Aa)} (hm:iF p0=some r):RetD TP 142 [p0.enc] (.sl 2 (r.map Aa.enc)):=by
 refine .of (mv:=λ_=>false) (aK (bA Q) func142 Q ntmps142 Q Q (λwX gX=>?_));unfold iF at hm;refine WN [0] Q Q (aO 1 Q (bQ 0 Q Q Q (aF 10 Q (SX Q Q (cI [.tmp 8,.tmp 10,.tmp 12] TK Q Q zBG Q Q Q Q Q) (BE hm λr1 hr1 hm=>sR Q Q Q (qD hr1) Q Q (qGL 14 (.msl 1 2 0 r1.length) Q Q (aF 5 Q (GE hm λg2 hm=>?_))))))));refine qCS [1] Q Q Q (by simp) Q Q Q (qC kT Q (λ_ _ _ h=>(wF h).retD) r1 g2) Q Q ?_;refine oW 3 (oS cD r1).length Q (nV _).symm (oW 15 (oS cD r1).length Q (nV _).symm (aF 3 Q (cS (f:=Aa.enc) 2 126 2 Q Q Q (aL 2 Q (aS hm (λb3=>([(4,.msl 2 2 0 b3.length)])) (λb3=>([(2,.flat 126 2 (b3.map Aa.enc))])) [4] [] Q (λz4 hm=>?_) (λb3 hm=>?_))))))
 ·refine bO 7 Q (aW hm (λ(x8,b9)=>([(4,.msl 2 2 0 b9.length),(19,.d (.int .i64 x8))])) (λ(x8,b9)=>([(2,.flat 126 2 (b9.map Aa.enc))])) [4,19] [3,17,18] [0,1,2] Q k0 Q Q Q Q Q (λs z10 hm hz10=>?_));obtain⟨x8,b9⟩:=s;refine WN [3,4,17,18,19] Q Q (bO 5 Q (bJ hm Q (λh11 hm=>?_) (λh11 hm=>?_)))
  ·refine aQ 6 Q (VE hm λe12 he12 hm=>SX Q Q (kQ TK Q Q Q Q he12 Q) (SX Q Q (oN TK Q Q Q Q he12.2 Q) (cH 3 Q Q bW Q (aL 4 Q (aS hm (λx13=>([(34,.d (.bool (x13)))])) (λx13=>[]) [34] [3,4,6,17,18,19] Q (λz14 hm=>?_) (λx13 hm=>?_))))))
   ·refine cG follows ?_;iterate 2 (refine DA [0,1,2,3] TK Q ?_)
    refine d_b [0,1,2,3] TK Q (λq15 hq15=>?_);cases q15
    ·replace hm:=JF hq15 hm;iterate 3 (refine DA [0,1,2,3] TK Q ?_)
     refine GE hm λg16 hm=>DX [0,1,2,3] Q Q (bL Q Q Q Q g16) (VE hm λe17 he17 hm=>DX [0,1,2,3] Q Q (kQ TK Q Q Q Q he17 Q) (DX [0,1,2,3] Q Q (oN TK Q Q Q Q he17.2 Q) (GE hm λg18 hm=>DX [0,1,2,3] Q Q (xP Q Q Q g18.1 g18.2) (DA [0,1,2,3] TK Q ?_))));refine DT ?_ (by kernel_rfl);exact aD 1 Q (aU [0,1,2,3] hm Q Q)
    replace hm:=JT hq15 hm;iterate 8 (refine DA [0,1,2,3] TK Q ?_)
    refine DT ?_ (by kernel_rfl);exact aD 1 Q (aU [0,1,2,3] hm Q Q)
   refine WN [3,4,6,17,18,19,34] Q Q (bF hm Q (λh20 hm=>?_) (λh20 hm=>?_))
   ·exact aQ 3 Q (SX Q Q (cI [.tmp 36] TK Q Q bW Q Q Q Q Q) (GE hm λg21 hm=>cK (f:=Aa.enc) ([e12]:List Aa) TK Q Q bW Q Q Q Q Q (λh=>absurd h (zQV _)) Q cC g21 Q Q (aF 5 Q (GE hm λg22 hm=>SX Q Q (bL Q Q Q Q g22) (aD 2 Q (aY [0,1,2] hm Q Q))))))
   exact aQ 4 Q (GE hm λg23 hm=>SX Q Q (bL Q Q Q Q g23) (aD 2 Q (aY [0,1,2] hm Q Q)))
  refine aM 2 Q (IE hm λv24 hm hz=>?_);rw [hz10 _ hz] at hm;exact WX (bC 1 Q (aU [0,1,2] hm Q Q))
 refine WN [4] Q Q (aM 6 Q ?_);obtain rfl:=OJ hm;exact EndsS.one _ Q (bS Q) (.refl _)
theorem qHS {p0:Al} {p1:Ai} {p2:Ak} {r:(List Aa)} (hm:nF p0 p1 p2=some r):RetD TP 81 [p0.enc,p1.enc,p2.enc] (.sl 2 (r.map Aa.enc)):=by
 refine .of (mv:=λ_=>false) (aK (bA Q) func81 Q ntmps81 Q Q (λwX gX=>?_));unfold nF at hm;refine WN [0,1,2] Q Q (aO 1 Q (bQ 0 Q Q Q (bQ 1 Q Q Q (bQ 2 Q Q Q (aL 10 Q (bJ hm Q (λh1 hm=>?_) (λh1 hm=>?_)))))))
 ·refine bM 4 Q (vI 6 [some 2] Q (aM 2 Q ?_));obtain rfl:=OJ hm;exact EndsS.one _ Q (.d _) (.refl _)
 refine aQ 3 Q (cS (f:=Aa.enc) 3 126 2 Q Q Q (aL 2 Q (aS hm (λb2=>([(7,.msl 3 2 0 b2.length)])) (λb2=>([(3,.flat 126 2 (b2.map Aa.enc))])) [7] [4] Q (λz3 hm=>?_) (λb2 hm=>?_))))
 ·refine aO 3 Q (SX Q Q (aN TK Q Q Q) (aL 4 Q (aW hm (λ(x7,b8)=>([(7,.msl 3 2 0 b8.length),(16,.d (.int .i64 x7))])) (λ(x7,b8)=>([(3,.flat 126 2 (b8.map Aa.enc))])) [7,16] [3,4,5,14,15] [0,1,2,3] Q k0 Q Q Q Q Q (λs z9 hm hz9=>?_))));obtain⟨x7,b8⟩:=s;refine WN [3,4,5,7,14,15,16] Q Q (bO 5 Q (bJ hm Q (λh10 hm=>?_) (λh10 hm=>?_)))
  ·refine aQ 5 Q (VE hm λe11 he11 hm=>SX Q Q (bD TK Q Q Q Q he11) (aF 1 Q (cH 4 Q Q bW Q (aL 3 Q (WN [3,4,5,7,9,14,15,16] Q Q (bI follows ?_))))));iterate 4 (refine DA [0,1,2,3,4] TK Q ?_)
   refine GE hm λg12 hm=>DX [0,1,2,3,4] Q Q (xT TK Q Q Q Q Q g12) ?_;iterate 5 (refine DA [0,1,2,3,4] TK Q ?_)
   refine dQ [0,1,2,3,4] hm (jJ ·) Q Q Q Q λr13 hm=>VE hm λe14 he14 hm=>DX [0,1,2,3,4] Q Q (bD TK Q Q Q Q he14) (DA [0,1,2,3,4] TK Q (dQ [0,1,2,3,4] hm (qOR ·) Q Q Q Q λr15 hm=>DA [0,1,2,3,4] TK Q ?_));refine DT ?_ (by kernel_rfl);refine aL 2 Q (bF hm Q (λh16 hm=>?_) (λh16 hm=>?_))
   ·exact aQ 3 Q (SX Q Q (cI [.tmp 36] TK Q Q bW Q Q Q Q Q) (GE hm λg17 hm=>cK (f:=Aa.enc) ([e11]:List Aa) TK Q Q bW Q Q Q Q Q (λh=>absurd h (zQV _)) Q cC g17 Q Q (aL 4 Q (WN [3,4,5,7,14,15,16] Q Q (aQ 1 Q (GE hm λg18 hm=>SX Q Q (bL Q Q Q Q g18) (aD 2 Q (aY [0,1,2,3] hm Q Q))))))))
   exact bM 3 Q (WN [3,4,5,7,14,15,16] Q Q (aQ 1 Q (GE hm λg19 hm=>SX Q Q (bL Q Q Q Q g19) (aD 2 Q (aY [0,1,2,3] hm Q Q)))))
  refine aM 2 Q (IE hm λv20 hm hz=>?_);rw [hz9 _ hz] at hm;exact WX (bC 1 Q (aU [0,1,2,3] hm Q Q))
 refine WN [4,7] Q Q ?_;refine qFL 7 3 [4] Q Q Q Q Q (by simp) Q Q ?_;refine aQ 6 Q (SX Q Q (bV Q qYP dR Q Q Q Q) (s_wk 45 [none,none,none,some 3,none,some 1,none,none,some 3,none,some 1,none,some 1,some 2] Q (c_D hm (zW ·) Q Q Q Q λr21 hm=>aD 4 Q ?_)));obtain rfl:=OJ hm;exact EndsS.one _ Q (.d _) (.refl _)
theorem qHT {p0:Al} {p1:Az} {r:Bool} (hm:nG p0 p1=some r):RetN TP 38 [p0.enc,p1.enc] (.bool (r)):=by
 refine .unit (aK (bA Q) func38 Q ntmps38 Q Q (λwX gX=>?_)) Q;unfold nG at hm;refine WN [0,1] Q Q (aO 1 Q (bQ 0 Q Q Q (bQ 1 Q Q Q (aF 7 Q (c_N hm (qLA ·) Q Q Q Q λr1 hm=>aL 3 Q (bF hm Q (λh2 hm=>?_) (λh2 hm=>?_)))))))
 ·exact aM 6 Q (aR hm Q)
 refine aQ 3 Q (cS (f:=(λ(l:List Aq)=>D.sl 2 (l.map Aq.enc))) 2 163 1 Q Q Q (aL 2 Q (aS hm (λb3=>([(5,.msl 2 1 0 b3.length)])) (λb3=>([(2,.flat 163 1 (b3.map (λ(l:List Aq)=>D.sl 2 (l.map Aq.enc))))])) [5] [2,3] Q (λz4 hm=>?_) (λb3 hm=>?_))))
 ·refine aO 3 Q (SX Q Q (aN TK Q Q Q) (aL 4 Q (aW hm (λ(x8,b9)=>([(5,.msl 2 1 0 b9.length),(21,.d (.int .i64 x8))])) (λ(x8,b9)=>([(2,.flat 163 1 (b9.map (λ(l:List Aq)=>D.sl 2 (l.map Aq.enc))))])) [5,21] [2,3,19,20] [0,1,2] Q k0 Q Q Q Q Q (λs z10 hm hz10=>?_))));obtain⟨x8,b9⟩:=s;refine WN [2,3,5,19,20,21] Q Q (bO 5 Q (bJ hm Q (λh11 hm=>?_) (λh11 hm=>?_)))
  ·refine aQ 6 Q (VE hm λe12 he12 hm=>SX Q Q (bD TK Q Q Q Q he12) (aF 1 Q (cH 3 Q Q dR Q (cR 3 [none,none,none,some 3,some 2,some 1,none,none,some 3,some 2,some 1,some 2,some 1,some 2] Q Q (aL 4 Q (dV follows ?_))))));iterate 5 (refine DA [0,1,2,3] TK Q ?_)
   refine VE hm λe13 he13 hm=>DX [0,1,2,3] Q Q (bD TK Q Q Q Q he13) (DA [0,1,2,3] TK Q (mD [0,1,2,3] hm (qEJ ·) Q Q Q Q λr14 hm=>DX [0,1,2,3] Q Q (cI [.tmp 33] TK Q Q qSR Q Q Q Q Q) ?_));refine DT ?_ (by kernel_rfl);exact GE hm λg15 hm=>cK (f:=(λ(l:List Aq)=>D.sl 2 (l.map Aq.enc))) ([r14]:List (List Aq)) TK Q Q qSR Q Q Q Q Q (λh=>absurd h (zQV _)) Q cC g15 Q Q (aL 4 Q (WN [2,3,5,19,20,21] Q Q (aQ 1 Q (GE hm λg16 hm=>SX Q Q (bL Q Q Q Q g16) (aD 2 Q (aY [0,1,2] hm Q Q))))))
  refine aM 2 Q (IE hm λv17 hm hz=>?_);rw [hz10 _ hz] at hm;exact WX (bC 1 Q (aU [0,1,2] hm Q Q))
 refine WN [2,3,5] Q Q (bE hm (λ_=>[]) (λ_=>[]) [] [2,3] Q (λz18 hm hz18=>?_) (λj hm=>?_))
 ·refine aO 3 Q (SX Q Q (aN TK Q Q Q) (aL 4 Q (aW hm (λx20=>([(40,.d (.int .i64 x20))])) (λx20=>[]) [40] [2,3,5,39] [0,1,2] Q k0 Q Q Q Q Q (λx20 z21 hm hz21=>WN [2,3,5,39,40] Q Q (bO 5 Q (bJ hm Q (λh22 hm=>?_) (λh22 hm=>?_)))))))
  ·refine bM 2 Q (bE hm (λ_=>[]) (λ_=>[]) [] [2,3,5,39,40] Q (λz23 hm hz23=>?_) (λj hm=>?_))
   ·refine bO 12 Q (aW hm (λx25=>([(44,.d (.int .i64 x25))])) (λx25=>[]) [44] [2,3,5,8,39,40,43] [0,1,2] Q k0 Q Q Q Q Q (λx25 z26 hm hz26=>WN [2,3,5,8,39,40,43,44] Q Q (bO 5 Q (bJ hm Q (λh27 hm=>?_) (λh27 hm=>?_)))))
    ·refine bM 9 Q (bI follows ?_);iterate 3 (refine DA [0,1,2] TK Q ?_)
     refine VE hm λe28 he28 hm=>DX [0,1,2] Q Q (bD TK Q Q Q Q he28) ?_;iterate 4 (refine DA [0,1,2] TK Q ?_)
     refine VE hm λe29 he29 hm=>DX [0,1,2] Q Q (bD TK Q Q Q Q he29) ?_;iterate 3 (refine DA [0,1,2] TK Q ?_)
     refine VE hm λe30 he30 hm=>DX [0,1,2] Q Q (kQ TK Q Q Q Q he30 Q) (DX [0,1,2] Q Q (oN TK Q Q Q Q he30.2 Q) ?_);iterate 2 (refine DA [0,1,2] TK Q ?_)
     refine VE hm λe31 he31 hm=>DX [0,1,2] Q Q (kQ TK Q Q Q Q he31 Q) (DX [0,1,2] Q Q (oN TK Q Q Q Q he31.2 Q) (dQ [0,1,2] hm (qHR ·) Q Q Q Q λr32 hm=>?_));refine DT ?_ (by kernel_rfl);refine aL 2 Q (WN [2,3,5,8,39,40,43,44,65] Q Q (bF hm Q (λh33 hm=>?_) (λh33 hm=>?_)))
     ·refine aM 7 Q (IE hm λv34 hm hz=>?_);rw [hz26 _ hz] at hm;refine WR (bC 2 Q (IE hm λv35 hm hz=>?_));rw [hz23 _ hz] at hm;refine WR (IE hm λv36 hm hz=>?_);rw [hz21 _ hz] at hm;refine WR (bC 1 Q (IE hm λv37 hm hz=>?_));rw [hz18 _ hz] at hm;exact WR (aR hm Q)
     exact aQ 4 Q (GE hm λg38 hm=>SX Q Q (bL Q Q Q Q g38) (aD 2 Q (aY [0,1,2] hm Q Q)))
    refine aM 2 Q (IE hm λv39 hm hz=>?_);rw [hz26 _ hz] at hm;exact WX (bC 2 Q (aY [0,1,2] hm Q Q))
   exact WN [2,3,5,39,40] Q Q (aQ 1 Q (GE hm λg40 hm=>SX Q Q (bL Q Q Q Q g40) (aD 2 Q (aY [0,1,2] hm Q Q))))
  refine aM 2 Q (IE hm λv41 hm hz=>?_);rw [hz21 _ hz] at hm;exact WX (bC 1 Q (aY [0,1,2] hm Q Q))
 refine WN [2,3] Q Q (bE hm (λ_=>[]) (λ_=>[]) [] [] Q (λz42 hm hz42=>?_) (λj hm=>?_))
 ·refine aO 3 Q (SX Q Q (aN TK Q Q Q) (aL 4 Q (aW hm (λx44=>([(71,.d (.int .i64 x44))])) (λx44=>[]) [71] [2,3,69,70] [0,1,2] Q k0 Q Q Q Q Q (λx44 z45 hm hz45=>WN [2,3,69,70,71] Q Q (bO 5 Q (bJ hm Q (λh46 hm=>?_) (λh46 hm=>?_)))))))
  ·refine bM 2 Q (bE hm (λ_=>[]) (λ_=>[]) [] [2,3,69,70,71] Q (λz47 hm hz47=>?_) (λj hm=>?_))
   ·refine aO 3 Q (VE hm λe48 he48 hm=>SX Q Q (bD TK Q Q Q Q he48) (aF 1 Q (cH 3 Q Q dR Q (cR 3 [none,none,none,some 3,some 2,some 1,none,none,some 3,some 2,some 1,some 2,some 1,some 2] Q Q (aL 4 Q (bI follows ?_))))));iterate 5 (refine DA [0,1,2,3] TK Q ?_)
    refine VE hm λe49 he49 hm=>DX [0,1,2,3] Q Q (bD TK Q Q Q Q he49) (DA [0,1,2,3] TK Q (mD [0,1,2,3] hm (qHS ·) Q Q Q Q λr50 hm=>DX [0,1,2,3] Q Q (aN TK Q Q Q) (DA [0,1,2,3] TK Q ?_)));refine DT ?_ (by kernel_rfl);refine aL 3 Q (aW hm (λx52=>([(85,.d (.int .i64 x52))])) (λx52=>[]) [85] [2,3,69,70,71,83,84] [0,1,2] Q k0 Q Q Q Q Q (λx52 z53 hm hz53=>WN [2,3,69,70,71,83,84,85] Q Q (bO 5 Q (bJ hm Q (λh54 hm=>?_) (λh54 hm=>?_)))))
    ·refine aQ 5 Q (VE hm λe55 he55 hm=>SX Q Q (bD TK Q Q Q Q he55) (aF 1 Q (cH 3 Q Q bW Q (aL 3 Q (bI follows ?_)))));iterate 5 (refine DA [0,1,2,3] TK Q ?_)
     refine dQ [0,1,2,3] hm (jJ ·) Q Q Q Q λr56 hm=>VE hm λe57 he57 hm=>DX [0,1,2,3] Q Q (bD TK Q Q Q Q he57) ?_;iterate 4 (refine DA [0,1,2,3] TK Q ?_)
     refine DT ?_ (by kernel_rfl);refine aL 2 Q (eC hm Q (λh58 hm=>?_) (λh58 hm=>?_))
     ·refine bM 4 Q (WN [4] Q Q (aM 3 Q (IE hm λv59 hm hz=>?_)));rw [hz53 _ hz] at hm;refine WR (bC 2 Q (IE hm λv60 hm hz=>?_));rw [hz47 _ hz] at hm;refine WR (IE hm λv61 hm hz=>?_);rw [hz45 _ hz] at hm;refine WR (bC 1 Q (IE hm λv62 hm hz=>?_));rw [hz42 _ hz] at hm;exact WR (aR hm Q)
     exact bM 3 Q (WN [2,3,69,70,71,83,84,85] Q Q (aQ 1 Q (GE hm λg63 hm=>SX Q Q (bL Q Q Q Q g63) (aD 2 Q (aY [0,1,2] hm Q Q)))))
    refine aM 2 Q (IE hm λv64 hm hz=>?_);rw [hz53 _ hz] at hm;exact WX (bC 2 Q (aY [0,1,2] hm Q Q))
   exact WN [2,3,69,70,71] Q Q (aQ 1 Q (GE hm λg65 hm=>SX Q Q (bL Q Q Q Q g65) (aD 2 Q (aY [0,1,2] hm Q Q))))
  refine aM 2 Q (IE hm λv66 hm hz=>?_);rw [hz45 _ hz] at hm;exact WX (bC 1 Q (aY [0,1,2] hm Q Q))
 exact WN [] Q Q (aM 5 Q (aR hm Q))
theorem zE {p0:Al} {p1:(List At)} {p2:Int} {r:(List Int)} (hm:hO p0 p1 p2=some r):RetD TP 83 [p0.enc,.sl 3 (p1.map At.enc),.int .i64 p2] (.sl 1 (r.map (D.int .i64))):=by
 refine .of (mv:=λ_=>false) (aK (bA Q) func83 Q ntmps83 Q Q (λwX gX=>?_));unfold hO at hm;refine WN [0,1,2] Q Q (aO 1 Q (bQ 0 Q Q Q (aL 4 Q ?_)));refine cF [(15,.d (.bool (((decide (p2 < (0:Int)))||(decide ((32:Int) < p2))))))] [15] [1,2,3] Q ?_ ?_
 ·refine aO 3 Q (SB TK Q (λq1 hq1=>?_));cases q1
  ·refine aD 4 Q ?_;exact⟨[0],Q,k0,aV (aG (aI (by first|(simp [hq1];done)|(simp only [hq1];simp))) Q) Q⟩
  refine aD 4 Q ?_;exact⟨[0],Q,k0,aV (aG (aI (by first|(simp [hq1];done)|(simp only [hq1];simp))) Q) Q⟩
 refine WN [1,2,3,15] Q Q (bF hm Q (λh2 hm=>?_) (λh2 hm=>?_))
 ·refine bM 4 Q (vI 6 [some 1] Q (aM 2 Q ?_));obtain rfl:=OJ hm;exact EndsS.one _ Q (.d _) (.refl _)
 refine aQ 4 Q (GE hm λg3 hm=>zEP (f:=(D.int .i64)) (x:=(0:Int)) 1 TK Q Q Q dD Q Q Q Q Q g3 Q (aL 3 Q (aS hm (λb4=>([(7,.msl 1 1 0 b4.length)])) (λb4=>([(1,.flat 3 1 (b4.map (D.int .i64)))])) [7] [] Q (λz5 hm=>?_) (λb4 hm=>?_))))
 ·refine bO 7 Q (aW hm (λ(x9,b10)=>([(7,.msl 1 1 0 b10.length),(20,.d (.int .i64 x9))])) (λ(x9,b10)=>([(1,.flat 3 1 (b10.map (D.int .i64)))])) [7,20] [1,3,19] [0,1] Q k0 Q Q Q Q Q (λs z11 hm hz11=>?_));obtain⟨x9,b10⟩:=s;refine WN [1,3,7,19,20] Q Q (bO 5 Q (bJ hm Q (λh12 hm=>?_) (λh12 hm=>?_)))
  ·refine aQ 12 Q (c_N hm (jJ ·) Q Q Q Q λr13 hm=>aL 3 Q (cF [(33,.d (.bool (((decide ((0:Int)<=r13))&&(decide (r13 < (p1.length:Int)))))))] [33] [1,3,7,8,9,19,20] Q ?_ ?_))
   ·refine aO 3 Q (SB TK Q (λq14 hq14=>?_));cases q14
    ·refine aD 6 Q ?_;exact⟨[0,1],Q,k0,aV (aG (aI (by first|(simp [hq14];done)|(simp only [hq14];simp))) Q) Q⟩
    refine aF 2 Q (SX Q Q (aN TK Q Q Q) (aD 3 Q ?_));exact⟨[0,1],Q,k0,aV (aG (aI (by first|(simp [hq14];done)|(simp only [hq14];simp))) Q) Q⟩
   refine WN [1,3,7,8,9,19,20,33] Q Q (bF hm Q (λh15 hm=>?_) (λh15 hm=>?_))
   ·exact aQ 5 Q (VE hm λe16 he16 hm=>SX Q Q (bD TK Q Q Q Q he16) (aF 2 Q (VE hm λe17 he17 hm=>SX Q Q (kQ TK Q Q Q Q he17 Q) (qIH (x':=e16.pos) TK Q Q Q Q Q he17.2 Q Q Q (oW 7 (b10.set x9.toNat e16.pos).length Q List.length_set.symm (oW 34 (b10.set x9.toNat e16.pos).length Q List.length_set.symm (aF 4 Q (GE hm λg18 hm=>SX Q Q (bL Q Q Q Q g18) (aD 2 Q (aY [0,1] hm Q Q))))))))))
   exact aQ 4 Q (GE hm λg19 hm=>SX Q Q (bL Q Q Q Q g19) (aD 2 Q (aY [0,1] hm Q Q)))
  refine aM 2 Q (IE hm λv20 hm hz=>?_);rw [hz11 _ hz] at hm;exact WX (bC 1 Q (aU [0,1] hm Q Q))
 refine WN [7] Q Q (aM 6 Q ?_);obtain rfl:=OJ hm;exact EndsS.one _ Q (bS Q) (.refl _)
theorem qNF {p0:Int} {p1:Int} {p2:Int} {r0:Int} {r1:Bool} (hm:oG p0 p1 p2=some (r0,r1)):Ret TP 84 [] (λ_=>false) ([.int .i64 p0,.int .i64 p1,.int .i64 p2].map .d) (.tup ([.int .i64 r0,.bool (r1)].map .d)) []:=by
 refine dP (bA Q) func84 Q ntmps84 Q Q (λwX gX=>?_);unfold oG at hm;refine WN [0,1,2] Q Q (bO 5 Q (bE hm (λ_=>[]) (λ_=>[]) [] [] Q (λz1 hm hz1=>?_) (λj hm=>?_)))
 ·refine aO 1 Q (SX Q Q (x_ldG (d:=.agg (passages.flatMap λx=>x.enc.cells)) Q lay229 (List.mem_singleton.2 Q) Q Q Q) (aL 4 Q (aW hm (λx3=>([(11,.d (.int .i64 x3))])) (λx3=>[]) [11] [0,1,2,10] [] Q k0 Q Q Q Q Q (λx3 z4 hm hz4=>WN [0,1,2,10,11] Q Q (bO 5 Q (bJ hm Q (λh5 hm=>?_) (λh5 hm=>?_)))))))
  ·refine aQ 5 Q (VE hm λe6 he6 hm=>SX Q Q (x_ixA (f:=Br.enc) (xs:=passages) (λ_=>Q) (λ_=>Q) Q Tryz.underlying229 lay228 Q Q he6 Q) (cH 0 Q Q zBC Q (aL 3 Q (cF [(29,.d (.bool (((decide (e6.kind=p0))&&((decide (e6.inV=p1))&&(decide (e6.out=p2)))))))] [29] [0,1,2,9,10,11] Q ?_ ?_))))
   ·refine aO 5 Q (SB TK Q (λq7 hq7=>?_));cases q7
    ·refine aD 12 Q ?_;exact⟨[0],Q,k0,aV (aG (aI (by first|(simp [hq7];done)|(simp only [hq7];simp))) Q) Q⟩
    refine aF 5 Q (SB TK Q (λq8 hq8=>?_));cases q8
    ·refine aD 6 Q ?_;exact⟨[0],Q,k0,aV (aG (aI (by first|(simp [hq7,hq8];done)|(simp only [hq7,hq8];simp))) Q) Q⟩
    refine aD 6 Q ?_;exact⟨[0],Q,k0,aV (aG (aI (by first|(simp [hq7,hq8];done)|(simp only [hq7,hq8];simp))) Q) Q⟩
   refine WN [0,1,2,9,10,11,29] Q Q (bF hm Q (λh9 hm=>?_) (λh9 hm=>?_))
   ·refine aM 10 Q (IE hm λv10 hm hz=>?_);rw [hz4 _ hz] at hm;refine WR (bC 1 Q (IE hm λv11 hm hz=>?_));rw [hz1 _ hz] at hm;refine WR ?_;obtain⟨rfl,rfl⟩:=Prod.mk.inj (Option.some.inj hm);exact EndsT.two Q (.d _) (.refl _) (.d _) (.refl _)
   exact aQ 4 Q (GE hm λg12 hm=>SX Q Q (bL Q Q Q Q g12) (aD 2 Q (aY [] hm Q Q)))
  refine aM 2 Q (IE hm λv13 hm hz=>?_);rw [hz4 _ hz] at hm;exact WX (bC 1 Q (aY [] hm Q Q))
 refine WN [] Q Q (aM 6 Q ?_);obtain⟨rfl,rfl⟩:=Prod.mk.inj (Option.some.inj hm);exact EndsT.two Q (.d _) (.refl _) (.d _) (.refl _)
theorem qNG {p0:Int} {p1:Int} {p2:Int} {r0:Int} {r1:Bool} (hm:oG p0 p1 p2=some (r0,r1)):RetT TP 84 [.int .i64 p0,.int .i64 p1,.int .i64 p2] [.int .i64 r0,.bool (r1)]:=.of (mv:=λ_=>false) (qNF hm)
theorem qCB {p0:An} {r:(List Af)} (hm:jK p0=some r):RetD TP 39 [p0.enc] (.sl 3 (r.map Af.enc)):=by
 refine .of (mv:=λ_=>false) (aK (bA Q) func39 Q ntmps39 Q Q (λwX gX=>?_));unfold jK at hm;refine WN [0] Q Q (aO 1 Q (bQ 0 Q Q Q (aF 4 Q (cS (f:=Af.enc) 1 83 3 Q Q Q (aF 10 Q (SX Q Q (aN TK Q Q Q) (c_D hm (zE ·) Q Q Q Q λr1 hm=>aL 3 Q (aS hm (λb2=>([(3,.msl 1 3 0 b2.length)])) (λb2=>([(1,.flat 83 3 (b2.map Af.enc))])) [3] [] Q (λz3 hm=>?_) (λb2 hm=>?_)))))))))
 ·refine aO 3 Q (SX Q Q (aN TK Q Q Q) (aL 4 Q (aW hm (λ(x7,b8)=>([(3,.msl 1 3 0 b8.length),(23,.d (.int .i64 x7))])) (λ(x7,b8)=>([(1,.flat 83 3 (b8.map Af.enc))])) [3,23] [1,4,21,22] [0,1] Q k0 Q Q Q Q Q (λs z9 hm hz9=>?_))));obtain⟨x7,b8⟩:=s;refine WN [1,3,4,21,22,23] Q Q (bO 5 Q (bJ hm Q (λh10 hm=>?_) (λh10 hm=>?_)))
  ·refine bM 2 Q (aS hm (λb11=>([(3,.msl 1 3 0 b11.length)])) (λb11=>([(1,.flat 83 3 (b11.map Af.enc))])) [3] [1,4,21,22,23] Q (λz12 hm=>?_) (λb11 hm=>?_))
   ·refine aO 2 Q (VE hm λe13 he13 hm=>SX Q Q (bD TK Q Q Q Q he13) (aF 1 Q (cH 2 Q Q nM Q (cR 2 [some 3,none,none,none,none,none,none,none,none,none,none,none,none,none,none,none,none,none,none,none,none,none,none,none,some 4,some 2,none,none,none,none,none,none] Q Q (aF 7 Q (SX Q Q (aN TK Q Q Q) (aL 4 Q (aW hm (λ(x17,b18)=>([(3,.msl 1 3 0 b18.length),(31,.d (.int .i64 x17))])) (λ(x17,b18)=>([(1,.flat 83 3 (b18.map Af.enc))])) [3,31] [1,4,6,21,22,23,29,30] [0,1,2] Q k0 Q Q Q Q Q (λs z19 hm hz19=>?_)))))))));obtain⟨x17,b18⟩:=s;refine WN [1,3,4,6,21,22,23,29,30,31] Q Q (bO 5 Q (bJ hm Q (λh20 hm=>?_) (λh20 hm=>?_)))
    ·refine aQ 5 Q (VE hm λe21 he21 hm=>SX Q Q (bD TK Q Q Q Q he21) (aF 1 Q (cH 3 Q Q fF Q (aL 4 Q ?_))));refine cF [(53,.d (.bool (((decide (e21.el < (0:Int)))||((decide ((p0.layout.Ae.length:Int)<=e21.el))||(decide ((r1.length:Int)<=e21.el)))))))] [53] [1,3,4,6,8,21,22,23,29,30,31] Q ?_ ?_
     ·refine aO 4 Q (SB TK Q (λq22 hq22=>?_));cases q22
      ·refine aF 5 Q (SX Q Q (aN TK Q Q Q) (aF 2 Q (SB TK Q (λq23 hq23=>?_))));cases q23
       ·refine aF 3 Q (SX Q Q (aN TK Q Q Q) (aD 3 Q ?_));exact⟨[0,1,2,3],Q,k0,aV (aG (aI (by first|(simp [hq22,hq23];done)|(simp only [hq22,hq23];simp))) Q) Q⟩
       refine aD 7 Q ?_;exact⟨[0,1,2,3],Q,k0,aV (aG (aI (by first|(simp [hq22,hq23];done)|(simp only [hq22,hq23];simp))) Q) Q⟩
      refine aD 16 Q ?_;exact⟨[0,1,2,3],Q,k0,aV (aG (aI (by first|(simp [hq22];done)|(simp only [hq22];simp))) Q) Q⟩
     refine WN [1,3,4,6,8,21,22,23,29,30,31,53] Q Q (bF hm Q (λh24 hm=>?_) (λh24 hm=>?_))
     ·exact aQ 5 Q (GE hm λg25 hm=>SX Q Q (bL Q Q Q Q g25) (aD 2 Q (aY [0,1,2] hm Q Q)))
     refine bM 2 Q (bI follows ?_);iterate 5 (refine DA [0,1,2,3] TK Q ?_)
     refine VE hm λe26 he26 hm=>DX [0,1,2,3] Q Q (bD TK Q Q Q Q he26) ?_;iterate 6 (refine DA [0,1,2,3] TK Q ?_)
     refine BE hm λr27 hr27 hm=>?_;obtain⟨r28,r29⟩:=r27;refine DX [0,1,2,3] Q Q (cU Q Q Q (qNG hr27)) ?_;iterate 4 (refine DA [0,1,2,3] TK Q ?_)
     refine DT ?_ (by kernel_rfl);refine aL 3 Q (WN [1,3,4,6,8,9,10,21,22,23,29,30,31] Q Q (aS hm (λx30=>([(83,.d (.bool (x30)))])) (λx30=>[]) [83] [1,3,4,6,8,21,22,23,29,30,31] Q (λz31 hm=>?_) (λx30 hm=>?_)))
     ·refine aO 2 Q (SB TK Q (λq32 hq32=>?_));cases q32
      ·replace hm:=JB hq32 hm;exact aD 13 Q (aU [0,1,2,3] hm Q Q)
      replace hm:=JA hq32 hm;refine aF 3 Q (SB TK Q (λq33 hq33=>?_));cases q33
      ·replace hm:=eN hq33 hm;exact aD 9 Q (aU [0,1,2,3] hm Q Q)
      replace hm:=eM hq33 hm;exact aF 4 Q (VE hm λe34 he34 hm=>SX Q Q (bD TK Q Q Q Q he34) (aD 4 Q (aU [0,1,2,3] hm Q Q)))
     refine WN [1,3,4,6,8,21,22,23,29,30,31,83] Q Q (bF hm Q (λh35 hm=>?_) (λh35 hm=>?_))
     ·exact aQ 8 Q (SX Q Q (bV Q yL eA Q Q Q Q) (SX Q Q (cI [.tmp 91] TK Q Q eA Q Q Q Q Q) (GE hm λg36 hm=>cK (f:=Af.enc) ([(⟨(4:Int),e13.cab.train.id,e21.el⟩:Af)]:List Af) TK Q Q eA Q Q Q Q Q (λh=>absurd h (zQV _)) Q cC g36 Q Q (aF 5 Q (GE hm λg37 hm=>SX Q Q (bL Q Q Q Q g37) (aD 2 Q (aY [0,1,2] hm Q Q)))))))
     exact aQ 4 Q (GE hm λg38 hm=>SX Q Q (bL Q Q Q Q g38) (aD 2 Q (aY [0,1,2] hm Q Q)))
    refine aM 2 Q (IE hm λv39 hm hz=>?_);rw [hz19 _ hz] at hm;exact WX (bC 2 Q (aU [0,1] hm Q Q))
   exact WN [1,3,4,21,22,23] Q Q (aQ 1 Q (GE hm λg40 hm=>SX Q Q (bL Q Q Q Q g40) (aD 2 Q (aY [0,1] hm Q Q))))
  refine aM 2 Q (IE hm λv41 hm hz=>?_);rw [hz9 _ hz] at hm;exact WX (bC 1 Q (aU [0,1] hm Q Q))
 refine WN [3] Q Q (aM 6 Q ?_);obtain rfl:=OJ hm;exact EndsS.one _ Q (bS Q) (.refl _)
theorem qAB {p0:An} {r:(List Af)} (hm:fX p0=some r):RetD TP 40 [p0.enc] (.sl 3 (r.map Af.enc)):=by
 refine .of (mv:=λ_=>false) (aK (bA Q) func40 Q ntmps40 Q Q (λwX gX=>?_));unfold fX at hm;refine WN [0] Q Q (aO 1 Q (bQ 0 Q Q Q (aF 4 Q (vQ 3 4 Q (qGL 9 (.mmap 1) Q Q (aL 3 Q (aS hm (λm1=>[]) (λm1=>([(1,.map 3 4 (dB (D.int .i64) D.bool m1))])) [] [1,3] Q (λz2 hm=>?_) (λm1 hm=>?_))))))))
 ·refine aO 4 Q (SX Q Q (aN TK Q Q Q) (aL 4 Q (aW hm (λ(x6,b7)=>([(14,.d (.int .i64 x6))])) (λ(x6,b7)=>([(1,.map 3 4 (dB (D.int .i64) D.bool b7))])) [14] [1,3,12,13] [0,1] Q k0 Q Q Q Q Q (λs z8 hm hz8=>?_))));obtain⟨x6,b7⟩:=s;refine WN [1,3,12,13,14] Q Q (bO 5 Q (bJ hm Q (λh9 hm=>?_) (λh9 hm=>?_)))
  ·refine aQ 6 Q (VE hm λe10 he10 hm=>SX Q Q (bD TK Q Q Q Q he10) (aF 1 Q (cH 2 Q Q dR Q (cR 2 [none,none,none,some 3,some 2,some 1,none,none,some 3,some 2,some 1,some 2,some 1,some 2] Q Q (aL 4 Q (aS hm (λx11=>([(34,.d (.bool (x11)))])) (λx11=>[]) [34] [1,3,5,12,13,14] Q (λz12 hm=>?_) (λx11 hm=>?_)))))))
   ·refine aO 5 Q (SX Q Q (aN TK Q Q Q) (aF 1 Q (SB TK Q (λq13 hq13=>?_))));cases q13
    ·replace hm:=JF hq13 hm;exact aD 10 Q (aU [0,1,2] hm Q Q)
    replace hm:=JT hq13 hm;exact aF 4 Q (VE hm λe14 he14 hm=>SX Q Q (bD TK Q Q Q Q he14) (aD 5 Q (aU [0,1,2] hm Q Q)))
   refine WN [1,3,5,12,13,14,34] Q Q (bF hm Q (λh15 hm=>?_) (λh15 hm=>?_))
   ·exact aQ 4 Q (GE hm λg16 hm=>qJN (nK .i64) D.bool qKU Q Q Q Q g16 (aF 4 Q (GE hm λg17 hm=>SX Q Q (bL Q Q Q Q g17) (aD 2 Q (aY [0,1] hm Q Q)))))
   exact aQ 4 Q (GE hm λg18 hm=>SX Q Q (bL Q Q Q Q g18) (aD 2 Q (aY [0,1] hm Q Q)))
  refine aM 2 Q (IE hm λv19 hm hz=>?_);rw [hz8 _ hz] at hm;exact WX (bC 1 Q (aU [0,1] hm Q Q))
 refine WN [1,3] Q Q (aQ 1 Q (cS (f:=Af.enc) 2 83 3 Q Q Q (aL 2 Q (aS hm (λb20=>([(6,.msl 2 3 0 b20.length)])) (λb20=>([(2,.flat 83 3 (b20.map Af.enc))])) [6] [] Q (λz21 hm=>?_) (λb20 hm=>?_)))))
 ·refine aO 3 Q (SX Q Q (aN TK Q Q Q) (aL 4 Q (aW hm (λ(x25,b26)=>([(6,.msl 2 3 0 b26.length),(42,.d (.int .i64 x25))])) (λ(x25,b26)=>([(2,.flat 83 3 (b26.map Af.enc))])) [6,42] [3,40,41] [0,1,2] Q k0 Q Q Q Q Q (λs z27 hm hz27=>?_))));obtain⟨x25,b26⟩:=s;refine WN [3,6,40,41,42] Q Q (bO 5 Q (bJ hm Q (λh28 hm=>?_) (λh28 hm=>?_)))
  ·refine aQ 6 Q (VE hm λe29 he29 hm=>SX Q Q (bD TK Q Q Q Q he29) (aL 5 Q (aS hm (λx30=>([(53,.d (.bool (x30)))])) (λx30=>[]) [53] [3,6,7,40,41,42] Q (λz31 hm=>?_) (λx30 hm=>?_))))
   ·refine aO 2 Q (SB TK Q (λq32 hq32=>?_));cases q32
    ·replace hm:=JB hq32 hm;exact aD 6 Q (aU [0,1,2] hm Q Q)
    replace hm:=JA hq32 hm;exact aF 2 Q (GE hm λg33 hm=>SX Q Q (vL (nK .i64) D.bool _ _ false Q qKU qLY Q Q Q Q g33) (aD 3 Q (aU [0,1,2] hm Q Q)))
   refine WN [3,6,7,40,41,42,53] Q Q (bF hm Q (λh34 hm=>?_) (λh34 hm=>?_))
   ·exact aQ 3 Q (SX Q Q (bV Q yL eA Q Q Q Q) (SX Q Q (cI [.tmp 56] TK Q Q eA Q Q Q Q Q) (GE hm λg35 hm=>cK (f:=Af.enc) ([(⟨(5:Int),x25,(0:Int)⟩:Af)]:List Af) TK Q Q eA Q Q Q Q Q (λh=>absurd h (zQV _)) Q cC g35 Q Q (aF 5 Q (GE hm λg36 hm=>SX Q Q (bL Q Q Q Q g36) (aD 2 Q (aY [0,1,2] hm Q Q)))))))
   exact aQ 4 Q (GE hm λg37 hm=>SX Q Q (bL Q Q Q Q g37) (aD 2 Q (aY [0,1,2] hm Q Q)))
  refine aM 2 Q (IE hm λv38 hm hz=>?_);rw [hz27 _ hz] at hm;exact WX (bC 1 Q (aU [0,1,2] hm Q Q))
 refine WN [6] Q Q (aM 6 Q ?_);obtain rfl:=OJ hm;exact EndsS.one _ Q (bS Q) (.refl _)
theorem qAC {p0:An} {r:(List Af)} (hm:fY p0=some r):RetD TP 41 [p0.enc] (.sl 3 (r.map Af.enc)):=by
 refine .of (mv:=λ_=>false) (aK (bA Q) func41 Q ntmps41 Q Q (λwX gX=>?_));unfold fY at hm;refine WN [0] Q Q (aO 1 Q (bQ 0 Q Q Q (aF 4 Q (vQ 3 3 Q (qGL 11 (.mmap 1) Q Q (aL 3 Q (aS hm (λm1=>[]) (λm1=>([(1,.map 3 3 (dB (D.int .i64) (D.int .i64) m1))])) [] [1,3] Q (λz2 hm=>?_) (λm1 hm=>?_))))))))
 ·refine aO 4 Q (SX Q Q (aN TK Q Q Q) (aL 4 Q (aW hm (λ(x6,b7)=>([(16,.d (.int .i64 x6))])) (λ(x6,b7)=>([(1,.map 3 3 (dB (D.int .i64) (D.int .i64) b7))])) [16] [1,3,14,15] [0,1] Q k0 Q Q Q Q Q (λs z8 hm hz8=>?_))));obtain⟨x6,b7⟩:=s;refine WN [1,3,14,15,16] Q Q (bO 5 Q (bJ hm Q (λh9 hm=>?_) (λh9 hm=>?_)))
  ·refine bM 2 Q (aS hm (λm10=>[]) (λm10=>([(1,.map 3 3 (dB (D.int .i64) (D.int .i64) m10))])) [] [1,3,14,15,16] Q (λz11 hm=>?_) (λm10 hm=>?_))
   ·refine aO 2 Q (VE hm λe12 he12 hm=>SX Q Q (bD TK Q Q Q Q he12) (aF 1 Q (cH 2 Q Q qG Q (cR 2 [none,none,none,none,some 3,some 1,some 1,some 1,some 1,none,none,none,none,none] Q Q (aF 6 Q (SX Q Q (aN TK Q Q Q) (aL 4 Q (aW hm (λ(x16,b17)=>([(23,.d (.int .i64 x16))])) (λ(x16,b17)=>([(1,.map 3 3 (dB (D.int .i64) (D.int .i64) b17))])) [23] [1,3,14,15,16,21,22] [0,1] Q k0 Q Q Q Q Q (λs z18 hm hz18=>?_)))))))));obtain⟨x16,b17⟩:=s;refine WN [1,3,14,15,16,21,22,23] Q Q (bO 5 Q (bJ hm Q (λh19 hm=>?_) (λh19 hm=>?_)))
    ·exact aQ 5 Q (VE hm λe20 he20 hm=>SX Q Q (bD TK Q Q Q Q he20) (aF 7 Q (GE hm λg21 hm=>SX Q Q (vL (nK .i64) (D.int .i64) _ _ (0:Int) Q qKT dD Q Q Q Q g21) (GE hm λg22 hm=>SX Q Q (bL Q Q Q Q g22) (GE hm λg23 hm=>qJN (nK .i64) (D.int .i64) qKT Q Q Q Q g23 (aF 4 Q (GE hm λg24 hm=>SX Q Q (bL Q Q Q Q g24) (aD 2 Q (aY [0,1] hm Q Q)))))))))
    refine aM 2 Q (IE hm λv25 hm hz=>?_);rw [hz18 _ hz] at hm;exact WX (bC 2 Q (aU [0,1] hm Q Q))
   exact WN [1,3,14,15,16] Q Q (aQ 1 Q (GE hm λg26 hm=>SX Q Q (bL Q Q Q Q g26) (aD 2 Q (aY [0,1] hm Q Q))))
  refine aM 2 Q (IE hm λv27 hm hz=>?_);rw [hz8 _ hz] at hm;exact WX (bC 1 Q (aU [0,1] hm Q Q))
 refine WN [1,3] Q Q (aQ 1 Q (cS (f:=Af.enc) 2 83 3 Q Q Q (aL 2 Q (aS hm (λb28=>([(8,.msl 2 3 0 b28.length)])) (λb28=>([(2,.flat 83 3 (b28.map Af.enc))])) [8] [] Q (λz29 hm=>?_) (λb28 hm=>?_)))))
 ·refine aO 4 Q (SX Q Q (aN TK Q Q Q) (aL 4 Q (aW hm (λ(x33,b34)=>([(8,.msl 2 3 0 b34.length),(37,.d (.int .i64 x33))])) (λ(x33,b34)=>([(2,.flat 83 3 (b34.map Af.enc))])) [8,37] [1,3,36] [0,1,2] Q k0 Q Q Q Q Q (λs z35 hm hz35=>?_))));obtain⟨x33,b34⟩:=s;refine WN [1,3,8,36,37] Q Q (bO 5 Q (bJ hm Q (λh36 hm=>?_) (λh36 hm=>?_)))
  ·refine bM 9 Q (aS hm (λidle37=>([(10,.d (.bool (idle37)))])) (λidle37=>[]) [10] [1,3,8,9,36,37] Q (λz38 hm=>?_) (λidle37 hm=>?_))
   ·refine aO 5 Q (SX Q Q (aN TK Q Q Q) (aF 1 Q (SB TK Q (λq39 hq39=>?_))));cases q39
    ·replace hm:=JF hq39 hm;exact aD 11 Q (aU [0,1,2] hm Q Q)
    replace hm:=JT hq39 hm;exact aF 4 Q (VE hm λe40 he40 hm=>SX Q Q (bD TK Q Q Q Q he40) (aD 6 Q (aU [0,1,2] hm Q Q)))
   refine WN [1,3,8,9,10,36,37] Q Q (aS hm (λx41=>([(68,.d (.bool (x41)))])) (λx41=>[]) [68] [1,3,8,9,36,37] Q (λz42 hm=>?_) (λx41 hm=>?_))
   ·refine aO 3 Q (GE hm λg43 hm=>SX Q Q (vL (nK .i64) (D.int .i64) _ _ (0:Int) Q qKT dD Q Q Q Q g43) (aF 1 Q (SB TK Q (λq44 hq44=>?_))));cases q44
    ·replace hm:=JF hq44 hm;refine aF 2 Q (GE hm λg45 hm=>SX Q Q (vL (nK .i64) (D.int .i64) _ _ (0:Int) Q qKT dD Q Q Q Q g45) (aF 1 Q (SB TK Q (λq46 hq46=>?_))));cases q46
     ·replace hm:=JF hq46 hm;exact aD 4 Q (aU [0,1,2] hm Q Q)
     replace hm:=JT hq46 hm;exact aD 4 Q (aU [0,1,2] hm Q Q)
    replace hm:=JT hq44 hm;exact aD 9 Q (aU [0,1,2] hm Q Q)
   refine WN [1,3,8,9,36,37,68] Q Q (bF hm Q (λh47 hm=>?_) (λh47 hm=>?_))
   ·exact aQ 3 Q (SX Q Q (bV Q yL eA Q Q Q Q) (SX Q Q (cI [.tmp 71] TK Q Q eA Q Q Q Q Q) (GE hm λg48 hm=>cK (f:=Af.enc) ([(⟨(6:Int),x33,(0:Int)⟩:Af)]:List Af) TK Q Q eA Q Q Q Q Q (λh=>absurd h (zQV _)) Q cC g48 Q Q (aF 5 Q (GE hm λg49 hm=>SX Q Q (bL Q Q Q Q g49) (aD 2 Q (aY [0,1,2] hm Q Q)))))))
   exact aQ 4 Q (GE hm λg50 hm=>SX Q Q (bL Q Q Q Q g50) (aD 2 Q (aY [0,1,2] hm Q Q)))
  refine aM 2 Q (IE hm λv51 hm hz=>?_);rw [hz35 _ hz] at hm;exact WX (bC 1 Q (aU [0,1,2] hm Q Q))
 refine WN [8] Q Q (aM 6 Q ?_);obtain rfl:=OJ hm;exact EndsS.one _ Q (bS Q) (.refl _)
theorem qF {p0:(List Ap)} {p1:Ap->Ap->Option Bool} {p2:Ap->Ap->Option Af} {r:(List Af)} {c1:D} (hf1:∀ a0 a1 r,p1 a0 a1=some r->∃ F cs,qCO c1=some (F,cs)/\RetD TP F ([a0.enc,a1.enc]++cs) (.bool (r))) {c2:D} (hf2:∀ a0 a1 r,p2 a0 a1=some r->∃ F cs,qCO c2=some (F,cs)/\RetD TP F ([a0.enc,a1.enc]++cs) (r.enc)) (hm:dH p0 p1 p2=some r):Ret TP 76 [] (λ_=>false) ([.sl 32 (p0.map Ap.enc),c1,c2].map .d) (.msl 0 3 0 r.length) [.flat 83 3 (r.map Af.enc)]:=by
 refine iH (bA Q) func76 Q ntmps76 Q Q (λwX gX=>?_);unfold dH at hm;refine WN [0,1,2] Q Q (aO 1 Q (cS (f:=Af.enc) 0 83 3 Q Q Q (aF 3 Q (cS (f:=Af.enc) 1 83 3 Q Q Q (aL 2 Q (aS hm (λb1=>([(7,.msl 1 3 0 b1.length)])) (λb1=>([(1,.flat 83 3 (b1.map Af.enc))])) [7] [] Q (λz2 hm=>?_) (λb1 hm=>?_)))))))
 ·refine aO 2 Q (SX Q Q (aN TK Q Q Q) (aL 4 Q (aW hm (λ(x6,b7)=>([(7,.msl 1 3 0 b7.length),(14,.d (.int .i64 x6))])) (λ(x6,b7)=>([(1,.flat 83 3 (b7.map Af.enc))])) [7,14] [0,1,2,12,13] [0,1] Q k0 Q Q Q Q Q (λs z8 hm hz8=>?_))));obtain⟨x6,b7⟩:=s;refine WN [0,1,2,7,12,13,14] Q Q (bO 5 Q (bJ hm Q (λh9 hm=>?_) (λh9 hm=>?_)))
  ·refine bM 2 Q (aS hm (λb10=>([(7,.msl 1 3 0 b10.length)])) (λb10=>([(1,.flat 83 3 (b10.map Af.enc))])) [7] [0,1,2,12,13,14] Q (λz11 hm=>?_) (λb10 hm=>?_))
   ·refine aO 3 Q (VE hm λe12 he12 hm=>SX Q Q (bD TK Q Q Q Q he12) (aF 1 Q (cH 2 Q Q nM Q (cR 2 [some 3,none,none,none,none,none,none,none,none,none,none,none,none,none,none,none,none,none,none,none,none,none,none,none,some 4,some 2,none,none,none,none,none,none] Q Q (aF 7 Q (GE hm λg13 hm=>SX Q Q (bL Q Q Q Q g13) (GE hm λg14 hm=>SX Q Q (xT TK Q Q Q Q Q g14) (SX Q Q (aN TK Q Q Q) (aL 4 Q (aW hm (λ(x18,b19)=>([(7,.msl 1 3 0 b19.length),(24,.d (.int .i64 x18))])) (λ(x18,b19)=>([(1,.flat 83 3 (b19.map Af.enc))])) [7,24] [0,1,2,9,12,13,14,22,23] [0,1,2] Q k0 Q Q Q Q Q (λs z20 hm hz20=>?_)))))))))));obtain⟨x18,b19⟩:=s;refine WN [0,1,2,7,9,12,13,14,22,23,24] Q Q (bO 5 Q (bJ hm Q (λh21 hm=>?_) (λh21 hm=>?_)))
    ·refine aQ 5 Q (VE hm λe22 he22 hm=>SX Q Q (bD TK Q Q Q Q he22) (aF 1 Q (cH 3 Q Q nM Q (cR 3 [some 3,none,none,none,none,none,none,none,none,none,none,none,none,none,none,none,none,none,none,none,none,none,none,none,some 4,some 2,none,none,none,none,none,none] Q Q (aF 7 Q (BE hm λr23 hr23 hm=>?_))))));obtain⟨Fr23,csr23,hFr23,hcr23⟩:=hf1 _ _ _ hr23;refine SX Q Q (uO Q Q hFr23 Q hcr23) (aL 2 Q (bF hm Q (λh24 hm=>?_) (λh24 hm=>?_)))
     ·refine aQ 5 Q (BE hm λr25 hr25 hm=>?_);obtain⟨Fr25,csr25,hFr25,hcr25⟩:=hf2 _ _ _ hr25;exact SX Q Q (uO Q Q hFr25 Q hcr25) (SX Q Q (cI [.tmp 36] TK Q Q eA Q Q Q Q Q) (GE hm λg26 hm=>cK (f:=Af.enc) ([r25]:List Af) TK Q Q eA Q Q Q Q Q (λh=>absurd h (zQV _)) Q cC g26 Q Q (aL 4 Q (WN [0,1,2,7,9,12,13,14,22,23,24] Q Q (aQ 1 Q (GE hm λg27 hm=>SX Q Q (bL Q Q Q Q g27) (aD 2 Q (aY [0,1,2] hm Q Q))))))))
     exact aQ 4 Q (GE hm λg28 hm=>SX Q Q (bL Q Q Q Q g28) (aD 2 Q (aY [0,1,2] hm Q Q)))
    refine aM 2 Q (IE hm λv29 hm hz=>?_);rw [hz20 _ hz] at hm;exact WX (bC 2 Q (aU [0,1] hm Q Q))
   exact WN [0,1,2,7,12,13,14] Q Q (aQ 1 Q (GE hm λg30 hm=>SX Q Q (bL Q Q Q Q g30) (aD 2 Q (aY [0,1] hm Q Q))))
  refine aM 2 Q (IE hm λv31 hm hz=>?_);rw [hz8 _ hz] at hm;exact WX (bC 1 Q (aU [0,1] hm Q Q))
 refine WN [7] Q Q (aM 6 Q ?_);obtain rfl:=OJ hm;exact⟨_,[1],res Q,by decide,k0,Q,Q⟩
theorem tT {p0:An} {r:(List Af)} (hm:dF p0=some r):Ret TP 36 [] (λ_=>false) ([p0.enc].map .d) (.msl 0 3 0 r.length) [.flat 83 3 (r.map Af.enc)]:=by
 refine iH (bA Q) func36 Q ntmps36 Q Q (λwX gX=>?_);unfold dF at hm;refine WN [0] Q Q (aO 1 Q (bQ 0 Q Q Q (cS (f:=Af.enc) 1 83 3 Q Q Q (aL 2 Q (zEZ 0 Q Q Q Q Q (aQ 9 Q (BE hm λr1 hr1 hm=>sR Q Q Q (qF (λ_ _ r h=>⟨73,_,Q,(kX h).retD⟩) (λ_ _ r h=>⟨77,_,Q,(kW h).retD⟩) hr1) Q Q (qGL 8 (.msl 2 3 0 r1.length) Q Q (aD 4 Q ?_)))))))));obtain rfl:=OJ hm;exact⟨_,[2],res Q,by decide,k0,Q,Q⟩
theorem iG {p0:An} {r:(List Af)} (hm:eD p0=some r):RetD TP 11 [p0.enc] (.sl 3 (r.map Af.enc)):=by
 refine .of (mv:=λ_=>false) (aK (bA Q) func11 Q ntmps11 Q Q (λwX gX=>?_));unfold eD at hm;refine WN [0] Q Q (aO 1 Q (bQ 0 Q Q Q (aF 5 Q (BE hm λr1 hr1 hm=>sR Q Q Q (tT hr1) Q Q (qGL 7 (.msl 1 3 0 r1.length) Q Q (aL 3 Q (aS hm (λb2=>([(3,.msl 1 3 0 b2.length)])) (λb2=>([(1,.flat 83 3 (b2.map Af.enc))])) [3] [1] Q (λz3 hm=>?_) (λb2 hm=>?_))))))))
 ·refine aO 3 Q (SX Q Q (aN TK Q Q Q) (aL 4 Q (aW hm (λ(x7,b8)=>([(3,.msl 1 3 0 b8.length),(11,.d (.int .i64 x7))])) (λ(x7,b8)=>([(1,.flat 83 3 (b8.map Af.enc))])) [3,11] [1,9,10] [0,1] Q k0 Q Q Q Q Q (λs z9 hm hz9=>?_))));obtain⟨x7,b8⟩:=s;refine WN [1,3,9,10,11] Q Q (bO 5 Q (bJ hm Q (λh10 hm=>?_) (λh10 hm=>?_)))
  ·refine aQ 5 Q (VE hm λe11 he11 hm=>SX Q Q (bD TK Q Q Q Q he11) (aF 1 Q (cH 2 Q Q nM Q (cR 2 [some 3,none,none,none,none,none,none,none,none,none,none,none,none,none,none,none,none,none,none,none,none,none,none,none,some 4,some 2,none,none,none,none,none,none] Q Q (aL 3 Q (aS hm (λx12=>([(27,.d (.bool (x12)))])) (λx12=>[]) [27] [1,3,5,9,10,11] Q (λz13 hm=>?_) (λx12 hm=>?_)))))))
   ·refine aO 4 Q (c_N hm (xI ·) Q Q Q Q λr14 hm=>SB TK Q (λq15 hq15=>?_));cases q15
    ·replace hm:=JB hq15 hm;exact aD 9 Q (aU [0,1,2] hm Q Q)
    replace hm:=JA hq15 hm;exact aD 9 Q (aU [0,1,2] hm Q Q)
   refine WN [1,3,5,9,10,11,27] Q Q (bF hm Q (λh16 hm=>?_) (λh16 hm=>?_))
   ·exact aQ 6 Q (SX Q Q (bV Q yL eA Q Q Q Q) (SX Q Q (cI [.tmp 33] TK Q Q eA Q Q Q Q Q) (GE hm λg17 hm=>cK (f:=Af.enc) ([(⟨(2:Int),e11.cab.train.id,(0:Int)⟩:Af)]:List Af) TK Q Q eA Q Q Q Q Q (λh=>absurd h (zQV _)) Q cC g17 Q Q (aF 5 Q (GE hm λg18 hm=>SX Q Q (bL Q Q Q Q g18) (aD 2 Q (aY [0,1] hm Q Q)))))))
   exact aQ 4 Q (GE hm λg19 hm=>SX Q Q (bL Q Q Q Q g19) (aD 2 Q (aY [0,1] hm Q Q)))
  refine aM 2 Q (IE hm λv20 hm hz=>?_);rw [hz9 _ hz] at hm;exact WX (bC 1 Q (aU [0,1] hm Q Q))
 refine WN [1,3] Q Q (aS hm (λb21=>([(3,.msl 1 3 0 b21.length)])) (λb21=>([(1,.flat 83 3 (b21.map Af.enc))])) [3] [1] Q (λz22 hm=>?_) (λb21 hm=>?_))
 ·refine aO 5 Q (c_N hm (qHT ·) Q Q Q Q λr23 hm=>aL 3 Q (bF hm Q (λh24 hm=>?_) (λh24 hm=>?_)))
  ·exact aQ 2 Q (SX Q Q (bV Q yL eA Q Q Q Q) (SX Q Q (cI [.tmp 44] TK Q Q eA Q Q Q Q Q) (GE hm λg25 hm=>cK (f:=Af.enc) ([(⟨(3:Int),(0:Int),(0:Int)⟩:Af)]:List Af) TK Q Q eA Q Q Q Q Q (λh=>absurd h (zQV _)) Q cC g25 Q Q (aD 2 Q (aU [0,1] hm Q Q)))))
  exact aM 1 Q (aU [0,1] hm Q Q)
 refine WN [1,3] Q Q (aQ 3 Q (c_D hm (qCB ·) Q Q Q Q λr26 hm=>GE hm λg27 hm=>cK (f:=Af.enc) r26 TK Q Q eA Q Q Q Q Q (λh=>absurd h (zQV _)) Q cC g27 Q Q (aF 6 Q (c_D hm (qAB ·) Q Q Q Q λr28 hm=>GE hm λg29 hm=>cK (f:=Af.enc) r28 TK Q Q eA Q Q Q Q Q (λh=>absurd h (zQV _)) Q cC g29 Q Q (aF 6 Q (c_D hm (qAC ·) Q Q Q Q λr30 hm=>GE hm λg31 hm=>cK (f:=Af.enc) r30 TK Q Q eA Q Q Q Q Q (λh=>absurd h (zQV _)) Q cC g31 Q Q (aD 4 Q ?_)))))));obtain rfl:=OJ hm;exact EndsS.one _ Q (bS Q) (.refl _)
theorem rA {p0:An} {r:Bool} (hm:gI p0=some r):RetN TP 12 [p0.enc] (.bool (r)):=by
 refine .unit (aK (bA Q) func12 Q ntmps12 Q Q (λwX gX=>?_)) Q;unfold gI at hm;exact WN [0] Q Q (aO 1 Q (bQ 0 Q Q Q (aF 5 Q (c_D hm (iG ·) Q Q Q Q λr1 hm=>SX Q Q (aN TK Q Q Q) (aD 5 Q (aR hm Q))))))
theorem qL {p0:An} {r:Bool} (hm:jV p0=some r):RetN TP 13 [p0.enc] (.bool (r)):=by
 refine .unit (aK (bA Q) func13 Q ntmps13 Q Q (λwX gX=>?_)) Q;unfold jV at hm;exact WN [0] Q Q (aO 1 Q (bQ 0 Q Q Q (aF 5 Q (c_D hm (wH ·) Q Q Q Q λr1 hm=>SX Q Q (aN TK Q Q Q) (aD 5 Q (aR hm Q))))))
theorem wO {p0:Ag} {p1:(List Bd)} {p2:(List Be)} {p3:(List A6)} {r0:An} {r1:Int} (hm:vR p0 p1 p2 p3=some (r0,r1)):Ret TP 29 [] (λ_=>false) ([p0.enc,.sl 10 (p1.map Bd.enc),.sl 3 (p2.map Be.enc),.sl 2 (p3.map A6.enc)].map .d) (.tup [.agg [.d (.str r0.layout.name),.d (.sl 1 (r0.layout.Ac.map D.str)),.d (.sl 7 (r0.layout.Ae.map Aw.enc)),.d (.sl 4 (r0.layout.joints.map Bb.enc)),.d (.sl 4 (r0.layout.Ah.map A0.enc)),.d (.sl 3 (r0.layout.balises.map A4.enc)),.d (.sl 14 (r0.Ar.Ab.map Ai.enc)),.d (.sl 1 (r0.Ar.Ad.map (D.int .i64))),.d (.sl 1 (r0.Ar.A1.map (D.int .i64))),.d (.int .i64 r0.Ar.Ac),.d (.int .i64 r0.Ar.Ah),.d (.sl 3 (r0.inter.Ab.map Ak.enc)),.d (.sl 1 (r0.inter.lies.map (D.int .i64))),.d (.sl 3 (r0.machines.map At.enc)),.d (.sl 1 (r0.clear.map D.bool)),.msl 0 32 0 r0.units.length,.d (.sl 14 (r0.center.tracks.map A5.enc)),.d (.sl 4 (r0.center.sessions.map Ax.enc)),.d (.sl 4 (r0.air.map Ba.enc)),.d (.sl 3 (r0.faults.map Bf.enc)),.d (.sl 4 (r0.pending.map Bn.enc)),.d (.sl 4 (r0.possessions.map Ay.enc)),.d (.sl 6 (r0.restrictions.map Av.enc)),.d (.sl 3 (r0.orders.map Bg.enc)),.d (.sl 2 (r0.trips.map A6.enc)),.d (.sl 1 (r0.plan.starts.map (λ(l:List Int)=>D.sl 1 (l.map (D.int .i64))))),.d (.int .i64 r0.plan.cost),.d (.sl 1 (r0.progress.map (D.int .i64))),.d (.sl 5 (r0.decisions.map A3.enc)),.d (.int .i64 r0.now)],.d (.int .i64 r1)]) [.flat 81 32 (r0.units.map Ap.enc)]:=by
 refine iH (bA Q) func29 Q ntmps29 Q Q (λwX gX=>?_);unfold vR at hm;refine WN [0,1,2,3] Q Q (aO 1 Q (bQ 0 Q Q Q (cH 1 Q Q qDG Q (fJ (f:=Ap.enc) 1 15 2 81 32 Q Q Q (cR 1 [none,some 1,some 7,some 4,some 4,some 3,some 14,some 1,some 1,none,none,some 3,some 1,some 3,some 1,none,some 14,some 4,some 4,some 3,some 4,some 4,some 6,some 3,some 2,some 1,none,some 1,some 5,none] Q Q (aF 5 Q (BE hm λr1 hr1 hm=>?_)))))));obtain⟨r2,r3⟩:=r1;refine SX Q Q (cU Q Q Q (wQ hr1)) (aF 3 Q (cH 3 Q Q zV Q (cR 3 [some 14,some 1,some 1,none,none] Q Q (aL 10 Q (eC hm Q (λh4 hm=>?_) (λh4 hm=>?_))))))
 ·cases hm
 refine aQ 6 Q (BE hm λr5 hr5 hm=>?_);obtain⟨r6,r7⟩:=r5;refine SX Q Q (cU Q Q Q (qMR hr5)) (aF 3 Q (cH 4 Q Q qQI Q (cR 4 [some 14,some 4] Q Q (aL 4 Q (WN [1,2,3,4,8,10,11,12] Q Q (bM 6 Q (eC hm Q (λh8 hm=>?_) (λh8 hm=>?_))))))))
 ·cases hm
 refine bM 2 Q (cV (bI follows (DA [0] TK Q ?_)));iterate 2 (refine DA [3] TK Q ?_)
 refine mD [] hm (qHA ·) Q Q Q Q λr9 hm=>DA [3] TK Q (mD [] hm (qGZ ·) Q Q Q Q λr10 hm=>DA [] TK Q (DA [0] TK Q (DX [] Q Q (aN TK Q Q Q) (GE hm λg11 hm=>DX [] Q Q (qJD (f:=D.bool) (x:=false) TK Q Q qLY Q Q Q Q Q g11 Q) (DA [4] TK Q ?_)))));iterate 2 (refine DA [] TK Q ?_)
 refine DX [] Q Q (aN TK Q Q Q) (GE hm λg12 hm=>DX [] Q Q (qJD (f:=(D.int .i64)) (x:=(0:Int)) TK Q Q dD Q Q Q Q Q g12 Q) (DX [] Q Q (nC (v:=.d (.agg [(.str p0.name),(.sl 1 (p0.Ac.map D.str)),(.sl 7 (p0.Ae.map Aw.enc)),(.sl 4 (p0.joints.map Bb.enc)),(.sl 4 (p0.Ah.map A0.enc)),(.sl 3 (p0.balises.map A4.enc)),(.sl 14 (r2.Ab.map Ai.enc)),(.sl 1 (r2.Ad.map (D.int .i64))),(.sl 1 (r2.A1.map (D.int .i64))),(.int .i64 r2.Ac),(.int .i64 r2.Ah),(.sl 3 (r9.Ab.map Ak.enc)),(.sl 1 (r9.lies.map (D.int .i64))),(.sl 3 (r10.map At.enc)),(.sl 1 ((List.replicate (p0.Ah.length:Int).toNat false).map D.bool)),.nilsl,(.sl 14 (r6.tracks.map A5.enc)),(.sl 4 (r6.sessions.map Ax.enc)),.nilsl,.nilsl,.nilsl,.nilsl,.nilsl,.nilsl,(.sl 2 (p3.map A6.enc)),.nilsl,(.int .i64 (0:Int)),(.sl 1 ((List.replicate (p3.length:Int).toNat (0:Int)).map (D.int .i64))),.nilsl,(.int .i64 (0:Int))])) Q plc55 qDG Q Q Q Q) (oC [5] _ (.mptr 5 0 0 0) Q (eH Q) Q (kR Q Q qDG Q Q) ?_)));refine DT ?_ (by kernel_rfl);refine aF 1 Q (fJ (f:=Ap.enc) 5 15 6 81 32 Q Q Q (cR 5 [none,none,none,none,none,none,none,none,none,none,none,none,none,none,none,none,none,none,some 4,some 3,some 4,some 4,some 6,some 3,none,some 1,none,none,some 5,none] Q Q (aL 2 Q (WN [1,2,3,4,8,10,13] Q Q (bE hm (λb13=>[]) (λb13=>([(5,.box 55 [.d (.str p0.name),.d (.sl 1 (p0.Ac.map D.str)),.d (.sl 7 (p0.Ae.map Aw.enc)),.d (.sl 4 (p0.joints.map Bb.enc)),.d (.sl 4 (p0.Ah.map A0.enc)),.d (.sl 3 (p0.balises.map A4.enc)),.d (.sl 14 (r2.Ab.map Ai.enc)),.d (.sl 1 (r2.Ad.map (D.int .i64))),.d (.sl 1 (r2.A1.map (D.int .i64))),.d (.int .i64 r2.Ac),.d (.int .i64 r2.Ah),.d (.sl 3 (r9.Ab.map Ak.enc)),.d (.sl 1 (r9.lies.map (D.int .i64))),.d (.sl 3 (r10.map At.enc)),.d (.sl 1 ((List.replicate (p0.Ah.length:Int).toNat false).map D.bool)),.msl 6 32 0 b13.length,.d (.sl 14 (r6.tracks.map A5.enc)),.d (.sl 4 (r6.sessions.map Ax.enc)),.d (.sl 4 (([]:List Ba).map Ba.enc)),.d (.sl 3 (([]:List Bf).map Bf.enc)),.d (.sl 4 (([]:List Bn).map Bn.enc)),.d (.sl 4 (([]:List Ay).map Ay.enc)),.d (.sl 6 (([]:List Av).map Av.enc)),.d (.sl 3 (([]:List Bg).map Bg.enc)),.d (.sl 2 (p3.map A6.enc)),.d (.sl 1 (([]:List (List Int)).map (λ(l:List Int)=>D.sl 1 (l.map (D.int .i64))))),.d (.int .i64 (0:Int)),.d (.sl 1 ((List.replicate (p3.length:Int).toNat (0:Int)).map (D.int .i64))),.d (.sl 5 (([]:List A3).map A3.enc)),.d (.int .i64 (0:Int))]),(6,.flat 81 32 (b13.map Ap.enc))])) [] [3,8,10,13] Q (λz14 hm hz14=>?_) (λb13 hm=>?_))))))
 ·refine bO 5 Q (aW hm (λ(i18,b19)=>([(14,.d (.int .i64 i18))])) (λ(i18,b19)=>([(5,.box 55 [.d (.str p0.name),.d (.sl 1 (p0.Ac.map D.str)),.d (.sl 7 (p0.Ae.map Aw.enc)),.d (.sl 4 (p0.joints.map Bb.enc)),.d (.sl 4 (p0.Ah.map A0.enc)),.d (.sl 3 (p0.balises.map A4.enc)),.d (.sl 14 (r2.Ab.map Ai.enc)),.d (.sl 1 (r2.Ad.map (D.int .i64))),.d (.sl 1 (r2.A1.map (D.int .i64))),.d (.int .i64 r2.Ac),.d (.int .i64 r2.Ah),.d (.sl 3 (r9.Ab.map Ak.enc)),.d (.sl 1 (r9.lies.map (D.int .i64))),.d (.sl 3 (r10.map At.enc)),.d (.sl 1 ((List.replicate (p0.Ah.length:Int).toNat false).map D.bool)),.msl 6 32 0 b19.length,.d (.sl 14 (r6.tracks.map A5.enc)),.d (.sl 4 (r6.sessions.map Ax.enc)),.d (.sl 4 (([]:List Ba).map Ba.enc)),.d (.sl 3 (([]:List Bf).map Bf.enc)),.d (.sl 4 (([]:List Bn).map Bn.enc)),.d (.sl 4 (([]:List Ay).map Ay.enc)),.d (.sl 6 (([]:List Av).map Av.enc)),.d (.sl 3 (([]:List Bg).map Bg.enc)),.d (.sl 2 (p3.map A6.enc)),.d (.sl 1 (([]:List (List Int)).map (λ(l:List Int)=>D.sl 1 (l.map (D.int .i64))))),.d (.int .i64 (0:Int)),.d (.sl 1 ((List.replicate (p3.length:Int).toNat (0:Int)).map (D.int .i64))),.d (.sl 5 (([]:List A3).map A3.enc)),.d (.int .i64 (0:Int))]),(6,.flat 81 32 (b19.map Ap.enc))])) [14] [1,2,3,4,8,10,13] [0,1,2,3,4,5,6] Q k0 Q Q Q Q Q (λs z20 hm hz20=>?_));obtain⟨i18,b19⟩:=s;refine WN [1,2,3,4,8,10,13,14] Q Q (aO 4 Q (SX Q Q (aN TK Q Q Q) (aL 3 Q (bJ hm Q (λh21 hm=>?_) (λh21 hm=>?_)))))
  ·refine bM 5 Q (bI follows ?_);iterate 3 (refine DA [0,1,2,3,4,5,6] TK Q ?_)
   refine VE hm λe22 he22 hm=>DX [0,1,2,3,4,5,6] Q Q (bD TK Q Q Q Q he22) (DA [0,1,2,3,4,5,6] TK Q (dQ [0,1,2,3,4,5,6] hm (qAD ·) Q Q Q Q λr23 hm=>DA [0,1,2,3,4,5,6] TK Q ?_));refine DT ?_ (by kernel_rfl);refine aL 2 Q (WN [1,2,3,4,8,10,13,14,65] Q Q (bF hm Q (λh24 hm=>?_) (λh24 hm=>?_)))
   ·cases hm
   refine bM 2 Q (cV (dV follows (DA [] TK Q (DA [5] TK Q ?_))));iterate 2 (refine DA [] TK Q ?_)
   refine VE hm λe25 he25 hm=>DX [] Q Q (bD TK Q Q Q Q he25) ?_;iterate 3 (refine DA [] TK Q ?_)
   refine VE hm λe26 he26 hm=>DX [] Q Q (bD TK Q Q Q Q he26) (DA [] TK Q (mD [] hm (qMS ·) Q Q Q Q λr27 hm=>DX [] Q Q (bV Q plc81 nM Q Q Q Q) (DX [] Q Q (cI [.tmp 78] TK Q Q nM Q Q Q Q Q) (GE hm λg28 hm=>oC [6,7] _ (.msl 7 32 0 (b19++([(⟨e25,(0:Int),(0:Int),(0:Int),r27⟩:Ap)]:List Ap)).length) Q (eH Q) Q (sN (f:=Ap.enc) (xs:=b19) ([(⟨e25,(0:Int),(0:Int),(0:Int),r27⟩:Ap)]:List Ap) Q Q Q TK Q nM Q Q Q Q Q Q cC g28) (DA [] TK Q ?_)))));refine DT ?_ (by kernel_rfl);exact aL 4 Q (WN [1,2,3,4,8,10,13,14] Q Q (aQ 2 Q (GE hm λg29 hm=>SX Q Q (bL Q Q Q Q g29) (aD 2 Q (aY [0,1,2,3,4,5,7] hm Q Q)))))
  refine aM 2 Q (IE hm λv30 hm hz=>?_);rw [hz20 _ hz] at hm;exact WX (bC 1 Q (aY [0,1,2,3,4,5,6] hm Q Q))
 refine WN [3,8,10,13] Q Q (aQ 4 Q (c_N hm (rC ·) Q Q Q Q λr31 hm=>aL 8 Q (eC hm Q (λh32 hm=>?_) (λh32 hm=>?_))))
 ·cases hm
 refine aQ 5 Q (BE hm λr33 hr33 hm=>?_);obtain⟨r34,r35⟩:=r33;refine SX Q Q (cU Q Q Q (qGS hr33)) (aF 3 Q (cH 7 Q Q qJC Q (cR 7 [some 1,none] Q Q (aL 4 Q (WN [8,11,13,16] Q Q (bM 6 Q (eC hm Q (λh36 hm=>?_) (λh36 hm=>?_))))))))
 ·cases hm
 refine bM 8 Q (WN [8,13] Q Q (bM 6 Q (WN [8,9] Q Q (aM 1 Q ?_))));obtain⟨rfl,rfl⟩:=Prod.mk.inj (Option.some.inj hm);exact⟨_,[6],.mk _ (.cons (.agg (TK.lay Q) Q Q Q Q) (.cons (.tmp 9) .nil)) Q,by decide,k0,Q,Q⟩
theorem wY  {r:Bool} (hm:nI=some r):RetN TP 8 [] (.bool (r)):=by
 refine .unit (aK (bA Q) func8 Q ntmps8 Q Q (λwX gX=>?_)) Q;unfold nI at hm;refine WN [] Q Q (aO 5 Q (BE hm λr1 hr1 hm=>?_));obtain⟨r2,r3⟩:=r1;refine SX Q Q (cU Q Q Q (qHU hr1)) (aF 3 Q (cH 0 Q Q xD Q (cH 1 Q Q zU Q (cR 1 [some 3,none,none] Q Q (aL 4 Q (cV (cV (bI follows (mD [] hm (yS ·) Q Q Q Q λr4 hm=>DA [0] TK Q (DX [] Q Q (cI [.tmp 16] TK Q Q xD Q Q Q Q Q) (DA [1] TK Q (DX [] Q Q (cI [.tmp 18] TK Q Q zU Q Q Q Q Q) ?_))))))))))));refine BE hm λr5 hr5 hm=>?_;obtain⟨r6,r7⟩:=r5;refine oC [2] [(2,.flat 81 32 (r6.units.map Ap.enc))] (.tup [.agg [.d (.str r6.layout.name),.d (.sl 1 (r6.layout.Ac.map D.str)),.d (.sl 7 (r6.layout.Ae.map Aw.enc)),.d (.sl 4 (r6.layout.joints.map Bb.enc)),.d (.sl 4 (r6.layout.Ah.map A0.enc)),.d (.sl 3 (r6.layout.balises.map A4.enc)),.d (.sl 14 (r6.Ar.Ab.map Ai.enc)),.d (.sl 1 (r6.Ar.Ad.map (D.int .i64))),.d (.sl 1 (r6.Ar.A1.map (D.int .i64))),.d (.int .i64 r6.Ar.Ac),.d (.int .i64 r6.Ar.Ah),.d (.sl 3 (r6.inter.Ab.map Ak.enc)),.d (.sl 1 (r6.inter.lies.map (D.int .i64))),.d (.sl 3 (r6.machines.map At.enc)),.d (.sl 1 (r6.clear.map D.bool)),.msl 2 32 0 r6.units.length,.d (.sl 14 (r6.center.tracks.map A5.enc)),.d (.sl 4 (r6.center.sessions.map Ax.enc)),.d (.sl 4 (r6.air.map Ba.enc)),.d (.sl 3 (r6.faults.map Bf.enc)),.d (.sl 4 (r6.pending.map Bn.enc)),.d (.sl 4 (r6.possessions.map Ay.enc)),.d (.sl 6 (r6.restrictions.map Av.enc)),.d (.sl 3 (r6.orders.map Bg.enc)),.d (.sl 2 (r6.trips.map A6.enc)),.d (.sl 1 (r6.plan.starts.map (λ(l:List Int)=>D.sl 1 (l.map (D.int .i64))))),.d (.int .i64 r6.plan.cost),.d (.sl 1 (r6.progress.map (D.int .i64))),.d (.sl 5 (r6.decisions.map A3.enc)),.d (.int .i64 r6.now)],.d (.int .i64 r7)]) Q (eH Q) Q (qIA (Bs:=[.flat 81 32 (r6.units.map Ap.enc)]) [2] (by intro i h;simp only [zQB,List.not_mem_nil,or_false] at h;rcases h with rfl<;>rfl) (by decide) Q Q Q Q ((wO hr5).args ((.cons (.refl _) (.cons (.refl _) (.cons (.refl _) (.cons (.nil _) .nil)))))) Q (by intro B h;simp only [zQB,List.not_mem_nil,or_false] at h;rcases h with rfl<;>rfl)) ?_;iterate 3 (refine DA [] TK Q ?_)
 refine oC [3] _ (.mptr 3 0 0 0) Q (eH Q) Q (kR Q Q qDG Q Q) (qPC 1000002 [3] [(3,.box 55 [.d (.str r6.layout.name),.d (.sl 1 (r6.layout.Ac.map D.str)),.d (.sl 7 (r6.layout.Ae.map Aw.enc)),.d (.sl 4 (r6.layout.joints.map Bb.enc)),.d (.sl 4 (r6.layout.Ah.map A0.enc)),.d (.sl 3 (r6.layout.balises.map A4.enc)),.d (.sl 14 (r6.Ar.Ab.map Ai.enc)),.d (.sl 1 (r6.Ar.Ad.map (D.int .i64))),.d (.sl 1 (r6.Ar.A1.map (D.int .i64))),.d (.int .i64 r6.Ar.Ac),.d (.int .i64 r6.Ar.Ah),.d (.sl 3 (r6.inter.Ab.map Ak.enc)),.d (.sl 1 (r6.inter.lies.map (D.int .i64))),.d (.sl 3 (r6.machines.map At.enc)),.d (.sl 1 (r6.clear.map D.bool)),.msl 2 32 0 r6.units.length,.d (.sl 14 (r6.center.tracks.map A5.enc)),.d (.sl 4 (r6.center.sessions.map Ax.enc)),.d (.sl 4 (r6.air.map Ba.enc)),.d (.sl 3 (r6.faults.map Bf.enc)),.d (.sl 4 (r6.pending.map Bn.enc)),.d (.sl 4 (r6.possessions.map Ay.enc)),.d (.sl 6 (r6.restrictions.map Av.enc)),.d (.sl 3 (r6.orders.map Bg.enc)),.d (.sl 2 (r6.trips.map A6.enc)),.d (.sl 1 (r6.plan.starts.map (λ(l:List Int)=>D.sl 1 (l.map (D.int .i64))))),.d (.int .i64 r6.plan.cost),.d (.sl 1 (r6.progress.map (D.int .i64))),.d (.sl 5 (r6.decisions.map A3.enc)),.d (.int .i64 r6.now)])] (eH Q) Q (tX TK Q Q Q Q Q Q Q Q Q Q) ?_);refine DT ?_ (by kernel_rfl);refine aL 4 Q ?_;refine qSI 3 15 2 [1,2,3,4] Q Q Q Q Q Q (by simp) Q Q Q ?_;refine aS hm (λx8=>([(40,.d (.bool (x8)))])) (λx8=>[]) [40] [1,2,3] Q (λz9 hm=>?_) (λx8 hm=>?_)
 ·refine aO 3 Q (SB TK Q (λq10 hq10=>?_));cases q10
  ·replace hm:=eN hq10 hm;refine aF 1 Q (c_D hm (iG ·) Q Q Q Q λr11 hm=>SX Q Q (aN TK Q Q Q) (aF 2 Q (SB TK Q (λq12 hq12=>?_))));cases q12
   ·replace hm:=eN hq12 hm;refine aF 1 Q (c_N hm (rA ·) Q Q Q Q λr13 hm=>aF 2 Q (SB TK Q (λq14 hq14=>?_)));cases q14
    ·replace hm:=JB hq14 hm;exact aF 1 Q (c_N hm (qL ·) Q Q Q Q λr15 hm=>aD 3 Q (aU [0,1,2,3] hm Q Q))
    replace hm:=JA hq14 hm;exact aD 5 Q (aU [0,1,2,3] hm Q Q)
   replace hm:=eM hq12 hm;exact aD 10 Q (aU [0,1,2,3] hm Q Q)
  replace hm:=eM hq10 hm;exact aD 16 Q (aU [0,1,2,3] hm Q Q)
 refine WN [1,2,3,40] Q Q (bF hm Q (λh16 hm=>?_) (λh16 hm=>?_))
 ·cases hm
 refine aQ 3 Q (SX Q Q (cI [.const (Value.bool Bool.false),.const (Value.bool Bool.true)] TK Q Q qLY Q Q Q Q Q) (aF 6 Q (c_D hm (iG ·) Q Q Q Q λr17 hm=>aF 5 Q (cH 4 Q Q xD Q (aL 3 Q (WN [1,2,5,6] Q Q (bM 5 Q (WN [1,2,5,6] Q Q (cV (cV (bI follows (mD [] hm (yS ·) Q Q Q Q λr18 hm=>?_))))))))))));refine DA [0] TK Q (DA [4] TK Q (DX [] Q Q (cI [.tmp 49,.tmp 50] TK Q Q xD Q Q Q Q Q) (DA [1] TK Q (DX [] Q Q (bV Q qRG fF Q Q Q Q) (DX [] Q Q (cI [.tmp 53] TK Q Q fF Q Q Q Q Q) (DX [] Q Q (bV Q zEQ zU Q Q Q Q) (DX [] Q Q (cI [.tmp 52,.tmp 55] TK Q Q zU Q Q Q Q Q) (BE hm λr19 hr19 hm=>?_))))))));obtain⟨r20,r21⟩:=r19;refine oC [5] [(5,.flat 81 32 (r20.units.map Ap.enc))] (.tup [.agg [.d (.str r20.layout.name),.d (.sl 1 (r20.layout.Ac.map D.str)),.d (.sl 7 (r20.layout.Ae.map Aw.enc)),.d (.sl 4 (r20.layout.joints.map Bb.enc)),.d (.sl 4 (r20.layout.Ah.map A0.enc)),.d (.sl 3 (r20.layout.balises.map A4.enc)),.d (.sl 14 (r20.Ar.Ab.map Ai.enc)),.d (.sl 1 (r20.Ar.Ad.map (D.int .i64))),.d (.sl 1 (r20.Ar.A1.map (D.int .i64))),.d (.int .i64 r20.Ar.Ac),.d (.int .i64 r20.Ar.Ah),.d (.sl 3 (r20.inter.Ab.map Ak.enc)),.d (.sl 1 (r20.inter.lies.map (D.int .i64))),.d (.sl 3 (r20.machines.map At.enc)),.d (.sl 1 (r20.clear.map D.bool)),.msl 5 32 0 r20.units.length,.d (.sl 14 (r20.center.tracks.map A5.enc)),.d (.sl 4 (r20.center.sessions.map Ax.enc)),.d (.sl 4 (r20.air.map Ba.enc)),.d (.sl 3 (r20.faults.map Bf.enc)),.d (.sl 4 (r20.pending.map Bn.enc)),.d (.sl 4 (r20.possessions.map Ay.enc)),.d (.sl 6 (r20.restrictions.map Av.enc)),.d (.sl 3 (r20.orders.map Bg.enc)),.d (.sl 2 (r20.trips.map A6.enc)),.d (.sl 1 (r20.plan.starts.map (λ(l:List Int)=>D.sl 1 (l.map (D.int .i64))))),.d (.int .i64 r20.plan.cost),.d (.sl 1 (r20.progress.map (D.int .i64))),.d (.sl 5 (r20.decisions.map A3.enc)),.d (.int .i64 r20.now)],.d (.int .i64 r21)]) Q (eH Q) Q (qIA (Bs:=[.flat 81 32 (r20.units.map Ap.enc)]) [5] (by intro i h;simp only [zQB,List.not_mem_nil,or_false] at h;rcases h with rfl<;>rfl) (by decide) Q Q Q Q ((wO hr19).args ((.cons (.refl _) (.cons (.refl _) (.cons (.refl _) (.cons (.nil _) .nil)))))) Q (by intro B h;simp only [zQB,List.not_mem_nil,or_false] at h;rcases h with rfl<;>rfl)) ?_;iterate 3 (refine DA [] TK Q ?_)
 refine oC [6] _ (.mptr 6 0 0 0) Q (eH Q) Q (kR Q Q qDG Q Q) (qPC 1000004 [6] [(6,.box 55 [.d (.str r20.layout.name),.d (.sl 1 (r20.layout.Ac.map D.str)),.d (.sl 7 (r20.layout.Ae.map Aw.enc)),.d (.sl 4 (r20.layout.joints.map Bb.enc)),.d (.sl 4 (r20.layout.Ah.map A0.enc)),.d (.sl 3 (r20.layout.balises.map A4.enc)),.d (.sl 14 (r20.Ar.Ab.map Ai.enc)),.d (.sl 1 (r20.Ar.Ad.map (D.int .i64))),.d (.sl 1 (r20.Ar.A1.map (D.int .i64))),.d (.int .i64 r20.Ar.Ac),.d (.int .i64 r20.Ar.Ah),.d (.sl 3 (r20.inter.Ab.map Ak.enc)),.d (.sl 1 (r20.inter.lies.map (D.int .i64))),.d (.sl 3 (r20.machines.map At.enc)),.d (.sl 1 (r20.clear.map D.bool)),.msl 5 32 0 r20.units.length,.d (.sl 14 (r20.center.tracks.map A5.enc)),.d (.sl 4 (r20.center.sessions.map Ax.enc)),.d (.sl 4 (r20.air.map Ba.enc)),.d (.sl 3 (r20.faults.map Bf.enc)),.d (.sl 4 (r20.pending.map Bn.enc)),.d (.sl 4 (r20.possessions.map Ay.enc)),.d (.sl 6 (r20.restrictions.map Av.enc)),.d (.sl 3 (r20.orders.map Bg.enc)),.d (.sl 2 (r20.trips.map A6.enc)),.d (.sl 1 (r20.plan.starts.map (λ(l:List Int)=>D.sl 1 (l.map (D.int .i64))))),.d (.int .i64 r20.plan.cost),.d (.sl 1 (r20.progress.map (D.int .i64))),.d (.sl 5 (r20.decisions.map A3.enc)),.d (.int .i64 r20.now)])] (eH Q) Q (tX TK Q Q Q Q Q Q Q Q Q Q) ?_);refine DT ?_ (by kernel_rfl);refine aL 3 Q (WN [2,5,7,8] Q Q (bM 1 Q ?_));refine cF [(67,.d (.bool (((!(decide (r21=(0:Int))))||(!(decide ((r20.units.length:Int)=(2:Int))))))))] [67] [2,5,7] Q ?_ ?_
 ·refine aO 3 Q (SB TK Q (λq22 hq22=>?_));cases q22
  ·refine aD 6 Q ?_;exact⟨[0,1,2,3,4,5,6],Q,k0,aV (aG (aI (by first|(simp [hq22];done)|(simp only [hq22];simp))) Q) Q⟩
  refine aD 6 Q ?_;exact⟨[0,1,2,3,4,5,6],Q,k0,aV (aG (aI (by first|(simp [hq22];done)|(simp only [hq22];simp))) Q) Q⟩
 refine WN [2,5,7,67] Q Q (bF hm Q (λh23 hm=>?_) (λh23 hm=>?_))
 ·cases hm
 refine aQ 6 Q (VE hm λe24 he24 hm=>SX Q Q (kQ TK Q Q Q Q he24 Q) (aF 1 Q (qIH (x':=(⟨r3,e24.speed,e24.xV,e24.braking,e24.cab⟩:Ap)) TK Q Q Q Q Q he24.2 Q Q Q (oW 69 (r20.units.set (1:Int).toNat (⟨r3,e24.speed,e24.xV,e24.braking,e24.cab⟩:Ap)).length Q List.length_set.symm ?_))));refine s_eqB 6 [.d (.str r20.layout.name),.d (.sl 1 (r20.layout.Ac.map D.str)),.d (.sl 7 (r20.layout.Ae.map Aw.enc)),.d (.sl 4 (r20.layout.joints.map Bb.enc)),.d (.sl 4 (r20.layout.Ah.map A0.enc)),.d (.sl 3 (r20.layout.balises.map A4.enc)),.d (.sl 14 (r20.Ar.Ab.map Ai.enc)),.d (.sl 1 (r20.Ar.Ad.map (D.int .i64))),.d (.sl 1 (r20.Ar.A1.map (D.int .i64))),.d (.int .i64 r20.Ar.Ac),.d (.int .i64 r20.Ar.Ah),.d (.sl 3 (r20.inter.Ab.map Ak.enc)),.d (.sl 1 (r20.inter.lies.map (D.int .i64))),.d (.sl 3 (r20.machines.map At.enc)),.d (.sl 1 (r20.clear.map D.bool)),.msl 5 32 0 (r20.units.set (1:Int).toNat (⟨r3,e24.speed,e24.xV,e24.braking,e24.cab⟩:Ap)).length,.d (.sl 14 (r20.center.tracks.map A5.enc)),.d (.sl 4 (r20.center.sessions.map Ax.enc)),.d (.sl 4 (r20.air.map Ba.enc)),.d (.sl 3 (r20.faults.map Bf.enc)),.d (.sl 4 (r20.pending.map Bn.enc)),.d (.sl 4 (r20.possessions.map Ay.enc)),.d (.sl 6 (r20.restrictions.map Av.enc)),.d (.sl 3 (r20.orders.map Bg.enc)),.d (.sl 2 (r20.trips.map A6.enc)),.d (.sl 1 (r20.plan.starts.map (λ(l:List Int)=>D.sl 1 (l.map (D.int .i64))))),.d (.int .i64 r20.plan.cost),.d (.sl 1 (r20.progress.map (D.int .i64))),.d (.sl 5 (r20.decisions.map A3.enc)),.d (.int .i64 r20.now)] Q (by simp only [List.length_set]<;>rfl) ?_;refine aL 2 Q (WN [5,7] Q Q ?_);refine qSI 6 15 5 [5,7] Q Q Q Q Q Q (by simp) Q Q Q ?_;refine aQ 2 Q (c_D hm (iG ·) Q Q Q Q λr25 hm=>aL 3 Q (WN [5,7,9] Q Q (aS hm (λx26=>([(0,.d (.bool (x26)))])) (λx26=>[]) [0] [] Q (λz27 hm=>?_) (λx26 hm=>?_))))
 ·refine aO 2 Q (SX Q Q (aN TK Q Q Q) (aF 1 Q (SB TK Q (λq28 hq28=>?_))));cases q28
  ·replace hm:=JF hq28 hm;exact aD 30 Q (aU [0,1,2,3,4,5,6] hm Q Q)
  replace hm:=JT hq28 hm;refine aF 1 Q (VE hm λe29 he29 hm=>SX Q Q (bD TK Q Q Q Q he29) (aF 1 Q (SX Q Q (bV Q yL eA Q Q Q Q) (GE hm λg30 hm=>SX Q Q (xR Q Q Q g30.1 g30.2) (aF 1 Q (SB TK Q (λq32 hq32=>?_)))))));cases q32
  ·replace hm:=JF hq32 hm;exact aD 23 Q (aU [0,1,2,3,4,5,6] hm Q Q)
  replace hm:=JT hq32 hm;refine aF 1 Q (SX Q Q (aN TK Q Q Q) (aF 2 Q (SB TK Q (λq33 hq33=>?_))));cases q33
  ·replace hm:=JF hq33 hm;exact aD 18 Q (aU [0,1,2,3,4,5,6] hm Q Q)
  replace hm:=JT hq33 hm;refine aF 1 Q (VE hm λe34 he34 hm=>SX Q Q (bD TK Q Q Q Q he34) (aF 1 Q (SX Q Q (bV Q yL eA Q Q Q Q) (GE hm λg35 hm=>SX Q Q (xR Q Q Q g35.1 g35.2) (aF 1 Q (SB TK Q (λq37 hq37=>?_)))))));cases q37
  ·replace hm:=JF hq37 hm;exact aD 11 Q (aU [0,1,2,3,4,5,6] hm Q Q)
  replace hm:=JT hq37 hm;refine aF 1 Q (c_N hm (rA ·) Q Q Q Q λr38 hm=>aF 2 Q (SB TK Q (λq39 hq39=>?_)));cases q39
  ·replace hm:=JB hq39 hm;exact aD 6 Q (aU [0,1,2,3,4,5,6] hm Q Q)
  replace hm:=JA hq39 hm;exact aF 1 Q (c_N hm (qL ·) Q Q Q Q λr40 hm=>aD 4 Q (aU [0,1,2,3,4,5,6] hm Q Q))
 exact WN [0] Q Q (aM 1 Q (aR hm Q))
end Go.Proofs.YtofndjhpbonpbaaGreatDoor
set_option maxHeartbeats 8000000
set_option linter.unusedSimpArgs false
set_option linter.unusedVariables false
set_option maxRecDepth 20000
namespace Go.Proofs.YtofndjhpbonpbaaGreatDoor
open Go Go.TL
end Go.Proofs.YtofndjhpbonpbaaGreatDoor
set_option maxHeartbeats 8000000
set_option linter.unusedSimpArgs false
set_option linter.unusedVariables false
set_option maxRecDepth 20000
namespace Go.Proofs.YtofndjhpbonpbaaGreatDoor
open Go Go.TL Go.Proofs.Tryz
theorem wI {p0:An} {p1:Int} {r:Bool} (hm:iD p0 p1=some r):Ret TP 5 [] (λ_=>false) ([p0.enc,.int .u8 p1].map .d) (.d (.bool (r))) []:=by
 refine aK (bA Q) func5 Q ntmps5 Q Q (λwX gX=>?_);unfold iD at hm;refine WN [0,1] Q Q (aO 1 Q (bQ 0 Q Q Q (aL 4 Q (aS hm (λx1=>([(16,.d (.bool (x1)))])) (λx1=>[]) [16] [1,2] Q (λz2 hm=>?_) (λx1 hm=>?_)))))
 ·refine aO 2 Q (c_N hm (qOF ·) Q Q Q Q λr3 hm=>aF 1 Q (SB TK Q (λq4 hq4=>?_)));cases q4
  ·replace hm:=JB hq4 hm;exact aF 1 Q (c_N hm (qGR ·) Q Q Q Q λr5 hm=>aD 3 Q (aU [0] hm Q Q))
  replace hm:=JA hq4 hm;exact aD 5 Q (aU [0] hm Q Q)
 refine WN [1,2,16] Q Q (bF hm Q (λh6 hm=>?_) (λh6 hm=>?_))
 ·exact aQ 1 Q (BE hm λr7 hr7 hm=>SX Q Q (RN Q Q SN (wY hr7)) (aD 5 Q (aR hm Q)))
 refine aQ 4 Q (SX Q Q (qSU Q Tryz.underlying5 Tryz.underlying3 Q) (aF 2 Q (SX Q Q (aN TK Q Q Q) (GE hm λg8 hm=>SX Q Q (qXJ Q Q Q (qUN g8)) (aF 4 Q (qJO (f:=Ap.enc) 1 [] ([]:List Ap) TK Q Q Q nM Q Q Q Q Q (aF 2 Q (GE hm λg9 hm=>cK (f:=Ap.enc) p0.units TK Q Q nM Q Q Q Q Q (λh=>absurd h (zQV _)) Q cC g9 Q Q (aF 6 Q (VE hm λe10 he10 hm=>SX Q Q (kQ TK Q Q Q Q he10 Q) ?_))))))))));refine aF 2 Q (qIH (x':=(⟨e10.body,e10.speed,e10.xV,e10.braking,(⟨e10.cab.train,(2:Int),e10.cab.brake,e10.cab.next,e10.cab.est,e10.cab.auth,e10.cab.session,e10.cab.tail⟩:Cab)⟩:Ap)) TK Q Q Q Q Q he10.2 Q Q Q (oW 6 ((([]:List Ap)++p0.units).set ((IntKind.i64.wrap p1).tmod (p0.units.length:Int)).toNat (⟨e10.body,e10.speed,e10.xV,e10.braking,(⟨e10.cab.train,(2:Int),e10.cab.brake,e10.cab.next,e10.cab.est,e10.cab.auth,e10.cab.session,e10.cab.tail⟩:Cab)⟩:Ap)).length Q List.length_set.symm (oW 28 ((([]:List Ap)++p0.units).set ((IntKind.i64.wrap p1).tmod (p0.units.length:Int)).toNat (⟨e10.body,e10.speed,e10.xV,e10.braking,(⟨e10.cab.train,(2:Int),e10.cab.brake,e10.cab.next,e10.cab.est,e10.cab.auth,e10.cab.session,e10.cab.tail⟩:Cab)⟩:Ap)).length Q List.length_set.symm (aL 2 Q (WN [2,5,6] Q Q (aQ 3 Q (VE hm λe11 he11 hm=>SX Q Q (kQ TK Q Q Q Q he11 Q) (aF 3 Q (qIH (x':=(⟨e11.body,e11.speed,e11.xV,e11.braking,(⟨e11.cab.train,e11.cab.mode,e11.cab.brake,e11.cab.next,e11.cab.est,(⟨e11.cab.auth.seq,(100:Int),e11.cab.auth.profile,e11.cab.auth.links⟩:A8),e11.cab.session,e11.cab.tail⟩:Cab)⟩:Ap)) TK Q Q Q Q Q he11.2 Q Q Q (oW 6 (((([]:List Ap)++p0.units).set ((IntKind.i64.wrap p1).tmod (p0.units.length:Int)).toNat (⟨e10.body,e10.speed,e10.xV,e10.braking,(⟨e10.cab.train,(2:Int),e10.cab.brake,e10.cab.next,e10.cab.est,e10.cab.auth,e10.cab.session,e10.cab.tail⟩:Cab)⟩:Ap)).set ((IntKind.i64.wrap p1).tmod (p0.units.length:Int)).toNat (⟨e11.body,e11.speed,e11.xV,e11.braking,(⟨e11.cab.train,e11.cab.mode,e11.cab.brake,e11.cab.next,e11.cab.est,(⟨e11.cab.auth.seq,(100:Int),e11.cab.auth.profile,e11.cab.auth.links⟩:A8),e11.cab.session,e11.cab.tail⟩:Cab)⟩:Ap)).length Q List.length_set.symm (oW 33 (((([]:List Ap)++p0.units).set ((IntKind.i64.wrap p1).tmod (p0.units.length:Int)).toNat (⟨e10.body,e10.speed,e10.xV,e10.braking,(⟨e10.cab.train,(2:Int),e10.cab.brake,e10.cab.next,e10.cab.est,e10.cab.auth,e10.cab.session,e10.cab.tail⟩:Cab)⟩:Ap)).set ((IntKind.i64.wrap p1).tmod (p0.units.length:Int)).toNat (⟨e11.body,e11.speed,e11.xV,e11.braking,(⟨e11.cab.train,e11.cab.mode,e11.cab.brake,e11.cab.next,e11.cab.est,(⟨e11.cab.auth.seq,(100:Int),e11.cab.auth.profile,e11.cab.auth.links⟩:A8),e11.cab.session,e11.cab.tail⟩:Cab)⟩:Ap)).length Q List.length_set.symm (aF 5 Q ?_))))))))))));refine VE hm λe12 he12 hm=>SX Q Q (kQ TK Q Q Q Q he12 Q) (aF 1 Q (qIH (x':=(⟨e12.body,e12.speed,(101:Int),e12.braking,e12.cab⟩:Ap)) TK Q Q Q Q Q he12.2 Q Q Q (oW 6 ((((([]:List Ap)++p0.units).set ((IntKind.i64.wrap p1).tmod (p0.units.length:Int)).toNat (⟨e10.body,e10.speed,e10.xV,e10.braking,(⟨e10.cab.train,(2:Int),e10.cab.brake,e10.cab.next,e10.cab.est,e10.cab.auth,e10.cab.session,e10.cab.tail⟩:Cab)⟩:Ap)).set ((IntKind.i64.wrap p1).tmod (p0.units.length:Int)).toNat (⟨e11.body,e11.speed,e11.xV,e11.braking,(⟨e11.cab.train,e11.cab.mode,e11.cab.brake,e11.cab.next,e11.cab.est,(⟨e11.cab.auth.seq,(100:Int),e11.cab.auth.profile,e11.cab.auth.links⟩:A8),e11.cab.session,e11.cab.tail⟩:Cab)⟩:Ap)).set ((IntKind.i64.wrap p1).tmod (p0.units.length:Int)).toNat (⟨e12.body,e12.speed,(101:Int),e12.braking,e12.cab⟩:Ap)).length Q List.length_set.symm (oW 39 ((((([]:List Ap)++p0.units).set ((IntKind.i64.wrap p1).tmod (p0.units.length:Int)).toNat (⟨e10.body,e10.speed,e10.xV,e10.braking,(⟨e10.cab.train,(2:Int),e10.cab.brake,e10.cab.next,e10.cab.est,e10.cab.auth,e10.cab.session,e10.cab.tail⟩:Cab)⟩:Ap)).set ((IntKind.i64.wrap p1).tmod (p0.units.length:Int)).toNat (⟨e11.body,e11.speed,e11.xV,e11.braking,(⟨e11.cab.train,e11.cab.mode,e11.cab.brake,e11.cab.next,e11.cab.est,(⟨e11.cab.auth.seq,(100:Int),e11.cab.auth.profile,e11.cab.auth.links⟩:A8),e11.cab.session,e11.cab.tail⟩:Cab)⟩:Ap)).set ((IntKind.i64.wrap p1).tmod (p0.units.length:Int)).toNat (⟨e12.body,e12.speed,(101:Int),e12.braking,e12.cab⟩:Ap)).length Q List.length_set.symm (aL 2 Q ?_)))))
 refine qFL 6 1 [2,5] Q Q Q Q Q (by simp) Q Q ?_;refine aQ 8 Q (c_D hm (iG ·) Q Q Q Q λr13 hm=>aL 3 Q (bE hm (λ_=>[]) (λ_=>[]) [] [] Q (λz14 hm hz14=>?_) (λj hm=>?_)))
 ·refine aO 2 Q (SX Q Q (aN TK Q Q Q) (aL 3 Q (WN [2,5,6,7,48,49] Q Q (bM 1 Q (aW hm (λx16=>([(49,.d (.int .i64 x16))])) (λx16=>[]) [49] [2,5,6,7,48] [0,1] Q k0 Q Q Q Q Q (λx16 z17 hm hz17=>WN [2,5,6,7,48,49] Q Q (bO 5 Q (bJ hm Q (λh18 hm=>?_) (λh18 hm=>?_)))))))))
  ·refine bM 9 Q (bI follows ?_);iterate 2 (refine DA [0,1] TK Q ?_)
   refine VE hm λe19 he19 hm=>DX [0,1] Q Q (bD TK Q Q Q Q he19) ?_;iterate 3 (refine DA [0,1] TK Q ?_)
   refine VE hm λe20 he20 hm=>DX [0,1] Q Q (bD TK Q Q Q Q he20) ?_;iterate 4 (refine DA [0,1] TK Q ?_)
   refine DX [0,1] Q Q (bV Q yL eA Q Q Q Q) (GE hm λg21 hm=>DX [0,1] Q Q (xR Q Q Q g21.1 g21.2) ?_);refine DT ?_ (by kernel_rfl);refine aL 2 Q (WN [2,5,6,7,48,49,64] Q Q (bJ hm Q (λh23 hm=>?_) (λh23 hm=>?_)))
   ·refine aS hm (λx24=>([(4,.d (.bool (x24)))])) (λx24=>[]) [4] [] Q (λz25 hm=>?_) (λx24 hm=>?_)
    ·refine aO 2 Q (c_N hm (rA ·) Q Q Q Q λr26 hm=>aF 1 Q (SB TK Q (λq27 hq27=>?_)));cases q27
     ·replace hm:=JB hq27 hm;exact aD 4 Q (aU [0,1] hm Q Q)
     replace hm:=JA hq27 hm;exact BE hm λr28 hr28 hm=>SX Q Q (RN Q Q SN (wY hr28)) (aD 3 Q (aU [0,1] hm Q Q))
    refine WN [4] Q Q (aM 3 Q (IE hm λv29 hm hz=>?_));rw [hz17 _ hz] at hm;refine WR (bC 1 Q (IE hm λv30 hm hz=>?_));rw [hz14 _ hz] at hm;exact WR (aR hm Q)
   exact aQ 4 Q (GE hm λg31 hm=>SX Q Q (bL Q Q Q Q g31) (aD 2 Q (aY [0,1] hm Q Q)))
  refine aM 2 Q (IE hm λv32 hm hz=>?_);rw [hz17 _ hz] at hm;exact WX (bC 1 Q (aY [0,1] hm Q Q))
 exact WN [] Q Q (aM 5 Q (aR hm Q))
end Go.Proofs.YtofndjhpbonpbaaGreatDoor
set_option linter.unusedSimpArgs false
set_option linter.unusedVariables false
namespace Go.Proofs.YtofndjhpbonpbaaGreatDoor
open Go Go.TL
def tW:Option Nat->Int
 | some i=>i
 | none=>-1
theorem qWB (o:Option Nat):decide (0<=tW o)=o.isSome:=by cases o<;>simp [tW]
theorem qOQ (o:Option Nat):decide (tW o < 0)=!o.isSome:=by
 cases o with
 | none=>simp [tW]
 | some i=>show decide ((i:Int) < 0)=false;simp
theorem idx_at {α:Type} {p:α->Bool} {l:List α} {i:Nat} {x:α} (h:zAP p l i) (hx:l[i]?=some x) (hs:p x=true):l.findIdx? p=some i:=by
 rw [List.findIdx?_eq_some_iff_getElem];have hlt:=(zQQ.1 hx).1;have he:=(zQQ.1 hx).2;refine⟨hlt,by rw [he];exact hs,λj hj=>?_⟩;unfold zAP at h;rw [List.any_eq_false] at h;have:=h l[j] (List.mem_take_iff_getElem.2 ⟨j,by omega,rfl⟩);simpa using this
theorem qLC {α:Type} {p:α->Bool} {l:List α} {i:Nat} (h:l.findIdx? p=some i):∃ x,l[i]?=some x/\p x=true/\i < l.length:=by
 rw [List.findIdx?_eq_some_iff_getElem] at h;obtain⟨hlt,hp,_⟩:=h;exact⟨l[i],by simp [hlt],hp,hlt⟩
def fK (l:List Int) (x:Int):Option Nat:=l.findIdx? λy=>y == x
theorem qRT (l:List Int) (x:Int):(fK l x).isSome=decide (x∈l):=by
 unfold fK;rw [List.findIdx?_isSome,Bool.eq_iff_iff,zQU];simp
def fI (n:Nat) (P:Nat->Bool):Bool:=(List.range n).all P
def upTo (P:Nat->Bool) (i:Nat):Prop:=∀ j,j < i->P j=true
theorem allB_iff {P:Nat->Bool} {n:Nat}:fI n P=true↔∀ i,i < n->P i=true:=by
 unfold fI;rw [zQT];simp
def inB (n c:Int):Bool:=decide (0<=n/\n < c)
def rK (t:Al) (i:Nat):Bool:=decide (0<=t.Ad.getD i 0/\(0 < i->t.Ad.getD (i - 1) 0 < t.Ad.getD i 0)/\0<=t.A1.getD i 0/\t.A1.getD i 0 < t.Ac)
def mJ (t:Al):Bool:=decide (t.A1.length=t.Ad.length)&&fI t.Ad.length (rK t)
theorem qIM {t:Al} {i:Nat} {p q h:Int} (hp:t.Ad[i]?=some p) (hq:t.Ad[i - 1]?=some q) (hh:t.A1[i]?=some h):rK t i=decide (0<=p/\(0 < i->q < p)/\0<=h/\h < t.Ac):=by
 simp only [rK,zQD,hp,hq,hh,Option.getD_some]
def qDL (t:Al) (l:List Aa) (i:Nat):Bool:=decide ((fK t.Ad (l.getD i ⟨0,0⟩).el).isSome=true/\1<=(l.getD i ⟨0,0⟩).pos/\(l.getD i ⟨0,0⟩).pos<=2/\(0 < i->(l.getD (i - 1) ⟨0,0⟩).el < (l.getD i ⟨0,0⟩).el))
def eJ (t:Al) (l:List Aa):Bool:=fI l.length (qDL t l)
theorem qDK {t:Al} {l:List Aa} {i:Nat} {x y:Aa} (hx:l[i]?=some x) (hy:l[i - 1]?=some y):qDL t l i=decide ((fK t.Ad x.el).isSome=true/\1<=x.pos/\x.pos<=2/\(0 < i->y.el < x.el)):=by
 simp only [qDL,zQD,hx,hy,Option.getD_some]
def kG (a b:List Aa):Bool:=a.all λx=>b.all λy=>!(decide (x.el=y.el)&&!decide (x.pos=y.pos))
def qQS (t:Al) (l:List Int) (i:Nat):Bool:=inB (l.getD i 0) t.Ac&&!decide (l.getD i 0∈l.take i)
def qSZ (t:Al) (l:List Int):Bool:=fI l.length (qQS t l)
theorem qJK {t:Al} {l:List Int} {i:Nat} {s:Int} (hs:l[i]?=some s):qQS t l i=(inB s t.Ac&&!decide (s∈l.take i)):=by
 simp only [qQS,zQD,hs,Option.getD_some]
def qZT (t:Al) (r:Ai):Bool:=inB r.entry t.Ah&&decide (-1<=r.exit/\r.exit < t.Ah)&&decide (1<=r.path.length/\r.path.length<=12)
def kZ (t:Al) (r:Ai):Bool:=qZT t r&&decide (0 < r.Ac.length)&&qSZ t (r.Ac++r.Ao)&&inB r.A2 t.Ac&&decide (1<=r.length)
def nN (t:Al) (r:Ai):Bool:=eJ t r.Ad&&eJ t r.Aj&&eJ t r.Au
def mN (r:Ai):Bool:=kG r.Ad r.Aj&&kG r.Ad r.Au&&kG r.Aj r.Au
def wV (l:List Ai) (i:Nat):Bool:=(l[i]?).all λr=>!((l.take i).any λq=>decide (q.name=r.name))
def uQ (l:List Ai):Bool:=fI l.length (wV l)
theorem qEH {l:List Ai} {i:Nat} {r:Ai} (hr:l[i]?=some r):wV l i=!((l.take i).any λq=>decide (q.name=r.name)):=by simp only [wV,hr,Option.all_some]
def qCM (t:Al):Bool:=decide (t.Ab.length<=48/\t.Ad.length<=32/\0<=t.Ac/\t.Ac<=24/\0<=t.Ah/\t.Ah<=20)
def fE (t:Al):Int:=
 if qCM t=false then 2
 else if mJ t=false then 1
 else if t.Ab.all (λr=>kZ t r&&nN t r)=false then 1
 else if t.Ab.all mN=false then 10
 else if uQ t.Ab=false then 8
 else 0
section chk
variable {t:Al}
theorem qIU (h:qCM t=false):fE t=2:=by simp [fE,h]
theorem zI (h1:qCM t=true) (h:mJ t=false):fE t=1:=by simp [fE,h1,h]
end chk
def kS (l:List Int) (i:Nat):List Bool:=(List.range 24).map λ(j:Nat)=>decide ((j:Int)∈l.take i)
theorem qMA (l:List Int):kS l 0=List.replicate 24 false:=by simp [kS,List.map_const']
theorem qGH (l:List Int) (i:Nat):(kS l i).length=24:=by simp [kS]
theorem qQN (l:List Int) (i:Nat) {s:Int} (h0:0<=s) (h1:s < 24):(kS l i)[s.toNat]?=some (decide (s∈l.take i)):=by
 have:s.toNat < 24:=by omega
 simp [kS,this,Int.toNat_of_nonneg h0]
theorem qQM {l:List Int} {i:Nat} {s:Int} (hs:l[i]?=some s) (h0:0<=s) (h1:s < 24):(kS l i).set s.toNat true=kS l (i+1):=by
 apply List.ext_getElem?;intro j;by_cases hj:j < 24
 ·have e1 : ∀ k, (kS l k)[j]? = some (decide ((j : Int) ∈ l.take k)) := fun k => by simp [kS, hj]
  rw [List.getElem?_set,e1,e1,List.take_add_one,hs];split
  ·rename_i e;rw [if_pos (by rw [qGH];omega)];have:(j:Int)=s:=by omega
   simp [this]
  rename_i e;have:¬ (j:Int)=s:=by omega
  simp [this]
 rw [List.getElem?_eq_none (by simp [kS];omega),List.getElem?_eq_none (by simp [kS];omega)]
def eR (l:List Ai) (i:Nat):List (BA×Bool):=(l.take i).map λr=>(r.name,true)
theorem qKR (l:List Ai):eR l 0=[]:=by simp [eR]
theorem yO {l:List Ai} {i:Nat} {r:Ai} (hr:l[i]?=some r):eR l i++[(r.name,true)]=eR l (i+1):=by
 unfold eR;rw [List.take_add_one,hr];simp
theorem qHO (l:List Ai) (i:Nat) (s:BA):(match cM (eR l i) s with|some b=>D.bool b|none=>D.bool false)=D.bool ((l.take i).any λq=>decide (q.name=s)):=by
 unfold eR
 induction l.take i with
 | nil=>rfl
 | cons x r ih=>
  simp only [List.map_cons,List.any_cons,cM,List.find?_cons]
  cases h:decide (x.name=s) with
  | true=>simp
  | false=>simpa [cM] using ih
theorem qKS {l:List Ai} {i:Nat} {s:BA} (h:((l.take i).any λq=>decide (q.name=s))=false):cM (eR l i) s=none:=by
 unfold eR cM;rw [Option.map_eq_none_iff,List.find?_eq_none];intro x hx;simp only [List.mem_map] at hx;obtain⟨r,hr,rfl⟩:=hx;rw [List.any_eq_false] at h;simpa using h r hr
theorem wU {l:List Ai}:∀ {i:Nat},upTo (wV l) i->((eR l i).map (·.1)).Nodup
 | 0,_=>by simp [eR]
 | i+1,h=>by
  have ih:=wU (i:=i) λj hj=>h j (by omega)
  cases hr:l[i]? with
  | none=>unfold eR at *; rw [List.take_add_one,hr];simpa using ih
  | some r=>
   have hn:=h i (by omega);rw [qEH hr] at hn;rw [<- yO hr,List.map_append,List.nodup_append];refine⟨ih,by simp,λa ha b hb e=>?_⟩;simp only [List.map_cons,List.map_nil,List.mem_singleton] at hb;subst hb;subst e;unfold eR at ha;simp only [List.map_map,List.mem_map,Function.comp_apply] at ha;obtain⟨q,hq,he⟩:=ha;simp only [Bool.not_eq_true',List.any_eq_false] at hn;exact hn q hq (by simp [he])
theorem qWE {l:List Ai} {i:Nat} {r:Ai} (hr:l[i]?=some r):decide (tW (l.findIdx? λq=>decide (q.name=r.name))=(i:Int))=wV l i:=by
 rw [qEH hr,Bool.eq_iff_iff];have hi:=(zQQ.1 hr).1;have hri:=(zQQ.1 hr).2;simp only [decide_eq_true_eq,Bool.not_eq_true',List.any_eq_false];constructor
 ·intro h q hq
  cases e:l.findIdx? λq=>decide (q.name=r.name) with
  | none=>rw [e] at h;simp only [tW] at h;omega
  | some j=>
   rw [e] at h;simp only [tW] at h;have:j=i:=by omega
   subst this;rw [List.findIdx?_eq_some_iff_getElem] at e;obtain⟨_,_,h3⟩:=e;obtain⟨k,hk,rfl⟩:=List.mem_take_iff_getElem.1 hq;simpa using h3 k (by omega)
 intro h
 have:l.findIdx? (λq=>decide (q.name=r.name))=some i:=by
  refine idx_at (x:=r) ?_ hr (by simp);unfold zAP;rw [List.any_eq_false];simpa using h
 rw [this];rfl
def dT (x:Ak) (n:Int):Bool:=
 if x.state=0\/x.state=1\/x.state=2 then decide (x.rel=0/\x.timer=0)
 else if x.state=3 then decide (0<=x.rel/\x.rel < n/\(x.timer=0\/(x.rel=n - 1/\0 < x.timer/\x.timer < 4)))
 else if x.state=4 then decide (0<=x.rel/\x.rel < n/\0<=x.timer/\x.timer < 12)
 else false
def jC (t:Al) (s:Az) (i:Nat):Bool:=(s.Ab[i]?).all λx=>(t.Ab[i]?).all λr=>dT x r.Ac.length
def qCN (p:Int):Bool:=decide (p=1\/p=2)
def sF (t:Al) (s:Az):Bool:=decide (fE t=0/\s.Ab.length=t.Ab.length/\s.lies.length=t.Ad.length)&&fI s.Ab.length (jC t s)&&s.lies.all qCN
theorem xY {t:Al} {s:Az} {i:Nat} {x:Ak} {r:Ai} (hx:s.Ab[i]?=some x) (hr:t.Ab[i]?=some r):jC t s i=dT x r.Ac.length:=by simp only [jC,hx,hr,Option.all_some]
theorem fitsB_iff {t:Al} {s:Az}:sF t s=true↔fE t=0/\s.Ab.length=t.Ab.length/\s.lies.length=t.Ad.length/\(∀ i,i < s.Ab.length->jC t s i=true)/\∀ p∈s.lies,qCN p=true:=by
 unfold sF;rw [zQA,zQA,decide_eq_true_eq,allB_iff,zQT];constructor
 ·rintro⟨⟨⟨h1,h2,h3⟩,h4⟩,h5⟩;exact⟨h1,h2,h3,h4,h5⟩
 rintro⟨h1,h2,h3,h4,h5⟩;exact⟨⟨⟨h1,h2,h3⟩,h4⟩,h5⟩
def nD (r:Ai) (x:Ak):List Int:=if x.state=0 then [] else r.Ac.drop x.rel.toNat
def nE (r:Ai) (x:Ak):List Int:=if x.state=0 then [] else r.Ao
end Go.Proofs.YtofndjhpbonpbaaGreatDoor
set_option linter.unusedVariables false
set_option linter.unusedSimpArgs false
set_option maxHeartbeats 400000
namespace Go.Proofs.YtofndjhpbonpbaaGreatDoor
open Go Go.TL
theorem pU {n:Nat} (h:n<=reachBytes):n<=140737488351232:=h
theorem dX {i n:Nat} (h:i < n):((i:Int) < (n:Int))=True:=by simp [h]
abbrev Cnt {α:Type} (l:List α):Prop:=l.length<=9223372036854775807
theorem qOP (l:List Int) (x:Int) (h:Cnt l):eW l x=some (tW (fK l x)):=by
 unfold eW;rw [qBA l (λy=>y == x) (λi=>.inr (i:Int)) (.inl ()) h]
 ·unfold fK;cases l.findIdx? (λy=>y == x)<;>rfl
 ·intro i e he;have hi:=(zQQ.1 he).1;simp only [dX hi,if_true,aJ he];by_cases hx:x=e
  ·simp [hx]
  have : ¬ (e == x) = true := by simp; exact fun q => hx q.symm
  simp [hx,this,bX hi h]
 simp
theorem vP (t:Al) (x:Int) (h:Cnt t.Ad):fP t x=some (tW (fK t.Ad x)):=by
 simp [fP,qOP _ _ h]
theorem xL (t:Al) (x:Int) (h:Cnt t.Ad):iO t x=some (tW (fK t.Ad x)):=by
 unfold iO;rw [qBA t.Ad (λy=>y == x) (λi=>.inr (i:Int)) (.inl ()) h]
 ·unfold fK;cases t.Ad.findIdx? (λy=>y == x)<;>rfl
 ·intro i e he;have hi:=(zQQ.1 he).1;simp only [dX hi,if_true,aJ he];by_cases hx:e=x
  ·simp [hx]
  simp [hx,bX hi h]
 simp
theorem qOV (l:List Int) (x:Int) (h:Cnt l):gC l x=some (decide (x∈l)):=by
 unfold gC;rw [fC l (λy=>y == x) (.inr true) (.inl ()) h]
 ·by_cases hx:x∈l
  ·have : (l.any fun y => y == x) = true := by simpa using hx
   simp [this,hx]
  have : ¬ (l.any fun y => y == x) = true := by simpa using hx
  simp only [if_neg this];simp [hx]
 ·intro i e he;have hi:=(zQQ.1 he).1;simp only [dX hi,if_true,aJ he];by_cases hx:e=x
  ·simp [hx]
  simp [hx,bX hi h]
 simp
theorem qPE (l:List Int) (x:Int) (h:Cnt l):eQ l x=some (decide (x∈l)):=by
 simp only [eQ,qOP l x h,aH,Option.some.injEq];rw [qWB,qRT]
theorem vN (n c:Int):cO n c=some (inB n c):=by simp [cO,inB]
theorem fT (n:Nat) (P:Nat->Bool):((List.range n).any λi=>!P i)=!fI n P:=by simp [fI,List.not_all_eq_any_not]
theorem jE {α:Type} (l:List α) (P:α->Bool):(l.any λi=>!P i)=!l.all P:=by simp [List.not_all_eq_any_not]
theorem qEB (t:Al) (h:Cnt t.Ad):fO t=some (mJ t):=by
 unfold fO mJ;by_cases e:t.A1.length=t.Ad.length
 ·rw [if_pos (by rw [e]), eX t.Ad.length (fun i => !rK t i) (.inr false) (.inl ()) h, fT]
  ·simp only [e,decide_true,Bool.true_and];cases fI t.Ad.length (rK t)<;>rfl
  ·intro i hi;obtain⟨p,hp⟩:=iY hi;obtain⟨q,hq⟩:=iY (xs:=t.Ad) (i:=i - 1) (by omega);obtain⟨hm,hh⟩:=iY (xs:=t.A1) (i:=i) (by omega);simp only [dX hi,if_true,aJ hp,aJ hh,vN,aH];rw [qIM hp hq hh];by_cases h0:0 < i
   ·have e1 : ((i : Int) - 1) = ((i - 1 : Nat) : Int) := by omega
    have e2:I64 ((i - 1:Nat):Int):=by unfold I64;omega
    have e3:(0:Int) < (i:Int):=by omega
    simp only [e1,aA e2,aJ hq,e3,if_true];simp only [eY,aH,aA (bX hi h),dI]
    grind [inB]
   have e3 : ¬ (0 : Int) < (i : Int) := by omega
   simp only [e3,if_false,eY,aH,aA (bX hi h),dI]
   grind [inB]
  simp
 rw [if_neg (by omega)];simp [e]
theorem lR (t:Al) (l:List Aa) (ht:Cnt t.Ad) (h:Cnt l):cJ t l=some (eJ t l):=by
 unfold cJ eJ;rw [eX l.length (λi=>!qDL t l i) (.inr false) (.inl ()) h,fT]
 ·cases fI l.length (qDL t l)<;>rfl
 ·intro i hi;obtain⟨x,hx⟩:=iY hi;obtain⟨y,hy⟩:=iY (xs:=l) (i:=i - 1) (by omega);simp only [dX hi,if_true,aJ hx,vP _ _ ht,aH,qOQ];rw [qDK hx hy];by_cases h0:0 < i
  ·have e1 : ((i : Int) - 1) = ((i - 1 : Nat) : Int) := by omega
   have e2:I64 ((i - 1:Nat):Int):=by unfold I64;omega
   have e3:(0:Int) < (i:Int):=by omega
   simp only [e1,aA e2,aJ hy,e3,if_true,eY,aH,aA (bX hi h),dI]
   grind
  have e3 : ¬ (0 : Int) < (i : Int) := by omega
  simp only [e3,if_false,eY,aH,aA (bX hi h),dI]
  grind
 simp
theorem qY (t:Al) (l:List Aa) (ht:Cnt t.Ad) (h:Cnt l):dJ t l=some (eJ t l):=by
 unfold dJ eJ;rw [eX l.length (λi=>!qDL t l i) (.inr false) (.inl ()) h,fT]
 ·cases fI l.length (qDL t l)<;>rfl
 ·intro i hi;obtain⟨x,hx⟩:=iY hi;obtain⟨y,hy⟩:=iY (xs:=l) (i:=i - 1) (by omega);have hneg:=qOQ (fK t.Ad x.el);simp only [dX hi,if_true,aJ hx,xL _ _ ht,aH];rw [qDK hx hy];by_cases h0:0 < i
  ·have e1 : ((i : Int) - 1) = ((i - 1 : Nat) : Int) := by omega
   have e2:I64 ((i - 1:Nat):Int):=by unfold I64;omega
   have e3:(0:Int) < (i:Int):=by omega
   simp only [e1,aA e2,aJ hy,e3,if_true,eY,aH,aA (bX hi h),dI]
   grind
  have e3 : ¬ (0 : Int) < (i : Int) := by omega
  simp only [e3,if_false,eY,aH,aA (bX hi h),dI]
  grind
 simp
theorem qIZ (a b:List Aa):(a.any λx=>b.any λy=>decide (x.el=y.el)&&!decide (x.pos=y.pos))=!kG a b:=by
 unfold kG;rw [List.not_all_eq_any_not]
 congr 1
 funext x
 rw [List.not_all_eq_any_not];simp
theorem qFW (a b:List Aa) (ha:Cnt a) (hb:Cnt b):dL a b=some (kG a b):=by
 unfold dL;rw [fC a (λx=>b.any λy=>decide (x.el=y.el)&&!decide (x.pos=y.pos)) (.inr false) (.inl ()) ha,qIZ]
 ·cases kG a b<;>rfl
 ·intro i x hx;have hi:=(zQQ.1 hx).1;simp only [dX hi,if_true,aJ hx];rw [fC b (λy=>decide (x.el=y.el)&&!decide (x.pos=y.pos)) (.inr (.inr (.inr false))) (.inl ()) hb]
  ·simp only [aA (bX hi ha)];split<;>rfl
  ·intro j y hy;have hj:=(zQQ.1 hy).1;simp only [dX hj,if_true,aJ hy,aA (bX hj hb),dI]
  simp
 simp
theorem xO (a b:List Aa) (ha:Cnt a) (hb:Cnt b):eT a b=some (kG a b):=by
 unfold eT;rw [fC a (λx=>b.any λy=>decide (x.el=y.el)&&!decide (x.pos=y.pos)) (.inr false) (.inl ()) ha,qIZ]
 ·cases kG a b<;>rfl
 ·intro i x hx;have hi:=(zQQ.1 hx).1;simp only [dX hi,if_true,aJ hx];rw [fC b (λy=>decide (x.el=y.el)&&!decide (x.pos=y.pos)) (.inr (.inr (.inr false))) (.inl ()) hb]
  ·simp only [aA (bX hi ha)];split<;>rfl
  ·intro j y hy;have hj:=(zQQ.1 hy).1;simp only [dX hj,if_true,aJ hy,aA (bX hj hb),dI]
  simp
 simp
structure Short (r:Ai):Prop where
 secs:r.Ac.length+r.Ao.length<=2000000
 Ad:r.Ad.length<=2000000
 over:r.Aj.length<=2000000
 Au:r.Au.length<=2000000
structure TOk (t:Al):Prop where
 Ab:t.Ab.length<=2000000
 Ad:t.Ad.length<=2000000
 each:∀ r∈t.Ab,Short r
theorem qGJ (t:Al) (l:List Int) (h:Cnt l):iM t l=some (qSZ t l):=by
 unfold iM qSZ;rw [eX l.length (λi=>!qQS t l i) (.inr false) (.inl ()) h,fT]
 ·cases fI l.length (qQS t l)<;>rfl
 ·intro i hi;obtain⟨x,hx⟩:=iY hi;simp only [dX hi,if_true,aJ hx];rw [qJK hx]
  have hm:((List.range i).any λj=>decide (l[j]?=some x))=decide (x∈l.take i):=by
   rw [Bool.eq_iff_iff,zQU,decide_eq_true_eq,List.mem_take_iff_getElem];constructor
   ·rintro⟨j,hj,hjx⟩;have hj:=List.mem_range.1 hj;have:=of_decide_eq_true hjx;obtain⟨h1,h2⟩:=zQQ.1 this;exact⟨j,by omega,h2⟩
   rintro⟨j,hj,rfl⟩;exact⟨j,List.mem_range.2 (by omega),by simp⟩
  by_cases hb:x < 0\/t.Ac<=x
  ·have : inB x t.Ac = false := by unfold inB; simp; omega
   simp only [this];simp [hb]
  have hin : inB x t.Ac = true := by unfold inB; simp; omega
  rw [if_neg (by simpa using hb),eX i (λj=>decide (l[j]?=some x)) (.inr (.inr (.inr false))) (.inl ()) (by omega),hm]
  ·simp only [hin,Bool.true_and,Bool.not_not,aA (bX hi h)];split<;>rfl
  ·intro j hj;obtain⟨y,hy⟩:=iY (xs:=l) (i:=j) (by omega);simp only [dX hj,if_true,aJ hy,hy,aA (bX hj (by omega)),dI,Option.some.injEq,decide_eq_true_eq]
  simp
 simp
theorem qQW (t:Al) (r:Ai) (h:Short r):kK t r=some (kZ t r):=by
 have h1:=h.secs;unfold kK kZ qZT;rw [aA (by simp;omega),aA (by simp;omega)];simp only [List.nil_append,qGJ t (r.Ac++r.Ao) (by simp;omega),aH,eY]
 grind [inB]
theorem qWJ (xss:List (List Int)) (h:xss.length<=1000/\xss.flatten.length<=1000000000):iC xss=some xss.flatten:=aA h
theorem qGO (t:Al) (r:Ai) (hs:t.Ac<=24) (h:Short r):eV t r=some (kZ t r):=by
 have h1:=h.secs;unfold eV;rw [qWJ _ (by simp;omega)];have hcat:([r.Ac,r.Ao]:List (List Int)).flatten=r.Ac++r.Ao:=by simp
 simp only [hcat,aH,vN,eY];generalize hl:r.Ac++r.Ao=l;have hln:l.length<=2000000:=by rw [<- hl];simp;omega
 rw [qIR l.length (kS l) (λi=>!qQS t l i) (.inr false) (.inl (kS l l.length)) (qMA l).symm (by omega),fT]
 ·unfold kZ qZT qSZ;rw [hl];clear hcat hl;cases fI l.length (qQS t l)
  ·simp only [Bool.not_false,if_true,qWP,yT,Option.some.injEq];rw [Bool.eq_iff_iff];simp only [zM,zQA,decide_eq_true_eq,Bool.or_eq_true,inB,Bool.not_eq_true',decide_eq_false_iff_not]
   grind
  simp only [Bool.not_true,Bool.false_eq_true,if_false,oL,yT,Option.some.injEq];rw [Bool.eq_iff_iff];simp only [zM,zQA,decide_eq_true_eq,Bool.or_eq_true,inB,Bool.not_eq_true',decide_eq_false_iff_not]
  grind
 ·intro i hi _;obtain⟨x,hx⟩:=iY hi;simp only [dX hi,if_true,aJ hx];rw [qJK hx];by_cases hin:inB x t.Ac=true
  ·have hx0 : 0 <= x /\ x < 24 := by unfold inB at hin; simp at hin; omega
   have hg:=qQN l i hx0.1 hx0.2;simp only [hin,aA hx0.2,iZ hx0.1 hg,aH,Bool.not_true,Bool.true_and,Bool.not_not,aA (bX hi (by omega)),qQM hx hx0.1 hx0.2,dI];by_cases hm:x∈l.take i<;>simp [hm]
  have hin : inB x t.Ac = false := by simpa using hin
  simp [hin]
 intro _;simp
theorem qNH {α β:Type} [DecidableEq α] {fs:List (α×β)} {k:α} {v:β} (h:cM fs k=none):tE fs k v=fs++[(k,v)]:=by
 unfold tE
 have:(fs.findIdx? λx=>decide (x.1=k))=none:=by
  unfold cM at h;rw [Option.map_eq_none_iff,List.find?_eq_none] at h;rw [List.findIdx?_eq_none_iff];intro x hx;simpa using h x hx
 rw [this]
theorem qNX (t : Al) (h : t.Ab.length <= 2000000) (k : List (BA × Bool) -> Option Int) : bR (aZ (fun (x, b) =>
     if x < (t.Ab.length : Int) then
      aT t.Ab x fun e =>
      aC (b.map (·.1)).Nodup <|
      if (((cM b e.name).getD false)) = true then
       aP (aP (some (8 : Int)))
      else
       aC (b.map (·.1)).Nodup <|
       aC (I64 (x + (1 : Int))) <|
       some (.inl ((x + (1 : Int)), (tE b e.name true)))
     else
      aP (some (.inl b))) ((0 : Int), ([] : List (BA × Bool)))) k = if uQ t.Ab = true then k (eR t.Ab t.Ab.length) else some 8 := by
 rw [qIR t.Ab.length (eR t.Ab) (λi=>!wV t.Ab i) (.inr 8) (.inl (eR t.Ab t.Ab.length)) (qKR _).symm (by omega),fT]
 ·unfold uQ;cases fI t.Ab.length (wV t.Ab)<;>rfl
 ·intro i hi hj;obtain⟨x,hx⟩:=iY hi;have hnd:((eR t.Ab i).map (·.1)).Nodup:=wU λj hjj=>by have:=hj j hjj;simpa using this
  simp only [dX hi,if_true,aJ hx,aA hnd,aA (bX hi (by omega))];rw [qEH hx,Bool.not_not];have ha:=qHO t.Ab i x.name
  cases hc:((t.Ab.take i).any λq=>decide (q.name=x.name)) with
  | true=>
   rw [hc] at ha
   have:((cM (eR t.Ab i) x.name).getD false)=true:=by
    cases e:cM (eR t.Ab i) x.name with
    | none=>rw [e] at ha;simp at ha
    | some b=>rw [e] at ha;simp at ha;simp [ha]
   simp [this]
  | false=>
   have hn:=qKS hc;simp [hn,qNH hn,yO hx]
 intro hj;simp
theorem qNW (l : List Ai) (P : Ai -> Bool) (v : Int) (h : l.length <= 2000000) (g : Ai -> Option Bool) (hg : ∀ r ∈ l, g r = some (P r)) (k : Unit -> Option Int) : bR (aZ (fun x =>
     if x < (l.length : Int) then
      aT l x fun e =>
      aB (g e) fun r =>
      if (!(r)) = true then
       aP (aP (some v))
      else
       aC (I64 (x + (1 : Int))) <|
       some (.inl (x + (1 : Int)))
     else
      aP (some (.inl ()))) (0 : Int)) k = if l.all P = true then k () else some v := by
 rw [fC l (λr=>!P r) (.inr v) (.inl ()) (by omega),jE]
 ·cases l.all P<;>rfl
 ·intro i x hx;have hi:=(zQQ.1 hx).1;simp only [dX hi,if_true,aJ hx,hg x (zQM hx),aH,aA (bX hi (by omega)),dI]
 simp
theorem nY (l : List Ai) (P : Ai -> Bool) (v : Int) (h : l.length <= 2000000) (g : Ai -> Option Bool) (hg : ∀ r ∈ l, g r = some (!P r)) (k : Unit -> Option Int) : bR (aZ (fun x =>
     if x < (l.length : Int) then
      aT l x fun e =>
      aB (g e) fun r =>
      if r = true then
       aP (aP (some v))
      else
       aC (I64 (x + (1 : Int))) <|
       some (.inl (x + (1 : Int)))
     else
      aP (some (.inl ()))) (0 : Int)) k = if l.all P = true then k () else some v := by
 rw [fC l (λr=>!P r) (.inr v) (.inl ()) (by omega),jE]
 ·cases l.all P<;>rfl
 ·intro i x hx;have hi:=(zQQ.1 hx).1;simp only [dX hi,if_true,aJ hx,hg x (zQM hx),aH,aA (bX hi (by omega)),dI]
 simp
theorem qUX (t:Al) (r:Ai) (ht:Cnt t.Ad) (h:Short r):(aB (cJ t r.Ad) λa=>if (!(a))=true then some true else aB (cJ t r.Aj) λb=>if (!(b))=true then some true else aB (cJ t r.Au) λc=>some (!(c)))=some (!nN t r):=by
 have h1:=h.Ad;have h2:=h.over;have h3:=h.Au;rw [lR t _ ht (by omega),lR t _ ht (by omega),lR t _ ht (by omega)];unfold nN;cases eJ t r.Ad<;>cases eJ t r.Aj<;>cases eJ t r.Au<;>rfl
theorem qSM (r:Ai) (h:Short r):(aB (dL r.Ad r.Aj) λa=>if (!(a))=true then some true else aB (dL r.Ad r.Au) λb=>if (!(b))=true then some true else aB (dL r.Aj r.Au) λc=>some (!(c)))=some (!mN r):=by
 have h1:=h.Ad;have h2:=h.over;have h3:=h.Au;rw [qFW _ _ (by omega) (by omega),qFW _ _ (by omega) (by omega),qFW _ _ (by omega) (by omega)];unfold mN;cases kG r.Ad r.Aj<;>cases kG r.Ad r.Au<;>cases kG r.Aj r.Au<;>rfl
theorem qQE (r:Ai) (h:Short r):(aB (eT r.Ad r.Aj) λa=>if (!(a))=true then some true else aB (eT r.Ad r.Au) λb=>if (!(b))=true then some true else aB (eT r.Aj r.Au) λc=>some (!(c)))=some (!mN r):=by
 have h1:=h.Ad;have h2:=h.over;have h3:=h.Au;rw [xO _ _ (by omega) (by omega),xO _ _ (by omega) (by omega),xO _ _ (by omega) (by omega)];unfold mN;cases kG r.Ad r.Aj<;>cases kG r.Ad r.Au<;>cases kG r.Aj r.Au<;>rfl
theorem qWS (l:List Ai) (p q:Ai->Bool):l.all (λr=>p r&&q r)=(l.all p&&l.all q):=by
 rw [Bool.eq_iff_iff];simp only [zQT,zQA];exact⟨λh=>⟨λx hx=>(h x hx).1,λx hx=>(h x hx).2⟩,λh x hx=>⟨h.1 x hx,h.2 x hx⟩⟩
theorem zAJ (t:Al) (h:TOk t):mO t=some (fE t):=by
 have hp:=h.Ad;have hr:=h.Ab;unfold mO;by_cases hl:qCM t=true
 ·have hs : t.Ac <= 24 := by unfold qCM at hl; simp at hl; omega
  have hc : (if (48 : Int) < (t.Ab.length : Int) then some true
   else if (32 : Int) < (t.Ad.length : Int) then some true
   else aB (cO t.Ac (25 : Int)) fun r5 => if (!(r5)) = true then some true else aB (cO t.Ah (21 : Int)) fun r7 => some (!(r7))) = some false := by
   simp only [vN,aH];unfold qCM at hl;simp only [decide_eq_true_eq] at hl;rw [if_neg (by omega),if_neg (by omega),if_neg (by unfold inB;simp;omega)];simp [inB];omega
  rw [hc];simp only [aH,qEB t (by omega)];by_cases hpb:mJ t=true
  ·simp only [hpb];simp only [Bool.not_true,Bool.false_eq_true,if_false];rw [qNW t.Ab (kZ t) 1 hr (eV t) (λr hm=>qGO t r hs (h.each r hm))];rw [nY t.Ab (nN t) 1 hr _ (λr hm=>qUX t r (by omega) (h.each r hm)),nY t.Ab mN 10 hr _ (λr hm=>qSM r (h.each r hm)),qNX t hr];unfold fE;rw [qWS];simp only [hl,hpb];cases t.Ab.all (kZ t)<;>cases t.Ab.all (nN t)<;>cases t.Ab.all mN<;>cases uQ t.Ab<;>rfl
  rw [zI hl (by simpa using hpb)];simp [hpb]
 rw [qIU (by simpa using hl)]
 have hc : (if (48 : Int) < (t.Ab.length : Int) then some true
  else if (32 : Int) < (t.Ad.length : Int) then some true
  else aB (cO t.Ac (25 : Int)) fun r5 => if (!(r5)) = true then some true else aB (cO t.Ah (21 : Int)) fun r7 => some (!(r7))) = some true := by
  simp only [vN,aH];unfold qCM at hl;simp only [decide_eq_true_eq] at hl
  grind [inB]
 rw [hc];rfl
theorem qWF (t:Al) (s:BA) (h:Cnt t.Ab):lT t s=some (tW (t.Ab.findIdx? λq=>decide (q.name=s))):=by
 unfold lT;rw [qBA t.Ab (λq=>decide (q.name=s)) (λi=>.inr (i:Int)) (.inl ()) h]
 ·cases t.Ab.findIdx? (λq=>decide (q.name=s))<;>rfl
 ·intro i e he;have hi:=(zQQ.1 he).1;simp only [dX hi,if_true,aJ he];by_cases hx:e.name=s
  ·simp [hx]
  simp [hx,bX hi h]
 simp
theorem qNK (t : Al) (h : Cnt t.Ad) (e : t.A1.length = t.Ad.length) (k : Unit -> Option Int) : bR (
    aZ (fun x10 =>
     if x10 < (t.Ad.length : Int) then
      aT t.Ad x10 fun e13 =>
      aB (
       if e13 < (0 : Int) then
        some true
       else
        if (0 : Int) < x10 then
         aC (I64 (x10 - (1 : Int))) <|
         aT t.Ad (x10 - (1 : Int)) fun e22 =>
         if e13 <= e22 then
          some true
         else
          aT t.A1 x10 fun e24 =>
          if e24 < (0 : Int) then
           some true
          else
           aT t.A1 x10 fun e26 =>
           some (decide (t.Ac <= e26))
        else
         aT t.A1 x10 fun e18 =>
         if e18 < (0 : Int) then
          some true
         else
          aT t.A1 x10 fun e20 =>
          some (decide (t.Ac <= e20))) fun x14 =>
      if x14 = true then
       aP (
        aP (
         some (1 : Int)))
      else
       aC (I64 (x10 + (1 : Int))) <|
       some (.inl (x10 + (1 : Int)))
     else
      aP (
       some (.inl ()))) (0 : Int)) k = if fI t.Ad.length (rK t) = true then k () else some 1 := by
 rw [eX t.Ad.length (λi=>!rK t i) (.inr 1) (.inl ()) h,fT]
 ·cases fI t.Ad.length (rK t)<;>rfl
 ·intro i hi;obtain⟨p,hp⟩:=iY hi;obtain⟨q,hq⟩:=iY (xs:=t.Ad) (i:=i - 1) (by omega);obtain⟨hm,hh⟩:=iY (xs:=t.A1) (i:=i) (by omega);simp only [dX hi,if_true,aJ hp,aJ hh,aH];rw [qIM hp hq hh];by_cases h0:0 < i
  ·have e1 : ((i : Int) - 1) = ((i - 1 : Nat) : Int) := by omega
   have e2:I64 ((i - 1:Nat):Int):=by unfold I64;omega
   have e3:(0:Int) < (i:Int):=by omega
   simp only [e1,aA e2,aJ hq,e3,if_true,eY,aH,aA (bX hi h),dI]
   grind
  have e3 : ¬ (0 : Int) < (i : Int) := by omega
  simp only [e3,if_false,eY,aH,aA (bX hi h),dI]
  grind
 simp
theorem qKX (t : Al) (h : t.Ab.length <= 2000000) (k : Unit -> Option Int) : bR (
    aZ (fun x72 =>
     if x72 < (t.Ab.length : Int) then
      aT t.Ab x72 fun e75 =>
      aB (lT t e75.name) fun r76 =>
      if r76 = x72 then
       aC (I64 (x72 + (1 : Int))) <|
       some (.inl (x72 + (1 : Int)))
      else
       aP (
        aP (
         some (8 : Int)))
     else
      aP (
       some (.inl ()))) (0 : Int)) k = if uQ t.Ab = true then k () else some 8 := by
 rw [eX t.Ab.length (λi=>!wV t.Ab i) (.inr 8) (.inl ()) (by omega),fT]
 ·unfold uQ;cases fI t.Ab.length (wV t.Ab)<;>rfl
 ·intro i hi;obtain⟨x,hx⟩:=iY hi;have hf:=qWE hx;simp only [dX hi,if_true,aJ hx,qWF t _ (show Cnt t.Ab by unfold Cnt;omega),aH,aA (bX hi (by omega)),dI]
  cases hb:wV t.Ab i with
  | true=>rw [hb] at hf;rw [if_pos (of_decide_eq_true hf)];simp
  | false=>rw [hb] at hf;rw [if_neg (of_decide_eq_false hf)];simp
 simp
theorem qGP (t:Al) (r:Ai) (ht:Cnt t.Ad) (h:Short r):(aB (kK t r) λa=>if (!(a))=true then some true else aB (dJ t r.Ad) λb=>if (!(b))=true then some true else aB (dJ t r.Aj) λc=>if (!(c))=true then some true else aB (dJ t r.Au) λd=>some (!(d)))=some (!(kZ t r&&nN t r)):=by
 have h1:=h.Ad;have h2:=h.over;have h3:=h.Au;rw [qQW t r h,qY t _ ht (by omega),qY t _ ht (by omega),qY t _ ht (by omega)];unfold nN;cases kZ t r<;>cases eJ t r.Ad<;>cases eJ t r.Aj<;>cases eJ t r.Au<;>rfl
theorem qSF (t:Al) (h:TOk t):kL t=some (fE t):=by
 have hp:=h.Ad;have hr:=h.Ab;unfold kL;by_cases hl:qCM t=true
 ·rw [if_neg (by unfold qCM at hl; simp only [decide_eq_true_eq] at hl; simp only [Bool.or_eq_true, decide_eq_true_eq]; omega)];by_cases e:t.A1.length=t.Ad.length
  ·rw [if_pos (by rw [e]), qNK t (by omega) e, nY t.Ab (fun r => kZ t r && nN t r) 1 hr _ (fun r hm => qGP t r (by omega) (h.each r hm)), nY t.Ab mN 10 hr _ (fun r hm => qQE r (h.each r hm)), qKX t hr];unfold fE;simp only [hl];have hpb:mJ t=fI t.Ad.length (rK t):=by unfold mJ;simp [e]
   rw [hpb];cases fI t.Ad.length (rK t)<;>cases t.Ab.all (λr=>kZ t r&&nN t r)<;>cases t.Ab.all mN<;>cases uQ t.Ab<;>rfl
  rw [if_neg (by omega),zI hl (by unfold mJ;simp [e])]
 rw [if_pos (by unfold qCM at hl;simp only [decide_eq_true_eq] at hl;simp only [Bool.or_eq_true,decide_eq_true_eq];omega),qIU (by simpa using hl)]
theorem qJR (x:Ak) (n:Int) (hn:0<=n/\n<=2000000):gZ x n=some (dT x n):=by
 unfold gZ;simp only [aA (show I64 (n - 1) by unfold I64;omega),eY,aH];simp only [yT,Option.some.injEq];rw [Bool.eq_iff_iff];unfold dT;simp only [zM,zQA,decide_eq_true_eq,Bool.or_eq_true,and_true,Bool.false_eq_true,and_false,or_false];rcases Decidable.em (x.state=0) with s0|s0<;>rcases Decidable.em (x.state=1) with s1|s1<;>rcases Decidable.em (x.state=2) with s2|s2<;>rcases Decidable.em (x.state=3) with s3|s3<;>rcases Decidable.em (x.state=4) with s4|s4<;>first|omega|(simp only [s0,s1,s2,s3,s4,if_true,if_false,true_and,false_and,or_false,false_or,not_true,not_false_iff,and_true,and_false,true_or,or_true];omega)
theorem qLF (x:Ak) (n:Int) (hn:0<=n/\n<=2000000):gY x n=some (dT x n):=by
 unfold gY;simp only [aA (show I64 (n - 1) by unfold I64;omega),eY,aH];simp only [yT,Option.some.injEq];rw [Bool.eq_iff_iff];unfold dT;simp only [zM,zQA,decide_eq_true_eq,Bool.or_eq_true,and_true,Bool.false_eq_true,and_false,or_false];rcases Decidable.em (x.state=0) with s0|s0<;>rcases Decidable.em (x.state=1) with s1|s1<;>rcases Decidable.em (x.state=2) with s2|s2<;>rcases Decidable.em (x.state=3) with s3|s3<;>rcases Decidable.em (x.state=4) with s4|s4<;>first|omega|(simp only [s0,s1,s2,s3,s4,if_true,if_false,true_and,false_and,or_false,false_or,not_true,not_false_iff,and_true,and_false,true_or,or_true];omega)
theorem qIB (t : Al) (s : Az) (h : TOk t) (hlen : s.Ab.length = t.Ab.length) (g : Ak -> Int -> Option Bool) (hg : ∀ x n, 0 <= n /\ n <= 2000000 -> g x n = some (dT x n)) (k : Unit -> Option Bool) : bR (
   aZ (fun x9 =>
    if x9 < (s.Ab.length : Int) then
     aT s.Ab x9 fun e12 =>
     aT t.Ab x9 fun e13 =>
     aB (g e12 (e13.Ac.length : Int)) fun r14 =>
     if (!(r14)) = true then
      aP (
       aP (
        some false))
     else
      aC (I64 (x9 + (1 : Int))) <|
      some (.inl (x9 + (1 : Int)))
    else
     aP (
      some (.inl ()))) (0 : Int)) k = if fI s.Ab.length (jC t s) = true then k () else some false := by
 have hr:=h.Ab;rw [eX s.Ab.length (λi=>!jC t s i) (.inr false) (.inl ()) (by omega),fT]
 ·cases fI s.Ab.length (jC t s)<;>rfl
 ·intro i hi;obtain⟨x,hx⟩:=iY hi;obtain⟨r,hrr⟩:=iY (xs:=t.Ab) (i:=i) (by omega);have hs:=(h.each r (zQM hrr)).secs;simp only [dX hi,if_true,aJ hx,aJ hrr,hg x _ (show 0<=(r.Ac.length:Int)/\(r.Ac.length:Int)<=2000000 by omega),aH,xY hx hrr,aA (bX hi (by omega)),dI]
 simp
theorem qZJ (l : List Int) (h : Cnt l) (k : Unit -> Option Bool) : bR (
   aZ (fun x22 =>
    if x22 < (l.length : Int) then
     aT l x22 fun e25 =>
     if ((!(decide (e25 = (1 : Int)))) && (!(decide (e25 = (2 : Int))))) = true then
      aP (
       aP (
        some false))
     else
      aC (I64 (x22 + (1 : Int))) <|
      some (.inl (x22 + (1 : Int)))
    else
     aP (
      some (.inl ()))) (0 : Int)) k = if l.all qCN = true then k () else some false := by
 rw [fC l (λr=>!qCN r) (.inr false) (.inl ()) h,jE]
 ·cases l.all qCN<;>rfl
 ·intro i x hx;have hi:=(zQQ.1 hx).1;simp only [dX hi,if_true,aJ hx,aA (bX hi h),dI,qCN];by_cases h1:x=1<;>by_cases h2:x=2<;>simp [h1,h2]
 simp
theorem qRP (l : List Int) (h : Cnt l) (k : Unit -> Option Bool) : bR (
   aZ (fun x22 =>
    if x22 < (l.length : Int) then
     aB (
      aT l x22 fun e27 =>
      if e27 = (1 : Int) then
       some false
      else
       aT l x22 fun e29 =>
       some (!(decide (e29 = (2 : Int))))) fun x25 =>
     if x25 = true then
      aP (
       aP (
        some false))
     else
      aC (I64 (x22 + (1 : Int))) <|
      some (.inl (x22 + (1 : Int)))
    else
     aP (
      some (.inl ()))) (0 : Int)) k = if l.all qCN = true then k () else some false := by
 rw [fC l (λr=>!qCN r) (.inr false) (.inl ()) h,jE]
 ·cases l.all qCN<;>rfl
 ·intro i x hx;have hi:=(zQQ.1 hx).1;simp only [dX hi,if_true,aJ hx,aA (bX hi h),dI,qCN,eY,aH];by_cases h1:x=1<;>by_cases h2:x=2<;>simp [h1,h2]
 simp
theorem qIS (t:Al) (s:Az):(if fE t=(0:Int) then if (s.Ab.length:Int)=(t.Ab.length:Int) then some (!(decide ((s.lies.length:Int)=(t.Ad.length:Int)))) else some true else some true)=some (!decide (fE t=0/\s.Ab.length=t.Ab.length/\s.lies.length=t.Ad.length)):=by
 by_cases h1:fE t=0<;>by_cases h2:s.Ab.length=t.Ab.length<;>by_cases h3:s.lies.length=t.Ad.length<;>simp [h1,h2,h3]<;>omega
theorem zCR (t:Al) (s:Az) (h:TOk t):pS t s=some (sF t s):=by
 have hp:=h.Ad;unfold pS sF;simp only [zAJ t h,aH,qIS];by_cases hd:fE t=0/\s.Ab.length=t.Ab.length/\s.lies.length=t.Ad.length
 ·rw [decide_eq_true hd];simp only [Bool.not_true,Bool.false_eq_true,if_false];rw [qIB t s h hd.2.1 _ (λx n hn=>qJR x n hn),qZJ s.lies (by unfold Cnt;omega)];cases fI s.Ab.length (jC t s)<;>cases s.lies.all qCN<;>rfl
 simp [hd]
theorem qWD (t:Al) (s:Az) (h:TOk t):pB t s=some (sF t s):=by
 have hp:=h.Ad;unfold pB sF;simp only [qSF t h,aH,qIS];by_cases hd:fE t=0/\s.Ab.length=t.Ab.length/\s.lies.length=t.Ad.length
 ·rw [decide_eq_true hd];simp only [Bool.not_true,Bool.false_eq_true,if_false];rw [qIB t s h hd.2.1 _ (λx n hn=>qLF x n hn),qRP s.lies (by unfold Cnt;omega)];cases fI s.Ab.length (jC t s)<;>cases s.lies.all qCN<;>rfl
 simp [hd]
theorem yB {x:Ak} {n:Nat} (h:dT x n=true):0<=x.rel/\x.rel<=n:=by
 unfold dT at h;split at h
 ·simp at h;omega
 split at h
 ·simp at h;omega
 split at h
 ·simp at h;omega
 cases h
theorem qFH (l:List Int) (h:l.length<=1000000000):dA l=some l:=by
 unfold dA;rw [aA (by simpa using h)];cases l<;>simp [qVR]
theorem qZG (r:Ai) (x:Ak) (h:Short r) (hx:dT x r.Ac.length=true):pQ r x=some (nD r x):=by
 have hr:=yB hx;have hs:=h.secs;unfold pQ nD;split
 ·rfl
 rw [aA ⟨hr.1,hr.2,Int.le_refl _⟩];have e:x.rel=((x.rel.toNat:Nat):Int):=by omega
 rw [e,kU];simp only [Int.toNat_natCast];rw [qFH _ (by simp;omega)];rfl
theorem qZH (r:Ai) (x:Ak) (h:Short r):pR r x=some (nE r x):=by
 have hs:=h.secs;unfold pR nE;split
 ·rfl
 rw [qFH _ (by omega)];rfl
theorem qVL (t:Al) (s:Az) (h:TOk t) {i:Nat} {r:Ai} {x:Ak} (hr:t.Ab[i]?=some r) (hx:s.Ab[i]?=some x) (hf:dT x r.Ac.length=true):iK t s (i:Int)=some (nD r x):=by
 have hrl:=yB hf;have hs:=(h.each r (zQM hr)).secs;unfold iK nD;rw [aJ hx];split
 ·rfl
 rw [aJ hr,aJ hx,aA ⟨hrl.1,hrl.2,Int.le_refl _⟩];have e:x.rel=((x.rel.toNat:Nat):Int):=by omega
 rw [e,kU];simp only [Int.toNat_natCast];rw [aA (by simp;omega),List.nil_append]
theorem qVP (t:Al) (s:Az) (h:TOk t) {i:Nat} {r:Ai} {x:Ak} (hr:t.Ab[i]?=some r) (hx:s.Ab[i]?=some x):iL t s (i:Int)=some (nE r x):=by
 have hs:=(h.each r (zQM hr)).secs;unfold iL nE;rw [aJ hx];split
 ·rfl
 rw [aJ hr,aA (by simp;omega),List.nil_append]
end Go.Proofs.YtofndjhpbonpbaaGreatDoor
set_option linter.unusedVariables false
set_option linter.unusedSimpArgs false
set_option maxHeartbeats 400000
set_option maxRecDepth 100000
namespace Go.Proofs.YtofndjhpbonpbaaGreatDoor
open Go Go.TL
def qER (x:Int):List Int->List Int
 | []=>[x]
 | y :: r=>if x < y then x :: y :: r else if x=y then y :: r else y :: qER x r
def qFS:List Int->List Int
 | []=>[]
 | x :: r=>qER x (qFS r)
abbrev qGE (l:List Int):Prop:=l.Pairwise (· < ·)
theorem insZ_mem {s x:Int}:∀ {l},s∈qER x l↔s=x\/s∈l
 | []=>by simp [qER]
 | y :: r=>by
  unfold qER;split
  ·simp
  split
  ·rename_i e;subst e;simp
  simp only [zQB,insZ_mem];grind
theorem ascZ_mem {s:Int}:∀ {l},s∈qFS l↔s∈l
 | []=>by simp [qFS]
 | x :: r=>by simp [qFS,insZ_mem,ascZ_mem]
theorem qON (x:Int):∀ l,qGE l->qGE (qER x l)
 | [],_=>by simp [qER]
 | y :: r,h=>by
  have h':=List.pairwise_cons.1 h;unfold qER;split
  ·rename_i hlt;refine List.pairwise_cons.2 ⟨λa ha=>?_,h⟩;rcases zQB.1 ha with rfl|ha
   ·exact hlt
   have:=h'.1 a ha;omega
  split
  ·exact h
  refine List.pairwise_cons.2 ⟨fun a ha => ?_, qON x r h'.2⟩;rcases insZ_mem.1 ha with rfl|ha
  ·omega
  exact h'.1 a ha
theorem zO:∀ l,qGE (qFS l)
 | []=>.nil
 | x :: r=>qON x _ (zO r)
theorem qCA:∀ {l m:List Int},qGE l->qGE m->(∀ s,s∈l↔s∈m)->l=m
 | [],[],_,_,_=>rfl
 | [],y :: m,_,_,h=>absurd ((h y).2 (List.mem_cons_self ..)) (by simp)
 | x :: l,[],_,_,h=>absurd ((h x).1 (List.mem_cons_self ..)) (by simp)
 | x :: l,y :: m,h1,h2,h=>by
  have h1':=List.pairwise_cons.1 h1;have h2':=List.pairwise_cons.1 h2
  have hxy:x=y:=by
   rcases zQB.1 ((h x).1 (List.mem_cons_self ..)) with e|hx
   ·exact e
   rcases zQB.1 ((h y).2 (List.mem_cons_self ..)) with e|hy
   ·exact e.symm
   have:=h2'.1 x hx;have:=h1'.1 y hy;omega
  subst hxy
  congr 1
  refine qCA h1'.2 h2'.2 λs=>⟨λhs=>?_,λhs=>?_⟩
  ·rcases zQB.1 ((h s).1 (List.mem_cons_of_mem _ hs)) with e|hm
   ·have:=h1'.1 s hs;omega
   exact hm
  rcases zQB.1 ((h s).2 (List.mem_cons_of_mem _ hs)) with e|hm
  ·have:=h2'.1 s hs;omega
  exact hm
theorem zDY {l m:List Int} (h:qGE m) (hm:∀ s,s∈m↔s∈l):m=qFS l:=
 qCA h (zO l) λs=>(hm s).trans ascZ_mem.symm
theorem qOM (x:Int):∀ l,(qER x l).length<=l.length+1
 | []=>by simp [qER]
 | y :: r=>by
  unfold qER;split
  ·simp
  split
  ·simp
  have:=qOM x r;simp only [List.length_cons];omega
theorem qFR:∀ l,(qFS l).length<=l.length
 | []=>zQW _
 | x :: r=>by have h1:=qFR r;have h2:=qOM x (qFS r);simp only [qFS,List.length_cons];omega
theorem qJF (l:List Int):(kI l).Pairwise (·<=·):=by
 have:=nU qIE l;exact this.imp fun {a b} h=>by rw [vU] at h;simpa using h
theorem qIC {s:Int} {l:List Int}:s∈kI l↔s∈l:=(oR (m:=qUW) l).mem_iff
theorem zG (L:List Int) (hs:L.Pairwise (·<=·)):∀ i,i<=L.length->qGE (Go.Lib.compactUpTo L.toArray i)/\∀ s,s∈Go.Lib.compactUpTo L.toArray i↔s∈L.take i
 | 0,_=>⟨.nil,λs=>by simp [Go.Lib.compactUpTo]⟩
 | i+1,hi=>by
  obtain⟨h1,h2⟩:=zG L hs i (by omega);have hil:i < L.length:=by omega
  have htake:L.take (i+1)=L.take i++[L[i]]:=List.take_succ_eq_append_getElem hil;have hget:L.toArray[i]! = L[i]:=by rw [getElem!_pos L.toArray i (by simpa using hil)];simp
  rw [Go.Lib.compactUpTo_succ,hget];have hle:=List.pairwise_iff_getElem.1 hs
  cases hk:Go.Lib.keeps L.toArray i with
  | true=>
   rw [if_pos rfl];refine⟨List.pairwise_append.2 ⟨h1,by simp,λa ha b hb=>?_⟩,λs=>by rw [htake,zQN,zQN,h2]⟩;simp only [List.mem_singleton] at hb;subst hb;obtain⟨j,hj,rfl⟩:=List.mem_take_iff_getElem.1 ((h2 a).1 ha);have hj':j < i:=by omega
   have hi0:i≠0:=by omega
   have hk':=of_decide_eq_true hk;rcases hk' with h0|hne
   ·exact absurd h0 hi0
   rw [hget, getElem!_pos L.toArray (i - 1) (by simp; omega)] at hne;simp only [List.getElem_toArray] at hne
   have a1:L[j]<=L[i - 1]:=by
    rcases Nat.lt_or_ge j (i - 1) with h|h
    ·exact hle j (i - 1) (by omega) (by omega) h
    have : j = i - 1 := by omega
    subst this;exact Int.le_refl _
   have a2:=hle (i - 1) i (by omega) (by omega) (by omega);omega
  | false=>
   rw [if_neg (by simp),List.append_nil];refine⟨h1,λs=>?_⟩;have hk':=of_decide_eq_false hk;have hi0:i≠0:=λe=>hk' (.inl e)
   have he:L.toArray[i]! = L.toArray[i - 1]!:=by
    by_cases h:L.toArray[i]! = L.toArray[i - 1]!
    ·exact h
    exact absurd (.inr h) hk'
   rw [hget,getElem!_pos L.toArray (i - 1) (by simp;omega)] at he;simp only [List.getElem_toArray] at he;rw [h2,htake,zQN];refine⟨.inl,λh=>?_⟩;rcases h with h|h
   ·exact h
   simp only [List.mem_singleton] at h;rw [h,he];exact List.mem_take_iff_getElem.2 ⟨i - 1,by omega,rfl⟩
theorem qZF (l:List Int):Go.Lib.compact (kI l)=qFS l:=by
 have h:=zG (kI l) (qJF l) (kI l).length (zQW _);refine zDY h.1 λs=>?_;show s∈Go.Lib.compactUpTo (kI l).toArray (kI l).length↔_;rw [h.2,List.take_length,qIC]
theorem xA (l:List Int) (h:l.length<=1000000000):mA l=some (qFS l):=by
 unfold mA;rw [qFH l h,aH,aA h,aA (by rw [gM];exact h),qZF]
def ltS (x y:Aa):Bool:=decide (x.el < y.el)||(decide (x.el=y.el)&&decide (x.pos < y.pos))
theorem yP {x y:Aa}:ltS x y=true↔x.el < y.el\/x.el=y.el/\x.pos < y.pos:=by simp [ltS]
theorem pO (x:Aa):ltS x x=false:=by simp [ltS]
theorem qAZ {x y z:Aa} (h1:ltS x y=true) (h2:ltS y z=true):ltS x z=true:=by rw [yP] at *; omega
theorem qIP {x y:Aa} (h1:ltS x y=true) (h2:ltS y x=true):False:=by rw [yP] at *; omega
theorem qZZ {x y:Aa} (h1:x.el=y.el) (h2:x.pos=y.pos):x=y:=by
 obtain⟨a,b⟩:=x;obtain⟨c,d⟩:=y;simp_all
theorem qKV {x y:Aa} (h1:ltS x y=false) (h2:ltS y x=false):x=y:=by
 have h1':¬ (x.el < y.el\/x.el=y.el/\x.pos < y.pos):=λh=>by rw [<- yP,h1] at h;cases h
 have h2':¬ (y.el < x.el\/y.el=x.el/\y.pos < x.pos):=λh=>by rw [<- yP,h2] at h;cases h
 exact qZZ (by omega) (by omega)
def qES (x:Aa):List Aa->List Aa
 | []=>[x]
 | y :: r=>if ltS x y=true then x :: y :: r else if x=y then y :: r else y :: qES x r
def hP:List Aa->List Aa
 | []=>[]
 | x :: r=>qES x (hP r)
abbrev Asc (l:List Aa):Prop:=l.Pairwise (λa b=>ltS a b=true)
theorem insS_mem {s x:Aa}:∀ {l},s∈qES x l↔s=x\/s∈l
 | []=>by simp [qES]
 | y :: r=>by
  unfold qES;split
  ·simp
  split
  ·rename_i e;subst e;simp
  simp only [zQB,insS_mem];grind
theorem ascS_mem {s:Aa}:∀ {l},s∈hP l↔s∈l
 | []=>by simp [hP]
 | x :: r=>by simp [hP,insS_mem,ascS_mem]
theorem qOO (x:Aa):∀ l,Asc l->Asc (qES x l)
 | [],_=>by simp [qES]
 | y :: r,h=>by
  have h':=List.pairwise_cons.1 h;unfold qES;split
  ·rename_i hxy;refine List.pairwise_cons.2 ⟨λb hb=>?_,h⟩;rcases zQB.1 hb with rfl|hb
   ·exact hxy
   exact qAZ hxy (h'.1 b hb)
  split
  ·exact h
  rename_i h1 h2;refine List.pairwise_cons.2 ⟨λb hb=>?_,qOO x r h'.2⟩;rcases insS_mem.1 hb with rfl|hb
  ·cases h3:ltS y b with
   | true=>rfl
   | false=>exact absurd (qKV (by simpa using h1) h3) h2
  exact h'.1 b hb
theorem zP:∀ l,Asc (hP l)
 | []=>.nil
 | x :: r=>qOO x _ (zP r)
theorem qFQ:∀ {l m:List Aa},Asc l->Asc m->(∀ s,s∈l↔s∈m)->l=m
 | [],[],_,_,_=>rfl
 | [],y :: m,_,_,h=>absurd ((h y).2 (List.mem_cons_self ..)) (by simp)
 | x :: l,[],_,_,h=>absurd ((h x).1 (List.mem_cons_self ..)) (by simp)
 | x :: l,y :: m,h1,h2,h=>by
  have h1':=List.pairwise_cons.1 h1;have h2':=List.pairwise_cons.1 h2
  have e:x=y:=by
   rcases zQB.1 ((h x).1 (List.mem_cons_self ..)) with e|hx
   ·exact e
   rcases zQB.1 ((h y).2 (List.mem_cons_self ..)) with e|hy
   ·exact e.symm
   exact (qIP (h2'.1 x hx) (h1'.1 y hy)).elim
  subst e
  have := qFQ h1'.2 h2'.2 fun s => ⟨fun hs => by
   rcases zQB.1 ((h s).1 (List.mem_cons_of_mem _ hs)) with e | h3
   ·subst e; have := h1'.1 s hs; rw [pO] at this; cases this
   ·exact h3, fun hs => by
   rcases zQB.1 ((h s).2 (List.mem_cons_of_mem _ hs)) with e | h3
   ·subst e; have := h2'.1 s hs; rw [pO] at this; cases this
   exact h3⟩
  rw [this]
theorem qUL {l m:List Aa} (h:Asc m) (hm:∀ s,s∈m↔s∈l):m=hP l:=qFQ h (zP l) λs=>by rw [hm,ascS_mem]
theorem qFT (l:List Aa):(hP l).length<=l.length:=by
 induction l with
 | nil=>simp [hP]
 | cons x r ih=>
  have:∀ m,(qES x m).length<=m.length+1:=by
   intro m
   induction m with
   | nil=>simp [qES]
   | cons y q ih=>unfold qES;split<;>(try split)<;>simp<;>omega
  have h:=this (hP r);simp only [hP,List.length_cons];omega
theorem qKW (x y:Aa):ltM cD x y=ltS x y:=by
 rw [Bool.eq_iff_iff,yP];simp only [ltM,oV,Option.getD_some,sgn,decide_eq_true_eq];split<;>split<;>(try split)<;>(try split)<;>omega
def lP (L:List Aa):Nat->List Aa
 | 0=>[]
 | i+1=>match L[i]? with
  | none=>lP L i
  | some e=>if i=0\/¬ L[i - 1]?=some e then lP L i++[e] else lP L i
theorem qIT (L:List Aa):∀ i,(lP L i).length<=i
 | 0=>zQW _
 | i+1=>by
  have:=qIT L i;unfold lP;split
  ·omega
  split
  ·simp;omega
  omega
theorem qPB (L : List Aa) (hs : L.Pairwise (fun a b => ltS b a = false)) : ∀ i, i <= L.length -> Asc (lP L i) /\ ∀ s, s ∈ lP L i ↔ s ∈ L.take i
 | 0,_=>⟨.nil,λs=>by simp [lP]⟩
 | i+1,hi=>by
  obtain⟨h1,h2⟩:=qPB L hs i (by omega);have he:L[i]?=some L[i]:=by simp
  rw [List.pairwise_iff_getElem] at hs;have htake:L.take (i+1)=L.take i++[L[i]]:=by rw [List.take_add_one,he];rfl
  unfold lP;rw [he];simp only;split
  ·rename_i hc;refine⟨List.pairwise_append.2 ⟨h1,by simp,λa ha b hb=>?_⟩,λs=>by rw [htake,zQN,zQN,h2]⟩;simp only [List.mem_singleton] at hb;subst hb;rcases hc with h0|hc
   ·subst h0;simp [lP] at ha
   have hi0 : i ≠ 0 := fun e => by subst e; simp [lP] at ha
   obtain⟨j,hj,rfl⟩:=List.mem_take_iff_getElem.1 ((h2 a).1 ha);have e1:L[i - 1]?=some L[i - 1]:=by rw [zQR]
   have hne:L[i - 1]≠L[i]:=λe=>hc (by rw [e1,e])
   have hlt:ltS L[i - 1] L[i]=true:=by
    cases h3:ltS L[i - 1] L[i] with
    | true=>rfl
    | false=>exact absurd (qKV h3 (hs (i - 1) i (by omega) (by omega) (by omega))) hne
   by_cases hj':j=i - 1
   ·subst hj';exact hlt
   have h4 := hs j (i - 1) (by omega) (by omega) (by omega)
   cases h5:ltS L[j] L[i - 1] with
   | true=>exact qAZ h5 hlt
   | false=>rw [qKV h5 h4];exact hlt
  rename_i hc;refine⟨h1,λs=>?_⟩;rw [htake,zQN,h2];have hi0:i≠0:=λe=>hc (.inl e)
  have e1:L[i - 1]?=some L[i]:=by
   cases h:decide (L[i - 1]?=some L[i]) with
   | true=>exact of_decide_eq_true h
   | false=>exact absurd (.inr (of_decide_eq_false h)) hc
  have hm:L[i]∈L.take i:=List.mem_take_iff_getElem.2 ⟨i - 1,by omega,by rw [zQR (by omega)] at e1;exact Option.some.inj e1⟩;refine⟨.inl,λh=>?_⟩;rcases h with h|h
  ·exact h
  simp only [List.mem_singleton] at h;subst h;exact hm
abbrev fU (r:Ai):List Aa:=r.Ad++r.Aj++r.Au
theorem qSA (xss:List (List Aa)) (h:xss.length<=1000/\xss.flatten.length<=1000000000):fG xss=some xss.flatten:=aA h
theorem qMH (r:Ai) (h:Short r) (ho:∀ s∈fU r,Aa.ok s):iF r=some (hP (fU r)):=by
 have hfl:[r.Ad,r.Aj,r.Au].flatten=fU r:=by simp [fU]
 have hlen:(fU r).length<=6000000:=by have:=h.Ad;have:=h.over;have:=h.Au;simp [fU];omega
 unfold iF;rw [qSA _ ⟨by simp,by rw [hfl];omega⟩,aH,hfl,aA (by omega)];generalize hL:oS cD (fU r)=L;have hLl:L.length=(fU r).length:=by rw [<- hL,nV]
 have hmem:∀ s,s∈L↔s∈fU r:=λs=>by rw [<- hL];exact (oR _).mem_iff
 have hsort:L.Pairwise (λa b=>ltS b a=false):=by
  rw [<- hL];have:=nU kT (fU r);exact this.imp fun {a b} hab=>by rw [<- qKW];exact hab
 obtain⟨h1,h2⟩:=qPB L hsort L.length (zQW _);have hfin:lP L L.length=hP (fU r):=qUL h1 λs=>by rw [h2,List.take_length,hmem]
 rw [iX (b:=([]:List Aa)) (o:=hP (fU r)) L.length (lP L) rfl (by omega) (λi hi=>?_) (by dsimp only;rw [if_neg (by omega),hfin];rfl)]
 ·rfl
 have he : L[i]? = some L[i] := by simp
 have hg:(lP L i++[L[i]]).length<=1000000000:=by have:=qIT L i;simp;omega
 dsimp only;rw [if_pos (by omega),aJ he]
 have hcond:(if (i:Int)=0 then some true else aC (I64 ((i:Int) - 1)) (aT L ((i:Int) - 1) λe17=>aC (Aa.ok L[i]/\Aa.ok e17) (some (!decide (L[i]=e17)))))=some (decide (i=0\/¬ L[i - 1]?=some L[i])):=by
  by_cases h0:i=0
  ·subst h0;simp
  have e1 : L[i - 1]? = some L[i - 1] := by rw [zQR]
  have e2:((i:Int) - 1)=((i - 1:Nat):Int):=by omega
  rw [if_neg (by omega),aA (by unfold I64;omega),e2,aJ e1,aA ⟨ho _ ((hmem _).1 (List.getElem_mem _)),ho _ ((hmem _).1 (List.getElem_mem _))⟩,e1];have e3:(L[i]=L[i - 1])=(L[i - 1]=L[i]):=propext eq_comm;simp only [Option.some.injEq,h0,false_or,e3,decide_not]
 rw [hcond,aH];have hstep:lP L (i+1)=if i=0\/¬ L[i - 1]?=some L[i] then lP L i++[L[i]] else lP L i:=by rw [lP,he]
 by_cases hc:i=0\/¬ L[i - 1]?=some L[i]
 ·rw [if_pos (by simpa using hc),aA hg,aA (bX (n:=L.length) hi (by omega)),hstep,if_pos hc]
 rw [if_neg (by simpa using hc),aA (bX (n:=L.length) hi (by omega)),hstep,if_neg hc]
theorem zAM {D:List Aa} (h:Asc D) {i j:Nat} (hi:i < D.length) (hj:j < D.length):ltS D[i] D[j]=true↔i < j:=by
  rw [Asc,List.pairwise_iff_getElem] at h;constructor
  · intro hl
    rcases Nat.lt_trichotomy i j with h1|h1|h1
    · exact h1
    · subst h1;rw [pO] at hl;cases hl
    exact (qIP hl (h j i hj hi h1)).elim
  exact λhl=>h i j hi hj hl
def tP (out:List Aa) (e:Aa):Bool:=out.isEmpty||(out.getLast?).any λl=>ltS l e
def eP (A out:List Aa):Nat->Int
  | 0=>-1
  | i+1=>match A[i]? with
    | none=>eP A out i
    | some e=>if tP out e=true/\(eP A out i < 0\/(A[(eP A out i).toNat]?).any (λb=>ltS e b)=true) then (i:Int) else eP A out i
theorem qBJ (A out:List Aa):∀ i,i<=A.length->(eP A out i=-1/\∀ j,j < i->(A[j]?).any (tP out)=false)\/
    ∃ b:Nat,eP A out i=(b:Int)/\b < i/\∃ e,A[b]?=some e/\tP out e=true/\∀ j e',j < i->A[j]?=some e'->tP out e'=true->ltS e' e=false
  | 0,_=>.inl ⟨rfl,λj hj=>absurd hj (zQV j)⟩
  | i+1,hi=>by
    have he:A[i]?=some A[i]:=by simp
    have ih:=qBJ A out i (by omega);unfold eP;rw [he];simp only;by_cases hc:tP out A[i]=true
    · rcases ih with ⟨h1,h2⟩|⟨b,h1,h2,e,h3,h4,h5⟩
      · rw [if_pos ⟨hc, .inl (by omega)⟩]
        refine .inr ⟨i,rfl,by omega,A[i],he,hc,λj e' hj hj' hc'=>?_⟩;rcases Nat.lt_or_ge j i with h|h
        · have:=h2 j h;rw [hj'] at this;simp [hc'] at this
        have : j = i := by omega
        subst this;rw [he] at hj';cases hj';exact pO _
      rw [h1];have e1:A[((b:Int)).toNat]?=some e:=by simpa using h3
      rw [e1];by_cases hl:ltS A[i] e=true
      · rw [if_pos ⟨hc, .inr (by simpa using hl)⟩]
        refine .inr ⟨i,rfl,by omega,A[i],he,hc,λj e' hj hj' hc'=>?_⟩;rcases Nat.lt_or_ge j i with h|h
        · cases h6:ltS e' A[i] with
          | false=>rfl
          | true=>have h7:=h5 j e' h hj' hc';rw [qAZ h6 hl] at h7;cases h7
        have : j = i := by omega
        subst this;rw [he] at hj';cases hj';exact pO _
      rw [if_neg (by rintro ⟨_, h | h⟩; · omega
                     · exact hl (by simpa using h))]
      refine .inr ⟨b,rfl,by omega,e,h3,h4,λj e' hj hj' hc'=>?_⟩;rcases Nat.lt_or_ge j i with h|h
      · exact h5 j e' h hj' hc'
      have : j = i := by omega
      subst this;rw [he] at hj';cases hj';simpa using hl
    rw [if_neg (fun h => hc h.1)];rcases ih with ⟨h1,h2⟩|⟨b,h1,h2,e,h3,h4,h5⟩
    · refine .inl ⟨h1, fun j hj => ?_⟩
      rcases Nat.lt_or_ge j i with h|h
      · exact h2 j h
      have : j = i := by omega
      subst this;rw [he];simpa using hc
    refine .inr ⟨b, h1, by omega, e, h3, h4, fun j e' hj hj' hc' => ?_⟩;rcases Nat.lt_or_ge j i with h|h
    · exact h5 j e' h hj' hc'
    have : j = i := by omega
    subst this;rw [he] at hj';cases hj';exact absurd hc' hc
theorem qUJ (A:List Aa) {k:Nat} (hk:k<=(hP A).length):
    (k=(hP A).length->eP A ((hP A).take k) A.length=-1)/\
    ∀ hlt:k < (hP A).length,∃ b:Nat,eP A ((hP A).take k) A.length=(b:Int)/\A[b]?=some (hP A)[k]:=by
  have hasc:=zP A
  have hcand:∀ j (hj:j < (hP A).length),tP ((hP A).take k) (hP A)[j]=decide (k<=j):=by
    intro j hj;unfold tP;by_cases h0:k=0
    · subst h0;simp
    have hl:((hP A).take k).getLast?=some (hP A)[k - 1]:=by
      rw [List.getLast?_eq_getElem?,List.length_take,Nat.min_eq_left hk,List.getElem?_take_of_lt (by omega),zQR (by omega)]
    have he:((hP A).take k).isEmpty=false:=by
      cases h:(hP A).take k with
      | nil=>rw [h] at hl;cases hl
      | cons=>rfl
    rw [hl,he,Bool.eq_iff_iff];simp only [Bool.false_or,Option.any_some,zAM hasc (show k - 1 < _ by omega) hj,decide_eq_true_eq];omega
  have hin:∀ (j:Nat) (e:Aa),A[j]?=some e->∃ i,∃ hi:i < (hP A).length,e=(hP A)[i]:=by
    intro j e he;obtain⟨i,hi,h⟩:=List.mem_iff_getElem.1 (ascS_mem.2 (zQM he));exact⟨i,hi,h.symm⟩
  rcases qBJ A ((hP A).take k) A.length (zQW _) with ⟨h1,h2⟩|⟨b,h1,h2,e,h3,h4,h5⟩
  · refine ⟨fun _ => h1, fun hlt => ?_⟩
    obtain⟨j,hj,h⟩:=List.mem_iff_getElem.1 (ascS_mem.1 (List.getElem_mem hlt));have:=h2 j hj;rw [zQR hj,h,Option.any_some,hcand k hlt] at this;simp at this
  obtain⟨i,hi,rfl⟩:=hin b e h3;rw [hcand i hi] at h4;have h4':=of_decide_eq_true h4;refine⟨λh=>by omega,λhlt=>⟨b,h1,?_⟩⟩;obtain⟨j,hj,h⟩:=List.mem_iff_getElem.1 (ascS_mem.1 (List.getElem_mem hlt));have h6:=h5 j (hP A)[k] hj (by rw [zQR hj,h]) (by rw [hcand k hlt];simp);have h7:¬ k < i:=λhc=>by rw [(zAM hasc hlt hi).2 hc] at h6;cases h6
  have:i=k:=by omega
  subst this;exact h3
theorem qTL (x y:Aa):eB x y=some (ltS x y):=rfl
theorem qSY (A out : List Aa) (hA : A.length <= 6000000) (ho : out.length <= 6000000) : aZ (fun (found11, x12) =>
        if x12 < (A.length : Int) then
          aT A x12 fun e15 =>
          aB (
            if (out.length : Int) = (0 : Int) then
              if found11 < (0 : Int) then
                some true
              else
                aT A found11 fun e27 =>
                aB (eB e15 e27) fun r28 =>
                some r28
            else
              aC (I64 ((out.length : Int) - (1 : Int))) <|
              aT out ((out.length : Int) - (1 : Int)) fun e20 =>
              aB (eB e20 e15) fun r21 =>
              if r21 = true then
                if found11 < (0 : Int) then
                  some true
                else
                  aT A found11 fun e24 =>
                  aB (eB e15 e24) fun r25 =>
                  some r25
              else
                some false) fun x16 =>
          if x16 = true then
            aC (I64 (x12 + (1 : Int))) <|
            some (.inl (x12, (x12 + (1 : Int))))
          else
            aC (I64 (x12 + (1 : Int))) <|
            some (.inl (found11, (x12 + (1 : Int))))
        else
          aP (
            some found11)) ((-1 : Int), (0 : Int)) = some (eP A out A.length) := by
  refine tG (λi=>(eP A out i,(i:Int))) A.length rfl (by omega) (λi hi=>?_) (by dsimp only;rw [if_neg (by omega)];rfl);dsimp only;have he:A[i]?=some A[i]:=by simp
  have hstep:eP A out (i+1)=if tP out A[i]=true/\(eP A out i < 0\/(A[(eP A out i).toNat]?).any (λb=>ltS A[i] b)=true) then (i:Int) else eP A out i:=by rw [eP,he]
  have hinner:∀ f:Int,f=eP A out i->(if f < (0:Int) then some true else aT A f λe27=>aB (eB A[i] e27) λr28=>some r28)=some (decide (eP A out i < 0\/(A[(eP A out i).toNat]?).any (λb=>ltS A[i] b)=true)):=by
    rintro f rfl;rcases qBJ A out i (by omega) with ⟨h1,_⟩|⟨b,h1,h2,e,h3,_,_⟩
    · rw [h1];simp
    rw [h1, if_neg (by omega), aJ h3, qTL, aH];have h3':A[((b:Int)).toNat]?=some e:=by simpa using h3
    rw [h3']
    congr 1
    rw [Bool.eq_iff_iff,decide_eq_true_eq];simp only [Option.any_some];constructor
    · exact .inr
    rintro (h|h)
    · omega
    exact h
  have hcond : (if (out.length : Int) = (0 : Int) then
              (if eP A out i < (0 : Int) then some true else aT A (eP A out i) fun e27 => aB (eB A[i] e27) fun r28 => some r28)
            else
              aC (I64 ((out.length : Int) - (1 : Int))) <|
              aT out ((out.length : Int) - (1 : Int)) fun e20 =>
              aB (eB e20 A[i]) fun r21 =>
              if r21 = true then (if eP A out i < (0 : Int) then some true else aT A (eP A out i) fun e24 => aB (eB A[i] e24) fun r25 => some r25)
              else some false) = some (decide (tP out A[i] = true /\ (eP A out i < 0 \/ (A[(eP A out i).toNat]?).any (fun b => ltS A[i] b) = true))) := by
    rw [hinner _ rfl];by_cases h0:out=[]
    · subst h0;simp [tP]
    have hl:0 < out.length:=List.length_pos_iff.2 h0;have h1:out[out.length - 1]?=some (out[out.length - 1]):=by rw [zQR]
    have e2:((out.length:Int) - 1)=((out.length - 1:Nat):Int):=by omega
    rw [if_neg (by omega),aA (by unfold I64;omega),e2,aJ h1,qTL,aH]
    have hcb:tP out A[i]=ltS out[out.length - 1] A[i]:=by
      unfold tP;rw [List.getLast?_eq_getElem?,h1,Option.any_some]
      cases out with
      | nil=>exact absurd rfl h0
      | cons=>rfl
    rw [hcb];cases ltS out[out.length - 1] A[i]<;>simp
  rw [if_pos (by omega),aJ he,hcond,aH,hstep];split
  · rename_i h
    rw [if_pos (of_decide_eq_true h),aA (bX (n:=A.length) hi (by omega))];rfl
  rename_i h;rw [if_neg (λh'=>h (decide_eq_true h')),aA (bX (n:=A.length) hi (by omega))];rfl
theorem qHX (r:Ai) (h:Short r):iN r=some (hP (fU r)):=by
  have hlen:(fU r).length<=6000000:=by have:=h.Ad;have:=h.over;have:=h.Au;simp [fU];omega
  have hl1:(r.Ad++r.Aj).length<=6000000:=by have:=h.Ad;have:=h.over;simp;omega
  have hl2:r.Ad.length<=6000000:=by have:=h.Ad;omega
  unfold iN;simp only [List.nil_append];rw [aA (by omega),aA (by omega),aA (show (fU r).length<=1000000000 by omega)];have hDl:=qFT (fU r);refine tG (λk=>(hP (fU r)).take k) (hP (fU r)).length (by simp) (by omega) (λk hk=>?_) ?_
  · rw [qSY (fU r) _ hlen (by rw [List.length_take]; omega), aH]
    obtain⟨b,h1,h2⟩:=(qUJ (fU r) (Nat.le_of_lt hk)).2 hk;rw [h1,if_neg (by omega),aJ h2,aA (by rw [zQL,List.length_take];simp only [List.length_cons,List.length_nil];omega),List.take_add_one,zQR hk];rfl
  rw [qSY (fU r) _ hlen (by rw [List.length_take]; omega), aH, (qUJ (fU r) (zQW _)).1 rfl, List.take_length];rfl
theorem qBU {α:Type} {f:Int×List α->Option ((Int×List α) ⊕ List α)} (l:List α) (P:α->Bool) (hn:l.length<=1000000000) (hf:∀ (i:Nat) (e:α) (b:List α),l[i]?=some e->b.length<=i->f ((i:Int),b)=some (.inl ((i:Int)+1,if P e=true then b++[e] else b))) (he:∀ b,f ((l.length:Int),b)=some (.inr b)):aZ f (0,[])=some (l.filter P):=by
 refine iX l.length (λi=>(l.take i).filter P) (by simp) (by omega) (λi hi=>?_) (by rw [he];simp);have e1:l[i]?=some l[i]:=by simp
 rw [hf i l[i] _ e1 (Nat.le_trans (List.length_filter_le _ _) (by rw [List.length_take];omega)),List.take_add_one,e1,List.filter_append]
 congr 3
 split
 ·rename_i h;simp [h]
 rename_i h;simp [h]
theorem qNY {α β:Type} {f:Int×List β->Option ((Int×List β) ⊕ List β)} (l:List α) (g:α->β) (b0:List β) (hn:l.length<=1000000000) (hf:∀ (i:Nat) (e:α) (b:List β),l[i]?=some e->b.length=b0.length+i->f ((i:Int),b)=some (.inl ((i:Int)+1,b++[g e]))) (he:∀ b,f ((l.length:Int),b)=some (.inr b)):aZ f (0,b0)=some (b0++l.map g):=by
 refine iX l.length (λi=>b0++(l.take i).map g) (by simp) (by omega) (λi hi=>?_) (by rw [he];simp);have e1:l[i]?=some l[i]:=by simp
 rw [hf i l[i] _ e1 (by rw [zQL,zQC,List.length_take,Nat.min_eq_left (by omega)]),List.take_add_one,e1];simp only [Option.toList_some,List.map_append,List.map_cons,List.map_nil,List.append_assoc]
theorem mC {t:Al} (h:fE t=0):qCM t=true/\mJ t=true/\(∀ r∈t.Ab,kZ t r=true/\nN t r=true)/\(∀ r∈t.Ab,mN r=true)/\uQ t.Ab=true:=by
 unfold fE at h;split at h
 ·cases h
 split at h
 ·cases h
 split at h
 ·cases h
 split at h
 ·cases h
 split at h
 ·cases h
 rename_i h1 h2 h3 h4 h5;simp only [Bool.not_eq_false] at h1 h2 h3 h4 h5;rw [zQT] at h3 h4;exact⟨h1,h2,λr hr=>by have:=h3 r hr;rwa [zQA] at this,h4,h5⟩
theorem zY {t:Al} {l:List Aa} (h:eJ t l=true) {s:Aa} (hs:s∈l):(fK t.Ad s.el).isSome=true/\1<=s.pos/\s.pos<=2:=by
 obtain⟨i,hi,rfl⟩:=List.mem_iff_getElem.1 hs;have h1:=allB_iff.1 h i hi;rw [qDK (x:=l[i]) (y:=l[i - 1]) (by simp) (by rw [zQR])] at h1;have:=of_decide_eq_true h1;exact⟨this.1,this.2.1,this.2.2.1⟩
theorem sQ {t:Al} {r:Ai} (h:nN t r=true) {s:Aa} (hs:s∈fU r):∃ k,fK t.Ad s.el=some k/\k < t.Ad.length:=by
 unfold nN at h;rw [zQA,zQA] at h
 have:(fK t.Ad s.el).isSome=true:=by
  simp only [fU,zQN] at hs;rcases hs with (hs|hs)|hs
  ·exact (zY h.1.1 hs).1
  ·exact (zY h.1.2 hs).1
  exact (zY h.2 hs).1
 obtain⟨k,hk⟩:=Option.isSome_iff_exists.1 this;exact⟨k,hk,by obtain⟨_,_,_,h⟩:=qLC hk;exact h⟩
def SOk (t:Al):Prop:=∀ r∈t.Ab,∀ s∈fU r,Aa.ok s
def qBD (t:Al) (el:Int):Int:=((fK t.Ad el).bind (t.A1[·]?)).getD 0
theorem qWC {t:Al} {el:Int} {k:Nat} (h:fK t.Ad el=some k) {x:Int} (hx:t.A1[k]?=some x):qBD t el=x:=by simp [qBD,h,hx]
def qV (t:Al) (r:Ai) (x:Ak) (s:Aa):Bool:=!decide (qBD t s.el∈r.Ac.take x.rel.toNat)
def jG (t:Al) (r:Ai) (x:Ak):List Aa:=if x.state=0 then [] else hP (r.Ad.filter (qV t r x)++r.Aj++r.Au)
theorem qOU {t:Al} (h:fE t=0) {el:Int} {k:Nat} (hk:fK t.Ad el=some k):t.A1[k]?=some (qBD t el):=by
 obtain⟨_,h2,_⟩:=mC h;unfold mJ at h2;rw [zQA,decide_eq_true_eq] at h2;obtain⟨_,_,_,hlt⟩:=qLC hk;have:t.A1[k]?=some t.A1[k]:=by rw [zQR]
 rw [qWC hk this,this]
theorem qLD (l:List Int) (x:Int) (h:Cnt l):sD l x=some (decide (x∈l)):=by simp [sD,qPE l x h]
theorem qVX (t:Al) (r:Ai) (x:Ak) (h:TOk t) (ho:SOk t) (hc:fE t=0) (hr:r∈t.Ab) (hx:0<=x.rel/\x.rel<=r.Ac.length):nF t r x=some (jG t r x):=by
 have hs:=h.each r hr;obtain⟨_,_,h3,_⟩:=mC hc;unfold nF jG;by_cases h0:x.state=0
 ·rw [if_pos h0,if_pos h0]
 rw [if_neg h0,if_neg h0];obtain⟨n,hn⟩:=Int.eq_ofNat_of_zero_le hx.1;rw [qBU r.Ad (qV t r x) (by have:=hs.Ad;omega) (λi e b he hb=>?_) (λb=>by dsimp only;rw [if_neg (by omega)];rfl),aH]
 ·have hR := qMH (⟨⟨#[]⟩, 0, 0, [], r.Ad.filter (qV t r x), [], 0, 0, [], r.Aj, [], r.Au, [], []⟩ : Ai) ⟨Nat.zero_le _, Nat.le_trans (List.length_filter_le _ _) hs.Ad, hs.over, hs.Au⟩ (fun s hm => ?_)
  ·rw [hR];rfl
  refine ho r hr s ?_;simp only [fU,zQN,List.mem_filter] at hm ⊢
  grind
 dsimp only;have hi:i < r.Ad.length:=(zQQ.1 he).1;obtain⟨k,hk,hkl⟩:=sQ (h3 r hr).2 (s:=e) (by simp [fU,zQM he]);have hh:=qOU hc hk;have hsec:=hs.secs;have hp:=hs.Ad;rw [if_pos (by omega),aJ he,aA ⟨by omega,hx.1,hx.2⟩,vP t e.el (by have:=h.Ad;unfold Cnt;omega),aH,hk];rw [show tW (some k)=(k:Int) from rfl,aJ hh,hn,qMC,qLD _ _ (by unfold Cnt;rw [List.length_take];omega),aH];have hkb:qV t r x e=!decide (qBD t e.el∈r.Ac.take n):=by unfold qV;rw [hn];rfl
 rw [hkb];split
 ·rename_i h1;rw [aA (by simp;omega),aA (bX hi (by omega))]
 rename_i h1;rw [aA (bX hi (by omega))]
end Go.Proofs.YtofndjhpbonpbaaGreatDoor
