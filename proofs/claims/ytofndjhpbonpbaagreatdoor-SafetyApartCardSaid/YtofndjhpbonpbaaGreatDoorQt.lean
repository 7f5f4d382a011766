/- Texts of this proof, joined, without what it does not use. No condition. -/
import Derived.Test.YtofndjhpbonpbaaGreatDoorQs

set_option maxHeartbeats 8000000
set_option linter.unusedSimpArgs false
set_option linter.unusedVariables false
set_option maxRecDepth 20000
namespace Go.Proofs.YtofndjhpbonpbaaGreatDoor
open Go Go.TL Go.Proofs.Tryz
theorem rJ {p0:Al} {p1:(List A6)} {r:Int} (hm:iN p0 p1=some r):RetN TP 26 [p0.enc,.sl 2 (p1.map A6.enc)] (.int .i64 r):=by
 refine .unit (aK (bA Q) func26 Q ntmps26 Q Q (λwX gX=>?_)) Q;unfold iN at hm;refine WN [0,1] Q Q (aO 1 Q (bQ 0 Q Q Q (aG 6 Q (SX Q Q (aN TK Q Q Q) (aL 3 Q (bJ hm Q (λh1 hm=>?_) (λh1 hm=>?_)))))))
 ·exact aM 6 Q (aR hm Q)
 refine bN 2 Q (bE hm (λ_=>[]) (λ_=>[]) [] [1,2] Q (λz2 hm hz2=>?_) (λj hm=>?_))
 ·refine bO 5 Q (aW hm (λi4=>([(5,.d (.int .i64 i4))])) (λi4=>[]) [5] [1,2] [0] Q k0 Q Q Q Q Q (λi4 z5 hm hz5=>WN [1,2,5] Q Q (aO 4 Q (SX Q Q (aN TK Q Q Q) (aL 3 Q (bJ hm Q (λh6 hm=>?_) (λh6 hm=>?_)))))))
  ·refine bN 4 Q (aS hm (λx7=>([(38,.d (.bool (x7)))])) (λx7=>[]) [38] [1,2,5] Q (λz8 hm=>?_) (λx7 hm=>?_))
   ·refine aO 3 Q (VE hm λe9 he9 hm=>SX Q Q (bD TK Q Q Q Q he9) (aG 2 Q (SX Q Q (aN TK Q Q Q) (aG 1 Q (SB TK Q (λq10 hq10=>?_))))));cases q10
    ·replace hm:=JF hq10 hm;exact aG 2 Q (VE hm λe11 he11 hm=>SX Q Q (bD TK Q Q Q Q he11) (aG 2 Q (SX Q Q (aN TK Q Q Q) (aD 3 Q (aT [0] hm Q Q)))))
    replace hm:=JT hq10 hm;exact aD 9 Q (aT [0] hm Q Q)
   refine WN [1,2,5,38] Q Q (bG hm Q (λh12 hm=>?_) (λh12 hm=>?_))
   ·refine aM 7 Q (IE hm λv13 hm hz=>?_);rw [hz5 _ hz] at hm;refine WR (bC 1 Q (IE hm λv14 hm hz=>?_));rw [hz2 _ hz] at hm;exact WR (aR hm Q)
   exact aQ 5 Q (GE hm λg15 hm=>SX Q Q (bK Q Q Q Q g15) (aD 2 Q (aX [0] hm Q Q)))
  refine aM 2 Q (IE hm λv16 hm hz=>?_);rw [hz5 _ hz] at hm;exact WX (bC 1 Q (aX [0] hm Q Q))
 refine WN [1,2] Q Q (bE hm (λ_=>[]) (λ_=>[]) [] [1,2] Q (λz17 hm hz17=>?_) (λj hm=>?_))
 ·refine bO 5 Q (aW hm (λi19=>([(6,.d (.int .i64 i19))])) (λi19=>[]) [6] [1,2] [0] Q k0 Q Q Q Q Q (λi19 z20 hm hz20=>WN [1,2,6] Q Q (aO 4 Q (SX Q Q (aN TK Q Q Q) (aL 3 Q (bJ hm Q (λh21 hm=>?_) (λh21 hm=>?_)))))))
  ·refine bN 4 Q (bI follows ?_);iterate 3 (refine DA [0] TK Q ?_)
   refine VE hm λe22 he22 hm=>DX [0] Q Q (bD TK Q Q Q Q he22) (DA [0] TK Q (dR [0] hm (qHC ·) Q Q Q Q λr23 hm=>DA [0] TK Q ?_));refine DT ?_ (by kernel_rfl);refine aL 2 Q (bG hm Q (λh24 hm=>?_) (λh24 hm=>?_))
   ·refine aM 7 Q (IE hm λv25 hm hz=>?_);rw [hz20 _ hz] at hm;refine WR (bC 1 Q (IE hm λv26 hm hz=>?_));rw [hz17 _ hz] at hm;exact WR (aR hm Q)
   exact aQ 5 Q (GE hm λg27 hm=>SX Q Q (bK Q Q Q Q g27) (aD 2 Q (aX [0] hm Q Q)))
  refine aM 2 Q (IE hm λv28 hm hz=>?_);rw [hz20 _ hz] at hm;exact WX (bC 1 Q (aX [0] hm Q Q))
 refine WN [1,2] Q Q (bE hm (λ_=>[]) (λ_=>[]) [] [1,2] Q (λz29 hm hz29=>?_) (λj hm=>?_))
 ·refine bO 5 Q (aW hm (λi31=>([(7,.d (.int .i64 i31))])) (λi31=>[]) [7] [1,2] [0] Q k0 Q Q Q Q Q (λi31 z32 hm hz32=>WN [1,2,7] Q Q (aO 4 Q (SX Q Q (aN TK Q Q Q) (aL 3 Q (bJ hm Q (λh33 hm=>?_) (λh33 hm=>?_)))))))
  ·refine bN 4 Q (bI follows ?_);iterate 4 (refine DA [0] TK Q ?_)
   refine VE hm λe34 he34 hm=>DX [0] Q Q (bD TK Q Q Q Q he34) ?_;iterate 2 (refine DA [0] TK Q ?_)
   refine dR [0] hm (qJY ·) Q Q Q Q λr35 hm=>?_;iterate 2 (refine DA [0] TK Q ?_)
   refine DT ?_ (by kernel_rfl);refine aL 2 Q (eC hm Q (λh36 hm=>?_) (λh36 hm=>?_))
   ·refine bN 4 Q (WN [4] Q Q (aM 3 Q (IE hm λv37 hm hz=>?_)));rw [hz32 _ hz] at hm;refine WR (bC 1 Q (IE hm λv38 hm hz=>?_));rw [hz29 _ hz] at hm;exact WR (aR hm Q)
   exact aQ 5 Q (GE hm λg39 hm=>SX Q Q (bK Q Q Q Q g39) (aD 2 Q (aX [0] hm Q Q)))
  refine aM 2 Q (IE hm λv40 hm hz=>?_);rw [hz32 _ hz] at hm;exact WX (bC 1 Q (aX [0] hm Q Q))
 refine WN [1,2] Q Q (bE hm (λ_=>[]) (λ_=>[]) [] [1] Q (λz41 hm hz41=>?_) (λj hm=>?_))
 ·refine bO 5 Q (aW hm (λi43=>([(8,.d (.int .i64 i43))])) (λi43=>[]) [8] [1,2] [0] Q k0 Q Q Q Q Q (λi43 z44 hm hz44=>WN [1,2,8] Q Q (aO 4 Q (SX Q Q (aN TK Q Q Q) (aL 3 Q (bJ hm Q (λh45 hm=>?_) (λh45 hm=>?_)))))))
  ·refine bN 2 Q (bE hm (λ_=>[]) (λ_=>[]) [] [1,2,8] Q (λz46 hm hz46=>?_) (λj hm=>?_))
   ·refine aO 4 Q (VE hm λe47 he47 hm=>SX Q Q (bD TK Q Q Q Q he47) (aL 10 Q (aW hm (λk49=>([(10,.d (.int .i64 k49))])) (λk49=>[]) [10] [1,2,8,9] [0] Q k0 Q Q Q Q Q (λk49 z50 hm hz50=>WN [1,2,8,9,10] Q Q (aO 4 Q (SX Q Q (aN TK Q Q Q) (aL 3 Q (bJ hm Q (λh51 hm=>?_) (λh51 hm=>?_)))))))))
    ·refine bN 4 Q (bI follows ?_);iterate 4 (refine DA [0] TK Q ?_)
     refine GE hm λg52 hm=>DX [0] Q Q (bK Q Q Q Q g52) (VE hm λe53 he53 hm=>DX [0] Q Q (bD TK Q Q Q Q he53) ?_);iterate 2 (refine DA [0] TK Q ?_)
     refine VE hm λe54 he54 hm=>DX [0] Q Q (bD TK Q Q Q Q he54) ?_;iterate 5 (refine DA [0] TK Q ?_)
     refine VE hm λe55 he55 hm=>DX [0] Q Q (bD TK Q Q Q Q he55) ?_;iterate 2 (refine DA [0] TK Q ?_)
     refine VE hm λe56 he56 hm=>DX [0] Q Q (bD TK Q Q Q Q he56) (DA [0] TK Q (dR [0] hm (qCR ·) Q Q Q Q λr57 hm=>DA [0] TK Q ?_));refine DT ?_ (by kernel_rfl);refine aL 2 Q (WN [1,2,8,9,10,105] Q Q (bG hm Q (λh58 hm=>?_) (λh58 hm=>?_)))
     ·refine aM 7 Q (IE hm λv59 hm hz=>?_);rw [hz50 _ hz] at hm;refine WR (bC 2 Q (IE hm λv60 hm hz=>?_));rw [hz46 _ hz] at hm;refine WR (IE hm λv61 hm hz=>?_);rw [hz44 _ hz] at hm;refine WR (bC 1 Q (IE hm λv62 hm hz=>?_));rw [hz41 _ hz] at hm;exact WR (aR hm Q)
     exact aQ 5 Q (GE hm λg63 hm=>SX Q Q (bK Q Q Q Q g63) (aD 2 Q (aX [0] hm Q Q)))
    refine aM 2 Q (IE hm λv64 hm hz=>?_);rw [hz50 _ hz] at hm;exact WX (bC 2 Q (aX [0] hm Q Q))
   exact WN [1,2,8] Q Q (aQ 2 Q (GE hm λg65 hm=>SX Q Q (bK Q Q Q Q g65) (aD 2 Q (aX [0] hm Q Q))))
  refine aM 2 Q (IE hm λv66 hm hz=>?_);rw [hz44 _ hz] at hm;exact WX (bC 1 Q (aX [0] hm Q Q))
 refine WN [1] Q Q (bE hm (λ_=>[]) (λ_=>[]) [] [] Q (λz67 hm hz67=>?_) (λj hm=>?_))
 ·refine bO 5 Q (aW hm (λi69=>([(11,.d (.int .i64 i69))])) (λi69=>[]) [11] [1] [0] Q k0 Q Q Q Q Q (λi69 z70 hm hz70=>WN [1,11] Q Q (aO 4 Q (SX Q Q (aN TK Q Q Q) (aL 3 Q (bJ hm Q (λh71 hm=>?_) (λh71 hm=>?_)))))))
  ·refine bN 2 Q (bE hm (λ_=>[]) (λ_=>[]) [] [1,11] Q (λz72 hm hz72=>?_) (λj hm=>?_))
   ·refine aO 4 Q (VE hm λe73 he73 hm=>SX Q Q (bD TK Q Q Q Q he73) (aL 10 Q (aW hm (λk75=>([(13,.d (.int .i64 k75))])) (λk75=>[]) [13] [1,11,12] [0] Q k0 Q Q Q Q Q (λk75 z76 hm hz76=>WN [1,11,12,13] Q Q (aO 4 Q (SX Q Q (aN TK Q Q Q) (aL 3 Q (bJ hm Q (λh77 hm=>?_) (λh77 hm=>?_)))))))))
    ·refine bN 4 Q (bI follows ?_);iterate 2 (refine DA [0] TK Q ?_)
     refine VE hm λe78 he78 hm=>DX [0] Q Q (bD TK Q Q Q Q he78) ?_;iterate 4 (refine DA [0] TK Q ?_)
     refine GE hm λg79 hm=>DX [0] Q Q (bK Q Q Q Q g79) (VE hm λe80 he80 hm=>DX [0] Q Q (bD TK Q Q Q Q he80) ?_);iterate 3 (refine DA [0] TK Q ?_)
     refine DT ?_ (by kernel_rfl);refine aL 2 Q (WN [1,11,12,13,134] Q Q (bJ hm Q (λh81 hm=>?_) (λh81 hm=>?_)))
     ·refine aM 7 Q (IE hm λv82 hm hz=>?_);rw [hz76 _ hz] at hm;refine WR (bC 2 Q (IE hm λv83 hm hz=>?_));rw [hz72 _ hz] at hm;refine WR (IE hm λv84 hm hz=>?_);rw [hz70 _ hz] at hm;refine WR (bC 1 Q (IE hm λv85 hm hz=>?_));rw [hz67 _ hz] at hm;exact WR (aR hm Q)
     exact aQ 5 Q (GE hm λg86 hm=>SX Q Q (bK Q Q Q Q g86) (aD 2 Q (aX [0] hm Q Q)))
    refine aM 2 Q (IE hm λv87 hm hz=>?_);rw [hz76 _ hz] at hm;exact WX (bC 2 Q (aX [0] hm Q Q))
   exact WN [1,11] Q Q (aQ 2 Q (GE hm λg88 hm=>SX Q Q (bK Q Q Q Q g88) (aD 2 Q (aX [0] hm Q Q))))
  refine aM 2 Q (IE hm λv89 hm hz=>?_);rw [hz70 _ hz] at hm;exact WX (bC 1 Q (aX [0] hm Q Q))
 exact WN [] Q Q (aM 5 Q (aR hm Q))
theorem qHD {p0:(List A6)} {p1:(List (List Int))} {r:Bool} (hm:nA p0 p1=some r):RetN TP 125 [.sl 2 (p0.map A6.enc),.sl 1 (p1.map (λ(l:List Int)=>D.sl 1 (l.map (D.int .i64))))] (.bool (r)):=by
 refine .unit (aK (bA Q) func125 Q ntmps125 Q Q (λwX gX=>?_)) Q;unfold nA at hm;refine WN [0,1] Q Q (aO 7 Q (SX Q Q (aN TK Q Q Q) (aG 1 Q (SX Q Q (aN TK Q Q Q) (aL 3 Q (eC hm Q (λh1 hm=>?_) (λh1 hm=>?_)))))))
 ·exact aM 6 Q (aR hm Q)
 refine bN 2 Q (bE hm (λ_=>[]) (λ_=>[]) [] [] Q (λz2 hm hz2=>?_) (λj hm=>?_))
 ·refine bO 5 Q (aW hm (λi4=>([(5,.d (.int .i64 i4))])) (λi4=>[]) [5] [0,1] [] Q k0 Q Q Q Q Q (λi4 z5 hm hz5=>WN [0,1,5] Q Q (aO 4 Q (SX Q Q (aN TK Q Q Q) (aL 3 Q (bJ hm Q (λh6 hm=>?_) (λh6 hm=>?_)))))))
  ·refine bN 4 Q (bI follows ?_);iterate 2 (refine DA [] TK Q ?_)
   refine VE hm λe7 he7 hm=>DX [] Q Q (bD TK Q Q Q Q he7) ?_;iterate 2 (refine DA [] TK Q ?_)
   refine DX [] Q Q (aN TK Q Q Q) ?_;iterate 2 (refine DA [] TK Q ?_)
   refine VE hm λe8 he8 hm=>DX [] Q Q (bD TK Q Q Q Q he8) (DA [] TK Q (DX [] Q Q (aN TK Q Q Q) (DA [] TK Q ?_)));refine DT ?_ (by kernel_rfl);refine aL 2 Q (WN [0,1,5,28] Q Q (eC hm Q (λh9 hm=>?_) (λh9 hm=>?_)))
   ·refine aM 7 Q (IE hm λv10 hm hz=>?_);rw [hz5 _ hz] at hm;refine WR (bC 1 Q (IE hm λv11 hm hz=>?_));rw [hz2 _ hz] at hm;exact WR (aR hm Q)
   exact aQ 5 Q (GE hm λg12 hm=>SX Q Q (bK Q Q Q Q g12) (aD 2 Q (aX [] hm Q Q)))
  refine aM 2 Q (IE hm λv13 hm hz=>?_);rw [hz5 _ hz] at hm;exact WX (bC 1 Q (aX [] hm Q Q))
 exact WN [] Q Q (aM 5 Q (aR hm Q))
theorem qHE {p0:(List A6)} {p1:(List (List Int))} {r0:Int} {r1:Int} (hm:kO p0 p1=some (r0,r1)):Ret TP 64 [] (λ_=>false) ([.sl 2 (p0.map A6.enc),.sl 1 (p1.map (λ(l:List Int)=>D.sl 1 (l.map (D.int .i64))))].map .d) (.tup ([.int .i64 r0,.int .i64 r1].map .d)) []:=by
 refine dQ (bA Q) func64 Q ntmps64 Q Q (λwX gX=>?_);unfold kO at hm;refine WN [0,1] Q Q (aO 9 Q (c_N hm (qHD ·) Q Q Q Q λr1 hm=>aL 3 Q (bG hm Q (λh2 hm=>?_) (λh2 hm=>?_))))
 ·refine aM 7 Q ?_;obtain⟨rfl,rfl⟩:=Prod.mk.inj (Option.some.inj hm);exact EndsT.two Q (.d _) (.refl _) (.d _) (.refl _)
 refine bN 10 Q (bE hm (λ(sum3,early4)=>([(6,.d (.int .i64 sum3)),(7,.d (.bool (early4)))])) (λ(sum3,early4)=>[]) [6,7] [] Q (λz5 hm hz5=>?_) (λj hm=>?_))
 ·refine bO 5 Q (aW hm (λ(sum9,early10,i11)=>([(6,.d (.int .i64 sum9)),(7,.d (.bool (early10))),(8,.d (.int .i64 i11))])) (λ(sum9,early10,i11)=>[]) [6,7,8] [0,1] [] Q k0 Q Q Q Q Q (λs z12 hm hz12=>?_));obtain⟨sum9,early10,i11⟩:=s;refine WN [0,1,6,7,8] Q Q (aO 4 Q (SX Q Q (aN TK Q Q Q) (aL 3 Q (bJ hm Q (λh13 hm=>?_) (λh13 hm=>?_)))))
  ·refine bN 2 Q (bE hm (λ(sum14,early15)=>([(6,.d (.int .i64 sum14)),(7,.d (.bool (early15)))])) (λ(sum14,early15)=>[]) [6,7] [0,1,8] Q (λz16 hm hz16=>?_) (λj hm=>?_))
   ·refine bO 6 Q (aW hm (λ(sum20,early21,k22)=>([(6,.d (.int .i64 sum20)),(7,.d (.bool (early21))),(9,.d (.int .i64 k22))])) (λ(sum20,early21,k22)=>[]) [6,7,9] [0,1,8] [] Q k0 Q Q Q Q Q (λs z23 hm hz23=>?_));obtain⟨sum20,early21,k22⟩:=s;refine WN [0,1,6,7,8,9] Q Q (aO 5 Q (VE hm λe24 he24 hm=>SX Q Q (bD TK Q Q Q Q he24) (aG 2 Q (SX Q Q (aN TK Q Q Q) (aL 3 Q (bJ hm Q (λh25 hm=>?_) (λh25 hm=>?_)))))))
    ·refine aQ 7 Q (VE hm λe26 he26 hm=>SX Q Q (bD TK Q Q Q Q he26) (aG 3 Q (VE hm λe27 he27 hm=>SX Q Q (bD TK Q Q Q Q he27) (aG 1 Q (cH 0 Q Q qSX Q (aL 3 Q (WN [0,1,6,7,8,9,10] Q Q (aQ 3 Q (VE hm λe28 he28 hm=>SX Q Q (bD TK Q Q Q Q he28) (aG 2 Q ?_))))))))));refine VE hm λe29 he29 hm=>SX Q Q (bD TK Q Q Q Q he29) (aL 5 Q ?_);refine cF [(72,.d (.bool (((decide (e29 < (0:Int)))||((decide ((2147483648:Int) < e29))||((decide (e27.due < (0:Int)))||((decide ((1073741824:Int) < e27.due))||((decide (e27.weight < (0:Int)))||(decide ((100:Int) < e27.weight))))))))))] [72] [0,1,6,7,8,9,10,11] Q ?_ ?_
     ·refine aO 3 Q (SB TK Q (λq30 hq30=>?_));cases q30
      ·refine aG 3 Q (SB TK Q (λq31 hq31=>?_));cases q31
       ·refine aG 4 Q (SB TK Q (λq32 hq32=>?_));cases q32
        ·refine aG 4 Q (SB TK Q (λq33 hq33=>?_));cases q33
         ·refine aG 4 Q (SB TK Q (λq34 hq34=>?_));cases q34
          ·refine aD 5 Q ?_;exact⟨[0],Q,k0,aV (aH (aI (by first|(simp [hq30,hq31,hq32,hq33,hq34];done)|(simp only [hq30,hq31,hq32,hq33,hq34];simp))) Q) Q⟩
          refine aD 5 Q ?_;exact⟨[0],Q,k0,aV (aH (aI (by first|(simp [hq30,hq31,hq32,hq33,hq34];done)|(simp only [hq30,hq31,hq32,hq33,hq34];simp))) Q) Q⟩
         refine aD 10 Q ?_;exact⟨[0],Q,k0,aV (aH (aI (by first|(simp [hq30,hq31,hq32,hq33];done)|(simp only [hq30,hq31,hq32,hq33];simp))) Q) Q⟩
        refine aD 15 Q ?_;exact⟨[0],Q,k0,aV (aH (aI (by first|(simp [hq30,hq31,hq32];done)|(simp only [hq30,hq31,hq32];simp))) Q) Q⟩
       refine aD 20 Q ?_;exact⟨[0],Q,k0,aV (aH (aI (by first|(simp [hq30,hq31];done)|(simp only [hq30,hq31];simp))) Q) Q⟩
      refine aD 24 Q ?_;exact⟨[0],Q,k0,aV (aH (aI (by first|(simp [hq30];done)|(simp only [hq30];simp))) Q) Q⟩
     refine WN [0,1,6,7,8,9,10,11,72] Q Q (bG hm Q (λh35 hm=>?_) (λh35 hm=>?_))
     ·refine aM 9 Q (IE hm λv36 hm hz=>?_);rw [hz23 _ hz] at hm;refine WR (bC 2 Q (IE hm λv37 hm hz=>?_));rw [hz16 _ hz] at hm;refine WR (IE hm λv38 hm hz=>?_);rw [hz12 _ hz] at hm;refine WR (bC 1 Q (IE hm λv39 hm hz=>?_));rw [hz5 _ hz] at hm;refine WR ?_;obtain⟨rfl,rfl⟩:=Prod.mk.inj (Option.some.inj hm);exact EndsT.two Q (.d _) (.refl _) (.d _) (.refl _)
     refine bN 2 Q ?_;refine cF [(7,.d (.bool ((early21||(decide (e29 < e27.due))))))] [7] [0,1,6,8,9,10,11] Q ?_ ?_
     ·refine aO 2 Q (SB TK Q (λq40 hq40=>?_));cases q40
      ·refine aD 7 Q ?_;exact⟨[0],Q,k0,aV (aH (aI (by first|(simp [hq40];done)|(simp only [hq40];simp))) Q) Q⟩
      refine aD 7 Q ?_;exact⟨[0],Q,k0,aV (aH (aI (by first|(simp [hq40];done)|(simp only [hq40];simp))) Q) Q⟩
     exact WN [0,1,6,7,8,9,10,11] Q Q (aQ 7 Q (GE hm λg41 hm=>SX Q Q (bK Q Q Q Q g41) (GE hm λg42 hm=>SX Q Q (bK Q Q Q Q g42) (GE hm λg43 hm=>SX Q Q (bK Q Q Q Q g43) (aG 6 Q (GE hm λg44 hm=>SX Q Q (bK Q Q Q Q g44) (aD 2 Q (aX [] hm Q Q))))))))
    refine aM 2 Q (IE hm λv45 hm hz=>?_);rw [hz23 _ hz] at hm;exact WX (bC 2 Q (aX [] hm Q Q))
   obtain⟨sum14,early15⟩:=j;exact WN [0,1,6,7,8] Q Q (aQ 2 Q (GE hm λg46 hm=>SX Q Q (bK Q Q Q Q g46) (aD 2 Q (aX [] hm Q Q))))
  refine aM 2 Q (IE hm λv47 hm hz=>?_);rw [hz12 _ hz] at hm;exact WX (bC 1 Q (aX [] hm Q Q))
 obtain⟨sum3,early4⟩:=j;refine WN [6,7] Q Q (bN 5 Q (bG hm Q (λh48 hm=>?_) (λh48 hm=>?_)))
 ·refine aM 7 Q ?_;obtain⟨rfl,rfl⟩:=Prod.mk.inj (Option.some.inj hm);exact EndsT.two Q (.d _) (.refl _) (.d _) (.refl _)
 refine aM 9 Q ?_;obtain⟨rfl,rfl⟩:=Prod.mk.inj (Option.some.inj hm);exact EndsT.two Q (.d _) (.refl _) (.d _) (.refl _)
theorem qHF {p0:(List A6)} {p1:(List (List Int))} {r0:Int} {r1:Int} (hm:kO p0 p1=some (r0,r1)):RetT TP 64 [.sl 2 (p0.map A6.enc),.sl 1 (p1.map (λ(l:List Int)=>D.sl 1 (l.map (D.int .i64))))] [.int .i64 r0,.int .i64 r1]:=.of (mv:=λ_=>false) (qHE hm)
theorem qCQ {p0:An} {r:Bool} (hm:jQ p0=some r):RetN TP 27 [p0.enc] (.bool (r)):=by
 refine .unit (aK (bA Q) func27 Q ntmps27 Q Q (λwX gX=>?_)) Q;unfold jQ at hm;refine WN [0] Q Q (aO 1 Q (bQ 0 Q Q Q (aG 9 Q (BE hm λr1 hr1 hm=>?_))));obtain⟨r2,r3⟩:=r1;refine SX Q Q (cU Q Q Q (qHF hr1)) (aL 7 Q (bE hm (λ_=>[]) (λ_=>[]) [] [1,4] Q (λz4 hm hz4=>?_) (λj hm=>?_)))
 ·refine bO 5 Q (aW hm (λi6=>([(5,.d (.int .i64 i6))])) (λi6=>[]) [5] [1,4] [0] Q k0 Q Q Q Q Q (λi6 z7 hm hz7=>WN [1,4,5] Q Q (aO 5 Q (SX Q Q (aN TK Q Q Q) (aL 3 Q (bJ hm Q (λh8 hm=>?_) (λh8 hm=>?_)))))))
  ·refine bN 4 Q (aS hm (λx9=>([(35,.d (.bool (x9)))])) (λx9=>[]) [35] [1,4,5] Q (λz10 hm=>?_) (λx9 hm=>?_))
   ·refine aO 4 Q (VE hm λe11 he11 hm=>SX Q Q (bD TK Q Q Q Q he11) (aG 2 Q (SB TK Q (λq12 hq12=>?_))));cases q12
    ·replace hm:=JF hq12 hm;exact aG 3 Q (VE hm λe13 he13 hm=>SX Q Q (bD TK Q Q Q Q he13) (aD 4 Q (aT [0] hm Q Q)))
    replace hm:=JT hq12 hm;exact aD 8 Q (aT [0] hm Q Q)
   refine WN [1,4,5,35] Q Q (bG hm Q (λh14 hm=>?_) (λh14 hm=>?_))
   ·refine aM 7 Q (IE hm λv15 hm hz=>?_);rw [hz7 _ hz] at hm;refine WR (bC 1 Q (IE hm λv16 hm hz=>?_));rw [hz4 _ hz] at hm;exact WR (aR hm Q)
   exact aQ 5 Q (GE hm λg17 hm=>SX Q Q (bK Q Q Q Q g17) (aD 2 Q (aX [0] hm Q Q)))
  refine aM 2 Q (IE hm λv18 hm hz=>?_);rw [hz7 _ hz] at hm;exact WX (bC 1 Q (aX [0] hm Q Q))
 refine WN [1,4] Q Q (cF [(2,.d (.bool (((decide (r3=(0:Int)))&&((decide ((p0.progress.length:Int)=(p0.trips.length:Int)))&&((decide ((0:Int)<=p0.now))&&(decide (p0.now<=(1073741824:Int)))))))))] [2] [] Q ?_ ?_)
 ·refine aO 3 Q (SB TK Q (λq19 hq19=>?_));cases q19
  ·refine aD 20 Q ?_;exact⟨[0],Q,k0,aV (aH (aI (by first|(simp [hq19];done)|(simp only [hq19];simp))) Q) Q⟩
  refine aG 2 Q (SX Q Q (aN TK Q Q Q) (aG 2 Q (SX Q Q (aN TK Q Q Q) (aG 2 Q (SB TK Q (λq20 hq20=>?_))))));cases q20
  ·refine aD 11 Q ?_;exact⟨[0],Q,k0,aV (aH (aI (by first|(simp [hq19,hq20];done)|(simp only [hq19,hq20];simp))) Q) Q⟩
  refine aG 4 Q (SB TK Q (λq21 hq21=>?_));cases q21
  ·refine aD 6 Q ?_;exact⟨[0],Q,k0,aV (aH (aI (by first|(simp [hq19,hq20,hq21];done)|(simp only [hq19,hq20,hq21];simp))) Q) Q⟩
  refine aD 6 Q ?_;exact⟨[0],Q,k0,aV (aH (aI (by first|(simp [hq19,hq20,hq21];done)|(simp only [hq19,hq20,hq21];simp))) Q) Q⟩
 exact WN [2] Q Q (aM 1 Q (aR hm Q))
theorem qHA {p0:An} {r:Int} (hm:mY p0=some r):RetN TP 7 [p0.enc] (.int .i64 r):=by
 refine .unit (aK (bA Q) func7 Q ntmps7 Q Q (λwX gX=>?_)) Q;unfold mY at hm;refine WN [0] Q Q (aO 1 Q (bQ 0 Q Q Q (aG 7 Q (c_N hm (rQ ·) Q Q Q Q λr1 hm=>aL 8 Q (eC hm Q (λh2 hm=>?_) (λh2 hm=>?_))))))
 ·exact aM 7 Q (aR hm Q)
 refine aQ 5 Q (BE hm λr3 hr3 hm=>?_);obtain⟨r4,r5⟩:=r3;refine SX Q Q (cU Q Q Q (xB hr3)) (aG 3 Q (cH 1 Q Q qAH Q (cR 1 [some 14,some 1,some 1,none,none] Q Q (aL 5 Q (aS hm (λx6=>([(27,.d (.bool (x6)))])) (λx6=>[]) [27] [1] Q (λz7 hm=>?_) (λx6 hm=>?_))))))
 ·refine aO 3 Q (SB TK Q (λq8 hq8=>?_));cases q8
  ·replace hm:=eJ hq8 hm;exact aG 3 Q (c_N hm (qKA ·) Q Q Q Q λr9 hm=>aD 3 Q (aT [0,1] hm Q Q))
  replace hm:=eI hq8 hm;exact aD 7 Q (aT [0,1] hm Q Q)
 refine WN [1,27] Q Q (bG hm Q (λh10 hm=>?_) (λh10 hm=>?_))
 ·exact aM 6 Q (aR hm Q)
 refine bN 3 Q (aS hm (λx11=>([(38,.d (.bool (x11)))])) (λx11=>[]) [38] [1] Q (λz12 hm=>?_) (λx11 hm=>?_))
 ·refine aO 5 Q (c_N hm (wZ ·) Q Q Q Q λr13 hm=>aG 1 Q (SB TK Q (λq14 hq14=>?_)));cases q14
  ·replace hm:=JB hq14 hm;exact aG 1 Q (c_N hm (qAP ·) Q Q Q Q λr15 hm=>aD 3 Q (aT [0,1] hm Q Q))
  replace hm:=JA hq14 hm;exact aD 5 Q (aT [0,1] hm Q Q)
 refine WN [1,38] Q Q (bG hm Q (λh16 hm=>?_) (λh16 hm=>?_))
 ·exact aM 6 Q (aR hm Q)
 refine bN 3 Q (aS hm (λx17=>([(46,.d (.bool (x17)))])) (λx17=>[]) [46] [1] Q (λz18 hm=>?_) (λx17 hm=>?_))
 ·refine aO 2 Q (c_N hm (qGZ ·) Q Q Q Q λr19 hm=>aG 1 Q (SB TK Q (λq20 hq20=>?_)));cases q20
  ·replace hm:=JB hq20 hm;exact aG 1 Q (c_N hm (qEG ·) Q Q Q Q λr21 hm=>aD 3 Q (aT [0,1] hm Q Q))
  replace hm:=JA hq20 hm;exact aD 5 Q (aT [0,1] hm Q Q)
 refine WN [1,46] Q Q (bG hm Q (λh22 hm=>?_) (λh22 hm=>?_))
 ·exact aM 6 Q (aR hm Q)
 refine aQ 8 Q (c_N hm (rJ ·) Q Q Q Q λr23 hm=>aL 8 Q (eC hm Q (λh24 hm=>?_) (λh24 hm=>?_)))
 ·exact aM 7 Q (aR hm Q)
 refine aQ 5 Q (c_N hm (qCQ ·) Q Q Q Q λr25 hm=>aL 3 Q (bG hm Q (λh26 hm=>?_) (λh26 hm=>?_)))
 ·exact aM 6 Q (aR hm Q)
 exact aM 7 Q (aR hm Q)
theorem qIC  {r0:Bd} {r1:Bc} (hm:uY=some (r0,r1)):RetT TP 28 [] [r0.enc,r1.enc]:=by
 refine .of (mv:=λ_=>false) (dQ (bA Q) func28 Q ntmps28 Q Q (λwX gX=>?_));unfold uY at hm;refine WN [] Q Q (aO 1 Q (cH 0 Q Q xN Q (cH 1 Q Q qAG Q (cR 1 [some 3,none,none] Q Q (aG 3 Q (SX Q Q (bX Q plc64 xN Q Q Q Q) (SX Q Q (bX Q qRJ fH Q Q Q Q) (SX Q Q (cI [.tmp 3] TK Q Q fH Q Q Q Q Q) (SX Q Q (bX Q zFA qAG Q Q Q Q) (aD 5 Q ?_))))))))));obtain⟨rfl,rfl⟩:=Prod.mk.inj (Option.some.inj hm);exact⟨_,.mk _ (.cons (.agg (TK.lay Q) Q Q Q Q) (.cons (.agg (TK.lay Q) Q Q Q Q) .nil)) Q,(.cons (.d _) (.refl _) (.cons (.d _) (.refl _) .nil))⟩
theorem zC  {r:Ag} (hm:tM=some r):RetD TP 30 [] (r.enc):=by
 refine .of (mv:=λ_=>false) (aK (bA Q) func30 Q ntmps30 Q Q (λwX gX=>?_));unfold tM at hm;refine WN [] Q Q (aO 1 Q (cH 0 Q Q qQM Q (fL (f:=Aw.enc) 0 2 1 151 7 Q Q Q (cR 0 [none,some 1,none,some 4,some 4,some 3] Q Q (aG 3 Q (SX Q Q (cI [.const (Value.string ⟨#[97]⟩),.const (Value.string ⟨#[98]⟩),.const (Value.string ⟨#[99]⟩)] TK Q Q wS Q Q Q Q Q) (SX Q Q (bX Q nV cP Q Q Q Q) (SX Q Q (bX Q qRI oA Q Q Q Q) (SX Q Q (bX Q nV cP Q Q Q Q) (SX Q Q (bX Q qRI oA Q Q Q Q) (SX Q Q (cI [.tmp 6,.tmp 8] TK Q Q oA Q Q Q Q Q) (SX Q Q (nJ Q plc28 qQM Q Q Q Q) (cH 2 Q Q qQM Q ?_)))))))))))));refine fL (f:=Aw.enc) 2 2 3 151 7 Q Q Q (cR 2 [none,some 1,none,some 4,some 4,some 3] Q Q (aG 1 Q (fL (f:=Aw.enc) 2 2 4 151 7 Q Q Q (cR 2 [none,none,none,some 4,none,some 3] Q Q (aL 2 Q (WN [0,1] Q Q (aS hm (λb1=>[]) (λb1=>([(2,.box 28 [.d (.str (⟨#[108,105,110,101]⟩:BA)),.d (.sl 1 (([(⟨#[97]⟩:BA),(⟨#[98]⟩:BA),(⟨#[99]⟩:BA)]:List BA).map D.str)),.msl 4 7 0 b1.length,.d (.sl 4 (([]:List Ba).map Ba.enc)),.d (.sl 4 (([(⟨(⟨#[115,49]⟩:BA),(⟨(0:Int),(1:Int)⟩:End),(0:Int)⟩:A0),(⟨(⟨#[115,50]⟩:BA),(⟨(1:Int),(1:Int)⟩:End),(0:Int)⟩:A0)]:List A0).map A0.enc)),.d (.sl 3 (([]:List A4).map A4.enc))]),(4,.flat 151 7 (b1.map Aw.enc))])) [] [0,1] Q (λz2 hm=>?_) (λb1 hm=>?_))))))))
 ·refine aO 3 Q (SX Q Q (aN (f:=D.str) (xs:=([(⟨#[97]⟩:BA),(⟨#[98]⟩:BA),(⟨#[99]⟩:BA)]:List BA)) TK Q Q Q) (aL 4 Q (aW hm (λ(x6,b7)=>([(14,.d (.int .i64 x6))])) (λ(x6,b7)=>([(2,.box 28 [.d (.str (⟨#[108,105,110,101]⟩:BA)),.d (.sl 1 (([(⟨#[97]⟩:BA),(⟨#[98]⟩:BA),(⟨#[99]⟩:BA)]:List BA).map D.str)),.msl 4 7 0 b7.length,.d (.sl 4 (([]:List Ba).map Ba.enc)),.d (.sl 4 (([(⟨(⟨#[115,49]⟩:BA),(⟨(0:Int),(1:Int)⟩:End),(0:Int)⟩:A0),(⟨(⟨#[115,50]⟩:BA),(⟨(1:Int),(1:Int)⟩:End),(0:Int)⟩:A0)]:List A0).map A0.enc)),.d (.sl 3 (([]:List A4).map A4.enc))]),(4,.flat 151 7 (b7.map Aw.enc))])) [14] [0,1,12,13] [0,1,2,3,4] Q k0 Q Q Q Q Q (λs z8 hm hz8=>?_))));obtain⟨x6,b7⟩:=s;refine WN [0,1,12,13,14] Q Q (bO 5 Q (bJ hm Q (λh9 hm=>?_) (λh9 hm=>?_)))
  ·exact aQ 6 Q (VE hm λe10 he10 hm=>SX Q Q (bD (f:=D.str) (xs:=([(⟨#[97]⟩:BA),(⟨#[98]⟩:BA),(⟨#[99]⟩:BA)]:List BA)) TK Q Q Q Q he10) (aG 10 Q (SX Q Q (bX Q plc151 sT Q Q Q Q) (SX Q Q (cI [.tmp 23] TK Q Q sT Q Q Q Q Q) (GE hm λg11 hm=>cK (f:=Aw.enc) ([(⟨e10,(1:Int),(20000:Int),(0:Int),(1000:Int),(0:Int),x6⟩:Aw)]:List Aw) TK Q Q sT Q Q Q Q Q (λh=>absurd h (zQV _)) Q cE g11 Q Q (aL 5 Q (WN [0,1,12,13,14] Q Q (aQ 1 Q (GE hm λg12 hm=>SX Q Q (bK Q Q Q Q g12) (aD 2 Q (aX [0,1,2,3,4] hm Q Q)))))))))))
  refine aM 2 Q (IE hm λv13 hm hz=>?_);rw [hz8 _ hz] at hm;exact WX (bC 1 Q (aT [0,1,2,3,4] hm Q Q))
 refine WN [0,1] Q Q (aQ 1 Q (SX Q Q (bX Q nV cP Q Q Q Q) (SX Q Q (bX Q nV cP Q Q Q Q) (SX Q Q (bX Q qYS yD Q Q Q Q) (SX Q Q (bX Q nV cP Q Q Q Q) (SX Q Q (bX Q nV cP Q Q Q Q) (SX Q Q (bX Q qYS yD Q Q Q Q) (SX Q Q (cI [.tmp 30,.tmp 33] TK Q Q yD Q Q Q Q Q) (aL 4 Q (WN [0,1] Q Q (bN 5 Q (WN [0] Q Q (aM 1 Q ?_)))))))))))));obtain rfl:=OJ hm;exact EndsS.cellR _ TK Q Q Q Q Q (gY (.cons (.d _) Q (.cons (.d _) Q (.cons (bS Q) Q (.cons (.d _) Q (.cons (.d _) Q (.cons (.d _) Q .nil)))))))
theorem qHH {p0:Ag} {p1:Bd} {p2:Bc} {r0:A5} {r1:Int} (hm:uK p0 p1 p2=some (r0,r1)):RetT TP 126 [p0.enc,p1.enc,p2.enc] [r0.enc,.int .i64 r1]:=by
 refine .of (mv:=λ_=>false) (dQ (bA Q) func126 Q ntmps126 Q Q (λwX gX=>?_));unfold uK at hm;refine WN [0,1,2] Q Q (aO 1 Q (bQ 0 Q Q Q (bQ 1 Q Q Q (bQ 2 Q Q Q (cH 3 Q Q qO Q (fL (f:=Am.enc) 3 4 4 106 3 Q Q Q (cR 3 [none,none,none,none,none,some 1,some 1,some 1,some 1,none,none,none,none,none] Q Q (aL 3 Q (WN [3,4,5,6] Q Q (bN 1 Q (aS hm (λx1=>([(32,.d (.bool (x1)))])) (λx1=>[]) [32] [3,4,5,6] Q (λz2 hm=>?_) (λx1 hm=>?_))))))))))))
 ·refine aO 2 Q (c_N hm (rQ ·) Q Q Q Q λr3 hm=>aG 1 Q (SB TK Q (λq4 hq4=>?_)));cases q4
  ·replace hm:=eJ hq4 hm;refine aG 1 Q (c_N hm (rK ·) Q Q Q Q λr5 hm=>aG 2 Q (SB TK Q (λq6 hq6=>?_)));cases q6
   ·replace hm:=eJ hq6 hm;refine aG 2 Q (c_N hm (rO ·) Q Q Q Q λr7 hm=>aG 2 Q (SB TK Q (λq8 hq8=>?_)));cases q8
    ·replace hm:=eJ hq8 hm;exact aD 7 Q (aT [0,1,2,3,4] hm Q Q)
    replace hm:=eI hq8 hm;exact aD 7 Q (aT [0,1,2,3,4] hm Q Q)
   replace hm:=eI hq6 hm;exact aD 13 Q (aT [0,1,2,3,4] hm Q Q)
  replace hm:=eI hq4 hm;exact aD 18 Q (aT [0,1,2,3,4] hm Q Q)
 refine WN [3,4,5,6,32] Q Q (bG hm Q (λh9 hm=>?_) (λh9 hm=>?_))
 ·cases hm
 refine aQ 7 Q (SX Q Q (aN TK Q Q Q) (GE hm λg10 hm=>SX Q Q (bK Q Q Q Q g10) (VE hm λe11 he11 hm=>SX Q Q (bD TK Q Q Q Q he11) (aG 1 Q (cH 5 Q Q fH Q (aL 3 Q (WN [3,4,5,6,8] Q Q (aQ 6 Q (SX Q Q (bX Q nV cP Q Q Q Q) (c_N hm (pT ·) Q Q Q Q λr12 hm=>aL 9 Q (bJ hm Q (λh13 hm=>?_) (λh13 hm=>?_))))))))))))
 ·cases hm
 refine aQ 7 Q (VE hm λe14 he14 hm=>SX Q Q (bD TK Q Q Q Q he14) (aL 5 Q (WN [3,4,5,6,9,10] Q Q (cV (bI follows (DA [] TK Q (DA [1] TK Q ?_)))))));iterate 3 (refine DA [] TK Q ?_)
 refine DA [2] TK Q (GE hm λg15 hm=>DX [] Q Q (bK Q Q Q Q g15) (DA [] TK Q (DA [0] TK Q (DA [] TK Q (DA [2] TK Q (dR [] hm (pR ·) Q Q Q Q λr16 hm=>GE hm λg17 hm=>DX [] Q Q (bK Q Q Q Q g17) (DA [] TK Q (DA [2] TK Q (GE hm λg18 hm=>DX [] Q Q (bK Q Q Q Q g18) ?_)))))))));refine DX [] Q Q (nJ Q plc115 qO Q Q Q Q) (oL [6] _ (.mptr 6 0 0 0) Q (eH Q) Q (kX Q Q qO Q Q) ?_);refine DT ?_ (by kernel_rfl);refine aG 1 Q (fL (f:=Am.enc) 6 4 7 106 3 Q Q Q (cR 6 [none,none,none,none,none,some 1,some 1,some 1,some 1,none,none,none,none,none] Q Q (aL 2 Q (WN [5,6,11] Q Q (aQ 5 Q (GE hm λg19 hm=>cK (f:=Am.enc) p2.steps TK Q Q fH Q Q Q Q Q (λh=>absurd h (zQV _)) Q cE g19 Q Q (aL 4 Q (WN [6,11] Q Q (bN 6 Q (WN [6,7] Q Q (aM 1 Q ?_)))))))))));obtain⟨rfl,rfl⟩:=Prod.mk.inj (Option.some.inj hm);exact⟨_,.mk _ (.cons (.agg (TK.lay Q) Q Q Q Q) (.cons (.tmp 7) .nil)) Q,(.cons (gY (.cons (.d _) Q (.cons (.d _) Q (.cons (.d _) Q (.cons (.d _) Q (.cons (bS Q) Q (.cons (.d _) Q (.cons (.d _) Q (.cons (.d _) Q (.cons (.d _) Q (.cons (.d _) Q (.cons (.d _) Q (.cons (.d _) Q (.cons (.d _) Q (.cons (.d _) Q .nil))))))))))))))) (.refl _) (.cons (.d _) (.refl _) .nil))⟩
theorem qCA {p0:Int} {p1:Int} {r:Ax} (hm:wA p0 p1=some r):RetN TP 127 [.int .i64 p0,.int .i64 p1] (r.enc):=by
 refine .unit (aK (bA Q) func127 Q ntmps127 Q Q (λwX gX=>?_)) Q;unfold wA at hm;refine WN [0,1] Q Q (aO 1 Q (cH 0 Q Q qJI Q (aG 5 Q (SX Q Q (bX Q plc72 qJI Q Q Q Q) (aD 4 Q ?_)))));obtain rfl:=OJ hm;exact EndsS.cellR _ TK Q Q Q Q Q (.d _)
theorem jH {p0:Ag} {p1:Bc} {r:(List Int)} (hm:dL p0 p1=some r):RetD TP 43 [p0.enc,p1.enc] (.sl 1 (r.map (D.int .i64))):=by
 refine .of (mv:=λ_=>false) (aK (bA Q) func43 Q ntmps43 Q Q (λwX gX=>?_));unfold dL at hm;refine WN [0,1] Q Q (aO 1 Q (bQ 0 Q Q Q (bQ 1 Q Q Q (aG 4 Q (cS (f:=(D.int .i64)) 2 3 1 Q Q Q (aL 2 Q (aS hm (λb1=>([(5,.msl 2 1 0 b1.length)])) (λb1=>([(2,.flat 3 1 (b1.map (D.int .i64)))])) [5] [] Q (λz2 hm=>?_) (λb1 hm=>?_))))))))
 ·refine bO 5 Q (aW hm (λ(i6,b7)=>([(5,.msl 2 1 0 b7.length),(6,.d (.int .i64 i6))])) (λ(i6,b7)=>([(2,.flat 3 1 (b7.map (D.int .i64)))])) [5,6] [2,3] [0,1,2] Q k0 Q Q Q Q Q (λs z8 hm hz8=>?_));obtain⟨i6,b7⟩:=s;refine WN [2,3,5,6] Q Q (aO 5 Q (SX Q Q (aN TK Q Q Q) (aL 3 Q (bJ hm Q (λh9 hm=>?_) (λh9 hm=>?_)))))
  ·refine bN 4 Q (bI follows ?_);iterate 4 (refine DA [0,1,2] TK Q ?_)
   refine VE hm λe10 he10 hm=>DX [0,1,2] Q Q (bD TK Q Q Q Q he10) ?_;iterate 2 (refine DA [0,1,2] TK Q ?_)
   refine dR [0,1,2] hm (fO ·) Q Q Q Q λr11 hm=>?_;refine DT ?_ (by kernel_rfl);refine aL 8 Q (bJ hm Q (λh12 hm=>?_) (λh12 hm=>?_))
   ·exact aQ 3 Q (SX Q Q (cI [.tmp 26] TK Q Q dE Q Q Q Q Q) (GE hm λg13 hm=>cK (f:=(D.int .i64)) ([r11]:List Int) TK Q Q dE Q Q Q Q Q (λh=>absurd h (zQV _)) Q cE g13 Q Q (aL 4 Q (WN [2,3,5,6] Q Q (aQ 2 Q (GE hm λg14 hm=>SX Q Q (bK Q Q Q Q g14) (aD 2 Q (aX [0,1,2] hm Q Q))))))))
   exact bN 3 Q (WN [2,3,5,6] Q Q (aQ 2 Q (GE hm λg15 hm=>SX Q Q (bK Q Q Q Q g15) (aD 2 Q (aX [0,1,2] hm Q Q)))))
  refine aM 2 Q (IE hm λv16 hm hz=>?_);rw [hz8 _ hz] at hm;exact WX (bC 1 Q (aT [0,1,2] hm Q Q))
 refine WN [5] Q Q ?_;refine qLW 5 2 [] Q Q Q Q Q (by simp) Q Q ?_;refine aQ 2 Q (c_D hm (yU ·) Q Q Q Q λr17 hm=>aD 4 Q ?_);obtain rfl:=OJ hm;exact EndsS.one _ Q (.d _) (.refl _)
theorem qEM {p0:(List Int)} {p1:(List Int)} {p2:Bool} {r:(List Int)} (hm:oF p0 p1 p2=some r):RetD TP 85 [.sl 1 (p0.map (D.int .i64)),.sl 1 (p1.map (D.int .i64)),.bool (p2)] (.sl 1 (r.map (D.int .i64))):=by
 refine .of (mv:=λ_=>false) (aK (bA Q) func85 Q ntmps85 Q Q (λwX gX=>?_));unfold oF at hm;refine WN [0,1,2] Q Q (bO 8 Q (vP 7 [some 1] Q (aS hm (λout1=>([(7,.d (.sl 1 (out1.map (D.int .i64))))])) (λout1=>[]) [7] [] Q (λz2 hm=>?_) (λout1 hm=>?_))))
 ·refine bO 5 Q (aW hm (λ(out5,i6)=>([(7,.d (.sl 1 (out5.map (D.int .i64)))),(8,.d (.int .i64 i6))])) (λ(out5,i6)=>[]) [7,8] [0,1,2] [] Q k0 Q Q Q Q Q (λs z7 hm hz7=>?_));obtain⟨out5,i6⟩:=s;refine WN [0,1,2,7,8] Q Q (aO 4 Q (SX Q Q (aN TK Q Q Q) (aL 3 Q (bJ hm Q (λh8 hm=>?_) (λh8 hm=>?_)))))
  ·refine aQ 8 Q (VE hm λe9 he9 hm=>SX Q Q (bD TK Q Q Q Q he9) (aG 1 Q (c_N hm (qX ·) Q Q Q Q λr10 hm=>aL 4 Q (bG hm Q (λh11 hm=>?_) (λh11 hm=>?_)))))
   ·exact aQ 4 Q (VE hm λe12 he12 hm=>SX Q Q (bD TK Q Q Q Q he12) (aG 1 Q (c_D hm (pU ·) Q Q Q Q λr13 hm=>aL 4 Q (WN [0,1,2,7,8] Q Q (aQ 2 Q (GE hm λg14 hm=>SX Q Q (bK Q Q Q Q g14) (aD 2 Q (aX [] hm Q Q))))))))
   exact aQ 5 Q (GE hm λg15 hm=>SX Q Q (bK Q Q Q Q g15) (aD 2 Q (aX [] hm Q Q)))
  refine aM 2 Q (IE hm λv16 hm hz=>?_);rw [hz7 _ hz] at hm;exact WX (bC 1 Q (aT [] hm Q Q))
 refine WN [7] Q Q (aM 6 Q ?_);obtain rfl:=OJ hm;exact EndsS.one _ Q (.d _) (.refl _)
theorem uR {p0:(List Int)} {p1:(List Int)} {r:(List Int)} (hm:gW p0 p1=some r):RetD TP 42 [.sl 1 (p0.map (D.int .i64)),.sl 1 (p1.map (D.int .i64))] (.sl 1 (r.map (D.int .i64))):=by
 refine .of (mv:=λ_=>false) (aK (bA Q) func42 Q ntmps42 Q Q (λwX gX=>?_));unfold gW at hm;refine WN [0,1] Q Q (aO 7 Q (c_D hm (qEM ·) Q Q Q Q λr1 hm=>aD 4 Q ?_));obtain rfl:=OJ hm;exact EndsS.one _ Q (.d _) (.refl _)
theorem qHG {p0:Ag} {p1:(List Bc)} {r:Bool} (hm:uJ p0 p1=some r):RetN TP 128 [p0.enc,.sl 3 (p1.map Bc.enc)] (.bool (r)):=by
 refine .unit (aK (bA Q) func128 Q ntmps128 Q Q (λwX gX=>?_)) Q;unfold uJ at hm;refine WN [0,1] Q Q (aO 1 Q (bQ 0 Q Q Q (aL 3 Q (bE hm (λ_=>[]) (λ_=>[]) [] [] Q (λz1 hm hz1=>?_) (λj hm=>?_)))))
 ·refine bO 5 Q (aW hm (λi3=>([(5,.d (.int .i64 i3))])) (λi3=>[]) [5] [1,2] [0] Q k0 Q Q Q Q Q (λi3 z4 hm hz4=>WN [1,2,5] Q Q (aO 4 Q (SX Q Q (aN TK Q Q Q) (aL 3 Q (bJ hm Q (λh5 hm=>?_) (λh5 hm=>?_)))))))
  ·refine bN 2 Q (bE hm (λ_=>[]) (λ_=>[]) [] [1,2,5] Q (λz6 hm hz6=>?_) (λj hm=>?_))
   ·refine bO 6 Q (aW hm (λk8=>([(6,.d (.int .i64 k8))])) (λk8=>[]) [6] [1,2,5] [0] Q k0 Q Q Q Q Q (λk8 z9 hm hz9=>WN [1,2,5,6] Q Q (bO 7 Q (bJ hm Q (λh10 hm=>?_) (λh10 hm=>?_)))))
    ·refine bN 4 Q (bI follows ?_);iterate 3 (refine DA [0] TK Q ?_)
     refine VE hm λe11 he11 hm=>DX [0] Q Q (bD TK Q Q Q Q he11) (DA [0] TK Q (kW [0] hm (jH ·) Q Q Q Q λr12 hm=>?_));iterate 3 (refine DA [0] TK Q ?_)
     refine VE hm λe13 he13 hm=>DX [0] Q Q (bD TK Q Q Q Q he13) (DA [0] TK Q (kW [0] hm (jH ·) Q Q Q Q λr14 hm=>kW [0] hm (uR ·) Q Q Q Q λr15 hm=>DX [0] Q Q (aN TK Q Q Q) (DA [0] TK Q ?_)));refine DT ?_ (by kernel_rfl);refine aL 2 Q (WN [1,2,5,6,32] Q Q (bJ hm Q (λh16 hm=>?_) (λh16 hm=>?_)))
     ·cases hm
     exact aQ 5 Q (GE hm λg17 hm=>SX Q Q (bK Q Q Q Q g17) (aD 2 Q (aX [0] hm Q Q)))
    refine aM 2 Q (IE hm λv18 hm hz=>?_);rw [hz9 _ hz] at hm;exact WX (bC 2 Q (aX [0] hm Q Q))
   exact WN [1,2,5] Q Q (aQ 2 Q (GE hm λg19 hm=>SX Q Q (bK Q Q Q Q g19) (aD 2 Q (aX [0] hm Q Q))))
  refine aM 2 Q (IE hm λv20 hm hz=>?_);rw [hz4 _ hz] at hm;exact WX (bC 1 Q (aX [0] hm Q Q))
 exact WN [] Q Q (aM 5 Q (aR hm Q))
theorem qMY {p0:Ag} {p1:(List Bd)} {p2:(List Bc)} {r0:Bg} {r1:Int} (hm:qAQ p0 p1 p2=some (r0,r1)):RetT TP 65 [p0.enc,.sl 10 (p1.map Bd.enc),.sl 3 (p2.map Bc.enc)] [r0.enc,.int .i64 r1]:=by
 refine .of (mv:=λ_=>false) (dQ (bA Q) func65 Q ntmps65 Q Q (λwX gX=>?_));unfold qAQ at hm;refine WN [0,1,2] Q Q (aO 1 Q (bQ 0 Q Q Q (cH 1 Q Q qQL Q (fL (f:=A5.enc) 1 0 2 115 14 Q Q Q (fL (f:=Ax.enc) 1 1 3 72 4 Q Q Q (aL 4 Q ?_))))));refine cF [(27,.d (.bool (((decide ((p1.length:Int) < (1:Int)))||((decide ((6:Int) < (p1.length:Int)))||(!(decide ((p2.length:Int)=(p1.length:Int)))))))))] [27] [1,2,3,6] Q ?_ ?_
 ·refine aO 2 Q (SX Q Q (aN TK Q Q Q) (aG 1 Q (SB TK Q (λq1 hq1=>?_))));cases q1
  ·refine aG 1 Q (SX Q Q (aN TK Q Q Q) (aG 2 Q (SB TK Q (λq2 hq2=>?_))));cases q2
   ·refine aG 1 Q (SX Q Q (aN TK Q Q Q) (aG 1 Q (SX Q Q (aN TK Q Q Q) (aD 3 Q ?_))));exact⟨[0,1,2,3],Q,k0,aV (aH (aI (by first|(simp [hq1,hq2];done)|(simp only [hq1,hq2];simp))) Q) Q⟩
   refine aD 7 Q ?_;exact⟨[0,1,2,3],Q,k0,aV (aH (aI (by first|(simp [hq1,hq2];done)|(simp only [hq1,hq2];simp))) Q) Q⟩
  refine aD 12 Q ?_;exact⟨[0,1,2,3],Q,k0,aV (aH (aI (by first|(simp [hq1];done)|(simp only [hq1];simp))) Q) Q⟩
 refine WN [1,2,3,6,27] Q Q (bG hm Q (λh3 hm=>?_) (λh3 hm=>?_))
 ·cases hm
 refine bN 2 Q (bE hm (λ_=>[]) (λ_=>[]) [] [1,2,3,6] Q (λz4 hm hz4=>?_) (λj hm=>?_))
 ·refine bO 5 Q (aW hm (λi6=>([(8,.d (.int .i64 i6))])) (λi6=>[]) [8] [1,2,3,6] [0,1,2,3] Q k0 Q Q Q Q Q (λi6 z7 hm hz7=>WN [1,2,3,6,8] Q Q (aO 4 Q (SX Q Q (aN TK Q Q Q) (aL 3 Q (bJ hm Q (λh8 hm=>?_) (λh8 hm=>?_)))))))
  ·refine bN 4 Q (bI follows ?_);iterate 2 (refine DA [0,1,2,3] TK Q ?_)
   refine VE hm λe9 he9 hm=>DX [0,1,2,3] Q Q (bD TK Q Q Q Q he9) ?_;iterate 4 (refine DA [0,1,2,3] TK Q ?_)
   refine GE hm λg10 hm=>DX [0,1,2,3] Q Q (bK Q Q Q Q g10) (VE hm λe11 he11 hm=>DX [0,1,2,3] Q Q (bD TK Q Q Q Q he11) ?_);iterate 3 (refine DA [0,1,2,3] TK Q ?_)
   refine DT ?_ (by kernel_rfl);refine aL 2 Q (WN [1,2,3,6,8,46] Q Q (bJ hm Q (λh12 hm=>?_) (λh12 hm=>?_)))
   ·cases hm
   exact aQ 5 Q (GE hm λg13 hm=>SX Q Q (bK Q Q Q Q g13) (aD 2 Q (aX [0,1,2,3] hm Q Q)))
  refine aM 2 Q (IE hm λv14 hm hz=>?_);rw [hz7 _ hz] at hm;exact WX (bC 1 Q (aX [0,1,2,3] hm Q Q))
 refine WN [1,2,3,6] Q Q (aQ 1 Q (cH 4 Q Q qQL Q (fL (f:=A5.enc) 4 0 5 115 14 Q Q Q (fL (f:=Ax.enc) 4 1 6 72 4 Q Q Q (aL 2 Q (WN [1,2,3,6,9] Q Q (bE hm (λ(b15,b16)=>[]) (λ(b15,b16)=>([(4,.box 42 [.msl 5 14 0 b15.length,.msl 6 4 0 b16.length]),(5,.flat 115 14 (b15.map A5.enc)),(6,.flat 72 4 (b16.map Ax.enc))])) [] [2,3,6,9] Q (λz17 hm hz17=>?_) (λj hm=>?_))))))))
 ·refine bO 5 Q (aW hm (λ(i22,b23,b24)=>([(10,.d (.int .i64 i22))])) (λ(i22,b23,b24)=>([(4,.box 42 [.msl 5 14 0 b23.length,.msl 6 4 0 b24.length]),(5,.flat 115 14 (b23.map A5.enc)),(6,.flat 72 4 (b24.map Ax.enc))])) [10] [1,2,3,6,9] [0,1,2,3,4,5,6] Q k0 Q Q Q Q Q (λs z25 hm hz25=>?_));obtain⟨i22,b23,b24⟩:=s;refine WN [1,2,3,6,9,10] Q Q (aO 4 Q (SX Q Q (aN TK Q Q Q) (aL 3 Q (bJ hm Q (λh26 hm=>?_) (λh26 hm=>?_)))))
  ·refine bN 4 Q (cV (bI follows (DA [0] TK Q ?_)));iterate 2 (refine DA [] TK Q ?_)
   refine VE hm λe27 he27 hm=>DX [] Q Q (bD TK Q Q Q Q he27) ?_;iterate 3 (refine DA [] TK Q ?_)
   refine VE hm λe28 he28 hm=>DX [] Q Q (bD TK Q Q Q Q he28) (DA [] TK Q (BE hm λr29 hr29 hm=>?_));obtain⟨r30,r31⟩:=r29;refine DX [] Q Q (cU Q Q Q (qHH hr29)) ?_;iterate 3 (refine DA [] TK Q ?_)
   refine oL [7] _ (.mptr 7 0 0 0) Q (eH Q) Q (kX Q Q qO Q Q) (qPE 1000012 [7] [(7,.box 115 [.d (.int .i64 r30.id),.d (.int .i64 r30.origin),.d (.int .i64 r30.endV),.d (.int .i64 r30.atV),.d (.sl 3 (r30.steps.map Am.enc)),.d (.sl 1 (r30.Ab.map (D.int .i64))),.d (.sl 1 (r30.starts.map (D.int .i64))),.d (.sl 1 (r30.ends.map (D.int .i64))),.d (.sl 1 (r30.done.map (D.int .i64))),.d (.int .i64 r30.min),.d (.int .i64 r30.sent),.d (.int .i64 r30.accepted),.d (.int .i64 r30.cut),.d (.int .i64 r30.cutSeq)])] (eH Q) Q (uC TK Q Q Q Q Q Q Q Q Q Q) ?_);refine DT ?_ (by kernel_rfl);refine aL 3 Q (WN [1,2,3,6,9,10,11,12] Q Q (bN 6 Q (eC hm Q (λh32 hm=>?_) (λh32 hm=>?_))))
   ·cases hm
   refine aQ 6 Q (SX Q Q (cI [.tmp 73] TK Q Q qO Q Q Q Q Q) (GE hm λg33 hm=>cK (f:=A5.enc) ([r30]:List A5) TK Q Q qO Q Q Q Q Q (λh=>absurd h (zQV _)) Q cE g33 Q Q (aL 4 Q (WN [1,2,3,6,9,10] Q Q (cV (dW follows (DA [] TK Q (DA [4] TK Q ?_))))))));iterate 2 (refine DA [] TK Q ?_)
   refine VE hm λe34 he34 hm=>DX [] Q Q (bD TK Q Q Q Q he34) ?_;iterate 2 (refine DA [] TK Q ?_)
   refine dR [] hm (qCA ·) Q Q Q Q λr35 hm=>DX [] Q Q (cI [.tmp 84] TK Q Q qJI Q Q Q Q Q) (GE hm λg36 hm=>oL [6,8] _ (.msl 8 4 0 (b24++([r35]:List Ax)).length) Q (eH Q) Q (sU (f:=Ax.enc) (xs:=b24) ([r35]:List Ax) Q Q Q TK Q qJI Q Q Q Q Q Q cE g36) (DA [] TK Q ?_));refine DT ?_ (by kernel_rfl);exact aL 4 Q (WN [1,2,3,6,9,10] Q Q (aQ 2 Q (GE hm λg37 hm=>SX Q Q (bK Q Q Q Q g37) (aD 2 Q (aX [0,1,2,3,4,5,8] hm Q Q)))))
  refine aM 2 Q (IE hm λv38 hm hz=>?_);rw [hz25 _ hz] at hm;exact WX (bC 1 Q (aX [0,1,2,3,4,5,6] hm Q Q))
 obtain⟨b15,b16⟩:=j;refine WN [2,3,6,9] Q Q (aQ 4 Q (c_N hm (qHG ·) Q Q Q Q λr39 hm=>aL 3 Q (bG hm Q (λh40 hm=>?_) (λh40 hm=>?_))))
 ·cases hm
 refine bN 8 Q (WN [6,7] Q Q (aM 1 Q ?_));obtain⟨rfl,rfl⟩:=Prod.mk.inj (Option.some.inj hm);exact⟨_,.mk _ (.cons (.agg (TK.lay Q) Q Q Q Q) (.cons (.tmp 7) .nil)) Q,(.cons (gY (.cons (bS Q) Q (.cons (bS Q) Q .nil))) (.refl _) (.cons (.d _) (.refl _) .nil))⟩
theorem qHJ {p0:Al} {r:Az} (hm:uM p0=some r):RetD TP 66 [p0.enc] (r.enc):=by
 refine .of (mv:=λ_=>false) (aK (bA Q) func66 Q ntmps66 Q Q (λwX gX=>?_));unfold uM at hm;refine WN [0] Q Q (aO 1 Q (bQ 0 Q Q Q (cH 1 Q Q qXM Q (cR 1 [some 3,some 1] Q Q (aG 5 Q (c_N hm (xA ·) Q Q Q Q λr1 hm=>aL 3 Q (eC hm Q (λh2 hm=>?_) (λh2 hm=>?_))))))))
 ·cases hm
 refine aQ 5 Q (SX Q Q (aN TK Q Q Q) (GE hm λg3 hm=>zEZ (f:=(D.int .i64)) (x:=(0:Int)) 2 TK Q Q Q dE Q Q Q Q Q g3 Q (aL 3 Q (aS hm (λ_=>[]) (λ_=>[]) [] [1,2,3] Q (λz4 hm=>?_) (λj hm=>?_)))))
 ·refine bO 5 Q (aW hm (λi6=>([(4,.d (.int .i64 i6))])) (λi6=>[]) [4] [1,2,3] [0,1,2] Q k0 Q Q Q Q Q (λi6 z7 hm hz7=>WN [1,2,3,4] Q Q (bO 8 Q (bJ hm Q (λh8 hm=>?_) (λh8 hm=>?_)))))
  ·cases hm
  refine aM 2 Q (IE hm λv9 hm hz=>?_);rw [hz7 _ hz] at hm;exact WX (bC 1 Q (aT [0,1,2] hm Q Q))
 refine WN [1,2,3] Q Q (aQ 3 Q (SX Q Q (aN TK Q Q Q) (GE hm λg10 hm=>SX Q Q (qJK (f:=Ak.enc) (x:=(⟨(0:Int),(0:Int),(0:Int)⟩:Ak)) TK Q Q qSW Q Q Q Q Q g10 Q) (aG 1 Q (SX Q Q (nJ Q plc35 qXM Q Q Q Q) (aD 4 Q ?_))))));obtain rfl:=OJ hm;exact EndsS.cellR _ TK Q Q Q Q Q (gY (.cons (.d _) Q (.cons (bS Q) Q .nil)))
theorem qHI {p0:Al} {r:(List As)} (hm:uL p0=some r):RetD TP 67 [p0.enc] (.sl 3 (r.map As.enc)):=by
 refine .of (mv:=λ_=>false) (aK (bA Q) func67 Q ntmps67 Q Q (λwX gX=>?_));unfold uL at hm;refine WN [0] Q Q (aO 1 Q (bQ 0 Q Q Q (aG 4 Q (cS (f:=As.enc) 1 129 3 Q Q Q (aL 2 Q (aS hm (λ_=>([(3,.msl 1 3 0 ([]:List As).length)])) (λ_=>[]) [3] [] Q (λz1 hm=>?_) (λj hm=>?_)))))))
 ·refine bO 5 Q (aW hm (λi3=>([(3,.msl 1 3 0 ([]:List As).length),(4,.d (.int .i64 i3))])) (λi3=>[]) [3,4] [1] [0,1] Q k0 Q Q Q Q Q (λi3 z4 hm hz4=>WN [1,3,4] Q Q (aO 5 Q (SX Q Q (aN TK Q Q Q) (aL 3 Q (bJ hm Q (λh5 hm=>?_) (λh5 hm=>?_)))))))
  ·cases hm
  refine aM 2 Q (IE hm λv6 hm hz=>?_);rw [hz4 _ hz] at hm;exact WX (bC 1 Q (aT [0,1] hm Q Q))
 refine WN [3] Q Q (aM 6 Q ?_);obtain rfl:=OJ hm;exact EndsS.one _ Q (bS Q) (.refl _)
theorem qAO {p0:Ag} {p1:Bc} {r:Bool} (hm:pI p0 p1=some r):RetN TP 68 [p0.enc,p1.enc] (.bool (r)):=by
 refine .unit (aK (bA Q) func68 Q ntmps68 Q Q (λwX gX=>?_)) Q;unfold pI at hm;refine WN [0,1] Q Q (aO 1 Q (bQ 0 Q Q Q (bQ 1 Q Q Q (aL 3 Q (bE hm (λ_=>[]) (λ_=>[]) [] [] Q (λz1 hm hz1=>?_) (λj hm=>?_))))))
 ·refine bO 5 Q (aW hm (λi3=>([(5,.d (.int .i64 i3))])) (λi3=>[]) [5] [2,3] [0,1] Q k0 Q Q Q Q Q (λi3 z4 hm hz4=>WN [2,3,5] Q Q (aO 5 Q (SX Q Q (aN TK Q Q Q) (aL 3 Q (bJ hm Q (λh5 hm=>?_) (λh5 hm=>?_)))))))
  ·refine aQ 8 Q (VE hm λe6 he6 hm=>SX Q Q (bD TK Q Q Q Q he6) (aG 1 Q (cH 2 Q Q fH Q (aL 4 Q ?_))));refine cF [(31,.d (.bool (((decide (e6.el < (0:Int)))||(decide ((p0.Ae.length:Int)<=e6.el))))))] [31] [2,3,5,6] Q ?_ ?_
   ·refine aO 4 Q (SB TK Q (λq7 hq7=>?_));cases q7
    ·refine aG 4 Q (SX Q Q (aN TK Q Q Q) (aD 3 Q ?_));exact⟨[0,1,2],Q,k0,aV (aH (aI (by first|(simp [hq7];done)|(simp only [hq7];simp))) Q) Q⟩
    refine aD 8 Q ?_;exact⟨[0,1,2],Q,k0,aV (aH (aI (by first|(simp [hq7];done)|(simp only [hq7];simp))) Q) Q⟩
   refine WN [2,3,5,6,31] Q Q (bG hm Q (λh8 hm=>?_) (λh8 hm=>?_))
   ·cases hm
   refine bN 2 Q (bI follows ?_);iterate 4 (refine DA [0,1,2] TK Q ?_)
   refine VE hm λe9 he9 hm=>DX [0,1,2] Q Q (bD TK Q Q Q Q he9) ?_;iterate 6 (refine DA [0,1,2] TK Q ?_)
   refine BE hm λr10 hr10 hm=>?_;obtain⟨r11,r12⟩:=r10;refine DX [0,1,2] Q Q (cU Q Q Q (lO hr10)) ?_;iterate 4 (refine DA [0,1,2] TK Q ?_)
   refine DT ?_ (by kernel_rfl);refine aL 3 Q (WN [2,3,5,7,8] Q Q ?_);refine cF [(52,.d (.bool (((!(r12))||(decide (r11=(2:Int)))))))] [52] [2,3,5] Q ?_ ?_
   ·refine aO 3 Q (SB TK Q (λq13 hq13=>?_));cases q13
    ·refine aD 4 Q ?_;exact⟨[0,1,2],Q,k0,aV (aH (aI (by first|(simp [hq13];done)|(simp only [hq13];simp))) Q) Q⟩
    refine aD 4 Q ?_;exact⟨[0,1,2],Q,k0,aV (aH (aI (by first|(simp [hq13];done)|(simp only [hq13];simp))) Q) Q⟩
   refine WN [2,3,5,52] Q Q (bG hm Q (λh14 hm=>?_) (λh14 hm=>?_))
   ·cases hm
   exact aQ 5 Q (GE hm λg15 hm=>SX Q Q (bK Q Q Q Q g15) (aD 2 Q (aX [0,1] hm Q Q)))
  refine aM 2 Q (IE hm λv16 hm hz=>?_);rw [hz4 _ hz] at hm;exact WX (bC 1 Q (aX [0,1] hm Q Q))
 exact WN [] Q Q (aM 5 Q (aR hm Q))
theorem qMZ {p0:Bd} {p1:Int} {r:Cab} (hm:qAR p0 p1=some r):RetD TP 69 [p0.enc,.int .i64 p1] (r.enc):=by
 refine .of (mv:=λ_=>false) (aK (bA Q) func69 Q ntmps69 Q Q (λwX gX=>?_));unfold qAR at hm;refine WN [0,1] Q Q (aO 1 Q (bQ 0 Q Q Q (cH 1 Q Q qXL Q (cR 1 [none,none,none,none,none,none,none,none,none,none,none,none,none,none,none,none,none,none,some 4,some 2,none,none,none,none,none,none] Q Q (aL 2 Q (bI follows ?_))))));iterate 2 (refine DA [0,1] TK Q ?_)
 refine dR [0,1] hm (qCA ·) Q Q Q Q λr1 hm=>DX [0,1] Q Q (bX Q plc76 qXL Q Q Q Q) ?_;refine DT ?_ (by kernel_rfl);refine aG 1 Q (cR 1 [none,none,none,none,none,none,none,none,none,none,none,none,none,none,none,none,none,none,some 4,some 2,none,none,none,none,none,none] Q Q (aD 3 Q ?_));obtain rfl:=OJ hm;exact EndsS.cellR _ TK Q Q Q Q Q (.d _)
theorem qEH {p0:A7} {p1:A7} {r:Bool} (hm:tA p0 p1=some r):RetN TP 171 [p0.enc,p1.enc] (.bool (r)):=by
 refine .unit (aK (bA Q) func171 Q ntmps171 Q Q (λwX gX=>?_)) Q;unfold tA at hm;refine WN [0,1] Q Q (aO 1 Q (bQ 0 Q Q Q (bQ 1 Q Q Q (aL 12 Q (eC hm Q (λh1 hm=>?_) (λh1 hm=>?_))))))
 ·cases hm
 cases hm
theorem sZ:∀ (fu:Nat) {p0:Bn} {p1:(List (List Int))} {p2:Int} {r:Bn} (hm:fJ fu p0 p1 p2=some r),Ret TP 129 [.box 218 [.d (.sl 14 (p0.t.Ab.map Ai.enc)),.d (.sl 1 (p0.t.Ad.map (D.int .i64))),.d (.sl 1 (p0.t.A1.map (D.int .i64))),.d (.int .i64 p0.t.Ac),.d (.int .i64 p0.t.Ah),.d (.sl 2 (p0.trips.map A6.enc)),.d (.sl 1 (p0.best.starts.map (λ(l:List Int)=>D.sl 1 (l.map (D.int .i64))))),.d (.int .i64 p0.best.cost),.d (.bool (p0.found))]] (λ_=>false) [.mptr 0 0 0 0,.d (.sl 1 (p1.map (λ(l:List Int)=>D.sl 1 (l.map (D.int .i64))))),.d (.int .i64 p2)] (.tup []) [.box 218 [.d (.sl 14 (p0.t.Ab.map Ai.enc)),.d (.sl 1 (p0.t.Ad.map (D.int .i64))),.d (.sl 1 (p0.t.A1.map (D.int .i64))),.d (.int .i64 p0.t.Ac),.d (.int .i64 p0.t.Ah),.d (.sl 2 (p0.trips.map A6.enc)),.d (.sl 1 (r.best.starts.map (λ(l:List Int)=>D.sl 1 (l.map (D.int .i64))))),.d (.int .i64 r.best.cost),.d (.bool (r.found))]]:=by
 intro fu
 induction fu with
 | zero=>
  intro p0 p1 p2 r hm;unfold fJ at hm;cases hm
 | succ fu ih=>
  intro p0 p1 p2 r hm;refine iL (bA Q) func129 Q ntmps129 Q Q (λwX gX=>?_);unfold fJ at hm;refine WN [0,1,2] Q Q (bO 4 Q (aS hm (λdone1=>([(6,.d (.bool (done1)))])) (λdone1=>[]) [6] [0,1,2] Q (λz2 hm=>?_) (λdone1 hm=>?_)))
  ·refine bO 5 Q (aW hm (λ(done5,i6)=>([(6,.d (.bool (done5))),(7,.d (.int .i64 i6))])) (λ(done5,i6)=>[]) [6,7] [0,1,2] [0] Q (kB Q) Q Q Q Q Q (λs z7 hm hz7=>?_));obtain⟨done5,i6⟩:=s;refine WN [0,1,2,6,7] Q Q (aO 4 Q (SX Q Q (aN TK Q Q Q) (aL 3 Q (bJ hm Q (λh8 hm=>?_) (λh8 hm=>?_)))))
   ·cases hm
   refine aM 2 Q (IE hm λv9 hm hz=>?_);rw [hz7 _ hz] at hm;exact WX (bC 1 Q (e_j [0] hm Q (kB Q) Q))
  refine WN [0,1,2,6] Q Q (bN 6 Q (bG hm Q (λh10 hm=>?_) (λh10 hm=>?_)))
  ·cases hm
  refine aQ 5 Q (SX Q Q (bX Q plc52 qJJ Q Q Q Q) (cH 1 Q Q qJJ Q (cR 1 [some 1,none] Q Q (aL 3 Q (aS hm (λx11=>([(83,.d (.bool (x11)))])) (λx11=>[]) [83] [0,10] Q (λz12 hm=>?_) (λx11 hm=>?_))))))
  ·refine cG follows ?_;iterate 5 (refine DA [0,1] TK Q ?_)
   refine d_b [0,1] TK Q (λq13 hq13=>?_);cases q13
   ·replace hm:=JB hq13 hm;iterate 5 (refine DA [0,1] TK Q ?_)
    refine dR [0,1] hm (qEH ·) Q Q Q Q λr14 hm=>DA [0,1] TK Q ?_;refine DT ?_ (by kernel_rfl);exact aD 1 Q (e_j [0,1] hm Q (kB Q) Q)
   replace hm:=JA hq13 hm;iterate 7 (refine DA [0,1] TK Q ?_)
   refine DT ?_ (by kernel_rfl);exact aD 1 Q (e_j [0,1] hm Q (kB Q) Q)
  refine WN [0,10,83] Q Q (bG hm Q (λh15 hm=>?_) (λh15 hm=>?_))
  ·refine aM 14 Q ?_;obtain rfl:=OJ hm;exact⟨_,[0],res Q,by decide,(kB Q),Q,Q⟩
  cases hm
theorem tZ {p0:Bn} {p1:(List (List Int))} {p2:Int} {r:Bn} (hm:nY p0 p1 p2=some r):Ret TP 129 [.box 218 [.d (.sl 14 (p0.t.Ab.map Ai.enc)),.d (.sl 1 (p0.t.Ad.map (D.int .i64))),.d (.sl 1 (p0.t.A1.map (D.int .i64))),.d (.int .i64 p0.t.Ac),.d (.int .i64 p0.t.Ah),.d (.sl 2 (p0.trips.map A6.enc)),.d (.sl 1 (p0.best.starts.map (λ(l:List Int)=>D.sl 1 (l.map (D.int .i64))))),.d (.int .i64 p0.best.cost),.d (.bool (p0.found))]] (λ_=>false) [.mptr 0 0 0 0,.d (.sl 1 (p1.map (λ(l:List Int)=>D.sl 1 (l.map (D.int .i64))))),.d (.int .i64 p2)] (.tup []) [.box 218 [.d (.sl 14 (p0.t.Ab.map Ai.enc)),.d (.sl 1 (p0.t.Ad.map (D.int .i64))),.d (.sl 1 (p0.t.A1.map (D.int .i64))),.d (.int .i64 p0.t.Ac),.d (.int .i64 p0.t.Ah),.d (.sl 2 (p0.trips.map A6.enc)),.d (.sl 1 (r.best.starts.map (λ(l:List Int)=>D.sl 1 (l.map (D.int .i64))))),.d (.int .i64 r.best.cost),.d (.bool (r.found))]]:=sZ lG hm
theorem qHB {p0:Al} {p1:(List A6)} {r0:A7} {r1:Int} (hm:uI p0 p1=some (r0,r1)):RetT TP 70 [p0.enc,.sl 2 (p1.map A6.enc)] [r0.enc,.int .i64 r1]:=by
 refine .of (mv:=λ_=>false) (dQ (bA Q) func70 Q ntmps70 Q Q (λwX gX=>?_));unfold uI at hm;refine WN [0,1] Q Q (aO 1 Q (bQ 0 Q Q Q (cH 1 Q Q qJJ Q (cR 1 [some 1,none] Q Q (aG 6 Q (c_N hm (rJ ·) Q Q Q Q λr1 hm=>aL 9 Q (eC hm Q (λh2 hm=>?_) (λh2 hm=>?_))))))))
 ·cases hm
 refine aQ 5 Q (SX Q Q (bX Q plc218 zBJ Q Q Q Q) (s_wk 17 [none,none,none,none,none,none,some 1,none,none] Q (bQ 2 Q Q Q (aG 6 Q (SX Q Q (aN TK Q Q Q) (GE hm λg3 hm=>SX Q Q (zBN (s:=1) (f:=(D.int .i64)) TK Q Q qXN Q Q Q Q Q g3) (BE hm λr4 hr4 hm=>?_)))))));refine qJU [2] (λ_=>false) Q Q Q (by decide) Q Q Q Q (tZ hr4) Q Q Q ?_;refine aL 2 Q (WN [4,7] Q Q (aM 10 Q ?_));obtain⟨rfl,rfl⟩:=Prod.mk.inj (Option.some.inj hm);exact⟨_,.mk _ (.cons (.agg (TK.lay Q) Q Q Q Q) (.cons (.tmp 5) .nil)) Q,(.cons (.d _) (.refl _) (.cons (.d _) (.refl _) .nil))⟩
theorem qGQ {p0:Ag} {p1:Int} {r:Bool} (hm:qP p0 p1=some r):RetN TP 174 [p0.enc,.int .i64 p1] (.bool (r)):=by
 refine .unit (aK (bA Q) func174 Q ntmps174 Q Q (λwX gX=>?_)) Q;unfold qP at hm;refine WN [0,1] Q Q (aO 1 Q (bQ 0 Q Q Q (aL 3 Q (cF [(4,.d (.bool (((decide ((0:Int)<=p1))&&(decide (p1 < (p0.Ae.length:Int)))))))] [4] [] Q ?_ ?_))))
 ·refine aO 3 Q (SB TK Q (λq1 hq1=>?_));cases q1
  ·refine aD 8 Q ?_;exact⟨[0],Q,k0,aV (aH (aI (by first|(simp [hq1];done)|(simp only [hq1];simp))) Q) Q⟩
  refine aG 3 Q (SX Q Q (aN TK Q Q Q) (aD 4 Q ?_));exact⟨[0],Q,k0,aV (aH (aI (by first|(simp [hq1];done)|(simp only [hq1];simp))) Q) Q⟩
 exact WN [4] Q Q (aM 1 Q (aR hm Q))
theorem yF {p0:Ag} {p1:(List Am)} {r:(List Int)} (hm:jN p0 p1=some r):Ret TP 133 [] (λ_=>false) ([p0.enc,.sl 3 (p1.map Am.enc)].map .d) (.msl 0 1 0 r.length) [.flat 3 1 (r.map (D.int .i64))]:=by
 refine iL (bA Q) func133 Q ntmps133 Q Q (λwX gX=>?_);unfold jN at hm;refine WN [0,1] Q Q (aO 1 Q (bQ 0 Q Q Q (cS (f:=(D.int .i64)) 1 3 1 Q Q Q (aG 3 Q (cS (f:=(D.int .i64)) 2 3 1 Q Q Q (aG 3 Q (vY 3 4 Q (qGU 10 (.mmap 3) Q Q (aL 3 Q (aS hm (λ(b1,m2)=>([(5,.msl 2 1 0 b1.length)])) (λ(b1,m2)=>([(2,.flat 3 1 (b1.map (D.int .i64))),(3,.map 3 4 (dC (D.int .i64) D.bool m2))])) [5] [] Q (λz3 hm=>?_) (λj hm=>?_)))))))))))
 ·refine aO 2 Q (SX Q Q (aN TK Q Q Q) (aL 4 Q (aW hm (λ(x8,b9,b10)=>([(5,.msl 2 1 0 b9.length),(13,.d (.int .i64 x8))])) (λ(x8,b9,b10)=>([(2,.flat 3 1 (b9.map (D.int .i64))),(3,.map 3 4 (dC (D.int .i64) D.bool b10))])) [5,13] [2,6,11,12] [0,1,2,3] Q k0 Q Q Q Q Q (λs z11 hm hz11=>?_))));obtain⟨x8,b9,b10⟩:=s;refine WN [2,5,6,11,12,13] Q Q (bO 5 Q (bJ hm Q (λh12 hm=>?_) (λh12 hm=>?_)))
  ·refine aQ 5 Q (VE hm λe13 he13 hm=>SX Q Q (bD TK Q Q Q Q he13) (aG 1 Q (cH 4 Q Q fH Q (aL 3 Q (WN [2,5,6,8,11,12,13] Q Q (aQ 5 Q (c_N hm (qGQ ·) Q Q Q Q λr14 hm=>aL 3 Q (bG hm Q (λh15 hm=>?_) (λh15 hm=>?_)))))))))
   ·exact aQ 5 Q (GE hm λg16 hm=>SX Q Q (bK Q Q Q Q g16) (aD 2 Q (aX [0,1,2,3] hm Q Q)))
   refine aQ 7 Q (VE hm λe17 he17 hm=>SX Q Q (bD TK Q Q Q Q he17) (aG 8 Q (GE hm λg18 hm=>SX Q Q (vT (nR .i64) D.bool _ _ false Q qKZ qME Q Q Q Q g18) (aL 3 Q (WN [2,5,6,9,11,12,13,32] Q Q (bG hm Q (λh19 hm=>?_) (λh19 hm=>?_)))))))
   ·refine aQ 3 Q (GE hm λg20 hm=>qJT (nR .i64) D.bool qKZ Q Q Q Q g20 (aL 2 Q (WN [2,5,6,9,11,12,13] Q Q (aQ 3 Q (SX Q Q (cI [.tmp 36] TK Q Q dE Q Q Q Q Q) (GE hm λg21 hm=>cK (f:=(D.int .i64)) ([e17.Aq]:List Int) TK Q Q dE Q Q Q Q Q (λh=>absurd h (zQV _)) Q cE g21 Q Q (aL 4 Q (WN [2,5,6,11,12,13] Q Q (aQ 1 Q (GE hm λg22 hm=>SX Q Q (bK Q Q Q Q g22) ?_))))))))));exact aD 2 Q (aX [0,1,2,3] hm Q Q)
   exact aQ 4 Q (GE hm λg23 hm=>SX Q Q (bK Q Q Q Q g23) (aD 2 Q (aX [0,1,2,3] hm Q Q)))
  refine aM 2 Q (IE hm λv24 hm hz=>?_);rw [hz11 _ hz] at hm;exact WX (bC 1 Q (aT [0,1,2,3] hm Q Q))
 obtain⟨b1,m2⟩:=j;refine WN [5] Q Q (aM 6 Q ?_);obtain rfl:=OJ hm;exact⟨_,[2],res Q,by decide,k0,Q,Q⟩
theorem tV {p0:Ag} {p1:Bc} {r:(List Int)} (hm:iC p0 p1=some r):RetD TP 75 [p0.enc,p1.enc] (.sl 1 (r.map (D.int .i64))):=by
 refine .of (mv:=λ_=>false) (aK (bA Q) func75 Q ntmps75 Q Q (λwX gX=>?_));unfold iC at hm;refine WN [0,1] Q Q (aO 1 Q (bQ 0 Q Q Q (bQ 1 Q Q Q (aG 7 Q (BE hm λr1 hr1 hm=>sY Q Q Q (yF hr1) Q Q (qGU 9 (.msl 2 1 0 r1.length) Q Q (aG 5 Q (GE hm λg2 hm=>?_))))))));refine qDH [2] Q Q Q (by simp) Q Q Q (qR r1 g2) Q Q ?_;refine yK 5 (kN r1).length Q (gP _).symm (yK 10 (kN r1).length Q (gP _).symm (aD 8 Q ?_));obtain rfl:=OJ hm;exact EndsS.one _ Q (bS Q) (.refl _)
theorem pE {p0:(List Int)} {r:(List Int)} (hm:dB p0=some r):RetD TP 172 [.sl 1 (p0.map (D.int .i64))] (.sl 1 (r.map (D.int .i64))):=by
 refine .of (mv:=λ_=>false) (aK (bA Q) func172 Q ntmps172 Q Q (λwX gX=>?_));unfold dB at hm;refine WN [0] Q Q (aO 7 Q (qTF Q Tryz.underlying30 Q Q (λb1 hb1=>aL 2 Q (TC _ Q (λh2=>?_) (λh2=>?_)))))
 ·obtain⟨hnb1,hm⟩:=zFC (hb1 h2) hm;subst hnb1;refine bN 4 Q (vP 2 [some 1] Q (aM 2 Q ?_));obtain rfl:=OJ hm;exact EndsS.one _ Q (.d _) (.refl _)
 replace hm:=zFD hm;refine aQ 3 Q (qQV (f:=(D.int .i64)) 0 [] ([]:List Int) TK Q Q Q dE Q Q Q Q Q (aG 1 Q (GE hm λg3 hm=>cK (f:=(D.int .i64)) p0 TK Q Q dE Q Q Q Q Q (λh=>absurd h (zQV _)) Q cE g3 Q Q (aD 4 Q ?_))));obtain rfl:=OJ hm;exact EndsS.one _ Q (bS Q) (.refl _)
theorem uF {p0:(List Int)} {r:(List Int)} (hm:dB p0=some r):Ret TP 172 [] (λ_=>false) ([.sl 1 (p0.map (D.int .i64))].map .d) (.msl 0 1 0 r.length) [.flat 3 1 (r.map (D.int .i64))]:=by
 refine iL (bA Q) func172 Q ntmps172 Q Q (λwX gX=>?_);unfold dB at hm;refine WN [0] Q Q (aO 1 Q (cS (f:=(D.int .i64)) 0 3 1 Q Q Q (aG 5 Q (qTF Q Tryz.underlying30 Q Q (λb1 hb1=>aL 2 Q (TC _ Q (λh2=>?_) (λh2=>?_)))))))
 ·obtain⟨hnb1,hm⟩:=zFC (hb1 h2) hm;subst hnb1;refine aQ 1 Q (cS (f:=(D.int .i64)) 1 3 1 Q Q Q (aD 4 Q ?_));obtain rfl:=OJ hm;exact⟨_,[1],res Q,by decide,k0,Q,Q⟩
 replace hm:=zFD hm;refine aQ 3 Q (qQV (f:=(D.int .i64)) 1 [] ([]:List Int) TK Q Q Q dE Q Q Q Q Q (aG 1 Q (GE hm λg3 hm=>cK (f:=(D.int .i64)) p0 TK Q Q dE Q Q Q Q Q (λh=>absurd h (zQV _)) Q cE g3 Q Q (aD 4 Q ?_))));obtain rfl:=OJ hm;exact⟨_,[1],res Q,by decide,k0,Q,Q⟩
theorem zF {p0:(List Int)} {r:(List Int)} (hm:mJ p0=some r):RetD TP 131 [.sl 1 (p0.map (D.int .i64))] (.sl 1 (r.map (D.int .i64))):=by
 refine .of (mv:=λ_=>false) (aK (bA Q) func131 Q ntmps131 Q Q (λwX gX=>?_));unfold mJ at hm;refine WN [0] Q Q (aO 6 Q (BE hm λr1 hr1 hm=>sY Q Q Q (uF hr1) Q Q (qGU 5 (.msl 0 1 0 r1.length) Q Q (aG 5 Q (GE hm λg2 hm=>?_)))));refine qDH [0] Q Q Q (by simp) Q Q Q (qR r1 g2) Q Q ?_;refine yK 3 (kN r1).length Q (gP _).symm (yK 6 (kN r1).length Q (gP _).symm (aG 4 Q (GE hm λg3 hm=>?_)));refine qDH [0] Q Q Q (by simp) Q Q Q (uE (kN r1) g3) Q Q ?_;refine aD 4 Q ?_;obtain rfl:=OJ hm;exact EndsS.one _ Q (bS Q) (.refl _)
theorem zE {p0:(List Int)} {p1:(List Int)} {p2:Bool->Bool->Option Bool} {c2:D} (hf2:∀ a0 a1 r,p2 a0 a1=some r->∃ F cs,qDC c2=some (F,cs)/\RetD TP F ([.bool (a0),.bool (a1)]++cs) (.bool (r))) {r:(List Int)} (hm:hU p0 p1 p2=some r):RetD TP 130 [.sl 1 (p0.map (D.int .i64)),.sl 1 (p1.map (D.int .i64)),c2] (.sl 1 (r.map (D.int .i64))):=by
 refine .of (mv:=λ_=>false) (aK (bA Q) func130 Q ntmps130 Q Q (λwX gX=>?_));unfold hU at hm;refine WN [0,1,2] Q Q (aO 5 Q (cS (f:=(D.int .i64)) 0 3 1 Q Q Q (aL 2 Q (aS hm (λb1=>([(7,.msl 0 1 0 b1.length)])) (λb1=>([(0,.flat 3 1 (b1.map (D.int .i64)))])) [7] [] Q (λz2 hm=>?_) (λb1 hm=>?_)))))
 ·refine bO 1 Q (aW hm (λ(a8,b9,b10)=>([(0,.d (.sl 1 (a8.map (D.int .i64)))),(1,.d (.sl 1 (b9.map (D.int .i64)))),(7,.msl 0 1 0 b10.length)])) (λ(a8,b9,b10)=>([(0,.flat 3 1 (b10.map (D.int .i64)))])) [0,1,7] [2] [0] Q k0 Q Q Q Q Q (λs z11 hm hz11=>?_));obtain⟨a8,b9,b10⟩:=s;refine WN [0,1,2,7] Q Q (bO 1 Q ?_);refine cF [(18,.d (.bool (((decide ((0:Int) < (a8.length:Int)))||(decide ((0:Int) < (b9.length:Int)))))))] [18] [0,1,2,7] Q ?_ ?_
  ·refine aO 2 Q (SX Q Q (aN TK Q Q Q) (aG 1 Q (SB TK Q (λq12 hq12=>?_))));cases q12
   ·refine aG 1 Q (SX Q Q (aN TK Q Q Q) (aD 3 Q ?_));exact⟨[0],Q,k0,aV (aH (aI (by first|(simp [hq12];done)|(simp only [hq12];simp))) Q) Q⟩
   refine aD 5 Q ?_;exact⟨[0],Q,k0,aV (aH (aI (by first|(simp [hq12];done)|(simp only [hq12];simp))) Q) Q⟩
  refine WN [0,1,2,7,18] Q Q (bG hm Q (λh13 hm=>?_) (λh13 hm=>?_))
  ·refine bN 3 Q (aS hm (λinA14=>([(8,.d (.bool (inA14)))])) (λinA14=>[]) [8] [0,1,2,7] Q (λz15 hm=>?_) (λinA14 hm=>?_))
   ·refine cG follows (DA [0] TK Q (DX [0] Q Q (aN TK Q Q Q) (DA [0] TK Q (d_b [0] TK Q (λq16 hq16=>?_)))));cases q16
    ·replace hm:=JF hq16 hm;iterate 13 (refine DA [0] TK Q ?_)
     refine DT ?_ (by kernel_rfl);exact aD 2 Q (aT [0] hm Q Q)
    replace hm:=JT hq16 hm;refine DA [0] TK Q (DX [0] Q Q (aN TK Q Q Q) (DA [0] TK Q (d_b [0] TK Q (λq17 hq17=>?_))));cases q17
    ·replace hm:=JF hq17 hm;refine DA [0] TK Q (VE hm λe18 he18 hm=>DX [0] Q Q (bD TK Q Q Q Q he18) ?_);iterate 2 (refine DA [0] TK Q ?_)
     refine VE hm λe19 he19 hm=>DX [0] Q Q (bD TK Q Q Q Q he19) ?_;iterate 4 (refine DA [0] TK Q ?_)
     refine DT ?_ (by kernel_rfl);exact aD 2 Q (aT [0] hm Q Q)
    replace hm:=JT hq17 hm;iterate 9 (refine DA [0] TK Q ?_)
    refine DT ?_ (by kernel_rfl);exact aD 2 Q (aT [0] hm Q Q)
   refine WN [0,1,2,7,8] Q Q (aS hm (λinB20=>([(9,.d (.bool (inB20)))])) (λinB20=>[]) [9] [0,1,2,7,8] Q (λz21 hm=>?_) (λinB20 hm=>?_))
   ·refine cG follows (DA [0] TK Q (DX [0] Q Q (aN TK Q Q Q) (DA [0] TK Q (d_b [0] TK Q (λq22 hq22=>?_)))));cases q22
    ·replace hm:=JF hq22 hm;iterate 13 (refine DA [0] TK Q ?_)
     refine DT ?_ (by kernel_rfl);exact aD 2 Q (aT [0] hm Q Q)
    replace hm:=JT hq22 hm;refine DA [0] TK Q (DX [0] Q Q (aN TK Q Q Q) (DA [0] TK Q (d_b [0] TK Q (λq23 hq23=>?_))));cases q23
    ·replace hm:=JF hq23 hm;refine DA [0] TK Q (VE hm λe24 he24 hm=>DX [0] Q Q (bD TK Q Q Q Q he24) ?_);iterate 2 (refine DA [0] TK Q ?_)
     refine VE hm λe25 he25 hm=>DX [0] Q Q (bD TK Q Q Q Q he25) ?_;iterate 4 (refine DA [0] TK Q ?_)
     refine DT ?_ (by kernel_rfl);exact aD 2 Q (aT [0] hm Q Q)
    replace hm:=JT hq23 hm;iterate 9 (refine DA [0] TK Q ?_)
    refine DT ?_ (by kernel_rfl);exact aD 2 Q (aT [0] hm Q Q)
   refine WN [0,1,2,7,8,9] Q Q (bN 4 Q (aS hm (λ(a26,n27)=>([(0,.d (.sl 1 (a26.map (D.int .i64)))),(10,.d (.int .i64 n27))])) (λ(a26,n27)=>[]) [0,10] [1,2,7,8,9] Q (λz28 hm=>?_) (λj hm=>?_)))
   ·refine bO 4 Q (bG hm Q (λh29 hm=>?_) (λh29 hm=>?_))
    ·refine dW follows (DA [0] TK Q (VE hm λe30 he30 hm=>DX [0] Q Q (bD TK Q Q Q Q he30) ?_));iterate 2 (refine DA [0] TK Q ?_)
     refine GE hm λg31 hm=>DX [0] Q Q (yE TK Q Q Q Q Q g31) (DA [0] TK Q ?_);refine DT ?_ (by kernel_rfl);exact aD 2 Q (aT [0] hm Q Q)
    exact aM 1 Q (aT [0] hm Q Q)
   obtain⟨a26,n27⟩:=j;refine WN [0,1,2,7,8,9,10] Q Q (aS hm (λ(b32,n33)=>([(1,.d (.sl 1 (b32.map (D.int .i64)))),(10,.d (.int .i64 n33))])) (λ(b32,n33)=>[]) [1,10] [0,2,7,8,9] Q (λz34 hm=>?_) (λj hm=>?_))
   ·refine bO 4 Q (bG hm Q (λh35 hm=>?_) (λh35 hm=>?_))
    ·refine dW follows (DA [0] TK Q (VE hm λe36 he36 hm=>DX [0] Q Q (bD TK Q Q Q Q he36) ?_));iterate 2 (refine DA [0] TK Q ?_)
     refine GE hm λg37 hm=>DX [0] Q Q (yE TK Q Q Q Q Q g37) (DA [0] TK Q ?_);refine DT ?_ (by kernel_rfl);exact aD 2 Q (aT [0] hm Q Q)
    exact aM 1 Q (aT [0] hm Q Q)
   obtain⟨b32,n33⟩:=j;refine WN [0,1,2,7,8,9,10] Q Q (aQ 4 Q (BE hm λr38 hr38 hm=>?_));obtain⟨Fr38,csr38,hFr38,hcr38⟩:=hf2 _ _ _ hr38;refine SX Q Q (uU Q Q hFr38 Q hcr38) (aL 2 Q (bG hm Q (λh39 hm=>?_) (λh39 hm=>?_)))
   ·exact aQ 3 Q (SX Q Q (cI [.tmp 70] TK Q Q dE Q Q Q Q Q) (GE hm λg40 hm=>cK (f:=(D.int .i64)) ([n33]:List Int) TK Q Q dE Q Q Q Q Q (λh=>absurd h (zQV _)) Q cE g40 Q Q (aD 3 Q (aX [0] hm Q Q))))
   exact aM 2 Q (aX [0] hm Q Q)
  refine aM 2 Q (IE hm λv41 hm hz=>?_);rw [hz11 _ hz] at hm;exact WX (bC 1 Q (aT [0] hm Q Q))
 refine WN [7] Q Q (aM 6 Q ?_);obtain rfl:=OJ hm;exact EndsS.one _ Q (bS Q) (.refl _)
theorem zG {p0:Bool} {p1:Bool} {r:Bool} (hm:dN p0 p1=some r):RetN TP 132 [.bool (p0),.bool (p1)] (.bool (r)):=by
 refine .unit (aK (bA Q) func132 Q ntmps132 Q Q (λwX gX=>?_)) Q;unfold dN at hm;refine WN [0,1] Q Q (bO 4 Q (cF [(4,.d (.bool ((p0&&p1))))] [4] [] Q ?_ ?_))
 ·refine aO 2 Q (SB TK Q (λq1 hq1=>?_));cases q1
  ·refine aD 4 Q ?_;exact⟨[],Q,k0,aV (aH (aI (by first|(simp [hq1];done)|(simp only [hq1];simp))) Q) Q⟩
  refine aD 4 Q ?_;exact⟨[],Q,k0,aV (aH (aI (by first|(simp [hq1];done)|(simp only [hq1];simp))) Q) Q⟩
 exact WN [4] Q Q (aM 1 Q (aR hm Q))
theorem qFG {p0:(List Int)} {p1:(List Int)} {r:(List Int)} (hm:lQ p0 p1=some r):RetD TP 74 [.sl 1 (p0.map (D.int .i64)),.sl 1 (p1.map (D.int .i64))] (.sl 1 (r.map (D.int .i64))):=by
 refine .of (mv:=λ_=>false) (aK (bA Q) func74 Q ntmps74 Q Q (λwX gX=>?_));unfold lQ at hm;refine WN [0,1] Q Q (aO 6 Q (c_D hm (zF ·) Q Q Q Q λr1 hm=>aG 1 Q (c_D hm (zF ·) Q Q Q Q λr2 hm=>BE hm λr3 hr3 hm=>SX Q Q (RD Q Q Q (zE (λ_ _ r h=>⟨132,_,Q,(zG h).retD⟩) hr3)) (aD 4 Q ?_))));obtain rfl:=OJ hm;exact EndsS.one _ Q (.d _) (.refl _)
theorem lD {p0:Av} {p1:Av} {p2:An} {r:Bool} (hm:dP p0 p1 p2=some r):RetN TP 73 [p0.enc,p1.enc,.ptr (p2.enc) 0] (.bool (r)):=by
 refine .unit (aK (bA Q) func73 Q ntmps73 Q Q (λwX gX=>?_)) Q;unfold dP at hm;refine WN [0,1,2] Q Q (aO 1 Q (bQ 0 Q Q Q (bQ 1 Q Q Q (aL 3 Q (bI follows ?_)))));iterate 4 (refine DA [0,1] TK Q ?_)
 refine kW [0,1] hm (tV ·) Q Q Q Q λr1 hm=>?_;iterate 4 (refine DA [0,1] TK Q ?_)
 refine kW [0,1] hm (tV ·) Q Q Q Q λr2 hm=>kW [0,1] hm (qFG ·) Q Q Q Q λr3 hm=>DX [0,1] Q Q (aN TK Q Q Q) (DA [0,1] TK Q ?_);refine DT ?_ (by kernel_rfl);exact aL 3 Q (WN [5] Q Q (aM 1 Q (aR hm Q)))
theorem rX {p0:(List Av)} {p1:Av->Av->Option Bool} {p2:Av->Av->Option Af} {c1:D} (hf1:∀ a0 a1 r,p1 a0 a1=some r->∃ F cs,qDC c1=some (F,cs)/\RetD TP F ([a0.enc,a1.enc]++cs) (.bool (r))) {c2:D} (hf2:∀ a0 a1 r,p2 a0 a1=some r->∃ F cs,qDC c2=some (F,cs)/\RetD TP F ([a0.enc,a1.enc]++cs) (r.enc)) {r:(List Af)} (hm:dI p0 p1 p2=some r):RetD TP 76 [.sl 32 (p0.map Av.enc),c1,c2] (.sl 3 (r.map Af.enc)):=by
 refine .of (mv:=λ_=>false) (aK (bA Q) func76 Q ntmps76 Q Q (λwX gX=>?_));unfold dI at hm;refine WN [0,1,2] Q Q (aO 5 Q (cS (f:=Af.enc) 0 83 3 Q Q Q (aL 2 Q (aS hm (λb1=>([(7,.msl 0 3 0 b1.length)])) (λb1=>([(0,.flat 83 3 (b1.map Af.enc))])) [7] [] Q (λz2 hm=>?_) (λb1 hm=>?_)))))
 ·refine aO 2 Q (SX Q Q (aN TK Q Q Q) (aL 4 Q (aW hm (λ(x6,b7)=>([(7,.msl 0 3 0 b7.length),(14,.d (.int .i64 x6))])) (λ(x6,b7)=>([(0,.flat 83 3 (b7.map Af.enc))])) [7,14] [0,1,2,12,13] [0] Q k0 Q Q Q Q Q (λs z8 hm hz8=>?_))));obtain⟨x6,b7⟩:=s;refine WN [0,1,2,7,12,13,14] Q Q (bO 5 Q (bJ hm Q (λh9 hm=>?_) (λh9 hm=>?_)))
  ·refine bN 2 Q (aS hm (λb10=>([(7,.msl 0 3 0 b10.length)])) (λb10=>([(0,.flat 83 3 (b10.map Af.enc))])) [7] [0,1,2,12,13,14] Q (λz11 hm=>?_) (λb10 hm=>?_))
   ·refine aO 3 Q (VE hm λe12 he12 hm=>SX Q Q (bD TK Q Q Q Q he12) (aG 1 Q (cH 1 Q Q oW Q (cR 1 [some 3,none,none,none,none,none,none,none,none,none,none,none,none,none,none,none,none,none,none,none,none,none,none,none,some 4,some 2,none,none,none,none,none,none] Q Q (aG 7 Q (GE hm λg13 hm=>SX Q Q (bK Q Q Q Q g13) (GE hm λg14 hm=>SX Q Q (yE TK Q Q Q Q Q g14) (SX Q Q (aN TK Q Q Q) (aL 4 Q (aW hm (λ(x18,b19)=>([(7,.msl 0 3 0 b19.length),(24,.d (.int .i64 x18))])) (λ(x18,b19)=>([(0,.flat 83 3 (b19.map Af.enc))])) [7,24] [0,1,2,9,12,13,14,22,23] [0,1] Q k0 Q Q Q Q Q (λs z20 hm hz20=>?_)))))))))));obtain⟨x18,b19⟩:=s;refine WN [0,1,2,7,9,12,13,14,22,23,24] Q Q (bO 5 Q (bJ hm Q (λh21 hm=>?_) (λh21 hm=>?_)))
    ·refine aQ 5 Q (VE hm λe22 he22 hm=>SX Q Q (bD TK Q Q Q Q he22) (aG 1 Q (cH 2 Q Q oW Q (cR 2 [some 3,none,none,none,none,none,none,none,none,none,none,none,none,none,none,none,none,none,none,none,none,none,none,none,some 4,some 2,none,none,none,none,none,none] Q Q (aG 7 Q (BE hm λr23 hr23 hm=>?_))))));obtain⟨Fr23,csr23,hFr23,hcr23⟩:=hf1 _ _ _ hr23;refine SX Q Q (uU Q Q hFr23 Q hcr23) (aL 2 Q (bG hm Q (λh24 hm=>?_) (λh24 hm=>?_)))
     ·refine aQ 5 Q (BE hm λr25 hr25 hm=>?_);obtain⟨Fr25,csr25,hFr25,hcr25⟩:=hf2 _ _ _ hr25;exact SX Q Q (uU Q Q hFr25 Q hcr25) (SX Q Q (cI [.tmp 36] TK Q Q eE Q Q Q Q Q) (GE hm λg26 hm=>cK (f:=Af.enc) ([r25]:List Af) TK Q Q eE Q Q Q Q Q (λh=>absurd h (zQV _)) Q cE g26 Q Q (aL 4 Q (WN [0,1,2,7,9,12,13,14,22,23,24] Q Q (aQ 1 Q (GE hm λg27 hm=>SX Q Q (bK Q Q Q Q g27) (aD 2 Q (aX [0,1] hm Q Q))))))))
     exact aQ 4 Q (GE hm λg28 hm=>SX Q Q (bK Q Q Q Q g28) (aD 2 Q (aX [0,1] hm Q Q)))
    refine aM 2 Q (IE hm λv29 hm hz=>?_);rw [hz20 _ hz] at hm;exact WX (bC 2 Q (aT [0] hm Q Q))
   exact WN [0,1,2,7,12,13,14] Q Q (aQ 1 Q (GE hm λg30 hm=>SX Q Q (bK Q Q Q Q g30) (aD 2 Q (aX [0] hm Q Q))))
  refine aM 2 Q (IE hm λv31 hm hz=>?_);rw [hz8 _ hz] at hm;exact WX (bC 1 Q (aT [0] hm Q Q))
 refine WN [7] Q Q (aM 6 Q ?_);obtain rfl:=OJ hm;exact EndsS.one _ Q (bS Q) (.refl _)
theorem lC {p0:Av} {p1:Av} {r:Af} (hm:fS p0 p1=some r):RetN TP 77 [p0.enc,p1.enc] (r.enc):=by
 refine .unit (aK (bA Q) func77 Q ntmps77 Q Q (λwX gX=>?_)) Q;unfold fS at hm;refine WN [0,1] Q Q (aO 1 Q (bQ 0 Q Q Q (bQ 1 Q Q Q (cH 2 Q Q eE Q (aG 11 Q (SX Q Q (bX Q qCC eE Q Q Q Q) (aD 4 Q ?_)))))));obtain rfl:=OJ hm;exact EndsS.cellR _ TK Q Q Q Q Q (.d _)
theorem wP {p0:An} {r:(List Af)} (hm:dG p0=some r):RetD TP 36 [p0.enc] (.sl 3 (r.map Af.enc)):=by
 refine .of (mv:=λ_=>false) (aK (bA Q) func36 Q ntmps36 Q Q (λwX gX=>?_));unfold dG at hm;refine WN [0] Q Q (aO 1 Q (bQ 0 Q Q Q (aL 3 Q (zFJ 0 Q Q Q Q Q (aQ 9 Q (BE hm λr1 hr1 hm=>SX Q Q (RD Q Q Q (rX (λ_ _ r h=>⟨73,_,Q,(lD h).retD⟩) (λ_ _ r h=>⟨77,_,Q,(lC h).retD⟩) hr1)) (aD 4 Q ?_)))))));obtain rfl:=OJ hm;exact EndsS.one _ Q (.d _) (.refl _)
theorem xS {p0:Int} {r:Bool} (hm:gK p0=some r):RetN TP 37 [.int .i64 p0] (.bool (r)):=by
 refine .unit (aK (bA Q) func37 Q ntmps37 Q Q (λwX gX=>?_)) Q;unfold gK at hm;exact WN [0] Q Q (qYN 11 Q (aR hm Q))
theorem eF {p0:Int} {p1:Int} {r:Bool} (hm:cO p0 p1=some r):RetN TP 177 [.int .i64 p0,.int .i64 p1] (.bool (r)):=by
 refine .unit (aK (bA Q) func177 Q ntmps177 Q Q (λwX gX=>?_)) Q;unfold cO at hm;refine WN [0,1] Q Q (bO 4 Q (cF [(4,.d (.bool (((decide ((0:Int)<=p0))&&(decide (p0 < p1))))))] [4] [] Q ?_ ?_))
 ·refine aO 3 Q (SB TK Q (λq1 hq1=>?_));cases q1
  ·refine aD 6 Q ?_;exact⟨[],Q,k0,aV (aH (aI (by first|(simp [hq1];done)|(simp only [hq1];simp))) Q) Q⟩
  refine aD 6 Q ?_;exact⟨[],Q,k0,aV (aH (aI (by first|(simp [hq1];done)|(simp only [hq1];simp))) Q) Q⟩
 exact WN [4] Q Q (aM 1 Q (aR hm Q))
theorem wM {p0:Al} {r:Bool} (hm:fQ p0=some r):RetN TP 178 [p0.enc] (.bool (r)):=by
 refine .unit (aK (bA Q) func178 Q ntmps178 Q Q (λwX gX=>?_)) Q;unfold fQ at hm;refine WN [0] Q Q (aO 1 Q (bQ 0 Q Q Q (aG 7 Q (SX Q Q (aN TK Q Q Q) (aG 2 Q (SX Q Q (aN TK Q Q Q) (aL 3 Q (eC hm Q (λh1 hm=>?_) (λh1 hm=>?_)))))))))
 ·exact aM 6 Q (aR hm Q)
 refine bN 2 Q (bE hm (λ_=>[]) (λ_=>[]) [] [] Q (λz2 hm hz2=>?_) (λj hm=>?_))
 ·refine aO 3 Q (SX Q Q (aN TK Q Q Q) (aL 4 Q (aW hm (λx4=>([(15,.d (.int .i64 x4))])) (λx4=>[]) [15] [1,13,14] [0] Q k0 Q Q Q Q Q (λx4 z5 hm hz5=>WN [1,13,14,15] Q Q (bO 5 Q (bJ hm Q (λh6 hm=>?_) (λh6 hm=>?_)))))))
  ·refine aQ 6 Q (VE hm λe7 he7 hm=>SX Q Q (bD TK Q Q Q Q he7) (aL 5 Q (aS hm (λx8=>([(46,.d (.bool (x8)))])) (λx8=>[]) [46] [1,13,14,15] Q (λz9 hm=>?_) (λx8 hm=>?_))))
   ·refine cG follows ?_;iterate 2 (refine DA [0] TK Q ?_)
    refine d_b [0] TK Q (λq10 hq10=>?_);cases q10
    ·replace hm:=JF hq10 hm;iterate 2 (refine DA [0] TK Q ?_)
     refine d_b [0] TK Q (λq11 hq11=>?_);cases q11
     ·replace hm:=JF hq11 hm;iterate 14 (refine DA [0] TK Q ?_)
      refine VE hm λe12 he12 hm=>DX [0] Q Q (bD TK Q Q Q Q he12) ?_;iterate 3 (refine DA [0] TK Q ?_)
      refine dR [0] hm (eF ·) Q Q Q Q λr13 hm=>?_;iterate 2 (refine DA [0] TK Q ?_)
      refine DT ?_ (by kernel_rfl);exact aD 1 Q (aT [0] hm Q Q)
     replace hm:=JT hq11 hm;iterate 4 (refine DA [0] TK Q ?_)
     refine GE hm λg14 hm=>DX [0] Q Q (bK Q Q Q Q g14) (VE hm λe15 he15 hm=>DX [0] Q Q (bD TK Q Q Q Q he15) ?_);iterate 4 (refine DA [0] TK Q ?_)
     refine d_b [0] TK Q (λq16 hq16=>?_);cases q16
     ·replace hm:=JF hq16 hm;iterate 3 (refine DA [0] TK Q ?_)
      refine VE hm λe17 he17 hm=>DX [0] Q Q (bD TK Q Q Q Q he17) ?_;iterate 3 (refine DA [0] TK Q ?_)
      refine dR [0] hm (eF ·) Q Q Q Q λr18 hm=>?_;iterate 2 (refine DA [0] TK Q ?_)
      refine DT ?_ (by kernel_rfl);exact aD 1 Q (aT [0] hm Q Q)
     replace hm:=JT hq16 hm;iterate 10 (refine DA [0] TK Q ?_)
     refine DT ?_ (by kernel_rfl);exact aD 1 Q (aT [0] hm Q Q)
    replace hm:=JT hq10 hm;iterate 24 (refine DA [0] TK Q ?_)
    refine DT ?_ (by kernel_rfl);exact aD 1 Q (aT [0] hm Q Q)
   refine WN [1,13,14,15,46] Q Q (bG hm Q (λh19 hm=>?_) (λh19 hm=>?_))
   ·refine aM 7 Q (IE hm λv20 hm hz=>?_);rw [hz5 _ hz] at hm;refine WR (bC 1 Q (IE hm λv21 hm hz=>?_));rw [hz2 _ hz] at hm;exact WR (aR hm Q)
   exact aQ 4 Q (GE hm λg22 hm=>SX Q Q (bK Q Q Q Q g22) (aD 2 Q (aX [0] hm Q Q)))
  refine aM 2 Q (IE hm λv23 hm hz=>?_);rw [hz5 _ hz] at hm;exact WX (bC 1 Q (aX [0] hm Q Q))
 exact WN [] Q Q (aM 5 Q (aR hm Q))
theorem tX (n:Nat) (hn:n<=1000000000) (mv:Nat->Bool):Ret TP 214 [] mv ([.nilsl,.int .i64 n].map .d) (.msl 0 1 0 0) [.flat 3 1 []]:=by
 refine iL (bA Q) func214 Q ntmps214 Q Q (λwX gX=>bP [0,1] (bB Q (bB Q .nil)) (bT Q) (RS (bY _ Q (eD (.inr Q) Q) (TN (bP [0,1] (bB Q (bB Q .nil)) (bT Q) (TQ (RS (bY _ Q (eD (.inl Q) Q) (bY _ Q (mT Q Q Q Q) (TN (bP [0,1,6] (bB Q (bB Q (bB Q .nil))) (bT Q) (TC _ Q (λhneg=>?_) (λhneg=>?_)))))))))))))
 ·exact absurd (of_decide_eq_true hneg) (by omega)
 refine TS (WT (bP [0,1] (bB Q (bB Q .nil)) (bT Q) (TQ (RS (bY _ Q (eD (.inl Q) Q) (bY _ Q (eD (.inl Q) Q) (bY _ Q (qDR Q wV Q) (bY _ Q (eD (.inl Q) Q) (bY _ Q (mS Q wV Q) ?_)))))))));refine bY _ Q (sP (r:=0) Q Q Q Q Q (by first|omega|(constructor<;>omega))) ?_;refine bY _ Q (sP (r:=(n:Int)) Q Q Q Q (by omega) (by first|omega|(constructor<;>omega))) ?_;refine bY _ Q (eD (.inr Q) Q) (TN (bP [0,1] (bB Q (bB Q .nil)) (bT Q) (RS (bY _ Q (eD (.inl Q) Q) (bY _ Q (mT Q Q Q Q) (TN (bP [0,1,16] (bB Q (bB Q (bB Q .nil))) (bT Q) (TC _ Q (λhpos=>?_) (λhpos=>?_)))))))))
 ·have hpos:0 < n:=by simpa using hpos
  refine TG (bY _ Q (eD (.inl Q) Q) (bY _ Q (eD (.inl Q) Q) (bY _ Q (qDR Q wV Q) (bY _ Q (qTX Q wV Q Q Q) (bY _ Q (eD (.inl Q) Q) ?_)))));refine qTE (n:=n) Q wV Tryz.underlying3 dE Q Q Q hpos (by decide) (by omega) (by omega) ?_;refine bY _ Q (eD (.inl Q) Q) (bY _ Q (mS Q wV Q) (bY _ Q (qEO 0 1 8 0 n 0 0 Q wV Q Q Q (zQW _) (Nat.zero_le _)) (bY _ Q (gI (.inr Q) Q) (TN (WT (bP [0] (dF Q .nil) (cN Q (bT Q)) (RS (bY _ Q (gI (.inl Q) Q) (bY _ Q (gI (.inr Q) Q) (TN (bP [4] (dF Q .nil) (cN Q (bT Q)) (TR ?_))))))))))));exact⟨_,[0],res Q,by decide,λi hi=>absurd hi (zQV i),Q,Q⟩
 refine qBY 0 3 1 Q (TS (WT (bP [0] (dF Q .nil) (cN Q (bT Q)) (RS (bY _ Q (gI (.inl Q) Q) (bY _ Q (gI (.inr Q) Q) (TN (bP [4] (dF Q .nil) (cN Q (bT Q)) (TR ?_)))))))));exact⟨_,[0],res Q,by decide,λi hi=>absurd hi (zQV i),Q,Q⟩
theorem rU (xss:List (List Int)) (hn:xss.length<=1000) (ht:xss.flatten.length<=1000000000) (mv:Nat->Bool):Ret TP 204 [] mv ([.sl 1 (xss.map λl=>.sl 1 (l.map (D.int .i64)))].map .d) (.msl 0 1 0 xss.flatten.length) [.flat 3 1 (xss.flatten.map (D.int .i64))]:=by
 refine iL (bA Q) func204 Q ntmps204 Q Q (λwX gX=>bP [0] (bB Q .nil) (bT Q) (RS (bY _ Q (eD (.inr Q) Q) (TN (bP [0] (bB Q .nil) (bT Q) (RS (bY _ Q (eD (.inr Q) Q) (TN (bP [0,3] (bB Q (bB Q .nil)) (bT Q) (TQ (RS (bY _ Q (eD (.inl Q) Q) ?_))))))))))));refine bY _ Q (by first|exact qFA Q qIN Q (by first|exact zQC _|rfl)|exact mS Q qIN Q) ?_;refine bY _ Q (eD (.inl Q) Q) (TN (bP [0,3,9,10,11] (bB Q (bB Q (bB Q (bB Q (bB Q .nil))))) (bT Q) (TB ?_)));refine oZ (λi=>([(3,.d (.int .i64 ((eP xss i).length:Int))),(11,.d (.int .i64 ((i:Nat):Int)))])) (λi=>[]) (λi=>i<=xss.length) (λi=>xss.length - i) [3,11] [0,9,10] [] 0 (by decide) (λi hi=>absurd hi (zQV i)) (Nat.zero_le _) (bB Q (bB Q (bB Q .nil))) Q (by rw [oT];rfl) (bT Q) Q ?_;rintro i hok;refine bP [3,11,0,9,10] (bB Q (bB Q (bB Q (bB Q (bB Q .nil))))) (bT Q) (RS (bY _ Q (mT Q Q Q Q) (TN (bP [0,3,9,10,11,12] (bB Q (bB Q (bB Q (bB Q (bB Q (bB Q .nil)))))) (bT Q) (TQ (TC _ Q (λhlt=>?_) (λhlt=>?_)))))))
 ·have hlt:i < xss.length:=by simpa using hlt
  obtain⟨x,hx⟩:∃ x,(xss)[i]?=some x:=⟨_,zQR (by first|exact hlt|omega|(simp;omega))⟩;have hs:=wG hx;have hle:=eM xss (i+1);refine TS (WT (bP [0,3,9,10,11] (bB Q (bB Q (bB Q (bB Q (bB Q .nil))))) (bT Q) (TQ (TB (RS (bY _ Q (vE Q qIN Q Q (qDN hx)) (bY _ Q (zB Q zFG Q Q) (bY _ Q (eD (.inr Q) Q) (TN (bP [0,3,5,9,10,11] (bB Q (bB Q (bB Q (bB Q (bB Q (bB Q .nil)))))) (bT Q) (RS (bY _ Q (eD (.inl Q) Q) (bY _ Q (eD (.inl Q) Q) ?_)))))))))))));refine bY _ Q (by first|exact qFA Q wV Q (by first|exact zQC _|rfl)|exact mS Q wV Q) ?_;refine bY _ Q (sP (r:=((eP xss (i+1)).length:Int)) Q Q Q Q (by rw [hs];simp) (by omega)) ?_;refine bY _ Q (eD (.inr Q) Q) (TN (bP [0,3,9,10,11] (bB Q (bB Q (bB Q (bB Q (bB Q .nil))))) (bT Q) (RS (bY _ Q (eD (.inl Q) Q) (bY _ Q (mT Q Q Q Q) (TN (bP [0,3,9,10,11,20] (bB Q (bB Q (bB Q (bB Q (bB Q (bB Q .nil)))))) (bT Q) (TC _ Q (λhneg=>?_) (λhneg=>?_)))))))))
  ·exact absurd (of_decide_eq_true hneg) (by omega)
  refine TS (WK (WT (bP [0,3,9,10,11] (bB Q (bB Q (bB Q (bB Q (bB Q .nil))))) (bT Q) (TG ?_))));refine bY _ Q (sQ Q Q Q Q (by first|omega|(constructor<;>omega))) ?_;refine bY _ Q (eD (.inl Q) Q) (TN (WT ?_));exact⟨(i+1),[],by decide,(λi hi=>absurd hi (zQV i)),(by omega),(by omega),Q⟩
 have hge:¬ i < xss.length:=by simpa using hlt
 have hi:i=xss.length:=by omega
 refine uD (WX (WX (WH (WT (bP [0,3] (bB Q (bB Q .nil)) (bT Q) (RS (bY _ Q (eD (.inl Q) Q) ?_)))))));refine sY Q Q Q (tX _ (by have:=eM xss i;omega) (λ_=>false)) Q Q ?_;refine bY _ Q (gI (.inr Q) Q) (TN (bP [0,6] (bB Q (dF Q .nil)) (cN Q (bT Q)) (TQ (RS (bY _ Q (eD (.inl Q) Q) ?_)))));refine bY _ Q (by first|exact qFA Q qIN Q (by first|exact zQC _|rfl)|exact mS Q qIN Q) ?_;refine bY _ Q (eD (.inl Q) Q) (TN (bP [6,25,26,27] (dF Q (bB Q (bB Q (bB Q .nil)))) (cN Q (bT Q)) (TB ?_)));refine oZ (λi=>([(6,.msl 0 1 0 (eP xss i).length),(27,.d (.int .i64 ((i:Nat):Int)))])) (λi=>([(0,.flat 3 1 ((eP xss i).map (D.int .i64)))])) (λi=>i<=xss.length) (λi=>xss.length - i) [6,27] [25,26] [0] 0 (by decide) (λi hi=>absurd hi (zQV i)) (Nat.zero_le _) (bB Q (bB Q .nil)) Q (by rw [oT];rfl) (cN Q (bT Q)) (by rw [oT];rfl) ?_;rintro i hok;refine bP [6,27,25,26] (dF Q (bB Q (bB Q (bB Q .nil)))) (cN Q (bT Q)) (RS (bY _ Q (mT Q Q Q Q) (TN (bP [6,25,26,27,28] (dF Q (bB Q (bB Q (bB Q (bB Q .nil))))) (cN Q (bT Q)) (TQ (TC _ Q (λhlt=>?_) (λhlt=>?_)))))))
 ·have hlt:i < xss.length:=by simpa using hlt
  obtain⟨x,hx⟩:∃ x,(xss)[i]?=some x:=⟨_,zQR (by first|exact hlt|omega|(simp;omega))⟩;have hs:=wG hx;have hle:=eM xss (i+1);have hsl:(eP xss (i+1)).length=(eP xss i).length+x.length:=by rw [hs];simp
  refine TS (WT (bP [6,25,26,27] (dF Q (bB Q (bB Q (bB Q .nil)))) (cN Q (bT Q)) (TQ (TB (RS (bY _ Q (vE Q qIN Q Q (qDN hx)) (bY _ Q (zB Q zFG Q Q) (bY _ Q (eD (.inr Q) Q) (TN (bP [6,8,25,26,27] (dF Q (bB Q (bB Q (bB Q (bB Q .nil))))) (cN Q (bT Q)) (TG (bY _ Q (gI (.inl Q) Q) (bY _ Q (eD (.inl Q) Q) ?_)))))))))))));refine qED (m:=(eP xss (i+1)).length) (ds:=x.map (D.int .i64)) (es':=(eP xss (i+1)).map (D.int .i64)) Q wV dE Q Q Q (by simp) (λh=>absurd h (zQV _)) Q ⟨Q,(by first|rfl|(simp [List.map_take,List.map_drop];done)|(rw [<- List.map_drop,List.take_of_length_le (by simp)]))⟩ (by rw [hs];simp) (by simp;omega) (by omega) (by omega) Q Q ?_;refine bY _ Q (gI (.inr Q) Q) (TN (WK (WT (bP [6,25,26,27] (dF Q (bB Q (bB Q (bB Q .nil)))) (cN Q (bT Q)) (TG ?_)))));refine bY _ Q (sQ Q Q Q Q (by first|omega|(constructor<;>omega))) ?_;refine bY _ Q (eD (.inl Q) Q) (TN (WT ?_));exact⟨(i+1),[0],by decide,(λi hi=>absurd hi (zQV i)),(by omega),(by omega),Q⟩
 have hge:¬ i < xss.length:=by simpa using hlt
 have hi:i=xss.length:=by omega
 have hall:=qPA hge;refine uD (WX (WX (WH (WT (bP [6] (dF Q .nil) (cN Q (bT Q)) (RS (bY _ Q (gI (.inl Q) Q) (bY _ Q (gI (.inr Q) Q) (TN (bP [2] (dF Q .nil) (cN Q (bT Q)) (TR ?_)))))))))));rw [hall];exact⟨_,[0],res Q,by decide,λi hi=>absurd hi (zQV i),Q,Q⟩
theorem wO {p0:List (List Int)} {r:List Int} (hm:iG p0=some r):RetN TP 204 [.sl 1 (p0.map (λl=>D.sl 1 (l.map (D.int .i64))))] (.sl 1 (r.map (D.int .i64))):=by
 unfold iG at hm;refine GE hm λg hm=>?_;obtain rfl:=OJ hm;exact .flat (rU p0 g.1 g.2 (λ_=>false)) (by rw [zQC]) (λe he=>by obtain⟨x,_,rfl⟩:=List.mem_map.1 he;rfl)
theorem xO {p0:Al} {p1:Ai} {r:Bool} (hm:eX p0 p1=some r):RetN TP 179 [p0.enc,p1.enc] (.bool (r)):=by
 refine .unit (aK (bA Q) func179 Q ntmps179 Q Q (λwX gX=>?_)) Q;unfold eX at hm;refine WN [0,1] Q Q (aO 1 Q (bQ 0 Q Q Q (bQ 1 Q Q Q (aL 4 Q (aS hm (λx1=>([(26,.d (.bool (x1)))])) (λx1=>[]) [26] [2,3] Q (λz2 hm=>?_) (λx1 hm=>?_))))))
 ·refine aO 5 Q (c_N hm (eF ·) Q Q Q Q λr3 hm=>aG 1 Q (SB TK Q (λq4 hq4=>?_)));cases q4
  ·replace hm:=JB hq4 hm;refine aG 3 Q (SB TK Q (λq5 hq5=>?_));cases q5
   ·replace hm:=eJ hq5 hm;exact aD 9 Q (aT [0,1] hm Q Q)
   replace hm:=eI hq5 hm;exact aG 4 Q (c_N hm (eF ·) Q Q Q Q λr6 hm=>aD 4 Q (aT [0,1] hm Q Q))
  replace hm:=JA hq4 hm;exact aD 13 Q (aT [0,1] hm Q Q)
 refine WN [2,3,26] Q Q (bG hm Q (λh7 hm=>?_) (λh7 hm=>?_))
 ·exact aM 6 Q (aR hm Q)
 refine bN 3 Q ?_;refine cF [(42,.d (.bool (((decide ((p1.path.length:Int) < (1:Int)))||((decide ((12:Int) < (p1.path.length:Int)))||(decide ((p1.Ac.length:Int)=(0:Int))))))))] [42] [2,3] Q ?_ ?_
 ·refine aO 3 Q (SX Q Q (aN TK Q Q Q) (aG 1 Q (SB TK Q (λq8 hq8=>?_))));cases q8
  ·refine aG 2 Q (SX Q Q (aN TK Q Q Q) (aG 2 Q (SB TK Q (λq9 hq9=>?_))));cases q9
   ·refine aG 2 Q (SX Q Q (aN TK Q Q Q) (aD 3 Q ?_));exact⟨[0,1],Q,k0,aV (aH (aI (by first|(simp [hq8,hq9];done)|(simp only [hq8,hq9];simp))) Q) Q⟩
   refine aD 6 Q ?_;exact⟨[0,1],Q,k0,aV (aH (aI (by first|(simp [hq8,hq9];done)|(simp only [hq8,hq9];simp))) Q) Q⟩
  refine aD 12 Q ?_;exact⟨[0,1],Q,k0,aV (aH (aI (by first|(simp [hq8];done)|(simp only [hq8];simp))) Q) Q⟩
 refine WN [2,3,42] Q Q (bG hm Q (λh10 hm=>?_) (λh10 hm=>?_))
 ·exact aM 6 Q (aR hm Q)
 refine aQ 3 Q (s_ala (f:=D.bool) (x:=false) 2 23 Q Q zBG Q Q Q (aL 2 Q (bE hm (λb11=>[]) (λb11=>([(2,.flat 281 1 (b11.map D.bool))])) [] [2,3] Q (λz12 hm hz12=>?_) (λb11 hm=>?_))))
 ·refine aO 5 Q (SX Q Q (cI [.tmp 44,.tmp 46] TK Q Q qXN Q Q Q Q Q) (c_N hm (wO ·) Q Q Q Q λr13 hm=>SX Q Q (aN TK Q Q Q) (aL 4 Q (aW hm (λ(x17,b18)=>([(50,.d (.int .i64 x17))])) (λ(x17,b18)=>([(2,.flat 281 1 (b18.map D.bool))])) [50] [2,3,5,48,49] [0,1,2] Q k0 Q Q Q Q Q (λs z19 hm hz19=>?_)))));obtain⟨x17,b18⟩:=s;refine WN [2,3,5,48,49,50] Q Q (bO 5 Q (bJ hm Q (λh20 hm=>?_) (λh20 hm=>?_)))
  ·refine aQ 5 Q (VE hm λe21 he21 hm=>SX Q Q (bD TK Q Q Q Q he21) (aL 5 Q (aS hm (λx22=>([(63,.d (.bool (x22)))])) (λx22=>[]) [63] [2,3,5,7,48,49,50] Q (λz23 hm=>?_) (λx22 hm=>?_))))
   ·refine aO 4 Q (c_N hm (eF ·) Q Q Q Q λr24 hm=>aG 1 Q (SB TK Q (λq25 hq25=>?_)));cases q25
    ·replace hm:=JB hq25 hm;exact aG 1 Q (GE hm λg27 hm=>VE hm λe26 he26 hm=>SX Q Q (zEW Q qUO Q Q he26 g27) (SX Q Q (oX TK Q Q Q Q he26.2 Q) (aD 2 Q (aT [0,1,2] hm Q Q))))
    replace hm:=JA hq25 hm;exact aD 5 Q (aT [0,1,2] hm Q Q)
   refine WN [2,3,5,7,48,49,50,63] Q Q (bG hm Q (λh28 hm=>?_) (λh28 hm=>?_))
   ·refine aM 8 Q (IE hm λv29 hm hz=>?_);rw [hz19 _ hz] at hm;refine WR (bC 1 Q (IE hm λv30 hm hz=>?_));rw [hz12 _ hz] at hm;exact WR (aR hm Q)
   exact aQ 4 Q (GE hm λg32 hm=>VE hm λe31 he31 hm=>SX Q Q (zEW Q qUO Q Q he31 g32) (qYC (x':=true) TK Q Q Q Q Q he31.2 Q Q Q (aG 4 Q (GE hm λg33 hm=>SX Q Q (bK Q Q Q Q g33) (aD 2 Q (aX [0,1,2] hm Q Q))))))
  refine aM 2 Q (IE hm λv34 hm hz=>?_);rw [hz19 _ hz] at hm;exact WX (bC 1 Q (aX [0,1,2] hm Q Q))
 refine WN [2,3] Q Q (aS hm (λx35=>([(4,.d (.bool (x35)))])) (λx35=>[]) [4] [] Q (λz36 hm=>?_) (λx35 hm=>?_))
 ·refine aO 5 Q (c_N hm (eF ·) Q Q Q Q λr37 hm=>SB TK Q (λq38 hq38=>?_));cases q38
  ·replace hm:=JB hq38 hm;exact aD 6 Q (aT [0,1,2] hm Q Q)
  replace hm:=JA hq38 hm;exact aD 6 Q (aT [0,1,2] hm Q Q)
 exact WN [4] Q Q (aM 1 Q (aR hm Q))
theorem pD {p0:(List Int)} {p1:Int} {r:Int} (hm:eY p0 p1=some r):RetN TP 143 [.sl 1 (p0.map (D.int .i64)),.int .i64 p1] (.int .i64 r):=by
 refine .unit (aK (bA Q) func143 Q ntmps143 Q Q (λwX gX=>?_)) Q;unfold eY at hm;refine WN [0,1] Q Q (bO 4 Q (bE hm (λ_=>[]) (λ_=>[]) [] [] Q (λz1 hm hz1=>?_) (λj hm=>?_)))
 ·refine aO 2 Q (SX Q Q (aN TK Q Q Q) (aL 4 Q (aW hm (λx3=>([(8,.d (.int .i64 x3))])) (λx3=>[]) [8] [0,1,7] [] Q k0 Q Q Q Q Q (λx3 z4 hm hz4=>WN [0,1,7,8] Q Q (bO 5 Q (bJ hm Q (λh5 hm=>?_) (λh5 hm=>?_)))))))
  ·refine aQ 13 Q (VE hm λe6 he6 hm=>SX Q Q (bD TK Q Q Q Q he6) (aL 4 Q (bJ hm Q (λh7 hm=>?_) (λh7 hm=>?_))))
   ·refine aM 8 Q (IE hm λv8 hm hz=>?_);rw [hz4 _ hz] at hm;refine WR (bC 1 Q (IE hm λv9 hm hz=>?_));rw [hz1 _ hz] at hm;exact WR (aR hm Q)
   exact aQ 4 Q (GE hm λg10 hm=>SX Q Q (bK Q Q Q Q g10) (aD 2 Q (aX [] hm Q Q)))
  refine aM 2 Q (IE hm λv11 hm hz=>?_);rw [hz4 _ hz] at hm;exact WX (bC 1 Q (aX [] hm Q Q))
 exact WN [] Q Q (aM 5 Q (aR hm Q))
theorem jO {p0:Al} {p1:Int} {r:Int} (hm:fR p0 p1=some r):RetN TP 82 [p0.enc,.int .i64 p1] (.int .i64 r):=by
 refine .unit (aK (bA Q) func82 Q ntmps82 Q Q (λwX gX=>?_)) Q;unfold fR at hm;exact WN [0,1] Q Q (aO 1 Q (bQ 0 Q Q Q (aG 7 Q (c_N hm (pD ·) Q Q Q Q λr1 hm=>aD 4 Q (aR hm Q)))))
theorem iD {p0:Al} {p1:(List Aa)} {r:Bool} (hm:cJ p0 p1=some r):RetN TP 180 [p0.enc,.sl 2 (p1.map Aa.enc)] (.bool (r)):=by
 refine .unit (aK (bA Q) func180 Q ntmps180 Q Q (λwX gX=>?_)) Q;unfold cJ at hm;refine WN [0,1] Q Q (aO 1 Q (bQ 0 Q Q Q (aL 3 Q (bE hm (λ_=>[]) (λ_=>[]) [] [] Q (λz1 hm hz1=>?_) (λj hm=>?_)))))
 ·refine aO 2 Q (SX Q Q (aN TK Q Q Q) (aL 4 Q (aW hm (λx3=>([(9,.d (.int .i64 x3))])) (λx3=>[]) [9] [1,2,7,8] [0] Q k0 Q Q Q Q Q (λx3 z4 hm hz4=>WN [1,2,7,8,9] Q Q (bO 5 Q (bJ hm Q (λh5 hm=>?_) (λh5 hm=>?_)))))))
  ·refine aQ 6 Q (VE hm λe6 he6 hm=>SX Q Q (bD TK Q Q Q Q he6) (aG 1 Q (cH 1 Q Q bW Q (aL 5 Q (aS hm (λx7=>([(33,.d (.bool (x7)))])) (λx7=>[]) [33] [1,2,6,7,8,9] Q (λz8 hm=>?_) (λx7 hm=>?_))))))
   ·refine cG follows ?_;iterate 2 (refine DA [0,1] TK Q ?_)
    refine d_b [0,1] TK Q (λq9 hq9=>?_);cases q9
    ·replace hm:=JF hq9 hm;iterate 14 (refine DA [0,1] TK Q ?_)
     refine dR [0,1] hm (jO ·) Q Q Q Q λr10 hm=>?_;iterate 2 (refine DA [0,1] TK Q ?_)
     refine DT ?_ (by kernel_rfl);exact aD 1 Q (aT [0,1] hm Q Q)
    replace hm:=JT hq9 hm;iterate 4 (refine DA [0,1] TK Q ?_)
    refine GE hm λg11 hm=>DX [0,1] Q Q (bK Q Q Q Q g11) (VE hm λe12 he12 hm=>DX [0,1] Q Q (bD TK Q Q Q Q he12) ?_);iterate 4 (refine DA [0,1] TK Q ?_)
    refine d_b [0,1] TK Q (λq13 hq13=>?_);cases q13
    ·replace hm:=JF hq13 hm;iterate 3 (refine DA [0,1] TK Q ?_)
     refine dR [0,1] hm (jO ·) Q Q Q Q λr14 hm=>?_;iterate 2 (refine DA [0,1] TK Q ?_)
     refine DT ?_ (by kernel_rfl);exact aD 1 Q (aT [0,1] hm Q Q)
    replace hm:=JT hq13 hm;iterate 6 (refine DA [0,1] TK Q ?_)
    refine DT ?_ (by kernel_rfl);exact aD 1 Q (aT [0,1] hm Q Q)
   refine WN [1,2,6,7,8,9,33] Q Q (bG hm Q (λh15 hm=>?_) (λh15 hm=>?_))
   ·refine aM 8 Q (IE hm λv16 hm hz=>?_);rw [hz4 _ hz] at hm;refine WR (bC 1 Q (IE hm λv17 hm hz=>?_));rw [hz1 _ hz] at hm;exact WR (aR hm Q)
   refine bN 2 Q (cF [(41,.d (.bool (((!(decide (e6.pos=(1:Int))))&&(!(decide (e6.pos=(2:Int))))))))] [41] [1,2,7,8,9] Q ?_ ?_)
   ·refine aO 4 Q (SB TK Q (λq18 hq18=>?_));cases q18
    ·refine aD 5 Q ?_;exact⟨[0,1],Q,k0,aV (aH (aI (by first|(simp [hq18];done)|(simp only [hq18];simp))) Q) Q⟩
    refine aD 5 Q ?_;exact⟨[0,1],Q,k0,aV (aH (aI (by first|(simp [hq18];done)|(simp only [hq18];simp))) Q) Q⟩
   refine WN [1,2,7,8,9,41] Q Q (bG hm Q (λh19 hm=>?_) (λh19 hm=>?_))
   ·refine aM 7 Q (IE hm λv20 hm hz=>?_);rw [hz4 _ hz] at hm;refine WR (bC 1 Q (IE hm λv21 hm hz=>?_));rw [hz1 _ hz] at hm;exact WR (aR hm Q)
   exact aQ 4 Q (GE hm λg22 hm=>SX Q Q (bK Q Q Q Q g22) (aD 2 Q (aX [0] hm Q Q)))
  refine aM 2 Q (IE hm λv23 hm hz=>?_);rw [hz4 _ hz] at hm;exact WX (bC 1 Q (aX [0] hm Q Q))
 exact WN [] Q Q (aM 5 Q (aR hm Q))
theorem mK {p0:(List Aa)} {p1:(List Aa)} {r:Bool} (hm:dM p0 p1=some r):RetN TP 181 [.sl 2 (p0.map Aa.enc),.sl 2 (p1.map Aa.enc)] (.bool (r)):=by
 refine .unit (aK (bA Q) func181 Q ntmps181 Q Q (λwX gX=>?_)) Q;unfold dM at hm;refine WN [0,1] Q Q (bO 4 Q (bE hm (λ_=>[]) (λ_=>[]) [] [] Q (λz1 hm hz1=>?_) (λj hm=>?_)))
 ·refine aO 2 Q (SX Q Q (aN TK Q Q Q) (aL 4 Q (aW hm (λx3=>([(11,.d (.int .i64 x3))])) (λx3=>[]) [11] [1,9,10] [] Q k0 Q Q Q Q Q (λx3 z4 hm hz4=>WN [1,9,10,11] Q Q (bO 5 Q (bJ hm Q (λh5 hm=>?_) (λh5 hm=>?_)))))))
  ·refine bN 2 Q (bE hm (λ_=>[]) (λ_=>[]) [] [1,9,10,11] Q (λz6 hm hz6=>?_) (λj hm=>?_))
   ·refine aO 2 Q (VE hm λe7 he7 hm=>SX Q Q (bD TK Q Q Q Q he7) (aG 1 Q (cH 0 Q Q bW Q (aG 5 Q (SX Q Q (aN TK Q Q Q) (aL 4 Q (aW hm (λx9=>([(17,.d (.int .i64 x9))])) (λx9=>[]) [17] [1,6,9,10,11,15,16] [0] Q k0 Q Q Q Q Q (λx9 z10 hm hz10=>WN [1,6,9,10,11,15,16,17] Q Q (bO 5 Q (bJ hm Q (λh11 hm=>?_) (λh11 hm=>?_)))))))))))
    ·refine aQ 5 Q (VE hm λe12 he12 hm=>SX Q Q (bD TK Q Q Q Q he12) (aG 1 Q (cH 1 Q Q bW Q (aL 3 Q (cF [(32,.d (.bool (((decide (e7.el=e12.el))&&(!(decide (e7.pos=e12.pos)))))))] [32] [1,6,9,10,11,15,16,17] Q ?_ ?_)))))
     ·refine aO 6 Q (SB TK Q (λq13 hq13=>?_));cases q13
      ·refine aD 7 Q ?_;exact⟨[0,1],Q,k0,aV (aH (aI (by first|(simp [hq13];done)|(simp only [hq13];simp))) Q) Q⟩
      refine aD 7 Q ?_;exact⟨[0,1],Q,k0,aV (aH (aI (by first|(simp [hq13];done)|(simp only [hq13];simp))) Q) Q⟩
     refine WN [1,6,9,10,11,15,16,17,32] Q Q (bG hm Q (λh14 hm=>?_) (λh14 hm=>?_))
     ·refine aM 7 Q (IE hm λv15 hm hz=>?_);rw [hz10 _ hz] at hm;refine WR (bC 2 Q (IE hm λv16 hm hz=>?_));rw [hz6 _ hz] at hm;refine WR (IE hm λv17 hm hz=>?_);rw [hz4 _ hz] at hm;refine WR (bC 1 Q (IE hm λv18 hm hz=>?_));rw [hz1 _ hz] at hm;exact WR (aR hm Q)
     exact aQ 4 Q (GE hm λg19 hm=>SX Q Q (bK Q Q Q Q g19) (aD 2 Q (aX [0] hm Q Q)))
    refine aM 2 Q (IE hm λv20 hm hz=>?_);rw [hz10 _ hz] at hm;exact WX (bC 2 Q (aX [] hm Q Q))
   exact WN [1,9,10,11] Q Q (aQ 1 Q (GE hm λg21 hm=>SX Q Q (bK Q Q Q Q g21) (aD 2 Q (aX [] hm Q Q))))
  refine aM 2 Q (IE hm λv22 hm hz=>?_);rw [hz4 _ hz] at hm;exact WX (bC 1 Q (aX [] hm Q Q))
 exact WN [] Q Q (aM 5 Q (aR hm Q))
theorem qGS {p0:Al} {r:Int} (hm:mW p0=some r):RetN TP 135 [p0.enc] (.int .i64 r):=by
 refine .unit (aK (bA Q) func135 Q ntmps135 Q Q (λwX gX=>?_)) Q;unfold mW at hm;refine WN [0] Q Q (aO 1 Q (bQ 0 Q Q Q (aL 4 Q (aS hm (λx1=>([(33,.d (.bool (x1)))])) (λx1=>[]) [33] [1] Q (λz2 hm=>?_) (λx1 hm=>?_)))))
 ·refine aO 3 Q (SX Q Q (aN TK Q Q Q) (aG 1 Q (SB TK Q (λq3 hq3=>?_))));cases q3
  ·replace hm:=JF hq3 hm;refine aG 2 Q (SX Q Q (aN TK Q Q Q) (aG 2 Q (SB TK Q (λq4 hq4=>?_))));cases q4
   ·replace hm:=JF hq4 hm;refine aG 2 Q (c_N hm (eF ·) Q Q Q Q λr5 hm=>aG 2 Q (SB TK Q (λq6 hq6=>?_)));cases q6
    ·replace hm:=JB hq6 hm;exact aG 2 Q (c_N hm (eF ·) Q Q Q Q λr7 hm=>aD 3 Q (aT [0] hm Q Q))
    replace hm:=JA hq6 hm;exact aD 6 Q (aT [0] hm Q Q)
   replace hm:=JT hq4 hm;exact aD 12 Q (aT [0] hm Q Q)
  replace hm:=JT hq3 hm;exact aD 18 Q (aT [0] hm Q Q)
 refine WN [1,33] Q Q (bG hm Q (λh8 hm=>?_) (λh8 hm=>?_))
 ·exact aM 6 Q (aR hm Q)
 refine aQ 5 Q (c_N hm (wM ·) Q Q Q Q λr9 hm=>aL 3 Q (bG hm Q (λh10 hm=>?_) (λh10 hm=>?_)))
 ·exact aM 6 Q (aR hm Q)
 refine bN 2 Q (bE hm (λ_=>[]) (λ_=>[]) [] [1] Q (λz11 hm hz11=>?_) (λj hm=>?_))
 ·refine aO 3 Q (SX Q Q (aN TK Q Q Q) (aL 4 Q (aW hm (λx13=>([(40,.d (.int .i64 x13))])) (λx13=>[]) [40] [1,38,39] [0] Q k0 Q Q Q Q Q (λx13 z14 hm hz14=>WN [1,38,39,40] Q Q (bO 5 Q (bJ hm Q (λh15 hm=>?_) (λh15 hm=>?_)))))))
  ·refine aQ 5 Q (VE hm λe16 he16 hm=>SX Q Q (bD TK Q Q Q Q he16) (aG 1 Q (cH 1 Q Q dS Q (cR 1 [none,none,none,some 3,some 2,some 1,none,none,some 3,some 2,some 1,some 2,some 1,some 2] Q Q (aG 6 Q (c_N hm (xO ·) Q Q Q Q λr17 hm=>aL 3 Q (bG hm Q (λh18 hm=>?_) (λh18 hm=>?_))))))))
   ·refine aM 7 Q (IE hm λv19 hm hz=>?_);rw [hz14 _ hz] at hm;refine WR (bC 1 Q (IE hm λv20 hm hz=>?_));rw [hz11 _ hz] at hm;exact WR (aR hm Q)
   exact aQ 4 Q (GE hm λg21 hm=>SX Q Q (bK Q Q Q Q g21) (aD 2 Q (aX [0] hm Q Q)))
  refine aM 2 Q (IE hm λv22 hm hz=>?_);rw [hz14 _ hz] at hm;exact WX (bC 1 Q (aX [0] hm Q Q))
 refine WN [1] Q Q (bE hm (λ_=>[]) (λ_=>[]) [] [1] Q (λz23 hm hz23=>?_) (λj hm=>?_))
 ·refine aO 3 Q (SX Q Q (aN TK Q Q Q) (aL 4 Q (aW hm (λx25=>([(52,.d (.int .i64 x25))])) (λx25=>[]) [52] [1,50,51] [0] Q k0 Q Q Q Q Q (λx25 z26 hm hz26=>WN [1,50,51,52] Q Q (bO 5 Q (bJ hm Q (λh27 hm=>?_) (λh27 hm=>?_)))))))
  ·refine aQ 5 Q (VE hm λe28 he28 hm=>SX Q Q (bD TK Q Q Q Q he28) (aG 1 Q (cH 1 Q Q dS Q (cR 1 [none,none,none,some 3,some 2,some 1,none,none,some 3,some 2,some 1,some 2,some 1,some 2] Q Q (aL 3 Q (aS hm (λx29=>([(74,.d (.bool (x29)))])) (λx29=>[]) [74] [1,50,51,52] Q (λz30 hm=>?_) (λx29 hm=>?_)))))))
   ·refine aO 4 Q (c_N hm (iD ·) Q Q Q Q λr31 hm=>aG 1 Q (SB TK Q (λq32 hq32=>?_)));cases q32
    ·replace hm:=JB hq32 hm;refine aG 3 Q (c_N hm (iD ·) Q Q Q Q λr33 hm=>aG 2 Q (SB TK Q (λq34 hq34=>?_)));cases q34
     ·replace hm:=JB hq34 hm;exact aG 3 Q (c_N hm (iD ·) Q Q Q Q λr35 hm=>aD 3 Q (aT [0,1] hm Q Q))
     replace hm:=JA hq34 hm;exact aD 7 Q (aT [0,1] hm Q Q)
    replace hm:=JA hq32 hm;exact aD 14 Q (aT [0,1] hm Q Q)
   refine WN [1,50,51,52,74] Q Q (bG hm Q (λh36 hm=>?_) (λh36 hm=>?_))
   ·refine aM 7 Q (IE hm λv37 hm hz=>?_);rw [hz26 _ hz] at hm;refine WR (bC 1 Q (IE hm λv38 hm hz=>?_));rw [hz23 _ hz] at hm;exact WR (aR hm Q)
   exact aQ 4 Q (GE hm λg39 hm=>SX Q Q (bK Q Q Q Q g39) (aD 2 Q (aX [0] hm Q Q)))
  refine aM 2 Q (IE hm λv40 hm hz=>?_);rw [hz26 _ hz] at hm;exact WX (bC 1 Q (aX [0] hm Q Q))
 refine WN [1] Q Q (bE hm (λ_=>[]) (λ_=>[]) [] [1] Q (λz41 hm hz41=>?_) (λj hm=>?_))
 ·refine aO 3 Q (SX Q Q (aN TK Q Q Q) (aL 4 Q (aW hm (λx43=>([(79,.d (.int .i64 x43))])) (λx43=>[]) [79] [1,77,78] [0] Q k0 Q Q Q Q Q (λx43 z44 hm hz44=>WN [1,77,78,79] Q Q (bO 5 Q (bJ hm Q (λh45 hm=>?_) (λh45 hm=>?_)))))))
  ·refine aQ 5 Q (VE hm λe46 he46 hm=>SX Q Q (bD TK Q Q Q Q he46) (aG 1 Q (cH 1 Q Q dS Q (cR 1 [none,none,none,some 3,some 2,some 1,none,none,some 3,some 2,some 1,some 2,some 1,some 2] Q Q (aL 3 Q (aS hm (λx47=>([(104,.d (.bool (x47)))])) (λx47=>[]) [104] [1,77,78,79] Q (λz48 hm=>?_) (λx47 hm=>?_)))))))
   ·refine aO 5 Q (c_N hm (mK ·) Q Q Q Q λr49 hm=>aG 1 Q (SB TK Q (λq50 hq50=>?_)));cases q50
    ·replace hm:=JB hq50 hm;refine aG 4 Q (c_N hm (mK ·) Q Q Q Q λr51 hm=>aG 2 Q (SB TK Q (λq52 hq52=>?_)));cases q52
     ·replace hm:=JB hq52 hm;exact aG 4 Q (c_N hm (mK ·) Q Q Q Q λr53 hm=>aD 3 Q (aT [0,1] hm Q Q))
     replace hm:=JA hq52 hm;exact aD 8 Q (aT [0,1] hm Q Q)
    replace hm:=JA hq50 hm;exact aD 16 Q (aT [0,1] hm Q Q)
   refine WN [1,77,78,79,104] Q Q (bG hm Q (λh54 hm=>?_) (λh54 hm=>?_))
   ·refine aM 7 Q (IE hm λv55 hm hz=>?_);rw [hz44 _ hz] at hm;refine WR (bC 1 Q (IE hm λv56 hm hz=>?_));rw [hz41 _ hz] at hm;exact WR (aR hm Q)
   exact aQ 4 Q (GE hm λg57 hm=>SX Q Q (bK Q Q Q Q g57) (aD 2 Q (aX [0] hm Q Q)))
  refine aM 2 Q (IE hm λv58 hm hz=>?_);rw [hz44 _ hz] at hm;exact WX (bC 1 Q (aX [0] hm Q Q))
 refine WN [1] Q Q (aQ 1 Q (vY 9 4 Q (qGU 106 (.mmap 1) Q Q (aL 3 Q (bE hm (λm59=>[]) (λm59=>([(1,.map 9 4 (dC D.str D.bool m59))])) [] [] Q (λz60 hm hz60=>?_) (λm59 hm=>?_))))))
 ·refine aO 3 Q (SX Q Q (aN TK Q Q Q) (aL 4 Q (aW hm (λ(x64,b65)=>([(110,.d (.int .i64 x64))])) (λ(x64,b65)=>([(1,.map 9 4 (dC D.str D.bool b65))])) [110] [9,108,109] [0,1] Q k0 Q Q Q Q Q (λs z66 hm hz66=>?_))));obtain⟨x64,b65⟩:=s;refine WN [9,108,109,110] Q Q (bO 5 Q (bJ hm Q (λh67 hm=>?_) (λh67 hm=>?_)))
  ·refine aQ 5 Q (VE hm λe68 he68 hm=>SX Q Q (bD TK Q Q Q Q he68) (aG 1 Q (cH 2 Q Q dS Q (cR 2 [none,none,none,some 3,some 2,some 1,none,none,some 3,some 2,some 1,some 2,some 1,some 2] Q Q (aG 8 Q (GE hm λg69 hm=>SX Q Q (vT qOQ D.bool _ _ false Q qZI qME Q Q Q Q g69) (aL 2 Q (bG hm Q (λh70 hm=>?_) (λh70 hm=>?_)))))))))
   ·refine aM 8 Q (IE hm λv71 hm hz=>?_);rw [hz66 _ hz] at hm;refine WR (bC 1 Q (IE hm λv72 hm hz=>?_));rw [hz60 _ hz] at hm;exact WR (aR hm Q)
   exact aQ 6 Q (GE hm λg73 hm=>qJT qOQ D.bool qZI Q Q Q Q g73 (aG 4 Q (GE hm λg74 hm=>SX Q Q (bK Q Q Q Q g74) (aD 2 Q (aX [0,1] hm Q Q)))))
  refine aM 2 Q (IE hm λv75 hm hz=>?_);rw [hz66 _ hz] at hm;exact WX (bC 1 Q (aX [0,1] hm Q Q))
 exact WN [] Q Q (aM 5 Q (aR hm Q))
theorem zA {p0:Ak} {p1:Int} {r:Bool} (hm:hP p0 p1=some r):RetN TP 136 [p0.enc,.int .i64 p1] (.bool (r)):=by
 refine .unit (aK (bA Q) func136 Q ntmps136 Q Q (λwX gX=>?_)) Q;unfold hP at hm;refine WN [0,1] Q Q (aO 1 Q (bQ 0 Q Q Q (aL 10 Q (aS hm (λx1=>([(7,.d (.bool (x1)))])) (λx1=>[]) [7] [1,2,6] Q (λz2 hm=>?_) (λx1 hm=>?_)))))
 ·refine bO 5 Q (bJ hm Q (λh3 hm=>?_) (λh3 hm=>?_))
  ·exact aM 1 Q (aT [0] hm Q Q)
  refine bN 5 Q (bJ hm Q (λh4 hm=>?_) (λh4 hm=>?_))
  ·exact aM 1 Q (aT [0] hm Q Q)
  exact aM 4 Q (aT [0] hm Q Q)
 refine WN [1,2,6,7] Q Q (bG hm Q (λh5 hm=>?_) (λh5 hm=>?_))
 ·refine cF [(4,.d (.bool (((decide (p0.rel=(0:Int)))&&(decide (p0.timer=(0:Int)))))))] [4] [] Q ?_ ?_
  ·refine aO 4 Q (SB TK Q (λq6 hq6=>?_));cases q6
   ·refine aD 6 Q ?_;exact⟨[0],Q,k0,aV (aH (aI (by first|(simp [hq6];done)|(simp only [hq6];simp))) Q) Q⟩
   refine aD 6 Q ?_;exact⟨[0],Q,k0,aV (aH (aI (by first|(simp [hq6];done)|(simp only [hq6];simp))) Q) Q⟩
  exact WN [4] Q Q (aM 3 Q (aR hm Q))
 refine bN 5 Q (bJ hm Q (λh7 hm=>?_) (λh7 hm=>?_))
 ·refine bN 1 Q ?_;refine cF [(29,.d (.bool (((decide (p0.rel < (0:Int)))||(decide (p1<=p0.rel))))))] [29] [1,2] Q ?_ ?_
  ·refine aO 4 Q (SB TK Q (λq8 hq8=>?_));cases q8
   ·refine aD 6 Q ?_;exact⟨[0],Q,k0,aV (aH (aI (by first|(simp [hq8];done)|(simp only [hq8];simp))) Q) Q⟩
   refine aD 6 Q ?_;exact⟨[0],Q,k0,aV (aH (aI (by first|(simp [hq8];done)|(simp only [hq8];simp))) Q) Q⟩
  refine WN [1,2,29] Q Q (bG hm Q (λh9 hm=>?_) (λh9 hm=>?_))
  ·exact aM 8 Q (aR hm Q)
  refine bN 2 Q (aS hm (λx10=>([(4,.d (.bool (x10)))])) (λx10=>[]) [4] [] Q (λz11 hm=>?_) (λx10 hm=>?_))
  ·refine aO 4 Q (SB TK Q (λq12 hq12=>?_));cases q12
   ·replace hm:=JF hq12 hm;refine aG 3 Q (GE hm λg13 hm=>SX Q Q (bK Q Q Q Q g13) (aG 1 Q (SB TK Q (λq14 hq14=>?_))));cases q14
    ·replace hm:=JF hq14 hm;exact aD 12 Q (aT [0] hm Q Q)
    replace hm:=JT hq14 hm;refine aG 4 Q (SB TK Q (λq15 hq15=>?_));cases q15
    ·replace hm:=JF hq15 hm;exact aD 7 Q (aT [0] hm Q Q)
    replace hm:=JT hq15 hm;exact aD 7 Q (aT [0] hm Q Q)
   replace hm:=JT hq12 hm;exact aD 18 Q (aT [0] hm Q Q)
  exact WN [4] Q Q (aM 3 Q (aR hm Q))
 refine bN 5 Q (bJ hm Q (λh16 hm=>?_) (λh16 hm=>?_))
 ·refine cF [(4,.d (.bool (((decide ((0:Int)<=p0.rel))&&((decide (p0.rel < p1))&&((decide ((0:Int)<=p0.timer))&&(decide (p0.timer < (12:Int)))))))))] [4] [] Q ?_ ?_
  ·refine aO 4 Q (SB TK Q (λq17 hq17=>?_));cases q17
   ·refine aD 17 Q ?_;exact⟨[0],Q,k0,aV (aH (aI (by first|(simp [hq17];done)|(simp only [hq17];simp))) Q) Q⟩
   refine aG 5 Q (SB TK Q (λq18 hq18=>?_));cases q18
   ·refine aD 11 Q ?_;exact⟨[0],Q,k0,aV (aH (aI (by first|(simp [hq17,hq18];done)|(simp only [hq17,hq18];simp))) Q) Q⟩
   refine aG 4 Q (SB TK Q (λq19 hq19=>?_));cases q19
   ·refine aD 6 Q ?_;exact⟨[0],Q,k0,aV (aH (aI (by first|(simp [hq17,hq18,hq19];done)|(simp only [hq17,hq18,hq19];simp))) Q) Q⟩
   refine aD 6 Q ?_;exact⟨[0],Q,k0,aV (aH (aI (by first|(simp [hq17,hq18,hq19];done)|(simp only [hq17,hq18,hq19];simp))) Q) Q⟩
  exact WN [4] Q Q (aM 3 Q (aR hm Q))
 exact aM 8 Q (aR hm Q)
theorem qLF {p0:Al} {p1:Az} {r:Bool} (hm:qA p0 p1=some r):RetN TP 78 [p0.enc,p1.enc] (.bool (r)):=by
 refine .unit (aK (bA Q) func78 Q ntmps78 Q Q (λwX gX=>?_)) Q;unfold qA at hm;refine WN [0,1] Q Q (aO 1 Q (bQ 0 Q Q Q (bQ 1 Q Q Q (aL 4 Q (aS hm (λx1=>([(29,.d (.bool (x1)))])) (λx1=>[]) [29] [2,3] Q (λz2 hm=>?_) (λx1 hm=>?_))))))
 ·refine aO 2 Q (c_N hm (qGS ·) Q Q Q Q λr3 hm=>aG 1 Q (SB TK Q (λq4 hq4=>?_)));cases q4
  ·replace hm:=eJ hq4 hm;refine aG 2 Q (SX Q Q (aN TK Q Q Q) (aG 2 Q (SX Q Q (aN TK Q Q Q) (aG 2 Q (SB TK Q (λq5 hq5=>?_))))));cases q5
   ·replace hm:=eJ hq5 hm;exact aG 2 Q (SX Q Q (aN TK Q Q Q) (aG 2 Q (SX Q Q (aN TK Q Q Q) (aD 3 Q (aT [0,1] hm Q Q)))))
   replace hm:=eI hq5 hm;exact aD 9 Q (aT [0,1] hm Q Q)
  replace hm:=eI hq4 hm;exact aD 18 Q (aT [0,1] hm Q Q)
 refine WN [2,3,29] Q Q (bG hm Q (λh6 hm=>?_) (λh6 hm=>?_))
 ·exact aM 6 Q (aR hm Q)
 refine bN 2 Q (bE hm (λ_=>[]) (λ_=>[]) [] [3] Q (λz7 hm hz7=>?_) (λj hm=>?_))
 ·refine aO 3 Q (SX Q Q (aN TK Q Q Q) (aL 4 Q (aW hm (λx9=>([(33,.d (.int .i64 x9))])) (λx9=>[]) [33] [2,3,31,32] [0,1] Q k0 Q Q Q Q Q (λx9 z10 hm hz10=>WN [2,3,31,32,33] Q Q (bO 5 Q (bJ hm Q (λh11 hm=>?_) (λh11 hm=>?_)))))))
  ·refine aQ 6 Q (VE hm λe12 he12 hm=>SX Q Q (bD TK Q Q Q Q he12) (aG 1 Q (cH 2 Q Q qSW Q (aL 4 Q (bI follows ?_)))));iterate 4 (refine DA [0,1,2] TK Q ?_)
   refine VE hm λe13 he13 hm=>DX [0,1,2] Q Q (bD TK Q Q Q Q he13) ?_;iterate 2 (refine DA [0,1,2] TK Q ?_)
   refine DX [0,1,2] Q Q (aN TK Q Q Q) (dR [0,1,2] hm (zA ·) Q Q Q Q λr14 hm=>DA [0,1,2] TK Q ?_);refine DT ?_ (by kernel_rfl);refine aL 2 Q (WN [2,3,31,32,33,47] Q Q (bG hm Q (λh15 hm=>?_) (λh15 hm=>?_)))
   ·refine aM 7 Q (IE hm λv16 hm hz=>?_);rw [hz10 _ hz] at hm;refine WR (bC 1 Q (IE hm λv17 hm hz=>?_));rw [hz7 _ hz] at hm;exact WR (aR hm Q)
   exact aQ 4 Q (GE hm λg18 hm=>SX Q Q (bK Q Q Q Q g18) (aD 2 Q (aX [0,1] hm Q Q)))
  refine aM 2 Q (IE hm λv19 hm hz=>?_);rw [hz10 _ hz] at hm;exact WX (bC 1 Q (aX [0,1] hm Q Q))
 refine WN [3] Q Q (bE hm (λ_=>[]) (λ_=>[]) [] [] Q (λz20 hm hz20=>?_) (λj hm=>?_))
 ·refine aO 3 Q (SX Q Q (aN TK Q Q Q) (aL 4 Q (aW hm (λx22=>([(52,.d (.int .i64 x22))])) (λx22=>[]) [52] [50,51] [0,1] Q k0 Q Q Q Q Q (λx22 z23 hm hz23=>WN [50,51,52] Q Q (bO 5 Q (bJ hm Q (λh24 hm=>?_) (λh24 hm=>?_)))))))
  ·refine aQ 5 Q (VE hm λe25 he25 hm=>SX Q Q (bD TK Q Q Q Q he25) (aL 4 Q (cF [(61,.d (.bool (((!(decide (e25=(1:Int))))&&(!(decide (e25=(2:Int))))))))] [61] [50,51,52] Q ?_ ?_)))
   ·refine aO 3 Q (SB TK Q (λq26 hq26=>?_));cases q26
    ·refine aD 4 Q ?_;exact⟨[0,1],Q,k0,aV (aH (aI (by first|(simp [hq26];done)|(simp only [hq26];simp))) Q) Q⟩
    refine aD 4 Q ?_;exact⟨[0,1],Q,k0,aV (aH (aI (by first|(simp [hq26];done)|(simp only [hq26];simp))) Q) Q⟩
   refine WN [50,51,52,61] Q Q (bG hm Q (λh27 hm=>?_) (λh27 hm=>?_))
   ·refine aM 7 Q (IE hm λv28 hm hz=>?_);rw [hz23 _ hz] at hm;refine WR (bC 1 Q (IE hm λv29 hm hz=>?_));rw [hz20 _ hz] at hm;exact WR (aR hm Q)
   exact aQ 4 Q (GE hm λg30 hm=>SX Q Q (bK Q Q Q Q g30) (aD 2 Q (aX [0,1] hm Q Q)))
  refine aM 2 Q (IE hm λv31 hm hz=>?_);rw [hz23 _ hz] at hm;exact WX (bC 1 Q (aX [0,1] hm Q Q))
 exact WN [] Q Q (aM 5 Q (aR hm Q))
theorem qLD {p0:Ai} {p1:Ak} {r:(List Int)} (hm:pY p0 p1=some r):RetD TP 137 [p0.enc,p1.enc] (.sl 1 (r.map (D.int .i64))):=by
 refine .of (mv:=λ_=>false) (aK (bA Q) func137 Q ntmps137 Q Q (λwX gX=>?_));unfold pY at hm;refine WN [0,1] Q Q (aO 1 Q (bQ 0 Q Q Q (bQ 1 Q Q Q (aL 10 Q (bJ hm Q (λh1 hm=>?_) (λh1 hm=>?_))))))
 ·refine bN 4 Q (vP 4 [some 1] Q (aM 2 Q ?_));obtain rfl:=OJ hm;exact EndsS.one _ Q (.d _) (.refl _)
 refine aQ 7 Q (GE hm λg2 hm=>SX Q Q (yE TK Q Q Q Q Q g2) (c_D hm (pE ·) Q Q Q Q λr3 hm=>aD 4 Q ?_));obtain rfl:=OJ hm;exact EndsS.one _ Q (.d _) (.refl _)
theorem qLE {p0:Ai} {p1:Ak} {r:(List Int)} (hm:pZ p0 p1=some r):RetD TP 138 [p0.enc,p1.enc] (.sl 1 (r.map (D.int .i64))):=by
 refine .of (mv:=λ_=>false) (aK (bA Q) func138 Q ntmps138 Q Q (λwX gX=>?_));unfold pZ at hm;refine WN [0,1] Q Q (aO 1 Q (bQ 0 Q Q Q (bQ 1 Q Q Q (aL 10 Q (bJ hm Q (λh1 hm=>?_) (λh1 hm=>?_))))))
 ·refine bN 4 Q (vP 4 [some 1] Q (aM 2 Q ?_));obtain rfl:=OJ hm;exact EndsS.one _ Q (.d _) (.refl _)
 refine aQ 5 Q (c_D hm (pE ·) Q Q Q Q λr2 hm=>aD 4 Q ?_);obtain rfl:=OJ hm;exact EndsS.one _ Q (.d _) (.refl _)
theorem qEY {p0:Ai} {p1:Ak} {r:(List Ap)} (hm:lP p0 p1=some r):RetD TP 79 [p0.enc,p1.enc] (.sl 2 (r.map Ap.enc)):=by
 refine .of (mv:=λ_=>false) (aK (bA Q) func79 Q ntmps79 Q Q (λwX gX=>?_));unfold lP at hm;refine WN [0,1] Q Q (aO 1 Q (bQ 0 Q Q Q (bQ 1 Q Q Q (aG 4 Q (cS (f:=Ap.enc) 2 224 2 Q Q Q (aL 2 Q (aS hm (λb1=>([(5,.msl 2 2 0 b1.length)])) (λb1=>([(2,.flat 224 2 (b1.map Ap.enc))])) [5] [2,3] Q (λz2 hm=>?_) (λb1 hm=>?_))))))))
 ·refine aO 3 Q (c_D hm (qLD ·) Q Q Q Q λr3 hm=>SX Q Q (aN TK Q Q Q) (aL 4 Q (aW hm (λ(x7,b8)=>([(5,.msl 2 2 0 b8.length),(14,.d (.int .i64 x7))])) (λ(x7,b8)=>([(2,.flat 224 2 (b8.map Ap.enc))])) [5,14] [2,3,12,13] [0,1,2] Q k0 Q Q Q Q Q (λs z9 hm hz9=>?_))));obtain⟨x7,b8⟩:=s;refine WN [2,3,5,12,13,14] Q Q (bO 5 Q (bJ hm Q (λh10 hm=>?_) (λh10 hm=>?_)))
  ·exact aQ 5 Q (VE hm λe11 he11 hm=>SX Q Q (bD TK Q Q Q Q he11) (aG 7 Q (SX Q Q (qLX Q qKR nZ Q Q Q Q) (SX Q Q (cI [.tmp 20] TK Q Q nZ Q Q Q Q Q) (GE hm λg12 hm=>cK (f:=Ap.enc) ([(⟨e11,(0:Int)⟩:Ap)]:List Ap) TK Q Q nZ Q Q Q Q Q (λh=>absurd h (zQV _)) Q cE g12 Q Q (aG 5 Q (GE hm λg13 hm=>SX Q Q (bK Q Q Q Q g13) (aD 2 Q (aX [0,1,2] hm Q Q)))))))))
  refine aM 2 Q (IE hm λv14 hm hz=>?_);rw [hz9 _ hz] at hm;exact WX (bC 1 Q (aT [0,1,2] hm Q Q))
 refine WN [2,3,5] Q Q (aS hm (λb15=>([(5,.msl 2 2 0 b15.length)])) (λb15=>([(2,.flat 224 2 (b15.map Ap.enc))])) [5] [] Q (λz16 hm=>?_) (λb15 hm=>?_))
 ·refine aO 3 Q (c_D hm (qLE ·) Q Q Q Q λr17 hm=>SX Q Q (aN TK Q Q Q) (aL 4 Q (aW hm (λ(x21,b22)=>([(5,.msl 2 2 0 b22.length),(28,.d (.int .i64 x21))])) (λ(x21,b22)=>([(2,.flat 224 2 (b22.map Ap.enc))])) [5,28] [26,27] [0,1,2] Q k0 Q Q Q Q Q (λs z23 hm hz23=>?_))));obtain⟨x21,b22⟩:=s;refine WN [5,26,27,28] Q Q (bO 5 Q (bJ hm Q (λh24 hm=>?_) (λh24 hm=>?_)))
  ·exact aQ 5 Q (VE hm λe25 he25 hm=>SX Q Q (bD TK Q Q Q Q he25) (aG 7 Q (SX Q Q (qLX Q qKR nZ Q Q Q Q) (SX Q Q (cI [.tmp 34] TK Q Q nZ Q Q Q Q Q) (GE hm λg26 hm=>cK (f:=Ap.enc) ([(⟨e25,(1:Int)⟩:Ap)]:List Ap) TK Q Q nZ Q Q Q Q Q (λh=>absurd h (zQV _)) Q cE g26 Q Q (aG 5 Q (GE hm λg27 hm=>SX Q Q (bK Q Q Q Q g27) (aD 2 Q (aX [0,1,2] hm Q Q)))))))))
  refine aM 2 Q (IE hm λv28 hm hz=>?_);rw [hz23 _ hz] at hm;exact WX (bC 1 Q (aT [0,1,2] hm Q Q))
 refine WN [5] Q Q (aM 6 Q ?_);obtain rfl:=OJ hm;exact EndsS.one _ Q (bS Q) (.refl _)
theorem qE {p0:Ai} {p1:Ai} {r:Bool} (hm:gL p0 p1=some r):RetN TP 139 [p0.enc,p1.enc] (.bool (r)):=by
 refine .unit (aK (bA Q) func139 Q ntmps139 Q Q (λwX gX=>?_)) Q;unfold gL at hm;refine WN [0,1] Q Q (aO 1 Q (bQ 0 Q Q Q (bQ 1 Q Q Q (aL 3 Q (cF [(4,.d (.bool (((decide ((0:Int)<=p0.exit))&&(decide (p1.entry=p0.exit))))))] [4] [] Q ?_ ?_)))))
 ·refine aO 4 Q (SB TK Q (λq1 hq1=>?_));cases q1
  ·refine aD 8 Q ?_;exact⟨[0,1],Q,k0,aV (aH (aI (by first|(simp [hq1];done)|(simp only [hq1];simp))) Q) Q⟩
  refine aD 8 Q ?_;exact⟨[0,1],Q,k0,aV (aH (aI (by first|(simp [hq1];done)|(simp only [hq1];simp))) Q) Q⟩
 exact WN [4] Q Q (aM 1 Q (aR hm Q))
theorem qCJ {p0:(List Ap)} {p1:Int} {p2:Int} {r:Bool} (hm:oS p0 p1 p2=some r):RetN TP 140 [.sl 2 (p0.map Ap.enc),.int .i64 p1,.int .i64 p2] (.bool (r)):=by
 refine .unit (aK (bA Q) func140 Q ntmps140 Q Q (λwX gX=>?_)) Q;unfold oS at hm;refine WN [0,1,2] Q Q (bO 4 Q (bE hm (λ_=>[]) (λ_=>[]) [] [] Q (λz1 hm hz1=>?_) (λj hm=>?_)))
 ·refine aO 2 Q (SX Q Q (aN TK Q Q Q) (aL 4 Q (aW hm (λx3=>([(11,.d (.int .i64 x3))])) (λx3=>[]) [11] [1,2,9,10] [] Q k0 Q Q Q Q Q (λx3 z4 hm hz4=>WN [1,2,9,10,11] Q Q (bO 5 Q (bJ hm Q (λh5 hm=>?_) (λh5 hm=>?_)))))))
  ·refine aQ 5 Q (VE hm λe6 he6 hm=>SX Q Q (bD TK Q Q Q Q he6) (aG 1 Q (cH 0 Q Q nZ Q (aG 7 Q (SX Q Q (qLX Q qKR nZ Q Q Q Q) (GE hm λg7 hm=>SX Q Q (qXJ Q Q Q g7.1 g7.2) (aL 2 Q (bJ hm Q (λh9 hm=>?_) (λh9 hm=>?_)))))))))
   ·refine aM 7 Q (IE hm λv10 hm hz=>?_);rw [hz4 _ hz] at hm;refine WR (bC 1 Q (IE hm λv11 hm hz=>?_));rw [hz1 _ hz] at hm;exact WR (aR hm Q)
   exact aQ 4 Q (GE hm λg12 hm=>SX Q Q (bK Q Q Q Q g12) (aD 2 Q (aX [] hm Q Q)))
  refine aM 2 Q (IE hm λv13 hm hz=>?_);rw [hz4 _ hz] at hm;exact WX (bC 1 Q (aX [] hm Q Q))
 exact WN [] Q Q (aM 5 Q (aR hm Q))
theorem qHZ {p0:Ai} {p1:Ai} {p2:(List Ap)} {p3:(List Ap)} {r:Bool} (hm:kV p0 p1 p2 p3=some r):RetN TP 80 [p0.enc,p1.enc,.sl 2 (p2.map Ap.enc),.sl 2 (p3.map Ap.enc)] (.bool (r)):=by
 refine .unit (aK (bA Q) func80 Q ntmps80 Q Q (λwX gX=>?_)) Q;unfold kV at hm;refine WN [0,1,2,3] Q Q (aO 1 Q (bQ 0 Q Q Q (bQ 1 Q Q Q (aL 3 Q (bI follows ?_)))));iterate 2 (refine DA [0,1] TK Q ?_)
 refine dR [0,1] hm (qE ·) Q Q Q Q λr1 hm=>?_;iterate 2 (refine DA [0,1] TK Q ?_)
 refine dR [0,1] hm (qE ·) Q Q Q Q λr2 hm=>?_;refine DT ?_ (by kernel_rfl);refine aL 4 Q (bE hm (λ_=>[]) (λ_=>[]) [] [] Q (λz3 hm hz3=>?_) (λj hm=>?_))
 ·refine aO 2 Q (SX Q Q (aN TK Q Q Q) (aL 4 Q (aW hm (λx5=>([(21,.d (.int .i64 x5))])) (λx5=>[]) [21] [3,9,10,19,20] [0,1] Q k0 Q Q Q Q Q (λx5 z6 hm hz6=>WN [3,9,10,19,20,21] Q Q (bO 5 Q (bJ hm Q (λh7 hm=>?_) (λh7 hm=>?_)))))))
  ·refine aQ 5 Q (VE hm λe8 he8 hm=>SX Q Q (bD TK Q Q Q Q he8) (aG 1 Q (cH 2 Q Q nZ Q (aL 4 Q (aS hm (λx9=>([(37,.d (.bool (x9)))])) (λx9=>[]) [37] [3,9,10,12,19,20,21] Q (λz10 hm=>?_) (λx9 hm=>?_))))))
   ·refine aO 2 Q ?_;refine SX Q Q (dD Q qDU Q Q (by decide) (by decide) Q) ?_;refine aG 1 Q (c_N hm (qCJ ·) Q Q Q Q λr11 hm=>SB TK Q (λq12 hq12=>?_));cases q12
    ·replace hm:=JB hq12 hm;exact aD 9 Q (aT [0,1,2] hm Q Q)
    replace hm:=JA hq12 hm;refine SX Q Q (dD Q qDU Q Q (by decide) (by decide) Q) ?_;refine aG 2 Q (SB TK Q (λq13 hq13=>?_));cases q13
    ·replace hm:=JF hq13 hm;exact aD 5 Q (aT [0,1,2] hm Q Q)
    replace hm:=JT hq13 hm;exact aD 5 Q (aT [0,1,2] hm Q Q)
   refine WN [3,9,10,12,19,20,21,37] Q Q (bG hm Q (λh14 hm=>?_) (λh14 hm=>?_))
   ·refine aM 8 Q (IE hm λv15 hm hz=>?_);rw [hz6 _ hz] at hm;refine WR (bC 1 Q (IE hm λv16 hm hz=>?_));rw [hz3 _ hz] at hm;exact WR (aR hm Q)
   refine bN 2 Q (aS hm (λx17=>([(54,.d (.bool (x17)))])) (λx17=>[]) [54] [3,9,10,19,20,21] Q (λz18 hm=>?_) (λx17 hm=>?_))
   ·refine aO 2 Q ?_;refine SX Q Q (dD Q qDU Q Q (by decide) (by decide) Q) ?_;refine aG 1 Q (c_N hm (qCJ ·) Q Q Q Q λr19 hm=>SB TK Q (λq20 hq20=>?_));cases q20
    ·replace hm:=JB hq20 hm;exact aD 13 Q (aT [0,1,2] hm Q Q)
    replace hm:=JA hq20 hm;refine aG 3 Q (SB TK Q (λq21 hq21=>?_));cases q21
    ·replace hm:=JB hq21 hm;exact aD 9 Q (aT [0,1,2] hm Q Q)
    replace hm:=JA hq21 hm;refine SX Q Q (dD Q qDU Q Q (by decide) (by decide) Q) ?_;refine aG 2 Q (SB TK Q (λq22 hq22=>?_));cases q22
    ·replace hm:=JF hq22 hm;exact aD 5 Q (aT [0,1,2] hm Q Q)
    replace hm:=JT hq22 hm;exact aD 5 Q (aT [0,1,2] hm Q Q)
   refine WN [3,9,10,19,20,21,54] Q Q (bG hm Q (λh23 hm=>?_) (λh23 hm=>?_))
   ·refine aM 7 Q (IE hm λv24 hm hz=>?_);rw [hz6 _ hz] at hm;refine WR (bC 1 Q (IE hm λv25 hm hz=>?_));rw [hz3 _ hz] at hm;exact WR (aR hm Q)
   exact aQ 4 Q (GE hm λg26 hm=>SX Q Q (bK Q Q Q Q g26) (aD 2 Q (aX [0,1] hm Q Q)))
  refine aM 2 Q (IE hm λv27 hm hz=>?_);rw [hz6 _ hz] at hm;exact WX (bC 1 Q (aX [0,1] hm Q Q))
 exact WN [] Q Q (aM 5 Q (aR hm Q))
theorem tW {p0:(List Int)} {p1:Int} {r:Bool} (hm:eR p0 p1=some r):RetN TP 182 [.sl 1 (p0.map (D.int .i64)),.int .i64 p1] (.bool (r)):=by
 refine .unit (aK (bA Q) func182 Q ntmps182 Q Q (λwX gX=>?_)) Q;unfold eR at hm;exact WN [0,1] Q Q (aO 7 Q (c_N hm (pD ·) Q Q Q Q λr1 hm=>aD 5 Q (aR hm Q)))
theorem qOV {p0:(List Int)} {p1:Int} {r:Bool} (hm:sK p0 p1=some r):RetN TP 141 [.sl 1 (p0.map (D.int .i64)),.int .i64 p1] (.bool (r)):=by
 refine .unit (aK (bA Q) func141 Q ntmps141 Q Q (λwX gX=>?_)) Q;unfold sK at hm;exact WN [0,1] Q Q (aO 7 Q (c_N hm (tW ·) Q Q Q Q λr1 hm=>aD 4 Q (aR hm Q)))
theorem qM (n:Nat) (hn:n<=1000000000) (mv:Nat->Bool):Ret TP 205 [] mv ([.nilsl,.int .i64 n].map .d) (.msl 0 2 0 0) [.flat 126 2 []]:=by
 refine iL (bA Q) func205 Q ntmps205 Q Q (λwX gX=>bP [0,1] (bB Q (bB Q .nil)) (bT Q) (RS (bY _ Q (eD (.inr Q) Q) (TN (bP [0,1] (bB Q (bB Q .nil)) (bT Q) (TQ (RS (bY _ Q (eD (.inl Q) Q) (bY _ Q (mT Q Q Q Q) (TN (bP [0,1,6] (bB Q (bB Q (bB Q .nil))) (bT Q) (TC _ Q (λhneg=>?_) (λhneg=>?_)))))))))))))
 ·exact absurd (of_decide_eq_true hneg) (by omega)
 refine TS (WT (bP [0,1] (bB Q (bB Q .nil)) (bT Q) (TQ (RS (bY _ Q (eD (.inl Q) Q) (bY _ Q (eD (.inl Q) Q) (bY _ Q (qDR Q rG Q) (bY _ Q (eD (.inl Q) Q) (bY _ Q (mS Q rG Q) ?_)))))))));refine bY _ Q (sP (r:=0) Q Q Q Q Q (by first|omega|(constructor<;>omega))) ?_;refine bY _ Q (sP (r:=(n:Int)) Q Q Q Q (by omega) (by first|omega|(constructor<;>omega))) ?_;refine bY _ Q (eD (.inr Q) Q) (TN (bP [0,1] (bB Q (bB Q .nil)) (bT Q) (RS (bY _ Q (eD (.inl Q) Q) (bY _ Q (mT Q Q Q Q) (TN (bP [0,1,16] (bB Q (bB Q (bB Q .nil))) (bT Q) (TC _ Q (λhpos=>?_) (λhpos=>?_)))))))))
 ·have hpos:0 < n:=by simpa using hpos
  refine TG (bY _ Q (eD (.inl Q) Q) (bY _ Q (eD (.inl Q) Q) (bY _ Q (qDR Q rG Q) (bY _ Q (qTX Q rG Q Q Q) (bY _ Q (eD (.inl Q) Q) ?_)))));refine qTE (n:=n) Q rG Tryz.underlying3 bW Q Q Q hpos (by decide) (by omega) (by omega) ?_;refine bY _ Q (eD (.inl Q) Q) (bY _ Q (mS Q rG Q) (bY _ Q (qEO 0 2 16 0 n 0 0 Q rG Q Q Q (zQW _) (Nat.zero_le _)) (bY _ Q (gI (.inr Q) Q) (TN (WT (bP [0] (dF Q .nil) (cN Q (bT Q)) (RS (bY _ Q (gI (.inl Q) Q) (bY _ Q (gI (.inr Q) Q) (TN (bP [4] (dF Q .nil) (cN Q (bT Q)) (TR ?_))))))))))));exact⟨_,[0],res Q,by decide,λi hi=>absurd hi (zQV i),Q,Q⟩
 refine qBY 0 126 2 Q (TS (WT (bP [0] (dF Q .nil) (cN Q (bT Q)) (RS (bY _ Q (gI (.inl Q) Q) (bY _ Q (gI (.inr Q) Q) (TN (bP [4] (dF Q .nil) (cN Q (bT Q)) (TR ?_)))))))));exact⟨_,[0],res Q,by decide,λi hi=>absurd hi (zQV i),Q,Q⟩
theorem oD (xss:List (List Aa)) (hn:xss.length<=1000) (ht:xss.flatten.length<=1000000000) (mv:Nat->Bool):Ret TP 183 [] mv ([.sl 1 (xss.map λl=>.sl 2 (l.map Aa.enc))].map .d) (.msl 0 2 0 xss.flatten.length) [.flat 126 2 (xss.flatten.map Aa.enc)]:=by
 refine iL (bA Q) func183 Q ntmps183 Q Q (λwX gX=>bP [0] (bB Q .nil) (bT Q) (RS (bY _ Q (eD (.inr Q) Q) (TN (bP [0] (bB Q .nil) (bT Q) (RS (bY _ Q (eD (.inr Q) Q) (TN (bP [0,3] (bB Q (bB Q .nil)) (bT Q) (TQ (RS (bY _ Q (eD (.inl Q) Q) ?_))))))))))));refine bY _ Q (by first|exact qFA Q qAL Q (by first|exact zQC _|rfl)|exact mS Q qAL Q) ?_;refine bY _ Q (eD (.inl Q) Q) (TN (bP [0,3,9,10,11] (bB Q (bB Q (bB Q (bB Q (bB Q .nil))))) (bT Q) (TB ?_)));refine oZ (λi=>([(3,.d (.int .i64 ((eP xss i).length:Int))),(11,.d (.int .i64 ((i:Nat):Int)))])) (λi=>[]) (λi=>i<=xss.length) (λi=>xss.length - i) [3,11] [0,9,10] [] 0 (by decide) (λi hi=>absurd hi (zQV i)) (Nat.zero_le _) (bB Q (bB Q (bB Q .nil))) Q (by rw [oT];rfl) (bT Q) Q ?_;rintro i hok;refine bP [3,11,0,9,10] (bB Q (bB Q (bB Q (bB Q (bB Q .nil))))) (bT Q) (RS (bY _ Q (mT Q Q Q Q) (TN (bP [0,3,9,10,11,12] (bB Q (bB Q (bB Q (bB Q (bB Q (bB Q .nil)))))) (bT Q) (TQ (TC _ Q (λhlt=>?_) (λhlt=>?_)))))))
 ·have hlt:i < xss.length:=by simpa using hlt
  obtain⟨x,hx⟩:∃ x,(xss)[i]?=some x:=⟨_,zQR (by first|exact hlt|omega|(simp;omega))⟩;have hs:=wG hx;have hle:=eM xss (i+1);refine TS (WT (bP [0,3,9,10,11] (bB Q (bB Q (bB Q (bB Q (bB Q .nil))))) (bT Q) (TQ (TB (RS (bY _ Q (vE Q qAL Q Q (qDN hx)) (bY _ Q (zB Q qZV Q Q) (bY _ Q (eD (.inr Q) Q) (TN (bP [0,3,5,9,10,11] (bB Q (bB Q (bB Q (bB Q (bB Q (bB Q .nil)))))) (bT Q) (RS (bY _ Q (eD (.inl Q) Q) (bY _ Q (eD (.inl Q) Q) ?_)))))))))))));refine bY _ Q (by first|exact qFA Q rG Q (by first|exact zQC _|rfl)|exact mS Q rG Q) ?_;refine bY _ Q (sP (r:=((eP xss (i+1)).length:Int)) Q Q Q Q (by rw [hs];simp) (by omega)) ?_;refine bY _ Q (eD (.inr Q) Q) (TN (bP [0,3,9,10,11] (bB Q (bB Q (bB Q (bB Q (bB Q .nil))))) (bT Q) (RS (bY _ Q (eD (.inl Q) Q) (bY _ Q (mT Q Q Q Q) (TN (bP [0,3,9,10,11,20] (bB Q (bB Q (bB Q (bB Q (bB Q (bB Q .nil)))))) (bT Q) (TC _ Q (λhneg=>?_) (λhneg=>?_)))))))))
  ·exact absurd (of_decide_eq_true hneg) (by omega)
  refine TS (WK (WT (bP [0,3,9,10,11] (bB Q (bB Q (bB Q (bB Q (bB Q .nil))))) (bT Q) (TG ?_))));refine bY _ Q (sQ Q Q Q Q (by first|omega|(constructor<;>omega))) ?_;refine bY _ Q (eD (.inl Q) Q) (TN (WT ?_));exact⟨(i+1),[],by decide,(λi hi=>absurd hi (zQV i)),(by omega),(by omega),Q⟩
 have hge:¬ i < xss.length:=by simpa using hlt
 have hi:i=xss.length:=by omega
 refine uD (WX (WX (WH (WT (bP [0,3] (bB Q (bB Q .nil)) (bT Q) (RS (bY _ Q (eD (.inl Q) Q) ?_)))))));refine sY Q Q Q (qM _ (by have:=eM xss i;omega) (λ_=>false)) Q Q ?_;refine bY _ Q (gI (.inr Q) Q) (TN (bP [0,6] (bB Q (dF Q .nil)) (cN Q (bT Q)) (TQ (RS (bY _ Q (eD (.inl Q) Q) ?_)))));refine bY _ Q (by first|exact qFA Q qAL Q (by first|exact zQC _|rfl)|exact mS Q qAL Q) ?_;refine bY _ Q (eD (.inl Q) Q) (TN (bP [6,25,26,27] (dF Q (bB Q (bB Q (bB Q .nil)))) (cN Q (bT Q)) (TB ?_)));refine oZ (λi=>([(6,.msl 0 2 0 (eP xss i).length),(27,.d (.int .i64 ((i:Nat):Int)))])) (λi=>([(0,.flat 126 2 ((eP xss i).map Aa.enc))])) (λi=>i<=xss.length) (λi=>xss.length - i) [6,27] [25,26] [0] 0 (by decide) (λi hi=>absurd hi (zQV i)) (Nat.zero_le _) (bB Q (bB Q .nil)) Q (by rw [oT];rfl) (cN Q (bT Q)) (by rw [oT];rfl) ?_;rintro i hok;refine bP [6,27,25,26] (dF Q (bB Q (bB Q (bB Q .nil)))) (cN Q (bT Q)) (RS (bY _ Q (mT Q Q Q Q) (TN (bP [6,25,26,27,28] (dF Q (bB Q (bB Q (bB Q (bB Q .nil))))) (cN Q (bT Q)) (TQ (TC _ Q (λhlt=>?_) (λhlt=>?_)))))))
 ·have hlt:i < xss.length:=by simpa using hlt
  obtain⟨x,hx⟩:∃ x,(xss)[i]?=some x:=⟨_,zQR (by first|exact hlt|omega|(simp;omega))⟩;have hs:=wG hx;have hle:=eM xss (i+1);have hsl:(eP xss (i+1)).length=(eP xss i).length+x.length:=by rw [hs];simp
  refine TS (WT (bP [6,25,26,27] (dF Q (bB Q (bB Q (bB Q .nil)))) (cN Q (bT Q)) (TQ (TB (RS (bY _ Q (vE Q qAL Q Q (qDN hx)) (bY _ Q (zB Q qZV Q Q) (bY _ Q (eD (.inr Q) Q) (TN (bP [6,8,25,26,27] (dF Q (bB Q (bB Q (bB Q (bB Q .nil))))) (cN Q (bT Q)) (TG (bY _ Q (gI (.inl Q) Q) (bY _ Q (eD (.inl Q) Q) ?_)))))))))))));refine qED (m:=(eP xss (i+1)).length) (ds:=x.map Aa.enc) (es':=(eP xss (i+1)).map Aa.enc) Q rG bW Q Q Q (by simp) (λh=>absurd h (zQV _)) Q ⟨Q,(by first|rfl|(simp [List.map_take,List.map_drop];done)|(rw [<- List.map_drop,List.take_of_length_le (by simp)]))⟩ (by rw [hs];simp) (by simp;omega) (by omega) (by omega) Q Q ?_;refine bY _ Q (gI (.inr Q) Q) (TN (WK (WT (bP [6,25,26,27] (dF Q (bB Q (bB Q (bB Q .nil)))) (cN Q (bT Q)) (TG ?_)))));refine bY _ Q (sQ Q Q Q Q (by first|omega|(constructor<;>omega))) ?_;refine bY _ Q (eD (.inl Q) Q) (TN (WT ?_));exact⟨(i+1),[0],by decide,(λi hi=>absurd hi (zQV i)),(by omega),(by omega),Q⟩
 have hge:¬ i < xss.length:=by simpa using hlt
 have hi:i=xss.length:=by omega
 have hall:=qPA hge;refine uD (WX (WX (WH (WT (bP [6] (dF Q .nil) (cN Q (bT Q)) (RS (bY _ Q (gI (.inl Q) Q) (bY _ Q (gI (.inr Q) Q) (TN (bP [2] (dF Q .nil) (cN Q (bT Q)) (TR ?_)))))))))));rw [hall];exact⟨_,[0],res Q,by decide,λi hi=>absurd hi (zQV i),Q,Q⟩
theorem qL {p0:List (List Aa)} {r:List Aa} (hm:fI p0=some r):Ret TP 183 [] (λ_=>false) ([.sl 1 (p0.map (λl=>D.sl 2 (l.map Aa.enc)))].map .d) (.msl 0 2 0 r.length) [.flat 126 2 (r.map Aa.enc)]:=by
 unfold fI at hm;refine GE hm λg hm=>?_;obtain rfl:=OJ hm;exact oD p0 g.1 g.2 (λ_=>false)
theorem tT {p0:Int} {r:Bool} (hm:jZ p0=some r):RetN TP 207 [.int .i64 p0] (.bool (r)):=by
 refine .unit (aK (bA Q) func207 Q ntmps207 Q Q (λwX gX=>?_)) Q;unfold jZ at hm;exact WN [0] Q Q (qYN 12 Q (aR hm Q))
theorem rD {p0:Int} {p1:Int} {r:Int} (hm:fP p0 p1=some r):RetN TP 187 [.int .i64 p0,.int .i64 p1] (.int .i64 r):=by
 refine .unit (aK (bA Q) func187 Q ntmps187 Q Q (λwX gX=>?_)) Q;unfold fP at hm;refine WN [0,1] Q Q (aO 6 Q (c_N hm (tT ·) Q Q Q Q λr1 hm=>aG 5 Q (c_N hm (tT ·) Q Q Q Q λr2 hm=>aL 8 Q (bG hm Q (λh3 hm=>?_) (λh3 hm=>?_)))))
 ·refine bN 5 Q (bG hm Q (λh4 hm=>?_) (λh4 hm=>?_))
  ·exact aM 7 Q (aR hm Q)
  exact aM 8 Q (aR hm Q)
 refine bN 7 Q (bG hm Q (λh5 hm=>?_) (λh5 hm=>?_))
 ·exact aM 6 Q (aR hm Q)
 refine bN 9 Q (bJ hm Q (λh6 hm=>?_) (λh6 hm=>?_))
 ·exact aM 6 Q (aR hm Q)
 refine bN 9 Q (WN [19] Q Q (bJ hm Q (λh7 hm=>?_) (λh7 hm=>?_)))
 ·exact aM 6 Q (aR hm Q)
 exact aM 7 Q (aR hm Q)
theorem qLP {p0:(List Int)} {r:Int} (hm:qF p0=some r):RetN TP 186 [.sl 1 (p0.map (D.int .i64))] (.int .i64 r):=by
 refine .unit (aK (bA Q) func186 Q ntmps186 Q Q (λwX gX=>?_)) Q;unfold qF at hm;refine WN [0] Q Q (bO 8 Q (bE hm (λ_=>[]) (λ_=>[]) [] [3] Q (λz1 hm hz1=>?_) (λj hm=>?_)))
 ·refine aO 2 Q (SX Q Q (aN TK Q Q Q) (aL 4 Q (aW hm (λx3=>([(8,.d (.int .i64 x3))])) (λx3=>[]) [8] [3,6,7] [] Q k0 Q Q Q Q Q (λx3 z4 hm hz4=>WN [3,6,7,8] Q Q (bO 5 Q (bJ hm Q (λh5 hm=>?_) (λh5 hm=>?_)))))))
  ·refine aQ 5 Q (VE hm λe6 he6 hm=>SX Q Q (bD TK Q Q Q Q he6) (aL 10 Q (eC hm Q (λh7 hm=>?_) (λh7 hm=>?_))))
   ·refine aM 8 Q (IE hm λv8 hm hz=>?_);rw [hz4 _ hz] at hm;refine WR (bC 1 Q (IE hm λv9 hm hz=>?_));rw [hz1 _ hz] at hm;exact WR (aR hm Q)
   exact aQ 4 Q (GE hm λg10 hm=>SX Q Q (bK Q Q Q Q g10) (aD 2 Q (aX [] hm Q Q)))
  refine aM 2 Q (IE hm λv11 hm hz=>?_);rw [hz4 _ hz] at hm;exact WX (bC 1 Q (aX [] hm Q Q))
 exact WN [3] Q Q (aM 6 Q (aR hm Q))
theorem wN {p0:Aa} {p1:Aa} {r:Int} (hm:cD p0 p1=some r):RetN TP 185 [p0.enc,p1.enc] (.int .i64 r):=by
 refine .unit (aK (bA Q) func185 Q ntmps185 Q Q (λwX gX=>?_)) Q;unfold cD at hm;refine WN [0,1] Q Q (aO 1 Q (bQ 0 Q Q Q (bQ 1 Q Q Q (aL 3 Q (bI follows ?_)))));iterate 4 (refine DA [0,1] TK Q ?_)
 refine dR [0,1] hm (rD ·) Q Q Q Q λr1 hm=>?_;iterate 4 (refine DA [0,1] TK Q ?_)
 refine dR [0,1] hm (rD ·) Q Q Q Q λr2 hm=>DX [0,1] Q Q (cI [.tmp 9,.tmp 14] TK Q Q dE Q Q Q Q Q) (dR [0,1] hm (qLP ·) Q Q Q Q λr3 hm=>?_);refine DT ?_ (by kernel_rfl);exact aL 3 Q (WN [4] Q Q (aM 1 Q (aR hm Q)))
theorem qAI {p0:Ai} {r:(List Aa)} (hm:iJ p0=some r):RetD TP 142 [p0.enc] (.sl 2 (r.map Aa.enc)):=by
 refine .of (mv:=λ_=>false) (aK (bA Q) func142 Q ntmps142 Q Q (λwX gX=>?_));unfold iJ at hm;refine WN [0] Q Q (aO 1 Q (bQ 0 Q Q Q (aG 10 Q (SX Q Q (cI [.tmp 8,.tmp 10,.tmp 12] TK Q Q zBM Q Q Q Q Q) (BE hm λr1 hr1 hm=>sY Q Q Q (qL hr1) Q Q (qGU 14 (.msl 1 2 0 r1.length) Q Q (aG 5 Q (GE hm λg2 hm=>?_))))))));refine qDH [1] Q Q Q (by simp) Q Q Q (qK kZ Q (λ_ _ _ h=>(wN h).retD) r1 g2) Q Q ?_;refine yK 3 (pC cD r1).length Q (oC _).symm (yK 15 (pC cD r1).length Q (oC _).symm (aG 3 Q (cS (f:=Aa.enc) 2 126 2 Q Q Q (aL 2 Q (aS hm (λb3=>([(4,.msl 2 2 0 b3.length)])) (λb3=>([(2,.flat 126 2 (b3.map Aa.enc))])) [4] [] Q (λz4 hm=>?_) (λb3 hm=>?_))))))
 ·refine bO 7 Q (aW hm (λ(x8,b9)=>([(4,.msl 2 2 0 b9.length),(19,.d (.int .i64 x8))])) (λ(x8,b9)=>([(2,.flat 126 2 (b9.map Aa.enc))])) [4,19] [3,17,18] [0,1,2] Q k0 Q Q Q Q Q (λs z10 hm hz10=>?_));obtain⟨x8,b9⟩:=s;refine WN [3,4,17,18,19] Q Q (bO 5 Q (bJ hm Q (λh11 hm=>?_) (λh11 hm=>?_)))
  ·refine aQ 6 Q (VE hm λe12 he12 hm=>SX Q Q (nX TK Q Q Q Q he12 Q) (SX Q Q (oX TK Q Q Q Q he12.2 Q) (cH 3 Q Q bW Q (aL 4 Q (aS hm (λx13=>([(34,.d (.bool (x13)))])) (λx13=>[]) [34] [3,4,6,17,18,19] Q (λz14 hm=>?_) (λx13 hm=>?_))))))
   ·refine cG follows ?_;iterate 2 (refine DA [0,1,2,3] TK Q ?_)
    refine d_b [0,1,2,3] TK Q (λq15 hq15=>?_);cases q15
    ·replace hm:=JF hq15 hm;iterate 3 (refine DA [0,1,2,3] TK Q ?_)
     refine GE hm λg16 hm=>DX [0,1,2,3] Q Q (bK Q Q Q Q g16) (VE hm λe17 he17 hm=>DX [0,1,2,3] Q Q (nX TK Q Q Q Q he17 Q) (DX [0,1,2,3] Q Q (oX TK Q Q Q Q he17.2 Q) (GE hm λg18 hm=>DX [0,1,2,3] Q Q (yA Q Q Q g18.1 g18.2) (DA [0,1,2,3] TK Q ?_))));refine DT ?_ (by kernel_rfl);exact aD 1 Q (aT [0,1,2,3] hm Q Q)
    replace hm:=JT hq15 hm;iterate 8 (refine DA [0,1,2,3] TK Q ?_)
    refine DT ?_ (by kernel_rfl);exact aD 1 Q (aT [0,1,2,3] hm Q Q)
   refine WN [3,4,6,17,18,19,34] Q Q (bG hm Q (λh20 hm=>?_) (λh20 hm=>?_))
   ·exact aQ 3 Q (SX Q Q (cI [.tmp 36] TK Q Q bW Q Q Q Q Q) (GE hm λg21 hm=>cK (f:=Aa.enc) ([e12]:List Aa) TK Q Q bW Q Q Q Q Q (λh=>absurd h (zQV _)) Q cE g21 Q Q (aG 5 Q (GE hm λg22 hm=>SX Q Q (bK Q Q Q Q g22) (aD 2 Q (aX [0,1,2] hm Q Q))))))
   exact aQ 4 Q (GE hm λg23 hm=>SX Q Q (bK Q Q Q Q g23) (aD 2 Q (aX [0,1,2] hm Q Q)))
  refine aM 2 Q (IE hm λv24 hm hz=>?_);rw [hz10 _ hz] at hm;exact WX (bC 1 Q (aT [0,1,2] hm Q Q))
 refine WN [4] Q Q (aM 6 Q ?_);obtain rfl:=OJ hm;exact EndsS.one _ Q (bS Q) (.refl _)
theorem qIA {p0:Al} {p1:Ai} {p2:Ak} {r:(List Aa)} (hm:nM p0 p1 p2=some r):RetD TP 81 [p0.enc,p1.enc,p2.enc] (.sl 2 (r.map Aa.enc)):=by
 refine .of (mv:=λ_=>false) (aK (bA Q) func81 Q ntmps81 Q Q (λwX gX=>?_));unfold nM at hm;refine WN [0,1,2] Q Q (aO 1 Q (bQ 0 Q Q Q (bQ 1 Q Q Q (bQ 2 Q Q Q (aL 10 Q (bJ hm Q (λh1 hm=>?_) (λh1 hm=>?_)))))))
 ·refine bN 4 Q (vP 6 [some 2] Q (aM 2 Q ?_));obtain rfl:=OJ hm;exact EndsS.one _ Q (.d _) (.refl _)
 refine aQ 3 Q (cS (f:=Aa.enc) 3 126 2 Q Q Q (aL 2 Q (aS hm (λb2=>([(7,.msl 3 2 0 b2.length)])) (λb2=>([(3,.flat 126 2 (b2.map Aa.enc))])) [7] [4] Q (λz3 hm=>?_) (λb2 hm=>?_))))
 ·refine aO 3 Q (SX Q Q (aN TK Q Q Q) (aL 4 Q (aW hm (λ(x7,b8)=>([(7,.msl 3 2 0 b8.length),(16,.d (.int .i64 x7))])) (λ(x7,b8)=>([(3,.flat 126 2 (b8.map Aa.enc))])) [7,16] [3,4,5,14,15] [0,1,2,3] Q k0 Q Q Q Q Q (λs z9 hm hz9=>?_))));obtain⟨x7,b8⟩:=s;refine WN [3,4,5,7,14,15,16] Q Q (bO 5 Q (bJ hm Q (λh10 hm=>?_) (λh10 hm=>?_)))
  ·refine aQ 5 Q (VE hm λe11 he11 hm=>SX Q Q (bD TK Q Q Q Q he11) (aG 1 Q (cH 4 Q Q bW Q (aL 3 Q (WN [3,4,5,7,9,14,15,16] Q Q (bI follows ?_))))));iterate 4 (refine DA [0,1,2,3,4] TK Q ?_)
   refine GE hm λg12 hm=>DX [0,1,2,3,4] Q Q (yE TK Q Q Q Q Q g12) ?_;iterate 5 (refine DA [0,1,2,3,4] TK Q ?_)
   refine dR [0,1,2,3,4] hm (jO ·) Q Q Q Q λr13 hm=>VE hm λe14 he14 hm=>DX [0,1,2,3,4] Q Q (bD TK Q Q Q Q he14) (DA [0,1,2,3,4] TK Q (dR [0,1,2,3,4] hm (qOV ·) Q Q Q Q λr15 hm=>DA [0,1,2,3,4] TK Q ?_));refine DT ?_ (by kernel_rfl);refine aL 2 Q (bG hm Q (λh16 hm=>?_) (λh16 hm=>?_))
   ·exact aQ 3 Q (SX Q Q (cI [.tmp 36] TK Q Q bW Q Q Q Q Q) (GE hm λg17 hm=>cK (f:=Aa.enc) ([e11]:List Aa) TK Q Q bW Q Q Q Q Q (λh=>absurd h (zQV _)) Q cE g17 Q Q (aL 4 Q (WN [3,4,5,7,14,15,16] Q Q (aQ 1 Q (GE hm λg18 hm=>SX Q Q (bK Q Q Q Q g18) (aD 2 Q (aX [0,1,2,3] hm Q Q))))))))
   exact bN 3 Q (WN [3,4,5,7,14,15,16] Q Q (aQ 1 Q (GE hm λg19 hm=>SX Q Q (bK Q Q Q Q g19) (aD 2 Q (aX [0,1,2,3] hm Q Q)))))
  refine aM 2 Q (IE hm λv20 hm hz=>?_);rw [hz9 _ hz] at hm;exact WX (bC 1 Q (aT [0,1,2,3] hm Q Q))
 refine WN [4,7] Q Q ?_;refine qLW 7 3 [4] Q Q Q Q Q (by simp) Q Q ?_;refine aQ 6 Q (SX Q Q (bX Q qYT dS Q Q Q Q) (s_wk 45 [none,none,none,some 3,none,some 1,none,none,some 3,none,some 1,none,some 1,some 2] Q (c_D hm (qAI ·) Q Q Q Q λr21 hm=>aD 4 Q ?_)));obtain rfl:=OJ hm;exact EndsS.one _ Q (.d _) (.refl _)
theorem qIB {p0:Al} {p1:Az} {r:Bool} (hm:nN p0 p1=some r):RetN TP 38 [p0.enc,p1.enc] (.bool (r)):=by
 refine .unit (aK (bA Q) func38 Q ntmps38 Q Q (λwX gX=>?_)) Q;unfold nN at hm;refine WN [0,1] Q Q (aO 1 Q (bQ 0 Q Q Q (bQ 1 Q Q Q (aG 7 Q (c_N hm (qLF ·) Q Q Q Q λr1 hm=>aL 3 Q (bG hm Q (λh2 hm=>?_) (λh2 hm=>?_)))))))
 ·exact aM 6 Q (aR hm Q)
 refine aQ 3 Q (cS (f:=(λ(l:List Ap)=>D.sl 2 (l.map Ap.enc))) 2 163 1 Q Q Q (aL 2 Q (aS hm (λb3=>([(5,.msl 2 1 0 b3.length)])) (λb3=>([(2,.flat 163 1 (b3.map (λ(l:List Ap)=>D.sl 2 (l.map Ap.enc))))])) [5] [2,3] Q (λz4 hm=>?_) (λb3 hm=>?_))))
 ·refine aO 3 Q (SX Q Q (aN TK Q Q Q) (aL 4 Q (aW hm (λ(x8,b9)=>([(5,.msl 2 1 0 b9.length),(21,.d (.int .i64 x8))])) (λ(x8,b9)=>([(2,.flat 163 1 (b9.map (λ(l:List Ap)=>D.sl 2 (l.map Ap.enc))))])) [5,21] [2,3,19,20] [0,1,2] Q k0 Q Q Q Q Q (λs z10 hm hz10=>?_))));obtain⟨x8,b9⟩:=s;refine WN [2,3,5,19,20,21] Q Q (bO 5 Q (bJ hm Q (λh11 hm=>?_) (λh11 hm=>?_)))
  ·refine aQ 6 Q (VE hm λe12 he12 hm=>SX Q Q (bD TK Q Q Q Q he12) (aG 1 Q (cH 3 Q Q dS Q (cR 3 [none,none,none,some 3,some 2,some 1,none,none,some 3,some 2,some 1,some 2,some 1,some 2] Q Q (aL 4 Q (dW follows ?_))))));iterate 5 (refine DA [0,1,2,3] TK Q ?_)
   refine VE hm λe13 he13 hm=>DX [0,1,2,3] Q Q (bD TK Q Q Q Q he13) (DA [0,1,2,3] TK Q (kW [0,1,2,3] hm (qEY ·) Q Q Q Q λr14 hm=>DX [0,1,2,3] Q Q (cI [.tmp 33] TK Q Q qSV Q Q Q Q Q) ?_));refine DT ?_ (by kernel_rfl);exact GE hm λg15 hm=>cK (f:=(λ(l:List Ap)=>D.sl 2 (l.map Ap.enc))) ([r14]:List (List Ap)) TK Q Q qSV Q Q Q Q Q (λh=>absurd h (zQV _)) Q cE g15 Q Q (aL 4 Q (WN [2,3,5,19,20,21] Q Q (aQ 1 Q (GE hm λg16 hm=>SX Q Q (bK Q Q Q Q g16) (aD 2 Q (aX [0,1,2] hm Q Q))))))
  refine aM 2 Q (IE hm λv17 hm hz=>?_);rw [hz10 _ hz] at hm;exact WX (bC 1 Q (aT [0,1,2] hm Q Q))
 refine WN [2,3,5] Q Q (bE hm (λ_=>[]) (λ_=>[]) [] [2,3] Q (λz18 hm hz18=>?_) (λj hm=>?_))
 ·refine aO 3 Q (SX Q Q (aN TK Q Q Q) (aL 4 Q (aW hm (λx20=>([(40,.d (.int .i64 x20))])) (λx20=>[]) [40] [2,3,5,39] [0,1,2] Q k0 Q Q Q Q Q (λx20 z21 hm hz21=>WN [2,3,5,39,40] Q Q (bO 5 Q (bJ hm Q (λh22 hm=>?_) (λh22 hm=>?_)))))))
  ·refine bN 2 Q (bE hm (λ_=>[]) (λ_=>[]) [] [2,3,5,39,40] Q (λz23 hm hz23=>?_) (λj hm=>?_))
   ·refine bO 12 Q (aW hm (λx25=>([(44,.d (.int .i64 x25))])) (λx25=>[]) [44] [2,3,5,8,39,40,43] [0,1,2] Q k0 Q Q Q Q Q (λx25 z26 hm hz26=>WN [2,3,5,8,39,40,43,44] Q Q (bO 5 Q (bJ hm Q (λh27 hm=>?_) (λh27 hm=>?_)))))
    ·refine bN 9 Q (bI follows ?_);iterate 3 (refine DA [0,1,2] TK Q ?_)
     refine VE hm λe28 he28 hm=>DX [0,1,2] Q Q (bD TK Q Q Q Q he28) ?_;iterate 4 (refine DA [0,1,2] TK Q ?_)
     refine VE hm λe29 he29 hm=>DX [0,1,2] Q Q (bD TK Q Q Q Q he29) ?_;iterate 3 (refine DA [0,1,2] TK Q ?_)
     refine VE hm λe30 he30 hm=>DX [0,1,2] Q Q (nX TK Q Q Q Q he30 Q) (DX [0,1,2] Q Q (oX TK Q Q Q Q he30.2 Q) ?_);iterate 2 (refine DA [0,1,2] TK Q ?_)
     refine VE hm λe31 he31 hm=>DX [0,1,2] Q Q (nX TK Q Q Q Q he31 Q) (DX [0,1,2] Q Q (oX TK Q Q Q Q he31.2 Q) (dR [0,1,2] hm (qHZ ·) Q Q Q Q λr32 hm=>?_));refine DT ?_ (by kernel_rfl);refine aL 2 Q (WN [2,3,5,8,39,40,43,44,65] Q Q (bG hm Q (λh33 hm=>?_) (λh33 hm=>?_)))
     ·refine aM 7 Q (IE hm λv34 hm hz=>?_);rw [hz26 _ hz] at hm;refine WR (bC 2 Q (IE hm λv35 hm hz=>?_));rw [hz23 _ hz] at hm;refine WR (IE hm λv36 hm hz=>?_);rw [hz21 _ hz] at hm;refine WR (bC 1 Q (IE hm λv37 hm hz=>?_));rw [hz18 _ hz] at hm;exact WR (aR hm Q)
     exact aQ 4 Q (GE hm λg38 hm=>SX Q Q (bK Q Q Q Q g38) (aD 2 Q (aX [0,1,2] hm Q Q)))
    refine aM 2 Q (IE hm λv39 hm hz=>?_);rw [hz26 _ hz] at hm;exact WX (bC 2 Q (aX [0,1,2] hm Q Q))
   exact WN [2,3,5,39,40] Q Q (aQ 1 Q (GE hm λg40 hm=>SX Q Q (bK Q Q Q Q g40) (aD 2 Q (aX [0,1,2] hm Q Q))))
  refine aM 2 Q (IE hm λv41 hm hz=>?_);rw [hz21 _ hz] at hm;exact WX (bC 1 Q (aX [0,1,2] hm Q Q))
 refine WN [2,3] Q Q (bE hm (λ_=>[]) (λ_=>[]) [] [] Q (λz42 hm hz42=>?_) (λj hm=>?_))
 ·refine aO 3 Q (SX Q Q (aN TK Q Q Q) (aL 4 Q (aW hm (λx44=>([(71,.d (.int .i64 x44))])) (λx44=>[]) [71] [2,3,69,70] [0,1,2] Q k0 Q Q Q Q Q (λx44 z45 hm hz45=>WN [2,3,69,70,71] Q Q (bO 5 Q (bJ hm Q (λh46 hm=>?_) (λh46 hm=>?_)))))))
  ·refine bN 2 Q (bE hm (λ_=>[]) (λ_=>[]) [] [2,3,69,70,71] Q (λz47 hm hz47=>?_) (λj hm=>?_))
   ·refine aO 3 Q (VE hm λe48 he48 hm=>SX Q Q (bD TK Q Q Q Q he48) (aG 1 Q (cH 3 Q Q dS Q (cR 3 [none,none,none,some 3,some 2,some 1,none,none,some 3,some 2,some 1,some 2,some 1,some 2] Q Q (aL 4 Q (bI follows ?_))))));iterate 5 (refine DA [0,1,2,3] TK Q ?_)
    refine VE hm λe49 he49 hm=>DX [0,1,2,3] Q Q (bD TK Q Q Q Q he49) (DA [0,1,2,3] TK Q (kW [0,1,2,3] hm (qIA ·) Q Q Q Q λr50 hm=>DX [0,1,2,3] Q Q (aN TK Q Q Q) (DA [0,1,2,3] TK Q ?_)));refine DT ?_ (by kernel_rfl);refine aL 3 Q (aW hm (λx52=>([(85,.d (.int .i64 x52))])) (λx52=>[]) [85] [2,3,69,70,71,83,84] [0,1,2] Q k0 Q Q Q Q Q (λx52 z53 hm hz53=>WN [2,3,69,70,71,83,84,85] Q Q (bO 5 Q (bJ hm Q (λh54 hm=>?_) (λh54 hm=>?_)))))
    ·refine aQ 5 Q (VE hm λe55 he55 hm=>SX Q Q (bD TK Q Q Q Q he55) (aG 1 Q (cH 3 Q Q bW Q (aL 3 Q (bI follows ?_)))));iterate 5 (refine DA [0,1,2,3] TK Q ?_)
     refine dR [0,1,2,3] hm (jO ·) Q Q Q Q λr56 hm=>VE hm λe57 he57 hm=>DX [0,1,2,3] Q Q (bD TK Q Q Q Q he57) ?_;iterate 4 (refine DA [0,1,2,3] TK Q ?_)
     refine DT ?_ (by kernel_rfl);refine aL 2 Q (eC hm Q (λh58 hm=>?_) (λh58 hm=>?_))
     ·refine bN 4 Q (WN [4] Q Q (aM 3 Q (IE hm λv59 hm hz=>?_)));rw [hz53 _ hz] at hm;refine WR (bC 2 Q (IE hm λv60 hm hz=>?_));rw [hz47 _ hz] at hm;refine WR (IE hm λv61 hm hz=>?_);rw [hz45 _ hz] at hm;refine WR (bC 1 Q (IE hm λv62 hm hz=>?_));rw [hz42 _ hz] at hm;exact WR (aR hm Q)
     exact bN 3 Q (WN [2,3,69,70,71,83,84,85] Q Q (aQ 1 Q (GE hm λg63 hm=>SX Q Q (bK Q Q Q Q g63) (aD 2 Q (aX [0,1,2] hm Q Q)))))
    refine aM 2 Q (IE hm λv64 hm hz=>?_);rw [hz53 _ hz] at hm;exact WX (bC 2 Q (aX [0,1,2] hm Q Q))
   exact WN [2,3,69,70,71] Q Q (aQ 1 Q (GE hm λg65 hm=>SX Q Q (bK Q Q Q Q g65) (aD 2 Q (aX [0,1,2] hm Q Q))))
  refine aM 2 Q (IE hm λv66 hm hz=>?_);rw [hz45 _ hz] at hm;exact WX (bC 1 Q (aX [0,1,2] hm Q Q))
 exact WN [] Q Q (aM 5 Q (aR hm Q))
theorem zP {p0:Al} {p1:(List As)} {p2:Int} {r:(List Int)} (hm:iA p0 p1 p2=some r):RetD TP 83 [p0.enc,.sl 3 (p1.map As.enc),.int .i64 p2] (.sl 1 (r.map (D.int .i64))):=by
 refine .of (mv:=λ_=>false) (aK (bA Q) func83 Q ntmps83 Q Q (λwX gX=>?_));unfold iA at hm;refine WN [0,1,2] Q Q (aO 1 Q (bQ 0 Q Q Q (aL 4 Q ?_)));refine cF [(15,.d (.bool (((decide (p2 < (0:Int)))||(decide ((32:Int) < p2))))))] [15] [1,2,3] Q ?_ ?_
 ·refine aO 3 Q (SB TK Q (λq1 hq1=>?_));cases q1
  ·refine aD 4 Q ?_;exact⟨[0],Q,k0,aV (aH (aI (by first|(simp [hq1];done)|(simp only [hq1];simp))) Q) Q⟩
  refine aD 4 Q ?_;exact⟨[0],Q,k0,aV (aH (aI (by first|(simp [hq1];done)|(simp only [hq1];simp))) Q) Q⟩
 refine WN [1,2,3,15] Q Q (bG hm Q (λh2 hm=>?_) (λh2 hm=>?_))
 ·refine bN 4 Q (vP 6 [some 1] Q (aM 2 Q ?_));obtain rfl:=OJ hm;exact EndsS.one _ Q (.d _) (.refl _)
 refine aQ 4 Q (GE hm λg3 hm=>zEZ (f:=(D.int .i64)) (x:=(0:Int)) 1 TK Q Q Q dE Q Q Q Q Q g3 Q (aL 3 Q (aS hm (λb4=>([(7,.msl 1 1 0 b4.length)])) (λb4=>([(1,.flat 3 1 (b4.map (D.int .i64)))])) [7] [] Q (λz5 hm=>?_) (λb4 hm=>?_))))
 ·refine bO 7 Q (aW hm (λ(x9,b10)=>([(7,.msl 1 1 0 b10.length),(20,.d (.int .i64 x9))])) (λ(x9,b10)=>([(1,.flat 3 1 (b10.map (D.int .i64)))])) [7,20] [1,3,19] [0,1] Q k0 Q Q Q Q Q (λs z11 hm hz11=>?_));obtain⟨x9,b10⟩:=s;refine WN [1,3,7,19,20] Q Q (bO 5 Q (bJ hm Q (λh12 hm=>?_) (λh12 hm=>?_)))
  ·refine aQ 12 Q (c_N hm (jO ·) Q Q Q Q λr13 hm=>aL 3 Q (cF [(33,.d (.bool (((decide ((0:Int)<=r13))&&(decide (r13 < (p1.length:Int)))))))] [33] [1,3,7,8,9,19,20] Q ?_ ?_))
   ·refine aO 3 Q (SB TK Q (λq14 hq14=>?_));cases q14
    ·refine aD 6 Q ?_;exact⟨[0,1],Q,k0,aV (aH (aI (by first|(simp [hq14];done)|(simp only [hq14];simp))) Q) Q⟩
    refine aG 2 Q (SX Q Q (aN TK Q Q Q) (aD 3 Q ?_));exact⟨[0,1],Q,k0,aV (aH (aI (by first|(simp [hq14];done)|(simp only [hq14];simp))) Q) Q⟩
   refine WN [1,3,7,8,9,19,20,33] Q Q (bG hm Q (λh15 hm=>?_) (λh15 hm=>?_))
   ·exact aQ 5 Q (VE hm λe16 he16 hm=>SX Q Q (bD TK Q Q Q Q he16) (aG 2 Q (VE hm λe17 he17 hm=>SX Q Q (nX TK Q Q Q Q he17 Q) (qYC (x':=e16.pos) TK Q Q Q Q Q he17.2 Q Q Q (yK 7 (b10.set x9.toNat e16.pos).length Q List.length_set.symm (yK 34 (b10.set x9.toNat e16.pos).length Q List.length_set.symm (aG 4 Q (GE hm λg18 hm=>SX Q Q (bK Q Q Q Q g18) (aD 2 Q (aX [0,1] hm Q Q))))))))))
   exact aQ 4 Q (GE hm λg19 hm=>SX Q Q (bK Q Q Q Q g19) (aD 2 Q (aX [0,1] hm Q Q)))
  refine aM 2 Q (IE hm λv20 hm hz=>?_);rw [hz11 _ hz] at hm;exact WX (bC 1 Q (aT [0,1] hm Q Q))
 refine WN [7] Q Q (aM 6 Q ?_);obtain rfl:=OJ hm;exact EndsS.one _ Q (bS Q) (.refl _)
theorem qNM {p0:Int} {p1:Int} {p2:Int} {r0:Int} {r1:Bool} (hm:oP p0 p1 p2=some (r0,r1)):Ret TP 84 [] (λ_=>false) ([.int .i64 p0,.int .i64 p1,.int .i64 p2].map .d) (.tup ([.int .i64 r0,.bool (r1)].map .d)) []:=by
 refine dQ (bA Q) func84 Q ntmps84 Q Q (λwX gX=>?_);unfold oP at hm;refine WN [0,1,2] Q Q (bO 5 Q (bE hm (λ_=>[]) (λ_=>[]) [] [] Q (λz1 hm hz1=>?_) (λj hm=>?_)))
 ·refine aO 1 Q (SX Q Q (x_ldG (d:=.agg (passages.flatMap λx=>x.enc.cells)) Q lay229 (List.mem_singleton.2 Q) Q Q Q) (aL 4 Q (aW hm (λx3=>([(11,.d (.int .i64 x3))])) (λx3=>[]) [11] [0,1,2,10] [] Q k0 Q Q Q Q Q (λx3 z4 hm hz4=>WN [0,1,2,10,11] Q Q (bO 5 Q (bJ hm Q (λh5 hm=>?_) (λh5 hm=>?_)))))))
  ·refine aQ 5 Q (VE hm λe6 he6 hm=>SX Q Q (x_ixA (f:=Br.enc) (xs:=passages) (λ_=>Q) (λ_=>Q) Q Tryz.underlying229 lay228 Q Q he6 Q) (cH 0 Q Q zBI Q (aL 3 Q (cF [(29,.d (.bool (((decide (e6.kind=p0))&&((decide (e6.inV=p1))&&(decide (e6.out=p2)))))))] [29] [0,1,2,9,10,11] Q ?_ ?_))))
   ·refine aO 5 Q (SB TK Q (λq7 hq7=>?_));cases q7
    ·refine aD 12 Q ?_;exact⟨[0],Q,k0,aV (aH (aI (by first|(simp [hq7];done)|(simp only [hq7];simp))) Q) Q⟩
    refine aG 5 Q (SB TK Q (λq8 hq8=>?_));cases q8
    ·refine aD 6 Q ?_;exact⟨[0],Q,k0,aV (aH (aI (by first|(simp [hq7,hq8];done)|(simp only [hq7,hq8];simp))) Q) Q⟩
    refine aD 6 Q ?_;exact⟨[0],Q,k0,aV (aH (aI (by first|(simp [hq7,hq8];done)|(simp only [hq7,hq8];simp))) Q) Q⟩
   refine WN [0,1,2,9,10,11,29] Q Q (bG hm Q (λh9 hm=>?_) (λh9 hm=>?_))
   ·refine aM 10 Q (IE hm λv10 hm hz=>?_);rw [hz4 _ hz] at hm;refine WR (bC 1 Q (IE hm λv11 hm hz=>?_));rw [hz1 _ hz] at hm;refine WR ?_;obtain⟨rfl,rfl⟩:=Prod.mk.inj (Option.some.inj hm);exact EndsT.two Q (.d _) (.refl _) (.d _) (.refl _)
   exact aQ 4 Q (GE hm λg12 hm=>SX Q Q (bK Q Q Q Q g12) (aD 2 Q (aX [] hm Q Q)))
  refine aM 2 Q (IE hm λv13 hm hz=>?_);rw [hz4 _ hz] at hm;exact WX (bC 1 Q (aX [] hm Q Q))
 refine WN [] Q Q (aM 6 Q ?_);obtain⟨rfl,rfl⟩:=Prod.mk.inj (Option.some.inj hm);exact EndsT.two Q (.d _) (.refl _) (.d _) (.refl _)
theorem qNN {p0:Int} {p1:Int} {p2:Int} {r0:Int} {r1:Bool} (hm:oP p0 p1 p2=some (r0,r1)):RetT TP 84 [.int .i64 p0,.int .i64 p1,.int .i64 p2] [.int .i64 r0,.bool (r1)]:=.of (mv:=λ_=>false) (qNM hm)
theorem qCP {p0:An} {r:(List Af)} (hm:jP p0=some r):RetD TP 39 [p0.enc] (.sl 3 (r.map Af.enc)):=by
 refine .of (mv:=λ_=>false) (aK (bA Q) func39 Q ntmps39 Q Q (λwX gX=>?_));unfold jP at hm;refine WN [0] Q Q (aO 1 Q (bQ 0 Q Q Q (aG 4 Q (cS (f:=Af.enc) 1 83 3 Q Q Q (aG 10 Q (SX Q Q (aN TK Q Q Q) (c_D hm (zP ·) Q Q Q Q λr1 hm=>aL 3 Q (aS hm (λb2=>([(3,.msl 1 3 0 b2.length)])) (λb2=>([(1,.flat 83 3 (b2.map Af.enc))])) [3] [] Q (λz3 hm=>?_) (λb2 hm=>?_)))))))))
 ·refine aO 3 Q (SX Q Q (aN TK Q Q Q) (aL 4 Q (aW hm (λ(x7,b8)=>([(3,.msl 1 3 0 b8.length),(23,.d (.int .i64 x7))])) (λ(x7,b8)=>([(1,.flat 83 3 (b8.map Af.enc))])) [3,23] [1,4,21,22] [0,1] Q k0 Q Q Q Q Q (λs z9 hm hz9=>?_))));obtain⟨x7,b8⟩:=s;refine WN [1,3,4,21,22,23] Q Q (bO 5 Q (bJ hm Q (λh10 hm=>?_) (λh10 hm=>?_)))
  ·refine bN 2 Q (aS hm (λb11=>([(3,.msl 1 3 0 b11.length)])) (λb11=>([(1,.flat 83 3 (b11.map Af.enc))])) [3] [1,4,21,22,23] Q (λz12 hm=>?_) (λb11 hm=>?_))
   ·refine aO 2 Q (VE hm λe13 he13 hm=>SX Q Q (bD TK Q Q Q Q he13) (aG 1 Q (cH 2 Q Q oW Q (cR 2 [some 3,none,none,none,none,none,none,none,none,none,none,none,none,none,none,none,none,none,none,none,none,none,none,none,some 4,some 2,none,none,none,none,none,none] Q Q (aG 7 Q (SX Q Q (aN TK Q Q Q) (aL 4 Q (aW hm (λ(x17,b18)=>([(3,.msl 1 3 0 b18.length),(31,.d (.int .i64 x17))])) (λ(x17,b18)=>([(1,.flat 83 3 (b18.map Af.enc))])) [3,31] [1,4,6,21,22,23,29,30] [0,1,2] Q k0 Q Q Q Q Q (λs z19 hm hz19=>?_)))))))));obtain⟨x17,b18⟩:=s;refine WN [1,3,4,6,21,22,23,29,30,31] Q Q (bO 5 Q (bJ hm Q (λh20 hm=>?_) (λh20 hm=>?_)))
    ·refine aQ 5 Q (VE hm λe21 he21 hm=>SX Q Q (bD TK Q Q Q Q he21) (aG 1 Q (cH 3 Q Q fH Q (aL 4 Q ?_))));refine cF [(53,.d (.bool (((decide (e21.el < (0:Int)))||((decide ((p0.layout.Ae.length:Int)<=e21.el))||(decide ((r1.length:Int)<=e21.el)))))))] [53] [1,3,4,6,8,21,22,23,29,30,31] Q ?_ ?_
     ·refine aO 4 Q (SB TK Q (λq22 hq22=>?_));cases q22
      ·refine aG 5 Q (SX Q Q (aN TK Q Q Q) (aG 2 Q (SB TK Q (λq23 hq23=>?_))));cases q23
       ·refine aG 3 Q (SX Q Q (aN TK Q Q Q) (aD 3 Q ?_));exact⟨[0,1,2,3],Q,k0,aV (aH (aI (by first|(simp [hq22,hq23];done)|(simp only [hq22,hq23];simp))) Q) Q⟩
       refine aD 7 Q ?_;exact⟨[0,1,2,3],Q,k0,aV (aH (aI (by first|(simp [hq22,hq23];done)|(simp only [hq22,hq23];simp))) Q) Q⟩
      refine aD 16 Q ?_;exact⟨[0,1,2,3],Q,k0,aV (aH (aI (by first|(simp [hq22];done)|(simp only [hq22];simp))) Q) Q⟩
     refine WN [1,3,4,6,8,21,22,23,29,30,31,53] Q Q (bG hm Q (λh24 hm=>?_) (λh24 hm=>?_))
     ·exact aQ 5 Q (GE hm λg25 hm=>SX Q Q (bK Q Q Q Q g25) (aD 2 Q (aX [0,1,2] hm Q Q)))
     refine bN 2 Q (bI follows ?_);iterate 5 (refine DA [0,1,2,3] TK Q ?_)
     refine VE hm λe26 he26 hm=>DX [0,1,2,3] Q Q (bD TK Q Q Q Q he26) ?_;iterate 6 (refine DA [0,1,2,3] TK Q ?_)
     refine BE hm λr27 hr27 hm=>?_;obtain⟨r28,r29⟩:=r27;refine DX [0,1,2,3] Q Q (cU Q Q Q (qNN hr27)) ?_;iterate 4 (refine DA [0,1,2,3] TK Q ?_)
     refine DT ?_ (by kernel_rfl);refine aL 3 Q (WN [1,3,4,6,8,9,10,21,22,23,29,30,31] Q Q (aS hm (λx30=>([(83,.d (.bool (x30)))])) (λx30=>[]) [83] [1,3,4,6,8,21,22,23,29,30,31] Q (λz31 hm=>?_) (λx30 hm=>?_)))
     ·refine aO 2 Q (SB TK Q (λq32 hq32=>?_));cases q32
      ·replace hm:=JB hq32 hm;exact aD 13 Q (aT [0,1,2,3] hm Q Q)
      replace hm:=JA hq32 hm;refine aG 3 Q (SB TK Q (λq33 hq33=>?_));cases q33
      ·replace hm:=eJ hq33 hm;exact aD 9 Q (aT [0,1,2,3] hm Q Q)
      replace hm:=eI hq33 hm;exact aG 4 Q (VE hm λe34 he34 hm=>SX Q Q (bD TK Q Q Q Q he34) (aD 4 Q (aT [0,1,2,3] hm Q Q)))
     refine WN [1,3,4,6,8,21,22,23,29,30,31,83] Q Q (bG hm Q (λh35 hm=>?_) (λh35 hm=>?_))
     ·exact aQ 8 Q (SX Q Q (bX Q qCC eE Q Q Q Q) (SX Q Q (cI [.tmp 91] TK Q Q eE Q Q Q Q Q) (GE hm λg36 hm=>cK (f:=Af.enc) ([(⟨(4:Int),e13.cab.train.id,e21.el⟩:Af)]:List Af) TK Q Q eE Q Q Q Q Q (λh=>absurd h (zQV _)) Q cE g36 Q Q (aG 5 Q (GE hm λg37 hm=>SX Q Q (bK Q Q Q Q g37) (aD 2 Q (aX [0,1,2] hm Q Q)))))))
     exact aQ 4 Q (GE hm λg38 hm=>SX Q Q (bK Q Q Q Q g38) (aD 2 Q (aX [0,1,2] hm Q Q)))
    refine aM 2 Q (IE hm λv39 hm hz=>?_);rw [hz19 _ hz] at hm;exact WX (bC 2 Q (aT [0,1] hm Q Q))
   exact WN [1,3,4,21,22,23] Q Q (aQ 1 Q (GE hm λg40 hm=>SX Q Q (bK Q Q Q Q g40) (aD 2 Q (aX [0,1] hm Q Q))))
  refine aM 2 Q (IE hm λv41 hm hz=>?_);rw [hz9 _ hz] at hm;exact WX (bC 1 Q (aT [0,1] hm Q Q))
 refine WN [3] Q Q (aM 6 Q ?_);obtain rfl:=OJ hm;exact EndsS.one _ Q (bS Q) (.refl _)
theorem qAM {p0:An} {r:(List Af)} (hm:gB p0=some r):RetD TP 40 [p0.enc] (.sl 3 (r.map Af.enc)):=by
 refine .of (mv:=λ_=>false) (aK (bA Q) func40 Q ntmps40 Q Q (λwX gX=>?_));unfold gB at hm;refine WN [0] Q Q (aO 1 Q (bQ 0 Q Q Q (aG 4 Q (vY 3 4 Q (qGU 9 (.mmap 1) Q Q (aL 3 Q (aS hm (λm1=>[]) (λm1=>([(1,.map 3 4 (dC (D.int .i64) D.bool m1))])) [] [1,3] Q (λz2 hm=>?_) (λm1 hm=>?_))))))))
 ·refine aO 4 Q (SX Q Q (aN TK Q Q Q) (aL 4 Q (aW hm (λ(x6,b7)=>([(14,.d (.int .i64 x6))])) (λ(x6,b7)=>([(1,.map 3 4 (dC (D.int .i64) D.bool b7))])) [14] [1,3,12,13] [0,1] Q k0 Q Q Q Q Q (λs z8 hm hz8=>?_))));obtain⟨x6,b7⟩:=s;refine WN [1,3,12,13,14] Q Q (bO 5 Q (bJ hm Q (λh9 hm=>?_) (λh9 hm=>?_)))
  ·refine aQ 6 Q (VE hm λe10 he10 hm=>SX Q Q (bD TK Q Q Q Q he10) (aG 1 Q (cH 2 Q Q dS Q (cR 2 [none,none,none,some 3,some 2,some 1,none,none,some 3,some 2,some 1,some 2,some 1,some 2] Q Q (aL 4 Q (aS hm (λx11=>([(34,.d (.bool (x11)))])) (λx11=>[]) [34] [1,3,5,12,13,14] Q (λz12 hm=>?_) (λx11 hm=>?_)))))))
   ·refine aO 5 Q (SX Q Q (aN TK Q Q Q) (aG 1 Q (SB TK Q (λq13 hq13=>?_))));cases q13
    ·replace hm:=JF hq13 hm;exact aD 10 Q (aT [0,1,2] hm Q Q)
    replace hm:=JT hq13 hm;exact aG 4 Q (VE hm λe14 he14 hm=>SX Q Q (bD TK Q Q Q Q he14) (aD 5 Q (aT [0,1,2] hm Q Q)))
   refine WN [1,3,5,12,13,14,34] Q Q (bG hm Q (λh15 hm=>?_) (λh15 hm=>?_))
   ·exact aQ 4 Q (GE hm λg16 hm=>qJT (nR .i64) D.bool qKZ Q Q Q Q g16 (aG 4 Q (GE hm λg17 hm=>SX Q Q (bK Q Q Q Q g17) (aD 2 Q (aX [0,1] hm Q Q)))))
   exact aQ 4 Q (GE hm λg18 hm=>SX Q Q (bK Q Q Q Q g18) (aD 2 Q (aX [0,1] hm Q Q)))
  refine aM 2 Q (IE hm λv19 hm hz=>?_);rw [hz8 _ hz] at hm;exact WX (bC 1 Q (aT [0,1] hm Q Q))
 refine WN [1,3] Q Q (aQ 1 Q (cS (f:=Af.enc) 2 83 3 Q Q Q (aL 2 Q (aS hm (λb20=>([(6,.msl 2 3 0 b20.length)])) (λb20=>([(2,.flat 83 3 (b20.map Af.enc))])) [6] [] Q (λz21 hm=>?_) (λb20 hm=>?_)))))
 ·refine aO 3 Q (SX Q Q (aN TK Q Q Q) (aL 4 Q (aW hm (λ(x25,b26)=>([(6,.msl 2 3 0 b26.length),(42,.d (.int .i64 x25))])) (λ(x25,b26)=>([(2,.flat 83 3 (b26.map Af.enc))])) [6,42] [3,40,41] [0,1,2] Q k0 Q Q Q Q Q (λs z27 hm hz27=>?_))));obtain⟨x25,b26⟩:=s;refine WN [3,6,40,41,42] Q Q (bO 5 Q (bJ hm Q (λh28 hm=>?_) (λh28 hm=>?_)))
  ·refine aQ 6 Q (VE hm λe29 he29 hm=>SX Q Q (bD TK Q Q Q Q he29) (aL 5 Q (aS hm (λx30=>([(53,.d (.bool (x30)))])) (λx30=>[]) [53] [3,6,7,40,41,42] Q (λz31 hm=>?_) (λx30 hm=>?_))))
   ·refine aO 2 Q (SB TK Q (λq32 hq32=>?_));cases q32
    ·replace hm:=JB hq32 hm;exact aD 6 Q (aT [0,1,2] hm Q Q)
    replace hm:=JA hq32 hm;exact aG 2 Q (GE hm λg33 hm=>SX Q Q (vT (nR .i64) D.bool _ _ false Q qKZ qME Q Q Q Q g33) (aD 3 Q (aT [0,1,2] hm Q Q)))
   refine WN [3,6,7,40,41,42,53] Q Q (bG hm Q (λh34 hm=>?_) (λh34 hm=>?_))
   ·exact aQ 3 Q (SX Q Q (bX Q qCC eE Q Q Q Q) (SX Q Q (cI [.tmp 56] TK Q Q eE Q Q Q Q Q) (GE hm λg35 hm=>cK (f:=Af.enc) ([(⟨(5:Int),x25,(0:Int)⟩:Af)]:List Af) TK Q Q eE Q Q Q Q Q (λh=>absurd h (zQV _)) Q cE g35 Q Q (aG 5 Q (GE hm λg36 hm=>SX Q Q (bK Q Q Q Q g36) (aD 2 Q (aX [0,1,2] hm Q Q)))))))
   exact aQ 4 Q (GE hm λg37 hm=>SX Q Q (bK Q Q Q Q g37) (aD 2 Q (aX [0,1,2] hm Q Q)))
  refine aM 2 Q (IE hm λv38 hm hz=>?_);rw [hz27 _ hz] at hm;exact WX (bC 1 Q (aT [0,1,2] hm Q Q))
 refine WN [6] Q Q (aM 6 Q ?_);obtain rfl:=OJ hm;exact EndsS.one _ Q (bS Q) (.refl _)
theorem qAN {p0:An} {r:(List Af)} (hm:gC p0=some r):RetD TP 41 [p0.enc] (.sl 3 (r.map Af.enc)):=by
 refine .of (mv:=λ_=>false) (aK (bA Q) func41 Q ntmps41 Q Q (λwX gX=>?_));unfold gC at hm;refine WN [0] Q Q (aO 1 Q (bQ 0 Q Q Q (aG 4 Q (vY 3 3 Q (qGU 11 (.mmap 1) Q Q (aL 3 Q (aS hm (λm1=>[]) (λm1=>([(1,.map 3 3 (dC (D.int .i64) (D.int .i64) m1))])) [] [1,3] Q (λz2 hm=>?_) (λm1 hm=>?_))))))))
 ·refine aO 4 Q (SX Q Q (aN TK Q Q Q) (aL 4 Q (aW hm (λ(x6,b7)=>([(16,.d (.int .i64 x6))])) (λ(x6,b7)=>([(1,.map 3 3 (dC (D.int .i64) (D.int .i64) b7))])) [16] [1,3,14,15] [0,1] Q k0 Q Q Q Q Q (λs z8 hm hz8=>?_))));obtain⟨x6,b7⟩:=s;refine WN [1,3,14,15,16] Q Q (bO 5 Q (bJ hm Q (λh9 hm=>?_) (λh9 hm=>?_)))
  ·refine bN 2 Q (aS hm (λm10=>[]) (λm10=>([(1,.map 3 3 (dC (D.int .i64) (D.int .i64) m10))])) [] [1,3,14,15,16] Q (λz11 hm=>?_) (λm10 hm=>?_))
   ·refine aO 2 Q (VE hm λe12 he12 hm=>SX Q Q (bD TK Q Q Q Q he12) (aG 1 Q (cH 2 Q Q qO Q (cR 2 [none,none,none,none,some 3,some 1,some 1,some 1,some 1,none,none,none,none,none] Q Q (aG 6 Q (SX Q Q (aN TK Q Q Q) (aL 4 Q (aW hm (λ(x16,b17)=>([(23,.d (.int .i64 x16))])) (λ(x16,b17)=>([(1,.map 3 3 (dC (D.int .i64) (D.int .i64) b17))])) [23] [1,3,14,15,16,21,22] [0,1] Q k0 Q Q Q Q Q (λs z18 hm hz18=>?_)))))))));obtain⟨x16,b17⟩:=s;refine WN [1,3,14,15,16,21,22,23] Q Q (bO 5 Q (bJ hm Q (λh19 hm=>?_) (λh19 hm=>?_)))
    ·exact aQ 5 Q (VE hm λe20 he20 hm=>SX Q Q (bD TK Q Q Q Q he20) (aG 7 Q (GE hm λg21 hm=>SX Q Q (vT (nR .i64) (D.int .i64) _ _ (0:Int) Q qKY dE Q Q Q Q g21) (GE hm λg22 hm=>SX Q Q (bK Q Q Q Q g22) (GE hm λg23 hm=>qJT (nR .i64) (D.int .i64) qKY Q Q Q Q g23 (aG 4 Q (GE hm λg24 hm=>SX Q Q (bK Q Q Q Q g24) (aD 2 Q (aX [0,1] hm Q Q)))))))))
    refine aM 2 Q (IE hm λv25 hm hz=>?_);rw [hz18 _ hz] at hm;exact WX (bC 2 Q (aT [0,1] hm Q Q))
   exact WN [1,3,14,15,16] Q Q (aQ 1 Q (GE hm λg26 hm=>SX Q Q (bK Q Q Q Q g26) (aD 2 Q (aX [0,1] hm Q Q))))
  refine aM 2 Q (IE hm λv27 hm hz=>?_);rw [hz8 _ hz] at hm;exact WX (bC 1 Q (aT [0,1] hm Q Q))
 refine WN [1,3] Q Q (aQ 1 Q (cS (f:=Af.enc) 2 83 3 Q Q Q (aL 2 Q (aS hm (λb28=>([(8,.msl 2 3 0 b28.length)])) (λb28=>([(2,.flat 83 3 (b28.map Af.enc))])) [8] [] Q (λz29 hm=>?_) (λb28 hm=>?_)))))
 ·refine aO 4 Q (SX Q Q (aN TK Q Q Q) (aL 4 Q (aW hm (λ(x33,b34)=>([(8,.msl 2 3 0 b34.length),(37,.d (.int .i64 x33))])) (λ(x33,b34)=>([(2,.flat 83 3 (b34.map Af.enc))])) [8,37] [1,3,36] [0,1,2] Q k0 Q Q Q Q Q (λs z35 hm hz35=>?_))));obtain⟨x33,b34⟩:=s;refine WN [1,3,8,36,37] Q Q (bO 5 Q (bJ hm Q (λh36 hm=>?_) (λh36 hm=>?_)))
  ·refine bN 9 Q (aS hm (λidle37=>([(10,.d (.bool (idle37)))])) (λidle37=>[]) [10] [1,3,8,9,36,37] Q (λz38 hm=>?_) (λidle37 hm=>?_))
   ·refine aO 5 Q (SX Q Q (aN TK Q Q Q) (aG 1 Q (SB TK Q (λq39 hq39=>?_))));cases q39
    ·replace hm:=JF hq39 hm;exact aD 11 Q (aT [0,1,2] hm Q Q)
    replace hm:=JT hq39 hm;exact aG 4 Q (VE hm λe40 he40 hm=>SX Q Q (bD TK Q Q Q Q he40) (aD 6 Q (aT [0,1,2] hm Q Q)))
   refine WN [1,3,8,9,10,36,37] Q Q (aS hm (λx41=>([(68,.d (.bool (x41)))])) (λx41=>[]) [68] [1,3,8,9,36,37] Q (λz42 hm=>?_) (λx41 hm=>?_))
   ·refine aO 3 Q (GE hm λg43 hm=>SX Q Q (vT (nR .i64) (D.int .i64) _ _ (0:Int) Q qKY dE Q Q Q Q g43) (aG 1 Q (SB TK Q (λq44 hq44=>?_))));cases q44
    ·replace hm:=JF hq44 hm;refine aG 2 Q (GE hm λg45 hm=>SX Q Q (vT (nR .i64) (D.int .i64) _ _ (0:Int) Q qKY dE Q Q Q Q g45) (aG 1 Q (SB TK Q (λq46 hq46=>?_))));cases q46
     ·replace hm:=JF hq46 hm;exact aD 4 Q (aT [0,1,2] hm Q Q)
     replace hm:=JT hq46 hm;exact aD 4 Q (aT [0,1,2] hm Q Q)
    replace hm:=JT hq44 hm;exact aD 9 Q (aT [0,1,2] hm Q Q)
   refine WN [1,3,8,9,36,37,68] Q Q (bG hm Q (λh47 hm=>?_) (λh47 hm=>?_))
   ·exact aQ 3 Q (SX Q Q (bX Q qCC eE Q Q Q Q) (SX Q Q (cI [.tmp 71] TK Q Q eE Q Q Q Q Q) (GE hm λg48 hm=>cK (f:=Af.enc) ([(⟨(6:Int),x33,(0:Int)⟩:Af)]:List Af) TK Q Q eE Q Q Q Q Q (λh=>absurd h (zQV _)) Q cE g48 Q Q (aG 5 Q (GE hm λg49 hm=>SX Q Q (bK Q Q Q Q g49) (aD 2 Q (aX [0,1,2] hm Q Q)))))))
   exact aQ 4 Q (GE hm λg50 hm=>SX Q Q (bK Q Q Q Q g50) (aD 2 Q (aX [0,1,2] hm Q Q)))
  refine aM 2 Q (IE hm λv51 hm hz=>?_);rw [hz35 _ hz] at hm;exact WX (bC 1 Q (aT [0,1,2] hm Q Q))
 refine WN [8] Q Q (aM 6 Q ?_);obtain rfl:=OJ hm;exact EndsS.one _ Q (bS Q) (.refl _)
theorem qN {p0:(List Av)} {p1:Av->Av->Option Bool} {p2:Av->Av->Option Af} {r:(List Af)} {c1:D} (hf1:∀ a0 a1 r,p1 a0 a1=some r->∃ F cs,qDC c1=some (F,cs)/\RetD TP F ([a0.enc,a1.enc]++cs) (.bool (r))) {c2:D} (hf2:∀ a0 a1 r,p2 a0 a1=some r->∃ F cs,qDC c2=some (F,cs)/\RetD TP F ([a0.enc,a1.enc]++cs) (r.enc)) (hm:dI p0 p1 p2=some r):Ret TP 76 [] (λ_=>false) ([.sl 32 (p0.map Av.enc),c1,c2].map .d) (.msl 0 3 0 r.length) [.flat 83 3 (r.map Af.enc)]:=by
 refine iL (bA Q) func76 Q ntmps76 Q Q (λwX gX=>?_);unfold dI at hm;refine WN [0,1,2] Q Q (aO 1 Q (cS (f:=Af.enc) 0 83 3 Q Q Q (aG 3 Q (cS (f:=Af.enc) 1 83 3 Q Q Q (aL 2 Q (aS hm (λb1=>([(7,.msl 1 3 0 b1.length)])) (λb1=>([(1,.flat 83 3 (b1.map Af.enc))])) [7] [] Q (λz2 hm=>?_) (λb1 hm=>?_)))))))
 ·refine aO 2 Q (SX Q Q (aN TK Q Q Q) (aL 4 Q (aW hm (λ(x6,b7)=>([(7,.msl 1 3 0 b7.length),(14,.d (.int .i64 x6))])) (λ(x6,b7)=>([(1,.flat 83 3 (b7.map Af.enc))])) [7,14] [0,1,2,12,13] [0,1] Q k0 Q Q Q Q Q (λs z8 hm hz8=>?_))));obtain⟨x6,b7⟩:=s;refine WN [0,1,2,7,12,13,14] Q Q (bO 5 Q (bJ hm Q (λh9 hm=>?_) (λh9 hm=>?_)))
  ·refine bN 2 Q (aS hm (λb10=>([(7,.msl 1 3 0 b10.length)])) (λb10=>([(1,.flat 83 3 (b10.map Af.enc))])) [7] [0,1,2,12,13,14] Q (λz11 hm=>?_) (λb10 hm=>?_))
   ·refine aO 3 Q (VE hm λe12 he12 hm=>SX Q Q (bD TK Q Q Q Q he12) (aG 1 Q (cH 2 Q Q oW Q (cR 2 [some 3,none,none,none,none,none,none,none,none,none,none,none,none,none,none,none,none,none,none,none,none,none,none,none,some 4,some 2,none,none,none,none,none,none] Q Q (aG 7 Q (GE hm λg13 hm=>SX Q Q (bK Q Q Q Q g13) (GE hm λg14 hm=>SX Q Q (yE TK Q Q Q Q Q g14) (SX Q Q (aN TK Q Q Q) (aL 4 Q (aW hm (λ(x18,b19)=>([(7,.msl 1 3 0 b19.length),(24,.d (.int .i64 x18))])) (λ(x18,b19)=>([(1,.flat 83 3 (b19.map Af.enc))])) [7,24] [0,1,2,9,12,13,14,22,23] [0,1,2] Q k0 Q Q Q Q Q (λs z20 hm hz20=>?_)))))))))));obtain⟨x18,b19⟩:=s;refine WN [0,1,2,7,9,12,13,14,22,23,24] Q Q (bO 5 Q (bJ hm Q (λh21 hm=>?_) (λh21 hm=>?_)))
    ·refine aQ 5 Q (VE hm λe22 he22 hm=>SX Q Q (bD TK Q Q Q Q he22) (aG 1 Q (cH 3 Q Q oW Q (cR 3 [some 3,none,none,none,none,none,none,none,none,none,none,none,none,none,none,none,none,none,none,none,none,none,none,none,some 4,some 2,none,none,none,none,none,none] Q Q (aG 7 Q (BE hm λr23 hr23 hm=>?_))))));obtain⟨Fr23,csr23,hFr23,hcr23⟩:=hf1 _ _ _ hr23;refine SX Q Q (uU Q Q hFr23 Q hcr23) (aL 2 Q (bG hm Q (λh24 hm=>?_) (λh24 hm=>?_)))
     ·refine aQ 5 Q (BE hm λr25 hr25 hm=>?_);obtain⟨Fr25,csr25,hFr25,hcr25⟩:=hf2 _ _ _ hr25;exact SX Q Q (uU Q Q hFr25 Q hcr25) (SX Q Q (cI [.tmp 36] TK Q Q eE Q Q Q Q Q) (GE hm λg26 hm=>cK (f:=Af.enc) ([r25]:List Af) TK Q Q eE Q Q Q Q Q (λh=>absurd h (zQV _)) Q cE g26 Q Q (aL 4 Q (WN [0,1,2,7,9,12,13,14,22,23,24] Q Q (aQ 1 Q (GE hm λg27 hm=>SX Q Q (bK Q Q Q Q g27) (aD 2 Q (aX [0,1,2] hm Q Q))))))))
     exact aQ 4 Q (GE hm λg28 hm=>SX Q Q (bK Q Q Q Q g28) (aD 2 Q (aX [0,1,2] hm Q Q)))
    refine aM 2 Q (IE hm λv29 hm hz=>?_);rw [hz20 _ hz] at hm;exact WX (bC 2 Q (aT [0,1] hm Q Q))
   exact WN [0,1,2,7,12,13,14] Q Q (aQ 1 Q (GE hm λg30 hm=>SX Q Q (bK Q Q Q Q g30) (aD 2 Q (aX [0,1] hm Q Q))))
  refine aM 2 Q (IE hm λv31 hm hz=>?_);rw [hz8 _ hz] at hm;exact WX (bC 1 Q (aT [0,1] hm Q Q))
 refine WN [7] Q Q (aM 6 Q ?_);obtain rfl:=OJ hm;exact⟨_,[1],res Q,by decide,k0,Q,Q⟩
theorem tY {p0:An} {r:(List Af)} (hm:dG p0=some r):Ret TP 36 [] (λ_=>false) ([p0.enc].map .d) (.msl 0 3 0 r.length) [.flat 83 3 (r.map Af.enc)]:=by
 refine iL (bA Q) func36 Q ntmps36 Q Q (λwX gX=>?_);unfold dG at hm;refine WN [0] Q Q (aO 1 Q (bQ 0 Q Q Q (cS (f:=Af.enc) 1 83 3 Q Q Q (aL 2 Q (zFJ 0 Q Q Q Q Q (aQ 9 Q (BE hm λr1 hr1 hm=>sY Q Q Q (qN (λ_ _ r h=>⟨73,_,Q,(lD h).retD⟩) (λ_ _ r h=>⟨77,_,Q,(lC h).retD⟩) hr1) Q Q (qGU 8 (.msl 2 3 0 r1.length) Q Q (aD 4 Q ?_)))))))));obtain rfl:=OJ hm;exact⟨_,[2],res Q,by decide,k0,Q,Q⟩
theorem lF {p0:An} {r:(List Af)} (hm:fT p0=some r):RetD TP 11 [p0.enc] (.sl 3 (r.map Af.enc)):=by
 refine .of (mv:=λ_=>false) (aK (bA Q) func11 Q ntmps11 Q Q (λwX gX=>?_));unfold fT at hm;refine WN [0] Q Q (aO 1 Q (bQ 0 Q Q Q (aG 5 Q (BE hm λr1 hr1 hm=>sY Q Q Q (tY hr1) Q Q (qGU 7 (.msl 1 3 0 r1.length) Q Q (aL 3 Q (aS hm (λb2=>([(3,.msl 1 3 0 b2.length)])) (λb2=>([(1,.flat 83 3 (b2.map Af.enc))])) [3] [1] Q (λz3 hm=>?_) (λb2 hm=>?_))))))))
 ·refine aO 3 Q (SX Q Q (aN TK Q Q Q) (aL 4 Q (aW hm (λ(x7,b8)=>([(3,.msl 1 3 0 b8.length),(11,.d (.int .i64 x7))])) (λ(x7,b8)=>([(1,.flat 83 3 (b8.map Af.enc))])) [3,11] [1,9,10] [0,1] Q k0 Q Q Q Q Q (λs z9 hm hz9=>?_))));obtain⟨x7,b8⟩:=s;refine WN [1,3,9,10,11] Q Q (bO 5 Q (bJ hm Q (λh10 hm=>?_) (λh10 hm=>?_)))
  ·refine aQ 5 Q (VE hm λe11 he11 hm=>SX Q Q (bD TK Q Q Q Q he11) (aG 1 Q (cH 2 Q Q oW Q (cR 2 [some 3,none,none,none,none,none,none,none,none,none,none,none,none,none,none,none,none,none,none,none,none,none,none,none,some 4,some 2,none,none,none,none,none,none] Q Q (aL 3 Q (aS hm (λx12=>([(27,.d (.bool (x12)))])) (λx12=>[]) [27] [1,3,5,9,10,11] Q (λz13 hm=>?_) (λx12 hm=>?_)))))))
   ·refine aO 4 Q (c_N hm (xS ·) Q Q Q Q λr14 hm=>SB TK Q (λq15 hq15=>?_));cases q15
    ·replace hm:=JB hq15 hm;exact aD 9 Q (aT [0,1,2] hm Q Q)
    replace hm:=JA hq15 hm;exact aD 9 Q (aT [0,1,2] hm Q Q)
   refine WN [1,3,5,9,10,11,27] Q Q (bG hm Q (λh16 hm=>?_) (λh16 hm=>?_))
   ·exact aQ 6 Q (SX Q Q (bX Q qCC eE Q Q Q Q) (SX Q Q (cI [.tmp 33] TK Q Q eE Q Q Q Q Q) (GE hm λg17 hm=>cK (f:=Af.enc) ([(⟨(2:Int),e11.cab.train.id,(0:Int)⟩:Af)]:List Af) TK Q Q eE Q Q Q Q Q (λh=>absurd h (zQV _)) Q cE g17 Q Q (aG 5 Q (GE hm λg18 hm=>SX Q Q (bK Q Q Q Q g18) (aD 2 Q (aX [0,1] hm Q Q)))))))
   exact aQ 4 Q (GE hm λg19 hm=>SX Q Q (bK Q Q Q Q g19) (aD 2 Q (aX [0,1] hm Q Q)))
  refine aM 2 Q (IE hm λv20 hm hz=>?_);rw [hz9 _ hz] at hm;exact WX (bC 1 Q (aT [0,1] hm Q Q))
 refine WN [1,3] Q Q (aS hm (λb21=>([(3,.msl 1 3 0 b21.length)])) (λb21=>([(1,.flat 83 3 (b21.map Af.enc))])) [3] [1] Q (λz22 hm=>?_) (λb21 hm=>?_))
 ·refine aO 5 Q (c_N hm (qIB ·) Q Q Q Q λr23 hm=>aL 3 Q (bG hm Q (λh24 hm=>?_) (λh24 hm=>?_)))
  ·exact aQ 2 Q (SX Q Q (bX Q qCC eE Q Q Q Q) (SX Q Q (cI [.tmp 44] TK Q Q eE Q Q Q Q Q) (GE hm λg25 hm=>cK (f:=Af.enc) ([(⟨(3:Int),(0:Int),(0:Int)⟩:Af)]:List Af) TK Q Q eE Q Q Q Q Q (λh=>absurd h (zQV _)) Q cE g25 Q Q (aD 2 Q (aT [0,1] hm Q Q)))))
  exact aM 1 Q (aT [0,1] hm Q Q)
 refine WN [1,3] Q Q (aQ 3 Q (c_D hm (qCP ·) Q Q Q Q λr26 hm=>GE hm λg27 hm=>cK (f:=Af.enc) r26 TK Q Q eE Q Q Q Q Q (λh=>absurd h (zQV _)) Q cE g27 Q Q (aG 6 Q (c_D hm (qAM ·) Q Q Q Q λr28 hm=>GE hm λg29 hm=>cK (f:=Af.enc) r28 TK Q Q eE Q Q Q Q Q (λh=>absurd h (zQV _)) Q cE g29 Q Q (aG 6 Q (c_D hm (qAN ·) Q Q Q Q λr30 hm=>GE hm λg31 hm=>cK (f:=Af.enc) r30 TK Q Q eE Q Q Q Q Q (λh=>absurd h (zQV _)) Q cE g31 Q Q (aD 4 Q ?_)))))));obtain rfl:=OJ hm;exact EndsS.one _ Q (bS Q) (.refl _)
theorem rH {p0:An} {r:Bool} (hm:iK p0=some r):RetN TP 12 [p0.enc] (.bool (r)):=by
 refine .unit (aK (bA Q) func12 Q ntmps12 Q Q (λwX gX=>?_)) Q;unfold iK at hm;exact WN [0] Q Q (aO 1 Q (bQ 0 Q Q Q (aG 5 Q (c_D hm (lF ·) Q Q Q Q λr1 hm=>SX Q Q (aN TK Q Q Q) (aD 5 Q (aR hm Q))))))
theorem lE {p0:An} {r:Bool} (hm:eN p0=some r):RetN TP 13 [p0.enc] (.bool (r)):=by
 refine .unit (aK (bA Q) func13 Q ntmps13 Q Q (λwX gX=>?_)) Q;unfold eN at hm;exact WN [0] Q Q (aO 1 Q (bQ 0 Q Q Q (aG 5 Q (c_D hm (wP ·) Q Q Q Q λr1 hm=>SX Q Q (aN TK Q Q Q) (aD 5 Q (aR hm Q))))))
theorem wY {p0:Ag} {p1:(List Bd)} {p2:(List Bc)} {p3:(List A6)} {r0:An} {r1:Int} (hm:vZ p0 p1 p2 p3=some (r0,r1)):Ret TP 29 [] (λ_=>false) ([p0.enc,.sl 10 (p1.map Bd.enc),.sl 3 (p2.map Bc.enc),.sl 2 (p3.map A6.enc)].map .d) (.tup [.agg [.d (.str r0.layout.name),.d (.sl 1 (r0.layout.Ac.map D.str)),.d (.sl 7 (r0.layout.Ae.map Aw.enc)),.d (.sl 4 (r0.layout.joints.map Ba.enc)),.d (.sl 4 (r0.layout.Ah.map A0.enc)),.d (.sl 3 (r0.layout.balises.map A4.enc)),.d (.sl 14 (r0.Ar.Ab.map Ai.enc)),.d (.sl 1 (r0.Ar.Ad.map (D.int .i64))),.d (.sl 1 (r0.Ar.A1.map (D.int .i64))),.d (.int .i64 r0.Ar.Ac),.d (.int .i64 r0.Ar.Ah),.d (.sl 3 (r0.inter.Ab.map Ak.enc)),.d (.sl 1 (r0.inter.lies.map (D.int .i64))),.d (.sl 3 (r0.machines.map As.enc)),.d (.sl 1 (r0.clear.map D.bool)),.msl 0 32 0 r0.units.length,.d (.sl 14 (r0.center.tracks.map A5.enc)),.d (.sl 4 (r0.center.sessions.map Ax.enc)),.d (.sl 4 (r0.air.map A9.enc)),.d (.sl 3 (r0.faults.map Be.enc)),.d (.sl 4 (r0.pending.map Bl.enc)),.d (.sl 4 (r0.possessions.map Ay.enc)),.d (.sl 6 (r0.restrictions.map Au.enc)),.d (.sl 3 (r0.orders.map Bf.enc)),.d (.sl 2 (r0.trips.map A6.enc)),.d (.sl 1 (r0.plan.starts.map (λ(l:List Int)=>D.sl 1 (l.map (D.int .i64))))),.d (.int .i64 r0.plan.cost),.d (.sl 1 (r0.progress.map (D.int .i64))),.d (.sl 5 (r0.decisions.map A3.enc)),.d (.int .i64 r0.now)],.d (.int .i64 r1)]) [.flat 81 32 (r0.units.map Av.enc)]:=by
 refine iL (bA Q) func29 Q ntmps29 Q Q (λwX gX=>?_);unfold vZ at hm;refine WN [0,1,2,3] Q Q (aO 1 Q (bQ 0 Q Q Q (cH 1 Q Q qDV Q (fL (f:=Av.enc) 1 15 2 81 32 Q Q Q (cR 1 [none,some 1,some 7,some 4,some 4,some 3,some 14,some 1,some 1,none,none,some 3,some 1,some 3,some 1,none,some 14,some 4,some 4,some 3,some 4,some 4,some 6,some 3,some 2,some 1,none,some 1,some 5,none] Q Q (aG 5 Q (BE hm λr1 hr1 hm=>?_)))))));obtain⟨r2,r3⟩:=r1;refine SX Q Q (cU Q Q Q (xB hr1)) (aG 3 Q (cH 3 Q Q qAH Q (cR 3 [some 14,some 1,some 1,none,none] Q Q (aL 10 Q (eC hm Q (λh4 hm=>?_) (λh4 hm=>?_))))))
 ·cases hm
 refine aQ 6 Q (BE hm λr5 hr5 hm=>?_);obtain⟨r6,r7⟩:=r5;refine SX Q Q (cU Q Q Q (qMY hr5)) (aG 3 Q (cH 4 Q Q qQL Q (cR 4 [some 14,some 4] Q Q (aL 4 Q (WN [1,2,3,4,8,10,11,12] Q Q (bN 6 Q (eC hm Q (λh8 hm=>?_) (λh8 hm=>?_))))))))
 ·cases hm
 refine bN 2 Q (cV (bI follows (DA [0] TK Q ?_)));iterate 2 (refine DA [3] TK Q ?_)
 refine kW [] hm (qHJ ·) Q Q Q Q λr9 hm=>DA [3] TK Q (kW [] hm (qHI ·) Q Q Q Q λr10 hm=>DA [] TK Q (DA [0] TK Q (DX [] Q Q (aN TK Q Q Q) (GE hm λg11 hm=>DX [] Q Q (qJK (f:=D.bool) (x:=false) TK Q Q qME Q Q Q Q Q g11 Q) (DA [4] TK Q ?_)))));iterate 2 (refine DA [] TK Q ?_)
 refine DX [] Q Q (aN TK Q Q Q) (GE hm λg12 hm=>DX [] Q Q (qJK (f:=(D.int .i64)) (x:=(0:Int)) TK Q Q dE Q Q Q Q Q g12 Q) (DX [] Q Q (nJ (v:=.d (.agg [(.str p0.name),(.sl 1 (p0.Ac.map D.str)),(.sl 7 (p0.Ae.map Aw.enc)),(.sl 4 (p0.joints.map Ba.enc)),(.sl 4 (p0.Ah.map A0.enc)),(.sl 3 (p0.balises.map A4.enc)),(.sl 14 (r2.Ab.map Ai.enc)),(.sl 1 (r2.Ad.map (D.int .i64))),(.sl 1 (r2.A1.map (D.int .i64))),(.int .i64 r2.Ac),(.int .i64 r2.Ah),(.sl 3 (r9.Ab.map Ak.enc)),(.sl 1 (r9.lies.map (D.int .i64))),(.sl 3 (r10.map As.enc)),(.sl 1 ((List.replicate (p0.Ah.length:Int).toNat false).map D.bool)),.nilsl,(.sl 14 (r6.tracks.map A5.enc)),(.sl 4 (r6.sessions.map Ax.enc)),.nilsl,.nilsl,.nilsl,.nilsl,.nilsl,.nilsl,(.sl 2 (p3.map A6.enc)),.nilsl,(.int .i64 (0:Int)),(.sl 1 ((List.replicate (p3.length:Int).toNat (0:Int)).map (D.int .i64))),.nilsl,(.int .i64 (0:Int))])) Q plc55 qDV Q Q Q Q) (oL [5] _ (.mptr 5 0 0 0) Q (eH Q) Q (kX Q Q qDV Q Q) ?_)));refine DT ?_ (by kernel_rfl);refine aG 1 Q (fL (f:=Av.enc) 5 15 6 81 32 Q Q Q (cR 5 [none,none,none,none,none,none,none,none,none,none,none,none,none,none,none,none,none,none,some 4,some 3,some 4,some 4,some 6,some 3,none,some 1,none,none,some 5,none] Q Q (aL 2 Q (WN [1,2,3,4,8,10,13] Q Q (bE hm (λb13=>[]) (λb13=>([(5,.box 55 [.d (.str p0.name),.d (.sl 1 (p0.Ac.map D.str)),.d (.sl 7 (p0.Ae.map Aw.enc)),.d (.sl 4 (p0.joints.map Ba.enc)),.d (.sl 4 (p0.Ah.map A0.enc)),.d (.sl 3 (p0.balises.map A4.enc)),.d (.sl 14 (r2.Ab.map Ai.enc)),.d (.sl 1 (r2.Ad.map (D.int .i64))),.d (.sl 1 (r2.A1.map (D.int .i64))),.d (.int .i64 r2.Ac),.d (.int .i64 r2.Ah),.d (.sl 3 (r9.Ab.map Ak.enc)),.d (.sl 1 (r9.lies.map (D.int .i64))),.d (.sl 3 (r10.map As.enc)),.d (.sl 1 ((List.replicate (p0.Ah.length:Int).toNat false).map D.bool)),.msl 6 32 0 b13.length,.d (.sl 14 (r6.tracks.map A5.enc)),.d (.sl 4 (r6.sessions.map Ax.enc)),.d (.sl 4 (([]:List A9).map A9.enc)),.d (.sl 3 (([]:List Be).map Be.enc)),.d (.sl 4 (([]:List Bl).map Bl.enc)),.d (.sl 4 (([]:List Ay).map Ay.enc)),.d (.sl 6 (([]:List Au).map Au.enc)),.d (.sl 3 (([]:List Bf).map Bf.enc)),.d (.sl 2 (p3.map A6.enc)),.d (.sl 1 (([]:List (List Int)).map (λ(l:List Int)=>D.sl 1 (l.map (D.int .i64))))),.d (.int .i64 (0:Int)),.d (.sl 1 ((List.replicate (p3.length:Int).toNat (0:Int)).map (D.int .i64))),.d (.sl 5 (([]:List A3).map A3.enc)),.d (.int .i64 (0:Int))]),(6,.flat 81 32 (b13.map Av.enc))])) [] [3,8,10,13] Q (λz14 hm hz14=>?_) (λb13 hm=>?_))))))
 ·refine bO 5 Q (aW hm (λ(i18,b19)=>([(14,.d (.int .i64 i18))])) (λ(i18,b19)=>([(5,.box 55 [.d (.str p0.name),.d (.sl 1 (p0.Ac.map D.str)),.d (.sl 7 (p0.Ae.map Aw.enc)),.d (.sl 4 (p0.joints.map Ba.enc)),.d (.sl 4 (p0.Ah.map A0.enc)),.d (.sl 3 (p0.balises.map A4.enc)),.d (.sl 14 (r2.Ab.map Ai.enc)),.d (.sl 1 (r2.Ad.map (D.int .i64))),.d (.sl 1 (r2.A1.map (D.int .i64))),.d (.int .i64 r2.Ac),.d (.int .i64 r2.Ah),.d (.sl 3 (r9.Ab.map Ak.enc)),.d (.sl 1 (r9.lies.map (D.int .i64))),.d (.sl 3 (r10.map As.enc)),.d (.sl 1 ((List.replicate (p0.Ah.length:Int).toNat false).map D.bool)),.msl 6 32 0 b19.length,.d (.sl 14 (r6.tracks.map A5.enc)),.d (.sl 4 (r6.sessions.map Ax.enc)),.d (.sl 4 (([]:List A9).map A9.enc)),.d (.sl 3 (([]:List Be).map Be.enc)),.d (.sl 4 (([]:List Bl).map Bl.enc)),.d (.sl 4 (([]:List Ay).map Ay.enc)),.d (.sl 6 (([]:List Au).map Au.enc)),.d (.sl 3 (([]:List Bf).map Bf.enc)),.d (.sl 2 (p3.map A6.enc)),.d (.sl 1 (([]:List (List Int)).map (λ(l:List Int)=>D.sl 1 (l.map (D.int .i64))))),.d (.int .i64 (0:Int)),.d (.sl 1 ((List.replicate (p3.length:Int).toNat (0:Int)).map (D.int .i64))),.d (.sl 5 (([]:List A3).map A3.enc)),.d (.int .i64 (0:Int))]),(6,.flat 81 32 (b19.map Av.enc))])) [14] [1,2,3,4,8,10,13] [0,1,2,3,4,5,6] Q k0 Q Q Q Q Q (λs z20 hm hz20=>?_));obtain⟨i18,b19⟩:=s;refine WN [1,2,3,4,8,10,13,14] Q Q (aO 4 Q (SX Q Q (aN TK Q Q Q) (aL 3 Q (bJ hm Q (λh21 hm=>?_) (λh21 hm=>?_)))))
  ·refine bN 5 Q (bI follows ?_);iterate 3 (refine DA [0,1,2,3,4,5,6] TK Q ?_)
   refine VE hm λe22 he22 hm=>DX [0,1,2,3,4,5,6] Q Q (bD TK Q Q Q Q he22) (DA [0,1,2,3,4,5,6] TK Q (dR [0,1,2,3,4,5,6] hm (qAO ·) Q Q Q Q λr23 hm=>DA [0,1,2,3,4,5,6] TK Q ?_));refine DT ?_ (by kernel_rfl);refine aL 2 Q (WN [1,2,3,4,8,10,13,14,65] Q Q (bG hm Q (λh24 hm=>?_) (λh24 hm=>?_)))
   ·cases hm
   refine bN 2 Q (cV (dW follows (DA [] TK Q (DA [5] TK Q ?_))));iterate 2 (refine DA [] TK Q ?_)
   refine VE hm λe25 he25 hm=>DX [] Q Q (bD TK Q Q Q Q he25) ?_;iterate 3 (refine DA [] TK Q ?_)
   refine VE hm λe26 he26 hm=>DX [] Q Q (bD TK Q Q Q Q he26) (DA [] TK Q (kW [] hm (qMZ ·) Q Q Q Q λr27 hm=>DX [] Q Q (bX Q plc81 oW Q Q Q Q) (DX [] Q Q (cI [.tmp 78] TK Q Q oW Q Q Q Q Q) (GE hm λg28 hm=>oL [6,7] _ (.msl 7 32 0 (b19++([(⟨e25,(0:Int),(0:Int),(0:Int),r27⟩:Av)]:List Av)).length) Q (eH Q) Q (sU (f:=Av.enc) (xs:=b19) ([(⟨e25,(0:Int),(0:Int),(0:Int),r27⟩:Av)]:List Av) Q Q Q TK Q oW Q Q Q Q Q Q cE g28) (DA [] TK Q ?_)))));refine DT ?_ (by kernel_rfl);exact aL 4 Q (WN [1,2,3,4,8,10,13,14] Q Q (aQ 2 Q (GE hm λg29 hm=>SX Q Q (bK Q Q Q Q g29) (aD 2 Q (aX [0,1,2,3,4,5,7] hm Q Q)))))
  refine aM 2 Q (IE hm λv30 hm hz=>?_);rw [hz20 _ hz] at hm;exact WX (bC 1 Q (aX [0,1,2,3,4,5,6] hm Q Q))
 refine WN [3,8,10,13] Q Q (aQ 4 Q (c_N hm (rJ ·) Q Q Q Q λr31 hm=>aL 8 Q (eC hm Q (λh32 hm=>?_) (λh32 hm=>?_))))
 ·cases hm
 refine aQ 5 Q (BE hm λr33 hr33 hm=>?_);obtain⟨r34,r35⟩:=r33;refine SX Q Q (cU Q Q Q (qHB hr33)) (aG 3 Q (cH 7 Q Q qJJ Q (cR 7 [some 1,none] Q Q (aL 4 Q (WN [8,11,13,16] Q Q (bN 6 Q (eC hm Q (λh36 hm=>?_) (λh36 hm=>?_))))))))
 ·cases hm
 refine bN 8 Q (WN [8,13] Q Q (bN 6 Q (WN [8,9] Q Q (aM 1 Q ?_))));obtain⟨rfl,rfl⟩:=Prod.mk.inj (Option.some.inj hm);exact⟨_,[6],.mk _ (.cons (.agg (TK.lay Q) Q Q Q Q) (.cons (.tmp 9) .nil)) Q,by decide,k0,Q,Q⟩
theorem xI  {r:Bool} (hm:nP=some r):RetN TP 8 [] (.bool (r)):=by
 refine .unit (aK (bA Q) func8 Q ntmps8 Q Q (λwX gX=>?_)) Q;unfold nP at hm;refine WN [] Q Q (aO 5 Q (BE hm λr1 hr1 hm=>?_));obtain⟨r2,r3⟩:=r1;refine SX Q Q (cU Q Q Q (qIC hr1)) (aG 3 Q (cH 0 Q Q xN Q (cH 1 Q Q qAG Q (cR 1 [some 3,none,none] Q Q (aL 4 Q (cV (cV (bI follows (kW [] hm (zC ·) Q Q Q Q λr4 hm=>DA [0] TK Q (DX [] Q Q (cI [.tmp 16] TK Q Q xN Q Q Q Q Q) (DA [1] TK Q (DX [] Q Q (cI [.tmp 18] TK Q Q qAG Q Q Q Q Q) ?_))))))))))));refine BE hm λr5 hr5 hm=>?_;obtain⟨r6,r7⟩:=r5;refine oL [2] [(2,.flat 81 32 (r6.units.map Av.enc))] (.tup [.agg [.d (.str r6.layout.name),.d (.sl 1 (r6.layout.Ac.map D.str)),.d (.sl 7 (r6.layout.Ae.map Aw.enc)),.d (.sl 4 (r6.layout.joints.map Ba.enc)),.d (.sl 4 (r6.layout.Ah.map A0.enc)),.d (.sl 3 (r6.layout.balises.map A4.enc)),.d (.sl 14 (r6.Ar.Ab.map Ai.enc)),.d (.sl 1 (r6.Ar.Ad.map (D.int .i64))),.d (.sl 1 (r6.Ar.A1.map (D.int .i64))),.d (.int .i64 r6.Ar.Ac),.d (.int .i64 r6.Ar.Ah),.d (.sl 3 (r6.inter.Ab.map Ak.enc)),.d (.sl 1 (r6.inter.lies.map (D.int .i64))),.d (.sl 3 (r6.machines.map As.enc)),.d (.sl 1 (r6.clear.map D.bool)),.msl 2 32 0 r6.units.length,.d (.sl 14 (r6.center.tracks.map A5.enc)),.d (.sl 4 (r6.center.sessions.map Ax.enc)),.d (.sl 4 (r6.air.map A9.enc)),.d (.sl 3 (r6.faults.map Be.enc)),.d (.sl 4 (r6.pending.map Bl.enc)),.d (.sl 4 (r6.possessions.map Ay.enc)),.d (.sl 6 (r6.restrictions.map Au.enc)),.d (.sl 3 (r6.orders.map Bf.enc)),.d (.sl 2 (r6.trips.map A6.enc)),.d (.sl 1 (r6.plan.starts.map (λ(l:List Int)=>D.sl 1 (l.map (D.int .i64))))),.d (.int .i64 r6.plan.cost),.d (.sl 1 (r6.progress.map (D.int .i64))),.d (.sl 5 (r6.decisions.map A3.enc)),.d (.int .i64 r6.now)],.d (.int .i64 r7)]) Q (eH Q) Q (qII (Bs:=[.flat 81 32 (r6.units.map Av.enc)]) [2] (by intro i h;simp only [zQB,List.not_mem_nil,or_false] at h;rcases h with rfl<;>rfl) (by decide) Q Q Q Q ((wY hr5).args ((.cons (.refl _) (.cons (.refl _) (.cons (.refl _) (.cons (.nil _) .nil)))))) Q (by intro B h;simp only [zQB,List.not_mem_nil,or_false] at h;rcases h with rfl<;>rfl)) ?_;iterate 3 (refine DA [] TK Q ?_)
 refine oL [3] _ (.mptr 3 0 0 0) Q (eH Q) Q (kX Q Q qDV Q Q) (qPE 1000002 [3] [(3,.box 55 [.d (.str r6.layout.name),.d (.sl 1 (r6.layout.Ac.map D.str)),.d (.sl 7 (r6.layout.Ae.map Aw.enc)),.d (.sl 4 (r6.layout.joints.map Ba.enc)),.d (.sl 4 (r6.layout.Ah.map A0.enc)),.d (.sl 3 (r6.layout.balises.map A4.enc)),.d (.sl 14 (r6.Ar.Ab.map Ai.enc)),.d (.sl 1 (r6.Ar.Ad.map (D.int .i64))),.d (.sl 1 (r6.Ar.A1.map (D.int .i64))),.d (.int .i64 r6.Ar.Ac),.d (.int .i64 r6.Ar.Ah),.d (.sl 3 (r6.inter.Ab.map Ak.enc)),.d (.sl 1 (r6.inter.lies.map (D.int .i64))),.d (.sl 3 (r6.machines.map As.enc)),.d (.sl 1 (r6.clear.map D.bool)),.msl 2 32 0 r6.units.length,.d (.sl 14 (r6.center.tracks.map A5.enc)),.d (.sl 4 (r6.center.sessions.map Ax.enc)),.d (.sl 4 (r6.air.map A9.enc)),.d (.sl 3 (r6.faults.map Be.enc)),.d (.sl 4 (r6.pending.map Bl.enc)),.d (.sl 4 (r6.possessions.map Ay.enc)),.d (.sl 6 (r6.restrictions.map Au.enc)),.d (.sl 3 (r6.orders.map Bf.enc)),.d (.sl 2 (r6.trips.map A6.enc)),.d (.sl 1 (r6.plan.starts.map (λ(l:List Int)=>D.sl 1 (l.map (D.int .i64))))),.d (.int .i64 r6.plan.cost),.d (.sl 1 (r6.progress.map (D.int .i64))),.d (.sl 5 (r6.decisions.map A3.enc)),.d (.int .i64 r6.now)])] (eH Q) Q (uC TK Q Q Q Q Q Q Q Q Q Q) ?_);refine DT ?_ (by kernel_rfl);refine aL 4 Q ?_;refine qSM 3 15 2 [1,2,3,4] Q Q Q Q Q Q (by simp) Q Q Q ?_;refine aS hm (λx8=>([(40,.d (.bool (x8)))])) (λx8=>[]) [40] [1,2,3] Q (λz9 hm=>?_) (λx8 hm=>?_)
 ·refine aO 3 Q (SB TK Q (λq10 hq10=>?_));cases q10
  ·replace hm:=eJ hq10 hm;refine aG 1 Q (c_D hm (lF ·) Q Q Q Q λr11 hm=>SX Q Q (aN TK Q Q Q) (aG 2 Q (SB TK Q (λq12 hq12=>?_))));cases q12
   ·replace hm:=eJ hq12 hm;refine aG 1 Q (c_N hm (rH ·) Q Q Q Q λr13 hm=>aG 2 Q (SB TK Q (λq14 hq14=>?_)));cases q14
    ·replace hm:=JB hq14 hm;exact aG 1 Q (c_N hm (lE ·) Q Q Q Q λr15 hm=>aD 3 Q (aT [0,1,2,3] hm Q Q))
    replace hm:=JA hq14 hm;exact aD 5 Q (aT [0,1,2,3] hm Q Q)
   replace hm:=eI hq12 hm;exact aD 10 Q (aT [0,1,2,3] hm Q Q)
  replace hm:=eI hq10 hm;exact aD 16 Q (aT [0,1,2,3] hm Q Q)
 refine WN [1,2,3,40] Q Q (bG hm Q (λh16 hm=>?_) (λh16 hm=>?_))
 ·cases hm
 refine aQ 3 Q (SX Q Q (cI [.const (Value.bool Bool.false),.const (Value.bool Bool.true)] TK Q Q qME Q Q Q Q Q) (aG 6 Q (c_D hm (lF ·) Q Q Q Q λr17 hm=>aG 5 Q (cH 4 Q Q xN Q (aL 3 Q (WN [1,2,5,6] Q Q (bN 5 Q (WN [1,2,5,6] Q Q (cV (cV (bI follows (kW [] hm (zC ·) Q Q Q Q λr18 hm=>?_))))))))))));refine DA [0] TK Q (DA [4] TK Q (DX [] Q Q (cI [.tmp 49,.tmp 50] TK Q Q xN Q Q Q Q Q) (DA [1] TK Q (DX [] Q Q (bX Q qRJ fH Q Q Q Q) (DX [] Q Q (cI [.tmp 53] TK Q Q fH Q Q Q Q Q) (DX [] Q Q (bX Q zFA qAG Q Q Q Q) (DX [] Q Q (cI [.tmp 52,.tmp 55] TK Q Q qAG Q Q Q Q Q) (BE hm λr19 hr19 hm=>?_))))))));obtain⟨r20,r21⟩:=r19;refine oL [5] [(5,.flat 81 32 (r20.units.map Av.enc))] (.tup [.agg [.d (.str r20.layout.name),.d (.sl 1 (r20.layout.Ac.map D.str)),.d (.sl 7 (r20.layout.Ae.map Aw.enc)),.d (.sl 4 (r20.layout.joints.map Ba.enc)),.d (.sl 4 (r20.layout.Ah.map A0.enc)),.d (.sl 3 (r20.layout.balises.map A4.enc)),.d (.sl 14 (r20.Ar.Ab.map Ai.enc)),.d (.sl 1 (r20.Ar.Ad.map (D.int .i64))),.d (.sl 1 (r20.Ar.A1.map (D.int .i64))),.d (.int .i64 r20.Ar.Ac),.d (.int .i64 r20.Ar.Ah),.d (.sl 3 (r20.inter.Ab.map Ak.enc)),.d (.sl 1 (r20.inter.lies.map (D.int .i64))),.d (.sl 3 (r20.machines.map As.enc)),.d (.sl 1 (r20.clear.map D.bool)),.msl 5 32 0 r20.units.length,.d (.sl 14 (r20.center.tracks.map A5.enc)),.d (.sl 4 (r20.center.sessions.map Ax.enc)),.d (.sl 4 (r20.air.map A9.enc)),.d (.sl 3 (r20.faults.map Be.enc)),.d (.sl 4 (r20.pending.map Bl.enc)),.d (.sl 4 (r20.possessions.map Ay.enc)),.d (.sl 6 (r20.restrictions.map Au.enc)),.d (.sl 3 (r20.orders.map Bf.enc)),.d (.sl 2 (r20.trips.map A6.enc)),.d (.sl 1 (r20.plan.starts.map (λ(l:List Int)=>D.sl 1 (l.map (D.int .i64))))),.d (.int .i64 r20.plan.cost),.d (.sl 1 (r20.progress.map (D.int .i64))),.d (.sl 5 (r20.decisions.map A3.enc)),.d (.int .i64 r20.now)],.d (.int .i64 r21)]) Q (eH Q) Q (qII (Bs:=[.flat 81 32 (r20.units.map Av.enc)]) [5] (by intro i h;simp only [zQB,List.not_mem_nil,or_false] at h;rcases h with rfl<;>rfl) (by decide) Q Q Q Q ((wY hr19).args ((.cons (.refl _) (.cons (.refl _) (.cons (.refl _) (.cons (.nil _) .nil)))))) Q (by intro B h;simp only [zQB,List.not_mem_nil,or_false] at h;rcases h with rfl<;>rfl)) ?_;iterate 3 (refine DA [] TK Q ?_)
 refine oL [6] _ (.mptr 6 0 0 0) Q (eH Q) Q (kX Q Q qDV Q Q) (qPE 1000004 [6] [(6,.box 55 [.d (.str r20.layout.name),.d (.sl 1 (r20.layout.Ac.map D.str)),.d (.sl 7 (r20.layout.Ae.map Aw.enc)),.d (.sl 4 (r20.layout.joints.map Ba.enc)),.d (.sl 4 (r20.layout.Ah.map A0.enc)),.d (.sl 3 (r20.layout.balises.map A4.enc)),.d (.sl 14 (r20.Ar.Ab.map Ai.enc)),.d (.sl 1 (r20.Ar.Ad.map (D.int .i64))),.d (.sl 1 (r20.Ar.A1.map (D.int .i64))),.d (.int .i64 r20.Ar.Ac),.d (.int .i64 r20.Ar.Ah),.d (.sl 3 (r20.inter.Ab.map Ak.enc)),.d (.sl 1 (r20.inter.lies.map (D.int .i64))),.d (.sl 3 (r20.machines.map As.enc)),.d (.sl 1 (r20.clear.map D.bool)),.msl 5 32 0 r20.units.length,.d (.sl 14 (r20.center.tracks.map A5.enc)),.d (.sl 4 (r20.center.sessions.map Ax.enc)),.d (.sl 4 (r20.air.map A9.enc)),.d (.sl 3 (r20.faults.map Be.enc)),.d (.sl 4 (r20.pending.map Bl.enc)),.d (.sl 4 (r20.possessions.map Ay.enc)),.d (.sl 6 (r20.restrictions.map Au.enc)),.d (.sl 3 (r20.orders.map Bf.enc)),.d (.sl 2 (r20.trips.map A6.enc)),.d (.sl 1 (r20.plan.starts.map (λ(l:List Int)=>D.sl 1 (l.map (D.int .i64))))),.d (.int .i64 r20.plan.cost),.d (.sl 1 (r20.progress.map (D.int .i64))),.d (.sl 5 (r20.decisions.map A3.enc)),.d (.int .i64 r20.now)])] (eH Q) Q (uC TK Q Q Q Q Q Q Q Q Q Q) ?_);refine DT ?_ (by kernel_rfl);refine aL 3 Q (WN [2,5,7,8] Q Q (bN 1 Q ?_));refine cF [(67,.d (.bool (((!(decide (r21=(0:Int))))||(!(decide ((r20.units.length:Int)=(2:Int))))))))] [67] [2,5,7] Q ?_ ?_
 ·refine aO 3 Q (SB TK Q (λq22 hq22=>?_));cases q22
  ·refine aD 6 Q ?_;exact⟨[0,1,2,3,4,5,6],Q,k0,aV (aH (aI (by first|(simp [hq22];done)|(simp only [hq22];simp))) Q) Q⟩
  refine aD 6 Q ?_;exact⟨[0,1,2,3,4,5,6],Q,k0,aV (aH (aI (by first|(simp [hq22];done)|(simp only [hq22];simp))) Q) Q⟩
 refine WN [2,5,7,67] Q Q (bG hm Q (λh23 hm=>?_) (λh23 hm=>?_))
 ·cases hm
 refine aQ 6 Q (VE hm λe24 he24 hm=>SX Q Q (nX TK Q Q Q Q he24 Q) (aG 1 Q (qYC (x':=(⟨r3,e24.speed,e24.xV,e24.braking,e24.cab⟩:Av)) TK Q Q Q Q Q he24.2 Q Q Q (yK 69 (r20.units.set (1:Int).toNat (⟨r3,e24.speed,e24.xV,e24.braking,e24.cab⟩:Av)).length Q List.length_set.symm ?_))));refine s_eqB 6 [.d (.str r20.layout.name),.d (.sl 1 (r20.layout.Ac.map D.str)),.d (.sl 7 (r20.layout.Ae.map Aw.enc)),.d (.sl 4 (r20.layout.joints.map Ba.enc)),.d (.sl 4 (r20.layout.Ah.map A0.enc)),.d (.sl 3 (r20.layout.balises.map A4.enc)),.d (.sl 14 (r20.Ar.Ab.map Ai.enc)),.d (.sl 1 (r20.Ar.Ad.map (D.int .i64))),.d (.sl 1 (r20.Ar.A1.map (D.int .i64))),.d (.int .i64 r20.Ar.Ac),.d (.int .i64 r20.Ar.Ah),.d (.sl 3 (r20.inter.Ab.map Ak.enc)),.d (.sl 1 (r20.inter.lies.map (D.int .i64))),.d (.sl 3 (r20.machines.map As.enc)),.d (.sl 1 (r20.clear.map D.bool)),.msl 5 32 0 (r20.units.set (1:Int).toNat (⟨r3,e24.speed,e24.xV,e24.braking,e24.cab⟩:Av)).length,.d (.sl 14 (r20.center.tracks.map A5.enc)),.d (.sl 4 (r20.center.sessions.map Ax.enc)),.d (.sl 4 (r20.air.map A9.enc)),.d (.sl 3 (r20.faults.map Be.enc)),.d (.sl 4 (r20.pending.map Bl.enc)),.d (.sl 4 (r20.possessions.map Ay.enc)),.d (.sl 6 (r20.restrictions.map Au.enc)),.d (.sl 3 (r20.orders.map Bf.enc)),.d (.sl 2 (r20.trips.map A6.enc)),.d (.sl 1 (r20.plan.starts.map (λ(l:List Int)=>D.sl 1 (l.map (D.int .i64))))),.d (.int .i64 r20.plan.cost),.d (.sl 1 (r20.progress.map (D.int .i64))),.d (.sl 5 (r20.decisions.map A3.enc)),.d (.int .i64 r20.now)] Q (by simp only [List.length_set]<;>rfl) ?_;refine aL 2 Q (WN [5,7] Q Q ?_);refine qSM 6 15 5 [5,7] Q Q Q Q Q Q (by simp) Q Q Q ?_;refine aQ 2 Q (c_D hm (lF ·) Q Q Q Q λr25 hm=>aL 3 Q (WN [5,7,9] Q Q (aS hm (λx26=>([(0,.d (.bool (x26)))])) (λx26=>[]) [0] [] Q (λz27 hm=>?_) (λx26 hm=>?_))))
 ·refine aO 2 Q (SX Q Q (aN TK Q Q Q) (aG 1 Q (SB TK Q (λq28 hq28=>?_))));cases q28
  ·replace hm:=JF hq28 hm;exact aD 30 Q (aT [0,1,2,3,4,5,6] hm Q Q)
  replace hm:=JT hq28 hm;refine aG 1 Q (VE hm λe29 he29 hm=>SX Q Q (bD TK Q Q Q Q he29) (aG 1 Q (SX Q Q (bX Q qCC eE Q Q Q Q) (GE hm λg30 hm=>SX Q Q (qGK Q Q Q g30.1 g30.2) (aG 1 Q (SB TK Q (λq32 hq32=>?_)))))));cases q32
  ·replace hm:=JF hq32 hm;exact aD 23 Q (aT [0,1,2,3,4,5,6] hm Q Q)
  replace hm:=JT hq32 hm;refine aG 1 Q (SX Q Q (aN TK Q Q Q) (aG 2 Q (SB TK Q (λq33 hq33=>?_))));cases q33
  ·replace hm:=JF hq33 hm;exact aD 18 Q (aT [0,1,2,3,4,5,6] hm Q Q)
  replace hm:=JT hq33 hm;refine aG 1 Q (VE hm λe34 he34 hm=>SX Q Q (bD TK Q Q Q Q he34) (aG 1 Q (SX Q Q (bX Q qCC eE Q Q Q Q) (GE hm λg35 hm=>SX Q Q (qGK Q Q Q g35.1 g35.2) (aG 1 Q (SB TK Q (λq37 hq37=>?_)))))));cases q37
  ·replace hm:=JF hq37 hm;exact aD 11 Q (aT [0,1,2,3,4,5,6] hm Q Q)
  replace hm:=JT hq37 hm;refine aG 1 Q (c_N hm (rH ·) Q Q Q Q λr38 hm=>aG 2 Q (SB TK Q (λq39 hq39=>?_)));cases q39
  ·replace hm:=JB hq39 hm;exact aD 6 Q (aT [0,1,2,3,4,5,6] hm Q Q)
  replace hm:=JA hq39 hm;exact aG 1 Q (c_N hm (lE ·) Q Q Q Q λr40 hm=>aD 4 Q (aT [0,1,2,3,4,5,6] hm Q Q))
 exact WN [0] Q Q (aM 1 Q (aR hm Q))
theorem qLG {p0:An} {r:Bool} (hm:mI p0=some r):RetN TP 15 [p0.enc] (.bool (r)):=by
 refine .unit (aK (bA Q) func15 Q ntmps15 Q Q (λwX gX=>?_)) Q;unfold mI at hm;refine WN [0] Q Q (aO 1 Q (bQ 0 Q Q Q (aL 3 Q (bE hm (λ_=>[]) (λ_=>[]) [] [1] Q (λz1 hm hz1=>?_) (λj hm=>?_)))))
 ·refine aO 3 Q (SX Q Q (aN TK Q Q Q) (aL 4 Q (aW hm (λx3=>([(9,.d (.int .i64 x3))])) (λx3=>[]) [9] [1,8] [0] Q k0 Q Q Q Q Q (λx3 z4 hm hz4=>WN [1,8,9] Q Q (bO 5 Q (bJ hm Q (λh5 hm=>?_) (λh5 hm=>?_)))))))
  ·refine bN 2 Q (bE hm (λ_=>[]) (λ_=>[]) [] [1,8,9] Q (λz6 hm hz6=>?_) (λj hm=>?_))
   ·refine aO 10 Q (VE hm λe7 he7 hm=>SX Q Q (bD TK Q Q Q Q he7) (aG 1 Q (cH 1 Q Q oW Q (cR 1 [some 3,none,none,none,none,none,none,none,none,none,none,none,none,none,none,none,none,none,none,none,none,none,none,none,some 4,some 2,none,none,none,none,none,none] Q Q (aL 4 Q (cF [(29,.d (.bool (((decide (e7.cab.mode=(2:Int)))&&(decide (e7.cab.auth.endV < e7.xV))))))] [29] [1,3,4,8,9] Q ?_ ?_))))))
    ·refine aO 5 Q (SB TK Q (λq8 hq8=>?_));cases q8
     ·refine aD 9 Q ?_;exact⟨[0,1],Q,k0,aV (aH (aI (by first|(simp [hq8];done)|(simp only [hq8];simp))) Q) Q⟩
     refine aD 9 Q ?_;exact⟨[0,1],Q,k0,aV (aH (aI (by first|(simp [hq8];done)|(simp only [hq8];simp))) Q) Q⟩
    refine WN [1,3,4,8,9,29] Q Q (bG hm Q (λh9 hm=>?_) (λh9 hm=>?_))
    ·refine aM 7 Q (IE hm λv10 hm hz=>?_);rw [hz6 _ hz] at hm;refine WR (IE hm λv11 hm hz=>?_);rw [hz4 _ hz] at hm;refine WR (bC 1 Q (IE hm λv12 hm hz=>?_));rw [hz1 _ hz] at hm;exact WR (aR hm Q)
    refine bN 7 Q (aW hm (λk14=>([(5,.d (.int .i64 k14))])) (λk14=>[]) [5] [1,3,4,8,9] [0,1] Q k0 Q Q Q Q Q (λk14 z15 hm hz15=>WN [1,3,4,5,8,9] Q Q (bO 7 Q (bJ hm Q (λh16 hm=>?_) (λh16 hm=>?_)))))
    ·refine bN 4 Q (bI follows ?_);iterate 4 (refine DA [0,1] TK Q ?_)
     refine kW [0,1] hm (jH ·) Q Q Q Q λr17 hm=>?_;iterate 5 (refine DA [0,1] TK Q ?_)
     refine VE hm λe18 he18 hm=>DX [0,1] Q Q (bD TK Q Q Q Q he18) ?_;iterate 2 (refine DA [0,1] TK Q ?_)
     refine kW [0,1] hm (jH ·) Q Q Q Q λr19 hm=>kW [0,1] hm (uR ·) Q Q Q Q λr20 hm=>DX [0,1] Q Q (aN TK Q Q Q) (DA [0,1] TK Q ?_);refine DT ?_ (by kernel_rfl);refine aL 2 Q (WN [1,3,4,5,8,9,51] Q Q (bJ hm Q (λh21 hm=>?_) (λh21 hm=>?_)))
     ·refine aM 7 Q (IE hm λv22 hm hz=>?_);rw [hz15 _ hz] at hm;refine WR (bC 2 Q (IE hm λv23 hm hz=>?_));rw [hz6 _ hz] at hm;refine WR (IE hm λv24 hm hz=>?_);rw [hz4 _ hz] at hm;refine WR (bC 1 Q (IE hm λv25 hm hz=>?_));rw [hz1 _ hz] at hm;exact WR (aR hm Q)
     exact aQ 5 Q (GE hm λg26 hm=>SX Q Q (bK Q Q Q Q g26) (aD 2 Q (aX [0,1] hm Q Q)))
    refine aM 2 Q (IE hm λv27 hm hz=>?_);rw [hz15 _ hz] at hm;exact WX (bC 2 Q (aX [0] hm Q Q))
   exact WN [1,8,9] Q Q (aQ 1 Q (GE hm λg28 hm=>SX Q Q (bK Q Q Q Q g28) (aD 2 Q (aX [0] hm Q Q))))
  refine aM 2 Q (IE hm λv29 hm hz=>?_);rw [hz4 _ hz] at hm;exact WX (bC 1 Q (aX [0] hm Q Q))
 exact WN [1] Q Q (aQ 5 Q (c_N hm (wZ ·) Q Q Q Q λr30 hm=>aD 4 Q (aR hm Q)))
theorem wQ {p0:An} {r:Bool} (hm:iH p0=some r):Ret TP 4 [] (λ_=>false) ([p0.enc].map .d) (.d (.bool (r))) []:=by
 refine aK (bA Q) func4 Q ntmps4 Q Q (λwX gX=>?_);unfold iH at hm;refine WN [0] Q Q (aO 1 Q (bQ 0 Q Q Q (aL 4 Q (aS hm (λx1=>([(15,.d (.bool (x1)))])) (λx1=>[]) [15] [1] Q (λz2 hm=>?_) (λx1 hm=>?_)))))
 ·refine aO 2 Q (c_N hm (qOL ·) Q Q Q Q λr3 hm=>aG 1 Q (SB TK Q (λq4 hq4=>?_)));cases q4
  ·replace hm:=JB hq4 hm;refine aG 1 Q (c_N hm (qHA ·) Q Q Q Q λr5 hm=>aG 2 Q (SB TK Q (λq6 hq6=>?_)));cases q6
   ·replace hm:=eJ hq6 hm;exact aG 1 Q (c_N hm (rH ·) Q Q Q Q λr7 hm=>aD 3 Q (aT [0] hm Q Q))
   replace hm:=eI hq6 hm;exact aD 5 Q (aT [0] hm Q Q)
  replace hm:=JA hq4 hm;exact aD 10 Q (aT [0] hm Q Q)
 refine WN [1,15] Q Q (bG hm Q (λh8 hm=>?_) (λh8 hm=>?_))
 ·exact aQ 1 Q (BE hm λr9 hr9 hm=>SX Q Q (RN Q Q SN (xI hr9)) (aD 5 Q (aR hm Q)))
 refine bN 2 Q (aS hm (λx10=>([(2,.d (.bool (x10)))])) (λx10=>[]) [2] [] Q (λz11 hm=>?_) (λx10 hm=>?_))
 ·refine aO 2 Q (c_N hm (qLG ·) Q Q Q Q λr12 hm=>SB TK Q (λq13 hq13=>?_));cases q13
  ·replace hm:=JB hq13 hm;exact aD 8 Q (aT [0] hm Q Q)
  replace hm:=JA hq13 hm;refine aG 1 Q (c_N hm (lE ·) Q Q Q Q λr14 hm=>aG 1 Q (SB TK Q (λq15 hq15=>?_)));cases q15
  ·replace hm:=JB hq15 hm;exact aD 4 Q (aT [0] hm Q Q)
  replace hm:=JA hq15 hm;exact BE hm λr16 hr16 hm=>SX Q Q (RN Q Q SN (xI hr16)) (aD 3 Q (aT [0] hm Q Q))
 exact WN [2] Q Q (aM 1 Q (aR hm Q))
end Go.Proofs.YtofndjhpbonpbaaGreatDoor
set_option maxHeartbeats 8000000
set_option linter.unusedSimpArgs false
set_option linter.unusedVariables false
set_option maxRecDepth 20000
namespace Go.Proofs.YtofndjhpbonpbaaGreatDoor
open Go Go.TL
def uB:Option Nat->Int
 | some i=>i
 | none=>-1
theorem qWG (o:Option Nat):decide (0<=uB o)=o.isSome:=by cases o<;>simp [uB]
theorem qOU (o:Option Nat):decide (uB o < 0)=!o.isSome:=by
 cases o with
 | none=>simp [uB]
 | some i=>show decide ((i:Int) < 0)=false;simp
theorem idx_at {α:Type} {p:α->Bool} {l:List α} {i:Nat} {x:α} (h:zAV p l i) (hx:l[i]?=some x) (hs:p x=true):l.findIdx? p=some i:=by
 rw [List.findIdx?_eq_some_iff_getElem];have hlt:=(zQQ.1 hx).1;have he:=(zQQ.1 hx).2;refine⟨hlt,by rw [he];exact hs,λj hj=>?_⟩;unfold zAV at h;rw [List.any_eq_false] at h;have:=h l[j] (List.mem_take_iff_getElem.2 ⟨j,by omega,rfl⟩);simpa using this
theorem qLI {α:Type} {p:α->Bool} {l:List α} {i:Nat} (h:l.findIdx? p=some i):∃ x,l[i]?=some x/\p x=true/\i < l.length:=by
 rw [List.findIdx?_eq_some_iff_getElem] at h;obtain⟨hlt,hp,_⟩:=h;exact⟨l[i],by simp [hlt],hp,hlt⟩
def fM (l:List Int) (x:Int):Option Nat:=l.findIdx? λy=>y == x
theorem qRX (l:List Int) (x:Int):(fM l x).isSome=decide (x∈l):=by
 unfold fM;rw [List.findIdx?_isSome,Bool.eq_iff_iff,zQU];simp
def fK (n:Nat) (P:Nat->Bool):Bool:=(List.range n).all P
def upTo (P:Nat->Bool) (i:Nat):Prop:=∀ j,j < i->P j=true
theorem allB_iff {P:Nat->Bool} {n:Nat}:fK n P=true↔∀ i,i < n->P i=true:=by
 unfold fK;rw [zQT];simp
def inB (n c:Int):Bool:=decide (0<=n/\n < c)
def rR (t:Al) (i:Nat):Bool:=decide (0<=t.Ad.getD i 0/\(0 < i->t.Ad.getD (i - 1) 0 < t.Ad.getD i 0)/\0<=t.A1.getD i 0/\t.A1.getD i 0 < t.Ac)
def mR (t:Al):Bool:=decide (t.A1.length=t.Ad.length)&&fK t.Ad.length (rR t)
theorem qIS {t:Al} {i:Nat} {p q h:Int} (hp:t.Ad[i]?=some p) (hq:t.Ad[i - 1]?=some q) (hh:t.A1[i]?=some h):rR t i=decide (0<=p/\(0 < i->q < p)/\0<=h/\h < t.Ac):=by
 simp only [rR,zQD,hp,hq,hh,Option.getD_some]
def qEB (t:Al) (l:List Aa) (i:Nat):Bool:=decide ((fM t.Ad (l.getD i ⟨0,0⟩).el).isSome=true/\1<=(l.getD i ⟨0,0⟩).pos/\(l.getD i ⟨0,0⟩).pos<=2/\(0 < i->(l.getD (i - 1) ⟨0,0⟩).el < (l.getD i ⟨0,0⟩).el))
def eL (t:Al) (l:List Aa):Bool:=fK l.length (qEB t l)
theorem qEA {t:Al} {l:List Aa} {i:Nat} {x y:Aa} (hx:l[i]?=some x) (hy:l[i - 1]?=some y):qEB t l i=decide ((fM t.Ad x.el).isSome=true/\1<=x.pos/\x.pos<=2/\(0 < i->y.el < x.el)):=by
 simp only [qEB,zQD,hx,hy,Option.getD_some]
def kL (a b:List Aa):Bool:=a.all λx=>b.all λy=>!(decide (x.el=y.el)&&!decide (x.pos=y.pos))
def qQU (t:Al) (l:List Int) (i:Nat):Bool:=inB (l.getD i 0) t.Ac&&!decide (l.getD i 0∈l.take i)
def qTC (t:Al) (l:List Int):Bool:=fK l.length (qQU t l)
theorem qJQ {t:Al} {l:List Int} {i:Nat} {s:Int} (hs:l[i]?=some s):qQU t l i=(inB s t.Ac&&!decide (s∈l.take i)):=by
 simp only [qQU,zQD,hs,Option.getD_some]
def qZZ (t:Al) (r:Ai):Bool:=inB r.entry t.Ah&&decide (-1<=r.exit/\r.exit < t.Ah)&&decide (1<=r.path.length/\r.path.length<=12)
def lH (t:Al) (r:Ai):Bool:=qZZ t r&&decide (0 < r.Ac.length)&&qTC t (r.Ac++r.Ao)&&inB r.A2 t.Ac&&decide (1<=r.length)
def nT (t:Al) (r:Ai):Bool:=eL t r.Ad&&eL t r.Aj&&eL t r.At
def mV (r:Ai):Bool:=kL r.Ad r.Aj&&kL r.Ad r.At&&kL r.Aj r.At
def xG (l:List Ai) (i:Nat):Bool:=(l[i]?).all λr=>!((l.take i).any λq=>decide (q.name=r.name))
def uW (l:List Ai):Bool:=fK l.length (xG l)
theorem qEW {l:List Ai} {i:Nat} {r:Ai} (hr:l[i]?=some r):xG l i=!((l.take i).any λq=>decide (q.name=r.name)):=by simp only [xG,hr,Option.all_some]
def qDA (t:Al):Bool:=decide (t.Ab.length<=48/\t.Ad.length<=32/\0<=t.Ac/\t.Ac<=24/\0<=t.Ah/\t.Ah<=20)
def fG (t:Al):Int:=
 if qDA t=false then 2
 else if mR t=false then 1
 else if t.Ab.all (λr=>lH t r&&nT t r)=false then 1
 else if t.Ab.all mV=false then 10
 else if uW t.Ab=false then 8
 else 0
section chk
variable {t:Al}
theorem qJB (h:qDA t=false):fG t=2:=by simp [fG,h]
theorem zT (h1:qDA t=true) (h:mR t=false):fG t=1:=by simp [fG,h1,h]
end chk
def kY (l:List Int) (i:Nat):List Bool:=(List.range 24).map λ(j:Nat)=>decide ((j:Int)∈l.take i)
theorem qMG (l:List Int):kY l 0=List.replicate 24 false:=by simp [kY,List.map_const']
theorem qGR (l:List Int) (i:Nat):(kY l i).length=24:=by simp [kY]
theorem qQQ (l:List Int) (i:Nat) {s:Int} (h0:0<=s) (h1:s < 24):(kY l i)[s.toNat]?=some (decide (s∈l.take i)):=by
 have:s.toNat < 24:=by omega
 simp [kY,this,Int.toNat_of_nonneg h0]
theorem qQP {l:List Int} {i:Nat} {s:Int} (hs:l[i]?=some s) (h0:0<=s) (h1:s < 24):(kY l i).set s.toNat true=kY l (i+1):=by
 apply List.ext_getElem?;intro j;by_cases hj:j < 24
 ·have e1 : ∀ k, (kY l k)[j]? = some (decide ((j : Int) ∈ l.take k)) := fun k => by simp [kY, hj]
  rw [List.getElem?_set,e1,e1,List.take_add_one,hs];split
  ·rename_i e;rw [if_pos (by rw [qGR];omega)];have:(j:Int)=s:=by omega
   simp [this]
  rename_i e;have:¬ (j:Int)=s:=by omega
  simp [this]
 rw [List.getElem?_eq_none (by simp [kY];omega),List.getElem?_eq_none (by simp [kY];omega)]
def eT (l:List Ai) (i:Nat):List (BA×Bool):=(l.take i).map λr=>(r.name,true)
theorem qKW (l:List Ai):eT l 0=[]:=by simp [eT]
theorem yY {l:List Ai} {i:Nat} {r:Ai} (hr:l[i]?=some r):eT l i++[(r.name,true)]=eT l (i+1):=by
 unfold eT;rw [List.take_add_one,hr];simp
theorem qHW (l:List Ai) (i:Nat) (s:BA):(match cM (eT l i) s with|some b=>D.bool b|none=>D.bool false)=D.bool ((l.take i).any λq=>decide (q.name=s)):=by
 unfold eT
 induction l.take i with
 | nil=>rfl
 | cons x r ih=>
  simp only [List.map_cons,List.any_cons,cM,List.find?_cons]
  cases h:decide (x.name=s) with
  | true=>simp
  | false=>simpa [cM] using ih
theorem qKX {l:List Ai} {i:Nat} {s:BA} (h:((l.take i).any λq=>decide (q.name=s))=false):cM (eT l i) s=none:=by
 unfold eT cM;rw [Option.map_eq_none_iff,List.find?_eq_none];intro x hx;simp only [List.mem_map] at hx;obtain⟨r,hr,rfl⟩:=hx;rw [List.any_eq_false] at h;simpa using h r hr
theorem xF {l:List Ai}:∀ {i:Nat},upTo (xG l) i->((eT l i).map (·.1)).Nodup
 | 0,_=>by simp [eT]
 | i+1,h=>by
  have ih:=xF (i:=i) λj hj=>h j (by omega)
  cases hr:l[i]? with
  | none=>unfold eT at *; rw [List.take_add_one,hr];simpa using ih
  | some r=>
   have hn:=h i (by omega);rw [qEW hr] at hn;rw [<- yY hr,List.map_append,List.nodup_append];refine⟨ih,by simp,λa ha b hb e=>?_⟩;simp only [List.map_cons,List.map_nil,List.mem_singleton] at hb;subst hb;subst e;unfold eT at ha;simp only [List.map_map,List.mem_map,Function.comp_apply] at ha;obtain⟨q,hq,he⟩:=ha;simp only [Bool.not_eq_true',List.any_eq_false] at hn;exact hn q hq (by simp [he])
theorem qWJ {l:List Ai} {i:Nat} {r:Ai} (hr:l[i]?=some r):decide (uB (l.findIdx? λq=>decide (q.name=r.name))=(i:Int))=xG l i:=by
 rw [qEW hr,Bool.eq_iff_iff];have hi:=(zQQ.1 hr).1;have hri:=(zQQ.1 hr).2;simp only [decide_eq_true_eq,Bool.not_eq_true',List.any_eq_false];constructor
 ·intro h q hq
  cases e:l.findIdx? λq=>decide (q.name=r.name) with
  | none=>rw [e] at h;simp only [uB] at h;omega
  | some j=>
   rw [e] at h;simp only [uB] at h;have:j=i:=by omega
   subst this;rw [List.findIdx?_eq_some_iff_getElem] at e;obtain⟨_,_,h3⟩:=e;obtain⟨k,hk,rfl⟩:=List.mem_take_iff_getElem.1 hq;simpa using h3 k (by omega)
 intro h
 have:l.findIdx? (λq=>decide (q.name=r.name))=some i:=by
  refine idx_at (x:=r) ?_ hr (by simp);unfold zAV;rw [List.any_eq_false];simpa using h
 rw [this];rfl
def dU (x:Ak) (n:Int):Bool:=
 if x.state=0\/x.state=1\/x.state=2 then decide (x.rel=0/\x.timer=0)
 else if x.state=3 then decide (0<=x.rel/\x.rel < n/\(x.timer=0\/(x.rel=n - 1/\0 < x.timer/\x.timer < 4)))
 else if x.state=4 then decide (0<=x.rel/\x.rel < n/\0<=x.timer/\x.timer < 12)
 else false
def jF (t:Al) (s:Az) (i:Nat):Bool:=(s.Ab[i]?).all λx=>(t.Ab[i]?).all λr=>dU x r.Ac.length
def qDB (p:Int):Bool:=decide (p=1\/p=2)
def sM (t:Al) (s:Az):Bool:=decide (fG t=0/\s.Ab.length=t.Ab.length/\s.lies.length=t.Ad.length)&&fK s.Ab.length (jF t s)&&s.lies.all qDB
theorem yI {t:Al} {s:Az} {i:Nat} {x:Ak} {r:Ai} (hx:s.Ab[i]?=some x) (hr:t.Ab[i]?=some r):jF t s i=dU x r.Ac.length:=by simp only [jF,hx,hr,Option.all_some]
theorem fitsB_iff {t:Al} {s:Az}:sM t s=true↔fG t=0/\s.Ab.length=t.Ab.length/\s.lies.length=t.Ad.length/\(∀ i,i < s.Ab.length->jF t s i=true)/\∀ p∈s.lies,qDB p=true:=by
 unfold sM;rw [zQA,zQA,decide_eq_true_eq,allB_iff,zQT];constructor
 ·rintro⟨⟨⟨h1,h2,h3⟩,h4⟩,h5⟩;exact⟨h1,h2,h3,h4,h5⟩
 rintro⟨h1,h2,h3,h4,h5⟩;exact⟨⟨⟨h1,h2,h3⟩,h4⟩,h5⟩
def nK (r:Ai) (x:Ak):List Int:=if x.state=0 then [] else r.Ac.drop x.rel.toNat
def nL (r:Ai) (x:Ak):List Int:=if x.state=0 then [] else r.Ao
theorem qC {n:Nat} (h:n<=reachBytes):n<=140737488351232:=h
theorem dY {i n:Nat} (h:i < n):((i:Int) < (n:Int))=True:=by simp [h]
abbrev Cnt {α:Type} (l:List α):Prop:=l.length<=9223372036854775807
theorem qOT (l:List Int) (x:Int) (h:Cnt l):eY l x=some (uB (fM l x)):=by
 unfold eY;rw [qBK l (λy=>y == x) (λi=>.inr (i:Int)) (.inl ()) h]
 ·unfold fM;cases l.findIdx? (λy=>y == x)<;>rfl
 ·intro i e he;have hi:=(zQQ.1 he).1;simp only [dY hi,if_true,aJ he];by_cases hx:x=e
  ·simp [hx]
  have : ¬ (e == x) = true := by simp; exact fun q => hx q.symm
  simp [hx,this,bU hi h]
 simp
theorem vX (t:Al) (x:Int) (h:Cnt t.Ad):fR t x=some (uB (fM t.Ad x)):=by
 simp [fR,qOT _ _ h]
theorem xW (t:Al) (x:Int) (h:Cnt t.Ad):iS t x=some (uB (fM t.Ad x)):=by
 unfold iS;rw [qBK t.Ad (λy=>y == x) (λi=>.inr (i:Int)) (.inl ()) h]
 ·unfold fM;cases t.Ad.findIdx? (λy=>y == x)<;>rfl
 ·intro i e he;have hi:=(zQQ.1 he).1;simp only [dY hi,if_true,aJ he];by_cases hx:e=x
  ·simp [hx]
  simp [hx,bU hi h]
 simp
theorem zJ (l:List Int) (x:Int) (h:Cnt l):gG l x=some (decide (x∈l)):=by
 unfold gG;rw [fE l (λy=>y == x) (.inr true) (.inl ()) h]
 ·by_cases hx:x∈l
  ·have : (l.any fun y => y == x) = true := by simpa using hx
   simp [this,hx]
  have : ¬ (l.any fun y => y == x) = true := by simpa using hx
  simp only [if_neg this];simp [hx]
 ·intro i e he;have hi:=(zQQ.1 he).1;simp only [dY hi,if_true,aJ he];by_cases hx:e=x
  ·simp [hx]
  simp [hx,bU hi h]
 simp
theorem qPG (l:List Int) (x:Int) (h:Cnt l):eR l x=some (decide (x∈l)):=by
 simp only [eR,qOT l x h,aF,Option.some.injEq];rw [qWG,qRX]
theorem vV (n c:Int):cO n c=some (inB n c):=by simp [cO,inB]
theorem fW (n:Nat) (P:Nat->Bool):((List.range n).any λi=>!P i)=!fK n P:=by simp [fK,List.not_all_eq_any_not]
theorem jI {α:Type} (l:List α) (P:α->Bool):(l.any λi=>!P i)=!l.all P:=by simp [List.not_all_eq_any_not]
theorem qEQ (t:Al) (h:Cnt t.Ad):fQ t=some (mR t):=by
 unfold fQ mR;by_cases e:t.A1.length=t.Ad.length
 ·rw [if_pos (by rw [e]), eZ t.Ad.length (fun i => !rR t i) (.inr false) (.inl ()) h, fW]
  ·simp only [e,decide_true,Bool.true_and];cases fK t.Ad.length (rR t)<;>rfl
  ·intro i hi;obtain⟨p,hp⟩:=jC hi;obtain⟨q,hq⟩:=jC (xs:=t.Ad) (i:=i - 1) (by omega);obtain⟨hm,hh⟩:=jC (xs:=t.A1) (i:=i) (by omega);simp only [dY hi,if_true,aJ hp,aJ hh,vV,aF];rw [qIS hp hq hh];by_cases h0:0 < i
   ·have e1 : ((i : Int) - 1) = ((i - 1 : Nat) : Int) := by omega
    have e2:I64 ((i - 1:Nat):Int):=by unfold I64;omega
    have e3:(0:Int) < (i:Int):=by omega
    simp only [e1,aA e2,aJ hq,e3,if_true];simp only [fA,aF,aA (bU hi h),dJ]
    grind [inB]
   have e3 : ¬ (0 : Int) < (i : Int) := by omega
   simp only [e3,if_false,fA,aF,aA (bU hi h),dJ]
   grind [inB]
  simp
 rw [if_neg (by omega)];simp [e]
theorem lY (t:Al) (l:List Aa) (ht:Cnt t.Ad) (h:Cnt l):cJ t l=some (eL t l):=by
 unfold cJ eL;rw [eZ l.length (λi=>!qEB t l i) (.inr false) (.inl ()) h,fW]
 ·cases fK l.length (qEB t l)<;>rfl
 ·intro i hi;obtain⟨x,hx⟩:=jC hi;obtain⟨y,hy⟩:=jC (xs:=l) (i:=i - 1) (by omega);simp only [dY hi,if_true,aJ hx,vX _ _ ht,aF,qOU];rw [qEA hx hy];by_cases h0:0 < i
  ·have e1 : ((i : Int) - 1) = ((i - 1 : Nat) : Int) := by omega
   have e2:I64 ((i - 1:Nat):Int):=by unfold I64;omega
   have e3:(0:Int) < (i:Int):=by omega
   simp only [e1,aA e2,aJ hy,e3,if_true,fA,aF,aA (bU hi h),dJ]
   grind
  have e3 : ¬ (0 : Int) < (i : Int) := by omega
  simp only [e3,if_false,fA,aF,aA (bU hi h),dJ]
  grind
 simp
theorem rF (t:Al) (l:List Aa) (ht:Cnt t.Ad) (h:Cnt l):dK t l=some (eL t l):=by
 unfold dK eL;rw [eZ l.length (λi=>!qEB t l i) (.inr false) (.inl ()) h,fW]
 ·cases fK l.length (qEB t l)<;>rfl
 ·intro i hi;obtain⟨x,hx⟩:=jC hi;obtain⟨y,hy⟩:=jC (xs:=l) (i:=i - 1) (by omega);have hneg:=qOU (fM t.Ad x.el);simp only [dY hi,if_true,aJ hx,xW _ _ ht,aF];rw [qEA hx hy];by_cases h0:0 < i
  ·have e1 : ((i : Int) - 1) = ((i - 1 : Nat) : Int) := by omega
   have e2:I64 ((i - 1:Nat):Int):=by unfold I64;omega
   have e3:(0:Int) < (i:Int):=by omega
   simp only [e1,aA e2,aJ hy,e3,if_true,fA,aF,aA (bU hi h),dJ]
   grind
  have e3 : ¬ (0 : Int) < (i : Int) := by omega
  simp only [e3,if_false,fA,aF,aA (bU hi h),dJ]
  grind
 simp
theorem qJG (a b:List Aa):(a.any λx=>b.any λy=>decide (x.el=y.el)&&!decide (x.pos=y.pos))=!kL a b:=by
 unfold kL;rw [List.not_all_eq_any_not]
 congr 1
 funext x
 rw [List.not_all_eq_any_not];simp
theorem qGG (a b:List Aa) (ha:Cnt a) (hb:Cnt b):dM a b=some (kL a b):=by
 unfold dM;rw [fE a (λx=>b.any λy=>decide (x.el=y.el)&&!decide (x.pos=y.pos)) (.inr false) (.inl ()) ha,qJG]
 ·cases kL a b<;>rfl
 ·intro i x hx;have hi:=(zQQ.1 hx).1;simp only [dY hi,if_true,aJ hx];rw [fE b (λy=>decide (x.el=y.el)&&!decide (x.pos=y.pos)) (.inr (.inr (.inr false))) (.inl ()) hb]
  ·simp only [aA (bU hi ha)];split<;>rfl
  ·intro j y hy;have hj:=(zQQ.1 hy).1;simp only [dY hj,if_true,aJ hy,aA (bU hj hb),dJ]
  simp
 simp
theorem xZ (a b:List Aa) (ha:Cnt a) (hb:Cnt b):eV a b=some (kL a b):=by
 unfold eV;rw [fE a (λx=>b.any λy=>decide (x.el=y.el)&&!decide (x.pos=y.pos)) (.inr false) (.inl ()) ha,qJG]
 ·cases kL a b<;>rfl
 ·intro i x hx;have hi:=(zQQ.1 hx).1;simp only [dY hi,if_true,aJ hx];rw [fE b (λy=>decide (x.el=y.el)&&!decide (x.pos=y.pos)) (.inr (.inr (.inr false))) (.inl ()) hb]
  ·simp only [aA (bU hi ha)];split<;>rfl
  ·intro j y hy;have hj:=(zQQ.1 hy).1;simp only [dY hj,if_true,aJ hy,aA (bU hj hb),dJ]
  simp
 simp
structure Short (r:Ai):Prop where
 secs:r.Ac.length+r.Ao.length<=2000000
 Ad:r.Ad.length<=2000000
 over:r.Aj.length<=2000000
 At:r.At.length<=2000000
structure TOk (t:Al):Prop where
 Ab:t.Ab.length<=2000000
 Ad:t.Ad.length<=2000000
 each:∀ r∈t.Ab,Short r
theorem qGT (t:Al) (l:List Int) (h:Cnt l):iQ t l=some (qTC t l):=by
 unfold iQ qTC;rw [eZ l.length (λi=>!qQU t l i) (.inr false) (.inl ()) h,fW]
 ·cases fK l.length (qQU t l)<;>rfl
 ·intro i hi;obtain⟨x,hx⟩:=jC hi;simp only [dY hi,if_true,aJ hx];rw [qJQ hx]
  have hm:((List.range i).any λj=>decide (l[j]?=some x))=decide (x∈l.take i):=by
   rw [Bool.eq_iff_iff,zQU,decide_eq_true_eq,List.mem_take_iff_getElem];constructor
   ·rintro⟨j,hj,hjx⟩;have hj:=List.mem_range.1 hj;have:=of_decide_eq_true hjx;obtain⟨h1,h2⟩:=zQQ.1 this;exact⟨j,by omega,h2⟩
   rintro⟨j,hj,rfl⟩;exact⟨j,List.mem_range.2 (by omega),by simp⟩
  by_cases hb:x < 0\/t.Ac<=x
  ·have : inB x t.Ac = false := by unfold inB; simp; omega
   simp only [this];simp [hb]
  have hin : inB x t.Ac = true := by unfold inB; simp; omega
  rw [if_neg (by simpa using hb),eZ i (λj=>decide (l[j]?=some x)) (.inr (.inr (.inr false))) (.inl ()) (by omega),hm]
  ·simp only [hin,Bool.true_and,Bool.not_not,aA (bU hi h)];split<;>rfl
  ·intro j hj;obtain⟨y,hy⟩:=jC (xs:=l) (i:=j) (by omega);simp only [dY hj,if_true,aJ hy,hy,aA (bU hj (by omega)),dJ,Option.some.injEq,decide_eq_true_eq]
  simp
 simp
theorem qQZ (t:Al) (r:Ai) (h:Short r):kQ t r=some (lH t r):=by
 have h1:=h.secs;unfold kQ lH qZZ;rw [aA (by simp;omega),aA (by simp;omega)];simp only [List.nil_append,qGT t (r.Ac++r.Ao) (by simp;omega),aF,fA]
 grind [inB]
theorem qWP (xss:List (List Int)) (h:xss.length<=1000/\xss.flatten.length<=1000000000):iG xss=some xss.flatten:=aA h
theorem qGX (t:Al) (r:Ai) (hs:t.Ac<=24) (h:Short r):eX t r=some (lH t r):=by
 have h1:=h.secs;unfold eX;rw [qWP _ (by simp;omega)];have hcat:([r.Ac,r.Ao]:List (List Int)).flatten=r.Ac++r.Ao:=by simp
 simp only [hcat,aF,vV,fA];generalize hl:r.Ac++r.Ao=l;have hln:l.length<=2000000:=by rw [<- hl];simp;omega
 rw [qIW l.length (kY l) (λi=>!qQU t l i) (.inr false) (.inl (kY l l.length)) (qMG l).symm (by omega),fW]
 ·unfold lH qZZ qTC;rw [hl];clear hcat hl;cases fK l.length (qQU t l)
  ·simp only [Bool.not_false,if_true,qWU,zD,Option.some.injEq];rw [Bool.eq_iff_iff];simp only [zX,zQA,decide_eq_true_eq,Bool.or_eq_true,inB,Bool.not_eq_true',decide_eq_false_iff_not]
   grind
  simp only [Bool.not_true,Bool.false_eq_true,if_false,oU,zD,Option.some.injEq];rw [Bool.eq_iff_iff];simp only [zX,zQA,decide_eq_true_eq,Bool.or_eq_true,inB,Bool.not_eq_true',decide_eq_false_iff_not]
  grind
 ·intro i hi _;obtain⟨x,hx⟩:=jC hi;simp only [dY hi,if_true,aJ hx];rw [qJQ hx];by_cases hin:inB x t.Ac=true
  ·have hx0 : 0 <= x /\ x < 24 := by unfold inB at hin; simp at hin; omega
   have hg:=qQQ l i hx0.1 hx0.2;simp only [hin,aA hx0.2,hZ hx0.1 hg,aF,Bool.not_true,Bool.true_and,Bool.not_not,aA (bU hi (by omega)),qQP hx hx0.1 hx0.2,dJ];by_cases hm:x∈l.take i<;>simp [hm]
  have hin : inB x t.Ac = false := by simpa using hin
  simp [hin]
 intro _;simp
theorem qNO {α β:Type} [DecidableEq α] {fs:List (α×β)} {k:α} {v:β} (h:cM fs k=none):tJ fs k v=fs++[(k,v)]:=by
 unfold tJ
 have:(fs.findIdx? λx=>decide (x.1=k))=none:=by
  unfold cM at h;rw [Option.map_eq_none_iff,List.find?_eq_none] at h;rw [List.findIdx?_eq_none_iff];intro x hx;simpa using h x hx
 rw [this]
theorem qOD (t : Al) (h : t.Ab.length <= 2000000) (k : List (BA × Bool) -> Option Int) : bR (aZ (fun (x, b) =>
     if x < (t.Ab.length : Int) then
      aU t.Ab x fun e =>
      aC (b.map (·.1)).Nodup <|
      if (((cM b e.name).getD false)) = true then
       aP (aP (some (8 : Int)))
      else
       aC (b.map (·.1)).Nodup <|
       aC (I64 (x + (1 : Int))) <|
       some (.inl ((x + (1 : Int)), (tJ b e.name true)))
     else
      aP (some (.inl b))) ((0 : Int), ([] : List (BA × Bool)))) k = if uW t.Ab = true then k (eT t.Ab t.Ab.length) else some 8 := by
 rw [qIW t.Ab.length (eT t.Ab) (λi=>!xG t.Ab i) (.inr 8) (.inl (eT t.Ab t.Ab.length)) (qKW _).symm (by omega),fW]
 ·unfold uW;cases fK t.Ab.length (xG t.Ab)<;>rfl
 ·intro i hi hj;obtain⟨x,hx⟩:=jC hi;have hnd:((eT t.Ab i).map (·.1)).Nodup:=xF λj hjj=>by have:=hj j hjj;simpa using this
  simp only [dY hi,if_true,aJ hx,aA hnd,aA (bU hi (by omega))];rw [qEW hx,Bool.not_not];have ha:=qHW t.Ab i x.name
  cases hc:((t.Ab.take i).any λq=>decide (q.name=x.name)) with
  | true=>
   rw [hc] at ha
   have:((cM (eT t.Ab i) x.name).getD false)=true:=by
    cases e:cM (eT t.Ab i) x.name with
    | none=>rw [e] at ha;simp at ha
    | some b=>rw [e] at ha;simp at ha;simp [ha]
   simp [this]
  | false=>
   have hn:=qKX hc;simp [hn,qNO hn,yY hx]
 intro hj;simp
theorem qOC (l : List Ai) (P : Ai -> Bool) (v : Int) (h : l.length <= 2000000) (g : Ai -> Option Bool) (hg : ∀ r ∈ l, g r = some (P r)) (k : Unit -> Option Int) : bR (aZ (fun x =>
     if x < (l.length : Int) then
      aU l x fun e =>
      aB (g e) fun r =>
      if (!(r)) = true then
       aP (aP (some v))
      else
       aC (I64 (x + (1 : Int))) <|
       some (.inl (x + (1 : Int)))
     else
      aP (some (.inl ()))) (0 : Int)) k = if l.all P = true then k () else some v := by
 rw [fE l (λr=>!P r) (.inr v) (.inl ()) (by omega),jI]
 ·cases l.all P<;>rfl
 ·intro i x hx;have hi:=(zQQ.1 hx).1;simp only [dY hi,if_true,aJ hx,hg x (zQM hx),aF,aA (bU hi (by omega)),dJ]
 simp
theorem oH (l : List Ai) (P : Ai -> Bool) (v : Int) (h : l.length <= 2000000) (g : Ai -> Option Bool) (hg : ∀ r ∈ l, g r = some (!P r)) (k : Unit -> Option Int) : bR (aZ (fun x =>
     if x < (l.length : Int) then
      aU l x fun e =>
      aB (g e) fun r =>
      if r = true then
       aP (aP (some v))
      else
       aC (I64 (x + (1 : Int))) <|
       some (.inl (x + (1 : Int)))
     else
      aP (some (.inl ()))) (0 : Int)) k = if l.all P = true then k () else some v := by
 rw [fE l (λr=>!P r) (.inr v) (.inl ()) (by omega),jI]
 ·cases l.all P<;>rfl
 ·intro i x hx;have hi:=(zQQ.1 hx).1;simp only [dY hi,if_true,aJ hx,hg x (zQM hx),aF,aA (bU hi (by omega)),dJ]
 simp
theorem qVB (t:Al) (r:Ai) (ht:Cnt t.Ad) (h:Short r):(aB (cJ t r.Ad) λa=>if (!(a))=true then some true else aB (cJ t r.Aj) λb=>if (!(b))=true then some true else aB (cJ t r.At) λc=>some (!(c)))=some (!nT t r):=by
 have h1:=h.Ad;have h2:=h.over;have h3:=h.At;rw [lY t _ ht (by omega),lY t _ ht (by omega),lY t _ ht (by omega)];unfold nT;cases eL t r.Ad<;>cases eL t r.Aj<;>cases eL t r.At<;>rfl
theorem qSQ (r:Ai) (h:Short r):(aB (dM r.Ad r.Aj) λa=>if (!(a))=true then some true else aB (dM r.Ad r.At) λb=>if (!(b))=true then some true else aB (dM r.Aj r.At) λc=>some (!(c)))=some (!mV r):=by
 have h1:=h.Ad;have h2:=h.over;have h3:=h.At;rw [qGG _ _ (by omega) (by omega),qGG _ _ (by omega) (by omega),qGG _ _ (by omega) (by omega)];unfold mV;cases kL r.Ad r.Aj<;>cases kL r.Ad r.At<;>cases kL r.Aj r.At<;>rfl
theorem qQH (r:Ai) (h:Short r):(aB (eV r.Ad r.Aj) λa=>if (!(a))=true then some true else aB (eV r.Ad r.At) λb=>if (!(b))=true then some true else aB (eV r.Aj r.At) λc=>some (!(c)))=some (!mV r):=by
 have h1:=h.Ad;have h2:=h.over;have h3:=h.At;rw [xZ _ _ (by omega) (by omega),xZ _ _ (by omega) (by omega),xZ _ _ (by omega) (by omega)];unfold mV;cases kL r.Ad r.Aj<;>cases kL r.Ad r.At<;>cases kL r.Aj r.At<;>rfl
theorem qWX (l:List Ai) (p q:Ai->Bool):l.all (λr=>p r&&q r)=(l.all p&&l.all q):=by
 rw [Bool.eq_iff_iff];simp only [zQT,zQA];exact⟨λh=>⟨λx hx=>(h x hx).1,λx hx=>(h x hx).2⟩,λh x hx=>⟨h.1 x hx,h.2 x hx⟩⟩
theorem zAP (t:Al) (h:TOk t):mW t=some (fG t):=by
 have hp:=h.Ad;have hr:=h.Ab;unfold mW;by_cases hl:qDA t=true
 ·have hs : t.Ac <= 24 := by unfold qDA at hl; simp at hl; omega
  have hc : (if (48 : Int) < (t.Ab.length : Int) then some true
   else if (32 : Int) < (t.Ad.length : Int) then some true
   else aB (cO t.Ac (25 : Int)) fun r5 => if (!(r5)) = true then some true else aB (cO t.Ah (21 : Int)) fun r7 => some (!(r7))) = some false := by
   simp only [vV,aF];unfold qDA at hl;simp only [decide_eq_true_eq] at hl;rw [if_neg (by omega),if_neg (by omega),if_neg (by unfold inB;simp;omega)];simp [inB];omega
  rw [hc];simp only [aF,qEQ t (by omega)];by_cases hpb:mR t=true
  ·simp only [hpb];simp only [Bool.not_true,Bool.false_eq_true,if_false];rw [qOC t.Ab (lH t) 1 hr (eX t) (λr hm=>qGX t r hs (h.each r hm))];rw [oH t.Ab (nT t) 1 hr _ (λr hm=>qVB t r (by omega) (h.each r hm)),oH t.Ab mV 10 hr _ (λr hm=>qSQ r (h.each r hm)),qOD t hr];unfold fG;rw [qWX];simp only [hl,hpb];cases t.Ab.all (lH t)<;>cases t.Ab.all (nT t)<;>cases t.Ab.all mV<;>cases uW t.Ab<;>rfl
  rw [zT hl (by simpa using hpb)];simp [hpb]
 rw [qJB (by simpa using hl)]
 have hc : (if (48 : Int) < (t.Ab.length : Int) then some true
  else if (32 : Int) < (t.Ad.length : Int) then some true
  else aB (cO t.Ac (25 : Int)) fun r5 => if (!(r5)) = true then some true else aB (cO t.Ah (21 : Int)) fun r7 => some (!(r7))) = some true := by
  simp only [vV,aF];unfold qDA at hl;simp only [decide_eq_true_eq] at hl
  grind [inB]
 rw [hc];rfl
theorem qWK (t:Al) (s:BA) (h:Cnt t.Ab):mA t s=some (uB (t.Ab.findIdx? λq=>decide (q.name=s))):=by
 unfold mA;rw [qBK t.Ab (λq=>decide (q.name=s)) (λi=>.inr (i:Int)) (.inl ()) h]
 ·cases t.Ab.findIdx? (λq=>decide (q.name=s))<;>rfl
 ·intro i e he;have hi:=(zQQ.1 he).1;simp only [dY hi,if_true,aJ he];by_cases hx:e.name=s
  ·simp [hx]
  simp [hx,bU hi h]
 simp
theorem qNR (t : Al) (h : Cnt t.Ad) (e : t.A1.length = t.Ad.length) (k : Unit -> Option Int) : bR (
    aZ (fun x10 =>
     if x10 < (t.Ad.length : Int) then
      aU t.Ad x10 fun e13 =>
      aB (
       if e13 < (0 : Int) then
        some true
       else
        if (0 : Int) < x10 then
         aC (I64 (x10 - (1 : Int))) <|
         aU t.Ad (x10 - (1 : Int)) fun e22 =>
         if e13 <= e22 then
          some true
         else
          aU t.A1 x10 fun e24 =>
          if e24 < (0 : Int) then
           some true
          else
           aU t.A1 x10 fun e26 =>
           some (decide (t.Ac <= e26))
        else
         aU t.A1 x10 fun e18 =>
         if e18 < (0 : Int) then
          some true
         else
          aU t.A1 x10 fun e20 =>
          some (decide (t.Ac <= e20))) fun x14 =>
      if x14 = true then
       aP (
        aP (
         some (1 : Int)))
      else
       aC (I64 (x10 + (1 : Int))) <|
       some (.inl (x10 + (1 : Int)))
     else
      aP (
       some (.inl ()))) (0 : Int)) k = if fK t.Ad.length (rR t) = true then k () else some 1 := by
 rw [eZ t.Ad.length (λi=>!rR t i) (.inr 1) (.inl ()) h,fW]
 ·cases fK t.Ad.length (rR t)<;>rfl
 ·intro i hi;obtain⟨p,hp⟩:=jC hi;obtain⟨q,hq⟩:=jC (xs:=t.Ad) (i:=i - 1) (by omega);obtain⟨hm,hh⟩:=jC (xs:=t.A1) (i:=i) (by omega);simp only [dY hi,if_true,aJ hp,aJ hh,aF];rw [qIS hp hq hh];by_cases h0:0 < i
  ·have e1 : ((i : Int) - 1) = ((i - 1 : Nat) : Int) := by omega
   have e2:I64 ((i - 1:Nat):Int):=by unfold I64;omega
   have e3:(0:Int) < (i:Int):=by omega
   simp only [e1,aA e2,aJ hq,e3,if_true,fA,aF,aA (bU hi h),dJ]
   grind
  have e3 : ¬ (0 : Int) < (i : Int) := by omega
  simp only [e3,if_false,fA,aF,aA (bU hi h),dJ]
  grind
 simp
theorem qLC (t : Al) (h : t.Ab.length <= 2000000) (k : Unit -> Option Int) : bR (
    aZ (fun x72 =>
     if x72 < (t.Ab.length : Int) then
      aU t.Ab x72 fun e75 =>
      aB (mA t e75.name) fun r76 =>
      if r76 = x72 then
       aC (I64 (x72 + (1 : Int))) <|
       some (.inl (x72 + (1 : Int)))
      else
       aP (
        aP (
         some (8 : Int)))
     else
      aP (
       some (.inl ()))) (0 : Int)) k = if uW t.Ab = true then k () else some 8 := by
 rw [eZ t.Ab.length (λi=>!xG t.Ab i) (.inr 8) (.inl ()) (by omega),fW]
 ·unfold uW;cases fK t.Ab.length (xG t.Ab)<;>rfl
 ·intro i hi;obtain⟨x,hx⟩:=jC hi;have hf:=qWJ hx;simp only [dY hi,if_true,aJ hx,qWK t _ (show Cnt t.Ab by unfold Cnt;omega),aF,aA (bU hi (by omega)),dJ]
  cases hb:xG t.Ab i with
  | true=>rw [hb] at hf;rw [if_pos (of_decide_eq_true hf)];simp
  | false=>rw [hb] at hf;rw [if_neg (of_decide_eq_false hf)];simp
 simp
theorem qGY (t:Al) (r:Ai) (ht:Cnt t.Ad) (h:Short r):(aB (kQ t r) λa=>if (!(a))=true then some true else aB (dK t r.Ad) λb=>if (!(b))=true then some true else aB (dK t r.Aj) λc=>if (!(c))=true then some true else aB (dK t r.At) λd=>some (!(d)))=some (!(lH t r&&nT t r)):=by
 have h1:=h.Ad;have h2:=h.over;have h3:=h.At;rw [qQZ t r h,rF t _ ht (by omega),rF t _ ht (by omega),rF t _ ht (by omega)];unfold nT;cases lH t r<;>cases eL t r.Ad<;>cases eL t r.Aj<;>cases eL t r.At<;>rfl
theorem qSJ (t:Al) (h:TOk t):kR t=some (fG t):=by
 have hp:=h.Ad;have hr:=h.Ab;unfold kR;by_cases hl:qDA t=true
 ·rw [if_neg (by unfold qDA at hl; simp only [decide_eq_true_eq] at hl; simp only [Bool.or_eq_true, decide_eq_true_eq]; omega)];by_cases e:t.A1.length=t.Ad.length
  ·rw [if_pos (by rw [e]), qNR t (by omega) e, oH t.Ab (fun r => lH t r && nT t r) 1 hr _ (fun r hm => qGY t r (by omega) (h.each r hm)), oH t.Ab mV 10 hr _ (fun r hm => qQH r (h.each r hm)), qLC t hr];unfold fG;simp only [hl];have hpb:mR t=fK t.Ad.length (rR t):=by unfold mR;simp [e]
   rw [hpb];cases fK t.Ad.length (rR t)<;>cases t.Ab.all (λr=>lH t r&&nT t r)<;>cases t.Ab.all mV<;>cases uW t.Ab<;>rfl
  rw [if_neg (by omega),zT hl (by unfold mR;simp [e])]
 rw [if_pos (by unfold qDA at hl;simp only [decide_eq_true_eq] at hl;simp only [Bool.or_eq_true,decide_eq_true_eq];omega),qJB (by simpa using hl)]
theorem qJW (x:Ak) (n:Int) (hn:0<=n/\n<=2000000):hP x n=some (dU x n):=by
 unfold hP;simp only [aA (show I64 (n - 1) by unfold I64;omega),fA,aF];simp only [zD,Option.some.injEq];rw [Bool.eq_iff_iff];unfold dU;simp only [zX,zQA,decide_eq_true_eq,Bool.or_eq_true,and_true,Bool.false_eq_true,and_false,or_false];rcases Decidable.em (x.state=0) with s0|s0<;>rcases Decidable.em (x.state=1) with s1|s1<;>rcases Decidable.em (x.state=2) with s2|s2<;>rcases Decidable.em (x.state=3) with s3|s3<;>rcases Decidable.em (x.state=4) with s4|s4<;>first|omega|(simp only [s0,s1,s2,s3,s4,if_true,if_false,true_and,false_and,or_false,false_or,not_true,not_false_iff,and_true,and_false,true_or,or_true];omega)
theorem qLL (x:Ak) (n:Int) (hn:0<=n/\n<=2000000):hO x n=some (dU x n):=by
 unfold hO;simp only [aA (show I64 (n - 1) by unfold I64;omega),fA,aF];simp only [zD,Option.some.injEq];rw [Bool.eq_iff_iff];unfold dU;simp only [zX,zQA,decide_eq_true_eq,Bool.or_eq_true,and_true,Bool.false_eq_true,and_false,or_false];rcases Decidable.em (x.state=0) with s0|s0<;>rcases Decidable.em (x.state=1) with s1|s1<;>rcases Decidable.em (x.state=2) with s2|s2<;>rcases Decidable.em (x.state=3) with s3|s3<;>rcases Decidable.em (x.state=4) with s4|s4<;>first|omega|(simp only [s0,s1,s2,s3,s4,if_true,if_false,true_and,false_and,or_false,false_or,not_true,not_false_iff,and_true,and_false,true_or,or_true];omega)
theorem qIJ (t : Al) (s : Az) (h : TOk t) (hlen : s.Ab.length = t.Ab.length) (g : Ak -> Int -> Option Bool) (hg : ∀ x n, 0 <= n /\ n <= 2000000 -> g x n = some (dU x n)) (k : Unit -> Option Bool) : bR (
   aZ (fun x9 =>
    if x9 < (s.Ab.length : Int) then
     aU s.Ab x9 fun e12 =>
     aU t.Ab x9 fun e13 =>
     aB (g e12 (e13.Ac.length : Int)) fun r14 =>
     if (!(r14)) = true then
      aP (
       aP (
        some false))
     else
      aC (I64 (x9 + (1 : Int))) <|
      some (.inl (x9 + (1 : Int)))
    else
     aP (
      some (.inl ()))) (0 : Int)) k = if fK s.Ab.length (jF t s) = true then k () else some false := by
 have hr:=h.Ab;rw [eZ s.Ab.length (λi=>!jF t s i) (.inr false) (.inl ()) (by omega),fW]
 ·cases fK s.Ab.length (jF t s)<;>rfl
 ·intro i hi;obtain⟨x,hx⟩:=jC hi;obtain⟨r,hrr⟩:=jC (xs:=t.Ab) (i:=i) (by omega);have hs:=(h.each r (zQM hrr)).secs;simp only [dY hi,if_true,aJ hx,aJ hrr,hg x _ (show 0<=(r.Ac.length:Int)/\(r.Ac.length:Int)<=2000000 by omega),aF,yI hx hrr,aA (bU hi (by omega)),dJ]
 simp
theorem qZP (l : List Int) (h : Cnt l) (k : Unit -> Option Bool) : bR (
   aZ (fun x22 =>
    if x22 < (l.length : Int) then
     aU l x22 fun e25 =>
     if ((!(decide (e25 = (1 : Int)))) && (!(decide (e25 = (2 : Int))))) = true then
      aP (
       aP (
        some false))
     else
      aC (I64 (x22 + (1 : Int))) <|
      some (.inl (x22 + (1 : Int)))
    else
     aP (
      some (.inl ()))) (0 : Int)) k = if l.all qDB = true then k () else some false := by
 rw [fE l (λr=>!qDB r) (.inr false) (.inl ()) h,jI]
 ·cases l.all qDB<;>rfl
 ·intro i x hx;have hi:=(zQQ.1 hx).1;simp only [dY hi,if_true,aJ hx,aA (bU hi h),dJ,qDB];by_cases h1:x=1<;>by_cases h2:x=2<;>simp [h1,h2]
 simp
theorem qRT (l : List Int) (h : Cnt l) (k : Unit -> Option Bool) : bR (
   aZ (fun x22 =>
    if x22 < (l.length : Int) then
     aB (
      aU l x22 fun e27 =>
      if e27 = (1 : Int) then
       some false
      else
       aU l x22 fun e29 =>
       some (!(decide (e29 = (2 : Int))))) fun x25 =>
     if x25 = true then
      aP (
       aP (
        some false))
     else
      aC (I64 (x22 + (1 : Int))) <|
      some (.inl (x22 + (1 : Int)))
    else
     aP (
      some (.inl ()))) (0 : Int)) k = if l.all qDB = true then k () else some false := by
 rw [fE l (λr=>!qDB r) (.inr false) (.inl ()) h,jI]
 ·cases l.all qDB<;>rfl
 ·intro i x hx;have hi:=(zQQ.1 hx).1;simp only [dY hi,if_true,aJ hx,aA (bU hi h),dJ,qDB,fA,aF];by_cases h1:x=1<;>by_cases h2:x=2<;>simp [h1,h2]
 simp
theorem qIY (t:Al) (s:Az):(if fG t=(0:Int) then if (s.Ab.length:Int)=(t.Ab.length:Int) then some (!(decide ((s.lies.length:Int)=(t.Ad.length:Int)))) else some true else some true)=some (!decide (fG t=0/\s.Ab.length=t.Ab.length/\s.lies.length=t.Ad.length)):=by
 by_cases h1:fG t=0<;>by_cases h2:s.Ab.length=t.Ab.length<;>by_cases h3:s.lies.length=t.Ad.length<;>simp [h1,h2,h3]<;>omega
theorem zDB (t:Al) (s:Az) (h:TOk t):qA t s=some (sM t s):=by
 have hp:=h.Ad;unfold qA sM;simp only [zAP t h,aF,qIY];by_cases hd:fG t=0/\s.Ab.length=t.Ab.length/\s.lies.length=t.Ad.length
 ·rw [decide_eq_true hd];simp only [Bool.not_true,Bool.false_eq_true,if_false];rw [qIJ t s h hd.2.1 _ (λx n hn=>qJW x n hn),qZP s.lies (by unfold Cnt;omega)];cases fK s.Ab.length (jF t s)<;>cases s.lies.all qDB<;>rfl
 simp [hd]
theorem qWI (t:Al) (s:Az) (h:TOk t):pK t s=some (sM t s):=by
 have hp:=h.Ad;unfold pK sM;simp only [qSJ t h,aF,qIY];by_cases hd:fG t=0/\s.Ab.length=t.Ab.length/\s.lies.length=t.Ad.length
 ·rw [decide_eq_true hd];simp only [Bool.not_true,Bool.false_eq_true,if_false];rw [qIJ t s h hd.2.1 _ (λx n hn=>qLL x n hn),qRT s.lies (by unfold Cnt;omega)];cases fK s.Ab.length (jF t s)<;>cases s.lies.all qDB<;>rfl
 simp [hd]
theorem yN {x:Ak} {n:Nat} (h:dU x n=true):0<=x.rel/\x.rel<=n:=by
 unfold dU at h;split at h
 ·simp at h;omega
 split at h
 ·simp at h;omega
 split at h
 ·simp at h;omega
 cases h
theorem qFV (l:List Int) (h:l.length<=1000000000):dB l=some l:=by
 unfold dB;rw [aA (by simpa using h)];cases l<;>simp [qVV]
theorem qZM (r:Ai) (x:Ak) (h:Short r) (hx:dU x r.Ac.length=true):pY r x=some (nK r x):=by
 have hr:=yN hx;have hs:=h.secs;unfold pY nK;split
 ·rfl
 rw [aA ⟨hr.1,hr.2,Int.le_refl _⟩];have e:x.rel=((x.rel.toNat:Nat):Int):=by omega
 rw [e,lA];simp only [Int.toNat_natCast];rw [qFV _ (by simp;omega)];rfl
theorem qZN (r:Ai) (x:Ak) (h:Short r):pZ r x=some (nL r x):=by
 have hs:=h.secs;unfold pZ nL;split
 ·rfl
 rw [qFV _ (by omega)];rfl
theorem qVP (t:Al) (s:Az) (h:TOk t) {i:Nat} {r:Ai} {x:Ak} (hr:t.Ab[i]?=some r) (hx:s.Ab[i]?=some x) (hf:dU x r.Ac.length=true):iO t s (i:Int)=some (nK r x):=by
 have hrl:=yN hf;have hs:=(h.each r (zQM hr)).secs;unfold iO nK;rw [aJ hx];split
 ·rfl
 rw [aJ hr,aJ hx,aA ⟨hrl.1,hrl.2,Int.le_refl _⟩];have e:x.rel=((x.rel.toNat:Nat):Int):=by omega
 rw [e,lA];simp only [Int.toNat_natCast];rw [aA (by simp;omega),List.nil_append]
theorem qVT (t:Al) (s:Az) (h:TOk t) {i:Nat} {r:Ai} {x:Ak} (hr:t.Ab[i]?=some r) (hx:s.Ab[i]?=some x):iP t s (i:Int)=some (nL r x):=by
 have hs:=(h.each r (zQM hr)).secs;unfold iP nL;rw [aJ hx];split
 ·rfl
 rw [aJ hr,aA (by simp;omega),List.nil_append]
end Go.Proofs.YtofndjhpbonpbaaGreatDoor
set_option linter.unusedVariables false
set_option linter.unusedSimpArgs false
set_option maxHeartbeats 400000
set_option maxRecDepth 100000
namespace Go.Proofs.YtofndjhpbonpbaaGreatDoor
open Go Go.TL
def jL (x:Int):List Int->List Int
 | []=>[x]
 | y :: r=>if x < y then x :: y :: r else if x=y then y :: r else y :: jL x r
def qBU:List Int->List Int
 | []=>[]
 | x :: r=>jL x (qBU r)
abbrev yC (l:List Int):Prop:=l.Pairwise (· < ·)
theorem insZ_mem {s x:Int}:∀ {l},s∈jL x l↔s=x\/s∈l
 | []=>by simp [jL]
 | y :: r=>by
  unfold jL;split
  ·simp
  split
  ·rename_i e;subst e;simp
  simp only [zQB,insZ_mem];grind
theorem ascZ_mem {s:Int}:∀ {l},s∈qBU l↔s∈l
 | []=>by simp [qBU]
 | x :: r=>by simp [qBU,insZ_mem,ascZ_mem]
theorem vD (x:Int):∀ l,yC l->yC (jL x l)
 | [],_=>by simp [jL]
 | y :: r,h=>by
  have h':=List.pairwise_cons.1 h;unfold jL;split
  ·rename_i hlt;refine List.pairwise_cons.2 ⟨λa ha=>?_,h⟩;rcases zQB.1 ha with rfl|ha
   ·exact hlt
   have:=h'.1 a ha;omega
  split
  ·exact h
  refine List.pairwise_cons.2 ⟨fun a ha => ?_, vD x r h'.2⟩;rcases insZ_mem.1 ha with rfl|ha
  ·omega
  exact h'.1 a ha
theorem qAA:∀ l,yC (qBU l)
 | []=>.nil
 | x :: r=>vD x _ (qAA r)
theorem vR:∀ {l m:List Int},yC l->yC m->(∀ s,s∈l↔s∈m)->l=m
 | [],[],_,_,_=>rfl
 | [],y :: m,_,_,h=>absurd ((h y).2 (List.mem_cons_self ..)) (by simp)
 | x :: l,[],_,_,h=>absurd ((h x).1 (List.mem_cons_self ..)) (by simp)
 | x :: l,y :: m,h1,h2,h=>by
  have h1':=List.pairwise_cons.1 h1;have h2':=List.pairwise_cons.1 h2
  have hxy:x=y:=by
   rcases zQB.1 ((h x).1 (List.mem_cons_self ..)) with e|hx
   ·exact e
   rcases zQB.1 ((h y).2 (List.mem_cons_self ..)) with e|hy
   ·exact e.symm
   have:=h2'.1 x hx;have:=h1'.1 y hy;omega
  subst hxy
  congr 1
  refine vR h1'.2 h2'.2 λs=>⟨λhs=>?_,λhs=>?_⟩
  ·rcases zQB.1 ((h s).1 (List.mem_cons_of_mem _ hs)) with e|hm
   ·have:=h1'.1 s hs;omega
   exact hm
  rcases zQB.1 ((h s).2 (List.mem_cons_of_mem _ hs)) with e|hm
  ·have:=h2'.1 s hs;omega
  exact hm
theorem qUP {l m:List Int} (h:yC m) (hm:∀ s,s∈m↔s∈l):m=qBU l:=
 vR h (qAA l) λs=>(hm s).trans ascZ_mem.symm
theorem vC (x:Int):∀ l,(jL x l).length<=l.length+1
 | []=>by simp [jL]
 | y :: r=>by
  unfold jL;split
  ·simp
  split
  ·simp
  have:=vC x r;simp only [List.length_cons];omega
theorem zZ:∀ l,(qBU l).length<=l.length
 | []=>zQW _
 | x :: r=>by have h1:=zZ r;have h2:=vC x (qBU r);simp only [qBU,List.length_cons];omega
theorem qJM (l:List Int):(kN l).Pairwise (·<=·):=by
 have:=oB qIM l;exact this.imp fun {a b} h=>by rw [wC] at h;simpa using h
theorem qIK {s:Int} {l:List Int}:s∈kN l↔s∈l:=(pB (m:=qVA) l).mem_iff
theorem zR (L:List Int) (hs:L.Pairwise (·<=·)):∀ i,i<=L.length->yC (Go.Lib.compactUpTo L.toArray i)/\∀ s,s∈Go.Lib.compactUpTo L.toArray i↔s∈L.take i
 | 0,_=>⟨.nil,λs=>by simp [Go.Lib.compactUpTo]⟩
 | i+1,hi=>by
  obtain⟨h1,h2⟩:=zR L hs i (by omega);have hil:i < L.length:=by omega
  have htake:L.take (i+1)=L.take i++[L[i]]:=List.take_succ_eq_append_getElem hil;have hget:L.toArray[i]! = L[i]:=by rw [getElem!_pos L.toArray i (by simpa using hil)];simp
  rw [Go.Lib.compactUpTo_succ,hget];have hle:=List.pairwise_iff_getElem.1 hs
  cases hk:Go.Lib.keeps L.toArray i with
  | true=>
   rw [if_pos rfl];refine⟨List.pairwise_append.2 ⟨h1,by simp,λa ha b hb=>?_⟩,λs=>by rw [htake,zQN,zQN,h2]⟩;simp only [List.mem_singleton] at hb;subst hb;obtain⟨j,hj,rfl⟩:=List.mem_take_iff_getElem.1 ((h2 a).1 ha);have hj':j < i:=by omega
   have hi0:i≠0:=by omega
   have hk':=of_decide_eq_true hk;rcases hk' with h0|hne
   ·exact absurd h0 hi0
   rw [hget, getElem!_pos L.toArray (i - 1) (by simp; omega)] at hne;simp only [List.getElem_toArray] at hne
   have a1:L[j]<=L[i - 1]:=by
    rcases Nat.lt_or_ge j (i - 1) with h|h
    ·exact hle j (i - 1) (by omega) (by omega) h
    have : j = i - 1 := by omega
    subst this;exact Int.le_refl _
   have a2:=hle (i - 1) i (by omega) (by omega) (by omega);omega
  | false=>
   rw [if_neg (by simp),List.append_nil];refine⟨h1,λs=>?_⟩;have hk':=of_decide_eq_false hk;have hi0:i≠0:=λe=>hk' (.inl e)
   have he:L.toArray[i]! = L.toArray[i - 1]!:=by
    by_cases h:L.toArray[i]! = L.toArray[i - 1]!
    ·exact h
    exact absurd (.inr h) hk'
   rw [hget,getElem!_pos L.toArray (i - 1) (by simp;omega)] at he;simp only [List.getElem_toArray] at he;rw [h2,htake,zQN];refine⟨.inl,λh=>?_⟩;rcases h with h|h
   ·exact h
   simp only [List.mem_singleton] at h;rw [h,he];exact List.mem_take_iff_getElem.2 ⟨i - 1,by omega,rfl⟩
theorem qZL (l:List Int):Go.Lib.compact (kN l)=qBU l:=by
 have h:=zR (kN l) (qJM l) (kN l).length (zQW _);refine qUP h.1 λs=>?_;show s∈Go.Lib.compactUpTo (kN l).toArray (kN l).length↔_;rw [h.2,List.take_length,qIK]
theorem xK (l:List Int) (h:l.length<=1000000000):mJ l=some (qBU l):=by
 unfold mJ;rw [qFV l h,aF,aA h,aA (by rw [gP];exact h),qZL]
def qCL (s:List Int) (n:Int) (i:Nat):Bool×List Int:=if (s.take i).any (λe=>decide (n < e))=true then (true,jL n (s.take i)) else (false,s.take i)
theorem zCV {n:Int} {s:List Int} (h:∀ e∈s,e < n):jL n s=s++[n]:=by
 induction s with
 | nil=>rfl
 | cons y r ih=>
  have:=h y (List.mem_cons_self ..);unfold jL;rw [if_neg (by omega),if_neg (by omega),ih λe he=>h e (List.mem_cons_of_mem _ he)];rfl
theorem zCW {n:Int} {s:List Int} (x:Int) (ha:yC (s++[x])) (hn:n∉s++[x]):jL n (s++[x])=if s.any (λe=>decide (n < e))=true then jL n s++[x] else if n < x then s++[n]++[x] else s++[x]++[n]:=by
 induction s with
 | nil=>
  simp only [List.nil_append,List.any_nil,Bool.false_eq_true,if_false];unfold jL;by_cases h:n < x
  ·rw [if_pos h,if_pos h];rfl
  rw [if_neg h,if_neg h,if_neg (λe=>hn (by rw [e];simp))];rfl
 | cons y r ih=>
  have ha':=List.pairwise_cons.1 ha;have ih:=ih ha'.2 (λh=>hn (List.mem_cons_of_mem _ h));have hy:n≠y:=λe=>hn (by rw [e];simp);simp only [List.cons_append,List.any_cons];by_cases h:n < y
  ·have h1 : jL n (y :: (r ++ [x])) = n :: y :: (r ++ [x]) := by unfold jL; rw [if_pos h]
   have h2:jL n (y :: r)=n :: y :: r:=by unfold jL;rw [if_pos h]
   rw [h1,h2,decide_eq_true h,Bool.true_or,if_pos rfl];rfl
  have h1 : jL n (y :: (r ++ [x])) = y :: jL n (r ++ [x]) := by rw [jL, if_neg h, if_neg hy]
  have h2:jL n (y :: r)=y :: jL n r:=by rw [jL,if_neg h,if_neg hy]
  rw [h1,h2,ih,decide_eq_false h,Bool.false_or];split
  ·rfl
  split<;>rfl
theorem qIX (s:List Int) (n:Int) (ha:yC s) (hl:s.length<=100000000):eS s n=some (jL n s):=by
 unfold eS;rw [zJ s n (by unfold Cnt;omega),aF];by_cases hm:n∈s
 ·rw [if_pos (by simpa using hm)]
  congr 1
  refine vR ha (vD n s ha) λx=>?_;rw [insZ_mem];exact⟨.inr,λh=>h.elim (λe=>e ▸ hm) id⟩
 rw [if_neg (by simpa using hm)]
 have hlenT:∀ i,i<=s.length->(qCL s n i).2.length<=i+1:=by
  intro i hi;unfold qCL;split
  ·have:=vC n (s.take i);simp only [List.length_take] at this ⊢;omega
  simp only [List.length_take];omega
 rw [oG (λi:Nat=>((qCL s n i).1,(i:Int),(qCL s n i).2)) s.length (o:=qCL s n s.length) (by simp [qCL]) (by omega) (λi hi=>?_) ?_]
 ·rw [aF];have hlT:=hlenT s.length (zQW _);unfold qCL at hlT ⊢;rw [List.take_length] at hlT ⊢;by_cases hany:s.any (λe=>decide (n < e))=true
  ·rw [if_pos hany];rfl
  rw [if_neg hany] at hlT ⊢;simp only [Bool.not_false,if_true];rw [aA (by simp;omega)];rw [zCV λe he=>?_];have:¬ n < e:=λh=>hany (zQU.2 ⟨e,he,by simpa using h⟩);have hne:n≠e:=λh=>hm (h ▸ he);omega
 ·dsimp only;rw [if_neg (by omega)];rfl
 have hx:s[i]?=some s[i]:=zQR hi;have htake:s.take (i+1)=s.take i++[s[i]]:=List.take_succ_eq_append_getElem hi;have hlT:=hlenT i (by omega);dsimp only;rw [if_pos (by omega)];simp only [aJ hx];have happ:=zCW (n:=n) (s:=s.take i) s[i] (by rw [<- htake];exact ha.sublist (List.take_sublist _ _)) (by rw [<- htake];exact λh=>hm (List.mem_of_mem_take h));unfold qCL at hlT ⊢;rw [htake,List.any_append];simp only [List.any_cons,List.any_nil,Bool.or_false];by_cases hany:(s.take i).any (λe=>decide (n < e))=true
 ·rw [if_pos hany] at hlT happ ⊢;dsimp only at hlT;rw [hany,Bool.true_or,if_pos rfl];simp only [Bool.not_true,Bool.false_eq_true,if_false,aF];rw [aA (by simp only [zQL,List.length_cons,List.length_nil];omega),aA (bU hi (by omega)),happ];rfl
 rw [if_neg hany] at hlT happ ⊢;dsimp only at hlT;have hany':(s.take i).any (λe=>decide (n < e))=false:=by simpa using hany
 rw [hany',Bool.false_or];simp only [Bool.not_false,if_true,aF];by_cases hlt:n < s[i]
 ·rw [if_pos hlt] at happ;rw [decide_eq_true hlt,if_pos rfl,if_pos rfl,aA (by simp only [zQL,List.length_cons,List.length_nil];omega)];simp only [aF];rw [aA (by simp only [zQL,List.length_cons,List.length_nil];omega),aA (bU hi (by omega)),happ];rfl
 rw [decide_eq_false hlt, if_neg (by simp), if_neg (by simp)];simp only [aF];rw [aA (by simp only [zQL,List.length_cons,List.length_nil];omega),aA (bU hi (by omega))];rfl
def jJ (l:List Int) (i:Nat):List Int:=(l.take i).foldl (λb x=>jL x b) []
theorem qBI (l:List Int):∀ i,i<=l.length->yC (jJ l i)/\(∀ s,s∈jJ l i↔s∈l.take i)/\(jJ l i).length<=i
 | 0,_=>⟨.nil,λs=>by simp [jJ],by simp [jJ]⟩
 | i+1,hi=>by
  obtain⟨h1,h2,h3⟩:=qBI l i (by omega);have hil:i < l.length:=by omega
  have hs:jJ l (i+1)=jL l[i] (jJ l i):=by
   unfold jJ;rw [List.take_succ_eq_append_getElem hil,List.foldl_append];rfl
  rw [hs];refine⟨vD _ _ h1,λs=>?_,?_⟩
  ·rw [insZ_mem,h2,List.take_succ_eq_append_getElem hil,zQN,List.mem_singleton];exact Or.comm
  have:=vC l[i] (jJ l i);omega
theorem qVY (l:List Int) (h:l.length<=10000000):kK l=some (qBU l):=by
 unfold kK;have hall:=qBI l l.length (zQW _);have hE:jJ l l.length=qBU l:=qUP hall.1 λs=>by rw [hall.2.1,List.take_length]
 rw [oG (λi:Nat=>(jJ l i,(i:Int))) l.length (o:=jJ l l.length) (by simp [jJ]) (by omega) (λi hi=>?_) (by dsimp only;rw [if_neg (by omega)];rfl)]
 ·rw [aF,hE]
 have hx:l[i]?=some l[i]:=zQR hi;obtain⟨h1,h2,h3⟩:=qBI l i (by omega);dsimp only;rw [if_pos (by omega),aJ hx,qIX _ _ h1 (by omega),aF,aA (bU hi (by omega))]
 have:jJ l (i+1)=jL l[i] (jJ l i):=by
  unfold jJ;rw [List.take_succ_eq_append_getElem hi,List.foldl_append];rfl
 rw [this];rfl
def ltS (x y:Aa):Bool:=decide (x.el < y.el)||(decide (x.el=y.el)&&decide (x.pos < y.pos))
theorem yZ {x y:Aa}:ltS x y=true↔x.el < y.el\/x.el=y.el/\x.pos < y.pos:=by simp [ltS]
theorem pW (x:Aa):ltS x x=false:=by simp [ltS]
theorem qBJ {x y z:Aa} (h1:ltS x y=true) (h2:ltS y z=true):ltS x z=true:=by rw [yZ] at *; omega
theorem qIU {x y:Aa} (h1:ltS x y=true) (h2:ltS y x=true):False:=by rw [yZ] at *; omega
theorem zAE {x y:Aa} (h1:x.el=y.el) (h2:x.pos=y.pos):x=y:=by
 obtain⟨a,b⟩:=x;obtain⟨c,d⟩:=y;simp_all
theorem qLA {x y:Aa} (h1:ltS x y=false) (h2:ltS y x=false):x=y:=by
 have h1':¬ (x.el < y.el\/x.el=y.el/\x.pos < y.pos):=λh=>by rw [<- yZ,h1] at h;cases h
 have h2':¬ (y.el < x.el\/y.el=x.el/\y.pos < x.pos):=λh=>by rw [<- yZ,h2] at h;cases h
 exact zAE (by omega) (by omega)
def qFF (x:Aa):List Aa->List Aa
 | []=>[x]
 | y :: r=>if ltS x y=true then x :: y :: r else if x=y then y :: r else y :: qFF x r
def iB:List Aa->List Aa
 | []=>[]
 | x :: r=>qFF x (iB r)
abbrev Asc (l:List Aa):Prop:=l.Pairwise (λa b=>ltS a b=true)
theorem insS_mem {s x:Aa}:∀ {l},s∈qFF x l↔s=x\/s∈l
 | []=>by simp [qFF]
 | y :: r=>by
  unfold qFF;split
  ·simp
  split
  ·rename_i e;subst e;simp
  simp only [zQB,insS_mem];grind
theorem ascS_mem {s:Aa}:∀ {l},s∈iB l↔s∈l
 | []=>by simp [iB]
 | x :: r=>by simp [iB,insS_mem,ascS_mem]
theorem qOS (x:Aa):∀ l,Asc l->Asc (qFF x l)
 | [],_=>by simp [qFF]
 | y :: r,h=>by
  have h':=List.pairwise_cons.1 h;unfold qFF;split
  ·rename_i hxy;refine List.pairwise_cons.2 ⟨λb hb=>?_,h⟩;rcases zQB.1 hb with rfl|hb
   ·exact hxy
   exact qBJ hxy (h'.1 b hb)
  split
  ·exact h
  rename_i h1 h2;refine List.pairwise_cons.2 ⟨λb hb=>?_,qOS x r h'.2⟩;rcases insS_mem.1 hb with rfl|hb
  ·cases h3:ltS y b with
   | true=>rfl
   | false=>exact absurd (qLA (by simpa using h1) h3) h2
  exact h'.1 b hb
theorem qAB:∀ l,Asc (iB l)
 | []=>.nil
 | x :: r=>qOS x _ (qAB r)
theorem qGC:∀ {l m:List Aa},Asc l->Asc m->(∀ s,s∈l↔s∈m)->l=m
 | [],[],_,_,_=>rfl
 | [],y :: m,_,_,h=>absurd ((h y).2 (List.mem_cons_self ..)) (by simp)
 | x :: l,[],_,_,h=>absurd ((h x).1 (List.mem_cons_self ..)) (by simp)
 | x :: l,y :: m,h1,h2,h=>by
  have h1':=List.pairwise_cons.1 h1;have h2':=List.pairwise_cons.1 h2
  have e:x=y:=by
   rcases zQB.1 ((h x).1 (List.mem_cons_self ..)) with e|hx
   ·exact e
   rcases zQB.1 ((h y).2 (List.mem_cons_self ..)) with e|hy
   ·exact e.symm
   exact (qIU (h2'.1 x hx) (h1'.1 y hy)).elim
  subst e
  have := qGC h1'.2 h2'.2 fun s => ⟨fun hs => by
   rcases zQB.1 ((h s).1 (List.mem_cons_of_mem _ hs)) with e | h3
   ·subst e; have := h1'.1 s hs; rw [pW] at this; cases this
   ·exact h3, fun hs => by
   rcases zQB.1 ((h s).2 (List.mem_cons_of_mem _ hs)) with e | h3
   ·subst e; have := h2'.1 s hs; rw [pW] at this; cases this
   exact h3⟩
  rw [this]
theorem qUQ {l m:List Aa} (h:Asc m) (hm:∀ s,s∈m↔s∈l):m=iB l:=qGC h (qAB l) λs=>by rw [hm,ascS_mem]
theorem qGD (l:List Aa):(iB l).length<=l.length:=by
 induction l with
 | nil=>simp [iB]
 | cons x r ih=>
  have:∀ m,(qFF x m).length<=m.length+1:=by
   intro m
   induction m with
   | nil=>simp [qFF]
   | cons y q ih=>unfold qFF;split<;>(try split)<;>simp<;>omega
  have h:=this (iB r);simp only [iB,List.length_cons];omega
theorem qLB (x y:Aa):ltM cD x y=ltS x y:=by
 rw [Bool.eq_iff_iff,yZ];simp only [ltM,pF,Option.getD_some,sgn,decide_eq_true_eq];split<;>split<;>(try split)<;>(try split)<;>omega
def lW (L:List Aa):Nat->List Aa
 | 0=>[]
 | i+1=>match L[i]? with
  | none=>lW L i
  | some e=>if i=0\/¬ L[i - 1]?=some e then lW L i++[e] else lW L i
theorem qIZ (L:List Aa):∀ i,(lW L i).length<=i
 | 0=>zQW _
 | i+1=>by
  have:=qIZ L i;unfold lW;split
  ·omega
  split
  ·simp;omega
  omega
theorem qPD (L : List Aa) (hs : L.Pairwise (fun a b => ltS b a = false)) : ∀ i, i <= L.length -> Asc (lW L i) /\ ∀ s, s ∈ lW L i ↔ s ∈ L.take i
 | 0,_=>⟨.nil,λs=>by simp [lW]⟩
 | i+1,hi=>by
  obtain⟨h1,h2⟩:=qPD L hs i (by omega);have he:L[i]?=some L[i]:=by simp
  rw [List.pairwise_iff_getElem] at hs;have htake:L.take (i+1)=L.take i++[L[i]]:=by rw [List.take_add_one,he];rfl
  unfold lW;rw [he];simp only;split
  ·rename_i hc;refine⟨List.pairwise_append.2 ⟨h1,by simp,λa ha b hb=>?_⟩,λs=>by rw [htake,zQN,zQN,h2]⟩;simp only [List.mem_singleton] at hb;subst hb;rcases hc with h0|hc
   ·subst h0;simp [lW] at ha
   have hi0 : i ≠ 0 := fun e => by subst e; simp [lW] at ha
   obtain⟨j,hj,rfl⟩:=List.mem_take_iff_getElem.1 ((h2 a).1 ha);have e1:L[i - 1]?=some L[i - 1]:=by rw [zQR]
   have hne:L[i - 1]≠L[i]:=λe=>hc (by rw [e1,e])
   have hlt:ltS L[i - 1] L[i]=true:=by
    cases h3:ltS L[i - 1] L[i] with
    | true=>rfl
    | false=>exact absurd (qLA h3 (hs (i - 1) i (by omega) (by omega) (by omega))) hne
   by_cases hj':j=i - 1
   ·subst hj';exact hlt
   have h4 := hs j (i - 1) (by omega) (by omega) (by omega)
   cases h5:ltS L[j] L[i - 1] with
   | true=>exact qBJ h5 hlt
   | false=>rw [qLA h5 h4];exact hlt
  rename_i hc;refine⟨h1,λs=>?_⟩;rw [htake,zQN,h2];have hi0:i≠0:=λe=>hc (.inl e)
  have e1:L[i - 1]?=some L[i]:=by
   cases h:decide (L[i - 1]?=some L[i]) with
   | true=>exact of_decide_eq_true h
   | false=>exact absurd (.inr (of_decide_eq_false h)) hc
  have hm:L[i]∈L.take i:=List.mem_take_iff_getElem.2 ⟨i - 1,by omega,by rw [zQR (by omega)] at e1;exact Option.some.inj e1⟩;refine⟨.inl,λh=>?_⟩;rcases h with h|h
  ·exact h
  simp only [List.mem_singleton] at h;subst h;exact hm
abbrev fX (r:Ai):List Aa:=r.Ad++r.Aj++r.At
theorem qSD (xss:List (List Aa)) (h:xss.length<=1000/\xss.flatten.length<=1000000000):fI xss=some xss.flatten:=aA h
theorem qMN (r:Ai) (h:Short r) (ho:∀ s∈fX r,Aa.ok s):iJ r=some (iB (fX r)):=by
 have hfl:[r.Ad,r.Aj,r.At].flatten=fX r:=by simp [fX]
 have hlen:(fX r).length<=6000000:=by have:=h.Ad;have:=h.over;have:=h.At;simp [fX];omega
 unfold iJ;rw [qSD _ ⟨by simp,by rw [hfl];omega⟩,aF,hfl,aA (by omega)];generalize hL:pC cD (fX r)=L;have hLl:L.length=(fX r).length:=by rw [<- hL,oC]
 have hmem:∀ s,s∈L↔s∈fX r:=λs=>by rw [<- hL];exact (pB _).mem_iff
 have hsort:L.Pairwise (λa b=>ltS b a=false):=by
  rw [<- hL];have:=oB kZ (fX r);exact this.imp fun {a b} hab=>by rw [<- qLB];exact hab
 obtain⟨h1,h2⟩:=qPD L hsort L.length (zQW _);have hfin:lW L L.length=iB (fX r):=qUQ h1 λs=>by rw [h2,List.take_length,hmem]
 rw [jB (b:=([]:List Aa)) (o:=iB (fX r)) L.length (lW L) rfl (by omega) (λi hi=>?_) (by dsimp only;rw [if_neg (by omega),hfin];rfl)]
 ·rfl
 have he : L[i]? = some L[i] := by simp
 have hg:(lW L i++[L[i]]).length<=1000000000:=by have:=qIZ L i;simp;omega
 dsimp only;rw [if_pos (by omega),aJ he]
 have hcond:(if (i:Int)=0 then some true else aC (I64 ((i:Int) - 1)) (aU L ((i:Int) - 1) λe17=>aC (Aa.ok L[i]/\Aa.ok e17) (some (!decide (L[i]=e17)))))=some (decide (i=0\/¬ L[i - 1]?=some L[i])):=by
  by_cases h0:i=0
  ·subst h0;simp
  have e1 : L[i - 1]? = some L[i - 1] := by rw [zQR]
  have e2:((i:Int) - 1)=((i - 1:Nat):Int):=by omega
  rw [if_neg (by omega),aA (by unfold I64;omega),e2,aJ e1,aA ⟨ho _ ((hmem _).1 (List.getElem_mem _)),ho _ ((hmem _).1 (List.getElem_mem _))⟩,e1];have e3:(L[i]=L[i - 1])=(L[i - 1]=L[i]):=propext eq_comm;simp only [Option.some.injEq,h0,false_or,e3,decide_not]
 rw [hcond,aF];have hstep:lW L (i+1)=if i=0\/¬ L[i - 1]?=some L[i] then lW L i++[L[i]] else lW L i:=by rw [lW,he]
 by_cases hc:i=0\/¬ L[i - 1]?=some L[i]
 ·rw [if_pos (by simpa using hc),aA hg,aA (bU (n:=L.length) hi (by omega)),hstep,if_pos hc]
 rw [if_neg (by simpa using hc),aA (bU (n:=L.length) hi (by omega)),hstep,if_neg hc]
theorem zAS {D:List Aa} (h:Asc D) {i j:Nat} (hi:i < D.length) (hj:j < D.length):ltS D[i] D[j]=true↔i < j:=by
  rw [Asc,List.pairwise_iff_getElem] at h;constructor
  · intro hl
    rcases Nat.lt_trichotomy i j with h1|h1|h1
    · exact h1
    · subst h1;rw [pW] at hl;cases hl
    exact (qIU hl (h j i hj hi h1)).elim
  exact λhl=>h i j hi hj hl
def tU (out:List Aa) (e:Aa):Bool:=out.isEmpty||(out.getLast?).any λl=>ltS l e
def eQ (A out:List Aa):Nat->Int
  | 0=>-1
  | i+1=>match A[i]? with
    | none=>eQ A out i
    | some e=>if tU out e=true/\(eQ A out i < 0\/(A[(eQ A out i).toNat]?).any (λb=>ltS e b)=true) then (i:Int) else eQ A out i
theorem qBT (A out:List Aa):∀ i,i<=A.length->(eQ A out i=-1/\∀ j,j < i->(A[j]?).any (tU out)=false)\/
    ∃ b:Nat,eQ A out i=(b:Int)/\b < i/\∃ e,A[b]?=some e/\tU out e=true/\∀ j e',j < i->A[j]?=some e'->tU out e'=true->ltS e' e=false
  | 0,_=>.inl ⟨rfl,λj hj=>absurd hj (zQV j)⟩
  | i+1,hi=>by
    have he:A[i]?=some A[i]:=by simp
    have ih:=qBT A out i (by omega);unfold eQ;rw [he];simp only;by_cases hc:tU out A[i]=true
    · rcases ih with ⟨h1,h2⟩|⟨b,h1,h2,e,h3,h4,h5⟩
      · rw [if_pos ⟨hc, .inl (by omega)⟩]
        refine .inr ⟨i,rfl,by omega,A[i],he,hc,λj e' hj hj' hc'=>?_⟩;rcases Nat.lt_or_ge j i with h|h
        · have:=h2 j h;rw [hj'] at this;simp [hc'] at this
        have : j = i := by omega
        subst this;rw [he] at hj';cases hj';exact pW _
      rw [h1];have e1:A[((b:Int)).toNat]?=some e:=by simpa using h3
      rw [e1];by_cases hl:ltS A[i] e=true
      · rw [if_pos ⟨hc, .inr (by simpa using hl)⟩]
        refine .inr ⟨i,rfl,by omega,A[i],he,hc,λj e' hj hj' hc'=>?_⟩;rcases Nat.lt_or_ge j i with h|h
        · cases h6:ltS e' A[i] with
          | false=>rfl
          | true=>have h7:=h5 j e' h hj' hc';rw [qBJ h6 hl] at h7;cases h7
        have : j = i := by omega
        subst this;rw [he] at hj';cases hj';exact pW _
      rw [if_neg (by rintro ⟨_, h | h⟩; · omega
                     · exact hl (by simpa using h))]
      refine .inr ⟨b,rfl,by omega,e,h3,h4,λj e' hj hj' hc'=>?_⟩;rcases Nat.lt_or_ge j i with h|h
      · exact h5 j e' h hj' hc'
      have : j = i := by omega
      subst this;rw [he] at hj';cases hj';simpa using hl
    rw [if_neg (fun h => hc h.1)];rcases ih with ⟨h1,h2⟩|⟨b,h1,h2,e,h3,h4,h5⟩
    · refine .inl ⟨h1, fun j hj => ?_⟩
      rcases Nat.lt_or_ge j i with h|h
      · exact h2 j h
      have : j = i := by omega
      subst this;rw [he];simpa using hc
    refine .inr ⟨b, h1, by omega, e, h3, h4, fun j e' hj hj' hc' => ?_⟩;rcases Nat.lt_or_ge j i with h|h
    · exact h5 j e' h hj' hc'
    have : j = i := by omega
    subst this;rw [he] at hj';cases hj';exact absurd hc' hc
theorem qUN (A:List Aa) {k:Nat} (hk:k<=(iB A).length):
    (k=(iB A).length->eQ A ((iB A).take k) A.length=-1)/\
    ∀ hlt:k < (iB A).length,∃ b:Nat,eQ A ((iB A).take k) A.length=(b:Int)/\A[b]?=some (iB A)[k]:=by
  have hasc:=qAB A
  have hcand:∀ j (hj:j < (iB A).length),tU ((iB A).take k) (iB A)[j]=decide (k<=j):=by
    intro j hj;unfold tU;by_cases h0:k=0
    · subst h0;simp
    have hl:((iB A).take k).getLast?=some (iB A)[k - 1]:=by
      rw [List.getLast?_eq_getElem?,List.length_take,Nat.min_eq_left hk,List.getElem?_take_of_lt (by omega),zQR (by omega)]
    have he:((iB A).take k).isEmpty=false:=by
      cases h:(iB A).take k with
      | nil=>rw [h] at hl;cases hl
      | cons=>rfl
    rw [hl,he,Bool.eq_iff_iff];simp only [Bool.false_or,Option.any_some,zAS hasc (show k - 1 < _ by omega) hj,decide_eq_true_eq];omega
  have hin:∀ (j:Nat) (e:Aa),A[j]?=some e->∃ i,∃ hi:i < (iB A).length,e=(iB A)[i]:=by
    intro j e he;obtain⟨i,hi,h⟩:=List.mem_iff_getElem.1 (ascS_mem.2 (zQM he));exact⟨i,hi,h.symm⟩
  rcases qBT A ((iB A).take k) A.length (zQW _) with ⟨h1,h2⟩|⟨b,h1,h2,e,h3,h4,h5⟩
  · refine ⟨fun _ => h1, fun hlt => ?_⟩
    obtain⟨j,hj,h⟩:=List.mem_iff_getElem.1 (ascS_mem.1 (List.getElem_mem hlt));have:=h2 j hj;rw [zQR hj,h,Option.any_some,hcand k hlt] at this;simp at this
  obtain⟨i,hi,rfl⟩:=hin b e h3;rw [hcand i hi] at h4;have h4':=of_decide_eq_true h4;refine⟨λh=>by omega,λhlt=>⟨b,h1,?_⟩⟩;obtain⟨j,hj,h⟩:=List.mem_iff_getElem.1 (ascS_mem.1 (List.getElem_mem hlt));have h6:=h5 j (iB A)[k] hj (by rw [zQR hj,h]) (by rw [hcand k hlt];simp);have h7:¬ k < i:=λhc=>by rw [(zAS hasc hlt hi).2 hc] at h6;cases h6
  have:i=k:=by omega
  subst this;exact h3
theorem qTP (x y:Aa):eB x y=some (ltS x y):=rfl
theorem qTB (A out : List Aa) (hA : A.length <= 6000000) (ho : out.length <= 6000000) : aZ (fun (found11, x12) =>
        if x12 < (A.length : Int) then
          aU A x12 fun e15 =>
          aB (
            if (out.length : Int) = (0 : Int) then
              if found11 < (0 : Int) then
                some true
              else
                aU A found11 fun e27 =>
                aB (eB e15 e27) fun r28 =>
                some r28
            else
              aC (I64 ((out.length : Int) - (1 : Int))) <|
              aU out ((out.length : Int) - (1 : Int)) fun e20 =>
              aB (eB e20 e15) fun r21 =>
              if r21 = true then
                if found11 < (0 : Int) then
                  some true
                else
                  aU A found11 fun e24 =>
                  aB (eB e15 e24) fun r25 =>
                  some r25
              else
                some false) fun x16 =>
          if x16 = true then
            aC (I64 (x12 + (1 : Int))) <|
            some (.inl (x12, (x12 + (1 : Int))))
          else
            aC (I64 (x12 + (1 : Int))) <|
            some (.inl (found11, (x12 + (1 : Int))))
        else
          aP (
            some found11)) ((-1 : Int), (0 : Int)) = some (eQ A out A.length) := by
  refine oG (λi=>(eQ A out i,(i:Int))) A.length rfl (by omega) (λi hi=>?_) (by dsimp only;rw [if_neg (by omega)];rfl);dsimp only;have he:A[i]?=some A[i]:=by simp
  have hstep:eQ A out (i+1)=if tU out A[i]=true/\(eQ A out i < 0\/(A[(eQ A out i).toNat]?).any (λb=>ltS A[i] b)=true) then (i:Int) else eQ A out i:=by rw [eQ,he]
  have hinner:∀ f:Int,f=eQ A out i->(if f < (0:Int) then some true else aU A f λe27=>aB (eB A[i] e27) λr28=>some r28)=some (decide (eQ A out i < 0\/(A[(eQ A out i).toNat]?).any (λb=>ltS A[i] b)=true)):=by
    rintro f rfl;rcases qBT A out i (by omega) with ⟨h1,_⟩|⟨b,h1,h2,e,h3,_,_⟩
    · rw [h1];simp
    rw [h1, if_neg (by omega), aJ h3, qTP, aF];have h3':A[((b:Int)).toNat]?=some e:=by simpa using h3
    rw [h3']
    congr 1
    rw [Bool.eq_iff_iff,decide_eq_true_eq];simp only [Option.any_some];constructor
    · exact .inr
    rintro (h|h)
    · omega
    exact h
  have hcond : (if (out.length : Int) = (0 : Int) then
              (if eQ A out i < (0 : Int) then some true else aU A (eQ A out i) fun e27 => aB (eB A[i] e27) fun r28 => some r28)
            else
              aC (I64 ((out.length : Int) - (1 : Int))) <|
              aU out ((out.length : Int) - (1 : Int)) fun e20 =>
              aB (eB e20 A[i]) fun r21 =>
              if r21 = true then (if eQ A out i < (0 : Int) then some true else aU A (eQ A out i) fun e24 => aB (eB A[i] e24) fun r25 => some r25)
              else some false) = some (decide (tU out A[i] = true /\ (eQ A out i < 0 \/ (A[(eQ A out i).toNat]?).any (fun b => ltS A[i] b) = true))) := by
    rw [hinner _ rfl];by_cases h0:out=[]
    · subst h0;simp [tU]
    have hl:0 < out.length:=List.length_pos_iff.2 h0;have h1:out[out.length - 1]?=some (out[out.length - 1]):=by rw [zQR]
    have e2:((out.length:Int) - 1)=((out.length - 1:Nat):Int):=by omega
    rw [if_neg (by omega),aA (by unfold I64;omega),e2,aJ h1,qTP,aF]
    have hcb:tU out A[i]=ltS out[out.length - 1] A[i]:=by
      unfold tU;rw [List.getLast?_eq_getElem?,h1,Option.any_some]
      cases out with
      | nil=>exact absurd rfl h0
      | cons=>rfl
    rw [hcb];cases ltS out[out.length - 1] A[i]<;>simp
  rw [if_pos (by omega),aJ he,hcond,aF,hstep];split
  · rename_i h
    rw [if_pos (of_decide_eq_true h),aA (bU (n:=A.length) hi (by omega))];rfl
  rename_i h;rw [if_neg (λh'=>h (decide_eq_true h')),aA (bU (n:=A.length) hi (by omega))];rfl
theorem qIF (r:Ai) (h:Short r):iR r=some (iB (fX r)):=by
  have hlen:(fX r).length<=6000000:=by have:=h.Ad;have:=h.over;have:=h.At;simp [fX];omega
  have hl1:(r.Ad++r.Aj).length<=6000000:=by have:=h.Ad;have:=h.over;simp;omega
  have hl2:r.Ad.length<=6000000:=by have:=h.Ad;omega
  unfold iR;simp only [List.nil_append];rw [aA (by omega),aA (by omega),aA (show (fX r).length<=1000000000 by omega)];have hDl:=qGD (fX r);refine oG (λk=>(iB (fX r)).take k) (iB (fX r)).length (by simp) (by omega) (λk hk=>?_) ?_
  · rw [qTB (fX r) _ hlen (by rw [List.length_take]; omega), aF]
    obtain⟨b,h1,h2⟩:=(qUN (fX r) (Nat.le_of_lt hk)).2 hk;rw [h1,if_neg (by omega),aJ h2,aA (by rw [zQL,List.length_take];simp only [List.length_cons,List.length_nil];omega),List.take_add_one,zQR hk];rfl
  rw [qTB (fX r) _ hlen (by rw [List.length_take]; omega), aF, (qUN (fX r) (zQW _)).1 rfl, List.take_length];rfl
end Go.Proofs.YtofndjhpbonpbaaGreatDoor
