/- Texts of this proof, joined, without what it does not use. No condition. -/
import Derived.Test.YtofndjhpbonpbaaGreatDoorQs

set_option maxHeartbeats 8000000
set_option linter.unusedSimpArgs false
set_option linter.unusedVariables false
set_option maxRecDepth 20000
namespace Go.Proofs.YtofndjhpbonpbaaGreatDoor
open Go Go.TL Go.Proofs.Tryz
theorem sA {p0:Al} {p1:(List A6)} {r:Int} (hm:iW p0 p1=some r):RetN TP 26 [p0.enc,.sl 2 (p1.map A6.enc)] (.int .i64 r):=by
 refine .unit (aJ (aZ Q) func26 Q ntmps26 Q Q (λwX gX=>?_)) Q;unfold iW at hm;refine WN [0,1] Q Q (aO 1 Q (bR 0 Q Q Q (aG 6 Q (SX Q Q (aN TK Q Q Q) (aL 3 Q (bL hm Q (λh1 hm=>?_) (λh1 hm=>?_)))))))
 ·exact aM 6 Q (aS hm Q)
 refine bM 2 Q (bF hm (λ_=>[]) (λ_=>[]) [] [1,2] Q (λz2 hm hz2=>?_) (λj hm=>?_))
 ·refine bN 5 Q (aV hm (λi4=>([(5,.d (.int .i64 i4))])) (λi4=>[]) [5] [1,2] [0] Q k0 Q Q Q Q Q (λi4 z5 hm hz5=>WN [1,2,5] Q Q (aO 4 Q (SX Q Q (aN TK Q Q Q) (aL 3 Q (bL hm Q (λh6 hm=>?_) (λh6 hm=>?_)))))))
  ·refine bM 4 Q (aP hm (λx7=>([(38,.d (.bool (x7)))])) (λx7=>[]) [38] [1,2,5] Q (λz8 hm=>?_) (λx7 hm=>?_))
   ·refine aO 3 Q (VE hm λe9 he9 hm=>SX Q Q (bA TK Q Q Q Q he9) (aG 2 Q (SX Q Q (aN TK Q Q Q) (aG 1 Q (SB TK Q (λq10 hq10=>?_))))));cases q10
    ·replace hm:=JF hq10 hm;exact aG 2 Q (VE hm λe11 he11 hm=>SX Q Q (bA TK Q Q Q Q he11) (aG 2 Q (SX Q Q (aN TK Q Q Q) (aE 3 Q (aT [0] hm Q Q)))))
    replace hm:=JT hq10 hm;exact aE 9 Q (aT [0] hm Q Q)
   refine WN [1,2,5,38] Q Q (bH hm Q (λh12 hm=>?_) (λh12 hm=>?_))
   ·refine aM 7 Q (IE hm λv13 hm hz=>?_);rw [hz5 _ hz] at hm;refine WR (bD 1 Q (IE hm λv14 hm hz=>?_));rw [hz2 _ hz] at hm;exact WR (aS hm Q)
   exact aR 5 Q (GE hm λg15 hm=>SX Q Q (bI Q Q Q Q g15) (aE 2 Q (aX [0] hm Q Q)))
  refine aM 2 Q (IE hm λv16 hm hz=>?_);rw [hz5 _ hz] at hm;exact WX (bD 1 Q (aX [0] hm Q Q))
 refine WN [1,2] Q Q (bF hm (λ_=>[]) (λ_=>[]) [] [1,2] Q (λz17 hm hz17=>?_) (λj hm=>?_))
 ·refine bN 5 Q (aV hm (λi19=>([(6,.d (.int .i64 i19))])) (λi19=>[]) [6] [1,2] [0] Q k0 Q Q Q Q Q (λi19 z20 hm hz20=>WN [1,2,6] Q Q (aO 4 Q (SX Q Q (aN TK Q Q Q) (aL 3 Q (bL hm Q (λh21 hm=>?_) (λh21 hm=>?_)))))))
  ·refine bM 4 Q (bJ follows ?_);iterate 3 (refine DA [0] TK Q ?_)
   refine VE hm λe22 he22 hm=>DX [0] Q Q (bA TK Q Q Q Q he22) (DA [0] TK Q (dK [0] hm (qIE ·) Q Q Q Q λr23 hm=>DA [0] TK Q ?_));refine DT ?_ (by kernel_rfl);refine aL 2 Q (bH hm Q (λh24 hm=>?_) (λh24 hm=>?_))
   ·refine aM 7 Q (IE hm λv25 hm hz=>?_);rw [hz20 _ hz] at hm;refine WR (bD 1 Q (IE hm λv26 hm hz=>?_));rw [hz17 _ hz] at hm;exact WR (aS hm Q)
   exact aR 5 Q (GE hm λg27 hm=>SX Q Q (bI Q Q Q Q g27) (aE 2 Q (aX [0] hm Q Q)))
  refine aM 2 Q (IE hm λv28 hm hz=>?_);rw [hz20 _ hz] at hm;exact WX (bD 1 Q (aX [0] hm Q Q))
 refine WN [1,2] Q Q (bF hm (λ_=>[]) (λ_=>[]) [] [1,2] Q (λz29 hm hz29=>?_) (λj hm=>?_))
 ·refine bN 5 Q (aV hm (λi31=>([(7,.d (.int .i64 i31))])) (λi31=>[]) [7] [1,2] [0] Q k0 Q Q Q Q Q (λi31 z32 hm hz32=>WN [1,2,7] Q Q (aO 4 Q (SX Q Q (aN TK Q Q Q) (aL 3 Q (bL hm Q (λh33 hm=>?_) (λh33 hm=>?_)))))))
  ·refine bM 4 Q (bJ follows ?_);iterate 4 (refine DA [0] TK Q ?_)
   refine VE hm λe34 he34 hm=>DX [0] Q Q (bA TK Q Q Q Q he34) ?_;iterate 2 (refine DA [0] TK Q ?_)
   refine dK [0] hm (qLC ·) Q Q Q Q λr35 hm=>?_;iterate 2 (refine DA [0] TK Q ?_)
   refine DT ?_ (by kernel_rfl);refine aL 2 Q (eC hm Q (λh36 hm=>?_) (λh36 hm=>?_))
   ·refine bM 4 Q (WN [4] Q Q (aM 3 Q (IE hm λv37 hm hz=>?_)));rw [hz32 _ hz] at hm;refine WR (bD 1 Q (IE hm λv38 hm hz=>?_));rw [hz29 _ hz] at hm;exact WR (aS hm Q)
   exact aR 5 Q (GE hm λg39 hm=>SX Q Q (bI Q Q Q Q g39) (aE 2 Q (aX [0] hm Q Q)))
  refine aM 2 Q (IE hm λv40 hm hz=>?_);rw [hz32 _ hz] at hm;exact WX (bD 1 Q (aX [0] hm Q Q))
 refine WN [1,2] Q Q (bF hm (λ_=>[]) (λ_=>[]) [] [1] Q (λz41 hm hz41=>?_) (λj hm=>?_))
 ·refine bN 5 Q (aV hm (λi43=>([(8,.d (.int .i64 i43))])) (λi43=>[]) [8] [1,2] [0] Q k0 Q Q Q Q Q (λi43 z44 hm hz44=>WN [1,2,8] Q Q (aO 4 Q (SX Q Q (aN TK Q Q Q) (aL 3 Q (bL hm Q (λh45 hm=>?_) (λh45 hm=>?_)))))))
  ·refine bM 2 Q (bF hm (λ_=>[]) (λ_=>[]) [] [1,2,8] Q (λz46 hm hz46=>?_) (λj hm=>?_))
   ·refine aO 4 Q (VE hm λe47 he47 hm=>SX Q Q (bA TK Q Q Q Q he47) (aL 10 Q (aV hm (λk49=>([(10,.d (.int .i64 k49))])) (λk49=>[]) [10] [1,2,8,9] [0] Q k0 Q Q Q Q Q (λk49 z50 hm hz50=>WN [1,2,8,9,10] Q Q (aO 4 Q (SX Q Q (aN TK Q Q Q) (aL 3 Q (bL hm Q (λh51 hm=>?_) (λh51 hm=>?_)))))))))
    ·refine bM 4 Q (bJ follows ?_);iterate 4 (refine DA [0] TK Q ?_)
     refine GE hm λg52 hm=>DX [0] Q Q (bI Q Q Q Q g52) (VE hm λe53 he53 hm=>DX [0] Q Q (bA TK Q Q Q Q he53) ?_);iterate 2 (refine DA [0] TK Q ?_)
     refine VE hm λe54 he54 hm=>DX [0] Q Q (bA TK Q Q Q Q he54) ?_;iterate 5 (refine DA [0] TK Q ?_)
     refine VE hm λe55 he55 hm=>DX [0] Q Q (bA TK Q Q Q Q he55) ?_;iterate 2 (refine DA [0] TK Q ?_)
     refine VE hm λe56 he56 hm=>DX [0] Q Q (bA TK Q Q Q Q he56) (DA [0] TK Q (dK [0] hm (qDT ·) Q Q Q Q λr57 hm=>DA [0] TK Q ?_));refine DT ?_ (by kernel_rfl);refine aL 2 Q (WN [1,2,8,9,10,105] Q Q (bH hm Q (λh58 hm=>?_) (λh58 hm=>?_)))
     ·refine aM 7 Q (IE hm λv59 hm hz=>?_);rw [hz50 _ hz] at hm;refine WR (bD 2 Q (IE hm λv60 hm hz=>?_));rw [hz46 _ hz] at hm;refine WR (IE hm λv61 hm hz=>?_);rw [hz44 _ hz] at hm;refine WR (bD 1 Q (IE hm λv62 hm hz=>?_));rw [hz41 _ hz] at hm;exact WR (aS hm Q)
     exact aR 5 Q (GE hm λg63 hm=>SX Q Q (bI Q Q Q Q g63) (aE 2 Q (aX [0] hm Q Q)))
    refine aM 2 Q (IE hm λv64 hm hz=>?_);rw [hz50 _ hz] at hm;exact WX (bD 2 Q (aX [0] hm Q Q))
   exact WN [1,2,8] Q Q (aR 2 Q (GE hm λg65 hm=>SX Q Q (bI Q Q Q Q g65) (aE 2 Q (aX [0] hm Q Q))))
  refine aM 2 Q (IE hm λv66 hm hz=>?_);rw [hz44 _ hz] at hm;exact WX (bD 1 Q (aX [0] hm Q Q))
 refine WN [1] Q Q (bF hm (λ_=>[]) (λ_=>[]) [] [] Q (λz67 hm hz67=>?_) (λj hm=>?_))
 ·refine bN 5 Q (aV hm (λi69=>([(11,.d (.int .i64 i69))])) (λi69=>[]) [11] [1] [0] Q k0 Q Q Q Q Q (λi69 z70 hm hz70=>WN [1,11] Q Q (aO 4 Q (SX Q Q (aN TK Q Q Q) (aL 3 Q (bL hm Q (λh71 hm=>?_) (λh71 hm=>?_)))))))
  ·refine bM 2 Q (bF hm (λ_=>[]) (λ_=>[]) [] [1,11] Q (λz72 hm hz72=>?_) (λj hm=>?_))
   ·refine aO 4 Q (VE hm λe73 he73 hm=>SX Q Q (bA TK Q Q Q Q he73) (aL 10 Q (aV hm (λk75=>([(13,.d (.int .i64 k75))])) (λk75=>[]) [13] [1,11,12] [0] Q k0 Q Q Q Q Q (λk75 z76 hm hz76=>WN [1,11,12,13] Q Q (aO 4 Q (SX Q Q (aN TK Q Q Q) (aL 3 Q (bL hm Q (λh77 hm=>?_) (λh77 hm=>?_)))))))))
    ·refine bM 4 Q (bJ follows ?_);iterate 2 (refine DA [0] TK Q ?_)
     refine VE hm λe78 he78 hm=>DX [0] Q Q (bA TK Q Q Q Q he78) ?_;iterate 4 (refine DA [0] TK Q ?_)
     refine GE hm λg79 hm=>DX [0] Q Q (bI Q Q Q Q g79) (VE hm λe80 he80 hm=>DX [0] Q Q (bA TK Q Q Q Q he80) ?_);iterate 3 (refine DA [0] TK Q ?_)
     refine DT ?_ (by kernel_rfl);refine aL 2 Q (WN [1,11,12,13,134] Q Q (bL hm Q (λh81 hm=>?_) (λh81 hm=>?_)))
     ·refine aM 7 Q (IE hm λv82 hm hz=>?_);rw [hz76 _ hz] at hm;refine WR (bD 2 Q (IE hm λv83 hm hz=>?_));rw [hz72 _ hz] at hm;refine WR (IE hm λv84 hm hz=>?_);rw [hz70 _ hz] at hm;refine WR (bD 1 Q (IE hm λv85 hm hz=>?_));rw [hz67 _ hz] at hm;exact WR (aS hm Q)
     exact aR 5 Q (GE hm λg86 hm=>SX Q Q (bI Q Q Q Q g86) (aE 2 Q (aX [0] hm Q Q)))
    refine aM 2 Q (IE hm λv87 hm hz=>?_);rw [hz76 _ hz] at hm;exact WX (bD 2 Q (aX [0] hm Q Q))
   exact WN [1,11] Q Q (aR 2 Q (GE hm λg88 hm=>SX Q Q (bI Q Q Q Q g88) (aE 2 Q (aX [0] hm Q Q))))
  refine aM 2 Q (IE hm λv89 hm hz=>?_);rw [hz70 _ hz] at hm;exact WX (bD 1 Q (aX [0] hm Q Q))
 exact WN [] Q Q (aM 5 Q (aS hm Q))
theorem qIF {p0:(List A6)} {p1:(List (List Int))} {r:Bool} (hm:nN p0 p1=some r):RetN TP 125 [.sl 2 (p0.map A6.enc),.sl 1 (p1.map (λ(l:List Int)=>D.sl 1 (l.map (D.int .i64))))] (.bool (r)):=by
 refine .unit (aJ (aZ Q) func125 Q ntmps125 Q Q (λwX gX=>?_)) Q;unfold nN at hm;refine WN [0,1] Q Q (aO 7 Q (SX Q Q (aN TK Q Q Q) (aG 1 Q (SX Q Q (aN TK Q Q Q) (aL 3 Q (eC hm Q (λh1 hm=>?_) (λh1 hm=>?_)))))))
 ·exact aM 6 Q (aS hm Q)
 refine bM 2 Q (bF hm (λ_=>[]) (λ_=>[]) [] [] Q (λz2 hm hz2=>?_) (λj hm=>?_))
 ·refine bN 5 Q (aV hm (λi4=>([(5,.d (.int .i64 i4))])) (λi4=>[]) [5] [0,1] [] Q k0 Q Q Q Q Q (λi4 z5 hm hz5=>WN [0,1,5] Q Q (aO 4 Q (SX Q Q (aN TK Q Q Q) (aL 3 Q (bL hm Q (λh6 hm=>?_) (λh6 hm=>?_)))))))
  ·refine bM 4 Q (bJ follows ?_);iterate 2 (refine DA [] TK Q ?_)
   refine VE hm λe7 he7 hm=>DX [] Q Q (bA TK Q Q Q Q he7) ?_;iterate 2 (refine DA [] TK Q ?_)
   refine DX [] Q Q (aN TK Q Q Q) ?_;iterate 2 (refine DA [] TK Q ?_)
   refine VE hm λe8 he8 hm=>DX [] Q Q (bA TK Q Q Q Q he8) (DA [] TK Q (DX [] Q Q (aN TK Q Q Q) (DA [] TK Q ?_)));refine DT ?_ (by kernel_rfl);refine aL 2 Q (WN [0,1,5,28] Q Q (eC hm Q (λh9 hm=>?_) (λh9 hm=>?_)))
   ·refine aM 7 Q (IE hm λv10 hm hz=>?_);rw [hz5 _ hz] at hm;refine WR (bD 1 Q (IE hm λv11 hm hz=>?_));rw [hz2 _ hz] at hm;exact WR (aS hm Q)
   exact aR 5 Q (GE hm λg12 hm=>SX Q Q (bI Q Q Q Q g12) (aE 2 Q (aX [] hm Q Q)))
  refine aM 2 Q (IE hm λv13 hm hz=>?_);rw [hz5 _ hz] at hm;exact WX (bD 1 Q (aX [] hm Q Q))
 exact WN [] Q Q (aM 5 Q (aS hm Q))
theorem qIG {p0:(List A6)} {p1:(List (List Int))} {r0:Int} {r1:Int} (hm:lA p0 p1=some (r0,r1)):Ret TP 64 [] (λ_=>false) ([.sl 2 (p0.map A6.enc),.sl 1 (p1.map (λ(l:List Int)=>D.sl 1 (l.map (D.int .i64))))].map .d) (.tup ([.int .i64 r0,.int .i64 r1].map .d)) []:=by
 refine dW (aZ Q) func64 Q ntmps64 Q Q (λwX gX=>?_);unfold lA at hm;refine WN [0,1] Q Q (aO 9 Q (c_N hm (qIF ·) Q Q Q Q λr1 hm=>aL 3 Q (bH hm Q (λh2 hm=>?_) (λh2 hm=>?_))))
 ·refine aM 7 Q ?_;obtain⟨rfl,rfl⟩:=Prod.mk.inj (Option.some.inj hm);exact EndsT.two Q (.d _) (.refl _) (.d _) (.refl _)
 refine bM 10 Q (bF hm (λ(sum3,early4)=>([(6,.d (.int .i64 sum3)),(7,.d (.bool (early4)))])) (λ(sum3,early4)=>[]) [6,7] [] Q (λz5 hm hz5=>?_) (λj hm=>?_))
 ·refine bN 5 Q (aV hm (λ(sum9,early10,i11)=>([(6,.d (.int .i64 sum9)),(7,.d (.bool (early10))),(8,.d (.int .i64 i11))])) (λ(sum9,early10,i11)=>[]) [6,7,8] [0,1] [] Q k0 Q Q Q Q Q (λs z12 hm hz12=>?_));obtain⟨sum9,early10,i11⟩:=s;refine WN [0,1,6,7,8] Q Q (aO 4 Q (SX Q Q (aN TK Q Q Q) (aL 3 Q (bL hm Q (λh13 hm=>?_) (λh13 hm=>?_)))))
  ·refine bM 2 Q (bF hm (λ(sum14,early15)=>([(6,.d (.int .i64 sum14)),(7,.d (.bool (early15)))])) (λ(sum14,early15)=>[]) [6,7] [0,1,8] Q (λz16 hm hz16=>?_) (λj hm=>?_))
   ·refine bN 6 Q (aV hm (λ(sum20,early21,k22)=>([(6,.d (.int .i64 sum20)),(7,.d (.bool (early21))),(9,.d (.int .i64 k22))])) (λ(sum20,early21,k22)=>[]) [6,7,9] [0,1,8] [] Q k0 Q Q Q Q Q (λs z23 hm hz23=>?_));obtain⟨sum20,early21,k22⟩:=s;refine WN [0,1,6,7,8,9] Q Q (aO 5 Q (VE hm λe24 he24 hm=>SX Q Q (bA TK Q Q Q Q he24) (aG 2 Q (SX Q Q (aN TK Q Q Q) (aL 3 Q (bL hm Q (λh25 hm=>?_) (λh25 hm=>?_)))))))
    ·refine aR 7 Q (VE hm λe26 he26 hm=>SX Q Q (bA TK Q Q Q Q he26) (aG 3 Q (VE hm λe27 he27 hm=>SX Q Q (bA TK Q Q Q Q he27) (aG 1 Q (cK 0 Q Q qUE Q (aL 3 Q (WN [0,1,6,7,8,9,10] Q Q (aR 3 Q (VE hm λe28 he28 hm=>SX Q Q (bA TK Q Q Q Q he28) (aG 2 Q ?_))))))))));refine VE hm λe29 he29 hm=>SX Q Q (bA TK Q Q Q Q he29) (aL 5 Q ?_);refine cI [(72,.d (.bool (((decide (e29 < (0:Int)))||((decide ((2147483648:Int) < e29))||((decide (e27.due < (0:Int)))||((decide ((1073741824:Int) < e27.due))||((decide (e27.weight < (0:Int)))||(decide ((100:Int) < e27.weight))))))))))] [72] [0,1,6,7,8,9,10,11] Q ?_ ?_
     ·refine aO 3 Q (SB TK Q (λq30 hq30=>?_));cases q30
      ·refine aG 3 Q (SB TK Q (λq31 hq31=>?_));cases q31
       ·refine aG 4 Q (SB TK Q (λq32 hq32=>?_));cases q32
        ·refine aG 4 Q (SB TK Q (λq33 hq33=>?_));cases q33
         ·refine aG 4 Q (SB TK Q (λq34 hq34=>?_));cases q34
          ·refine aE 5 Q ?_;exact⟨[0],Q,k0,aW (aI (aK (by first|(simp [hq30,hq31,hq32,hq33,hq34];done)|(simp only [hq30,hq31,hq32,hq33,hq34];simp))) Q) Q⟩
          refine aE 5 Q ?_;exact⟨[0],Q,k0,aW (aI (aK (by first|(simp [hq30,hq31,hq32,hq33,hq34];done)|(simp only [hq30,hq31,hq32,hq33,hq34];simp))) Q) Q⟩
         refine aE 10 Q ?_;exact⟨[0],Q,k0,aW (aI (aK (by first|(simp [hq30,hq31,hq32,hq33];done)|(simp only [hq30,hq31,hq32,hq33];simp))) Q) Q⟩
        refine aE 15 Q ?_;exact⟨[0],Q,k0,aW (aI (aK (by first|(simp [hq30,hq31,hq32];done)|(simp only [hq30,hq31,hq32];simp))) Q) Q⟩
       refine aE 20 Q ?_;exact⟨[0],Q,k0,aW (aI (aK (by first|(simp [hq30,hq31];done)|(simp only [hq30,hq31];simp))) Q) Q⟩
      refine aE 24 Q ?_;exact⟨[0],Q,k0,aW (aI (aK (by first|(simp [hq30];done)|(simp only [hq30];simp))) Q) Q⟩
     refine WN [0,1,6,7,8,9,10,11,72] Q Q (bH hm Q (λh35 hm=>?_) (λh35 hm=>?_))
     ·refine aM 9 Q (IE hm λv36 hm hz=>?_);rw [hz23 _ hz] at hm;refine WR (bD 2 Q (IE hm λv37 hm hz=>?_));rw [hz16 _ hz] at hm;refine WR (IE hm λv38 hm hz=>?_);rw [hz12 _ hz] at hm;refine WR (bD 1 Q (IE hm λv39 hm hz=>?_));rw [hz5 _ hz] at hm;refine WR ?_;obtain⟨rfl,rfl⟩:=Prod.mk.inj (Option.some.inj hm);exact EndsT.two Q (.d _) (.refl _) (.d _) (.refl _)
     refine bM 2 Q ?_;refine cI [(7,.d (.bool ((early21||(decide (e29 < e27.due))))))] [7] [0,1,6,8,9,10,11] Q ?_ ?_
     ·refine aO 2 Q (SB TK Q (λq40 hq40=>?_));cases q40
      ·refine aE 7 Q ?_;exact⟨[0],Q,k0,aW (aI (aK (by first|(simp [hq40];done)|(simp only [hq40];simp))) Q) Q⟩
      refine aE 7 Q ?_;exact⟨[0],Q,k0,aW (aI (aK (by first|(simp [hq40];done)|(simp only [hq40];simp))) Q) Q⟩
     exact WN [0,1,6,7,8,9,10,11] Q Q (aR 7 Q (GE hm λg41 hm=>SX Q Q (bI Q Q Q Q g41) (GE hm λg42 hm=>SX Q Q (bI Q Q Q Q g42) (GE hm λg43 hm=>SX Q Q (bI Q Q Q Q g43) (aG 6 Q (GE hm λg44 hm=>SX Q Q (bI Q Q Q Q g44) (aE 2 Q (aX [] hm Q Q))))))))
    refine aM 2 Q (IE hm λv45 hm hz=>?_);rw [hz23 _ hz] at hm;exact WX (bD 2 Q (aX [] hm Q Q))
   obtain⟨sum14,early15⟩:=j;exact WN [0,1,6,7,8] Q Q (aR 2 Q (GE hm λg46 hm=>SX Q Q (bI Q Q Q Q g46) (aE 2 Q (aX [] hm Q Q))))
  refine aM 2 Q (IE hm λv47 hm hz=>?_);rw [hz12 _ hz] at hm;exact WX (bD 1 Q (aX [] hm Q Q))
 obtain⟨sum3,early4⟩:=j;refine WN [6,7] Q Q (bM 5 Q (bH hm Q (λh48 hm=>?_) (λh48 hm=>?_)))
 ·refine aM 7 Q ?_;obtain⟨rfl,rfl⟩:=Prod.mk.inj (Option.some.inj hm);exact EndsT.two Q (.d _) (.refl _) (.d _) (.refl _)
 refine aM 9 Q ?_;obtain⟨rfl,rfl⟩:=Prod.mk.inj (Option.some.inj hm);exact EndsT.two Q (.d _) (.refl _) (.d _) (.refl _)
theorem qIH {p0:(List A6)} {p1:(List (List Int))} {r0:Int} {r1:Int} (hm:lA p0 p1=some (r0,r1)):RetT TP 64 [.sl 2 (p0.map A6.enc),.sl 1 (p1.map (λ(l:List Int)=>D.sl 1 (l.map (D.int .i64))))] [.int .i64 r0,.int .i64 r1]:=.of (mv:=λ_=>false) (qIG hm)
theorem qDS {p0:Am} {r:Bool} (hm:kD p0=some r):RetN TP 27 [p0.enc] (.bool (r)):=by
 refine .unit (aJ (aZ Q) func27 Q ntmps27 Q Q (λwX gX=>?_)) Q;unfold kD at hm;refine WN [0] Q Q (aO 1 Q (bR 0 Q Q Q (aG 9 Q (BE hm λr1 hr1 hm=>?_))));obtain⟨r2,r3⟩:=r1;refine SX Q Q (cT Q Q Q (qIH hr1)) (aL 7 Q (bF hm (λ_=>[]) (λ_=>[]) [] [1,4] Q (λz4 hm hz4=>?_) (λj hm=>?_)))
 ·refine bN 5 Q (aV hm (λi6=>([(5,.d (.int .i64 i6))])) (λi6=>[]) [5] [1,4] [0] Q k0 Q Q Q Q Q (λi6 z7 hm hz7=>WN [1,4,5] Q Q (aO 5 Q (SX Q Q (aN TK Q Q Q) (aL 3 Q (bL hm Q (λh8 hm=>?_) (λh8 hm=>?_)))))))
  ·refine bM 4 Q (aP hm (λx9=>([(35,.d (.bool (x9)))])) (λx9=>[]) [35] [1,4,5] Q (λz10 hm=>?_) (λx9 hm=>?_))
   ·refine aO 4 Q (VE hm λe11 he11 hm=>SX Q Q (bA TK Q Q Q Q he11) (aG 2 Q (SB TK Q (λq12 hq12=>?_))));cases q12
    ·replace hm:=JF hq12 hm;exact aG 3 Q (VE hm λe13 he13 hm=>SX Q Q (bA TK Q Q Q Q he13) (aE 4 Q (aT [0] hm Q Q)))
    replace hm:=JT hq12 hm;exact aE 8 Q (aT [0] hm Q Q)
   refine WN [1,4,5,35] Q Q (bH hm Q (λh14 hm=>?_) (λh14 hm=>?_))
   ·refine aM 7 Q (IE hm λv15 hm hz=>?_);rw [hz7 _ hz] at hm;refine WR (bD 1 Q (IE hm λv16 hm hz=>?_));rw [hz4 _ hz] at hm;exact WR (aS hm Q)
   exact aR 5 Q (GE hm λg17 hm=>SX Q Q (bI Q Q Q Q g17) (aE 2 Q (aX [0] hm Q Q)))
  refine aM 2 Q (IE hm λv18 hm hz=>?_);rw [hz7 _ hz] at hm;exact WX (bD 1 Q (aX [0] hm Q Q))
 refine WN [1,4] Q Q (cI [(2,.d (.bool (((decide (r3=(0:Int)))&&((decide ((p0.progress.length:Int)=(p0.trips.length:Int)))&&((decide ((0:Int)<=p0.now))&&(decide (p0.now<=(1073741824:Int)))))))))] [2] [] Q ?_ ?_)
 ·refine aO 3 Q (SB TK Q (λq19 hq19=>?_));cases q19
  ·refine aE 20 Q ?_;exact⟨[0],Q,k0,aW (aI (aK (by first|(simp [hq19];done)|(simp only [hq19];simp))) Q) Q⟩
  refine aG 2 Q (SX Q Q (aN TK Q Q Q) (aG 2 Q (SX Q Q (aN TK Q Q Q) (aG 2 Q (SB TK Q (λq20 hq20=>?_))))));cases q20
  ·refine aE 11 Q ?_;exact⟨[0],Q,k0,aW (aI (aK (by first|(simp [hq19,hq20];done)|(simp only [hq19,hq20];simp))) Q) Q⟩
  refine aG 4 Q (SB TK Q (λq21 hq21=>?_));cases q21
  ·refine aE 6 Q ?_;exact⟨[0],Q,k0,aW (aI (aK (by first|(simp [hq19,hq20,hq21];done)|(simp only [hq19,hq20,hq21];simp))) Q) Q⟩
  refine aE 6 Q ?_;exact⟨[0],Q,k0,aW (aI (aK (by first|(simp [hq19,hq20,hq21];done)|(simp only [hq19,hq20,hq21];simp))) Q) Q⟩
 exact WN [2] Q Q (aM 1 Q (aS hm Q))
theorem qIC {p0:Am} {r:Int} (hm:nL p0=some r):RetN TP 7 [p0.enc] (.int .i64 r):=by
 refine .unit (aJ (aZ Q) func7 Q ntmps7 Q Q (λwX gX=>?_)) Q;unfold nL at hm;refine WN [0] Q Q (aO 1 Q (bR 0 Q Q Q (aG 7 Q (c_N hm (sH ·) Q Q Q Q λr1 hm=>aL 8 Q (eC hm Q (λh2 hm=>?_) (λh2 hm=>?_))))))
 ·exact aM 7 Q (aS hm Q)
 refine aR 5 Q (BE hm λr3 hr3 hm=>?_);obtain⟨r4,r5⟩:=r3;refine SX Q Q (cT Q Q Q (xU hr3)) (aG 3 Q (cK 1 Q Q qBE Q (cV 1 [some 14,some 1,some 1,none,none] Q Q (aL 5 Q (aP hm (λx6=>([(27,.d (.bool (x6)))])) (λx6=>[]) [27] [1] Q (λz7 hm=>?_) (λx6 hm=>?_))))))
 ·refine aO 3 Q (SB TK Q (λq8 hq8=>?_));cases q8
  ·replace hm:=eM hq8 hm;exact aG 3 Q (c_N hm (qLE ·) Q Q Q Q λr9 hm=>aE 3 Q (aT [0,1] hm Q Q))
  replace hm:=eL hq8 hm;exact aE 7 Q (aT [0,1] hm Q Q)
 refine WN [1,27] Q Q (bH hm Q (λh10 hm=>?_) (λh10 hm=>?_))
 ·exact aM 6 Q (aS hm Q)
 refine bM 3 Q (aP hm (λx11=>([(38,.d (.bool (x11)))])) (λx11=>[]) [38] [1] Q (λz12 hm=>?_) (λx11 hm=>?_))
 ·refine aO 5 Q (c_N hm (xS ·) Q Q Q Q λr13 hm=>aG 1 Q (SB TK Q (λq14 hq14=>?_)));cases q14
  ·replace hm:=JB hq14 hm;exact aG 1 Q (c_N hm (qBP ·) Q Q Q Q λr15 hm=>aE 3 Q (aT [0,1] hm Q Q))
  replace hm:=JA hq14 hm;exact aE 5 Q (aT [0,1] hm Q Q)
 refine WN [1,38] Q Q (bH hm Q (λh16 hm=>?_) (λh16 hm=>?_))
 ·exact aM 6 Q (aS hm Q)
 refine bM 3 Q (aP hm (λx17=>([(46,.d (.bool (x17)))])) (λx17=>[]) [46] [1] Q (λz18 hm=>?_) (λx17 hm=>?_))
 ·refine aO 2 Q (c_N hm (qIB ·) Q Q Q Q λr19 hm=>aG 1 Q (SB TK Q (λq20 hq20=>?_)));cases q20
  ·replace hm:=JB hq20 hm;exact aG 1 Q (c_N hm (qFJ ·) Q Q Q Q λr21 hm=>aE 3 Q (aT [0,1] hm Q Q))
  replace hm:=JA hq20 hm;exact aE 5 Q (aT [0,1] hm Q Q)
 refine WN [1,46] Q Q (bH hm Q (λh22 hm=>?_) (λh22 hm=>?_))
 ·exact aM 6 Q (aS hm Q)
 refine aR 8 Q (c_N hm (sA ·) Q Q Q Q λr23 hm=>aL 8 Q (eC hm Q (λh24 hm=>?_) (λh24 hm=>?_)))
 ·exact aM 7 Q (aS hm Q)
 refine aR 5 Q (c_N hm (qDS ·) Q Q Q Q λr25 hm=>aL 3 Q (bH hm Q (λh26 hm=>?_) (λh26 hm=>?_)))
 ·exact aM 6 Q (aS hm Q)
 exact aM 7 Q (aS hm Q)
theorem qJF  {r0:Bd} {r1:Bc} (hm:vR=some (r0,r1)):RetT TP 28 [] [r0.enc,r1.enc]:=by
 refine .of (mv:=λ_=>false) (dW (aZ Q) func28 Q ntmps28 Q Q (λwX gX=>?_));unfold vR at hm;refine WN [] Q Q (aO 1 Q (cK 0 Q Q yH Q (cK 1 Q Q qBD Q (cV 1 [some 3,none,none] Q Q (aG 3 Q (SX Q Q (bV Q plc64 yH Q Q Q Q) (SX Q Q (bV Q qSR fL Q Q Q Q) (SX Q Q (cF [.tmp 3] TK Q Q fL Q Q Q Q Q) (SX Q Q (bV Q zGL qBD Q Q Q Q) (aE 5 Q ?_))))))))));obtain⟨rfl,rfl⟩:=Prod.mk.inj (Option.some.inj hm);exact⟨_,.mk _ (.cons (.agg (TK.lay Q) Q Q Q Q) (.cons (.agg (TK.lay Q) Q Q Q Q) .nil)) Q,(.cons (.d _) (.refl _) (.cons (.d _) (.refl _) .nil))⟩
theorem qAA  {r:Ag} (hm:uD=some r):RetD TP 30 [] (r.enc):=by
 refine .of (mv:=λ_=>false) (aJ (aZ Q) func30 Q ntmps30 Q Q (λwX gX=>?_));unfold uD at hm;refine WN [] Q Q (aO 1 Q (cK 0 Q Q qRS Q (fP (f:=Aw.enc) 0 2 1 151 7 Q Q Q (cV 0 [none,some 1,none,some 4,some 4,some 3] Q Q (aG 3 Q (SX Q Q (cF [.const (Value.string ⟨#[97]⟩),.const (Value.string ⟨#[98]⟩),.const (Value.string ⟨#[99]⟩)] TK Q Q xM Q Q Q Q Q) (SX Q Q (bV Q oI cR Q Q Q Q) (SX Q Q (bV Q qSQ oO Q Q Q Q) (SX Q Q (bV Q oI cR Q Q Q Q) (SX Q Q (bV Q qSQ oO Q Q Q Q) (SX Q Q (cF [.tmp 6,.tmp 8] TK Q Q oO Q Q Q Q Q) (SX Q Q (nW Q plc28 qRS Q Q Q Q) (cK 2 Q Q qRS Q ?_)))))))))))));refine fP (f:=Aw.enc) 2 2 3 151 7 Q Q Q (cV 2 [none,some 1,none,some 4,some 4,some 3] Q Q (aG 1 Q (fP (f:=Aw.enc) 2 2 4 151 7 Q Q Q (cV 2 [none,none,none,some 4,none,some 3] Q Q (aL 2 Q (WN [0,1] Q Q (aP hm (λb1=>[]) (λb1=>([(2,.box 28 [.d (.str (⟨#[108,105,110,101]⟩:BA)),.d (.sl 1 (([(⟨#[97]⟩:BA),(⟨#[98]⟩:BA),(⟨#[99]⟩:BA)]:List BA).map D.str)),.msl 4 7 0 b1.length,.d (.sl 4 (([]:List Ba).map Ba.enc)),.d (.sl 4 (([(⟨(⟨#[115,49]⟩:BA),(⟨(0:Int),(1:Int)⟩:End),(0:Int)⟩:A0),(⟨(⟨#[115,50]⟩:BA),(⟨(1:Int),(1:Int)⟩:End),(0:Int)⟩:A0)]:List A0).map A0.enc)),.d (.sl 3 (([]:List A4).map A4.enc))]),(4,.flat 151 7 (b1.map Aw.enc))])) [] [0,1] Q (λz2 hm=>?_) (λb1 hm=>?_))))))))
 ·refine aO 3 Q (SX Q Q (aN (f:=D.str) (xs:=([(⟨#[97]⟩:BA),(⟨#[98]⟩:BA),(⟨#[99]⟩:BA)]:List BA)) TK Q Q Q) (aL 4 Q (aV hm (λ(x6,b7)=>([(14,.d (.int .i64 x6))])) (λ(x6,b7)=>([(2,.box 28 [.d (.str (⟨#[108,105,110,101]⟩:BA)),.d (.sl 1 (([(⟨#[97]⟩:BA),(⟨#[98]⟩:BA),(⟨#[99]⟩:BA)]:List BA).map D.str)),.msl 4 7 0 b7.length,.d (.sl 4 (([]:List Ba).map Ba.enc)),.d (.sl 4 (([(⟨(⟨#[115,49]⟩:BA),(⟨(0:Int),(1:Int)⟩:End),(0:Int)⟩:A0),(⟨(⟨#[115,50]⟩:BA),(⟨(1:Int),(1:Int)⟩:End),(0:Int)⟩:A0)]:List A0).map A0.enc)),.d (.sl 3 (([]:List A4).map A4.enc))]),(4,.flat 151 7 (b7.map Aw.enc))])) [14] [0,1,12,13] [0,1,2,3,4] Q k0 Q Q Q Q Q (λs z8 hm hz8=>?_))));obtain⟨x6,b7⟩:=s;refine WN [0,1,12,13,14] Q Q (bN 5 Q (bL hm Q (λh9 hm=>?_) (λh9 hm=>?_)))
  ·exact aR 6 Q (VE hm λe10 he10 hm=>SX Q Q (bA (f:=D.str) (xs:=([(⟨#[97]⟩:BA),(⟨#[98]⟩:BA),(⟨#[99]⟩:BA)]:List BA)) TK Q Q Q Q he10) (aG 10 Q (SX Q Q (bV Q plc151 tK Q Q Q Q) (SX Q Q (cF [.tmp 23] TK Q Q tK Q Q Q Q Q) (GE hm λg11 hm=>cB (f:=Aw.enc) ([(⟨e10,(1:Int),(20000:Int),(0:Int),(1000:Int),(0:Int),x6⟩:Aw)]:List Aw) TK Q Q tK Q Q Q Q Q (λh=>absurd h (zQV _)) Q bZ g11 Q Q (aL 5 Q (WN [0,1,12,13,14] Q Q (aR 1 Q (GE hm λg12 hm=>SX Q Q (bI Q Q Q Q g12) (aE 2 Q (aX [0,1,2,3,4] hm Q Q)))))))))))
  refine aM 2 Q (IE hm λv13 hm hz=>?_);rw [hz8 _ hz] at hm;exact WX (bD 1 Q (aT [0,1,2,3,4] hm Q Q))
 refine WN [0,1] Q Q (aR 1 Q (SX Q Q (bV Q oI cR Q Q Q Q) (SX Q Q (bV Q oI cR Q Q Q Q) (SX Q Q (bV Q zAE yY Q Q Q Q) (SX Q Q (bV Q oI cR Q Q Q Q) (SX Q Q (bV Q oI cR Q Q Q Q) (SX Q Q (bV Q zAE yY Q Q Q Q) (SX Q Q (cF [.tmp 30,.tmp 33] TK Q Q yY Q Q Q Q Q) (aL 4 Q (WN [0,1] Q Q (bM 5 Q (WN [0] Q Q (aM 1 Q ?_)))))))))))));obtain rfl:=OJ hm;exact EndsS.cellR _ TK Q Q Q Q Q (iA (.cons (.d _) Q (.cons (.d _) Q (.cons (bQ Q) Q (.cons (.d _) Q (.cons (.d _) Q (.cons (.d _) Q .nil)))))))
theorem qIJ {p0:Ag} {p1:Bd} {p2:Bc} {r0:A5} {r1:Int} (hm:vC p0 p1 p2=some (r0,r1)):RetT TP 126 [p0.enc,p1.enc,p2.enc] [r0.enc,.int .i64 r1]:=by
 refine .of (mv:=λ_=>false) (dW (aZ Q) func126 Q ntmps126 Q Q (λwX gX=>?_));unfold vC at hm;refine WN [0,1,2] Q Q (aO 1 Q (bR 0 Q Q Q (bR 1 Q Q Q (bR 2 Q Q Q (cK 3 Q Q rE Q (fP (f:=An.enc) 3 4 4 106 3 Q Q Q (cV 3 [none,none,none,none,none,some 1,some 1,some 1,some 1,none,none,none,none,none] Q Q (aL 3 Q (WN [3,4,5,6] Q Q (bM 1 Q (aP hm (λx1=>([(32,.d (.bool (x1)))])) (λx1=>[]) [32] [3,4,5,6] Q (λz2 hm=>?_) (λx1 hm=>?_))))))))))))
 ·refine aO 2 Q (c_N hm (sH ·) Q Q Q Q λr3 hm=>aG 1 Q (SB TK Q (λq4 hq4=>?_)));cases q4
  ·replace hm:=eM hq4 hm;refine aG 1 Q (c_N hm (sB ·) Q Q Q Q λr5 hm=>aG 2 Q (SB TK Q (λq6 hq6=>?_)));cases q6
   ·replace hm:=eM hq6 hm;refine aG 2 Q (c_N hm (sF ·) Q Q Q Q λr7 hm=>aG 2 Q (SB TK Q (λq8 hq8=>?_)));cases q8
    ·replace hm:=eM hq8 hm;exact aE 7 Q (aT [0,1,2,3,4] hm Q Q)
    replace hm:=eL hq8 hm;exact aE 7 Q (aT [0,1,2,3,4] hm Q Q)
   replace hm:=eL hq6 hm;exact aE 13 Q (aT [0,1,2,3,4] hm Q Q)
  replace hm:=eL hq4 hm;exact aE 18 Q (aT [0,1,2,3,4] hm Q Q)
 refine WN [3,4,5,6,32] Q Q (bH hm Q (λh9 hm=>?_) (λh9 hm=>?_))
 ·cases hm
 refine aR 7 Q (SX Q Q (aN TK Q Q Q) (GE hm λg10 hm=>SX Q Q (bI Q Q Q Q g10) (VE hm λe11 he11 hm=>SX Q Q (bA TK Q Q Q Q he11) (aG 1 Q (cK 5 Q Q fL Q (aL 3 Q (WN [3,4,5,6,8] Q Q (aR 6 Q (SX Q Q (bV Q oI cR Q Q Q Q) (c_N hm (qH ·) Q Q Q Q λr12 hm=>aL 9 Q (bL hm Q (λh13 hm=>?_) (λh13 hm=>?_))))))))))))
 ·cases hm
 refine aR 7 Q (VE hm λe14 he14 hm=>SX Q Q (bA TK Q Q Q Q he14) (aL 5 Q (WN [3,4,5,6,9,10] Q Q (cW (bJ follows (DA [] TK Q (DA [1] TK Q ?_)))))));iterate 3 (refine DA [] TK Q ?_)
 refine DA [2] TK Q (GE hm λg15 hm=>DX [] Q Q (bI Q Q Q Q g15) (DA [] TK Q (DA [0] TK Q (DA [] TK Q (DA [2] TK Q (dK [] hm (qF ·) Q Q Q Q λr16 hm=>GE hm λg17 hm=>DX [] Q Q (bI Q Q Q Q g17) (DA [] TK Q (DA [2] TK Q (GE hm λg18 hm=>DX [] Q Q (bI Q Q Q Q g18) ?_)))))))));refine DX [] Q Q (nW Q plc115 rE Q Q Q Q) (oJ [6] _ (.mptr 6 0 0 0) Q (eH Q) Q (lJ Q Q rE Q Q) ?_);refine DT ?_ (by kernel_rfl);refine aG 1 Q (fP (f:=An.enc) 6 4 7 106 3 Q Q Q (cV 6 [none,none,none,none,none,some 1,some 1,some 1,some 1,none,none,none,none,none] Q Q (aL 2 Q (WN [5,6,11] Q Q (aR 5 Q (GE hm λg19 hm=>cB (f:=An.enc) p2.steps TK Q Q fL Q Q Q Q Q (λh=>absurd h (zQV _)) Q bZ g19 Q Q (aL 4 Q (WN [6,11] Q Q (bM 6 Q (WN [6,7] Q Q (aM 1 Q ?_)))))))))));obtain⟨rfl,rfl⟩:=Prod.mk.inj (Option.some.inj hm);exact⟨_,.mk _ (.cons (.agg (TK.lay Q) Q Q Q Q) (.cons (.tmp 7) .nil)) Q,(.cons (iA (.cons (.d _) Q (.cons (.d _) Q (.cons (.d _) Q (.cons (.d _) Q (.cons (bQ Q) Q (.cons (.d _) Q (.cons (.d _) Q (.cons (.d _) Q (.cons (.d _) Q (.cons (.d _) Q (.cons (.d _) Q (.cons (.d _) Q (.cons (.d _) Q (.cons (.d _) Q .nil))))))))))))))) (.refl _) (.cons (.d _) (.refl _) .nil))⟩
theorem qDD {p0:Int} {p1:Int} {r:Ax} (hm:wS p0 p1=some r):RetN TP 127 [.int .i64 p0,.int .i64 p1] (r.enc):=by
 refine .unit (aJ (aZ Q) func127 Q ntmps127 Q Q (λwX gX=>?_)) Q;unfold wS at hm;refine WN [0,1] Q Q (aO 1 Q (cK 0 Q Q qKL Q (aG 5 Q (SX Q Q (bV Q plc72 qKL Q Q Q Q) (aE 4 Q ?_)))));obtain rfl:=OJ hm;exact EndsS.cellR _ TK Q Q Q Q Q (.d _)
theorem fC {p0:Ag} {p1:Bc} {r:(List Int)} (hm:dP p0 p1=some r):RetD TP 43 [p0.enc,p1.enc] (.sl 1 (r.map (D.int .i64))):=by
 refine .of (mv:=λ_=>false) (aJ (aZ Q) func43 Q ntmps43 Q Q (λwX gX=>?_));unfold dP at hm;refine WN [0,1] Q Q (aO 1 Q (bR 0 Q Q Q (bR 1 Q Q Q (aG 4 Q (cM (f:=(D.int .i64)) 2 3 1 Q Q Q (aL 2 Q (aP hm (λb1=>([(5,.msl 2 1 0 b1.length)])) (λb1=>([(2,.flat 3 1 (b1.map (D.int .i64)))])) [5] [] Q (λz2 hm=>?_) (λb1 hm=>?_))))))))
 ·refine bN 5 Q (aV hm (λ(i6,b7)=>([(5,.msl 2 1 0 b7.length),(6,.d (.int .i64 i6))])) (λ(i6,b7)=>([(2,.flat 3 1 (b7.map (D.int .i64)))])) [5,6] [2,3] [0,1,2] Q k0 Q Q Q Q Q (λs z8 hm hz8=>?_));obtain⟨i6,b7⟩:=s;refine WN [2,3,5,6] Q Q (aO 5 Q (SX Q Q (aN TK Q Q Q) (aL 3 Q (bL hm Q (λh9 hm=>?_) (λh9 hm=>?_)))))
  ·refine bM 4 Q (bJ follows ?_);iterate 4 (refine DA [0,1,2] TK Q ?_)
   refine VE hm λe10 he10 hm=>DX [0,1,2] Q Q (bA TK Q Q Q Q he10) ?_;iterate 2 (refine DA [0,1,2] TK Q ?_)
   refine dK [0,1,2] hm (fS ·) Q Q Q Q λr11 hm=>?_;refine DT ?_ (by kernel_rfl);refine aL 8 Q (bL hm Q (λh12 hm=>?_) (λh12 hm=>?_))
   ·exact aR 3 Q (SX Q Q (cF [.tmp 26] TK Q Q dF Q Q Q Q Q) (GE hm λg13 hm=>cB (f:=(D.int .i64)) ([r11]:List Int) TK Q Q dF Q Q Q Q Q (λh=>absurd h (zQV _)) Q bZ g13 Q Q (aL 4 Q (WN [2,3,5,6] Q Q (aR 2 Q (GE hm λg14 hm=>SX Q Q (bI Q Q Q Q g14) (aE 2 Q (aX [0,1,2] hm Q Q))))))))
   exact bM 3 Q (WN [2,3,5,6] Q Q (aR 2 Q (GE hm λg15 hm=>SX Q Q (bI Q Q Q Q g15) (aE 2 Q (aX [0,1,2] hm Q Q)))))
  refine aM 2 Q (IE hm λv16 hm hz=>?_);rw [hz8 _ hz] at hm;exact WX (bD 1 Q (aT [0,1,2] hm Q Q))
 refine WN [5] Q Q ?_;refine qNC 5 2 [] Q Q Q Q Q (by simp) Q Q ?_;refine aR 2 Q (c_D hm (zQ ·) Q Q Q Q λr17 hm=>aE 4 Q ?_);obtain rfl:=OJ hm;exact EndsS.one _ Q (.d _) (.refl _)
theorem qFP {p0:(List Int)} {p1:(List Int)} {p2:Bool} {r:(List Int)} (hm:oT p0 p1 p2=some r):RetD TP 85 [.sl 1 (p0.map (D.int .i64)),.sl 1 (p1.map (D.int .i64)),.bool (p2)] (.sl 1 (r.map (D.int .i64))):=by
 refine .of (mv:=λ_=>false) (aJ (aZ Q) func85 Q ntmps85 Q Q (λwX gX=>?_));unfold oT at hm;refine WN [0,1,2] Q Q (bN 8 Q (uS 7 [some 1] Q (aP hm (λout1=>([(7,.d (.sl 1 (out1.map (D.int .i64))))])) (λout1=>[]) [7] [] Q (λz2 hm=>?_) (λout1 hm=>?_))))
 ·refine bN 5 Q (aV hm (λ(out5,i6)=>([(7,.d (.sl 1 (out5.map (D.int .i64)))),(8,.d (.int .i64 i6))])) (λ(out5,i6)=>[]) [7,8] [0,1,2] [] Q k0 Q Q Q Q Q (λs z7 hm hz7=>?_));obtain⟨out5,i6⟩:=s;refine WN [0,1,2,7,8] Q Q (aO 4 Q (SX Q Q (aN TK Q Q Q) (aL 3 Q (bL hm Q (λh8 hm=>?_) (λh8 hm=>?_)))))
  ·refine aR 8 Q (VE hm λe9 he9 hm=>SX Q Q (bA TK Q Q Q Q he9) (aG 1 Q (c_N hm (rN ·) Q Q Q Q λr10 hm=>aL 4 Q (bH hm Q (λh11 hm=>?_) (λh11 hm=>?_)))))
   ·exact aR 4 Q (VE hm λe12 he12 hm=>SX Q Q (bA TK Q Q Q Q he12) (aG 1 Q (c_D hm (qI ·) Q Q Q Q λr13 hm=>aL 4 Q (WN [0,1,2,7,8] Q Q (aR 2 Q (GE hm λg14 hm=>SX Q Q (bI Q Q Q Q g14) (aE 2 Q (aX [] hm Q Q))))))))
   exact aR 5 Q (GE hm λg15 hm=>SX Q Q (bI Q Q Q Q g15) (aE 2 Q (aX [] hm Q Q)))
  refine aM 2 Q (IE hm λv16 hm hz=>?_);rw [hz7 _ hz] at hm;exact WX (bD 1 Q (aT [] hm Q Q))
 refine WN [7] Q Q (aM 6 Q ?_);obtain rfl:=OJ hm;exact EndsS.one _ Q (.d _) (.refl _)
theorem qJ {p0:(List Int)} {p1:(List Int)} {r:(List Int)} (hm:hU p0 p1=some r):RetD TP 42 [.sl 1 (p0.map (D.int .i64)),.sl 1 (p1.map (D.int .i64))] (.sl 1 (r.map (D.int .i64))):=by
 refine .of (mv:=λ_=>false) (aJ (aZ Q) func42 Q ntmps42 Q Q (λwX gX=>?_));unfold hU at hm;refine WN [0,1] Q Q (aO 7 Q (c_D hm (qFP ·) Q Q Q Q λr1 hm=>aE 4 Q ?_));obtain rfl:=OJ hm;exact EndsS.one _ Q (.d _) (.refl _)
theorem qII {p0:Ag} {p1:(List Bc)} {r:Bool} (hm:vB p0 p1=some r):RetN TP 128 [p0.enc,.sl 3 (p1.map Bc.enc)] (.bool (r)):=by
 refine .unit (aJ (aZ Q) func128 Q ntmps128 Q Q (λwX gX=>?_)) Q;unfold vB at hm;refine WN [0,1] Q Q (aO 1 Q (bR 0 Q Q Q (aL 3 Q (bF hm (λ_=>[]) (λ_=>[]) [] [] Q (λz1 hm hz1=>?_) (λj hm=>?_)))))
 ·refine bN 5 Q (aV hm (λi3=>([(5,.d (.int .i64 i3))])) (λi3=>[]) [5] [1,2] [0] Q k0 Q Q Q Q Q (λi3 z4 hm hz4=>WN [1,2,5] Q Q (aO 4 Q (SX Q Q (aN TK Q Q Q) (aL 3 Q (bL hm Q (λh5 hm=>?_) (λh5 hm=>?_)))))))
  ·refine bM 2 Q (bF hm (λ_=>[]) (λ_=>[]) [] [1,2,5] Q (λz6 hm hz6=>?_) (λj hm=>?_))
   ·refine bN 6 Q (aV hm (λk8=>([(6,.d (.int .i64 k8))])) (λk8=>[]) [6] [1,2,5] [0] Q k0 Q Q Q Q Q (λk8 z9 hm hz9=>WN [1,2,5,6] Q Q (bN 7 Q (bL hm Q (λh10 hm=>?_) (λh10 hm=>?_)))))
    ·refine bM 4 Q (bJ follows ?_);iterate 3 (refine DA [0] TK Q ?_)
     refine VE hm λe11 he11 hm=>DX [0] Q Q (bA TK Q Q Q Q he11) (DA [0] TK Q (jN [0] hm (fC ·) Q Q Q Q λr12 hm=>?_));iterate 3 (refine DA [0] TK Q ?_)
     refine VE hm λe13 he13 hm=>DX [0] Q Q (bA TK Q Q Q Q he13) (DA [0] TK Q (jN [0] hm (fC ·) Q Q Q Q λr14 hm=>jN [0] hm (qJ ·) Q Q Q Q λr15 hm=>DX [0] Q Q (aN TK Q Q Q) (DA [0] TK Q ?_)));refine DT ?_ (by kernel_rfl);refine aL 2 Q (WN [1,2,5,6,32] Q Q (bL hm Q (λh16 hm=>?_) (λh16 hm=>?_)))
     ·cases hm
     exact aR 5 Q (GE hm λg17 hm=>SX Q Q (bI Q Q Q Q g17) (aE 2 Q (aX [0] hm Q Q)))
    refine aM 2 Q (IE hm λv18 hm hz=>?_);rw [hz9 _ hz] at hm;exact WX (bD 2 Q (aX [0] hm Q Q))
   exact WN [1,2,5] Q Q (aR 2 Q (GE hm λg19 hm=>SX Q Q (bI Q Q Q Q g19) (aE 2 Q (aX [0] hm Q Q))))
  refine aM 2 Q (IE hm λv20 hm hz=>?_);rw [hz4 _ hz] at hm;exact WX (bD 1 Q (aX [0] hm Q Q))
 exact WN [] Q Q (aM 5 Q (aS hm Q))
theorem qOE {p0:Ag} {p1:(List Bd)} {p2:(List Bc)} {r0:Bg} {r1:Int} (hm:qBQ p0 p1 p2=some (r0,r1)):RetT TP 65 [p0.enc,.sl 10 (p1.map Bd.enc),.sl 3 (p2.map Bc.enc)] [r0.enc,.int .i64 r1]:=by
 refine .of (mv:=λ_=>false) (dW (aZ Q) func65 Q ntmps65 Q Q (λwX gX=>?_));unfold qBQ at hm;refine WN [0,1,2] Q Q (aO 1 Q (bR 0 Q Q Q (cK 1 Q Q qRR Q (fP (f:=A5.enc) 1 0 2 115 14 Q Q Q (fP (f:=Ax.enc) 1 1 3 72 4 Q Q Q (aL 4 Q ?_))))));refine cI [(27,.d (.bool (((decide ((p1.length:Int) < (1:Int)))||((decide ((6:Int) < (p1.length:Int)))||(!(decide ((p2.length:Int)=(p1.length:Int)))))))))] [27] [1,2,3,6] Q ?_ ?_
 ·refine aO 2 Q (SX Q Q (aN TK Q Q Q) (aG 1 Q (SB TK Q (λq1 hq1=>?_))));cases q1
  ·refine aG 1 Q (SX Q Q (aN TK Q Q Q) (aG 2 Q (SB TK Q (λq2 hq2=>?_))));cases q2
   ·refine aG 1 Q (SX Q Q (aN TK Q Q Q) (aG 1 Q (SX Q Q (aN TK Q Q Q) (aE 3 Q ?_))));exact⟨[0,1,2,3],Q,k0,aW (aI (aK (by first|(simp [hq1,hq2];done)|(simp only [hq1,hq2];simp))) Q) Q⟩
   refine aE 7 Q ?_;exact⟨[0,1,2,3],Q,k0,aW (aI (aK (by first|(simp [hq1,hq2];done)|(simp only [hq1,hq2];simp))) Q) Q⟩
  refine aE 12 Q ?_;exact⟨[0,1,2,3],Q,k0,aW (aI (aK (by first|(simp [hq1];done)|(simp only [hq1];simp))) Q) Q⟩
 refine WN [1,2,3,6,27] Q Q (bH hm Q (λh3 hm=>?_) (λh3 hm=>?_))
 ·cases hm
 refine bM 2 Q (bF hm (λ_=>[]) (λ_=>[]) [] [1,2,3,6] Q (λz4 hm hz4=>?_) (λj hm=>?_))
 ·refine bN 5 Q (aV hm (λi6=>([(8,.d (.int .i64 i6))])) (λi6=>[]) [8] [1,2,3,6] [0,1,2,3] Q k0 Q Q Q Q Q (λi6 z7 hm hz7=>WN [1,2,3,6,8] Q Q (aO 4 Q (SX Q Q (aN TK Q Q Q) (aL 3 Q (bL hm Q (λh8 hm=>?_) (λh8 hm=>?_)))))))
  ·refine bM 4 Q (bJ follows ?_);iterate 2 (refine DA [0,1,2,3] TK Q ?_)
   refine VE hm λe9 he9 hm=>DX [0,1,2,3] Q Q (bA TK Q Q Q Q he9) ?_;iterate 4 (refine DA [0,1,2,3] TK Q ?_)
   refine GE hm λg10 hm=>DX [0,1,2,3] Q Q (bI Q Q Q Q g10) (VE hm λe11 he11 hm=>DX [0,1,2,3] Q Q (bA TK Q Q Q Q he11) ?_);iterate 3 (refine DA [0,1,2,3] TK Q ?_)
   refine DT ?_ (by kernel_rfl);refine aL 2 Q (WN [1,2,3,6,8,46] Q Q (bL hm Q (λh12 hm=>?_) (λh12 hm=>?_)))
   ·cases hm
   exact aR 5 Q (GE hm λg13 hm=>SX Q Q (bI Q Q Q Q g13) (aE 2 Q (aX [0,1,2,3] hm Q Q)))
  refine aM 2 Q (IE hm λv14 hm hz=>?_);rw [hz7 _ hz] at hm;exact WX (bD 1 Q (aX [0,1,2,3] hm Q Q))
 refine WN [1,2,3,6] Q Q (aR 1 Q (cK 4 Q Q qRR Q (fP (f:=A5.enc) 4 0 5 115 14 Q Q Q (fP (f:=Ax.enc) 4 1 6 72 4 Q Q Q (aL 2 Q (WN [1,2,3,6,9] Q Q (bF hm (λ(b15,b16)=>[]) (λ(b15,b16)=>([(4,.box 42 [.msl 5 14 0 b15.length,.msl 6 4 0 b16.length]),(5,.flat 115 14 (b15.map A5.enc)),(6,.flat 72 4 (b16.map Ax.enc))])) [] [2,3,6,9] Q (λz17 hm hz17=>?_) (λj hm=>?_))))))))
 ·refine bN 5 Q (aV hm (λ(i22,b23,b24)=>([(10,.d (.int .i64 i22))])) (λ(i22,b23,b24)=>([(4,.box 42 [.msl 5 14 0 b23.length,.msl 6 4 0 b24.length]),(5,.flat 115 14 (b23.map A5.enc)),(6,.flat 72 4 (b24.map Ax.enc))])) [10] [1,2,3,6,9] [0,1,2,3,4,5,6] Q k0 Q Q Q Q Q (λs z25 hm hz25=>?_));obtain⟨i22,b23,b24⟩:=s;refine WN [1,2,3,6,9,10] Q Q (aO 4 Q (SX Q Q (aN TK Q Q Q) (aL 3 Q (bL hm Q (λh26 hm=>?_) (λh26 hm=>?_)))))
  ·refine bM 4 Q (cW (bJ follows (DA [0] TK Q ?_)));iterate 2 (refine DA [] TK Q ?_)
   refine VE hm λe27 he27 hm=>DX [] Q Q (bA TK Q Q Q Q he27) ?_;iterate 3 (refine DA [] TK Q ?_)
   refine VE hm λe28 he28 hm=>DX [] Q Q (bA TK Q Q Q Q he28) (DA [] TK Q (BE hm λr29 hr29 hm=>?_));obtain⟨r30,r31⟩:=r29;refine DX [] Q Q (cT Q Q Q (qIJ hr29)) ?_;iterate 3 (refine DA [] TK Q ?_)
   refine oJ [7] _ (.mptr 7 0 0 0) Q (eH Q) Q (lJ Q Q rE Q Q) (qQK 1000012 [7] [(7,.box 115 [.d (.int .i64 r30.id),.d (.int .i64 r30.origin),.d (.int .i64 r30.endV),.d (.int .i64 r30.atV),.d (.sl 3 (r30.steps.map An.enc)),.d (.sl 1 (r30.Ab.map (D.int .i64))),.d (.sl 1 (r30.starts.map (D.int .i64))),.d (.sl 1 (r30.ends.map (D.int .i64))),.d (.sl 1 (r30.done.map (D.int .i64))),.d (.int .i64 r30.min),.d (.int .i64 r30.sent),.d (.int .i64 r30.accepted),.d (.int .i64 r30.cut),.d (.int .i64 r30.cutSeq)])] (eH Q) Q (uT TK Q Q Q Q Q Q Q Q Q Q) ?_);refine DT ?_ (by kernel_rfl);refine aL 3 Q (WN [1,2,3,6,9,10,11,12] Q Q (bM 6 Q (eC hm Q (λh32 hm=>?_) (λh32 hm=>?_))))
   ·cases hm
   refine aR 6 Q (SX Q Q (cF [.tmp 73] TK Q Q rE Q Q Q Q Q) (GE hm λg33 hm=>cB (f:=A5.enc) ([r30]:List A5) TK Q Q rE Q Q Q Q Q (λh=>absurd h (zQV _)) Q bZ g33 Q Q (aL 4 Q (WN [1,2,3,6,9,10] Q Q (cW (dC follows (DA [] TK Q (DA [4] TK Q ?_))))))));iterate 2 (refine DA [] TK Q ?_)
   refine VE hm λe34 he34 hm=>DX [] Q Q (bA TK Q Q Q Q he34) ?_;iterate 2 (refine DA [] TK Q ?_)
   refine dK [] hm (qDD ·) Q Q Q Q λr35 hm=>DX [] Q Q (cF [.tmp 84] TK Q Q qKL Q Q Q Q Q) (GE hm λg36 hm=>oJ [6,8] _ (.msl 8 4 0 (b24++([r35]:List Ax)).length) Q (eH Q) Q (tL (f:=Ax.enc) (xs:=b24) ([r35]:List Ax) Q Q Q TK Q qKL Q Q Q Q Q Q bZ g36) (DA [] TK Q ?_));refine DT ?_ (by kernel_rfl);exact aL 4 Q (WN [1,2,3,6,9,10] Q Q (aR 2 Q (GE hm λg37 hm=>SX Q Q (bI Q Q Q Q g37) (aE 2 Q (aX [0,1,2,3,4,5,8] hm Q Q)))))
  refine aM 2 Q (IE hm λv38 hm hz=>?_);rw [hz25 _ hz] at hm;exact WX (bD 1 Q (aX [0,1,2,3,4,5,6] hm Q Q))
 obtain⟨b15,b16⟩:=j;refine WN [2,3,6,9] Q Q (aR 4 Q (c_N hm (qII ·) Q Q Q Q λr39 hm=>aL 3 Q (bH hm Q (λh40 hm=>?_) (λh40 hm=>?_))))
 ·cases hm
 refine bM 8 Q (WN [6,7] Q Q (aM 1 Q ?_));obtain⟨rfl,rfl⟩:=Prod.mk.inj (Option.some.inj hm);exact⟨_,.mk _ (.cons (.agg (TK.lay Q) Q Q Q Q) (.cons (.tmp 7) .nil)) Q,(.cons (iA (.cons (bQ Q) Q (.cons (bQ Q) Q .nil))) (.refl _) (.cons (.d _) (.refl _) .nil))⟩
theorem qIL {p0:Al} {r:Az} (hm:vE p0=some r):RetD TP 66 [p0.enc] (r.enc):=by
 refine .of (mv:=λ_=>false) (aJ (aZ Q) func66 Q ntmps66 Q Q (λwX gX=>?_));unfold vE at hm;refine WN [0] Q Q (aO 1 Q (bR 0 Q Q Q (cK 1 Q Q qYX Q (cV 1 [some 3,some 1] Q Q (aG 5 Q (c_N hm (xT ·) Q Q Q Q λr1 hm=>aL 3 Q (eC hm Q (λh2 hm=>?_) (λh2 hm=>?_))))))))
 ·cases hm
 refine aR 5 Q (SX Q Q (aN TK Q Q Q) (GE hm λg3 hm=>qZR (f:=(D.int .i64)) (x:=(0:Int)) 2 TK Q Q Q dF Q Q Q Q Q g3 Q (aL 3 Q (aP hm (λ_=>[]) (λ_=>[]) [] [1,2,3] Q (λz4 hm=>?_) (λj hm=>?_)))))
 ·refine bN 5 Q (aV hm (λi6=>([(4,.d (.int .i64 i6))])) (λi6=>[]) [4] [1,2,3] [0,1,2] Q k0 Q Q Q Q Q (λi6 z7 hm hz7=>WN [1,2,3,4] Q Q (bN 8 Q (bL hm Q (λh8 hm=>?_) (λh8 hm=>?_)))))
  ·cases hm
  refine aM 2 Q (IE hm λv9 hm hz=>?_);rw [hz7 _ hz] at hm;exact WX (bD 1 Q (aT [0,1,2] hm Q Q))
 refine WN [1,2,3] Q Q (aR 3 Q (SX Q Q (aN TK Q Q Q) (GE hm λg10 hm=>SX Q Q (qKN (f:=Ak.enc) (x:=(⟨(0:Int),(0:Int),(0:Int)⟩:Ak)) TK Q Q qUD Q Q Q Q Q g10 Q) (aG 1 Q (SX Q Q (nW Q plc35 qYX Q Q Q Q) (aE 4 Q ?_))))));obtain rfl:=OJ hm;exact EndsS.cellR _ TK Q Q Q Q Q (iA (.cons (.d _) Q (.cons (bQ Q) Q .nil)))
theorem qIK {p0:Al} {r:(List Ar)} (hm:vD p0=some r):RetD TP 67 [p0.enc] (.sl 3 (r.map Ar.enc)):=by
 refine .of (mv:=λ_=>false) (aJ (aZ Q) func67 Q ntmps67 Q Q (λwX gX=>?_));unfold vD at hm;refine WN [0] Q Q (aO 1 Q (bR 0 Q Q Q (aG 4 Q (cM (f:=Ar.enc) 1 129 3 Q Q Q (aL 2 Q (aP hm (λ_=>([(3,.msl 1 3 0 ([]:List Ar).length)])) (λ_=>[]) [3] [] Q (λz1 hm=>?_) (λj hm=>?_)))))))
 ·refine bN 5 Q (aV hm (λi3=>([(3,.msl 1 3 0 ([]:List Ar).length),(4,.d (.int .i64 i3))])) (λi3=>[]) [3,4] [1] [0,1] Q k0 Q Q Q Q Q (λi3 z4 hm hz4=>WN [1,3,4] Q Q (aO 5 Q (SX Q Q (aN TK Q Q Q) (aL 3 Q (bL hm Q (λh5 hm=>?_) (λh5 hm=>?_)))))))
  ·cases hm
  refine aM 2 Q (IE hm λv6 hm hz=>?_);rw [hz4 _ hz] at hm;exact WX (bD 1 Q (aT [0,1] hm Q Q))
 refine WN [3] Q Q (aM 6 Q ?_);obtain rfl:=OJ hm;exact EndsS.one _ Q (bQ Q) (.refl _)
theorem qBO {p0:Ag} {p1:Bc} {r:Bool} (hm:pW p0 p1=some r):RetN TP 68 [p0.enc,p1.enc] (.bool (r)):=by
 refine .unit (aJ (aZ Q) func68 Q ntmps68 Q Q (λwX gX=>?_)) Q;unfold pW at hm;refine WN [0,1] Q Q (aO 1 Q (bR 0 Q Q Q (bR 1 Q Q Q (aL 3 Q (bF hm (λ_=>[]) (λ_=>[]) [] [] Q (λz1 hm hz1=>?_) (λj hm=>?_))))))
 ·refine bN 5 Q (aV hm (λi3=>([(5,.d (.int .i64 i3))])) (λi3=>[]) [5] [2,3] [0,1] Q k0 Q Q Q Q Q (λi3 z4 hm hz4=>WN [2,3,5] Q Q (aO 5 Q (SX Q Q (aN TK Q Q Q) (aL 3 Q (bL hm Q (λh5 hm=>?_) (λh5 hm=>?_)))))))
  ·refine aR 8 Q (VE hm λe6 he6 hm=>SX Q Q (bA TK Q Q Q Q he6) (aG 1 Q (cK 2 Q Q fL Q (aL 4 Q ?_))));refine cI [(31,.d (.bool (((decide (e6.el < (0:Int)))||(decide ((p0.Af.length:Int)<=e6.el))))))] [31] [2,3,5,6] Q ?_ ?_
   ·refine aO 4 Q (SB TK Q (λq7 hq7=>?_));cases q7
    ·refine aG 4 Q (SX Q Q (aN TK Q Q Q) (aE 3 Q ?_));exact⟨[0,1,2],Q,k0,aW (aI (aK (by first|(simp [hq7];done)|(simp only [hq7];simp))) Q) Q⟩
    refine aE 8 Q ?_;exact⟨[0,1,2],Q,k0,aW (aI (aK (by first|(simp [hq7];done)|(simp only [hq7];simp))) Q) Q⟩
   refine WN [2,3,5,6,31] Q Q (bH hm Q (λh8 hm=>?_) (λh8 hm=>?_))
   ·cases hm
   refine bM 2 Q (bJ follows ?_);iterate 4 (refine DA [0,1,2] TK Q ?_)
   refine VE hm λe9 he9 hm=>DX [0,1,2] Q Q (bA TK Q Q Q Q he9) ?_;iterate 6 (refine DA [0,1,2] TK Q ?_)
   refine BE hm λr10 hr10 hm=>?_;obtain⟨r11,r12⟩:=r10;refine DX [0,1,2] Q Q (cT Q Q Q (jR hr10)) ?_;iterate 4 (refine DA [0,1,2] TK Q ?_)
   refine DT ?_ (by kernel_rfl);refine aL 3 Q (WN [2,3,5,7,8] Q Q ?_);refine cI [(52,.d (.bool (((!(r12))||(decide (r11=(2:Int)))))))] [52] [2,3,5] Q ?_ ?_
   ·refine aO 3 Q (SB TK Q (λq13 hq13=>?_));cases q13
    ·refine aE 4 Q ?_;exact⟨[0,1,2],Q,k0,aW (aI (aK (by first|(simp [hq13];done)|(simp only [hq13];simp))) Q) Q⟩
    refine aE 4 Q ?_;exact⟨[0,1,2],Q,k0,aW (aI (aK (by first|(simp [hq13];done)|(simp only [hq13];simp))) Q) Q⟩
   refine WN [2,3,5,52] Q Q (bH hm Q (λh14 hm=>?_) (λh14 hm=>?_))
   ·cases hm
   exact aR 5 Q (GE hm λg15 hm=>SX Q Q (bI Q Q Q Q g15) (aE 2 Q (aX [0,1] hm Q Q)))
  refine aM 2 Q (IE hm λv16 hm hz=>?_);rw [hz4 _ hz] at hm;exact WX (bD 1 Q (aX [0,1] hm Q Q))
 exact WN [] Q Q (aM 5 Q (aS hm Q))
theorem qOF {p0:Bd} {p1:Int} {r:Cab} (hm:qBR p0 p1=some r):RetD TP 69 [p0.enc,.int .i64 p1] (r.enc):=by
 refine .of (mv:=λ_=>false) (aJ (aZ Q) func69 Q ntmps69 Q Q (λwX gX=>?_));unfold qBR at hm;refine WN [0,1] Q Q (aO 1 Q (bR 0 Q Q Q (cK 1 Q Q qYW Q (cV 1 [none,none,none,none,none,none,none,none,none,none,none,none,none,none,none,none,none,none,some 4,some 2,none,none,none,none,none,none] Q Q (aL 2 Q (bJ follows ?_))))));iterate 2 (refine DA [0,1] TK Q ?_)
 refine dK [0,1] hm (qDD ·) Q Q Q Q λr1 hm=>DX [0,1] Q Q (bV Q plc76 qYW Q Q Q Q) ?_;refine DT ?_ (by kernel_rfl);refine aG 1 Q (cV 1 [none,none,none,none,none,none,none,none,none,none,none,none,none,none,none,none,none,none,some 4,some 2,none,none,none,none,none,none] Q Q (aE 3 Q ?_));obtain rfl:=OJ hm;exact EndsS.cellR _ TK Q Q Q Q Q (.d _)
theorem qFK {p0:A7} {p1:A7} {r:Bool} (hm:tR p0 p1=some r):RetN TP 171 [p0.enc,p1.enc] (.bool (r)):=by
 refine .unit (aJ (aZ Q) func171 Q ntmps171 Q Q (λwX gX=>?_)) Q;unfold tR at hm;refine WN [0,1] Q Q (aO 1 Q (bR 0 Q Q Q (bR 1 Q Q Q (aL 12 Q (eC hm Q (λh1 hm=>?_) (λh1 hm=>?_))))))
 ·cases hm
 cases hm
theorem tQ:∀ (fu:Nat) {p0:Bn} {p1:(List (List Int))} {p2:Int} {r:Bn} (hm:fN fu p0 p1 p2=some r),Ret TP 129 [.box 218 [.d (.sl 14 (p0.t.Ab.map Ai.enc)),.d (.sl 1 (p0.t.Ae.map (D.int .i64))),.d (.sl 1 (p0.t.A1.map (D.int .i64))),.d (.int .i64 p0.t.Ad),.d (.int .i64 p0.t.Ah),.d (.sl 2 (p0.trips.map A6.enc)),.d (.sl 1 (p0.best.starts.map (λ(l:List Int)=>D.sl 1 (l.map (D.int .i64))))),.d (.int .i64 p0.best.cost),.d (.bool (p0.found))]] (λ_=>false) [.mptr 0 0 0 0,.d (.sl 1 (p1.map (λ(l:List Int)=>D.sl 1 (l.map (D.int .i64))))),.d (.int .i64 p2)] (.tup []) [.box 218 [.d (.sl 14 (p0.t.Ab.map Ai.enc)),.d (.sl 1 (p0.t.Ae.map (D.int .i64))),.d (.sl 1 (p0.t.A1.map (D.int .i64))),.d (.int .i64 p0.t.Ad),.d (.int .i64 p0.t.Ah),.d (.sl 2 (p0.trips.map A6.enc)),.d (.sl 1 (r.best.starts.map (λ(l:List Int)=>D.sl 1 (l.map (D.int .i64))))),.d (.int .i64 r.best.cost),.d (.bool (r.found))]]:=by
 intro fu
 induction fu with
 | zero=>
  intro p0 p1 p2 r hm;unfold fN at hm;cases hm
 | succ fu ih=>
  intro p0 p1 p2 r hm;refine iC (aZ Q) func129 Q ntmps129 Q Q (λwX gX=>?_);unfold fN at hm;refine WN [0,1,2] Q Q (bN 4 Q (aP hm (λdone1=>([(6,.d (.bool (done1)))])) (λdone1=>[]) [6] [0,1,2] Q (λz2 hm=>?_) (λdone1 hm=>?_)))
  ·refine bN 5 Q (aV hm (λ(done5,i6)=>([(6,.d (.bool (done5))),(7,.d (.int .i64 i6))])) (λ(done5,i6)=>[]) [6,7] [0,1,2] [0] Q (kB Q) Q Q Q Q Q (λs z7 hm hz7=>?_));obtain⟨done5,i6⟩:=s;refine WN [0,1,2,6,7] Q Q (aO 4 Q (SX Q Q (aN TK Q Q Q) (aL 3 Q (bL hm Q (λh8 hm=>?_) (λh8 hm=>?_)))))
   ·cases hm
   refine aM 2 Q (IE hm λv9 hm hz=>?_);rw [hz7 _ hz] at hm;exact WX (bD 1 Q (e_j [0] hm Q (kB Q) Q))
  refine WN [0,1,2,6] Q Q (bM 6 Q (bH hm Q (λh10 hm=>?_) (λh10 hm=>?_)))
  ·cases hm
  refine aR 5 Q (SX Q Q (bV Q plc52 qKM Q Q Q Q) (cK 1 Q Q qKM Q (cV 1 [some 1,none] Q Q (aL 3 Q (aP hm (λx11=>([(83,.d (.bool (x11)))])) (λx11=>[]) [83] [0,10] Q (λz12 hm=>?_) (λx11 hm=>?_))))))
  ·refine cJ follows ?_;iterate 5 (refine DA [0,1] TK Q ?_)
   refine d_b [0,1] TK Q (λq13 hq13=>?_);cases q13
   ·replace hm:=JB hq13 hm;iterate 5 (refine DA [0,1] TK Q ?_)
    refine dK [0,1] hm (qFK ·) Q Q Q Q λr14 hm=>DA [0,1] TK Q ?_;refine DT ?_ (by kernel_rfl);exact aE 1 Q (e_j [0,1] hm Q (kB Q) Q)
   replace hm:=JA hq13 hm;iterate 7 (refine DA [0,1] TK Q ?_)
   refine DT ?_ (by kernel_rfl);exact aE 1 Q (e_j [0,1] hm Q (kB Q) Q)
  refine WN [0,10,83] Q Q (bH hm Q (λh15 hm=>?_) (λh15 hm=>?_))
  ·refine aM 14 Q ?_;obtain rfl:=OJ hm;exact⟨_,[0],res Q,by decide,(kB Q),Q,Q⟩
  cases hm
theorem uP {p0:Bn} {p1:(List (List Int))} {p2:Int} {r:Bn} (hm:oM p0 p1 p2=some r):Ret TP 129 [.box 218 [.d (.sl 14 (p0.t.Ab.map Ai.enc)),.d (.sl 1 (p0.t.Ae.map (D.int .i64))),.d (.sl 1 (p0.t.A1.map (D.int .i64))),.d (.int .i64 p0.t.Ad),.d (.int .i64 p0.t.Ah),.d (.sl 2 (p0.trips.map A6.enc)),.d (.sl 1 (p0.best.starts.map (λ(l:List Int)=>D.sl 1 (l.map (D.int .i64))))),.d (.int .i64 p0.best.cost),.d (.bool (p0.found))]] (λ_=>false) [.mptr 0 0 0 0,.d (.sl 1 (p1.map (λ(l:List Int)=>D.sl 1 (l.map (D.int .i64))))),.d (.int .i64 p2)] (.tup []) [.box 218 [.d (.sl 14 (p0.t.Ab.map Ai.enc)),.d (.sl 1 (p0.t.Ae.map (D.int .i64))),.d (.sl 1 (p0.t.A1.map (D.int .i64))),.d (.int .i64 p0.t.Ad),.d (.int .i64 p0.t.Ah),.d (.sl 2 (p0.trips.map A6.enc)),.d (.sl 1 (r.best.starts.map (λ(l:List Int)=>D.sl 1 (l.map (D.int .i64))))),.d (.int .i64 r.best.cost),.d (.bool (r.found))]]:=tQ lR hm
theorem qID {p0:Al} {p1:(List A6)} {r0:A7} {r1:Int} (hm:vA p0 p1=some (r0,r1)):RetT TP 70 [p0.enc,.sl 2 (p1.map A6.enc)] [r0.enc,.int .i64 r1]:=by
 refine .of (mv:=λ_=>false) (dW (aZ Q) func70 Q ntmps70 Q Q (λwX gX=>?_));unfold vA at hm;refine WN [0,1] Q Q (aO 1 Q (bR 0 Q Q Q (cK 1 Q Q qKM Q (cV 1 [some 1,none] Q Q (aG 6 Q (c_N hm (sA ·) Q Q Q Q λr1 hm=>aL 9 Q (eC hm Q (λh2 hm=>?_) (λh2 hm=>?_))))))))
 ·cases hm
 refine aR 5 Q (SX Q Q (bV Q plc218 zCV Q Q Q Q) (s_wk 17 [none,none,none,none,none,none,some 1,none,none] Q (bR 2 Q Q Q (aG 6 Q (SX Q Q (aN TK Q Q Q) (GE hm λg3 hm=>SX Q Q (zCZ (s:=1) (f:=(D.int .i64)) TK Q Q qYY Q Q Q Q Q g3) (BE hm λr4 hr4 hm=>?_)))))));refine qKX [2] (λ_=>false) Q Q Q (by decide) Q Q Q Q (uP hr4) Q Q Q ?_;refine aL 2 Q (WN [4,7] Q Q (aM 10 Q ?_));obtain⟨rfl,rfl⟩:=Prod.mk.inj (Option.some.inj hm);exact⟨_,.mk _ (.cons (.agg (TK.lay Q) Q Q Q Q) (.cons (.tmp 5) .nil)) Q,(.cons (.d _) (.refl _) (.cons (.d _) (.refl _) .nil))⟩
theorem qHS {p0:Ag} {p1:Int} {r:Bool} (hm:rF p0 p1=some r):RetN TP 174 [p0.enc,.int .i64 p1] (.bool (r)):=by
 refine .unit (aJ (aZ Q) func174 Q ntmps174 Q Q (λwX gX=>?_)) Q;unfold rF at hm;refine WN [0,1] Q Q (aO 1 Q (bR 0 Q Q Q (aL 3 Q (cI [(4,.d (.bool (((decide ((0:Int)<=p1))&&(decide (p1 < (p0.Af.length:Int)))))))] [4] [] Q ?_ ?_))))
 ·refine aO 3 Q (SB TK Q (λq1 hq1=>?_));cases q1
  ·refine aE 8 Q ?_;exact⟨[0],Q,k0,aW (aI (aK (by first|(simp [hq1];done)|(simp only [hq1];simp))) Q) Q⟩
  refine aG 3 Q (SX Q Q (aN TK Q Q Q) (aE 4 Q ?_));exact⟨[0],Q,k0,aW (aI (aK (by first|(simp [hq1];done)|(simp only [hq1];simp))) Q) Q⟩
 exact WN [4] Q Q (aM 1 Q (aS hm Q))
theorem zA {p0:Ag} {p1:(List An)} {r:(List Int)} (hm:jY p0 p1=some r):Ret TP 133 [] (λ_=>false) ([p0.enc,.sl 3 (p1.map An.enc)].map .d) (.msl 0 1 0 r.length) [.flat 3 1 (r.map (D.int .i64))]:=by
 refine iC (aZ Q) func133 Q ntmps133 Q Q (λwX gX=>?_);unfold jY at hm;refine WN [0,1] Q Q (aO 1 Q (bR 0 Q Q Q (cM (f:=(D.int .i64)) 1 3 1 Q Q Q (aG 3 Q (cM (f:=(D.int .i64)) 2 3 1 Q Q Q (aG 3 Q (wQ 3 4 Q (qHW 10 (.mmap 3) Q Q (aL 3 Q (aP hm (λ(b1,m2)=>([(5,.msl 2 1 0 b1.length)])) (λ(b1,m2)=>([(2,.flat 3 1 (b1.map (D.int .i64))),(3,.map 3 4 (dE (D.int .i64) D.bool m2))])) [5] [] Q (λz3 hm=>?_) (λj hm=>?_)))))))))))
 ·refine aO 2 Q (SX Q Q (aN TK Q Q Q) (aL 4 Q (aV hm (λ(x8,b9,b10)=>([(5,.msl 2 1 0 b9.length),(13,.d (.int .i64 x8))])) (λ(x8,b9,b10)=>([(2,.flat 3 1 (b9.map (D.int .i64))),(3,.map 3 4 (dE (D.int .i64) D.bool b10))])) [5,13] [2,6,11,12] [0,1,2,3] Q k0 Q Q Q Q Q (λs z11 hm hz11=>?_))));obtain⟨x8,b9,b10⟩:=s;refine WN [2,5,6,11,12,13] Q Q (bN 5 Q (bL hm Q (λh12 hm=>?_) (λh12 hm=>?_)))
  ·refine aR 5 Q (VE hm λe13 he13 hm=>SX Q Q (bA TK Q Q Q Q he13) (aG 1 Q (cK 4 Q Q fL Q (aL 3 Q (WN [2,5,6,8,11,12,13] Q Q (aR 5 Q (c_N hm (qHS ·) Q Q Q Q λr14 hm=>aL 3 Q (bH hm Q (λh15 hm=>?_) (λh15 hm=>?_)))))))))
   ·exact aR 5 Q (GE hm λg16 hm=>SX Q Q (bI Q Q Q Q g16) (aE 2 Q (aX [0,1,2,3] hm Q Q)))
   refine aR 7 Q (VE hm λe17 he17 hm=>SX Q Q (bA TK Q Q Q Q he17) (aG 8 Q (GE hm λg18 hm=>SX Q Q (wL (oE .i64) D.bool _ _ false Q qME qNI Q Q Q Q g18) (aL 3 Q (WN [2,5,6,9,11,12,13,32] Q Q (bH hm Q (λh19 hm=>?_) (λh19 hm=>?_)))))))
   ·refine aR 3 Q (GE hm λg20 hm=>qKW (oE .i64) D.bool qME Q Q Q Q g20 (aL 2 Q (WN [2,5,6,9,11,12,13] Q Q (aR 3 Q (SX Q Q (cF [.tmp 36] TK Q Q dF Q Q Q Q Q) (GE hm λg21 hm=>cB (f:=(D.int .i64)) ([e17.As]:List Int) TK Q Q dF Q Q Q Q Q (λh=>absurd h (zQV _)) Q bZ g21 Q Q (aL 4 Q (WN [2,5,6,11,12,13] Q Q (aR 1 Q (GE hm λg22 hm=>SX Q Q (bI Q Q Q Q g22) ?_))))))))));exact aE 2 Q (aX [0,1,2,3] hm Q Q)
   exact aR 4 Q (GE hm λg23 hm=>SX Q Q (bI Q Q Q Q g23) (aE 2 Q (aX [0,1,2,3] hm Q Q)))
  refine aM 2 Q (IE hm λv24 hm hz=>?_);rw [hz11 _ hz] at hm;exact WX (bD 1 Q (aT [0,1,2,3] hm Q Q))
 obtain⟨b1,m2⟩:=j;refine WN [5] Q Q (aM 6 Q ?_);obtain rfl:=OJ hm;exact⟨_,[2],res Q,by decide,k0,Q,Q⟩
theorem uL {p0:Ag} {p1:Bc} {r:(List Int)} (hm:iK p0 p1=some r):RetD TP 75 [p0.enc,p1.enc] (.sl 1 (r.map (D.int .i64))):=by
 refine .of (mv:=λ_=>false) (aJ (aZ Q) func75 Q ntmps75 Q Q (λwX gX=>?_));unfold iK at hm;refine WN [0,1] Q Q (aO 1 Q (bR 0 Q Q Q (bR 1 Q Q Q (aG 7 Q (BE hm λr1 hr1 hm=>tP Q Q Q (zA hr1) Q Q (qHW 9 (.msl 2 1 0 r1.length) Q Q (aG 5 Q (GE hm λg2 hm=>?_))))))));refine qEI [2] Q Q Q (by simp) Q Q Q (rH r1 g2) Q Q ?_;refine sQ 5 (kZ r1).length Q (gU _).symm (sQ 10 (kZ r1).length Q (gU _).symm (aE 8 Q ?_));obtain rfl:=OJ hm;exact EndsS.one _ Q (bQ Q) (.refl _)
theorem pS {p0:(List Int)} {r:(List Int)} (hm:dD p0=some r):RetD TP 172 [.sl 1 (p0.map (D.int .i64))] (.sl 1 (r.map (D.int .i64))):=by
 refine .of (mv:=λ_=>false) (aJ (aZ Q) func172 Q ntmps172 Q Q (λwX gX=>?_));unfold dD at hm;refine WN [0] Q Q (aO 7 Q (qUM Q Tryz.underlying30 Q Q (λb1 hb1=>aL 2 Q (TC _ Q (λh2=>?_) (λh2=>?_)))))
 ·obtain⟨hnb1,hm⟩:=zGN (hb1 h2) hm;subst hnb1;refine bM 4 Q (uS 2 [some 1] Q (aM 2 Q ?_));obtain rfl:=OJ hm;exact EndsS.one _ Q (.d _) (.refl _)
 replace hm:=zGO hm;refine aR 3 Q (qSB (f:=(D.int .i64)) 0 [] ([]:List Int) TK Q Q Q dF Q Q Q Q Q (aG 1 Q (GE hm λg3 hm=>cB (f:=(D.int .i64)) p0 TK Q Q dF Q Q Q Q Q (λh=>absurd h (zQV _)) Q bZ g3 Q Q (aE 4 Q ?_))));obtain rfl:=OJ hm;exact EndsS.one _ Q (bQ Q) (.refl _)
theorem uW {p0:(List Int)} {r:(List Int)} (hm:dD p0=some r):Ret TP 172 [] (λ_=>false) ([.sl 1 (p0.map (D.int .i64))].map .d) (.msl 0 1 0 r.length) [.flat 3 1 (r.map (D.int .i64))]:=by
 refine iC (aZ Q) func172 Q ntmps172 Q Q (λwX gX=>?_);unfold dD at hm;refine WN [0] Q Q (aO 1 Q (cM (f:=(D.int .i64)) 0 3 1 Q Q Q (aG 5 Q (qUM Q Tryz.underlying30 Q Q (λb1 hb1=>aL 2 Q (TC _ Q (λh2=>?_) (λh2=>?_)))))))
 ·obtain⟨hnb1,hm⟩:=zGN (hb1 h2) hm;subst hnb1;refine aR 1 Q (cM (f:=(D.int .i64)) 1 3 1 Q Q Q (aE 4 Q ?_));obtain rfl:=OJ hm;exact⟨_,[1],res Q,by decide,k0,Q,Q⟩
 replace hm:=zGO hm;refine aR 3 Q (qSB (f:=(D.int .i64)) 1 [] ([]:List Int) TK Q Q Q dF Q Q Q Q Q (aG 1 Q (GE hm λg3 hm=>cB (f:=(D.int .i64)) p0 TK Q Q dF Q Q Q Q Q (λh=>absurd h (zQV _)) Q bZ g3 Q Q (aE 4 Q ?_))));obtain rfl:=OJ hm;exact⟨_,[1],res Q,by decide,k0,Q,Q⟩
theorem qAD {p0:(List Int)} {r:(List Int)} (hm:mV p0=some r):RetD TP 131 [.sl 1 (p0.map (D.int .i64))] (.sl 1 (r.map (D.int .i64))):=by
 refine .of (mv:=λ_=>false) (aJ (aZ Q) func131 Q ntmps131 Q Q (λwX gX=>?_));unfold mV at hm;refine WN [0] Q Q (aO 6 Q (BE hm λr1 hr1 hm=>tP Q Q Q (uW hr1) Q Q (qHW 5 (.msl 0 1 0 r1.length) Q Q (aG 5 Q (GE hm λg2 hm=>?_)))));refine qEI [0] Q Q Q (by simp) Q Q Q (rH r1 g2) Q Q ?_;refine sQ 3 (kZ r1).length Q (gU _).symm (sQ 6 (kZ r1).length Q (gU _).symm (aG 4 Q (GE hm λg3 hm=>?_)));refine qEI [0] Q Q Q (by simp) Q Q Q (uV (kZ r1) g3) Q Q ?_;refine aE 4 Q ?_;obtain rfl:=OJ hm;exact EndsS.one _ Q (bQ Q) (.refl _)
theorem qAC {p0:(List Int)} {p1:(List Int)} {p2:Bool->Bool->Option Bool} {c2:D} (hf2:∀ a0 a1 r,p2 a0 a1=some r->∃ F cs,qEE c2=some (F,cs)/\RetD TP F ([.bool (a0),.bool (a1)]++cs) (.bool (r))) {r:(List Int)} (hm:iH p0 p1 p2=some r):RetD TP 130 [.sl 1 (p0.map (D.int .i64)),.sl 1 (p1.map (D.int .i64)),c2] (.sl 1 (r.map (D.int .i64))):=by
 refine .of (mv:=λ_=>false) (aJ (aZ Q) func130 Q ntmps130 Q Q (λwX gX=>?_));unfold iH at hm;refine WN [0,1,2] Q Q (aO 5 Q (cM (f:=(D.int .i64)) 0 3 1 Q Q Q (aL 2 Q (aP hm (λb1=>([(7,.msl 0 1 0 b1.length)])) (λb1=>([(0,.flat 3 1 (b1.map (D.int .i64)))])) [7] [] Q (λz2 hm=>?_) (λb1 hm=>?_)))))
 ·refine bN 1 Q (aV hm (λ(a8,b9,b10)=>([(0,.d (.sl 1 (a8.map (D.int .i64)))),(1,.d (.sl 1 (b9.map (D.int .i64)))),(7,.msl 0 1 0 b10.length)])) (λ(a8,b9,b10)=>([(0,.flat 3 1 (b10.map (D.int .i64)))])) [0,1,7] [2] [0] Q k0 Q Q Q Q Q (λs z11 hm hz11=>?_));obtain⟨a8,b9,b10⟩:=s;refine WN [0,1,2,7] Q Q (bN 1 Q ?_);refine cI [(18,.d (.bool (((decide ((0:Int) < (a8.length:Int)))||(decide ((0:Int) < (b9.length:Int)))))))] [18] [0,1,2,7] Q ?_ ?_
  ·refine aO 2 Q (SX Q Q (aN TK Q Q Q) (aG 1 Q (SB TK Q (λq12 hq12=>?_))));cases q12
   ·refine aG 1 Q (SX Q Q (aN TK Q Q Q) (aE 3 Q ?_));exact⟨[0],Q,k0,aW (aI (aK (by first|(simp [hq12];done)|(simp only [hq12];simp))) Q) Q⟩
   refine aE 5 Q ?_;exact⟨[0],Q,k0,aW (aI (aK (by first|(simp [hq12];done)|(simp only [hq12];simp))) Q) Q⟩
  refine WN [0,1,2,7,18] Q Q (bH hm Q (λh13 hm=>?_) (λh13 hm=>?_))
  ·refine bM 3 Q (aP hm (λinA14=>([(8,.d (.bool (inA14)))])) (λinA14=>[]) [8] [0,1,2,7] Q (λz15 hm=>?_) (λinA14 hm=>?_))
   ·refine cJ follows (DA [0] TK Q (DX [0] Q Q (aN TK Q Q Q) (DA [0] TK Q (d_b [0] TK Q (λq16 hq16=>?_)))));cases q16
    ·replace hm:=JF hq16 hm;iterate 13 (refine DA [0] TK Q ?_)
     refine DT ?_ (by kernel_rfl);exact aE 2 Q (aT [0] hm Q Q)
    replace hm:=JT hq16 hm;refine DA [0] TK Q (DX [0] Q Q (aN TK Q Q Q) (DA [0] TK Q (d_b [0] TK Q (λq17 hq17=>?_))));cases q17
    ·replace hm:=JF hq17 hm;refine DA [0] TK Q (VE hm λe18 he18 hm=>DX [0] Q Q (bA TK Q Q Q Q he18) ?_);iterate 2 (refine DA [0] TK Q ?_)
     refine VE hm λe19 he19 hm=>DX [0] Q Q (bA TK Q Q Q Q he19) ?_;iterate 4 (refine DA [0] TK Q ?_)
     refine DT ?_ (by kernel_rfl);exact aE 2 Q (aT [0] hm Q Q)
    replace hm:=JT hq17 hm;iterate 9 (refine DA [0] TK Q ?_)
    refine DT ?_ (by kernel_rfl);exact aE 2 Q (aT [0] hm Q Q)
   refine WN [0,1,2,7,8] Q Q (aP hm (λinB20=>([(9,.d (.bool (inB20)))])) (λinB20=>[]) [9] [0,1,2,7,8] Q (λz21 hm=>?_) (λinB20 hm=>?_))
   ·refine cJ follows (DA [0] TK Q (DX [0] Q Q (aN TK Q Q Q) (DA [0] TK Q (d_b [0] TK Q (λq22 hq22=>?_)))));cases q22
    ·replace hm:=JF hq22 hm;iterate 13 (refine DA [0] TK Q ?_)
     refine DT ?_ (by kernel_rfl);exact aE 2 Q (aT [0] hm Q Q)
    replace hm:=JT hq22 hm;refine DA [0] TK Q (DX [0] Q Q (aN TK Q Q Q) (DA [0] TK Q (d_b [0] TK Q (λq23 hq23=>?_))));cases q23
    ·replace hm:=JF hq23 hm;refine DA [0] TK Q (VE hm λe24 he24 hm=>DX [0] Q Q (bA TK Q Q Q Q he24) ?_);iterate 2 (refine DA [0] TK Q ?_)
     refine VE hm λe25 he25 hm=>DX [0] Q Q (bA TK Q Q Q Q he25) ?_;iterate 4 (refine DA [0] TK Q ?_)
     refine DT ?_ (by kernel_rfl);exact aE 2 Q (aT [0] hm Q Q)
    replace hm:=JT hq23 hm;iterate 9 (refine DA [0] TK Q ?_)
    refine DT ?_ (by kernel_rfl);exact aE 2 Q (aT [0] hm Q Q)
   refine WN [0,1,2,7,8,9] Q Q (bM 4 Q (aP hm (λ(a26,n27)=>([(0,.d (.sl 1 (a26.map (D.int .i64)))),(10,.d (.int .i64 n27))])) (λ(a26,n27)=>[]) [0,10] [1,2,7,8,9] Q (λz28 hm=>?_) (λj hm=>?_)))
   ·refine bN 4 Q (bH hm Q (λh29 hm=>?_) (λh29 hm=>?_))
    ·refine dC follows (DA [0] TK Q (VE hm λe30 he30 hm=>DX [0] Q Q (bA TK Q Q Q Q he30) ?_));iterate 2 (refine DA [0] TK Q ?_)
     refine GE hm λg31 hm=>DX [0] Q Q (yZ TK Q Q Q Q Q g31) (DA [0] TK Q ?_);refine DT ?_ (by kernel_rfl);exact aE 2 Q (aT [0] hm Q Q)
    exact aM 1 Q (aT [0] hm Q Q)
   obtain⟨a26,n27⟩:=j;refine WN [0,1,2,7,8,9,10] Q Q (aP hm (λ(b32,n33)=>([(1,.d (.sl 1 (b32.map (D.int .i64)))),(10,.d (.int .i64 n33))])) (λ(b32,n33)=>[]) [1,10] [0,2,7,8,9] Q (λz34 hm=>?_) (λj hm=>?_))
   ·refine bN 4 Q (bH hm Q (λh35 hm=>?_) (λh35 hm=>?_))
    ·refine dC follows (DA [0] TK Q (VE hm λe36 he36 hm=>DX [0] Q Q (bA TK Q Q Q Q he36) ?_));iterate 2 (refine DA [0] TK Q ?_)
     refine GE hm λg37 hm=>DX [0] Q Q (yZ TK Q Q Q Q Q g37) (DA [0] TK Q ?_);refine DT ?_ (by kernel_rfl);exact aE 2 Q (aT [0] hm Q Q)
    exact aM 1 Q (aT [0] hm Q Q)
   obtain⟨b32,n33⟩:=j;refine WN [0,1,2,7,8,9,10] Q Q (aR 4 Q (BE hm λr38 hr38 hm=>?_));obtain⟨Fr38,csr38,hFr38,hcr38⟩:=hf2 _ _ _ hr38;refine SX Q Q (vL Q Q hFr38 Q hcr38) (aL 2 Q (bH hm Q (λh39 hm=>?_) (λh39 hm=>?_)))
   ·exact aR 3 Q (SX Q Q (cF [.tmp 70] TK Q Q dF Q Q Q Q Q) (GE hm λg40 hm=>cB (f:=(D.int .i64)) ([n33]:List Int) TK Q Q dF Q Q Q Q Q (λh=>absurd h (zQV _)) Q bZ g40 Q Q (aE 3 Q (aX [0] hm Q Q))))
   exact aM 2 Q (aX [0] hm Q Q)
  refine aM 2 Q (IE hm λv41 hm hz=>?_);rw [hz11 _ hz] at hm;exact WX (bD 1 Q (aT [0] hm Q Q))
 refine WN [7] Q Q (aM 6 Q ?_);obtain rfl:=OJ hm;exact EndsS.one _ Q (bQ Q) (.refl _)
theorem qAE {p0:Bool} {p1:Bool} {r:Bool} (hm:dR p0 p1=some r):RetN TP 132 [.bool (p0),.bool (p1)] (.bool (r)):=by
 refine .unit (aJ (aZ Q) func132 Q ntmps132 Q Q (λwX gX=>?_)) Q;unfold dR at hm;refine WN [0,1] Q Q (bN 4 Q (cI [(4,.d (.bool ((p0&&p1))))] [4] [] Q ?_ ?_))
 ·refine aO 2 Q (SB TK Q (λq1 hq1=>?_));cases q1
  ·refine aE 4 Q ?_;exact⟨[],Q,k0,aW (aI (aK (by first|(simp [hq1];done)|(simp only [hq1];simp))) Q) Q⟩
  refine aE 4 Q ?_;exact⟨[],Q,k0,aW (aI (aK (by first|(simp [hq1];done)|(simp only [hq1];simp))) Q) Q⟩
 exact WN [4] Q Q (aM 1 Q (aS hm Q))
theorem qGL {p0:(List Int)} {p1:(List Int)} {r:(List Int)} (hm:mC p0 p1=some r):RetD TP 74 [.sl 1 (p0.map (D.int .i64)),.sl 1 (p1.map (D.int .i64))] (.sl 1 (r.map (D.int .i64))):=by
 refine .of (mv:=λ_=>false) (aJ (aZ Q) func74 Q ntmps74 Q Q (λwX gX=>?_));unfold mC at hm;refine WN [0,1] Q Q (aO 6 Q (c_D hm (qAD ·) Q Q Q Q λr1 hm=>aG 1 Q (c_D hm (qAD ·) Q Q Q Q λr2 hm=>BE hm λr3 hr3 hm=>SX Q Q (RD Q Q Q (qAC (λ_ _ r h=>⟨132,_,Q,(qAE h).retD⟩) hr3)) (aE 4 Q ?_))));obtain rfl:=OJ hm;exact EndsS.one _ Q (.d _) (.refl _)
theorem lP {p0:Av} {p1:Av} {p2:Am} {r:Bool} (hm:dV p0 p1 p2=some r):RetN TP 73 [p0.enc,p1.enc,.ptr (p2.enc) 0] (.bool (r)):=by
 refine .unit (aJ (aZ Q) func73 Q ntmps73 Q Q (λwX gX=>?_)) Q;unfold dV at hm;refine WN [0,1,2] Q Q (aO 1 Q (bR 0 Q Q Q (bR 1 Q Q Q (aL 3 Q (bJ follows ?_)))));iterate 4 (refine DA [0,1] TK Q ?_)
 refine jN [0,1] hm (uL ·) Q Q Q Q λr1 hm=>?_;iterate 4 (refine DA [0,1] TK Q ?_)
 refine jN [0,1] hm (uL ·) Q Q Q Q λr2 hm=>jN [0,1] hm (qGL ·) Q Q Q Q λr3 hm=>DX [0,1] Q Q (aN TK Q Q Q) (DA [0,1] TK Q ?_);refine DT ?_ (by kernel_rfl);exact aL 3 Q (WN [5] Q Q (aM 1 Q (aS hm Q)))
theorem sP {p0:(List Av)} {p1:Av->Av->Option Bool} {p2:Av->Av->Option Ac} {c1:D} (hf1:∀ a0 a1 r,p1 a0 a1=some r->∃ F cs,qEE c1=some (F,cs)/\RetD TP F ([a0.enc,a1.enc]++cs) (.bool (r))) {c2:D} (hf2:∀ a0 a1 r,p2 a0 a1=some r->∃ F cs,qEE c2=some (F,cs)/\RetD TP F ([a0.enc,a1.enc]++cs) (r.enc)) {r:(List Ac)} (hm:dL p0 p1 p2=some r):RetD TP 76 [.sl 32 (p0.map Av.enc),c1,c2] (.sl 3 (r.map Ac.enc)):=by
 refine .of (mv:=λ_=>false) (aJ (aZ Q) func76 Q ntmps76 Q Q (λwX gX=>?_));unfold dL at hm;refine WN [0,1,2] Q Q (aO 5 Q (cM (f:=Ac.enc) 0 83 3 Q Q Q (aL 2 Q (aP hm (λb1=>([(7,.msl 0 3 0 b1.length)])) (λb1=>([(0,.flat 83 3 (b1.map Ac.enc))])) [7] [] Q (λz2 hm=>?_) (λb1 hm=>?_)))))
 ·refine aO 2 Q (SX Q Q (aN TK Q Q Q) (aL 4 Q (aV hm (λ(x6,b7)=>([(7,.msl 0 3 0 b7.length),(14,.d (.int .i64 x6))])) (λ(x6,b7)=>([(0,.flat 83 3 (b7.map Ac.enc))])) [7,14] [0,1,2,12,13] [0] Q k0 Q Q Q Q Q (λs z8 hm hz8=>?_))));obtain⟨x6,b7⟩:=s;refine WN [0,1,2,7,12,13,14] Q Q (bN 5 Q (bL hm Q (λh9 hm=>?_) (λh9 hm=>?_)))
  ·refine bM 2 Q (aP hm (λb10=>([(7,.msl 0 3 0 b10.length)])) (λb10=>([(0,.flat 83 3 (b10.map Ac.enc))])) [7] [0,1,2,12,13,14] Q (λz11 hm=>?_) (λb10 hm=>?_))
   ·refine aO 3 Q (VE hm λe12 he12 hm=>SX Q Q (bA TK Q Q Q Q he12) (aG 1 Q (cK 1 Q Q pK Q (cV 1 [some 3,none,none,none,none,none,none,none,none,none,none,none,none,none,none,none,none,none,none,none,none,none,none,none,some 4,some 2,none,none,none,none,none,none] Q Q (aG 7 Q (GE hm λg13 hm=>SX Q Q (bI Q Q Q Q g13) (GE hm λg14 hm=>SX Q Q (yZ TK Q Q Q Q Q g14) (SX Q Q (aN TK Q Q Q) (aL 4 Q (aV hm (λ(x18,b19)=>([(7,.msl 0 3 0 b19.length),(24,.d (.int .i64 x18))])) (λ(x18,b19)=>([(0,.flat 83 3 (b19.map Ac.enc))])) [7,24] [0,1,2,9,12,13,14,22,23] [0,1] Q k0 Q Q Q Q Q (λs z20 hm hz20=>?_)))))))))));obtain⟨x18,b19⟩:=s;refine WN [0,1,2,7,9,12,13,14,22,23,24] Q Q (bN 5 Q (bL hm Q (λh21 hm=>?_) (λh21 hm=>?_)))
    ·refine aR 5 Q (VE hm λe22 he22 hm=>SX Q Q (bA TK Q Q Q Q he22) (aG 1 Q (cK 2 Q Q pK Q (cV 2 [some 3,none,none,none,none,none,none,none,none,none,none,none,none,none,none,none,none,none,none,none,none,none,none,none,some 4,some 2,none,none,none,none,none,none] Q Q (aG 7 Q (BE hm λr23 hr23 hm=>?_))))));obtain⟨Fr23,csr23,hFr23,hcr23⟩:=hf1 _ _ _ hr23;refine SX Q Q (vL Q Q hFr23 Q hcr23) (aL 2 Q (bH hm Q (λh24 hm=>?_) (λh24 hm=>?_)))
     ·refine aR 5 Q (BE hm λr25 hr25 hm=>?_);obtain⟨Fr25,csr25,hFr25,hcr25⟩:=hf2 _ _ _ hr25;exact SX Q Q (vL Q Q hFr25 Q hcr25) (SX Q Q (cF [.tmp 36] TK Q Q cH Q Q Q Q Q) (GE hm λg26 hm=>cB (f:=Ac.enc) ([r25]:List Ac) TK Q Q cH Q Q Q Q Q (λh=>absurd h (zQV _)) Q bZ g26 Q Q (aL 4 Q (WN [0,1,2,7,9,12,13,14,22,23,24] Q Q (aR 1 Q (GE hm λg27 hm=>SX Q Q (bI Q Q Q Q g27) (aE 2 Q (aX [0,1] hm Q Q))))))))
     exact aR 4 Q (GE hm λg28 hm=>SX Q Q (bI Q Q Q Q g28) (aE 2 Q (aX [0,1] hm Q Q)))
    refine aM 2 Q (IE hm λv29 hm hz=>?_);rw [hz20 _ hz] at hm;exact WX (bD 2 Q (aT [0] hm Q Q))
   exact WN [0,1,2,7,12,13,14] Q Q (aR 1 Q (GE hm λg30 hm=>SX Q Q (bI Q Q Q Q g30) (aE 2 Q (aX [0] hm Q Q))))
  refine aM 2 Q (IE hm λv31 hm hz=>?_);rw [hz8 _ hz] at hm;exact WX (bD 1 Q (aT [0] hm Q Q))
 refine WN [7] Q Q (aM 6 Q ?_);obtain rfl:=OJ hm;exact EndsS.one _ Q (bQ Q) (.refl _)
theorem lO {p0:Av} {p1:Av} {r:Ac} (hm:fW p0 p1=some r):RetN TP 77 [p0.enc,p1.enc] (r.enc):=by
 refine .unit (aJ (aZ Q) func77 Q ntmps77 Q Q (λwX gX=>?_)) Q;unfold fW at hm;refine WN [0,1] Q Q (aO 1 Q (bR 0 Q Q Q (bR 1 Q Q Q (cK 2 Q Q cH Q (aG 11 Q (SX Q Q (bV Q qK cH Q Q Q Q) (aE 4 Q ?_)))))));obtain rfl:=OJ hm;exact EndsS.cellR _ TK Q Q Q Q Q (.d _)
theorem xK {p0:Am} {r:(List Ac)} (hm:dI p0=some r):RetD TP 36 [p0.enc] (.sl 3 (r.map Ac.enc)):=by
 refine .of (mv:=λ_=>false) (aJ (aZ Q) func36 Q ntmps36 Q Q (λwX gX=>?_));unfold dI at hm;refine WN [0] Q Q (aO 1 Q (bR 0 Q Q Q (aL 3 Q (zGU 0 Q Q Q Q Q (aR 9 Q (BE hm λr1 hr1 hm=>SX Q Q (RD Q Q Q (sP (λ_ _ r h=>⟨73,_,Q,(lP h).retD⟩) (λ_ _ r h=>⟨77,_,Q,(lO h).retD⟩) hr1)) (aE 4 Q ?_)))))));obtain rfl:=OJ hm;exact EndsS.one _ Q (.d _) (.refl _)
theorem yM {p0:Int} {r:Bool} (hm:gO p0=some r):RetN TP 37 [.int .i64 p0] (.bool (r)):=by
 refine .unit (aJ (aZ Q) func37 Q ntmps37 Q Q (λwX gX=>?_)) Q;unfold gO at hm;exact WN [0] Q Q (zAA 11 Q (aS hm Q))
theorem eJ {p0:Int} {p1:Int} {r:Bool} (hm:cQ p0 p1=some r):RetN TP 177 [.int .i64 p0,.int .i64 p1] (.bool (r)):=by
 refine .unit (aJ (aZ Q) func177 Q ntmps177 Q Q (λwX gX=>?_)) Q;unfold cQ at hm;refine WN [0,1] Q Q (bN 4 Q (cI [(4,.d (.bool (((decide ((0:Int)<=p0))&&(decide (p0 < p1))))))] [4] [] Q ?_ ?_))
 ·refine aO 3 Q (SB TK Q (λq1 hq1=>?_));cases q1
  ·refine aE 6 Q ?_;exact⟨[],Q,k0,aW (aI (aK (by first|(simp [hq1];done)|(simp only [hq1];simp))) Q) Q⟩
  refine aE 6 Q ?_;exact⟨[],Q,k0,aW (aI (aK (by first|(simp [hq1];done)|(simp only [hq1];simp))) Q) Q⟩
 exact WN [4] Q Q (aM 1 Q (aS hm Q))
theorem xH {p0:Al} {r:Bool} (hm:fU p0=some r):RetN TP 178 [p0.enc] (.bool (r)):=by
 refine .unit (aJ (aZ Q) func178 Q ntmps178 Q Q (λwX gX=>?_)) Q;unfold fU at hm;refine WN [0] Q Q (aO 1 Q (bR 0 Q Q Q (aG 7 Q (SX Q Q (aN TK Q Q Q) (aG 2 Q (SX Q Q (aN TK Q Q Q) (aL 3 Q (eC hm Q (λh1 hm=>?_) (λh1 hm=>?_)))))))))
 ·exact aM 6 Q (aS hm Q)
 refine bM 2 Q (bF hm (λ_=>[]) (λ_=>[]) [] [] Q (λz2 hm hz2=>?_) (λj hm=>?_))
 ·refine aO 3 Q (SX Q Q (aN TK Q Q Q) (aL 4 Q (aV hm (λx4=>([(15,.d (.int .i64 x4))])) (λx4=>[]) [15] [1,13,14] [0] Q k0 Q Q Q Q Q (λx4 z5 hm hz5=>WN [1,13,14,15] Q Q (bN 5 Q (bL hm Q (λh6 hm=>?_) (λh6 hm=>?_)))))))
  ·refine aR 6 Q (VE hm λe7 he7 hm=>SX Q Q (bA TK Q Q Q Q he7) (aL 5 Q (aP hm (λx8=>([(46,.d (.bool (x8)))])) (λx8=>[]) [46] [1,13,14,15] Q (λz9 hm=>?_) (λx8 hm=>?_))))
   ·refine cJ follows ?_;iterate 2 (refine DA [0] TK Q ?_)
    refine d_b [0] TK Q (λq10 hq10=>?_);cases q10
    ·replace hm:=JF hq10 hm;iterate 2 (refine DA [0] TK Q ?_)
     refine d_b [0] TK Q (λq11 hq11=>?_);cases q11
     ·replace hm:=JF hq11 hm;iterate 14 (refine DA [0] TK Q ?_)
      refine VE hm λe12 he12 hm=>DX [0] Q Q (bA TK Q Q Q Q he12) ?_;iterate 3 (refine DA [0] TK Q ?_)
      refine dK [0] hm (eJ ·) Q Q Q Q λr13 hm=>?_;iterate 2 (refine DA [0] TK Q ?_)
      refine DT ?_ (by kernel_rfl);exact aE 1 Q (aT [0] hm Q Q)
     replace hm:=JT hq11 hm;iterate 4 (refine DA [0] TK Q ?_)
     refine GE hm λg14 hm=>DX [0] Q Q (bI Q Q Q Q g14) (VE hm λe15 he15 hm=>DX [0] Q Q (bA TK Q Q Q Q he15) ?_);iterate 4 (refine DA [0] TK Q ?_)
     refine d_b [0] TK Q (λq16 hq16=>?_);cases q16
     ·replace hm:=JF hq16 hm;iterate 3 (refine DA [0] TK Q ?_)
      refine VE hm λe17 he17 hm=>DX [0] Q Q (bA TK Q Q Q Q he17) ?_;iterate 3 (refine DA [0] TK Q ?_)
      refine dK [0] hm (eJ ·) Q Q Q Q λr18 hm=>?_;iterate 2 (refine DA [0] TK Q ?_)
      refine DT ?_ (by kernel_rfl);exact aE 1 Q (aT [0] hm Q Q)
     replace hm:=JT hq16 hm;iterate 10 (refine DA [0] TK Q ?_)
     refine DT ?_ (by kernel_rfl);exact aE 1 Q (aT [0] hm Q Q)
    replace hm:=JT hq10 hm;iterate 24 (refine DA [0] TK Q ?_)
    refine DT ?_ (by kernel_rfl);exact aE 1 Q (aT [0] hm Q Q)
   refine WN [1,13,14,15,46] Q Q (bH hm Q (λh19 hm=>?_) (λh19 hm=>?_))
   ·refine aM 7 Q (IE hm λv20 hm hz=>?_);rw [hz5 _ hz] at hm;refine WR (bD 1 Q (IE hm λv21 hm hz=>?_));rw [hz2 _ hz] at hm;exact WR (aS hm Q)
   exact aR 4 Q (GE hm λg22 hm=>SX Q Q (bI Q Q Q Q g22) (aE 2 Q (aX [0] hm Q Q)))
  refine aM 2 Q (IE hm λv23 hm hz=>?_);rw [hz5 _ hz] at hm;exact WX (bD 1 Q (aX [0] hm Q Q))
 exact WN [] Q Q (aM 5 Q (aS hm Q))
theorem uN (n:Nat) (hn:n<=1000000000) (mv:Nat->Bool):Ret TP 214 [] mv ([.nilsl,.int .i64 n].map .d) (.msl 0 1 0 0) [.flat 3 1 []]:=by
 refine iC (aZ Q) func214 Q ntmps214 Q Q (λwX gX=>bP [0,1] (bE Q (bE Q .nil)) (bU Q) (RS (bY _ Q (eI (.inr Q) Q) (TN (bP [0,1] (bE Q (bE Q .nil)) (bU Q) (TQ (RS (bY _ Q (eI (.inl Q) Q) (bY _ Q (nF Q Q Q Q) (TN (bP [0,1,6] (bE Q (bE Q (bE Q .nil))) (bU Q) (TC _ Q (λhneg=>?_) (λhneg=>?_)))))))))))))
 ·exact absurd (of_decide_eq_true hneg) (by omega)
 refine TS (WT (bP [0,1] (bE Q (bE Q .nil)) (bU Q) (TQ (RS (bY _ Q (eI (.inl Q) Q) (bY _ Q (eI (.inl Q) Q) (bY _ Q (qES Q xP Q) (bY _ Q (eI (.inl Q) Q) (bY _ Q (nE Q xP Q) ?_)))))))));refine bY _ Q (tG (r:=0) Q Q Q Q Q (by first|omega|(constructor<;>omega))) ?_;refine bY _ Q (tG (r:=(n:Int)) Q Q Q Q (by omega) (by first|omega|(constructor<;>omega))) ?_;refine bY _ Q (eI (.inr Q) Q) (TN (bP [0,1] (bE Q (bE Q .nil)) (bU Q) (RS (bY _ Q (eI (.inl Q) Q) (bY _ Q (nF Q Q Q Q) (TN (bP [0,1,16] (bE Q (bE Q (bE Q .nil))) (bU Q) (TC _ Q (λhpos=>?_) (λhpos=>?_)))))))))
 ·have hpos:0 < n:=by simpa using hpos
  refine TG (bY _ Q (eI (.inl Q) Q) (bY _ Q (eI (.inl Q) Q) (bY _ Q (qES Q xP Q) (bY _ Q (qVE Q xP Q Q Q) (bY _ Q (eI (.inl Q) Q) ?_)))));refine qUL (n:=n) Q xP Tryz.underlying3 dF Q Q Q hpos (by decide) (by omega) (by omega) ?_;refine bY _ Q (eI (.inl Q) Q) (bY _ Q (nE Q xP Q) (bY _ Q (qFR 0 1 8 0 n 0 0 Q xP Q Q Q (zQW _) (Nat.zero_le _)) (bY _ Q (gM (.inr Q) Q) (TN (WT (bP [0] (dH Q .nil) (cP Q (bU Q)) (RS (bY _ Q (gM (.inl Q) Q) (bY _ Q (gM (.inr Q) Q) (TN (bP [4] (dH Q .nil) (cP Q (bU Q)) (TR ?_))))))))))));exact⟨_,[0],res Q,by decide,λi hi=>absurd hi (zQV i),Q,Q⟩
 refine qDB 0 3 1 Q (TS (WT (bP [0] (dH Q .nil) (cP Q (bU Q)) (RS (bY _ Q (gM (.inl Q) Q) (bY _ Q (gM (.inr Q) Q) (TN (bP [4] (dH Q .nil) (cP Q (bU Q)) (TR ?_)))))))));exact⟨_,[0],res Q,by decide,λi hi=>absurd hi (zQV i),Q,Q⟩
theorem sM (xss:List (List Int)) (hn:xss.length<=1000) (ht:xss.flatten.length<=1000000000) (mv:Nat->Bool):Ret TP 204 [] mv ([.sl 1 (xss.map λl=>.sl 1 (l.map (D.int .i64)))].map .d) (.msl 0 1 0 xss.flatten.length) [.flat 3 1 (xss.flatten.map (D.int .i64))]:=by
 refine iC (aZ Q) func204 Q ntmps204 Q Q (λwX gX=>bP [0] (bE Q .nil) (bU Q) (RS (bY _ Q (eI (.inr Q) Q) (TN (bP [0] (bE Q .nil) (bU Q) (RS (bY _ Q (eI (.inr Q) Q) (TN (bP [0,3] (bE Q (bE Q .nil)) (bU Q) (TQ (RS (bY _ Q (eI (.inl Q) Q) ?_))))))))))));refine bY _ Q (by first|exact qGF Q qJR Q (by first|exact zQC _|rfl)|exact nE Q qJR Q) ?_;refine bY _ Q (eI (.inl Q) Q) (TN (bP [0,3,9,10,11] (bE Q (bE Q (bE Q (bE Q (bE Q .nil))))) (bU Q) (TB ?_)));refine pN (λi=>([(3,.d (.int .i64 ((eR xss i).length:Int))),(11,.d (.int .i64 ((i:Nat):Int)))])) (λi=>[]) (λi=>i<=xss.length) (λi=>xss.length - i) [3,11] [0,9,10] [] 0 (by decide) (λi hi=>absurd hi (zQV i)) (Nat.zero_le _) (bE Q (bE Q (bE Q .nil))) Q (by rw [pH];rfl) (bU Q) Q ?_;rintro i hok;refine bP [3,11,0,9,10] (bE Q (bE Q (bE Q (bE Q (bE Q .nil))))) (bU Q) (RS (bY _ Q (nF Q Q Q Q) (TN (bP [0,3,9,10,11,12] (bE Q (bE Q (bE Q (bE Q (bE Q (bE Q .nil)))))) (bU Q) (TQ (TC _ Q (λhlt=>?_) (λhlt=>?_)))))))
 ·have hlt:i < xss.length:=by simpa using hlt
  obtain⟨x,hx⟩:∃ x,(xss)[i]?=some x:=⟨_,zQR (by first|exact hlt|omega|(simp;omega))⟩;have hs:=xA hx;have hle:=dS xss (i+1);refine TS (WT (bP [0,3,9,10,11] (bE Q (bE Q (bE Q (bE Q (bE Q .nil))))) (bU Q) (TQ (TB (RS (bY _ Q (vX Q qJR Q Q (qEO hx)) (bY _ Q (zZ Q zGR Q Q) (bY _ Q (eI (.inr Q) Q) (TN (bP [0,3,5,9,10,11] (bE Q (bE Q (bE Q (bE Q (bE Q (bE Q .nil)))))) (bU Q) (RS (bY _ Q (eI (.inl Q) Q) (bY _ Q (eI (.inl Q) Q) ?_)))))))))))));refine bY _ Q (by first|exact qGF Q xP Q (by first|exact zQC _|rfl)|exact nE Q xP Q) ?_;refine bY _ Q (tG (r:=((eR xss (i+1)).length:Int)) Q Q Q Q (by rw [hs];simp) (by omega)) ?_;refine bY _ Q (eI (.inr Q) Q) (TN (bP [0,3,9,10,11] (bE Q (bE Q (bE Q (bE Q (bE Q .nil))))) (bU Q) (RS (bY _ Q (eI (.inl Q) Q) (bY _ Q (nF Q Q Q Q) (TN (bP [0,3,9,10,11,20] (bE Q (bE Q (bE Q (bE Q (bE Q (bE Q .nil)))))) (bU Q) (TC _ Q (λhneg=>?_) (λhneg=>?_)))))))))
  ·exact absurd (of_decide_eq_true hneg) (by omega)
  refine TS (WK (WT (bP [0,3,9,10,11] (bE Q (bE Q (bE Q (bE Q (bE Q .nil))))) (bU Q) (TG ?_))));refine bY _ Q (tH Q Q Q Q (by first|omega|(constructor<;>omega))) ?_;refine bY _ Q (eI (.inl Q) Q) (TN (WT ?_));exact⟨(i+1),[],by decide,(λi hi=>absurd hi (zQV i)),(by omega),(by omega),Q⟩
 have hge:¬ i < xss.length:=by simpa using hlt
 have hi:i=xss.length:=by omega
 refine uU (WX (WX (WH (WT (bP [0,3] (bE Q (bE Q .nil)) (bU Q) (RS (bY _ Q (eI (.inl Q) Q) ?_)))))));refine tP Q Q Q (uN _ (by have:=dS xss i;omega) (λ_=>false)) Q Q ?_;refine bY _ Q (gM (.inr Q) Q) (TN (bP [0,6] (bE Q (dH Q .nil)) (cP Q (bU Q)) (TQ (RS (bY _ Q (eI (.inl Q) Q) ?_)))));refine bY _ Q (by first|exact qGF Q qJR Q (by first|exact zQC _|rfl)|exact nE Q qJR Q) ?_;refine bY _ Q (eI (.inl Q) Q) (TN (bP [6,25,26,27] (dH Q (bE Q (bE Q (bE Q .nil)))) (cP Q (bU Q)) (TB ?_)));refine pN (λi=>([(6,.msl 0 1 0 (eR xss i).length),(27,.d (.int .i64 ((i:Nat):Int)))])) (λi=>([(0,.flat 3 1 ((eR xss i).map (D.int .i64)))])) (λi=>i<=xss.length) (λi=>xss.length - i) [6,27] [25,26] [0] 0 (by decide) (λi hi=>absurd hi (zQV i)) (Nat.zero_le _) (bE Q (bE Q .nil)) Q (by rw [pH];rfl) (cP Q (bU Q)) (by rw [pH];rfl) ?_;rintro i hok;refine bP [6,27,25,26] (dH Q (bE Q (bE Q (bE Q .nil)))) (cP Q (bU Q)) (RS (bY _ Q (nF Q Q Q Q) (TN (bP [6,25,26,27,28] (dH Q (bE Q (bE Q (bE Q (bE Q .nil))))) (cP Q (bU Q)) (TQ (TC _ Q (λhlt=>?_) (λhlt=>?_)))))))
 ·have hlt:i < xss.length:=by simpa using hlt
  obtain⟨x,hx⟩:∃ x,(xss)[i]?=some x:=⟨_,zQR (by first|exact hlt|omega|(simp;omega))⟩;have hs:=xA hx;have hle:=dS xss (i+1);have hsl:(eR xss (i+1)).length=(eR xss i).length+x.length:=by rw [hs];simp
  refine TS (WT (bP [6,25,26,27] (dH Q (bE Q (bE Q (bE Q .nil)))) (cP Q (bU Q)) (TQ (TB (RS (bY _ Q (vX Q qJR Q Q (qEO hx)) (bY _ Q (zZ Q zGR Q Q) (bY _ Q (eI (.inr Q) Q) (TN (bP [6,8,25,26,27] (dH Q (bE Q (bE Q (bE Q (bE Q .nil))))) (cP Q (bU Q)) (TG (bY _ Q (gM (.inl Q) Q) (bY _ Q (eI (.inl Q) Q) ?_)))))))))))));refine qFE (m:=(eR xss (i+1)).length) (ds:=x.map (D.int .i64)) (es':=(eR xss (i+1)).map (D.int .i64)) Q xP dF Q Q Q (by simp) (λh=>absurd h (zQV _)) Q ⟨Q,(by first|rfl|(simp [List.map_take,List.map_drop];done)|(rw [<- List.map_drop,List.take_of_length_le (by simp)]))⟩ (by rw [hs];simp) (by simp;omega) (by omega) (by omega) Q Q ?_;refine bY _ Q (gM (.inr Q) Q) (TN (WK (WT (bP [6,25,26,27] (dH Q (bE Q (bE Q (bE Q .nil)))) (cP Q (bU Q)) (TG ?_)))));refine bY _ Q (tH Q Q Q Q (by first|omega|(constructor<;>omega))) ?_;refine bY _ Q (eI (.inl Q) Q) (TN (WT ?_));exact⟨(i+1),[0],by decide,(λi hi=>absurd hi (zQV i)),(by omega),(by omega),Q⟩
 have hge:¬ i < xss.length:=by simpa using hlt
 have hi:i=xss.length:=by omega
 have hall:=qQG hge;refine uU (WX (WX (WH (WT (bP [6] (dH Q .nil) (cP Q (bU Q)) (RS (bY _ Q (gM (.inl Q) Q) (bY _ Q (gM (.inr Q) Q) (TN (bP [2] (dH Q .nil) (cP Q (bU Q)) (TR ?_)))))))))));rw [hall];exact⟨_,[0],res Q,by decide,λi hi=>absurd hi (zQV i),Q,Q⟩
theorem xJ {p0:List (List Int)} {r:List Int} (hm:iO p0=some r):RetN TP 204 [.sl 1 (p0.map (λl=>D.sl 1 (l.map (D.int .i64))))] (.sl 1 (r.map (D.int .i64))):=by
 unfold iO at hm;refine GE hm λg hm=>?_;obtain rfl:=OJ hm;exact .flat (sM p0 g.1 g.2 (λ_=>false)) (by rw [zQC]) (λe he=>by obtain⟨x,_,rfl⟩:=List.mem_map.1 he;rfl)
theorem yI {p0:Al} {p1:Ai} {r:Bool} (hm:fA p0 p1=some r):RetN TP 179 [p0.enc,p1.enc] (.bool (r)):=by
 refine .unit (aJ (aZ Q) func179 Q ntmps179 Q Q (λwX gX=>?_)) Q;unfold fA at hm;refine WN [0,1] Q Q (aO 1 Q (bR 0 Q Q Q (bR 1 Q Q Q (aL 4 Q (aP hm (λx1=>([(26,.d (.bool (x1)))])) (λx1=>[]) [26] [2,3] Q (λz2 hm=>?_) (λx1 hm=>?_))))))
 ·refine aO 5 Q (c_N hm (eJ ·) Q Q Q Q λr3 hm=>aG 1 Q (SB TK Q (λq4 hq4=>?_)));cases q4
  ·replace hm:=JB hq4 hm;refine aG 3 Q (SB TK Q (λq5 hq5=>?_));cases q5
   ·replace hm:=eM hq5 hm;exact aE 9 Q (aT [0,1] hm Q Q)
   replace hm:=eL hq5 hm;exact aG 4 Q (c_N hm (eJ ·) Q Q Q Q λr6 hm=>aE 4 Q (aT [0,1] hm Q Q))
  replace hm:=JA hq4 hm;exact aE 13 Q (aT [0,1] hm Q Q)
 refine WN [2,3,26] Q Q (bH hm Q (λh7 hm=>?_) (λh7 hm=>?_))
 ·exact aM 6 Q (aS hm Q)
 refine bM 3 Q ?_;refine cI [(42,.d (.bool (((decide ((p1.path.length:Int) < (1:Int)))||((decide ((12:Int) < (p1.path.length:Int)))||(decide ((p1.Ad.length:Int)=(0:Int))))))))] [42] [2,3] Q ?_ ?_
 ·refine aO 3 Q (SX Q Q (aN TK Q Q Q) (aG 1 Q (SB TK Q (λq8 hq8=>?_))));cases q8
  ·refine aG 2 Q (SX Q Q (aN TK Q Q Q) (aG 2 Q (SB TK Q (λq9 hq9=>?_))));cases q9
   ·refine aG 2 Q (SX Q Q (aN TK Q Q Q) (aE 3 Q ?_));exact⟨[0,1],Q,k0,aW (aI (aK (by first|(simp [hq8,hq9];done)|(simp only [hq8,hq9];simp))) Q) Q⟩
   refine aE 6 Q ?_;exact⟨[0,1],Q,k0,aW (aI (aK (by first|(simp [hq8,hq9];done)|(simp only [hq8,hq9];simp))) Q) Q⟩
  refine aE 12 Q ?_;exact⟨[0,1],Q,k0,aW (aI (aK (by first|(simp [hq8];done)|(simp only [hq8];simp))) Q) Q⟩
 refine WN [2,3,42] Q Q (bH hm Q (λh10 hm=>?_) (λh10 hm=>?_))
 ·exact aM 6 Q (aS hm Q)
 refine aR 3 Q (s_ala (f:=D.bool) (x:=false) 2 23 Q Q zCS Q Q Q (aL 2 Q (bF hm (λb11=>[]) (λb11=>([(2,.flat 281 1 (b11.map D.bool))])) [] [2,3] Q (λz12 hm hz12=>?_) (λb11 hm=>?_))))
 ·refine aO 5 Q (SX Q Q (cF [.tmp 44,.tmp 46] TK Q Q qYY Q Q Q Q Q) (c_N hm (xJ ·) Q Q Q Q λr13 hm=>SX Q Q (aN TK Q Q Q) (aL 4 Q (aV hm (λ(x17,b18)=>([(50,.d (.int .i64 x17))])) (λ(x17,b18)=>([(2,.flat 281 1 (b18.map D.bool))])) [50] [2,3,5,48,49] [0,1,2] Q k0 Q Q Q Q Q (λs z19 hm hz19=>?_)))));obtain⟨x17,b18⟩:=s;refine WN [2,3,5,48,49,50] Q Q (bN 5 Q (bL hm Q (λh20 hm=>?_) (λh20 hm=>?_)))
  ·refine aR 5 Q (VE hm λe21 he21 hm=>SX Q Q (bA TK Q Q Q Q he21) (aL 5 Q (aP hm (λx22=>([(63,.d (.bool (x22)))])) (λx22=>[]) [63] [2,3,5,7,48,49,50] Q (λz23 hm=>?_) (λx22 hm=>?_))))
   ·refine aO 4 Q (c_N hm (eJ ·) Q Q Q Q λr24 hm=>aG 1 Q (SB TK Q (λq25 hq25=>?_)));cases q25
    ·replace hm:=JB hq25 hm;exact aG 1 Q (GE hm λg27 hm=>VE hm λe26 he26 hm=>SX Q Q (zGI Q qVV Q Q he26 g27) (SX Q Q (pL TK Q Q Q Q he26.2 Q) (aE 2 Q (aT [0,1,2] hm Q Q))))
    replace hm:=JA hq25 hm;exact aE 5 Q (aT [0,1,2] hm Q Q)
   refine WN [2,3,5,7,48,49,50,63] Q Q (bH hm Q (λh28 hm=>?_) (λh28 hm=>?_))
   ·refine aM 8 Q (IE hm λv29 hm hz=>?_);rw [hz19 _ hz] at hm;refine WR (bD 1 Q (IE hm λv30 hm hz=>?_));rw [hz12 _ hz] at hm;exact WR (aS hm Q)
   exact aR 4 Q (GE hm λg32 hm=>VE hm λe31 he31 hm=>SX Q Q (zGI Q qVV Q Q he31 g32) (qNX (x':=true) TK Q Q Q Q Q he31.2 Q Q Q (aG 4 Q (GE hm λg33 hm=>SX Q Q (bI Q Q Q Q g33) (aE 2 Q (aX [0,1,2] hm Q Q))))))
  refine aM 2 Q (IE hm λv34 hm hz=>?_);rw [hz19 _ hz] at hm;exact WX (bD 1 Q (aX [0,1,2] hm Q Q))
 refine WN [2,3] Q Q (aP hm (λx35=>([(4,.d (.bool (x35)))])) (λx35=>[]) [4] [] Q (λz36 hm=>?_) (λx35 hm=>?_))
 ·refine aO 5 Q (c_N hm (eJ ·) Q Q Q Q λr37 hm=>SB TK Q (λq38 hq38=>?_));cases q38
  ·replace hm:=JB hq38 hm;exact aE 6 Q (aT [0,1,2] hm Q Q)
  replace hm:=JA hq38 hm;exact aE 6 Q (aT [0,1,2] hm Q Q)
 exact WN [4] Q Q (aM 1 Q (aS hm Q))
theorem pR {p0:(List Int)} {p1:Int} {r:Int} (hm:fB p0 p1=some r):RetN TP 143 [.sl 1 (p0.map (D.int .i64)),.int .i64 p1] (.int .i64 r):=by
 refine .unit (aJ (aZ Q) func143 Q ntmps143 Q Q (λwX gX=>?_)) Q;unfold fB at hm;refine WN [0,1] Q Q (bN 4 Q (bF hm (λ_=>[]) (λ_=>[]) [] [] Q (λz1 hm hz1=>?_) (λj hm=>?_)))
 ·refine aO 2 Q (SX Q Q (aN TK Q Q Q) (aL 4 Q (aV hm (λx3=>([(8,.d (.int .i64 x3))])) (λx3=>[]) [8] [0,1,7] [] Q k0 Q Q Q Q Q (λx3 z4 hm hz4=>WN [0,1,7,8] Q Q (bN 5 Q (bL hm Q (λh5 hm=>?_) (λh5 hm=>?_)))))))
  ·refine aR 13 Q (VE hm λe6 he6 hm=>SX Q Q (bA TK Q Q Q Q he6) (aL 4 Q (bL hm Q (λh7 hm=>?_) (λh7 hm=>?_))))
   ·refine aM 8 Q (IE hm λv8 hm hz=>?_);rw [hz4 _ hz] at hm;refine WR (bD 1 Q (IE hm λv9 hm hz=>?_));rw [hz1 _ hz] at hm;exact WR (aS hm Q)
   exact aR 4 Q (GE hm λg10 hm=>SX Q Q (bI Q Q Q Q g10) (aE 2 Q (aX [] hm Q Q)))
  refine aM 2 Q (IE hm λv11 hm hz=>?_);rw [hz4 _ hz] at hm;exact WX (bD 1 Q (aX [] hm Q Q))
 exact WN [] Q Q (aM 5 Q (aS hm Q))
theorem jZ {p0:Al} {p1:Int} {r:Int} (hm:fV p0 p1=some r):RetN TP 82 [p0.enc,.int .i64 p1] (.int .i64 r):=by
 refine .unit (aJ (aZ Q) func82 Q ntmps82 Q Q (λwX gX=>?_)) Q;unfold fV at hm;exact WN [0,1] Q Q (aO 1 Q (bR 0 Q Q Q (aG 7 Q (c_N hm (pR ·) Q Q Q Q λr1 hm=>aE 4 Q (aS hm Q)))))
theorem iL {p0:Al} {p1:(List Aa)} {r:Bool} (hm:cL p0 p1=some r):RetN TP 180 [p0.enc,.sl 2 (p1.map Aa.enc)] (.bool (r)):=by
 refine .unit (aJ (aZ Q) func180 Q ntmps180 Q Q (λwX gX=>?_)) Q;unfold cL at hm;refine WN [0,1] Q Q (aO 1 Q (bR 0 Q Q Q (aL 3 Q (bF hm (λ_=>[]) (λ_=>[]) [] [] Q (λz1 hm hz1=>?_) (λj hm=>?_)))))
 ·refine aO 2 Q (SX Q Q (aN TK Q Q Q) (aL 4 Q (aV hm (λx3=>([(9,.d (.int .i64 x3))])) (λx3=>[]) [9] [1,2,7,8] [0] Q k0 Q Q Q Q Q (λx3 z4 hm hz4=>WN [1,2,7,8,9] Q Q (bN 5 Q (bL hm Q (λh5 hm=>?_) (λh5 hm=>?_)))))))
  ·refine aR 6 Q (VE hm λe6 he6 hm=>SX Q Q (bA TK Q Q Q Q he6) (aG 1 Q (cK 1 Q Q bX Q (aL 5 Q (aP hm (λx7=>([(33,.d (.bool (x7)))])) (λx7=>[]) [33] [1,2,6,7,8,9] Q (λz8 hm=>?_) (λx7 hm=>?_))))))
   ·refine cJ follows ?_;iterate 2 (refine DA [0,1] TK Q ?_)
    refine d_b [0,1] TK Q (λq9 hq9=>?_);cases q9
    ·replace hm:=JF hq9 hm;iterate 14 (refine DA [0,1] TK Q ?_)
     refine dK [0,1] hm (jZ ·) Q Q Q Q λr10 hm=>?_;iterate 2 (refine DA [0,1] TK Q ?_)
     refine DT ?_ (by kernel_rfl);exact aE 1 Q (aT [0,1] hm Q Q)
    replace hm:=JT hq9 hm;iterate 4 (refine DA [0,1] TK Q ?_)
    refine GE hm λg11 hm=>DX [0,1] Q Q (bI Q Q Q Q g11) (VE hm λe12 he12 hm=>DX [0,1] Q Q (bA TK Q Q Q Q he12) ?_);iterate 4 (refine DA [0,1] TK Q ?_)
    refine d_b [0,1] TK Q (λq13 hq13=>?_);cases q13
    ·replace hm:=JF hq13 hm;iterate 3 (refine DA [0,1] TK Q ?_)
     refine dK [0,1] hm (jZ ·) Q Q Q Q λr14 hm=>?_;iterate 2 (refine DA [0,1] TK Q ?_)
     refine DT ?_ (by kernel_rfl);exact aE 1 Q (aT [0,1] hm Q Q)
    replace hm:=JT hq13 hm;iterate 6 (refine DA [0,1] TK Q ?_)
    refine DT ?_ (by kernel_rfl);exact aE 1 Q (aT [0,1] hm Q Q)
   refine WN [1,2,6,7,8,9,33] Q Q (bH hm Q (λh15 hm=>?_) (λh15 hm=>?_))
   ·refine aM 8 Q (IE hm λv16 hm hz=>?_);rw [hz4 _ hz] at hm;refine WR (bD 1 Q (IE hm λv17 hm hz=>?_));rw [hz1 _ hz] at hm;exact WR (aS hm Q)
   refine bM 2 Q (cI [(41,.d (.bool (((!(decide (e6.pos=(1:Int))))&&(!(decide (e6.pos=(2:Int))))))))] [41] [1,2,7,8,9] Q ?_ ?_)
   ·refine aO 4 Q (SB TK Q (λq18 hq18=>?_));cases q18
    ·refine aE 5 Q ?_;exact⟨[0,1],Q,k0,aW (aI (aK (by first|(simp [hq18];done)|(simp only [hq18];simp))) Q) Q⟩
    refine aE 5 Q ?_;exact⟨[0,1],Q,k0,aW (aI (aK (by first|(simp [hq18];done)|(simp only [hq18];simp))) Q) Q⟩
   refine WN [1,2,7,8,9,41] Q Q (bH hm Q (λh19 hm=>?_) (λh19 hm=>?_))
   ·refine aM 7 Q (IE hm λv20 hm hz=>?_);rw [hz4 _ hz] at hm;refine WR (bD 1 Q (IE hm λv21 hm hz=>?_));rw [hz1 _ hz] at hm;exact WR (aS hm Q)
   exact aR 4 Q (GE hm λg22 hm=>SX Q Q (bI Q Q Q Q g22) (aE 2 Q (aX [0] hm Q Q)))
  refine aM 2 Q (IE hm λv23 hm hz=>?_);rw [hz4 _ hz] at hm;exact WX (bD 1 Q (aX [0] hm Q Q))
 exact WN [] Q Q (aM 5 Q (aS hm Q))
theorem mW {p0:(List Aa)} {p1:(List Aa)} {r:Bool} (hm:dQ p0 p1=some r):RetN TP 181 [.sl 2 (p0.map Aa.enc),.sl 2 (p1.map Aa.enc)] (.bool (r)):=by
 refine .unit (aJ (aZ Q) func181 Q ntmps181 Q Q (λwX gX=>?_)) Q;unfold dQ at hm;refine WN [0,1] Q Q (bN 4 Q (bF hm (λ_=>[]) (λ_=>[]) [] [] Q (λz1 hm hz1=>?_) (λj hm=>?_)))
 ·refine aO 2 Q (SX Q Q (aN TK Q Q Q) (aL 4 Q (aV hm (λx3=>([(11,.d (.int .i64 x3))])) (λx3=>[]) [11] [1,9,10] [] Q k0 Q Q Q Q Q (λx3 z4 hm hz4=>WN [1,9,10,11] Q Q (bN 5 Q (bL hm Q (λh5 hm=>?_) (λh5 hm=>?_)))))))
  ·refine bM 2 Q (bF hm (λ_=>[]) (λ_=>[]) [] [1,9,10,11] Q (λz6 hm hz6=>?_) (λj hm=>?_))
   ·refine aO 2 Q (VE hm λe7 he7 hm=>SX Q Q (bA TK Q Q Q Q he7) (aG 1 Q (cK 0 Q Q bX Q (aG 5 Q (SX Q Q (aN TK Q Q Q) (aL 4 Q (aV hm (λx9=>([(17,.d (.int .i64 x9))])) (λx9=>[]) [17] [1,6,9,10,11,15,16] [0] Q k0 Q Q Q Q Q (λx9 z10 hm hz10=>WN [1,6,9,10,11,15,16,17] Q Q (bN 5 Q (bL hm Q (λh11 hm=>?_) (λh11 hm=>?_)))))))))))
    ·refine aR 5 Q (VE hm λe12 he12 hm=>SX Q Q (bA TK Q Q Q Q he12) (aG 1 Q (cK 1 Q Q bX Q (aL 3 Q (cI [(32,.d (.bool (((decide (e7.el=e12.el))&&(!(decide (e7.pos=e12.pos)))))))] [32] [1,6,9,10,11,15,16,17] Q ?_ ?_)))))
     ·refine aO 6 Q (SB TK Q (λq13 hq13=>?_));cases q13
      ·refine aE 7 Q ?_;exact⟨[0,1],Q,k0,aW (aI (aK (by first|(simp [hq13];done)|(simp only [hq13];simp))) Q) Q⟩
      refine aE 7 Q ?_;exact⟨[0,1],Q,k0,aW (aI (aK (by first|(simp [hq13];done)|(simp only [hq13];simp))) Q) Q⟩
     refine WN [1,6,9,10,11,15,16,17,32] Q Q (bH hm Q (λh14 hm=>?_) (λh14 hm=>?_))
     ·refine aM 7 Q (IE hm λv15 hm hz=>?_);rw [hz10 _ hz] at hm;refine WR (bD 2 Q (IE hm λv16 hm hz=>?_));rw [hz6 _ hz] at hm;refine WR (IE hm λv17 hm hz=>?_);rw [hz4 _ hz] at hm;refine WR (bD 1 Q (IE hm λv18 hm hz=>?_));rw [hz1 _ hz] at hm;exact WR (aS hm Q)
     exact aR 4 Q (GE hm λg19 hm=>SX Q Q (bI Q Q Q Q g19) (aE 2 Q (aX [0] hm Q Q)))
    refine aM 2 Q (IE hm λv20 hm hz=>?_);rw [hz10 _ hz] at hm;exact WX (bD 2 Q (aX [] hm Q Q))
   exact WN [1,9,10,11] Q Q (aR 1 Q (GE hm λg21 hm=>SX Q Q (bI Q Q Q Q g21) (aE 2 Q (aX [] hm Q Q))))
  refine aM 2 Q (IE hm λv22 hm hz=>?_);rw [hz4 _ hz] at hm;exact WX (bD 1 Q (aX [] hm Q Q))
 exact WN [] Q Q (aM 5 Q (aS hm Q))
theorem qHU {p0:Al} {r:Int} (hm:nI p0=some r):RetN TP 135 [p0.enc] (.int .i64 r):=by
 refine .unit (aJ (aZ Q) func135 Q ntmps135 Q Q (λwX gX=>?_)) Q;unfold nI at hm;refine WN [0] Q Q (aO 1 Q (bR 0 Q Q Q (aL 4 Q (aP hm (λx1=>([(33,.d (.bool (x1)))])) (λx1=>[]) [33] [1] Q (λz2 hm=>?_) (λx1 hm=>?_)))))
 ·refine aO 3 Q (SX Q Q (aN TK Q Q Q) (aG 1 Q (SB TK Q (λq3 hq3=>?_))));cases q3
  ·replace hm:=JF hq3 hm;refine aG 2 Q (SX Q Q (aN TK Q Q Q) (aG 2 Q (SB TK Q (λq4 hq4=>?_))));cases q4
   ·replace hm:=JF hq4 hm;refine aG 2 Q (c_N hm (eJ ·) Q Q Q Q λr5 hm=>aG 2 Q (SB TK Q (λq6 hq6=>?_)));cases q6
    ·replace hm:=JB hq6 hm;exact aG 2 Q (c_N hm (eJ ·) Q Q Q Q λr7 hm=>aE 3 Q (aT [0] hm Q Q))
    replace hm:=JA hq6 hm;exact aE 6 Q (aT [0] hm Q Q)
   replace hm:=JT hq4 hm;exact aE 12 Q (aT [0] hm Q Q)
  replace hm:=JT hq3 hm;exact aE 18 Q (aT [0] hm Q Q)
 refine WN [1,33] Q Q (bH hm Q (λh8 hm=>?_) (λh8 hm=>?_))
 ·exact aM 6 Q (aS hm Q)
 refine aR 5 Q (c_N hm (xH ·) Q Q Q Q λr9 hm=>aL 3 Q (bH hm Q (λh10 hm=>?_) (λh10 hm=>?_)))
 ·exact aM 6 Q (aS hm Q)
 refine bM 2 Q (bF hm (λ_=>[]) (λ_=>[]) [] [1] Q (λz11 hm hz11=>?_) (λj hm=>?_))
 ·refine aO 3 Q (SX Q Q (aN TK Q Q Q) (aL 4 Q (aV hm (λx13=>([(40,.d (.int .i64 x13))])) (λx13=>[]) [40] [1,38,39] [0] Q k0 Q Q Q Q Q (λx13 z14 hm hz14=>WN [1,38,39,40] Q Q (bN 5 Q (bL hm Q (λh15 hm=>?_) (λh15 hm=>?_)))))))
  ·refine aR 5 Q (VE hm λe16 he16 hm=>SX Q Q (bA TK Q Q Q Q he16) (aG 1 Q (cK 1 Q Q dY Q (cV 1 [none,none,none,some 3,some 2,some 1,none,none,some 3,some 2,some 1,some 2,some 1,some 2] Q Q (aG 6 Q (c_N hm (yI ·) Q Q Q Q λr17 hm=>aL 3 Q (bH hm Q (λh18 hm=>?_) (λh18 hm=>?_))))))))
   ·refine aM 7 Q (IE hm λv19 hm hz=>?_);rw [hz14 _ hz] at hm;refine WR (bD 1 Q (IE hm λv20 hm hz=>?_));rw [hz11 _ hz] at hm;exact WR (aS hm Q)
   exact aR 4 Q (GE hm λg21 hm=>SX Q Q (bI Q Q Q Q g21) (aE 2 Q (aX [0] hm Q Q)))
  refine aM 2 Q (IE hm λv22 hm hz=>?_);rw [hz14 _ hz] at hm;exact WX (bD 1 Q (aX [0] hm Q Q))
 refine WN [1] Q Q (bF hm (λ_=>[]) (λ_=>[]) [] [1] Q (λz23 hm hz23=>?_) (λj hm=>?_))
 ·refine aO 3 Q (SX Q Q (aN TK Q Q Q) (aL 4 Q (aV hm (λx25=>([(52,.d (.int .i64 x25))])) (λx25=>[]) [52] [1,50,51] [0] Q k0 Q Q Q Q Q (λx25 z26 hm hz26=>WN [1,50,51,52] Q Q (bN 5 Q (bL hm Q (λh27 hm=>?_) (λh27 hm=>?_)))))))
  ·refine aR 5 Q (VE hm λe28 he28 hm=>SX Q Q (bA TK Q Q Q Q he28) (aG 1 Q (cK 1 Q Q dY Q (cV 1 [none,none,none,some 3,some 2,some 1,none,none,some 3,some 2,some 1,some 2,some 1,some 2] Q Q (aL 3 Q (aP hm (λx29=>([(74,.d (.bool (x29)))])) (λx29=>[]) [74] [1,50,51,52] Q (λz30 hm=>?_) (λx29 hm=>?_)))))))
   ·refine aO 4 Q (c_N hm (iL ·) Q Q Q Q λr31 hm=>aG 1 Q (SB TK Q (λq32 hq32=>?_)));cases q32
    ·replace hm:=JB hq32 hm;refine aG 3 Q (c_N hm (iL ·) Q Q Q Q λr33 hm=>aG 2 Q (SB TK Q (λq34 hq34=>?_)));cases q34
     ·replace hm:=JB hq34 hm;exact aG 3 Q (c_N hm (iL ·) Q Q Q Q λr35 hm=>aE 3 Q (aT [0,1] hm Q Q))
     replace hm:=JA hq34 hm;exact aE 7 Q (aT [0,1] hm Q Q)
    replace hm:=JA hq32 hm;exact aE 14 Q (aT [0,1] hm Q Q)
   refine WN [1,50,51,52,74] Q Q (bH hm Q (λh36 hm=>?_) (λh36 hm=>?_))
   ·refine aM 7 Q (IE hm λv37 hm hz=>?_);rw [hz26 _ hz] at hm;refine WR (bD 1 Q (IE hm λv38 hm hz=>?_));rw [hz23 _ hz] at hm;exact WR (aS hm Q)
   exact aR 4 Q (GE hm λg39 hm=>SX Q Q (bI Q Q Q Q g39) (aE 2 Q (aX [0] hm Q Q)))
  refine aM 2 Q (IE hm λv40 hm hz=>?_);rw [hz26 _ hz] at hm;exact WX (bD 1 Q (aX [0] hm Q Q))
 refine WN [1] Q Q (bF hm (λ_=>[]) (λ_=>[]) [] [1] Q (λz41 hm hz41=>?_) (λj hm=>?_))
 ·refine aO 3 Q (SX Q Q (aN TK Q Q Q) (aL 4 Q (aV hm (λx43=>([(79,.d (.int .i64 x43))])) (λx43=>[]) [79] [1,77,78] [0] Q k0 Q Q Q Q Q (λx43 z44 hm hz44=>WN [1,77,78,79] Q Q (bN 5 Q (bL hm Q (λh45 hm=>?_) (λh45 hm=>?_)))))))
  ·refine aR 5 Q (VE hm λe46 he46 hm=>SX Q Q (bA TK Q Q Q Q he46) (aG 1 Q (cK 1 Q Q dY Q (cV 1 [none,none,none,some 3,some 2,some 1,none,none,some 3,some 2,some 1,some 2,some 1,some 2] Q Q (aL 3 Q (aP hm (λx47=>([(104,.d (.bool (x47)))])) (λx47=>[]) [104] [1,77,78,79] Q (λz48 hm=>?_) (λx47 hm=>?_)))))))
   ·refine aO 5 Q (c_N hm (mW ·) Q Q Q Q λr49 hm=>aG 1 Q (SB TK Q (λq50 hq50=>?_)));cases q50
    ·replace hm:=JB hq50 hm;refine aG 4 Q (c_N hm (mW ·) Q Q Q Q λr51 hm=>aG 2 Q (SB TK Q (λq52 hq52=>?_)));cases q52
     ·replace hm:=JB hq52 hm;exact aG 4 Q (c_N hm (mW ·) Q Q Q Q λr53 hm=>aE 3 Q (aT [0,1] hm Q Q))
     replace hm:=JA hq52 hm;exact aE 8 Q (aT [0,1] hm Q Q)
    replace hm:=JA hq50 hm;exact aE 16 Q (aT [0,1] hm Q Q)
   refine WN [1,77,78,79,104] Q Q (bH hm Q (λh54 hm=>?_) (λh54 hm=>?_))
   ·refine aM 7 Q (IE hm λv55 hm hz=>?_);rw [hz44 _ hz] at hm;refine WR (bD 1 Q (IE hm λv56 hm hz=>?_));rw [hz41 _ hz] at hm;exact WR (aS hm Q)
   exact aR 4 Q (GE hm λg57 hm=>SX Q Q (bI Q Q Q Q g57) (aE 2 Q (aX [0] hm Q Q)))
  refine aM 2 Q (IE hm λv58 hm hz=>?_);rw [hz44 _ hz] at hm;exact WX (bD 1 Q (aX [0] hm Q Q))
 refine WN [1] Q Q (aR 1 Q (wQ 9 4 Q (qHW 106 (.mmap 1) Q Q (aL 3 Q (bF hm (λm59=>[]) (λm59=>([(1,.map 9 4 (dE D.str D.bool m59))])) [] [] Q (λz60 hm hz60=>?_) (λm59 hm=>?_))))))
 ·refine aO 3 Q (SX Q Q (aN TK Q Q Q) (aL 4 Q (aV hm (λ(x64,b65)=>([(110,.d (.int .i64 x64))])) (λ(x64,b65)=>([(1,.map 9 4 (dE D.str D.bool b65))])) [110] [9,108,109] [0,1] Q k0 Q Q Q Q Q (λs z66 hm hz66=>?_))));obtain⟨x64,b65⟩:=s;refine WN [9,108,109,110] Q Q (bN 5 Q (bL hm Q (λh67 hm=>?_) (λh67 hm=>?_)))
  ·refine aR 5 Q (VE hm λe68 he68 hm=>SX Q Q (bA TK Q Q Q Q he68) (aG 1 Q (cK 2 Q Q dY Q (cV 2 [none,none,none,some 3,some 2,some 1,none,none,some 3,some 2,some 1,some 2,some 1,some 2] Q Q (aG 8 Q (GE hm λg69 hm=>SX Q Q (wL qPW D.bool _ _ false Q zAT qNI Q Q Q Q g69) (aL 2 Q (bH hm Q (λh70 hm=>?_) (λh70 hm=>?_)))))))))
   ·refine aM 8 Q (IE hm λv71 hm hz=>?_);rw [hz66 _ hz] at hm;refine WR (bD 1 Q (IE hm λv72 hm hz=>?_));rw [hz60 _ hz] at hm;exact WR (aS hm Q)
   exact aR 6 Q (GE hm λg73 hm=>qKW qPW D.bool zAT Q Q Q Q g73 (aG 4 Q (GE hm λg74 hm=>SX Q Q (bI Q Q Q Q g74) (aE 2 Q (aX [0,1] hm Q Q)))))
  refine aM 2 Q (IE hm λv75 hm hz=>?_);rw [hz66 _ hz] at hm;exact WX (bD 1 Q (aX [0,1] hm Q Q))
 exact WN [] Q Q (aM 5 Q (aS hm Q))
theorem zX {p0:Ak} {p1:Int} {r:Bool} (hm:iG p0 p1=some r):RetN TP 136 [p0.enc,.int .i64 p1] (.bool (r)):=by
 refine .unit (aJ (aZ Q) func136 Q ntmps136 Q Q (λwX gX=>?_)) Q;unfold iG at hm;refine WN [0,1] Q Q (aO 1 Q (bR 0 Q Q Q (aL 10 Q (aP hm (λx1=>([(7,.d (.bool (x1)))])) (λx1=>[]) [7] [1,2,6] Q (λz2 hm=>?_) (λx1 hm=>?_)))))
 ·refine bN 5 Q (bL hm Q (λh3 hm=>?_) (λh3 hm=>?_))
  ·exact aM 1 Q (aT [0] hm Q Q)
  refine bM 5 Q (bL hm Q (λh4 hm=>?_) (λh4 hm=>?_))
  ·exact aM 1 Q (aT [0] hm Q Q)
  exact aM 4 Q (aT [0] hm Q Q)
 refine WN [1,2,6,7] Q Q (bH hm Q (λh5 hm=>?_) (λh5 hm=>?_))
 ·refine cI [(4,.d (.bool (((decide (p0.rel=(0:Int)))&&(decide (p0.timer=(0:Int)))))))] [4] [] Q ?_ ?_
  ·refine aO 4 Q (SB TK Q (λq6 hq6=>?_));cases q6
   ·refine aE 6 Q ?_;exact⟨[0],Q,k0,aW (aI (aK (by first|(simp [hq6];done)|(simp only [hq6];simp))) Q) Q⟩
   refine aE 6 Q ?_;exact⟨[0],Q,k0,aW (aI (aK (by first|(simp [hq6];done)|(simp only [hq6];simp))) Q) Q⟩
  exact WN [4] Q Q (aM 3 Q (aS hm Q))
 refine bM 5 Q (bL hm Q (λh7 hm=>?_) (λh7 hm=>?_))
 ·refine bM 1 Q ?_;refine cI [(29,.d (.bool (((decide (p0.rel < (0:Int)))||(decide (p1<=p0.rel))))))] [29] [1,2] Q ?_ ?_
  ·refine aO 4 Q (SB TK Q (λq8 hq8=>?_));cases q8
   ·refine aE 6 Q ?_;exact⟨[0],Q,k0,aW (aI (aK (by first|(simp [hq8];done)|(simp only [hq8];simp))) Q) Q⟩
   refine aE 6 Q ?_;exact⟨[0],Q,k0,aW (aI (aK (by first|(simp [hq8];done)|(simp only [hq8];simp))) Q) Q⟩
  refine WN [1,2,29] Q Q (bH hm Q (λh9 hm=>?_) (λh9 hm=>?_))
  ·exact aM 8 Q (aS hm Q)
  refine bM 2 Q (aP hm (λx10=>([(4,.d (.bool (x10)))])) (λx10=>[]) [4] [] Q (λz11 hm=>?_) (λx10 hm=>?_))
  ·refine aO 4 Q (SB TK Q (λq12 hq12=>?_));cases q12
   ·replace hm:=JF hq12 hm;refine aG 3 Q (GE hm λg13 hm=>SX Q Q (bI Q Q Q Q g13) (aG 1 Q (SB TK Q (λq14 hq14=>?_))));cases q14
    ·replace hm:=JF hq14 hm;exact aE 12 Q (aT [0] hm Q Q)
    replace hm:=JT hq14 hm;refine aG 4 Q (SB TK Q (λq15 hq15=>?_));cases q15
    ·replace hm:=JF hq15 hm;exact aE 7 Q (aT [0] hm Q Q)
    replace hm:=JT hq15 hm;exact aE 7 Q (aT [0] hm Q Q)
   replace hm:=JT hq12 hm;exact aE 18 Q (aT [0] hm Q Q)
  exact WN [4] Q Q (aM 3 Q (aS hm Q))
 refine bM 5 Q (bL hm Q (λh16 hm=>?_) (λh16 hm=>?_))
 ·refine cI [(4,.d (.bool (((decide ((0:Int)<=p0.rel))&&((decide (p0.rel < p1))&&((decide ((0:Int)<=p0.timer))&&(decide (p0.timer < (12:Int)))))))))] [4] [] Q ?_ ?_
  ·refine aO 4 Q (SB TK Q (λq17 hq17=>?_));cases q17
   ·refine aE 17 Q ?_;exact⟨[0],Q,k0,aW (aI (aK (by first|(simp [hq17];done)|(simp only [hq17];simp))) Q) Q⟩
   refine aG 5 Q (SB TK Q (λq18 hq18=>?_));cases q18
   ·refine aE 11 Q ?_;exact⟨[0],Q,k0,aW (aI (aK (by first|(simp [hq17,hq18];done)|(simp only [hq17,hq18];simp))) Q) Q⟩
   refine aG 4 Q (SB TK Q (λq19 hq19=>?_));cases q19
   ·refine aE 6 Q ?_;exact⟨[0],Q,k0,aW (aI (aK (by first|(simp [hq17,hq18,hq19];done)|(simp only [hq17,hq18,hq19];simp))) Q) Q⟩
   refine aE 6 Q ?_;exact⟨[0],Q,k0,aW (aI (aK (by first|(simp [hq17,hq18,hq19];done)|(simp only [hq17,hq18,hq19];simp))) Q) Q⟩
  exact WN [4] Q Q (aM 3 Q (aS hm Q))
 exact aM 8 Q (aS hm Q)
theorem qMK {p0:Al} {p1:Az} {r:Bool} (hm:qQ p0 p1=some r):RetN TP 78 [p0.enc,p1.enc] (.bool (r)):=by
 refine .unit (aJ (aZ Q) func78 Q ntmps78 Q Q (λwX gX=>?_)) Q;unfold qQ at hm;refine WN [0,1] Q Q (aO 1 Q (bR 0 Q Q Q (bR 1 Q Q Q (aL 4 Q (aP hm (λx1=>([(29,.d (.bool (x1)))])) (λx1=>[]) [29] [2,3] Q (λz2 hm=>?_) (λx1 hm=>?_))))))
 ·refine aO 2 Q (c_N hm (qHU ·) Q Q Q Q λr3 hm=>aG 1 Q (SB TK Q (λq4 hq4=>?_)));cases q4
  ·replace hm:=eM hq4 hm;refine aG 2 Q (SX Q Q (aN TK Q Q Q) (aG 2 Q (SX Q Q (aN TK Q Q Q) (aG 2 Q (SB TK Q (λq5 hq5=>?_))))));cases q5
   ·replace hm:=eM hq5 hm;exact aG 2 Q (SX Q Q (aN TK Q Q Q) (aG 2 Q (SX Q Q (aN TK Q Q Q) (aE 3 Q (aT [0,1] hm Q Q)))))
   replace hm:=eL hq5 hm;exact aE 9 Q (aT [0,1] hm Q Q)
  replace hm:=eL hq4 hm;exact aE 18 Q (aT [0,1] hm Q Q)
 refine WN [2,3,29] Q Q (bH hm Q (λh6 hm=>?_) (λh6 hm=>?_))
 ·exact aM 6 Q (aS hm Q)
 refine bM 2 Q (bF hm (λ_=>[]) (λ_=>[]) [] [3] Q (λz7 hm hz7=>?_) (λj hm=>?_))
 ·refine aO 3 Q (SX Q Q (aN TK Q Q Q) (aL 4 Q (aV hm (λx9=>([(33,.d (.int .i64 x9))])) (λx9=>[]) [33] [2,3,31,32] [0,1] Q k0 Q Q Q Q Q (λx9 z10 hm hz10=>WN [2,3,31,32,33] Q Q (bN 5 Q (bL hm Q (λh11 hm=>?_) (λh11 hm=>?_)))))))
  ·refine aR 6 Q (VE hm λe12 he12 hm=>SX Q Q (bA TK Q Q Q Q he12) (aG 1 Q (cK 2 Q Q qUD Q (aL 4 Q (bJ follows ?_)))));iterate 4 (refine DA [0,1,2] TK Q ?_)
   refine VE hm λe13 he13 hm=>DX [0,1,2] Q Q (bA TK Q Q Q Q he13) ?_;iterate 2 (refine DA [0,1,2] TK Q ?_)
   refine DX [0,1,2] Q Q (aN TK Q Q Q) (dK [0,1,2] hm (zX ·) Q Q Q Q λr14 hm=>DA [0,1,2] TK Q ?_);refine DT ?_ (by kernel_rfl);refine aL 2 Q (WN [2,3,31,32,33,47] Q Q (bH hm Q (λh15 hm=>?_) (λh15 hm=>?_)))
   ·refine aM 7 Q (IE hm λv16 hm hz=>?_);rw [hz10 _ hz] at hm;refine WR (bD 1 Q (IE hm λv17 hm hz=>?_));rw [hz7 _ hz] at hm;exact WR (aS hm Q)
   exact aR 4 Q (GE hm λg18 hm=>SX Q Q (bI Q Q Q Q g18) (aE 2 Q (aX [0,1] hm Q Q)))
  refine aM 2 Q (IE hm λv19 hm hz=>?_);rw [hz10 _ hz] at hm;exact WX (bD 1 Q (aX [0,1] hm Q Q))
 refine WN [3] Q Q (bF hm (λ_=>[]) (λ_=>[]) [] [] Q (λz20 hm hz20=>?_) (λj hm=>?_))
 ·refine aO 3 Q (SX Q Q (aN TK Q Q Q) (aL 4 Q (aV hm (λx22=>([(52,.d (.int .i64 x22))])) (λx22=>[]) [52] [50,51] [0,1] Q k0 Q Q Q Q Q (λx22 z23 hm hz23=>WN [50,51,52] Q Q (bN 5 Q (bL hm Q (λh24 hm=>?_) (λh24 hm=>?_)))))))
  ·refine aR 5 Q (VE hm λe25 he25 hm=>SX Q Q (bA TK Q Q Q Q he25) (aL 4 Q (cI [(61,.d (.bool (((!(decide (e25=(1:Int))))&&(!(decide (e25=(2:Int))))))))] [61] [50,51,52] Q ?_ ?_)))
   ·refine aO 3 Q (SB TK Q (λq26 hq26=>?_));cases q26
    ·refine aE 4 Q ?_;exact⟨[0,1],Q,k0,aW (aI (aK (by first|(simp [hq26];done)|(simp only [hq26];simp))) Q) Q⟩
    refine aE 4 Q ?_;exact⟨[0,1],Q,k0,aW (aI (aK (by first|(simp [hq26];done)|(simp only [hq26];simp))) Q) Q⟩
   refine WN [50,51,52,61] Q Q (bH hm Q (λh27 hm=>?_) (λh27 hm=>?_))
   ·refine aM 7 Q (IE hm λv28 hm hz=>?_);rw [hz23 _ hz] at hm;refine WR (bD 1 Q (IE hm λv29 hm hz=>?_));rw [hz20 _ hz] at hm;exact WR (aS hm Q)
   exact aR 4 Q (GE hm λg30 hm=>SX Q Q (bI Q Q Q Q g30) (aE 2 Q (aX [0,1] hm Q Q)))
  refine aM 2 Q (IE hm λv31 hm hz=>?_);rw [hz23 _ hz] at hm;exact WX (bD 1 Q (aX [0,1] hm Q Q))
 exact WN [] Q Q (aM 5 Q (aS hm Q))
theorem qMI {p0:Ai} {p1:Ak} {r:(List Int)} (hm:qO p0 p1=some r):RetD TP 137 [p0.enc,p1.enc] (.sl 1 (r.map (D.int .i64))):=by
 refine .of (mv:=λ_=>false) (aJ (aZ Q) func137 Q ntmps137 Q Q (λwX gX=>?_));unfold qO at hm;refine WN [0,1] Q Q (aO 1 Q (bR 0 Q Q Q (bR 1 Q Q Q (aL 10 Q (bL hm Q (λh1 hm=>?_) (λh1 hm=>?_))))))
 ·refine bM 4 Q (uS 4 [some 1] Q (aM 2 Q ?_));obtain rfl:=OJ hm;exact EndsS.one _ Q (.d _) (.refl _)
 refine aR 7 Q (GE hm λg2 hm=>SX Q Q (yZ TK Q Q Q Q Q g2) (c_D hm (pS ·) Q Q Q Q λr3 hm=>aE 4 Q ?_));obtain rfl:=OJ hm;exact EndsS.one _ Q (.d _) (.refl _)
theorem qMJ {p0:Ai} {p1:Ak} {r:(List Int)} (hm:qP p0 p1=some r):RetD TP 138 [p0.enc,p1.enc] (.sl 1 (r.map (D.int .i64))):=by
 refine .of (mv:=λ_=>false) (aJ (aZ Q) func138 Q ntmps138 Q Q (λwX gX=>?_));unfold qP at hm;refine WN [0,1] Q Q (aO 1 Q (bR 0 Q Q Q (bR 1 Q Q Q (aL 10 Q (bL hm Q (λh1 hm=>?_) (λh1 hm=>?_))))))
 ·refine bM 4 Q (uS 4 [some 1] Q (aM 2 Q ?_));obtain rfl:=OJ hm;exact EndsS.one _ Q (.d _) (.refl _)
 refine aR 5 Q (c_D hm (pS ·) Q Q Q Q λr2 hm=>aE 4 Q ?_);obtain rfl:=OJ hm;exact EndsS.one _ Q (.d _) (.refl _)
theorem qGD {p0:Ai} {p1:Ak} {r:(List Ap)} (hm:mB p0 p1=some r):RetD TP 79 [p0.enc,p1.enc] (.sl 2 (r.map Ap.enc)):=by
 refine .of (mv:=λ_=>false) (aJ (aZ Q) func79 Q ntmps79 Q Q (λwX gX=>?_));unfold mB at hm;refine WN [0,1] Q Q (aO 1 Q (bR 0 Q Q Q (bR 1 Q Q Q (aG 4 Q (cM (f:=Ap.enc) 2 224 2 Q Q Q (aL 2 Q (aP hm (λb1=>([(5,.msl 2 2 0 b1.length)])) (λb1=>([(2,.flat 224 2 (b1.map Ap.enc))])) [5] [2,3] Q (λz2 hm=>?_) (λb1 hm=>?_))))))))
 ·refine aO 3 Q (c_D hm (qMI ·) Q Q Q Q λr3 hm=>SX Q Q (aN TK Q Q Q) (aL 4 Q (aV hm (λ(x7,b8)=>([(5,.msl 2 2 0 b8.length),(14,.d (.int .i64 x7))])) (λ(x7,b8)=>([(2,.flat 224 2 (b8.map Ap.enc))])) [5,14] [2,3,12,13] [0,1,2] Q k0 Q Q Q Q Q (λs z9 hm hz9=>?_))));obtain⟨x7,b8⟩:=s;refine WN [2,3,5,12,13,14] Q Q (bN 5 Q (bL hm Q (λh10 hm=>?_) (λh10 hm=>?_)))
  ·exact aR 5 Q (VE hm λe11 he11 hm=>SX Q Q (bA TK Q Q Q Q he11) (aG 7 Q (SX Q Q (qND Q qLW oN Q Q Q Q) (SX Q Q (cF [.tmp 20] TK Q Q oN Q Q Q Q Q) (GE hm λg12 hm=>cB (f:=Ap.enc) ([(⟨e11,(0:Int)⟩:Ap)]:List Ap) TK Q Q oN Q Q Q Q Q (λh=>absurd h (zQV _)) Q bZ g12 Q Q (aG 5 Q (GE hm λg13 hm=>SX Q Q (bI Q Q Q Q g13) (aE 2 Q (aX [0,1,2] hm Q Q)))))))))
  refine aM 2 Q (IE hm λv14 hm hz=>?_);rw [hz9 _ hz] at hm;exact WX (bD 1 Q (aT [0,1,2] hm Q Q))
 refine WN [2,3,5] Q Q (aP hm (λb15=>([(5,.msl 2 2 0 b15.length)])) (λb15=>([(2,.flat 224 2 (b15.map Ap.enc))])) [5] [] Q (λz16 hm=>?_) (λb15 hm=>?_))
 ·refine aO 3 Q (c_D hm (qMJ ·) Q Q Q Q λr17 hm=>SX Q Q (aN TK Q Q Q) (aL 4 Q (aV hm (λ(x21,b22)=>([(5,.msl 2 2 0 b22.length),(28,.d (.int .i64 x21))])) (λ(x21,b22)=>([(2,.flat 224 2 (b22.map Ap.enc))])) [5,28] [26,27] [0,1,2] Q k0 Q Q Q Q Q (λs z23 hm hz23=>?_))));obtain⟨x21,b22⟩:=s;refine WN [5,26,27,28] Q Q (bN 5 Q (bL hm Q (λh24 hm=>?_) (λh24 hm=>?_)))
  ·exact aR 5 Q (VE hm λe25 he25 hm=>SX Q Q (bA TK Q Q Q Q he25) (aG 7 Q (SX Q Q (qND Q qLW oN Q Q Q Q) (SX Q Q (cF [.tmp 34] TK Q Q oN Q Q Q Q Q) (GE hm λg26 hm=>cB (f:=Ap.enc) ([(⟨e25,(1:Int)⟩:Ap)]:List Ap) TK Q Q oN Q Q Q Q Q (λh=>absurd h (zQV _)) Q bZ g26 Q Q (aG 5 Q (GE hm λg27 hm=>SX Q Q (bI Q Q Q Q g27) (aE 2 Q (aX [0,1,2] hm Q Q)))))))))
  refine aM 2 Q (IE hm λv28 hm hz=>?_);rw [hz23 _ hz] at hm;exact WX (bD 1 Q (aT [0,1,2] hm Q Q))
 refine WN [5] Q Q (aM 6 Q ?_);obtain rfl:=OJ hm;exact EndsS.one _ Q (bQ Q) (.refl _)
theorem qU {p0:Ai} {p1:Ai} {r:Bool} (hm:gQ p0 p1=some r):RetN TP 139 [p0.enc,p1.enc] (.bool (r)):=by
 refine .unit (aJ (aZ Q) func139 Q ntmps139 Q Q (λwX gX=>?_)) Q;unfold gQ at hm;refine WN [0,1] Q Q (aO 1 Q (bR 0 Q Q Q (bR 1 Q Q Q (aL 3 Q (cI [(4,.d (.bool (((decide ((0:Int)<=p0.exit))&&(decide (p1.entry=p0.exit))))))] [4] [] Q ?_ ?_)))))
 ·refine aO 4 Q (SB TK Q (λq1 hq1=>?_));cases q1
  ·refine aE 8 Q ?_;exact⟨[0,1],Q,k0,aW (aI (aK (by first|(simp [hq1];done)|(simp only [hq1];simp))) Q) Q⟩
  refine aE 8 Q ?_;exact⟨[0,1],Q,k0,aW (aI (aK (by first|(simp [hq1];done)|(simp only [hq1];simp))) Q) Q⟩
 exact WN [4] Q Q (aM 1 Q (aS hm Q))
theorem qDK {p0:(List Ap)} {p1:Int} {p2:Int} {r:Bool} (hm:pG p0 p1 p2=some r):RetN TP 140 [.sl 2 (p0.map Ap.enc),.int .i64 p1,.int .i64 p2] (.bool (r)):=by
 refine .unit (aJ (aZ Q) func140 Q ntmps140 Q Q (λwX gX=>?_)) Q;unfold pG at hm;refine WN [0,1,2] Q Q (bN 4 Q (bF hm (λ_=>[]) (λ_=>[]) [] [] Q (λz1 hm hz1=>?_) (λj hm=>?_)))
 ·refine aO 2 Q (SX Q Q (aN TK Q Q Q) (aL 4 Q (aV hm (λx3=>([(11,.d (.int .i64 x3))])) (λx3=>[]) [11] [1,2,9,10] [] Q k0 Q Q Q Q Q (λx3 z4 hm hz4=>WN [1,2,9,10,11] Q Q (bN 5 Q (bL hm Q (λh5 hm=>?_) (λh5 hm=>?_)))))))
  ·refine aR 5 Q (VE hm λe6 he6 hm=>SX Q Q (bA TK Q Q Q Q he6) (aG 1 Q (cK 0 Q Q oN Q (aG 7 Q (SX Q Q (qND Q qLW oN Q Q Q Q) (GE hm λg7 hm=>SX Q Q (qYU Q Q Q g7.1 g7.2) (aL 2 Q (bL hm Q (λh9 hm=>?_) (λh9 hm=>?_)))))))))
   ·refine aM 7 Q (IE hm λv10 hm hz=>?_);rw [hz4 _ hz] at hm;refine WR (bD 1 Q (IE hm λv11 hm hz=>?_));rw [hz1 _ hz] at hm;exact WR (aS hm Q)
   exact aR 4 Q (GE hm λg12 hm=>SX Q Q (bI Q Q Q Q g12) (aE 2 Q (aX [] hm Q Q)))
  refine aM 2 Q (IE hm λv13 hm hz=>?_);rw [hz4 _ hz] at hm;exact WX (bD 1 Q (aX [] hm Q Q))
 exact WN [] Q Q (aM 5 Q (aS hm Q))
theorem qJC {p0:Ai} {p1:Ai} {p2:(List Ap)} {p3:(List Ap)} {r:Bool} (hm:lI p0 p1 p2 p3=some r):RetN TP 80 [p0.enc,p1.enc,.sl 2 (p2.map Ap.enc),.sl 2 (p3.map Ap.enc)] (.bool (r)):=by
 refine .unit (aJ (aZ Q) func80 Q ntmps80 Q Q (λwX gX=>?_)) Q;unfold lI at hm;refine WN [0,1,2,3] Q Q (aO 1 Q (bR 0 Q Q Q (bR 1 Q Q Q (aL 3 Q (bJ follows ?_)))));iterate 2 (refine DA [0,1] TK Q ?_)
 refine dK [0,1] hm (qU ·) Q Q Q Q λr1 hm=>?_;iterate 2 (refine DA [0,1] TK Q ?_)
 refine dK [0,1] hm (qU ·) Q Q Q Q λr2 hm=>?_;refine DT ?_ (by kernel_rfl);refine aL 4 Q (bF hm (λ_=>[]) (λ_=>[]) [] [] Q (λz3 hm hz3=>?_) (λj hm=>?_))
 ·refine aO 2 Q (SX Q Q (aN TK Q Q Q) (aL 4 Q (aV hm (λx5=>([(21,.d (.int .i64 x5))])) (λx5=>[]) [21] [3,9,10,19,20] [0,1] Q k0 Q Q Q Q Q (λx5 z6 hm hz6=>WN [3,9,10,19,20,21] Q Q (bN 5 Q (bL hm Q (λh7 hm=>?_) (λh7 hm=>?_)))))))
  ·refine aR 5 Q (VE hm λe8 he8 hm=>SX Q Q (bA TK Q Q Q Q he8) (aG 1 Q (cK 2 Q Q oN Q (aL 4 Q (aP hm (λx9=>([(37,.d (.bool (x9)))])) (λx9=>[]) [37] [3,9,10,12,19,20,21] Q (λz10 hm=>?_) (λx9 hm=>?_))))))
   ·refine aO 2 Q ?_;refine SX Q Q (dG Q qEV Q Q (by decide) (by decide) Q) ?_;refine aG 1 Q (c_N hm (qDK ·) Q Q Q Q λr11 hm=>SB TK Q (λq12 hq12=>?_));cases q12
    ·replace hm:=JB hq12 hm;exact aE 9 Q (aT [0,1,2] hm Q Q)
    replace hm:=JA hq12 hm;refine SX Q Q (dG Q qEV Q Q (by decide) (by decide) Q) ?_;refine aG 2 Q (SB TK Q (λq13 hq13=>?_));cases q13
    ·replace hm:=JF hq13 hm;exact aE 5 Q (aT [0,1,2] hm Q Q)
    replace hm:=JT hq13 hm;exact aE 5 Q (aT [0,1,2] hm Q Q)
   refine WN [3,9,10,12,19,20,21,37] Q Q (bH hm Q (λh14 hm=>?_) (λh14 hm=>?_))
   ·refine aM 8 Q (IE hm λv15 hm hz=>?_);rw [hz6 _ hz] at hm;refine WR (bD 1 Q (IE hm λv16 hm hz=>?_));rw [hz3 _ hz] at hm;exact WR (aS hm Q)
   refine bM 2 Q (aP hm (λx17=>([(54,.d (.bool (x17)))])) (λx17=>[]) [54] [3,9,10,19,20,21] Q (λz18 hm=>?_) (λx17 hm=>?_))
   ·refine aO 2 Q ?_;refine SX Q Q (dG Q qEV Q Q (by decide) (by decide) Q) ?_;refine aG 1 Q (c_N hm (qDK ·) Q Q Q Q λr19 hm=>SB TK Q (λq20 hq20=>?_));cases q20
    ·replace hm:=JB hq20 hm;exact aE 13 Q (aT [0,1,2] hm Q Q)
    replace hm:=JA hq20 hm;refine aG 3 Q (SB TK Q (λq21 hq21=>?_));cases q21
    ·replace hm:=JB hq21 hm;exact aE 9 Q (aT [0,1,2] hm Q Q)
    replace hm:=JA hq21 hm;refine SX Q Q (dG Q qEV Q Q (by decide) (by decide) Q) ?_;refine aG 2 Q (SB TK Q (λq22 hq22=>?_));cases q22
    ·replace hm:=JF hq22 hm;exact aE 5 Q (aT [0,1,2] hm Q Q)
    replace hm:=JT hq22 hm;exact aE 5 Q (aT [0,1,2] hm Q Q)
   refine WN [3,9,10,19,20,21,54] Q Q (bH hm Q (λh23 hm=>?_) (λh23 hm=>?_))
   ·refine aM 7 Q (IE hm λv24 hm hz=>?_);rw [hz6 _ hz] at hm;refine WR (bD 1 Q (IE hm λv25 hm hz=>?_));rw [hz3 _ hz] at hm;exact WR (aS hm Q)
   exact aR 4 Q (GE hm λg26 hm=>SX Q Q (bI Q Q Q Q g26) (aE 2 Q (aX [0,1] hm Q Q)))
  refine aM 2 Q (IE hm λv27 hm hz=>?_);rw [hz6 _ hz] at hm;exact WX (bD 1 Q (aX [0,1] hm Q Q))
 exact WN [] Q Q (aM 5 Q (aS hm Q))
theorem uM {p0:(List Int)} {p1:Int} {r:Bool} (hm:eT p0 p1=some r):RetN TP 182 [.sl 1 (p0.map (D.int .i64)),.int .i64 p1] (.bool (r)):=by
 refine .unit (aJ (aZ Q) func182 Q ntmps182 Q Q (λwX gX=>?_)) Q;unfold eT at hm;exact WN [0,1] Q Q (aO 7 Q (c_N hm (pR ·) Q Q Q Q λr1 hm=>aE 5 Q (aS hm Q)))
theorem qQB {p0:(List Int)} {p1:Int} {r:Bool} (hm:tB p0 p1=some r):RetN TP 141 [.sl 1 (p0.map (D.int .i64)),.int .i64 p1] (.bool (r)):=by
 refine .unit (aJ (aZ Q) func141 Q ntmps141 Q Q (λwX gX=>?_)) Q;unfold tB at hm;exact WN [0,1] Q Q (aO 7 Q (c_N hm (uM ·) Q Q Q Q λr1 hm=>aE 4 Q (aS hm Q)))
theorem rC (n:Nat) (hn:n<=1000000000) (mv:Nat->Bool):Ret TP 205 [] mv ([.nilsl,.int .i64 n].map .d) (.msl 0 2 0 0) [.flat 126 2 []]:=by
 refine iC (aZ Q) func205 Q ntmps205 Q Q (λwX gX=>bP [0,1] (bE Q (bE Q .nil)) (bU Q) (RS (bY _ Q (eI (.inr Q) Q) (TN (bP [0,1] (bE Q (bE Q .nil)) (bU Q) (TQ (RS (bY _ Q (eI (.inl Q) Q) (bY _ Q (nF Q Q Q Q) (TN (bP [0,1,6] (bE Q (bE Q (bE Q .nil))) (bU Q) (TC _ Q (λhneg=>?_) (λhneg=>?_)))))))))))))
 ·exact absurd (of_decide_eq_true hneg) (by omega)
 refine TS (WT (bP [0,1] (bE Q (bE Q .nil)) (bU Q) (TQ (RS (bY _ Q (eI (.inl Q) Q) (bY _ Q (eI (.inl Q) Q) (bY _ Q (qES Q rX Q) (bY _ Q (eI (.inl Q) Q) (bY _ Q (nE Q rX Q) ?_)))))))));refine bY _ Q (tG (r:=0) Q Q Q Q Q (by first|omega|(constructor<;>omega))) ?_;refine bY _ Q (tG (r:=(n:Int)) Q Q Q Q (by omega) (by first|omega|(constructor<;>omega))) ?_;refine bY _ Q (eI (.inr Q) Q) (TN (bP [0,1] (bE Q (bE Q .nil)) (bU Q) (RS (bY _ Q (eI (.inl Q) Q) (bY _ Q (nF Q Q Q Q) (TN (bP [0,1,16] (bE Q (bE Q (bE Q .nil))) (bU Q) (TC _ Q (λhpos=>?_) (λhpos=>?_)))))))))
 ·have hpos:0 < n:=by simpa using hpos
  refine TG (bY _ Q (eI (.inl Q) Q) (bY _ Q (eI (.inl Q) Q) (bY _ Q (qES Q rX Q) (bY _ Q (qVE Q rX Q Q Q) (bY _ Q (eI (.inl Q) Q) ?_)))));refine qUL (n:=n) Q rX Tryz.underlying3 bX Q Q Q hpos (by decide) (by omega) (by omega) ?_;refine bY _ Q (eI (.inl Q) Q) (bY _ Q (nE Q rX Q) (bY _ Q (qFR 0 2 16 0 n 0 0 Q rX Q Q Q (zQW _) (Nat.zero_le _)) (bY _ Q (gM (.inr Q) Q) (TN (WT (bP [0] (dH Q .nil) (cP Q (bU Q)) (RS (bY _ Q (gM (.inl Q) Q) (bY _ Q (gM (.inr Q) Q) (TN (bP [4] (dH Q .nil) (cP Q (bU Q)) (TR ?_))))))))))));exact⟨_,[0],res Q,by decide,λi hi=>absurd hi (zQV i),Q,Q⟩
 refine qDB 0 126 2 Q (TS (WT (bP [0] (dH Q .nil) (cP Q (bU Q)) (RS (bY _ Q (gM (.inl Q) Q) (bY _ Q (gM (.inr Q) Q) (TN (bP [4] (dH Q .nil) (cP Q (bU Q)) (TR ?_)))))))));exact⟨_,[0],res Q,by decide,λi hi=>absurd hi (zQV i),Q,Q⟩
theorem oR (xss:List (List Aa)) (hn:xss.length<=1000) (ht:xss.flatten.length<=1000000000) (mv:Nat->Bool):Ret TP 183 [] mv ([.sl 1 (xss.map λl=>.sl 2 (l.map Aa.enc))].map .d) (.msl 0 2 0 xss.flatten.length) [.flat 126 2 (xss.flatten.map Aa.enc)]:=by
 refine iC (aZ Q) func183 Q ntmps183 Q Q (λwX gX=>bP [0] (bE Q .nil) (bU Q) (RS (bY _ Q (eI (.inr Q) Q) (TN (bP [0] (bE Q .nil) (bU Q) (RS (bY _ Q (eI (.inr Q) Q) (TN (bP [0,3] (bE Q (bE Q .nil)) (bU Q) (TQ (RS (bY _ Q (eI (.inl Q) Q) ?_))))))))))));refine bY _ Q (by first|exact qGF Q qBJ Q (by first|exact zQC _|rfl)|exact nE Q qBJ Q) ?_;refine bY _ Q (eI (.inl Q) Q) (TN (bP [0,3,9,10,11] (bE Q (bE Q (bE Q (bE Q (bE Q .nil))))) (bU Q) (TB ?_)));refine pN (λi=>([(3,.d (.int .i64 ((eR xss i).length:Int))),(11,.d (.int .i64 ((i:Nat):Int)))])) (λi=>[]) (λi=>i<=xss.length) (λi=>xss.length - i) [3,11] [0,9,10] [] 0 (by decide) (λi hi=>absurd hi (zQV i)) (Nat.zero_le _) (bE Q (bE Q (bE Q .nil))) Q (by rw [pH];rfl) (bU Q) Q ?_;rintro i hok;refine bP [3,11,0,9,10] (bE Q (bE Q (bE Q (bE Q (bE Q .nil))))) (bU Q) (RS (bY _ Q (nF Q Q Q Q) (TN (bP [0,3,9,10,11,12] (bE Q (bE Q (bE Q (bE Q (bE Q (bE Q .nil)))))) (bU Q) (TQ (TC _ Q (λhlt=>?_) (λhlt=>?_)))))))
 ·have hlt:i < xss.length:=by simpa using hlt
  obtain⟨x,hx⟩:∃ x,(xss)[i]?=some x:=⟨_,zQR (by first|exact hlt|omega|(simp;omega))⟩;have hs:=xA hx;have hle:=dS xss (i+1);refine TS (WT (bP [0,3,9,10,11] (bE Q (bE Q (bE Q (bE Q (bE Q .nil))))) (bU Q) (TQ (TB (RS (bY _ Q (vX Q qBJ Q Q (qEO hx)) (bY _ Q (zZ Q zBG Q Q) (bY _ Q (eI (.inr Q) Q) (TN (bP [0,3,5,9,10,11] (bE Q (bE Q (bE Q (bE Q (bE Q (bE Q .nil)))))) (bU Q) (RS (bY _ Q (eI (.inl Q) Q) (bY _ Q (eI (.inl Q) Q) ?_)))))))))))));refine bY _ Q (by first|exact qGF Q rX Q (by first|exact zQC _|rfl)|exact nE Q rX Q) ?_;refine bY _ Q (tG (r:=((eR xss (i+1)).length:Int)) Q Q Q Q (by rw [hs];simp) (by omega)) ?_;refine bY _ Q (eI (.inr Q) Q) (TN (bP [0,3,9,10,11] (bE Q (bE Q (bE Q (bE Q (bE Q .nil))))) (bU Q) (RS (bY _ Q (eI (.inl Q) Q) (bY _ Q (nF Q Q Q Q) (TN (bP [0,3,9,10,11,20] (bE Q (bE Q (bE Q (bE Q (bE Q (bE Q .nil)))))) (bU Q) (TC _ Q (λhneg=>?_) (λhneg=>?_)))))))))
  ·exact absurd (of_decide_eq_true hneg) (by omega)
  refine TS (WK (WT (bP [0,3,9,10,11] (bE Q (bE Q (bE Q (bE Q (bE Q .nil))))) (bU Q) (TG ?_))));refine bY _ Q (tH Q Q Q Q (by first|omega|(constructor<;>omega))) ?_;refine bY _ Q (eI (.inl Q) Q) (TN (WT ?_));exact⟨(i+1),[],by decide,(λi hi=>absurd hi (zQV i)),(by omega),(by omega),Q⟩
 have hge:¬ i < xss.length:=by simpa using hlt
 have hi:i=xss.length:=by omega
 refine uU (WX (WX (WH (WT (bP [0,3] (bE Q (bE Q .nil)) (bU Q) (RS (bY _ Q (eI (.inl Q) Q) ?_)))))));refine tP Q Q Q (rC _ (by have:=dS xss i;omega) (λ_=>false)) Q Q ?_;refine bY _ Q (gM (.inr Q) Q) (TN (bP [0,6] (bE Q (dH Q .nil)) (cP Q (bU Q)) (TQ (RS (bY _ Q (eI (.inl Q) Q) ?_)))));refine bY _ Q (by first|exact qGF Q qBJ Q (by first|exact zQC _|rfl)|exact nE Q qBJ Q) ?_;refine bY _ Q (eI (.inl Q) Q) (TN (bP [6,25,26,27] (dH Q (bE Q (bE Q (bE Q .nil)))) (cP Q (bU Q)) (TB ?_)));refine pN (λi=>([(6,.msl 0 2 0 (eR xss i).length),(27,.d (.int .i64 ((i:Nat):Int)))])) (λi=>([(0,.flat 126 2 ((eR xss i).map Aa.enc))])) (λi=>i<=xss.length) (λi=>xss.length - i) [6,27] [25,26] [0] 0 (by decide) (λi hi=>absurd hi (zQV i)) (Nat.zero_le _) (bE Q (bE Q .nil)) Q (by rw [pH];rfl) (cP Q (bU Q)) (by rw [pH];rfl) ?_;rintro i hok;refine bP [6,27,25,26] (dH Q (bE Q (bE Q (bE Q .nil)))) (cP Q (bU Q)) (RS (bY _ Q (nF Q Q Q Q) (TN (bP [6,25,26,27,28] (dH Q (bE Q (bE Q (bE Q (bE Q .nil))))) (cP Q (bU Q)) (TQ (TC _ Q (λhlt=>?_) (λhlt=>?_)))))))
 ·have hlt:i < xss.length:=by simpa using hlt
  obtain⟨x,hx⟩:∃ x,(xss)[i]?=some x:=⟨_,zQR (by first|exact hlt|omega|(simp;omega))⟩;have hs:=xA hx;have hle:=dS xss (i+1);have hsl:(eR xss (i+1)).length=(eR xss i).length+x.length:=by rw [hs];simp
  refine TS (WT (bP [6,25,26,27] (dH Q (bE Q (bE Q (bE Q .nil)))) (cP Q (bU Q)) (TQ (TB (RS (bY _ Q (vX Q qBJ Q Q (qEO hx)) (bY _ Q (zZ Q zBG Q Q) (bY _ Q (eI (.inr Q) Q) (TN (bP [6,8,25,26,27] (dH Q (bE Q (bE Q (bE Q (bE Q .nil))))) (cP Q (bU Q)) (TG (bY _ Q (gM (.inl Q) Q) (bY _ Q (eI (.inl Q) Q) ?_)))))))))))));refine qFE (m:=(eR xss (i+1)).length) (ds:=x.map Aa.enc) (es':=(eR xss (i+1)).map Aa.enc) Q rX bX Q Q Q (by simp) (λh=>absurd h (zQV _)) Q ⟨Q,(by first|rfl|(simp [List.map_take,List.map_drop];done)|(rw [<- List.map_drop,List.take_of_length_le (by simp)]))⟩ (by rw [hs];simp) (by simp;omega) (by omega) (by omega) Q Q ?_;refine bY _ Q (gM (.inr Q) Q) (TN (WK (WT (bP [6,25,26,27] (dH Q (bE Q (bE Q (bE Q .nil)))) (cP Q (bU Q)) (TG ?_)))));refine bY _ Q (tH Q Q Q Q (by first|omega|(constructor<;>omega))) ?_;refine bY _ Q (eI (.inl Q) Q) (TN (WT ?_));exact⟨(i+1),[0],by decide,(λi hi=>absurd hi (zQV i)),(by omega),(by omega),Q⟩
 have hge:¬ i < xss.length:=by simpa using hlt
 have hi:i=xss.length:=by omega
 have hall:=qQG hge;refine uU (WX (WX (WH (WT (bP [6] (dH Q .nil) (cP Q (bU Q)) (RS (bY _ Q (gM (.inl Q) Q) (bY _ Q (gM (.inr Q) Q) (TN (bP [2] (dH Q .nil) (cP Q (bU Q)) (TR ?_)))))))))));rw [hall];exact⟨_,[0],res Q,by decide,λi hi=>absurd hi (zQV i),Q,Q⟩
theorem rB {p0:List (List Aa)} {r:List Aa} (hm:fM p0=some r):Ret TP 183 [] (λ_=>false) ([.sl 1 (p0.map (λl=>D.sl 2 (l.map Aa.enc)))].map .d) (.msl 0 2 0 r.length) [.flat 126 2 (r.map Aa.enc)]:=by
 unfold fM at hm;refine GE hm λg hm=>?_;obtain rfl:=OJ hm;exact oR p0 g.1 g.2 (λ_=>false)
theorem uJ {p0:Int} {r:Bool} (hm:kM p0=some r):RetN TP 207 [.int .i64 p0] (.bool (r)):=by
 refine .unit (aJ (aZ Q) func207 Q ntmps207 Q Q (λwX gX=>?_)) Q;unfold kM at hm;exact WN [0] Q Q (zAA 12 Q (aS hm Q))
theorem rT {p0:Int} {p1:Int} {r:Int} (hm:fT p0 p1=some r):RetN TP 187 [.int .i64 p0,.int .i64 p1] (.int .i64 r):=by
 refine .unit (aJ (aZ Q) func187 Q ntmps187 Q Q (λwX gX=>?_)) Q;unfold fT at hm;refine WN [0,1] Q Q (aO 6 Q (c_N hm (uJ ·) Q Q Q Q λr1 hm=>aG 5 Q (c_N hm (uJ ·) Q Q Q Q λr2 hm=>aL 8 Q (bH hm Q (λh3 hm=>?_) (λh3 hm=>?_)))))
 ·refine bM 5 Q (bH hm Q (λh4 hm=>?_) (λh4 hm=>?_))
  ·exact aM 7 Q (aS hm Q)
  exact aM 8 Q (aS hm Q)
 refine bM 7 Q (bH hm Q (λh5 hm=>?_) (λh5 hm=>?_))
 ·exact aM 6 Q (aS hm Q)
 refine bM 9 Q (bL hm Q (λh6 hm=>?_) (λh6 hm=>?_))
 ·exact aM 6 Q (aS hm Q)
 refine bM 9 Q (WN [19] Q Q (bL hm Q (λh7 hm=>?_) (λh7 hm=>?_)))
 ·exact aM 6 Q (aS hm Q)
 exact aM 7 Q (aS hm Q)
theorem qMU {p0:(List Int)} {r:Int} (hm:qV p0=some r):RetN TP 186 [.sl 1 (p0.map (D.int .i64))] (.int .i64 r):=by
 refine .unit (aJ (aZ Q) func186 Q ntmps186 Q Q (λwX gX=>?_)) Q;unfold qV at hm;refine WN [0] Q Q (bN 8 Q (bF hm (λ_=>[]) (λ_=>[]) [] [3] Q (λz1 hm hz1=>?_) (λj hm=>?_)))
 ·refine aO 2 Q (SX Q Q (aN TK Q Q Q) (aL 4 Q (aV hm (λx3=>([(8,.d (.int .i64 x3))])) (λx3=>[]) [8] [3,6,7] [] Q k0 Q Q Q Q Q (λx3 z4 hm hz4=>WN [3,6,7,8] Q Q (bN 5 Q (bL hm Q (λh5 hm=>?_) (λh5 hm=>?_)))))))
  ·refine aR 5 Q (VE hm λe6 he6 hm=>SX Q Q (bA TK Q Q Q Q he6) (aL 10 Q (eC hm Q (λh7 hm=>?_) (λh7 hm=>?_))))
   ·refine aM 8 Q (IE hm λv8 hm hz=>?_);rw [hz4 _ hz] at hm;refine WR (bD 1 Q (IE hm λv9 hm hz=>?_));rw [hz1 _ hz] at hm;exact WR (aS hm Q)
   exact aR 4 Q (GE hm λg10 hm=>SX Q Q (bI Q Q Q Q g10) (aE 2 Q (aX [] hm Q Q)))
  refine aM 2 Q (IE hm λv11 hm hz=>?_);rw [hz4 _ hz] at hm;exact WX (bD 1 Q (aX [] hm Q Q))
 exact WN [3] Q Q (aM 6 Q (aS hm Q))
theorem xI {p0:Aa} {p1:Aa} {r:Int} (hm:cG p0 p1=some r):RetN TP 185 [p0.enc,p1.enc] (.int .i64 r):=by
 refine .unit (aJ (aZ Q) func185 Q ntmps185 Q Q (λwX gX=>?_)) Q;unfold cG at hm;refine WN [0,1] Q Q (aO 1 Q (bR 0 Q Q Q (bR 1 Q Q Q (aL 3 Q (bJ follows ?_)))));iterate 4 (refine DA [0,1] TK Q ?_)
 refine dK [0,1] hm (rT ·) Q Q Q Q λr1 hm=>?_;iterate 4 (refine DA [0,1] TK Q ?_)
 refine dK [0,1] hm (rT ·) Q Q Q Q λr2 hm=>DX [0,1] Q Q (cF [.tmp 9,.tmp 14] TK Q Q dF Q Q Q Q Q) (dK [0,1] hm (qMU ·) Q Q Q Q λr3 hm=>?_);refine DT ?_ (by kernel_rfl);exact aL 3 Q (WN [4] Q Q (aM 1 Q (aS hm Q)))
theorem qBG {p0:Ai} {r:(List Aa)} (hm:iQ p0=some r):RetD TP 142 [p0.enc] (.sl 2 (r.map Aa.enc)):=by
 refine .of (mv:=λ_=>false) (aJ (aZ Q) func142 Q ntmps142 Q Q (λwX gX=>?_));unfold iQ at hm;refine WN [0] Q Q (aO 1 Q (bR 0 Q Q Q (aG 10 Q (SX Q Q (cF [.tmp 8,.tmp 10,.tmp 12] TK Q Q zCY Q Q Q Q Q) (BE hm λr1 hr1 hm=>tP Q Q Q (rB hr1) Q Q (qHW 14 (.msl 1 2 0 r1.length) Q Q (aG 5 Q (GE hm λg2 hm=>?_))))))));refine qEI [1] Q Q Q (by simp) Q Q Q (rA lL Q (λ_ _ _ h=>(xI h).retD) r1 g2) Q Q ?_;refine sQ 3 (pQ cG r1).length Q (oQ _).symm (sQ 15 (pQ cG r1).length Q (oQ _).symm (aG 3 Q (cM (f:=Aa.enc) 2 126 2 Q Q Q (aL 2 Q (aP hm (λb3=>([(4,.msl 2 2 0 b3.length)])) (λb3=>([(2,.flat 126 2 (b3.map Aa.enc))])) [4] [] Q (λz4 hm=>?_) (λb3 hm=>?_))))))
 ·refine bN 7 Q (aV hm (λ(x8,b9)=>([(4,.msl 2 2 0 b9.length),(19,.d (.int .i64 x8))])) (λ(x8,b9)=>([(2,.flat 126 2 (b9.map Aa.enc))])) [4,19] [3,17,18] [0,1,2] Q k0 Q Q Q Q Q (λs z10 hm hz10=>?_));obtain⟨x8,b9⟩:=s;refine WN [3,4,17,18,19] Q Q (bN 5 Q (bL hm Q (λh11 hm=>?_) (λh11 hm=>?_)))
  ·refine aR 6 Q (VE hm λe12 he12 hm=>SX Q Q (mH TK Q Q Q Q he12 Q) (SX Q Q (pL TK Q Q Q Q he12.2 Q) (cK 3 Q Q bX Q (aL 4 Q (aP hm (λx13=>([(34,.d (.bool (x13)))])) (λx13=>[]) [34] [3,4,6,17,18,19] Q (λz14 hm=>?_) (λx13 hm=>?_))))))
   ·refine cJ follows ?_;iterate 2 (refine DA [0,1,2,3] TK Q ?_)
    refine d_b [0,1,2,3] TK Q (λq15 hq15=>?_);cases q15
    ·replace hm:=JF hq15 hm;iterate 3 (refine DA [0,1,2,3] TK Q ?_)
     refine GE hm λg16 hm=>DX [0,1,2,3] Q Q (bI Q Q Q Q g16) (VE hm λe17 he17 hm=>DX [0,1,2,3] Q Q (mH TK Q Q Q Q he17 Q) (DX [0,1,2,3] Q Q (pL TK Q Q Q Q he17.2 Q) (GE hm λg18 hm=>DX [0,1,2,3] Q Q (yV Q Q Q g18.1 g18.2) (DA [0,1,2,3] TK Q ?_))));refine DT ?_ (by kernel_rfl);exact aE 1 Q (aT [0,1,2,3] hm Q Q)
    replace hm:=JT hq15 hm;iterate 8 (refine DA [0,1,2,3] TK Q ?_)
    refine DT ?_ (by kernel_rfl);exact aE 1 Q (aT [0,1,2,3] hm Q Q)
   refine WN [3,4,6,17,18,19,34] Q Q (bH hm Q (λh20 hm=>?_) (λh20 hm=>?_))
   ·exact aR 3 Q (SX Q Q (cF [.tmp 36] TK Q Q bX Q Q Q Q Q) (GE hm λg21 hm=>cB (f:=Aa.enc) ([e12]:List Aa) TK Q Q bX Q Q Q Q Q (λh=>absurd h (zQV _)) Q bZ g21 Q Q (aG 5 Q (GE hm λg22 hm=>SX Q Q (bI Q Q Q Q g22) (aE 2 Q (aX [0,1,2] hm Q Q))))))
   exact aR 4 Q (GE hm λg23 hm=>SX Q Q (bI Q Q Q Q g23) (aE 2 Q (aX [0,1,2] hm Q Q)))
  refine aM 2 Q (IE hm λv24 hm hz=>?_);rw [hz10 _ hz] at hm;exact WX (bD 1 Q (aT [0,1,2] hm Q Q))
 refine WN [4] Q Q (aM 6 Q ?_);obtain rfl:=OJ hm;exact EndsS.one _ Q (bQ Q) (.refl _)
theorem qJD {p0:Al} {p1:Ai} {p2:Ak} {r:(List Aa)} (hm:nZ p0 p1 p2=some r):RetD TP 81 [p0.enc,p1.enc,p2.enc] (.sl 2 (r.map Aa.enc)):=by
 refine .of (mv:=λ_=>false) (aJ (aZ Q) func81 Q ntmps81 Q Q (λwX gX=>?_));unfold nZ at hm;refine WN [0,1,2] Q Q (aO 1 Q (bR 0 Q Q Q (bR 1 Q Q Q (bR 2 Q Q Q (aL 10 Q (bL hm Q (λh1 hm=>?_) (λh1 hm=>?_)))))))
 ·refine bM 4 Q (uS 6 [some 2] Q (aM 2 Q ?_));obtain rfl:=OJ hm;exact EndsS.one _ Q (.d _) (.refl _)
 refine aR 3 Q (cM (f:=Aa.enc) 3 126 2 Q Q Q (aL 2 Q (aP hm (λb2=>([(7,.msl 3 2 0 b2.length)])) (λb2=>([(3,.flat 126 2 (b2.map Aa.enc))])) [7] [4] Q (λz3 hm=>?_) (λb2 hm=>?_))))
 ·refine aO 3 Q (SX Q Q (aN TK Q Q Q) (aL 4 Q (aV hm (λ(x7,b8)=>([(7,.msl 3 2 0 b8.length),(16,.d (.int .i64 x7))])) (λ(x7,b8)=>([(3,.flat 126 2 (b8.map Aa.enc))])) [7,16] [3,4,5,14,15] [0,1,2,3] Q k0 Q Q Q Q Q (λs z9 hm hz9=>?_))));obtain⟨x7,b8⟩:=s;refine WN [3,4,5,7,14,15,16] Q Q (bN 5 Q (bL hm Q (λh10 hm=>?_) (λh10 hm=>?_)))
  ·refine aR 5 Q (VE hm λe11 he11 hm=>SX Q Q (bA TK Q Q Q Q he11) (aG 1 Q (cK 4 Q Q bX Q (aL 3 Q (WN [3,4,5,7,9,14,15,16] Q Q (bJ follows ?_))))));iterate 4 (refine DA [0,1,2,3,4] TK Q ?_)
   refine GE hm λg12 hm=>DX [0,1,2,3,4] Q Q (yZ TK Q Q Q Q Q g12) ?_;iterate 5 (refine DA [0,1,2,3,4] TK Q ?_)
   refine dK [0,1,2,3,4] hm (jZ ·) Q Q Q Q λr13 hm=>VE hm λe14 he14 hm=>DX [0,1,2,3,4] Q Q (bA TK Q Q Q Q he14) (DA [0,1,2,3,4] TK Q (dK [0,1,2,3,4] hm (qQB ·) Q Q Q Q λr15 hm=>DA [0,1,2,3,4] TK Q ?_));refine DT ?_ (by kernel_rfl);refine aL 2 Q (bH hm Q (λh16 hm=>?_) (λh16 hm=>?_))
   ·exact aR 3 Q (SX Q Q (cF [.tmp 36] TK Q Q bX Q Q Q Q Q) (GE hm λg17 hm=>cB (f:=Aa.enc) ([e11]:List Aa) TK Q Q bX Q Q Q Q Q (λh=>absurd h (zQV _)) Q bZ g17 Q Q (aL 4 Q (WN [3,4,5,7,14,15,16] Q Q (aR 1 Q (GE hm λg18 hm=>SX Q Q (bI Q Q Q Q g18) (aE 2 Q (aX [0,1,2,3] hm Q Q))))))))
   exact bM 3 Q (WN [3,4,5,7,14,15,16] Q Q (aR 1 Q (GE hm λg19 hm=>SX Q Q (bI Q Q Q Q g19) (aE 2 Q (aX [0,1,2,3] hm Q Q)))))
  refine aM 2 Q (IE hm λv20 hm hz=>?_);rw [hz9 _ hz] at hm;exact WX (bD 1 Q (aT [0,1,2,3] hm Q Q))
 refine WN [4,7] Q Q ?_;refine qNC 7 3 [4] Q Q Q Q Q (by simp) Q Q ?_;refine aR 6 Q (SX Q Q (bV Q zAF dY Q Q Q Q) (s_wk 45 [none,none,none,some 3,none,some 1,none,none,some 3,none,some 1,none,some 1,some 2] Q (c_D hm (qBG ·) Q Q Q Q λr21 hm=>aE 4 Q ?_)));obtain rfl:=OJ hm;exact EndsS.one _ Q (.d _) (.refl _)
theorem qJE {p0:Al} {p1:Az} {r:Bool} (hm:oA p0 p1=some r):RetN TP 38 [p0.enc,p1.enc] (.bool (r)):=by
 refine .unit (aJ (aZ Q) func38 Q ntmps38 Q Q (λwX gX=>?_)) Q;unfold oA at hm;refine WN [0,1] Q Q (aO 1 Q (bR 0 Q Q Q (bR 1 Q Q Q (aG 7 Q (c_N hm (qMK ·) Q Q Q Q λr1 hm=>aL 3 Q (bH hm Q (λh2 hm=>?_) (λh2 hm=>?_)))))))
 ·exact aM 6 Q (aS hm Q)
 refine aR 3 Q (cM (f:=(λ(l:List Ap)=>D.sl 2 (l.map Ap.enc))) 2 163 1 Q Q Q (aL 2 Q (aP hm (λb3=>([(5,.msl 2 1 0 b3.length)])) (λb3=>([(2,.flat 163 1 (b3.map (λ(l:List Ap)=>D.sl 2 (l.map Ap.enc))))])) [5] [2,3] Q (λz4 hm=>?_) (λb3 hm=>?_))))
 ·refine aO 3 Q (SX Q Q (aN TK Q Q Q) (aL 4 Q (aV hm (λ(x8,b9)=>([(5,.msl 2 1 0 b9.length),(21,.d (.int .i64 x8))])) (λ(x8,b9)=>([(2,.flat 163 1 (b9.map (λ(l:List Ap)=>D.sl 2 (l.map Ap.enc))))])) [5,21] [2,3,19,20] [0,1,2] Q k0 Q Q Q Q Q (λs z10 hm hz10=>?_))));obtain⟨x8,b9⟩:=s;refine WN [2,3,5,19,20,21] Q Q (bN 5 Q (bL hm Q (λh11 hm=>?_) (λh11 hm=>?_)))
  ·refine aR 6 Q (VE hm λe12 he12 hm=>SX Q Q (bA TK Q Q Q Q he12) (aG 1 Q (cK 3 Q Q dY Q (cV 3 [none,none,none,some 3,some 2,some 1,none,none,some 3,some 2,some 1,some 2,some 1,some 2] Q Q (aL 4 Q (dC follows ?_))))));iterate 5 (refine DA [0,1,2,3] TK Q ?_)
   refine VE hm λe13 he13 hm=>DX [0,1,2,3] Q Q (bA TK Q Q Q Q he13) (DA [0,1,2,3] TK Q (jN [0,1,2,3] hm (qGD ·) Q Q Q Q λr14 hm=>DX [0,1,2,3] Q Q (cF [.tmp 33] TK Q Q qUC Q Q Q Q Q) ?_));refine DT ?_ (by kernel_rfl);exact GE hm λg15 hm=>cB (f:=(λ(l:List Ap)=>D.sl 2 (l.map Ap.enc))) ([r14]:List (List Ap)) TK Q Q qUC Q Q Q Q Q (λh=>absurd h (zQV _)) Q bZ g15 Q Q (aL 4 Q (WN [2,3,5,19,20,21] Q Q (aR 1 Q (GE hm λg16 hm=>SX Q Q (bI Q Q Q Q g16) (aE 2 Q (aX [0,1,2] hm Q Q))))))
  refine aM 2 Q (IE hm λv17 hm hz=>?_);rw [hz10 _ hz] at hm;exact WX (bD 1 Q (aT [0,1,2] hm Q Q))
 refine WN [2,3,5] Q Q (bF hm (λ_=>[]) (λ_=>[]) [] [2,3] Q (λz18 hm hz18=>?_) (λj hm=>?_))
 ·refine aO 3 Q (SX Q Q (aN TK Q Q Q) (aL 4 Q (aV hm (λx20=>([(40,.d (.int .i64 x20))])) (λx20=>[]) [40] [2,3,5,39] [0,1,2] Q k0 Q Q Q Q Q (λx20 z21 hm hz21=>WN [2,3,5,39,40] Q Q (bN 5 Q (bL hm Q (λh22 hm=>?_) (λh22 hm=>?_)))))))
  ·refine bM 2 Q (bF hm (λ_=>[]) (λ_=>[]) [] [2,3,5,39,40] Q (λz23 hm hz23=>?_) (λj hm=>?_))
   ·refine bN 12 Q (aV hm (λx25=>([(44,.d (.int .i64 x25))])) (λx25=>[]) [44] [2,3,5,8,39,40,43] [0,1,2] Q k0 Q Q Q Q Q (λx25 z26 hm hz26=>WN [2,3,5,8,39,40,43,44] Q Q (bN 5 Q (bL hm Q (λh27 hm=>?_) (λh27 hm=>?_)))))
    ·refine bM 9 Q (bJ follows ?_);iterate 3 (refine DA [0,1,2] TK Q ?_)
     refine VE hm λe28 he28 hm=>DX [0,1,2] Q Q (bA TK Q Q Q Q he28) ?_;iterate 4 (refine DA [0,1,2] TK Q ?_)
     refine VE hm λe29 he29 hm=>DX [0,1,2] Q Q (bA TK Q Q Q Q he29) ?_;iterate 3 (refine DA [0,1,2] TK Q ?_)
     refine VE hm λe30 he30 hm=>DX [0,1,2] Q Q (mH TK Q Q Q Q he30 Q) (DX [0,1,2] Q Q (pL TK Q Q Q Q he30.2 Q) ?_);iterate 2 (refine DA [0,1,2] TK Q ?_)
     refine VE hm λe31 he31 hm=>DX [0,1,2] Q Q (mH TK Q Q Q Q he31 Q) (DX [0,1,2] Q Q (pL TK Q Q Q Q he31.2 Q) (dK [0,1,2] hm (qJC ·) Q Q Q Q λr32 hm=>?_));refine DT ?_ (by kernel_rfl);refine aL 2 Q (WN [2,3,5,8,39,40,43,44,65] Q Q (bH hm Q (λh33 hm=>?_) (λh33 hm=>?_)))
     ·refine aM 7 Q (IE hm λv34 hm hz=>?_);rw [hz26 _ hz] at hm;refine WR (bD 2 Q (IE hm λv35 hm hz=>?_));rw [hz23 _ hz] at hm;refine WR (IE hm λv36 hm hz=>?_);rw [hz21 _ hz] at hm;refine WR (bD 1 Q (IE hm λv37 hm hz=>?_));rw [hz18 _ hz] at hm;exact WR (aS hm Q)
     exact aR 4 Q (GE hm λg38 hm=>SX Q Q (bI Q Q Q Q g38) (aE 2 Q (aX [0,1,2] hm Q Q)))
    refine aM 2 Q (IE hm λv39 hm hz=>?_);rw [hz26 _ hz] at hm;exact WX (bD 2 Q (aX [0,1,2] hm Q Q))
   exact WN [2,3,5,39,40] Q Q (aR 1 Q (GE hm λg40 hm=>SX Q Q (bI Q Q Q Q g40) (aE 2 Q (aX [0,1,2] hm Q Q))))
  refine aM 2 Q (IE hm λv41 hm hz=>?_);rw [hz21 _ hz] at hm;exact WX (bD 1 Q (aX [0,1,2] hm Q Q))
 refine WN [2,3] Q Q (bF hm (λ_=>[]) (λ_=>[]) [] [] Q (λz42 hm hz42=>?_) (λj hm=>?_))
 ·refine aO 3 Q (SX Q Q (aN TK Q Q Q) (aL 4 Q (aV hm (λx44=>([(71,.d (.int .i64 x44))])) (λx44=>[]) [71] [2,3,69,70] [0,1,2] Q k0 Q Q Q Q Q (λx44 z45 hm hz45=>WN [2,3,69,70,71] Q Q (bN 5 Q (bL hm Q (λh46 hm=>?_) (λh46 hm=>?_)))))))
  ·refine bM 2 Q (bF hm (λ_=>[]) (λ_=>[]) [] [2,3,69,70,71] Q (λz47 hm hz47=>?_) (λj hm=>?_))
   ·refine aO 3 Q (VE hm λe48 he48 hm=>SX Q Q (bA TK Q Q Q Q he48) (aG 1 Q (cK 3 Q Q dY Q (cV 3 [none,none,none,some 3,some 2,some 1,none,none,some 3,some 2,some 1,some 2,some 1,some 2] Q Q (aL 4 Q (bJ follows ?_))))));iterate 5 (refine DA [0,1,2,3] TK Q ?_)
    refine VE hm λe49 he49 hm=>DX [0,1,2,3] Q Q (bA TK Q Q Q Q he49) (DA [0,1,2,3] TK Q (jN [0,1,2,3] hm (qJD ·) Q Q Q Q λr50 hm=>DX [0,1,2,3] Q Q (aN TK Q Q Q) (DA [0,1,2,3] TK Q ?_)));refine DT ?_ (by kernel_rfl);refine aL 3 Q (aV hm (λx52=>([(85,.d (.int .i64 x52))])) (λx52=>[]) [85] [2,3,69,70,71,83,84] [0,1,2] Q k0 Q Q Q Q Q (λx52 z53 hm hz53=>WN [2,3,69,70,71,83,84,85] Q Q (bN 5 Q (bL hm Q (λh54 hm=>?_) (λh54 hm=>?_)))))
    ·refine aR 5 Q (VE hm λe55 he55 hm=>SX Q Q (bA TK Q Q Q Q he55) (aG 1 Q (cK 3 Q Q bX Q (aL 3 Q (bJ follows ?_)))));iterate 5 (refine DA [0,1,2,3] TK Q ?_)
     refine dK [0,1,2,3] hm (jZ ·) Q Q Q Q λr56 hm=>VE hm λe57 he57 hm=>DX [0,1,2,3] Q Q (bA TK Q Q Q Q he57) ?_;iterate 4 (refine DA [0,1,2,3] TK Q ?_)
     refine DT ?_ (by kernel_rfl);refine aL 2 Q (eC hm Q (λh58 hm=>?_) (λh58 hm=>?_))
     ·refine bM 4 Q (WN [4] Q Q (aM 3 Q (IE hm λv59 hm hz=>?_)));rw [hz53 _ hz] at hm;refine WR (bD 2 Q (IE hm λv60 hm hz=>?_));rw [hz47 _ hz] at hm;refine WR (IE hm λv61 hm hz=>?_);rw [hz45 _ hz] at hm;refine WR (bD 1 Q (IE hm λv62 hm hz=>?_));rw [hz42 _ hz] at hm;exact WR (aS hm Q)
     exact bM 3 Q (WN [2,3,69,70,71,83,84,85] Q Q (aR 1 Q (GE hm λg63 hm=>SX Q Q (bI Q Q Q Q g63) (aE 2 Q (aX [0,1,2] hm Q Q)))))
    refine aM 2 Q (IE hm λv64 hm hz=>?_);rw [hz53 _ hz] at hm;exact WX (bD 2 Q (aX [0,1,2] hm Q Q))
   exact WN [2,3,69,70,71] Q Q (aR 1 Q (GE hm λg65 hm=>SX Q Q (bI Q Q Q Q g65) (aE 2 Q (aX [0,1,2] hm Q Q))))
  refine aM 2 Q (IE hm λv66 hm hz=>?_);rw [hz45 _ hz] at hm;exact WX (bD 1 Q (aX [0,1,2] hm Q Q))
 exact WN [] Q Q (aM 5 Q (aS hm Q))
theorem qAM {p0:Al} {p1:(List Ar)} {p2:Int} {r:(List Int)} (hm:iI p0 p1 p2=some r):RetD TP 83 [p0.enc,.sl 3 (p1.map Ar.enc),.int .i64 p2] (.sl 1 (r.map (D.int .i64))):=by
 refine .of (mv:=λ_=>false) (aJ (aZ Q) func83 Q ntmps83 Q Q (λwX gX=>?_));unfold iI at hm;refine WN [0,1,2] Q Q (aO 1 Q (bR 0 Q Q Q (aL 4 Q ?_)));refine cI [(15,.d (.bool (((decide (p2 < (0:Int)))||(decide ((32:Int) < p2))))))] [15] [1,2,3] Q ?_ ?_
 ·refine aO 3 Q (SB TK Q (λq1 hq1=>?_));cases q1
  ·refine aE 4 Q ?_;exact⟨[0],Q,k0,aW (aI (aK (by first|(simp [hq1];done)|(simp only [hq1];simp))) Q) Q⟩
  refine aE 4 Q ?_;exact⟨[0],Q,k0,aW (aI (aK (by first|(simp [hq1];done)|(simp only [hq1];simp))) Q) Q⟩
 refine WN [1,2,3,15] Q Q (bH hm Q (λh2 hm=>?_) (λh2 hm=>?_))
 ·refine bM 4 Q (uS 6 [some 1] Q (aM 2 Q ?_));obtain rfl:=OJ hm;exact EndsS.one _ Q (.d _) (.refl _)
 refine aR 4 Q (GE hm λg3 hm=>qZR (f:=(D.int .i64)) (x:=(0:Int)) 1 TK Q Q Q dF Q Q Q Q Q g3 Q (aL 3 Q (aP hm (λb4=>([(7,.msl 1 1 0 b4.length)])) (λb4=>([(1,.flat 3 1 (b4.map (D.int .i64)))])) [7] [] Q (λz5 hm=>?_) (λb4 hm=>?_))))
 ·refine bN 7 Q (aV hm (λ(x9,b10)=>([(7,.msl 1 1 0 b10.length),(20,.d (.int .i64 x9))])) (λ(x9,b10)=>([(1,.flat 3 1 (b10.map (D.int .i64)))])) [7,20] [1,3,19] [0,1] Q k0 Q Q Q Q Q (λs z11 hm hz11=>?_));obtain⟨x9,b10⟩:=s;refine WN [1,3,7,19,20] Q Q (bN 5 Q (bL hm Q (λh12 hm=>?_) (λh12 hm=>?_)))
  ·refine aR 12 Q (c_N hm (jZ ·) Q Q Q Q λr13 hm=>aL 3 Q (cI [(33,.d (.bool (((decide ((0:Int)<=r13))&&(decide (r13 < (p1.length:Int)))))))] [33] [1,3,7,8,9,19,20] Q ?_ ?_))
   ·refine aO 3 Q (SB TK Q (λq14 hq14=>?_));cases q14
    ·refine aE 6 Q ?_;exact⟨[0,1],Q,k0,aW (aI (aK (by first|(simp [hq14];done)|(simp only [hq14];simp))) Q) Q⟩
    refine aG 2 Q (SX Q Q (aN TK Q Q Q) (aE 3 Q ?_));exact⟨[0,1],Q,k0,aW (aI (aK (by first|(simp [hq14];done)|(simp only [hq14];simp))) Q) Q⟩
   refine WN [1,3,7,8,9,19,20,33] Q Q (bH hm Q (λh15 hm=>?_) (λh15 hm=>?_))
   ·exact aR 5 Q (VE hm λe16 he16 hm=>SX Q Q (bA TK Q Q Q Q he16) (aG 2 Q (VE hm λe17 he17 hm=>SX Q Q (mH TK Q Q Q Q he17 Q) (qNX (x':=e16.pos) TK Q Q Q Q Q he17.2 Q Q Q (sQ 7 (b10.set x9.toNat e16.pos).length Q List.length_set.symm (sQ 34 (b10.set x9.toNat e16.pos).length Q List.length_set.symm (aG 4 Q (GE hm λg18 hm=>SX Q Q (bI Q Q Q Q g18) (aE 2 Q (aX [0,1] hm Q Q))))))))))
   exact aR 4 Q (GE hm λg19 hm=>SX Q Q (bI Q Q Q Q g19) (aE 2 Q (aX [0,1] hm Q Q)))
  refine aM 2 Q (IE hm λv20 hm hz=>?_);rw [hz11 _ hz] at hm;exact WX (bD 1 Q (aT [0,1] hm Q Q))
 refine WN [7] Q Q (aM 6 Q ?_);obtain rfl:=OJ hm;exact EndsS.one _ Q (bQ Q) (.refl _)
theorem qOS {p0:Int} {p1:Int} {p2:Int} {r0:Int} {r1:Bool} (hm:pC p0 p1 p2=some (r0,r1)):Ret TP 84 [] (λ_=>false) ([.int .i64 p0,.int .i64 p1,.int .i64 p2].map .d) (.tup ([.int .i64 r0,.bool (r1)].map .d)) []:=by
 refine dW (aZ Q) func84 Q ntmps84 Q Q (λwX gX=>?_);unfold pC at hm;refine WN [0,1,2] Q Q (bN 5 Q (bF hm (λ_=>[]) (λ_=>[]) [] [] Q (λz1 hm hz1=>?_) (λj hm=>?_)))
 ·refine aO 1 Q (SX Q Q (x_ldG (d:=.agg (passages.flatMap λx=>x.enc.cells)) Q lay229 (List.mem_singleton.2 Q) Q Q Q) (aL 4 Q (aV hm (λx3=>([(11,.d (.int .i64 x3))])) (λx3=>[]) [11] [0,1,2,10] [] Q k0 Q Q Q Q Q (λx3 z4 hm hz4=>WN [0,1,2,10,11] Q Q (bN 5 Q (bL hm Q (λh5 hm=>?_) (λh5 hm=>?_)))))))
  ·refine aR 5 Q (VE hm λe6 he6 hm=>SX Q Q (x_ixA (f:=Br.enc) (xs:=passages) (λ_=>Q) (λ_=>Q) Q Tryz.underlying229 lay228 Q Q he6 Q) (cK 0 Q Q zCU Q (aL 3 Q (cI [(29,.d (.bool (((decide (e6.kind=p0))&&((decide (e6.inV=p1))&&(decide (e6.out=p2)))))))] [29] [0,1,2,9,10,11] Q ?_ ?_))))
   ·refine aO 5 Q (SB TK Q (λq7 hq7=>?_));cases q7
    ·refine aE 12 Q ?_;exact⟨[0],Q,k0,aW (aI (aK (by first|(simp [hq7];done)|(simp only [hq7];simp))) Q) Q⟩
    refine aG 5 Q (SB TK Q (λq8 hq8=>?_));cases q8
    ·refine aE 6 Q ?_;exact⟨[0],Q,k0,aW (aI (aK (by first|(simp [hq7,hq8];done)|(simp only [hq7,hq8];simp))) Q) Q⟩
    refine aE 6 Q ?_;exact⟨[0],Q,k0,aW (aI (aK (by first|(simp [hq7,hq8];done)|(simp only [hq7,hq8];simp))) Q) Q⟩
   refine WN [0,1,2,9,10,11,29] Q Q (bH hm Q (λh9 hm=>?_) (λh9 hm=>?_))
   ·refine aM 10 Q (IE hm λv10 hm hz=>?_);rw [hz4 _ hz] at hm;refine WR (bD 1 Q (IE hm λv11 hm hz=>?_));rw [hz1 _ hz] at hm;refine WR ?_;obtain⟨rfl,rfl⟩:=Prod.mk.inj (Option.some.inj hm);exact EndsT.two Q (.d _) (.refl _) (.d _) (.refl _)
   exact aR 4 Q (GE hm λg12 hm=>SX Q Q (bI Q Q Q Q g12) (aE 2 Q (aX [] hm Q Q)))
  refine aM 2 Q (IE hm λv13 hm hz=>?_);rw [hz4 _ hz] at hm;exact WX (bD 1 Q (aX [] hm Q Q))
 refine WN [] Q Q (aM 6 Q ?_);obtain⟨rfl,rfl⟩:=Prod.mk.inj (Option.some.inj hm);exact EndsT.two Q (.d _) (.refl _) (.d _) (.refl _)
theorem qOT {p0:Int} {p1:Int} {p2:Int} {r0:Int} {r1:Bool} (hm:pC p0 p1 p2=some (r0,r1)):RetT TP 84 [.int .i64 p0,.int .i64 p1,.int .i64 p2] [.int .i64 r0,.bool (r1)]:=.of (mv:=λ_=>false) (qOS hm)
theorem qDQ {p0:Am} {r:(List Ac)} (hm:kA p0=some r):RetD TP 39 [p0.enc] (.sl 3 (r.map Ac.enc)):=by
 refine .of (mv:=λ_=>false) (aJ (aZ Q) func39 Q ntmps39 Q Q (λwX gX=>?_));unfold kA at hm;refine WN [0] Q Q (aO 1 Q (bR 0 Q Q Q (aG 4 Q (cM (f:=Ac.enc) 1 83 3 Q Q Q (aG 10 Q (SX Q Q (aN TK Q Q Q) (c_D hm (qAM ·) Q Q Q Q λr1 hm=>aL 3 Q (aP hm (λb2=>([(3,.msl 1 3 0 b2.length)])) (λb2=>([(1,.flat 83 3 (b2.map Ac.enc))])) [3] [] Q (λz3 hm=>?_) (λb2 hm=>?_)))))))))
 ·refine aO 3 Q (SX Q Q (aN TK Q Q Q) (aL 4 Q (aV hm (λ(x7,b8)=>([(3,.msl 1 3 0 b8.length),(23,.d (.int .i64 x7))])) (λ(x7,b8)=>([(1,.flat 83 3 (b8.map Ac.enc))])) [3,23] [1,4,21,22] [0,1] Q k0 Q Q Q Q Q (λs z9 hm hz9=>?_))));obtain⟨x7,b8⟩:=s;refine WN [1,3,4,21,22,23] Q Q (bN 5 Q (bL hm Q (λh10 hm=>?_) (λh10 hm=>?_)))
  ·refine bM 2 Q (aP hm (λb11=>([(3,.msl 1 3 0 b11.length)])) (λb11=>([(1,.flat 83 3 (b11.map Ac.enc))])) [3] [1,4,21,22,23] Q (λz12 hm=>?_) (λb11 hm=>?_))
   ·refine aO 2 Q (VE hm λe13 he13 hm=>SX Q Q (bA TK Q Q Q Q he13) (aG 1 Q (cK 2 Q Q pK Q (cV 2 [some 3,none,none,none,none,none,none,none,none,none,none,none,none,none,none,none,none,none,none,none,none,none,none,none,some 4,some 2,none,none,none,none,none,none] Q Q (aG 7 Q (SX Q Q (aN TK Q Q Q) (aL 4 Q (aV hm (λ(x17,b18)=>([(3,.msl 1 3 0 b18.length),(31,.d (.int .i64 x17))])) (λ(x17,b18)=>([(1,.flat 83 3 (b18.map Ac.enc))])) [3,31] [1,4,6,21,22,23,29,30] [0,1,2] Q k0 Q Q Q Q Q (λs z19 hm hz19=>?_)))))))));obtain⟨x17,b18⟩:=s;refine WN [1,3,4,6,21,22,23,29,30,31] Q Q (bN 5 Q (bL hm Q (λh20 hm=>?_) (λh20 hm=>?_)))
    ·refine aR 5 Q (VE hm λe21 he21 hm=>SX Q Q (bA TK Q Q Q Q he21) (aG 1 Q (cK 3 Q Q fL Q (aL 4 Q ?_))));refine cI [(53,.d (.bool (((decide (e21.el < (0:Int)))||((decide ((p0.layout.Af.length:Int)<=e21.el))||(decide ((r1.length:Int)<=e21.el)))))))] [53] [1,3,4,6,8,21,22,23,29,30,31] Q ?_ ?_
     ·refine aO 4 Q (SB TK Q (λq22 hq22=>?_));cases q22
      ·refine aG 5 Q (SX Q Q (aN TK Q Q Q) (aG 2 Q (SB TK Q (λq23 hq23=>?_))));cases q23
       ·refine aG 3 Q (SX Q Q (aN TK Q Q Q) (aE 3 Q ?_));exact⟨[0,1,2,3],Q,k0,aW (aI (aK (by first|(simp [hq22,hq23];done)|(simp only [hq22,hq23];simp))) Q) Q⟩
       refine aE 7 Q ?_;exact⟨[0,1,2,3],Q,k0,aW (aI (aK (by first|(simp [hq22,hq23];done)|(simp only [hq22,hq23];simp))) Q) Q⟩
      refine aE 16 Q ?_;exact⟨[0,1,2,3],Q,k0,aW (aI (aK (by first|(simp [hq22];done)|(simp only [hq22];simp))) Q) Q⟩
     refine WN [1,3,4,6,8,21,22,23,29,30,31,53] Q Q (bH hm Q (λh24 hm=>?_) (λh24 hm=>?_))
     ·exact aR 5 Q (GE hm λg25 hm=>SX Q Q (bI Q Q Q Q g25) (aE 2 Q (aX [0,1,2] hm Q Q)))
     refine bM 2 Q (bJ follows ?_);iterate 5 (refine DA [0,1,2,3] TK Q ?_)
     refine VE hm λe26 he26 hm=>DX [0,1,2,3] Q Q (bA TK Q Q Q Q he26) ?_;iterate 6 (refine DA [0,1,2,3] TK Q ?_)
     refine BE hm λr27 hr27 hm=>?_;obtain⟨r28,r29⟩:=r27;refine DX [0,1,2,3] Q Q (cT Q Q Q (qOT hr27)) ?_;iterate 4 (refine DA [0,1,2,3] TK Q ?_)
     refine DT ?_ (by kernel_rfl);refine aL 3 Q (WN [1,3,4,6,8,9,10,21,22,23,29,30,31] Q Q (aP hm (λx30=>([(83,.d (.bool (x30)))])) (λx30=>[]) [83] [1,3,4,6,8,21,22,23,29,30,31] Q (λz31 hm=>?_) (λx30 hm=>?_)))
     ·refine aO 2 Q (SB TK Q (λq32 hq32=>?_));cases q32
      ·replace hm:=JB hq32 hm;exact aE 13 Q (aT [0,1,2,3] hm Q Q)
      replace hm:=JA hq32 hm;refine aG 3 Q (SB TK Q (λq33 hq33=>?_));cases q33
      ·replace hm:=eM hq33 hm;exact aE 9 Q (aT [0,1,2,3] hm Q Q)
      replace hm:=eL hq33 hm;exact aG 4 Q (VE hm λe34 he34 hm=>SX Q Q (bA TK Q Q Q Q he34) (aE 4 Q (aT [0,1,2,3] hm Q Q)))
     refine WN [1,3,4,6,8,21,22,23,29,30,31,83] Q Q (bH hm Q (λh35 hm=>?_) (λh35 hm=>?_))
     ·exact aR 8 Q (SX Q Q (bV Q qK cH Q Q Q Q) (SX Q Q (cF [.tmp 91] TK Q Q cH Q Q Q Q Q) (GE hm λg36 hm=>cB (f:=Ac.enc) ([(⟨(4:Int),e13.cab.train.id,e21.el⟩:Ac)]:List Ac) TK Q Q cH Q Q Q Q Q (λh=>absurd h (zQV _)) Q bZ g36 Q Q (aG 5 Q (GE hm λg37 hm=>SX Q Q (bI Q Q Q Q g37) (aE 2 Q (aX [0,1,2] hm Q Q)))))))
     exact aR 4 Q (GE hm λg38 hm=>SX Q Q (bI Q Q Q Q g38) (aE 2 Q (aX [0,1,2] hm Q Q)))
    refine aM 2 Q (IE hm λv39 hm hz=>?_);rw [hz19 _ hz] at hm;exact WX (bD 2 Q (aT [0,1] hm Q Q))
   exact WN [1,3,4,21,22,23] Q Q (aR 1 Q (GE hm λg40 hm=>SX Q Q (bI Q Q Q Q g40) (aE 2 Q (aX [0,1] hm Q Q))))
  refine aM 2 Q (IE hm λv41 hm hz=>?_);rw [hz9 _ hz] at hm;exact WX (bD 1 Q (aT [0,1] hm Q Q))
 refine WN [3] Q Q (aM 6 Q ?_);obtain rfl:=OJ hm;exact EndsS.one _ Q (bQ Q) (.refl _)
theorem qBK {p0:Am} {r:(List Ac)} (hm:gF p0=some r):RetD TP 40 [p0.enc] (.sl 3 (r.map Ac.enc)):=by
 refine .of (mv:=λ_=>false) (aJ (aZ Q) func40 Q ntmps40 Q Q (λwX gX=>?_));unfold gF at hm;refine WN [0] Q Q (aO 1 Q (bR 0 Q Q Q (aG 4 Q (wQ 3 4 Q (qHW 9 (.mmap 1) Q Q (aL 3 Q (aP hm (λm1=>[]) (λm1=>([(1,.map 3 4 (dE (D.int .i64) D.bool m1))])) [] [1,3] Q (λz2 hm=>?_) (λm1 hm=>?_))))))))
 ·refine aO 4 Q (SX Q Q (aN TK Q Q Q) (aL 4 Q (aV hm (λ(x6,b7)=>([(14,.d (.int .i64 x6))])) (λ(x6,b7)=>([(1,.map 3 4 (dE (D.int .i64) D.bool b7))])) [14] [1,3,12,13] [0,1] Q k0 Q Q Q Q Q (λs z8 hm hz8=>?_))));obtain⟨x6,b7⟩:=s;refine WN [1,3,12,13,14] Q Q (bN 5 Q (bL hm Q (λh9 hm=>?_) (λh9 hm=>?_)))
  ·refine aR 6 Q (VE hm λe10 he10 hm=>SX Q Q (bA TK Q Q Q Q he10) (aG 1 Q (cK 2 Q Q dY Q (cV 2 [none,none,none,some 3,some 2,some 1,none,none,some 3,some 2,some 1,some 2,some 1,some 2] Q Q (aL 4 Q (aP hm (λx11=>([(34,.d (.bool (x11)))])) (λx11=>[]) [34] [1,3,5,12,13,14] Q (λz12 hm=>?_) (λx11 hm=>?_)))))))
   ·refine aO 5 Q (SX Q Q (aN TK Q Q Q) (aG 1 Q (SB TK Q (λq13 hq13=>?_))));cases q13
    ·replace hm:=JF hq13 hm;exact aE 10 Q (aT [0,1,2] hm Q Q)
    replace hm:=JT hq13 hm;exact aG 4 Q (VE hm λe14 he14 hm=>SX Q Q (bA TK Q Q Q Q he14) (aE 5 Q (aT [0,1,2] hm Q Q)))
   refine WN [1,3,5,12,13,14,34] Q Q (bH hm Q (λh15 hm=>?_) (λh15 hm=>?_))
   ·exact aR 4 Q (GE hm λg16 hm=>qKW (oE .i64) D.bool qME Q Q Q Q g16 (aG 4 Q (GE hm λg17 hm=>SX Q Q (bI Q Q Q Q g17) (aE 2 Q (aX [0,1] hm Q Q)))))
   exact aR 4 Q (GE hm λg18 hm=>SX Q Q (bI Q Q Q Q g18) (aE 2 Q (aX [0,1] hm Q Q)))
  refine aM 2 Q (IE hm λv19 hm hz=>?_);rw [hz8 _ hz] at hm;exact WX (bD 1 Q (aT [0,1] hm Q Q))
 refine WN [1,3] Q Q (aR 1 Q (cM (f:=Ac.enc) 2 83 3 Q Q Q (aL 2 Q (aP hm (λb20=>([(6,.msl 2 3 0 b20.length)])) (λb20=>([(2,.flat 83 3 (b20.map Ac.enc))])) [6] [] Q (λz21 hm=>?_) (λb20 hm=>?_)))))
 ·refine aO 3 Q (SX Q Q (aN TK Q Q Q) (aL 4 Q (aV hm (λ(x25,b26)=>([(6,.msl 2 3 0 b26.length),(42,.d (.int .i64 x25))])) (λ(x25,b26)=>([(2,.flat 83 3 (b26.map Ac.enc))])) [6,42] [3,40,41] [0,1,2] Q k0 Q Q Q Q Q (λs z27 hm hz27=>?_))));obtain⟨x25,b26⟩:=s;refine WN [3,6,40,41,42] Q Q (bN 5 Q (bL hm Q (λh28 hm=>?_) (λh28 hm=>?_)))
  ·refine aR 6 Q (VE hm λe29 he29 hm=>SX Q Q (bA TK Q Q Q Q he29) (aL 5 Q (aP hm (λx30=>([(53,.d (.bool (x30)))])) (λx30=>[]) [53] [3,6,7,40,41,42] Q (λz31 hm=>?_) (λx30 hm=>?_))))
   ·refine aO 2 Q (SB TK Q (λq32 hq32=>?_));cases q32
    ·replace hm:=JB hq32 hm;exact aE 6 Q (aT [0,1,2] hm Q Q)
    replace hm:=JA hq32 hm;exact aG 2 Q (GE hm λg33 hm=>SX Q Q (wL (oE .i64) D.bool _ _ false Q qME qNI Q Q Q Q g33) (aE 3 Q (aT [0,1,2] hm Q Q)))
   refine WN [3,6,7,40,41,42,53] Q Q (bH hm Q (λh34 hm=>?_) (λh34 hm=>?_))
   ·exact aR 3 Q (SX Q Q (bV Q qK cH Q Q Q Q) (SX Q Q (cF [.tmp 56] TK Q Q cH Q Q Q Q Q) (GE hm λg35 hm=>cB (f:=Ac.enc) ([(⟨(5:Int),x25,(0:Int)⟩:Ac)]:List Ac) TK Q Q cH Q Q Q Q Q (λh=>absurd h (zQV _)) Q bZ g35 Q Q (aG 5 Q (GE hm λg36 hm=>SX Q Q (bI Q Q Q Q g36) (aE 2 Q (aX [0,1,2] hm Q Q)))))))
   exact aR 4 Q (GE hm λg37 hm=>SX Q Q (bI Q Q Q Q g37) (aE 2 Q (aX [0,1,2] hm Q Q)))
  refine aM 2 Q (IE hm λv38 hm hz=>?_);rw [hz27 _ hz] at hm;exact WX (bD 1 Q (aT [0,1,2] hm Q Q))
 refine WN [6] Q Q (aM 6 Q ?_);obtain rfl:=OJ hm;exact EndsS.one _ Q (bQ Q) (.refl _)
theorem qBL {p0:Am} {r:(List Ac)} (hm:gG p0=some r):RetD TP 41 [p0.enc] (.sl 3 (r.map Ac.enc)):=by
 refine .of (mv:=λ_=>false) (aJ (aZ Q) func41 Q ntmps41 Q Q (λwX gX=>?_));unfold gG at hm;refine WN [0] Q Q (aO 1 Q (bR 0 Q Q Q (aG 4 Q (wQ 3 3 Q (qHW 11 (.mmap 1) Q Q (aL 3 Q (aP hm (λm1=>[]) (λm1=>([(1,.map 3 3 (dE (D.int .i64) (D.int .i64) m1))])) [] [1,3] Q (λz2 hm=>?_) (λm1 hm=>?_))))))))
 ·refine aO 4 Q (SX Q Q (aN TK Q Q Q) (aL 4 Q (aV hm (λ(x6,b7)=>([(16,.d (.int .i64 x6))])) (λ(x6,b7)=>([(1,.map 3 3 (dE (D.int .i64) (D.int .i64) b7))])) [16] [1,3,14,15] [0,1] Q k0 Q Q Q Q Q (λs z8 hm hz8=>?_))));obtain⟨x6,b7⟩:=s;refine WN [1,3,14,15,16] Q Q (bN 5 Q (bL hm Q (λh9 hm=>?_) (λh9 hm=>?_)))
  ·refine bM 2 Q (aP hm (λm10=>[]) (λm10=>([(1,.map 3 3 (dE (D.int .i64) (D.int .i64) m10))])) [] [1,3,14,15,16] Q (λz11 hm=>?_) (λm10 hm=>?_))
   ·refine aO 2 Q (VE hm λe12 he12 hm=>SX Q Q (bA TK Q Q Q Q he12) (aG 1 Q (cK 2 Q Q rE Q (cV 2 [none,none,none,none,some 3,some 1,some 1,some 1,some 1,none,none,none,none,none] Q Q (aG 6 Q (SX Q Q (aN TK Q Q Q) (aL 4 Q (aV hm (λ(x16,b17)=>([(23,.d (.int .i64 x16))])) (λ(x16,b17)=>([(1,.map 3 3 (dE (D.int .i64) (D.int .i64) b17))])) [23] [1,3,14,15,16,21,22] [0,1] Q k0 Q Q Q Q Q (λs z18 hm hz18=>?_)))))))));obtain⟨x16,b17⟩:=s;refine WN [1,3,14,15,16,21,22,23] Q Q (bN 5 Q (bL hm Q (λh19 hm=>?_) (λh19 hm=>?_)))
    ·exact aR 5 Q (VE hm λe20 he20 hm=>SX Q Q (bA TK Q Q Q Q he20) (aG 7 Q (GE hm λg21 hm=>SX Q Q (wL (oE .i64) (D.int .i64) _ _ (0:Int) Q qMD dF Q Q Q Q g21) (GE hm λg22 hm=>SX Q Q (bI Q Q Q Q g22) (GE hm λg23 hm=>qKW (oE .i64) (D.int .i64) qMD Q Q Q Q g23 (aG 4 Q (GE hm λg24 hm=>SX Q Q (bI Q Q Q Q g24) (aE 2 Q (aX [0,1] hm Q Q)))))))))
    refine aM 2 Q (IE hm λv25 hm hz=>?_);rw [hz18 _ hz] at hm;exact WX (bD 2 Q (aT [0,1] hm Q Q))
   exact WN [1,3,14,15,16] Q Q (aR 1 Q (GE hm λg26 hm=>SX Q Q (bI Q Q Q Q g26) (aE 2 Q (aX [0,1] hm Q Q))))
  refine aM 2 Q (IE hm λv27 hm hz=>?_);rw [hz8 _ hz] at hm;exact WX (bD 1 Q (aT [0,1] hm Q Q))
 refine WN [1,3] Q Q (aR 1 Q (cM (f:=Ac.enc) 2 83 3 Q Q Q (aL 2 Q (aP hm (λb28=>([(8,.msl 2 3 0 b28.length)])) (λb28=>([(2,.flat 83 3 (b28.map Ac.enc))])) [8] [] Q (λz29 hm=>?_) (λb28 hm=>?_)))))
 ·refine aO 4 Q (SX Q Q (aN TK Q Q Q) (aL 4 Q (aV hm (λ(x33,b34)=>([(8,.msl 2 3 0 b34.length),(37,.d (.int .i64 x33))])) (λ(x33,b34)=>([(2,.flat 83 3 (b34.map Ac.enc))])) [8,37] [1,3,36] [0,1,2] Q k0 Q Q Q Q Q (λs z35 hm hz35=>?_))));obtain⟨x33,b34⟩:=s;refine WN [1,3,8,36,37] Q Q (bN 5 Q (bL hm Q (λh36 hm=>?_) (λh36 hm=>?_)))
  ·refine bM 9 Q (aP hm (λidle37=>([(10,.d (.bool (idle37)))])) (λidle37=>[]) [10] [1,3,8,9,36,37] Q (λz38 hm=>?_) (λidle37 hm=>?_))
   ·refine aO 5 Q (SX Q Q (aN TK Q Q Q) (aG 1 Q (SB TK Q (λq39 hq39=>?_))));cases q39
    ·replace hm:=JF hq39 hm;exact aE 11 Q (aT [0,1,2] hm Q Q)
    replace hm:=JT hq39 hm;exact aG 4 Q (VE hm λe40 he40 hm=>SX Q Q (bA TK Q Q Q Q he40) (aE 6 Q (aT [0,1,2] hm Q Q)))
   refine WN [1,3,8,9,10,36,37] Q Q (aP hm (λx41=>([(68,.d (.bool (x41)))])) (λx41=>[]) [68] [1,3,8,9,36,37] Q (λz42 hm=>?_) (λx41 hm=>?_))
   ·refine aO 3 Q (GE hm λg43 hm=>SX Q Q (wL (oE .i64) (D.int .i64) _ _ (0:Int) Q qMD dF Q Q Q Q g43) (aG 1 Q (SB TK Q (λq44 hq44=>?_))));cases q44
    ·replace hm:=JF hq44 hm;refine aG 2 Q (GE hm λg45 hm=>SX Q Q (wL (oE .i64) (D.int .i64) _ _ (0:Int) Q qMD dF Q Q Q Q g45) (aG 1 Q (SB TK Q (λq46 hq46=>?_))));cases q46
     ·replace hm:=JF hq46 hm;exact aE 4 Q (aT [0,1,2] hm Q Q)
     replace hm:=JT hq46 hm;exact aE 4 Q (aT [0,1,2] hm Q Q)
    replace hm:=JT hq44 hm;exact aE 9 Q (aT [0,1,2] hm Q Q)
   refine WN [1,3,8,9,36,37,68] Q Q (bH hm Q (λh47 hm=>?_) (λh47 hm=>?_))
   ·exact aR 3 Q (SX Q Q (bV Q qK cH Q Q Q Q) (SX Q Q (cF [.tmp 71] TK Q Q cH Q Q Q Q Q) (GE hm λg48 hm=>cB (f:=Ac.enc) ([(⟨(6:Int),x33,(0:Int)⟩:Ac)]:List Ac) TK Q Q cH Q Q Q Q Q (λh=>absurd h (zQV _)) Q bZ g48 Q Q (aG 5 Q (GE hm λg49 hm=>SX Q Q (bI Q Q Q Q g49) (aE 2 Q (aX [0,1,2] hm Q Q)))))))
   exact aR 4 Q (GE hm λg50 hm=>SX Q Q (bI Q Q Q Q g50) (aE 2 Q (aX [0,1,2] hm Q Q)))
  refine aM 2 Q (IE hm λv51 hm hz=>?_);rw [hz35 _ hz] at hm;exact WX (bD 1 Q (aT [0,1,2] hm Q Q))
 refine WN [8] Q Q (aM 6 Q ?_);obtain rfl:=OJ hm;exact EndsS.one _ Q (bQ Q) (.refl _)
theorem rD {p0:(List Av)} {p1:Av->Av->Option Bool} {p2:Av->Av->Option Ac} {r:(List Ac)} {c1:D} (hf1:∀ a0 a1 r,p1 a0 a1=some r->∃ F cs,qEE c1=some (F,cs)/\RetD TP F ([a0.enc,a1.enc]++cs) (.bool (r))) {c2:D} (hf2:∀ a0 a1 r,p2 a0 a1=some r->∃ F cs,qEE c2=some (F,cs)/\RetD TP F ([a0.enc,a1.enc]++cs) (r.enc)) (hm:dL p0 p1 p2=some r):Ret TP 76 [] (λ_=>false) ([.sl 32 (p0.map Av.enc),c1,c2].map .d) (.msl 0 3 0 r.length) [.flat 83 3 (r.map Ac.enc)]:=by
 refine iC (aZ Q) func76 Q ntmps76 Q Q (λwX gX=>?_);unfold dL at hm;refine WN [0,1,2] Q Q (aO 1 Q (cM (f:=Ac.enc) 0 83 3 Q Q Q (aG 3 Q (cM (f:=Ac.enc) 1 83 3 Q Q Q (aL 2 Q (aP hm (λb1=>([(7,.msl 1 3 0 b1.length)])) (λb1=>([(1,.flat 83 3 (b1.map Ac.enc))])) [7] [] Q (λz2 hm=>?_) (λb1 hm=>?_)))))))
 ·refine aO 2 Q (SX Q Q (aN TK Q Q Q) (aL 4 Q (aV hm (λ(x6,b7)=>([(7,.msl 1 3 0 b7.length),(14,.d (.int .i64 x6))])) (λ(x6,b7)=>([(1,.flat 83 3 (b7.map Ac.enc))])) [7,14] [0,1,2,12,13] [0,1] Q k0 Q Q Q Q Q (λs z8 hm hz8=>?_))));obtain⟨x6,b7⟩:=s;refine WN [0,1,2,7,12,13,14] Q Q (bN 5 Q (bL hm Q (λh9 hm=>?_) (λh9 hm=>?_)))
  ·refine bM 2 Q (aP hm (λb10=>([(7,.msl 1 3 0 b10.length)])) (λb10=>([(1,.flat 83 3 (b10.map Ac.enc))])) [7] [0,1,2,12,13,14] Q (λz11 hm=>?_) (λb10 hm=>?_))
   ·refine aO 3 Q (VE hm λe12 he12 hm=>SX Q Q (bA TK Q Q Q Q he12) (aG 1 Q (cK 2 Q Q pK Q (cV 2 [some 3,none,none,none,none,none,none,none,none,none,none,none,none,none,none,none,none,none,none,none,none,none,none,none,some 4,some 2,none,none,none,none,none,none] Q Q (aG 7 Q (GE hm λg13 hm=>SX Q Q (bI Q Q Q Q g13) (GE hm λg14 hm=>SX Q Q (yZ TK Q Q Q Q Q g14) (SX Q Q (aN TK Q Q Q) (aL 4 Q (aV hm (λ(x18,b19)=>([(7,.msl 1 3 0 b19.length),(24,.d (.int .i64 x18))])) (λ(x18,b19)=>([(1,.flat 83 3 (b19.map Ac.enc))])) [7,24] [0,1,2,9,12,13,14,22,23] [0,1,2] Q k0 Q Q Q Q Q (λs z20 hm hz20=>?_)))))))))));obtain⟨x18,b19⟩:=s;refine WN [0,1,2,7,9,12,13,14,22,23,24] Q Q (bN 5 Q (bL hm Q (λh21 hm=>?_) (λh21 hm=>?_)))
    ·refine aR 5 Q (VE hm λe22 he22 hm=>SX Q Q (bA TK Q Q Q Q he22) (aG 1 Q (cK 3 Q Q pK Q (cV 3 [some 3,none,none,none,none,none,none,none,none,none,none,none,none,none,none,none,none,none,none,none,none,none,none,none,some 4,some 2,none,none,none,none,none,none] Q Q (aG 7 Q (BE hm λr23 hr23 hm=>?_))))));obtain⟨Fr23,csr23,hFr23,hcr23⟩:=hf1 _ _ _ hr23;refine SX Q Q (vL Q Q hFr23 Q hcr23) (aL 2 Q (bH hm Q (λh24 hm=>?_) (λh24 hm=>?_)))
     ·refine aR 5 Q (BE hm λr25 hr25 hm=>?_);obtain⟨Fr25,csr25,hFr25,hcr25⟩:=hf2 _ _ _ hr25;exact SX Q Q (vL Q Q hFr25 Q hcr25) (SX Q Q (cF [.tmp 36] TK Q Q cH Q Q Q Q Q) (GE hm λg26 hm=>cB (f:=Ac.enc) ([r25]:List Ac) TK Q Q cH Q Q Q Q Q (λh=>absurd h (zQV _)) Q bZ g26 Q Q (aL 4 Q (WN [0,1,2,7,9,12,13,14,22,23,24] Q Q (aR 1 Q (GE hm λg27 hm=>SX Q Q (bI Q Q Q Q g27) (aE 2 Q (aX [0,1,2] hm Q Q))))))))
     exact aR 4 Q (GE hm λg28 hm=>SX Q Q (bI Q Q Q Q g28) (aE 2 Q (aX [0,1,2] hm Q Q)))
    refine aM 2 Q (IE hm λv29 hm hz=>?_);rw [hz20 _ hz] at hm;exact WX (bD 2 Q (aT [0,1] hm Q Q))
   exact WN [0,1,2,7,12,13,14] Q Q (aR 1 Q (GE hm λg30 hm=>SX Q Q (bI Q Q Q Q g30) (aE 2 Q (aX [0,1] hm Q Q))))
  refine aM 2 Q (IE hm λv31 hm hz=>?_);rw [hz8 _ hz] at hm;exact WX (bD 1 Q (aT [0,1] hm Q Q))
 refine WN [7] Q Q (aM 6 Q ?_);obtain rfl:=OJ hm;exact⟨_,[1],res Q,by decide,k0,Q,Q⟩
theorem uO {p0:Am} {r:(List Ac)} (hm:dI p0=some r):Ret TP 36 [] (λ_=>false) ([p0.enc].map .d) (.msl 0 3 0 r.length) [.flat 83 3 (r.map Ac.enc)]:=by
 refine iC (aZ Q) func36 Q ntmps36 Q Q (λwX gX=>?_);unfold dI at hm;refine WN [0] Q Q (aO 1 Q (bR 0 Q Q Q (cM (f:=Ac.enc) 1 83 3 Q Q Q (aL 2 Q (zGU 0 Q Q Q Q Q (aR 9 Q (BE hm λr1 hr1 hm=>tP Q Q Q (rD (λ_ _ r h=>⟨73,_,Q,(lP h).retD⟩) (λ_ _ r h=>⟨77,_,Q,(lO h).retD⟩) hr1) Q Q (qHW 8 (.msl 2 3 0 r1.length) Q Q (aE 4 Q ?_)))))))));obtain rfl:=OJ hm;exact⟨_,[2],res Q,by decide,k0,Q,Q⟩
theorem iS {p0:Am} {r:(List Ac)} (hm:eU p0=some r):RetD TP 11 [p0.enc] (.sl 3 (r.map Ac.enc)):=by
 refine .of (mv:=λ_=>false) (aJ (aZ Q) func11 Q ntmps11 Q Q (λwX gX=>?_));unfold eU at hm;refine WN [0] Q Q (aO 1 Q (bR 0 Q Q Q (aG 5 Q (BE hm λr1 hr1 hm=>tP Q Q Q (uO hr1) Q Q (qHW 7 (.msl 1 3 0 r1.length) Q Q (aL 3 Q (aP hm (λb2=>([(3,.msl 1 3 0 b2.length)])) (λb2=>([(1,.flat 83 3 (b2.map Ac.enc))])) [3] [1] Q (λz3 hm=>?_) (λb2 hm=>?_))))))))
 ·refine aO 3 Q (SX Q Q (aN TK Q Q Q) (aL 4 Q (aV hm (λ(x7,b8)=>([(3,.msl 1 3 0 b8.length),(11,.d (.int .i64 x7))])) (λ(x7,b8)=>([(1,.flat 83 3 (b8.map Ac.enc))])) [3,11] [1,9,10] [0,1] Q k0 Q Q Q Q Q (λs z9 hm hz9=>?_))));obtain⟨x7,b8⟩:=s;refine WN [1,3,9,10,11] Q Q (bN 5 Q (bL hm Q (λh10 hm=>?_) (λh10 hm=>?_)))
  ·refine aR 5 Q (VE hm λe11 he11 hm=>SX Q Q (bA TK Q Q Q Q he11) (aG 1 Q (cK 2 Q Q pK Q (cV 2 [some 3,none,none,none,none,none,none,none,none,none,none,none,none,none,none,none,none,none,none,none,none,none,none,none,some 4,some 2,none,none,none,none,none,none] Q Q (aL 3 Q (aP hm (λx12=>([(27,.d (.bool (x12)))])) (λx12=>[]) [27] [1,3,5,9,10,11] Q (λz13 hm=>?_) (λx12 hm=>?_)))))))
   ·refine aO 4 Q (c_N hm (yM ·) Q Q Q Q λr14 hm=>SB TK Q (λq15 hq15=>?_));cases q15
    ·replace hm:=JB hq15 hm;exact aE 9 Q (aT [0,1,2] hm Q Q)
    replace hm:=JA hq15 hm;exact aE 9 Q (aT [0,1,2] hm Q Q)
   refine WN [1,3,5,9,10,11,27] Q Q (bH hm Q (λh16 hm=>?_) (λh16 hm=>?_))
   ·exact aR 6 Q (SX Q Q (bV Q qK cH Q Q Q Q) (SX Q Q (cF [.tmp 33] TK Q Q cH Q Q Q Q Q) (GE hm λg17 hm=>cB (f:=Ac.enc) ([(⟨(2:Int),e11.cab.train.id,(0:Int)⟩:Ac)]:List Ac) TK Q Q cH Q Q Q Q Q (λh=>absurd h (zQV _)) Q bZ g17 Q Q (aG 5 Q (GE hm λg18 hm=>SX Q Q (bI Q Q Q Q g18) (aE 2 Q (aX [0,1] hm Q Q)))))))
   exact aR 4 Q (GE hm λg19 hm=>SX Q Q (bI Q Q Q Q g19) (aE 2 Q (aX [0,1] hm Q Q)))
  refine aM 2 Q (IE hm λv20 hm hz=>?_);rw [hz9 _ hz] at hm;exact WX (bD 1 Q (aT [0,1] hm Q Q))
 refine WN [1,3] Q Q (aP hm (λb21=>([(3,.msl 1 3 0 b21.length)])) (λb21=>([(1,.flat 83 3 (b21.map Ac.enc))])) [3] [1] Q (λz22 hm=>?_) (λb21 hm=>?_))
 ·refine aO 5 Q (c_N hm (qJE ·) Q Q Q Q λr23 hm=>aL 3 Q (bH hm Q (λh24 hm=>?_) (λh24 hm=>?_)))
  ·exact aR 2 Q (SX Q Q (bV Q qK cH Q Q Q Q) (SX Q Q (cF [.tmp 44] TK Q Q cH Q Q Q Q Q) (GE hm λg25 hm=>cB (f:=Ac.enc) ([(⟨(3:Int),(0:Int),(0:Int)⟩:Ac)]:List Ac) TK Q Q cH Q Q Q Q Q (λh=>absurd h (zQV _)) Q bZ g25 Q Q (aE 2 Q (aT [0,1] hm Q Q)))))
  exact aM 1 Q (aT [0,1] hm Q Q)
 refine WN [1,3] Q Q (aR 3 Q (c_D hm (qDQ ·) Q Q Q Q λr26 hm=>GE hm λg27 hm=>cB (f:=Ac.enc) r26 TK Q Q cH Q Q Q Q Q (λh=>absurd h (zQV _)) Q bZ g27 Q Q (aG 6 Q (c_D hm (qBK ·) Q Q Q Q λr28 hm=>GE hm λg29 hm=>cB (f:=Ac.enc) r28 TK Q Q cH Q Q Q Q Q (λh=>absurd h (zQV _)) Q bZ g29 Q Q (aG 6 Q (c_D hm (qBL ·) Q Q Q Q λr30 hm=>GE hm λg31 hm=>cB (f:=Ac.enc) r30 TK Q Q cH Q Q Q Q Q (λh=>absurd h (zQV _)) Q bZ g31 Q Q (aE 4 Q ?_)))))));obtain rfl:=OJ hm;exact EndsS.one _ Q (bQ Q) (.refl _)
theorem rY {p0:Am} {r:Bool} (hm:iR p0=some r):RetN TP 12 [p0.enc] (.bool (r)):=by
 refine .unit (aJ (aZ Q) func12 Q ntmps12 Q Q (λwX gX=>?_)) Q;unfold iR at hm;exact WN [0] Q Q (aO 1 Q (bR 0 Q Q Q (aG 5 Q (c_D hm (iS ·) Q Q Q Q λr1 hm=>SX Q Q (aN TK Q Q Q) (aE 5 Q (aS hm Q))))))
theorem lQ {p0:Am} {r:Bool} (hm:eQ p0=some r):RetN TP 13 [p0.enc] (.bool (r)):=by
 refine .unit (aJ (aZ Q) func13 Q ntmps13 Q Q (λwX gX=>?_)) Q;unfold eQ at hm;exact WN [0] Q Q (aO 1 Q (bR 0 Q Q Q (aG 5 Q (c_D hm (xK ·) Q Q Q Q λr1 hm=>SX Q Q (aN TK Q Q Q) (aE 5 Q (aS hm Q))))))
theorem xR {p0:Ag} {p1:(List Bd)} {p2:(List Bc)} {p3:(List A6)} {r0:Am} {r1:Int} (hm:wR p0 p1 p2 p3=some (r0,r1)):Ret TP 29 [] (λ_=>false) ([p0.enc,.sl 10 (p1.map Bd.enc),.sl 3 (p2.map Bc.enc),.sl 2 (p3.map A6.enc)].map .d) (.tup [.agg [.d (.str r0.layout.name),.d (.sl 1 (r0.layout.Ad.map D.str)),.d (.sl 7 (r0.layout.Af.map Aw.enc)),.d (.sl 4 (r0.layout.joints.map Ba.enc)),.d (.sl 4 (r0.layout.Ah.map A0.enc)),.d (.sl 3 (r0.layout.balises.map A4.enc)),.d (.sl 14 (r0.Aq.Ab.map Ai.enc)),.d (.sl 1 (r0.Aq.Ae.map (D.int .i64))),.d (.sl 1 (r0.Aq.A1.map (D.int .i64))),.d (.int .i64 r0.Aq.Ad),.d (.int .i64 r0.Aq.Ah),.d (.sl 3 (r0.inter.Ab.map Ak.enc)),.d (.sl 1 (r0.inter.lies.map (D.int .i64))),.d (.sl 3 (r0.machines.map Ar.enc)),.d (.sl 1 (r0.clear.map D.bool)),.msl 0 32 0 r0.units.length,.d (.sl 14 (r0.center.tracks.map A5.enc)),.d (.sl 4 (r0.center.sessions.map Ax.enc)),.d (.sl 4 (r0.air.map A9.enc)),.d (.sl 3 (r0.faults.map Be.enc)),.d (.sl 4 (r0.pending.map Bl.enc)),.d (.sl 4 (r0.possessions.map Ay.enc)),.d (.sl 6 (r0.restrictions.map Au.enc)),.d (.sl 3 (r0.orders.map Bf.enc)),.d (.sl 2 (r0.trips.map A6.enc)),.d (.sl 1 (r0.plan.starts.map (λ(l:List Int)=>D.sl 1 (l.map (D.int .i64))))),.d (.int .i64 r0.plan.cost),.d (.sl 1 (r0.progress.map (D.int .i64))),.d (.sl 5 (r0.decisions.map A3.enc)),.d (.int .i64 r0.now)],.d (.int .i64 r1)]) [.flat 81 32 (r0.units.map Av.enc)]:=by
 refine iC (aZ Q) func29 Q ntmps29 Q Q (λwX gX=>?_);unfold wR at hm;refine WN [0,1,2,3] Q Q (aO 1 Q (bR 0 Q Q Q (cK 1 Q Q qEW Q (fP (f:=Av.enc) 1 15 2 81 32 Q Q Q (cV 1 [none,some 1,some 7,some 4,some 4,some 3,some 14,some 1,some 1,none,none,some 3,some 1,some 3,some 1,none,some 14,some 4,some 4,some 3,some 4,some 4,some 6,some 3,some 2,some 1,none,some 1,some 5,none] Q Q (aG 5 Q (BE hm λr1 hr1 hm=>?_)))))));obtain⟨r2,r3⟩:=r1;refine SX Q Q (cT Q Q Q (xU hr1)) (aG 3 Q (cK 3 Q Q qBE Q (cV 3 [some 14,some 1,some 1,none,none] Q Q (aL 10 Q (eC hm Q (λh4 hm=>?_) (λh4 hm=>?_))))))
 ·cases hm
 refine aR 6 Q (BE hm λr5 hr5 hm=>?_);obtain⟨r6,r7⟩:=r5;refine SX Q Q (cT Q Q Q (qOE hr5)) (aG 3 Q (cK 4 Q Q qRR Q (cV 4 [some 14,some 4] Q Q (aL 4 Q (WN [1,2,3,4,8,10,11,12] Q Q (bM 6 Q (eC hm Q (λh8 hm=>?_) (λh8 hm=>?_))))))))
 ·cases hm
 refine bM 2 Q (cW (bJ follows (DA [0] TK Q ?_)));iterate 2 (refine DA [3] TK Q ?_)
 refine jN [] hm (qIL ·) Q Q Q Q λr9 hm=>DA [3] TK Q (jN [] hm (qIK ·) Q Q Q Q λr10 hm=>DA [] TK Q (DA [0] TK Q (DX [] Q Q (aN TK Q Q Q) (GE hm λg11 hm=>DX [] Q Q (qKN (f:=D.bool) (x:=false) TK Q Q qNI Q Q Q Q Q g11 Q) (DA [4] TK Q ?_)))));iterate 2 (refine DA [] TK Q ?_)
 refine DX [] Q Q (aN TK Q Q Q) (GE hm λg12 hm=>DX [] Q Q (qKN (f:=(D.int .i64)) (x:=(0:Int)) TK Q Q dF Q Q Q Q Q g12 Q) (DX [] Q Q (nW (v:=.d (.agg [(.str p0.name),(.sl 1 (p0.Ad.map D.str)),(.sl 7 (p0.Af.map Aw.enc)),(.sl 4 (p0.joints.map Ba.enc)),(.sl 4 (p0.Ah.map A0.enc)),(.sl 3 (p0.balises.map A4.enc)),(.sl 14 (r2.Ab.map Ai.enc)),(.sl 1 (r2.Ae.map (D.int .i64))),(.sl 1 (r2.A1.map (D.int .i64))),(.int .i64 r2.Ad),(.int .i64 r2.Ah),(.sl 3 (r9.Ab.map Ak.enc)),(.sl 1 (r9.lies.map (D.int .i64))),(.sl 3 (r10.map Ar.enc)),(.sl 1 ((List.replicate (p0.Ah.length:Int).toNat false).map D.bool)),.nilsl,(.sl 14 (r6.tracks.map A5.enc)),(.sl 4 (r6.sessions.map Ax.enc)),.nilsl,.nilsl,.nilsl,.nilsl,.nilsl,.nilsl,(.sl 2 (p3.map A6.enc)),.nilsl,(.int .i64 (0:Int)),(.sl 1 ((List.replicate (p3.length:Int).toNat (0:Int)).map (D.int .i64))),.nilsl,(.int .i64 (0:Int))])) Q plc55 qEW Q Q Q Q) (oJ [5] _ (.mptr 5 0 0 0) Q (eH Q) Q (lJ Q Q qEW Q Q) ?_)));refine DT ?_ (by kernel_rfl);refine aG 1 Q (fP (f:=Av.enc) 5 15 6 81 32 Q Q Q (cV 5 [none,none,none,none,none,none,none,none,none,none,none,none,none,none,none,none,none,none,some 4,some 3,some 4,some 4,some 6,some 3,none,some 1,none,none,some 5,none] Q Q (aL 2 Q (WN [1,2,3,4,8,10,13] Q Q (bF hm (λb13=>[]) (λb13=>([(5,.box 55 [.d (.str p0.name),.d (.sl 1 (p0.Ad.map D.str)),.d (.sl 7 (p0.Af.map Aw.enc)),.d (.sl 4 (p0.joints.map Ba.enc)),.d (.sl 4 (p0.Ah.map A0.enc)),.d (.sl 3 (p0.balises.map A4.enc)),.d (.sl 14 (r2.Ab.map Ai.enc)),.d (.sl 1 (r2.Ae.map (D.int .i64))),.d (.sl 1 (r2.A1.map (D.int .i64))),.d (.int .i64 r2.Ad),.d (.int .i64 r2.Ah),.d (.sl 3 (r9.Ab.map Ak.enc)),.d (.sl 1 (r9.lies.map (D.int .i64))),.d (.sl 3 (r10.map Ar.enc)),.d (.sl 1 ((List.replicate (p0.Ah.length:Int).toNat false).map D.bool)),.msl 6 32 0 b13.length,.d (.sl 14 (r6.tracks.map A5.enc)),.d (.sl 4 (r6.sessions.map Ax.enc)),.d (.sl 4 (([]:List A9).map A9.enc)),.d (.sl 3 (([]:List Be).map Be.enc)),.d (.sl 4 (([]:List Bl).map Bl.enc)),.d (.sl 4 (([]:List Ay).map Ay.enc)),.d (.sl 6 (([]:List Au).map Au.enc)),.d (.sl 3 (([]:List Bf).map Bf.enc)),.d (.sl 2 (p3.map A6.enc)),.d (.sl 1 (([]:List (List Int)).map (λ(l:List Int)=>D.sl 1 (l.map (D.int .i64))))),.d (.int .i64 (0:Int)),.d (.sl 1 ((List.replicate (p3.length:Int).toNat (0:Int)).map (D.int .i64))),.d (.sl 5 (([]:List A3).map A3.enc)),.d (.int .i64 (0:Int))]),(6,.flat 81 32 (b13.map Av.enc))])) [] [3,8,10,13] Q (λz14 hm hz14=>?_) (λb13 hm=>?_))))))
 ·refine bN 5 Q (aV hm (λ(i18,b19)=>([(14,.d (.int .i64 i18))])) (λ(i18,b19)=>([(5,.box 55 [.d (.str p0.name),.d (.sl 1 (p0.Ad.map D.str)),.d (.sl 7 (p0.Af.map Aw.enc)),.d (.sl 4 (p0.joints.map Ba.enc)),.d (.sl 4 (p0.Ah.map A0.enc)),.d (.sl 3 (p0.balises.map A4.enc)),.d (.sl 14 (r2.Ab.map Ai.enc)),.d (.sl 1 (r2.Ae.map (D.int .i64))),.d (.sl 1 (r2.A1.map (D.int .i64))),.d (.int .i64 r2.Ad),.d (.int .i64 r2.Ah),.d (.sl 3 (r9.Ab.map Ak.enc)),.d (.sl 1 (r9.lies.map (D.int .i64))),.d (.sl 3 (r10.map Ar.enc)),.d (.sl 1 ((List.replicate (p0.Ah.length:Int).toNat false).map D.bool)),.msl 6 32 0 b19.length,.d (.sl 14 (r6.tracks.map A5.enc)),.d (.sl 4 (r6.sessions.map Ax.enc)),.d (.sl 4 (([]:List A9).map A9.enc)),.d (.sl 3 (([]:List Be).map Be.enc)),.d (.sl 4 (([]:List Bl).map Bl.enc)),.d (.sl 4 (([]:List Ay).map Ay.enc)),.d (.sl 6 (([]:List Au).map Au.enc)),.d (.sl 3 (([]:List Bf).map Bf.enc)),.d (.sl 2 (p3.map A6.enc)),.d (.sl 1 (([]:List (List Int)).map (λ(l:List Int)=>D.sl 1 (l.map (D.int .i64))))),.d (.int .i64 (0:Int)),.d (.sl 1 ((List.replicate (p3.length:Int).toNat (0:Int)).map (D.int .i64))),.d (.sl 5 (([]:List A3).map A3.enc)),.d (.int .i64 (0:Int))]),(6,.flat 81 32 (b19.map Av.enc))])) [14] [1,2,3,4,8,10,13] [0,1,2,3,4,5,6] Q k0 Q Q Q Q Q (λs z20 hm hz20=>?_));obtain⟨i18,b19⟩:=s;refine WN [1,2,3,4,8,10,13,14] Q Q (aO 4 Q (SX Q Q (aN TK Q Q Q) (aL 3 Q (bL hm Q (λh21 hm=>?_) (λh21 hm=>?_)))))
  ·refine bM 5 Q (bJ follows ?_);iterate 3 (refine DA [0,1,2,3,4,5,6] TK Q ?_)
   refine VE hm λe22 he22 hm=>DX [0,1,2,3,4,5,6] Q Q (bA TK Q Q Q Q he22) (DA [0,1,2,3,4,5,6] TK Q (dK [0,1,2,3,4,5,6] hm (qBO ·) Q Q Q Q λr23 hm=>DA [0,1,2,3,4,5,6] TK Q ?_));refine DT ?_ (by kernel_rfl);refine aL 2 Q (WN [1,2,3,4,8,10,13,14,65] Q Q (bH hm Q (λh24 hm=>?_) (λh24 hm=>?_)))
   ·cases hm
   refine bM 2 Q (cW (dC follows (DA [] TK Q (DA [5] TK Q ?_))));iterate 2 (refine DA [] TK Q ?_)
   refine VE hm λe25 he25 hm=>DX [] Q Q (bA TK Q Q Q Q he25) ?_;iterate 3 (refine DA [] TK Q ?_)
   refine VE hm λe26 he26 hm=>DX [] Q Q (bA TK Q Q Q Q he26) (DA [] TK Q (jN [] hm (qOF ·) Q Q Q Q λr27 hm=>DX [] Q Q (bV Q plc81 pK Q Q Q Q) (DX [] Q Q (cF [.tmp 78] TK Q Q pK Q Q Q Q Q) (GE hm λg28 hm=>oJ [6,7] _ (.msl 7 32 0 (b19++([(⟨e25,(0:Int),(0:Int),(0:Int),r27⟩:Av)]:List Av)).length) Q (eH Q) Q (tL (f:=Av.enc) (xs:=b19) ([(⟨e25,(0:Int),(0:Int),(0:Int),r27⟩:Av)]:List Av) Q Q Q TK Q pK Q Q Q Q Q Q bZ g28) (DA [] TK Q ?_)))));refine DT ?_ (by kernel_rfl);exact aL 4 Q (WN [1,2,3,4,8,10,13,14] Q Q (aR 2 Q (GE hm λg29 hm=>SX Q Q (bI Q Q Q Q g29) (aE 2 Q (aX [0,1,2,3,4,5,7] hm Q Q)))))
  refine aM 2 Q (IE hm λv30 hm hz=>?_);rw [hz20 _ hz] at hm;exact WX (bD 1 Q (aX [0,1,2,3,4,5,6] hm Q Q))
 refine WN [3,8,10,13] Q Q (aR 4 Q (c_N hm (sA ·) Q Q Q Q λr31 hm=>aL 8 Q (eC hm Q (λh32 hm=>?_) (λh32 hm=>?_))))
 ·cases hm
 refine aR 5 Q (BE hm λr33 hr33 hm=>?_);obtain⟨r34,r35⟩:=r33;refine SX Q Q (cT Q Q Q (qID hr33)) (aG 3 Q (cK 7 Q Q qKM Q (cV 7 [some 1,none] Q Q (aL 4 Q (WN [8,11,13,16] Q Q (bM 6 Q (eC hm Q (λh36 hm=>?_) (λh36 hm=>?_))))))))
 ·cases hm
 refine bM 8 Q (WN [8,13] Q Q (bM 6 Q (WN [8,9] Q Q (aM 1 Q ?_))));obtain⟨rfl,rfl⟩:=Prod.mk.inj (Option.some.inj hm);exact⟨_,[6],.mk _ (.cons (.agg (TK.lay Q) Q Q Q Q) (.cons (.tmp 9) .nil)) Q,by decide,k0,Q,Q⟩
theorem yC  {r:Bool} (hm:oC=some r):RetN TP 8 [] (.bool (r)):=by
 refine .unit (aJ (aZ Q) func8 Q ntmps8 Q Q (λwX gX=>?_)) Q;unfold oC at hm;refine WN [] Q Q (aO 5 Q (BE hm λr1 hr1 hm=>?_));obtain⟨r2,r3⟩:=r1;refine SX Q Q (cT Q Q Q (qJF hr1)) (aG 3 Q (cK 0 Q Q yH Q (cK 1 Q Q qBD Q (cV 1 [some 3,none,none] Q Q (aL 4 Q (cW (cW (bJ follows (jN [] hm (qAA ·) Q Q Q Q λr4 hm=>DA [0] TK Q (DX [] Q Q (cF [.tmp 16] TK Q Q yH Q Q Q Q Q) (DA [1] TK Q (DX [] Q Q (cF [.tmp 18] TK Q Q qBD Q Q Q Q Q) ?_))))))))))));refine BE hm λr5 hr5 hm=>?_;obtain⟨r6,r7⟩:=r5;refine oJ [2] [(2,.flat 81 32 (r6.units.map Av.enc))] (.tup [.agg [.d (.str r6.layout.name),.d (.sl 1 (r6.layout.Ad.map D.str)),.d (.sl 7 (r6.layout.Af.map Aw.enc)),.d (.sl 4 (r6.layout.joints.map Ba.enc)),.d (.sl 4 (r6.layout.Ah.map A0.enc)),.d (.sl 3 (r6.layout.balises.map A4.enc)),.d (.sl 14 (r6.Aq.Ab.map Ai.enc)),.d (.sl 1 (r6.Aq.Ae.map (D.int .i64))),.d (.sl 1 (r6.Aq.A1.map (D.int .i64))),.d (.int .i64 r6.Aq.Ad),.d (.int .i64 r6.Aq.Ah),.d (.sl 3 (r6.inter.Ab.map Ak.enc)),.d (.sl 1 (r6.inter.lies.map (D.int .i64))),.d (.sl 3 (r6.machines.map Ar.enc)),.d (.sl 1 (r6.clear.map D.bool)),.msl 2 32 0 r6.units.length,.d (.sl 14 (r6.center.tracks.map A5.enc)),.d (.sl 4 (r6.center.sessions.map Ax.enc)),.d (.sl 4 (r6.air.map A9.enc)),.d (.sl 3 (r6.faults.map Be.enc)),.d (.sl 4 (r6.pending.map Bl.enc)),.d (.sl 4 (r6.possessions.map Ay.enc)),.d (.sl 6 (r6.restrictions.map Au.enc)),.d (.sl 3 (r6.orders.map Bf.enc)),.d (.sl 2 (r6.trips.map A6.enc)),.d (.sl 1 (r6.plan.starts.map (λ(l:List Int)=>D.sl 1 (l.map (D.int .i64))))),.d (.int .i64 r6.plan.cost),.d (.sl 1 (r6.progress.map (D.int .i64))),.d (.sl 5 (r6.decisions.map A3.enc)),.d (.int .i64 r6.now)],.d (.int .i64 r7)]) Q (eH Q) Q (qJM (Bs:=[.flat 81 32 (r6.units.map Av.enc)]) [2] (by intro i h;simp only [zQB,List.not_mem_nil,or_false] at h;rcases h with rfl<;>rfl) (by decide) Q Q Q Q ((xR hr5).args ((.cons (.refl _) (.cons (.refl _) (.cons (.refl _) (.cons (.nil _) .nil)))))) Q (by intro B h;simp only [zQB,List.not_mem_nil,or_false] at h;rcases h with rfl<;>rfl)) ?_;iterate 3 (refine DA [] TK Q ?_)
 refine oJ [3] _ (.mptr 3 0 0 0) Q (eH Q) Q (lJ Q Q qEW Q Q) (qQK 1000002 [3] [(3,.box 55 [.d (.str r6.layout.name),.d (.sl 1 (r6.layout.Ad.map D.str)),.d (.sl 7 (r6.layout.Af.map Aw.enc)),.d (.sl 4 (r6.layout.joints.map Ba.enc)),.d (.sl 4 (r6.layout.Ah.map A0.enc)),.d (.sl 3 (r6.layout.balises.map A4.enc)),.d (.sl 14 (r6.Aq.Ab.map Ai.enc)),.d (.sl 1 (r6.Aq.Ae.map (D.int .i64))),.d (.sl 1 (r6.Aq.A1.map (D.int .i64))),.d (.int .i64 r6.Aq.Ad),.d (.int .i64 r6.Aq.Ah),.d (.sl 3 (r6.inter.Ab.map Ak.enc)),.d (.sl 1 (r6.inter.lies.map (D.int .i64))),.d (.sl 3 (r6.machines.map Ar.enc)),.d (.sl 1 (r6.clear.map D.bool)),.msl 2 32 0 r6.units.length,.d (.sl 14 (r6.center.tracks.map A5.enc)),.d (.sl 4 (r6.center.sessions.map Ax.enc)),.d (.sl 4 (r6.air.map A9.enc)),.d (.sl 3 (r6.faults.map Be.enc)),.d (.sl 4 (r6.pending.map Bl.enc)),.d (.sl 4 (r6.possessions.map Ay.enc)),.d (.sl 6 (r6.restrictions.map Au.enc)),.d (.sl 3 (r6.orders.map Bf.enc)),.d (.sl 2 (r6.trips.map A6.enc)),.d (.sl 1 (r6.plan.starts.map (λ(l:List Int)=>D.sl 1 (l.map (D.int .i64))))),.d (.int .i64 r6.plan.cost),.d (.sl 1 (r6.progress.map (D.int .i64))),.d (.sl 5 (r6.decisions.map A3.enc)),.d (.int .i64 r6.now)])] (eH Q) Q (uT TK Q Q Q Q Q Q Q Q Q Q) ?_);refine DT ?_ (by kernel_rfl);refine aL 4 Q ?_;refine qTS 3 15 2 [1,2,3,4] Q Q Q Q Q Q (by simp) Q Q Q ?_;refine aP hm (λx8=>([(40,.d (.bool (x8)))])) (λx8=>[]) [40] [1,2,3] Q (λz9 hm=>?_) (λx8 hm=>?_)
 ·refine aO 3 Q (SB TK Q (λq10 hq10=>?_));cases q10
  ·replace hm:=eM hq10 hm;refine aG 1 Q (c_D hm (iS ·) Q Q Q Q λr11 hm=>SX Q Q (aN TK Q Q Q) (aG 2 Q (SB TK Q (λq12 hq12=>?_))));cases q12
   ·replace hm:=eM hq12 hm;refine aG 1 Q (c_N hm (rY ·) Q Q Q Q λr13 hm=>aG 2 Q (SB TK Q (λq14 hq14=>?_)));cases q14
    ·replace hm:=JB hq14 hm;exact aG 1 Q (c_N hm (lQ ·) Q Q Q Q λr15 hm=>aE 3 Q (aT [0,1,2,3] hm Q Q))
    replace hm:=JA hq14 hm;exact aE 5 Q (aT [0,1,2,3] hm Q Q)
   replace hm:=eL hq12 hm;exact aE 10 Q (aT [0,1,2,3] hm Q Q)
  replace hm:=eL hq10 hm;exact aE 16 Q (aT [0,1,2,3] hm Q Q)
 refine WN [1,2,3,40] Q Q (bH hm Q (λh16 hm=>?_) (λh16 hm=>?_))
 ·cases hm
 refine aR 3 Q (SX Q Q (cF [.const (Value.bool Bool.false),.const (Value.bool Bool.true)] TK Q Q qNI Q Q Q Q Q) (aG 6 Q (c_D hm (iS ·) Q Q Q Q λr17 hm=>aG 5 Q (cK 4 Q Q yH Q (aL 3 Q (WN [1,2,5,6] Q Q (bM 5 Q (WN [1,2,5,6] Q Q (cW (cW (bJ follows (jN [] hm (qAA ·) Q Q Q Q λr18 hm=>?_))))))))))));refine DA [0] TK Q (DA [4] TK Q (DX [] Q Q (cF [.tmp 49,.tmp 50] TK Q Q yH Q Q Q Q Q) (DA [1] TK Q (DX [] Q Q (bV Q qSR fL Q Q Q Q) (DX [] Q Q (cF [.tmp 53] TK Q Q fL Q Q Q Q Q) (DX [] Q Q (bV Q zGL qBD Q Q Q Q) (DX [] Q Q (cF [.tmp 52,.tmp 55] TK Q Q qBD Q Q Q Q Q) (BE hm λr19 hr19 hm=>?_))))))));obtain⟨r20,r21⟩:=r19;refine oJ [5] [(5,.flat 81 32 (r20.units.map Av.enc))] (.tup [.agg [.d (.str r20.layout.name),.d (.sl 1 (r20.layout.Ad.map D.str)),.d (.sl 7 (r20.layout.Af.map Aw.enc)),.d (.sl 4 (r20.layout.joints.map Ba.enc)),.d (.sl 4 (r20.layout.Ah.map A0.enc)),.d (.sl 3 (r20.layout.balises.map A4.enc)),.d (.sl 14 (r20.Aq.Ab.map Ai.enc)),.d (.sl 1 (r20.Aq.Ae.map (D.int .i64))),.d (.sl 1 (r20.Aq.A1.map (D.int .i64))),.d (.int .i64 r20.Aq.Ad),.d (.int .i64 r20.Aq.Ah),.d (.sl 3 (r20.inter.Ab.map Ak.enc)),.d (.sl 1 (r20.inter.lies.map (D.int .i64))),.d (.sl 3 (r20.machines.map Ar.enc)),.d (.sl 1 (r20.clear.map D.bool)),.msl 5 32 0 r20.units.length,.d (.sl 14 (r20.center.tracks.map A5.enc)),.d (.sl 4 (r20.center.sessions.map Ax.enc)),.d (.sl 4 (r20.air.map A9.enc)),.d (.sl 3 (r20.faults.map Be.enc)),.d (.sl 4 (r20.pending.map Bl.enc)),.d (.sl 4 (r20.possessions.map Ay.enc)),.d (.sl 6 (r20.restrictions.map Au.enc)),.d (.sl 3 (r20.orders.map Bf.enc)),.d (.sl 2 (r20.trips.map A6.enc)),.d (.sl 1 (r20.plan.starts.map (λ(l:List Int)=>D.sl 1 (l.map (D.int .i64))))),.d (.int .i64 r20.plan.cost),.d (.sl 1 (r20.progress.map (D.int .i64))),.d (.sl 5 (r20.decisions.map A3.enc)),.d (.int .i64 r20.now)],.d (.int .i64 r21)]) Q (eH Q) Q (qJM (Bs:=[.flat 81 32 (r20.units.map Av.enc)]) [5] (by intro i h;simp only [zQB,List.not_mem_nil,or_false] at h;rcases h with rfl<;>rfl) (by decide) Q Q Q Q ((xR hr19).args ((.cons (.refl _) (.cons (.refl _) (.cons (.refl _) (.cons (.nil _) .nil)))))) Q (by intro B h;simp only [zQB,List.not_mem_nil,or_false] at h;rcases h with rfl<;>rfl)) ?_;iterate 3 (refine DA [] TK Q ?_)
 refine oJ [6] _ (.mptr 6 0 0 0) Q (eH Q) Q (lJ Q Q qEW Q Q) (qQK 1000004 [6] [(6,.box 55 [.d (.str r20.layout.name),.d (.sl 1 (r20.layout.Ad.map D.str)),.d (.sl 7 (r20.layout.Af.map Aw.enc)),.d (.sl 4 (r20.layout.joints.map Ba.enc)),.d (.sl 4 (r20.layout.Ah.map A0.enc)),.d (.sl 3 (r20.layout.balises.map A4.enc)),.d (.sl 14 (r20.Aq.Ab.map Ai.enc)),.d (.sl 1 (r20.Aq.Ae.map (D.int .i64))),.d (.sl 1 (r20.Aq.A1.map (D.int .i64))),.d (.int .i64 r20.Aq.Ad),.d (.int .i64 r20.Aq.Ah),.d (.sl 3 (r20.inter.Ab.map Ak.enc)),.d (.sl 1 (r20.inter.lies.map (D.int .i64))),.d (.sl 3 (r20.machines.map Ar.enc)),.d (.sl 1 (r20.clear.map D.bool)),.msl 5 32 0 r20.units.length,.d (.sl 14 (r20.center.tracks.map A5.enc)),.d (.sl 4 (r20.center.sessions.map Ax.enc)),.d (.sl 4 (r20.air.map A9.enc)),.d (.sl 3 (r20.faults.map Be.enc)),.d (.sl 4 (r20.pending.map Bl.enc)),.d (.sl 4 (r20.possessions.map Ay.enc)),.d (.sl 6 (r20.restrictions.map Au.enc)),.d (.sl 3 (r20.orders.map Bf.enc)),.d (.sl 2 (r20.trips.map A6.enc)),.d (.sl 1 (r20.plan.starts.map (λ(l:List Int)=>D.sl 1 (l.map (D.int .i64))))),.d (.int .i64 r20.plan.cost),.d (.sl 1 (r20.progress.map (D.int .i64))),.d (.sl 5 (r20.decisions.map A3.enc)),.d (.int .i64 r20.now)])] (eH Q) Q (uT TK Q Q Q Q Q Q Q Q Q Q) ?_);refine DT ?_ (by kernel_rfl);refine aL 3 Q (WN [2,5,7,8] Q Q (bM 1 Q ?_));refine cI [(67,.d (.bool (((!(decide (r21=(0:Int))))||(!(decide ((r20.units.length:Int)=(2:Int))))))))] [67] [2,5,7] Q ?_ ?_
 ·refine aO 3 Q (SB TK Q (λq22 hq22=>?_));cases q22
  ·refine aE 6 Q ?_;exact⟨[0,1,2,3,4,5,6],Q,k0,aW (aI (aK (by first|(simp [hq22];done)|(simp only [hq22];simp))) Q) Q⟩
  refine aE 6 Q ?_;exact⟨[0,1,2,3,4,5,6],Q,k0,aW (aI (aK (by first|(simp [hq22];done)|(simp only [hq22];simp))) Q) Q⟩
 refine WN [2,5,7,67] Q Q (bH hm Q (λh23 hm=>?_) (λh23 hm=>?_))
 ·cases hm
 refine aR 6 Q (VE hm λe24 he24 hm=>SX Q Q (mH TK Q Q Q Q he24 Q) (aG 1 Q (qNX (x':=(⟨r3,e24.speed,e24.xV,e24.braking,e24.cab⟩:Av)) TK Q Q Q Q Q he24.2 Q Q Q (sQ 69 (r20.units.set (1:Int).toNat (⟨r3,e24.speed,e24.xV,e24.braking,e24.cab⟩:Av)).length Q List.length_set.symm ?_))));refine s_eqB 6 [.d (.str r20.layout.name),.d (.sl 1 (r20.layout.Ad.map D.str)),.d (.sl 7 (r20.layout.Af.map Aw.enc)),.d (.sl 4 (r20.layout.joints.map Ba.enc)),.d (.sl 4 (r20.layout.Ah.map A0.enc)),.d (.sl 3 (r20.layout.balises.map A4.enc)),.d (.sl 14 (r20.Aq.Ab.map Ai.enc)),.d (.sl 1 (r20.Aq.Ae.map (D.int .i64))),.d (.sl 1 (r20.Aq.A1.map (D.int .i64))),.d (.int .i64 r20.Aq.Ad),.d (.int .i64 r20.Aq.Ah),.d (.sl 3 (r20.inter.Ab.map Ak.enc)),.d (.sl 1 (r20.inter.lies.map (D.int .i64))),.d (.sl 3 (r20.machines.map Ar.enc)),.d (.sl 1 (r20.clear.map D.bool)),.msl 5 32 0 (r20.units.set (1:Int).toNat (⟨r3,e24.speed,e24.xV,e24.braking,e24.cab⟩:Av)).length,.d (.sl 14 (r20.center.tracks.map A5.enc)),.d (.sl 4 (r20.center.sessions.map Ax.enc)),.d (.sl 4 (r20.air.map A9.enc)),.d (.sl 3 (r20.faults.map Be.enc)),.d (.sl 4 (r20.pending.map Bl.enc)),.d (.sl 4 (r20.possessions.map Ay.enc)),.d (.sl 6 (r20.restrictions.map Au.enc)),.d (.sl 3 (r20.orders.map Bf.enc)),.d (.sl 2 (r20.trips.map A6.enc)),.d (.sl 1 (r20.plan.starts.map (λ(l:List Int)=>D.sl 1 (l.map (D.int .i64))))),.d (.int .i64 r20.plan.cost),.d (.sl 1 (r20.progress.map (D.int .i64))),.d (.sl 5 (r20.decisions.map A3.enc)),.d (.int .i64 r20.now)] Q (by simp only [List.length_set]<;>rfl) ?_;refine aL 2 Q (WN [5,7] Q Q ?_);refine qTS 6 15 5 [5,7] Q Q Q Q Q Q (by simp) Q Q Q ?_;refine aR 2 Q (c_D hm (iS ·) Q Q Q Q λr25 hm=>aL 3 Q (WN [5,7,9] Q Q (aP hm (λx26=>([(0,.d (.bool (x26)))])) (λx26=>[]) [0] [] Q (λz27 hm=>?_) (λx26 hm=>?_))))
 ·refine aO 2 Q (SX Q Q (aN TK Q Q Q) (aG 1 Q (SB TK Q (λq28 hq28=>?_))));cases q28
  ·replace hm:=JF hq28 hm;exact aE 30 Q (aT [0,1,2,3,4,5,6] hm Q Q)
  replace hm:=JT hq28 hm;refine aG 1 Q (VE hm λe29 he29 hm=>SX Q Q (bA TK Q Q Q Q he29) (aG 1 Q (SX Q Q (bV Q qK cH Q Q Q Q) (GE hm λg30 hm=>SX Q Q (qHM Q Q Q g30.1 g30.2) (aG 1 Q (SB TK Q (λq32 hq32=>?_)))))));cases q32
  ·replace hm:=JF hq32 hm;exact aE 23 Q (aT [0,1,2,3,4,5,6] hm Q Q)
  replace hm:=JT hq32 hm;refine aG 1 Q (SX Q Q (aN TK Q Q Q) (aG 2 Q (SB TK Q (λq33 hq33=>?_))));cases q33
  ·replace hm:=JF hq33 hm;exact aE 18 Q (aT [0,1,2,3,4,5,6] hm Q Q)
  replace hm:=JT hq33 hm;refine aG 1 Q (VE hm λe34 he34 hm=>SX Q Q (bA TK Q Q Q Q he34) (aG 1 Q (SX Q Q (bV Q qK cH Q Q Q Q) (GE hm λg35 hm=>SX Q Q (qHM Q Q Q g35.1 g35.2) (aG 1 Q (SB TK Q (λq37 hq37=>?_)))))));cases q37
  ·replace hm:=JF hq37 hm;exact aE 11 Q (aT [0,1,2,3,4,5,6] hm Q Q)
  replace hm:=JT hq37 hm;refine aG 1 Q (c_N hm (rY ·) Q Q Q Q λr38 hm=>aG 2 Q (SB TK Q (λq39 hq39=>?_)));cases q39
  ·replace hm:=JB hq39 hm;exact aE 6 Q (aT [0,1,2,3,4,5,6] hm Q Q)
  replace hm:=JA hq39 hm;exact aG 1 Q (c_N hm (lQ ·) Q Q Q Q λr40 hm=>aE 4 Q (aT [0,1,2,3,4,5,6] hm Q Q))
 exact WN [0] Q Q (aM 1 Q (aS hm Q))
theorem yJ {p0:Am} {r:(List Ac)} (hm:dX p0=some r):RetD TP 31 [p0.enc] (.sl 3 (r.map Ac.enc)):=by
 refine .of (mv:=λ_=>false) (aJ (aZ Q) func31 Q ntmps31 Q Q (λwX gX=>?_));unfold dX at hm;refine WN [0] Q Q (aO 1 Q (bR 0 Q Q Q (aG 4 Q (cM (f:=Ac.enc) 1 83 3 Q Q Q (aL 2 Q (aP hm (λb1=>([(3,.msl 1 3 0 b1.length)])) (λb1=>([(1,.flat 83 3 (b1.map Ac.enc))])) [3] [] Q (λz2 hm=>?_) (λb1 hm=>?_)))))))
 ·refine bN 5 Q (aV hm (λ(a6,b7)=>([(3,.msl 1 3 0 b7.length),(4,.d (.int .i64 a6))])) (λ(a6,b7)=>([(1,.flat 83 3 (b7.map Ac.enc))])) [3,4] [1] [0,1] Q k0 Q Q Q Q Q (λs z8 hm hz8=>?_));obtain⟨a6,b7⟩:=s;refine WN [1,3,4] Q Q (aO 5 Q (SX Q Q (aN TK Q Q Q) (aL 3 Q (bL hm Q (λh9 hm=>?_) (λh9 hm=>?_)))))
  ·refine bM 2 Q (aP hm (λb10=>([(3,.msl 1 3 0 b10.length)])) (λb10=>([(1,.flat 83 3 (b10.map Ac.enc))])) [3] [1,4] Q (λz11 hm=>?_) (λb10 hm=>?_))
   ·refine aO 3 Q (GE hm λg12 hm=>SX Q Q (bI Q Q Q Q g12) (aL 4 Q (aV hm (λ(b16,b17)=>([(3,.msl 1 3 0 b17.length),(5,.d (.int .i64 b16))])) (λ(b16,b17)=>([(1,.flat 83 3 (b17.map Ac.enc))])) [3,5] [1,4] [0,1] Q k0 Q Q Q Q Q (λs z18 hm hz18=>?_))));obtain⟨b16,b17⟩:=s;refine WN [1,3,4,5] Q Q (aO 5 Q (SX Q Q (aN TK Q Q Q) (aL 3 Q (bL hm Q (λh19 hm=>?_) (λh19 hm=>?_)))))
    ·refine bM 4 Q (bJ follows ?_);iterate 5 (refine DA [0,1] TK Q ?_)
     refine VE hm λe20 he20 hm=>DX [0,1] Q Q (bA TK Q Q Q Q he20) ?_;iterate 2 (refine DA [0,1] TK Q ?_)
     refine jN [0,1] hm (fC ·) Q Q Q Q λr21 hm=>?_;iterate 5 (refine DA [0,1] TK Q ?_)
     refine VE hm λe22 he22 hm=>DX [0,1] Q Q (bA TK Q Q Q Q he22) ?_;iterate 2 (refine DA [0,1] TK Q ?_)
     refine jN [0,1] hm (fC ·) Q Q Q Q λr23 hm=>jN [0,1] hm (qJ ·) Q Q Q Q λr24 hm=>DX [0,1] Q Q (aN TK Q Q Q) (DA [0,1] TK Q ?_);refine DT ?_ (by kernel_rfl);refine aL 2 Q (WN [1,3,4,5,42] Q Q (bL hm Q (λh25 hm=>?_) (λh25 hm=>?_)))
     ·refine dC follows ?_;iterate 4 (refine DA [0,1] TK Q ?_)
      refine VE hm λe26 he26 hm=>DX [0,1] Q Q (bA TK Q Q Q Q he26) ?_;iterate 7 (refine DA [0,1] TK Q ?_)
      refine VE hm λe27 he27 hm=>DX [0,1] Q Q (bA TK Q Q Q Q he27) ?_;iterate 4 (refine DA [0,1] TK Q ?_)
      refine DX [0,1] Q Q (bV Q qK cH Q Q Q Q) (DX [0,1] Q Q (cF [.tmp 60] TK Q Q cH Q Q Q Q Q) ?_);refine DT ?_ (by kernel_rfl);exact GE hm λg28 hm=>cB (f:=Ac.enc) ([(⟨(1:Int),e26.cab.train.id,e27.cab.train.id⟩:Ac)]:List Ac) TK Q Q cH Q Q Q Q Q (λh=>absurd h (zQV _)) Q bZ g28 Q Q (aL 4 Q (WN [1,3,4,5] Q Q (aR 2 Q (GE hm λg29 hm=>SX Q Q (bI Q Q Q Q g29) (aE 2 Q (aX [0,1] hm Q Q))))))
     exact aR 5 Q (GE hm λg30 hm=>SX Q Q (bI Q Q Q Q g30) (aE 2 Q (aX [0,1] hm Q Q)))
    refine aM 2 Q (IE hm λv31 hm hz=>?_);rw [hz18 _ hz] at hm;exact WX (bD 2 Q (aT [0,1] hm Q Q))
   exact WN [1,3,4] Q Q (aR 2 Q (GE hm λg32 hm=>SX Q Q (bI Q Q Q Q g32) (aE 2 Q (aX [0,1] hm Q Q))))
  refine aM 2 Q (IE hm λv33 hm hz=>?_);rw [hz8 _ hz] at hm;exact WX (bD 1 Q (aT [0,1] hm Q Q))
 refine WN [3] Q Q (aM 6 Q ?_);obtain rfl:=OJ hm;exact EndsS.one _ Q (bQ Q) (.refl _)
theorem qBM {p0:Am} {r:(List Ac)} (hm:iT p0=some r):RetD TP 32 [p0.enc] (.sl 3 (r.map Ac.enc)):=by
 refine .of (mv:=λ_=>false) (aJ (aZ Q) func32 Q ntmps32 Q Q (λwX gX=>?_));unfold iT at hm;refine WN [0] Q Q (aO 1 Q (bR 0 Q Q Q (aG 4 Q (cM (f:=Ac.enc) 1 83 3 Q Q Q (aL 2 Q (aP hm (λb1=>([(3,.msl 1 3 0 b1.length)])) (λb1=>([(1,.flat 83 3 (b1.map Ac.enc))])) [3] [] Q (λz2 hm=>?_) (λb1 hm=>?_)))))))
 ·refine bN 5 Q (aV hm (λ(i6,b7)=>([(3,.msl 1 3 0 b7.length),(4,.d (.int .i64 i6))])) (λ(i6,b7)=>([(1,.flat 83 3 (b7.map Ac.enc))])) [3,4] [1] [0,1] Q k0 Q Q Q Q Q (λs z8 hm hz8=>?_));obtain⟨i6,b7⟩:=s;refine WN [1,3,4] Q Q (aO 5 Q (SX Q Q (aN TK Q Q Q) (aL 3 Q (bL hm Q (λh9 hm=>?_) (λh9 hm=>?_)))))
  ·refine aR 8 Q (VE hm λe10 he10 hm=>SX Q Q (bA TK Q Q Q Q he10) (aG 1 Q (cK 2 Q Q pK Q (cV 2 [some 3,none,none,none,none,none,none,none,none,none,none,none,none,none,none,none,none,none,none,none,none,none,none,none,some 4,some 2,none,none,none,none,none,none] Q Q (aL 3 Q (cI [(30,.d (.bool (((decide (e10.cab.mode=(2:Int)))&&(decide (e10.cab.auth.endV < e10.xV))))))] [30] [1,3,4,5] Q ?_ ?_))))))
   ·refine aO 5 Q (SB TK Q (λq11 hq11=>?_));cases q11
    ·refine aE 9 Q ?_;exact⟨[0,1,2],Q,k0,aW (aI (aK (by first|(simp [hq11];done)|(simp only [hq11];simp))) Q) Q⟩
    refine aE 9 Q ?_;exact⟨[0,1,2],Q,k0,aW (aI (aK (by first|(simp [hq11];done)|(simp only [hq11];simp))) Q) Q⟩
   refine WN [1,3,4,5,30] Q Q (bH hm Q (λh12 hm=>?_) (λh12 hm=>?_))
   ·exact aR 6 Q (SX Q Q (bV Q qK cH Q Q Q Q) (SX Q Q (cF [.tmp 36] TK Q Q cH Q Q Q Q Q) (GE hm λg13 hm=>cB (f:=Ac.enc) ([(⟨(2:Int),e10.cab.train.id,(0:Int)⟩:Ac)]:List Ac) TK Q Q cH Q Q Q Q Q (λh=>absurd h (zQV _)) Q bZ g13 Q Q (aG 6 Q (GE hm λg14 hm=>SX Q Q (bI Q Q Q Q g14) (aE 2 Q (aX [0,1] hm Q Q)))))))
   exact aR 5 Q (GE hm λg15 hm=>SX Q Q (bI Q Q Q Q g15) (aE 2 Q (aX [0,1] hm Q Q)))
  refine aM 2 Q (IE hm λv16 hm hz=>?_);rw [hz8 _ hz] at hm;exact WX (bD 1 Q (aT [0,1] hm Q Q))
 refine WN [3] Q Q (aM 6 Q ?_);obtain rfl:=OJ hm;exact EndsS.one _ Q (bQ Q) (.refl _)
theorem zJ {p0:Al} {p1:(List Ar)} {p2:Int} {r:(List Int)} (hm:iE p0 p1 p2=some r):RetD TP 71 [p0.enc,.sl 3 (p1.map Ar.enc),.int .i64 p2] (.sl 1 (r.map (D.int .i64))):=by
 refine .of (mv:=λ_=>false) (aJ (aZ Q) func71 Q ntmps71 Q Q (λwX gX=>?_));unfold iE at hm;refine WN [0,1,2] Q Q (aO 1 Q (bR 0 Q Q Q (aL 4 Q ?_)));refine cI [(15,.d (.bool (((decide (p2 < (0:Int)))||(decide ((32:Int) < p2))))))] [15] [1,2,3] Q ?_ ?_
 ·refine aO 3 Q (SB TK Q (λq1 hq1=>?_));cases q1
  ·refine aE 4 Q ?_;exact⟨[0],Q,k0,aW (aI (aK (by first|(simp [hq1];done)|(simp only [hq1];simp))) Q) Q⟩
  refine aE 4 Q ?_;exact⟨[0],Q,k0,aW (aI (aK (by first|(simp [hq1];done)|(simp only [hq1];simp))) Q) Q⟩
 refine WN [1,2,3,15] Q Q (bH hm Q (λh2 hm=>?_) (λh2 hm=>?_))
 ·refine bM 4 Q (uS 6 [some 1] Q (aM 2 Q ?_));obtain rfl:=OJ hm;exact EndsS.one _ Q (.d _) (.refl _)
 refine aR 4 Q (GE hm λg3 hm=>qZR (f:=(D.int .i64)) (x:=(0:Int)) 1 TK Q Q Q dF Q Q Q Q Q g3 Q (aL 3 Q (aP hm (λb4=>([(7,.msl 1 1 0 b4.length)])) (λb4=>([(1,.flat 3 1 (b4.map (D.int .i64)))])) [7] [] Q (λz5 hm=>?_) (λb4 hm=>?_))))
 ·refine aO 3 Q (SX Q Q (aN TK Q Q Q) (GE hm λg6 hm=>SX Q Q (bI Q Q Q Q g6) (aL 4 Q (aV hm (λ(i10,b11)=>([(7,.msl 1 1 0 b11.length),(8,.d (.int .i64 i10))])) (λ(i10,b11)=>([(1,.flat 3 1 (b11.map (D.int .i64)))])) [7,8] [1,2,3] [0,1] Q k0 Q Q Q Q Q (λs z12 hm hz12=>?_)))));obtain⟨i10,b11⟩:=s;refine WN [1,2,3,7,8] Q Q (bN 6 Q (bL hm Q (λh13 hm=>?_) (λh13 hm=>?_)))
  ·refine aR 8 Q (VE hm λe14 he14 hm=>SX Q Q (bA TK Q Q Q Q he14) (aL 5 Q ?_));refine cI [(37,.d (.bool (((decide (e14 < (0:Int)))||(decide (p2<=e14))))))] [37] [1,2,3,7,8,9] Q ?_ ?_
   ·refine aO 3 Q (SB TK Q (λq15 hq15=>?_));cases q15
    ·refine aE 5 Q ?_;exact⟨[0,1],Q,k0,aW (aI (aK (by first|(simp [hq15];done)|(simp only [hq15];simp))) Q) Q⟩
    refine aE 5 Q ?_;exact⟨[0,1],Q,k0,aW (aI (aK (by first|(simp [hq15];done)|(simp only [hq15];simp))) Q) Q⟩
   refine WN [1,2,3,7,8,9,37] Q Q (bH hm Q (λh16 hm=>?_) (λh16 hm=>?_))
   ·exact aR 6 Q (GE hm λg17 hm=>SX Q Q (bI Q Q Q Q g17) (aE 2 Q (aX [0,1] hm Q Q)))
   refine aR 5 Q (VE hm λe18 he18 hm=>SX Q Q (mH TK Q Q Q Q he18 Q) (qNX (x':=(0:Int)) TK Q Q Q Q Q he18.2 Q Q Q (sQ 7 (b11.set e14.toNat (0:Int)).length Q List.length_set.symm (sQ 38 (b11.set e14.toNat (0:Int)).length Q List.length_set.symm (aG 5 Q (SX Q Q (aN TK Q Q Q) (aL 3 Q (bL hm Q (λh19 hm=>?_) (λh19 hm=>?_)))))))))
   ·refine aR 5 Q (VE hm λe20 he20 hm=>SX Q Q (bA TK Q Q Q Q he20) (aG 2 Q (VE hm λe21 he21 hm=>SX Q Q (mH TK Q Q Q Q he21 Q) (qNX (x':=e20.pos) TK Q Q Q Q Q he21.2 Q Q Q (sQ 7 ((b11.set e14.toNat (0:Int)).set e14.toNat e20.pos).length Q List.length_set.symm (sQ 45 ((b11.set e14.toNat (0:Int)).set e14.toNat e20.pos).length Q List.length_set.symm (aL 3 Q (WN [1,2,3,7,8] Q Q (aR 2 Q (GE hm λg22 hm=>SX Q Q (bI Q Q Q Q g22) ?_))))))))));exact aE 2 Q (aX [0,1] hm Q Q)
   exact aR 5 Q (GE hm λg23 hm=>SX Q Q (bI Q Q Q Q g23) (aE 2 Q (aX [0,1] hm Q Q)))
  refine aM 2 Q (IE hm λv24 hm hz=>?_);rw [hz12 _ hz] at hm;exact WX (bD 1 Q (aT [0,1] hm Q Q))
 refine WN [7] Q Q (aM 6 Q ?_);obtain rfl:=OJ hm;exact EndsS.one _ Q (bQ Q) (.refl _)
theorem qFH {p0:Am} {r:(List Ac)} (hm:lT p0=some r):RetD TP 33 [p0.enc] (.sl 3 (r.map Ac.enc)):=by
 refine .of (mv:=λ_=>false) (aJ (aZ Q) func33 Q ntmps33 Q Q (λwX gX=>?_));unfold lT at hm;refine WN [0] Q Q (aO 1 Q (bR 0 Q Q Q (aG 4 Q (cM (f:=Ac.enc) 1 83 3 Q Q Q (aG 10 Q (SX Q Q (aN TK Q Q Q) (c_D hm (zJ ·) Q Q Q Q λr1 hm=>aL 3 Q (aP hm (λb2=>([(3,.msl 1 3 0 b2.length)])) (λb2=>([(1,.flat 83 3 (b2.map Ac.enc))])) [3] [] Q (λz3 hm=>?_) (λb2 hm=>?_)))))))))
 ·refine bN 5 Q (aV hm (λ(i7,b8)=>([(3,.msl 1 3 0 b8.length),(5,.d (.int .i64 i7))])) (λ(i7,b8)=>([(1,.flat 83 3 (b8.map Ac.enc))])) [3,5] [1,4] [0,1] Q k0 Q Q Q Q Q (λs z9 hm hz9=>?_));obtain⟨i7,b8⟩:=s;refine WN [1,3,4,5] Q Q (aO 5 Q (SX Q Q (aN TK Q Q Q) (aL 3 Q (bL hm Q (λh10 hm=>?_) (λh10 hm=>?_)))))
  ·refine bM 2 Q (aP hm (λb11=>([(3,.msl 1 3 0 b11.length)])) (λb11=>([(1,.flat 83 3 (b11.map Ac.enc))])) [3] [1,4,5] Q (λz12 hm=>?_) (λb11 hm=>?_))
   ·refine aO 5 Q (VE hm λe13 he13 hm=>SX Q Q (bA TK Q Q Q Q he13) (aL 11 Q (aV hm (λ(k17,b18)=>([(3,.msl 1 3 0 b18.length),(7,.d (.int .i64 k17))])) (λ(k17,b18)=>([(1,.flat 83 3 (b18.map Ac.enc))])) [3,7] [1,4,5,6] [0,1] Q k0 Q Q Q Q Q (λs z19 hm hz19=>?_))));obtain⟨k17,b18⟩:=s;refine WN [1,3,4,5,6,7] Q Q (aO 4 Q (SX Q Q (aN TK Q Q Q) (aL 3 Q (bL hm Q (λh20 hm=>?_) (λh20 hm=>?_)))))
    ·refine bM 4 Q (bJ follows ?_);iterate 5 (refine DA [0,1] TK Q ?_)
     refine VE hm λe21 he21 hm=>DX [0,1] Q Q (bA TK Q Q Q Q he21) ?_;iterate 2 (refine DA [0,1] TK Q ?_)
     refine VE hm λe22 he22 hm=>DX [0,1] Q Q (bA TK Q Q Q Q he22) ?_;iterate 4 (refine DA [0,1] TK Q ?_)
     refine VE hm λe23 he23 hm=>DX [0,1] Q Q (bA TK Q Q Q Q he23) ?_;iterate 4 (refine DA [0,1] TK Q ?_)
     refine VE hm λe24 he24 hm=>DX [0,1] Q Q (bA TK Q Q Q Q he24) ?_;iterate 2 (refine DA [0,1] TK Q ?_)
     refine BE hm λr25 hr25 hm=>?_;obtain⟨r26,r27⟩:=r25;refine DX [0,1] Q Q (cT Q Q Q (jR hr25)) ?_;iterate 4 (refine DA [0,1] TK Q ?_)
     refine DT ?_ (by kernel_rfl);refine aL 3 Q (WN [1,3,4,5,6,7,8] Q Q (aP hm (λx28=>([(77,.d (.bool (x28)))])) (λx28=>[]) [77] [1,3,4,5,6,7] Q (λz29 hm=>?_) (λx28 hm=>?_)))
     ·refine aO 3 Q (SB TK Q (λq30 hq30=>?_));cases q30
      ·replace hm:=eM hq30 hm;exact aE 12 Q (aT [0,1] hm Q Q)
      replace hm:=eL hq30 hm;exact aG 3 Q (VE hm λe31 he31 hm=>SX Q Q (bA TK Q Q Q Q he31) (aG 2 Q (VE hm λe32 he32 hm=>SX Q Q (bA TK Q Q Q Q he32) (aE 5 Q (aT [0,1] hm Q Q)))))
     refine WN [1,3,4,5,6,7,77] Q Q (bH hm Q (λh33 hm=>?_) (λh33 hm=>?_))
     ·refine dC follows ?_;iterate 4 (refine DA [0,1] TK Q ?_)
      refine VE hm λe34 he34 hm=>DX [0,1] Q Q (bA TK Q Q Q Q he34) ?_;iterate 6 (refine DA [0,1] TK Q ?_)
      refine VE hm λe35 he35 hm=>DX [0,1] Q Q (bA TK Q Q Q Q he35) ?_;iterate 2 (refine DA [0,1] TK Q ?_)
      refine DX [0,1] Q Q (bV Q qK cH Q Q Q Q) (DX [0,1] Q Q (cF [.tmp 92] TK Q Q cH Q Q Q Q Q) ?_);refine DT ?_ (by kernel_rfl);exact GE hm λg36 hm=>cB (f:=Ac.enc) ([(⟨(4:Int),e34.cab.train.id,e35.el⟩:Ac)]:List Ac) TK Q Q cH Q Q Q Q Q (λh=>absurd h (zQV _)) Q bZ g36 Q Q (aL 4 Q (WN [1,3,4,5,6,7] Q Q (aR 2 Q (GE hm λg37 hm=>SX Q Q (bI Q Q Q Q g37) (aE 2 Q (aX [0,1] hm Q Q))))))
     exact aR 5 Q (GE hm λg38 hm=>SX Q Q (bI Q Q Q Q g38) (aE 2 Q (aX [0,1] hm Q Q)))
    refine aM 2 Q (IE hm λv39 hm hz=>?_);rw [hz19 _ hz] at hm;exact WX (bD 2 Q (aT [0,1] hm Q Q))
   exact WN [1,3,4,5] Q Q (aR 2 Q (GE hm λg40 hm=>SX Q Q (bI Q Q Q Q g40) (aE 2 Q (aX [0,1] hm Q Q))))
  refine aM 2 Q (IE hm λv41 hm hz=>?_);rw [hz9 _ hz] at hm;exact WX (bD 1 Q (aT [0,1] hm Q Q))
 refine WN [3] Q Q (aM 6 Q ?_);obtain rfl:=OJ hm;exact EndsS.one _ Q (bQ Q) (.refl _)
theorem qDR {p0:Am} {r:(List Ac)} (hm:kC p0=some r):RetD TP 34 [p0.enc] (.sl 3 (r.map Ac.enc)):=by
 refine .of (mv:=λ_=>false) (aJ (aZ Q) func34 Q ntmps34 Q Q (λwX gX=>?_));unfold kC at hm;refine WN [0] Q Q (aO 1 Q (bR 0 Q Q Q (aG 4 Q (cM (f:=Ac.enc) 1 83 3 Q Q Q (aL 2 Q (aP hm (λb1=>([(3,.msl 1 3 0 b1.length)])) (λb1=>([(1,.flat 83 3 (b1.map Ac.enc))])) [3] [] Q (λz2 hm=>?_) (λb1 hm=>?_)))))))
 ·refine bN 5 Q (aV hm (λ(x6,b7)=>([(3,.msl 1 3 0 b7.length),(4,.d (.int .i64 x6))])) (λ(x6,b7)=>([(1,.flat 83 3 (b7.map Ac.enc))])) [3,4] [1] [0,1] Q k0 Q Q Q Q Q (λs z8 hm hz8=>?_));obtain⟨x6,b7⟩:=s;refine WN [1,3,4] Q Q (aO 5 Q (SX Q Q (aN TK Q Q Q) (aL 3 Q (bL hm Q (λh9 hm=>?_) (λh9 hm=>?_)))))
  ·refine bM 2 Q (aP hm (λb10=>([(3,.msl 1 3 0 b10.length)])) (λb10=>([(1,.flat 83 3 (b10.map Ac.enc))])) [3] [1,4] Q (λz11 hm=>?_) (λb10 hm=>?_))
   ·refine bN 5 Q (aP hm (λfound12=>([(5,.d (.bool (found12)))])) (λfound12=>[]) [5] [1,3,4] Q (λz13 hm=>?_) (λfound12 hm=>?_))
    ·refine bN 5 Q (aV hm (λ(found16,x17)=>([(5,.d (.bool (found16))),(6,.d (.int .i64 x17))])) (λ(found16,x17)=>[]) [5,6] [1,3,4] [0,1] Q k0 Q Q Q Q Q (λs z18 hm hz18=>?_));obtain⟨found16,x17⟩:=s;refine WN [1,3,4,5,6] Q Q (aO 6 Q (SX Q Q (aN TK Q Q Q) (aL 3 Q (bL hm Q (λh19 hm=>?_) (λh19 hm=>?_)))))
     ·refine aR 6 Q (SB TK Q (λq20 hq20=>?_));cases q20
      ·replace hm:=JB hq20 hm;refine aG 4 Q (VE hm λe21 he21 hm=>SX Q Q (bA TK Q Q Q Q he21) (aG 4 Q (SB TK Q (λq22 hq22=>?_))));cases q22
       ·replace hm:=JF hq22 hm;exact aL 14 Q (WN [1,3,4,5,6] Q Q (aR 2 Q (GE hm λg23 hm=>SX Q Q (bI Q Q Q Q g23) (aE 2 Q (aX [0,1] hm Q Q)))))
       replace hm:=JT hq22 hm;exact aG 4 Q (VE hm λe24 he24 hm=>SX Q Q (bA TK Q Q Q Q he24) (aL 9 Q (WN [1,3,4,5,6] Q Q (aR 2 Q (GE hm λg25 hm=>SX Q Q (bI Q Q Q Q g25) (aE 2 Q (aX [0,1] hm Q Q)))))))
      replace hm:=JA hq20 hm;exact aL 24 Q (WN [1,3,4,5,6] Q Q (aR 2 Q (GE hm λg26 hm=>SX Q Q (bI Q Q Q Q g26) (aE 2 Q (aX [0,1] hm Q Q)))))
     refine aM 2 Q (IE hm λv27 hm hz=>?_);rw [hz18 _ hz] at hm;exact WX (bD 1 Q (aT [0,1] hm Q Q))
    refine WN [1,3,4,5] Q Q (aP hm (λx28=>([(52,.d (.bool (x28)))])) (λx28=>[]) [52] [1,3,4] Q (λz29 hm=>?_) (λx28 hm=>?_))
    ·refine aO 4 Q (VE hm λe30 he30 hm=>SX Q Q (bA TK Q Q Q Q he30) (aG 1 Q (SB TK Q (λq31 hq31=>?_))));cases q31
     ·replace hm:=JB hq31 hm;exact aE 4 Q (aT [0,1] hm Q Q)
     replace hm:=JA hq31 hm;exact aE 4 Q (aT [0,1] hm Q Q)
    refine WN [1,3,4,52] Q Q (bH hm Q (λh32 hm=>?_) (λh32 hm=>?_))
    ·exact aR 3 Q (SX Q Q (bV Q qK cH Q Q Q Q) (SX Q Q (cF [.tmp 55] TK Q Q cH Q Q Q Q Q) (GE hm λg33 hm=>cB (f:=Ac.enc) ([(⟨(5:Int),x6,(0:Int)⟩:Ac)]:List Ac) TK Q Q cH Q Q Q Q Q (λh=>absurd h (zQV _)) Q bZ g33 Q Q (aE 3 Q (aT [0,1] hm Q Q)))))
    exact aM 2 Q (aT [0,1] hm Q Q)
   exact WN [1,3,4] Q Q (aR 2 Q (GE hm λg34 hm=>SX Q Q (bI Q Q Q Q g34) (aE 2 Q (aX [0,1] hm Q Q))))
  refine aM 2 Q (IE hm λv35 hm hz=>?_);rw [hz8 _ hz] at hm;exact WX (bD 1 Q (aT [0,1] hm Q Q))
 refine WN [3] Q Q (aM 6 Q ?_);obtain rfl:=OJ hm;exact EndsS.one _ Q (bQ Q) (.refl _)
theorem qFI {p0:Am} {r:(List Ac)} (hm:lU p0=some r):RetD TP 35 [p0.enc] (.sl 3 (r.map Ac.enc)):=by
 refine .of (mv:=λ_=>false) (aJ (aZ Q) func35 Q ntmps35 Q Q (λwX gX=>?_));unfold lU at hm;refine WN [0] Q Q (aO 1 Q (bR 0 Q Q Q (aG 4 Q (cM (f:=Ac.enc) 1 83 3 Q Q Q (aL 2 Q (aP hm (λb1=>([(3,.msl 1 3 0 b1.length)])) (λb1=>([(1,.flat 83 3 (b1.map Ac.enc))])) [3] [] Q (λz2 hm=>?_) (λb1 hm=>?_)))))))
 ·refine bN 5 Q (aV hm (λ(x6,b7)=>([(3,.msl 1 3 0 b7.length),(4,.d (.int .i64 x6))])) (λ(x6,b7)=>([(1,.flat 83 3 (b7.map Ac.enc))])) [3,4] [1] [0,1] Q k0 Q Q Q Q Q (λs z8 hm hz8=>?_));obtain⟨x6,b7⟩:=s;refine WN [1,3,4] Q Q (aO 6 Q (SX Q Q (aN TK Q Q Q) (aL 3 Q (bL hm Q (λh9 hm=>?_) (λh9 hm=>?_)))))
  ·refine bM 2 Q (aP hm (λb10=>([(3,.msl 1 3 0 b10.length)])) (λb10=>([(1,.flat 83 3 (b10.map Ac.enc))])) [3] [1,4] Q (λz11 hm=>?_) (λb10 hm=>?_))
   ·refine bN 5 Q (aP hm (λn12=>([(5,.d (.int .i64 n12))])) (λn12=>[]) [5] [1,3,4] Q (λz13 hm=>?_) (λn12 hm=>?_))
    ·refine bN 5 Q (aV hm (λ(n16,i17)=>([(5,.d (.int .i64 n16)),(6,.d (.int .i64 i17))])) (λ(n16,i17)=>[]) [5,6] [1,3,4] [0,1] Q k0 Q Q Q Q Q (λs z18 hm hz18=>?_));obtain⟨n16,i17⟩:=s;refine WN [1,3,4,5,6] Q Q (aO 6 Q (SX Q Q (aN TK Q Q Q) (aL 3 Q (bL hm Q (λh19 hm=>?_) (λh19 hm=>?_)))))
     ·refine bM 2 Q (aP hm (λn20=>([(5,.d (.int .i64 n20))])) (λn20=>[]) [5] [1,3,4,6] Q (λz21 hm=>?_) (λn20 hm=>?_))
      ·refine aO 6 Q (VE hm λe22 he22 hm=>SX Q Q (bA TK Q Q Q Q he22) (aL 10 Q (aV hm (λ(n25,k26)=>([(5,.d (.int .i64 n25)),(8,.d (.int .i64 k26))])) (λ(n25,k26)=>[]) [5,8] [1,3,4,6,7] [0,1] Q k0 Q Q Q Q Q (λs z27 hm hz27=>?_))));obtain⟨n25,k26⟩:=s;refine WN [1,3,4,5,6,7,8] Q Q (aO 4 Q (SX Q Q (aN TK Q Q Q) (aL 3 Q (bL hm Q (λh28 hm=>?_) (λh28 hm=>?_)))))
       ·refine aR 7 Q (VE hm λe29 he29 hm=>SX Q Q (bA TK Q Q Q Q he29) (aL 5 Q (bL hm Q (λh30 hm=>?_) (λh30 hm=>?_))))
        ·exact aR 2 Q (GE hm λg31 hm=>SX Q Q (bI Q Q Q Q g31) (aG 6 Q (GE hm λg32 hm=>SX Q Q (bI Q Q Q Q g32) (aE 2 Q (aX [0,1] hm Q Q)))))
        exact aR 5 Q (GE hm λg33 hm=>SX Q Q (bI Q Q Q Q g33) (aE 2 Q (aX [0,1] hm Q Q)))
       refine aM 2 Q (IE hm λv34 hm hz=>?_);rw [hz27 _ hz] at hm;exact WX (bD 2 Q (aT [0,1] hm Q Q))
      exact WN [1,3,4,5,6] Q Q (aR 2 Q (GE hm λg35 hm=>SX Q Q (bI Q Q Q Q g35) (aE 2 Q (aX [0,1] hm Q Q))))
     refine aM 2 Q (IE hm λv36 hm hz=>?_);rw [hz18 _ hz] at hm;exact WX (bD 1 Q (aT [0,1] hm Q Q))
    refine WN [1,3,4,5] Q Q (aP hm (λx37=>([(61,.d (.bool (x37)))])) (λx37=>[]) [61] [1,3,4] Q (λz38 hm=>?_) (λx37 hm=>?_))
    ·refine aO 3 Q (SB TK Q (λq39 hq39=>?_));cases q39
     ·replace hm:=JF hq39 hm;refine aG 2 Q (SB TK Q (λq40 hq40=>?_));cases q40
      ·replace hm:=JF hq40 hm;exact aE 11 Q (aT [0,1] hm Q Q)
      replace hm:=JT hq40 hm;exact aG 4 Q (VE hm λe41 he41 hm=>SX Q Q (bA TK Q Q Q Q he41) (aE 6 Q (aT [0,1] hm Q Q)))
     replace hm:=JT hq39 hm;exact aE 14 Q (aT [0,1] hm Q Q)
    refine WN [1,3,4,61] Q Q (bH hm Q (λh42 hm=>?_) (λh42 hm=>?_))
    ·exact aR 3 Q (SX Q Q (bV Q qK cH Q Q Q Q) (SX Q Q (cF [.tmp 64] TK Q Q cH Q Q Q Q Q) (GE hm λg43 hm=>cB (f:=Ac.enc) ([(⟨(6:Int),x6,(0:Int)⟩:Ac)]:List Ac) TK Q Q cH Q Q Q Q Q (λh=>absurd h (zQV _)) Q bZ g43 Q Q (aE 3 Q (aT [0,1] hm Q Q)))))
    exact aM 2 Q (aT [0,1] hm Q Q)
   exact WN [1,3,4] Q Q (aR 2 Q (GE hm λg44 hm=>SX Q Q (bI Q Q Q Q g44) (aE 2 Q (aX [0,1] hm Q Q))))
  refine aM 2 Q (IE hm λv45 hm hz=>?_);rw [hz8 _ hz] at hm;exact WX (bD 1 Q (aT [0,1] hm Q Q))
 refine WN [3] Q Q (aM 6 Q ?_);obtain rfl:=OJ hm;exact EndsS.one _ Q (bQ Q) (.refl _)
theorem uZ {p0:Am} {r:(List Ac)} (hm:dX p0=some r):Ret TP 31 [] (λ_=>false) ([p0.enc].map .d) (.msl 0 3 0 r.length) [.flat 83 3 (r.map Ac.enc)]:=by
 refine iC (aZ Q) func31 Q ntmps31 Q Q (λwX gX=>?_);unfold dX at hm;refine WN [0] Q Q (aO 1 Q (bR 0 Q Q Q (cM (f:=Ac.enc) 1 83 3 Q Q Q (aG 3 Q (cM (f:=Ac.enc) 2 83 3 Q Q Q (aL 2 Q (aP hm (λb1=>([(3,.msl 2 3 0 b1.length)])) (λb1=>([(2,.flat 83 3 (b1.map Ac.enc))])) [3] [] Q (λz2 hm=>?_) (λb1 hm=>?_))))))))
 ·refine bN 5 Q (aV hm (λ(a6,b7)=>([(3,.msl 2 3 0 b7.length),(4,.d (.int .i64 a6))])) (λ(a6,b7)=>([(2,.flat 83 3 (b7.map Ac.enc))])) [3,4] [1] [0,1,2] Q k0 Q Q Q Q Q (λs z8 hm hz8=>?_));obtain⟨a6,b7⟩:=s;refine WN [1,3,4] Q Q (aO 5 Q (SX Q Q (aN TK Q Q Q) (aL 3 Q (bL hm Q (λh9 hm=>?_) (λh9 hm=>?_)))))
  ·refine bM 2 Q (aP hm (λb10=>([(3,.msl 2 3 0 b10.length)])) (λb10=>([(2,.flat 83 3 (b10.map Ac.enc))])) [3] [1,4] Q (λz11 hm=>?_) (λb10 hm=>?_))
   ·refine aO 3 Q (GE hm λg12 hm=>SX Q Q (bI Q Q Q Q g12) (aL 4 Q (aV hm (λ(b16,b17)=>([(3,.msl 2 3 0 b17.length),(5,.d (.int .i64 b16))])) (λ(b16,b17)=>([(2,.flat 83 3 (b17.map Ac.enc))])) [3,5] [1,4] [0,1,2] Q k0 Q Q Q Q Q (λs z18 hm hz18=>?_))));obtain⟨b16,b17⟩:=s;refine WN [1,3,4,5] Q Q (aO 5 Q (SX Q Q (aN TK Q Q Q) (aL 3 Q (bL hm Q (λh19 hm=>?_) (λh19 hm=>?_)))))
    ·refine bM 4 Q (bJ follows ?_);iterate 5 (refine DA [0,1,2] TK Q ?_)
     refine VE hm λe20 he20 hm=>DX [0,1,2] Q Q (bA TK Q Q Q Q he20) ?_;iterate 2 (refine DA [0,1,2] TK Q ?_)
     refine jN [0,1,2] hm (fC ·) Q Q Q Q λr21 hm=>?_;iterate 5 (refine DA [0,1,2] TK Q ?_)
     refine VE hm λe22 he22 hm=>DX [0,1,2] Q Q (bA TK Q Q Q Q he22) ?_;iterate 2 (refine DA [0,1,2] TK Q ?_)
     refine jN [0,1,2] hm (fC ·) Q Q Q Q λr23 hm=>jN [0,1,2] hm (qJ ·) Q Q Q Q λr24 hm=>DX [0,1,2] Q Q (aN TK Q Q Q) (DA [0,1,2] TK Q ?_);refine DT ?_ (by kernel_rfl);refine aL 2 Q (WN [1,3,4,5,42] Q Q (bL hm Q (λh25 hm=>?_) (λh25 hm=>?_)))
     ·refine dC follows ?_;iterate 4 (refine DA [0,1,2] TK Q ?_)
      refine VE hm λe26 he26 hm=>DX [0,1,2] Q Q (bA TK Q Q Q Q he26) ?_;iterate 7 (refine DA [0,1,2] TK Q ?_)
      refine VE hm λe27 he27 hm=>DX [0,1,2] Q Q (bA TK Q Q Q Q he27) ?_;iterate 4 (refine DA [0,1,2] TK Q ?_)
      refine DX [0,1,2] Q Q (bV Q qK cH Q Q Q Q) (DX [0,1,2] Q Q (cF [.tmp 60] TK Q Q cH Q Q Q Q Q) ?_);refine DT ?_ (by kernel_rfl);exact GE hm λg28 hm=>cB (f:=Ac.enc) ([(⟨(1:Int),e26.cab.train.id,e27.cab.train.id⟩:Ac)]:List Ac) TK Q Q cH Q Q Q Q Q (λh=>absurd h (zQV _)) Q bZ g28 Q Q (aL 4 Q (WN [1,3,4,5] Q Q (aR 2 Q (GE hm λg29 hm=>SX Q Q (bI Q Q Q Q g29) (aE 2 Q (aX [0,1,2] hm Q Q))))))
     exact aR 5 Q (GE hm λg30 hm=>SX Q Q (bI Q Q Q Q g30) (aE 2 Q (aX [0,1,2] hm Q Q)))
    refine aM 2 Q (IE hm λv31 hm hz=>?_);rw [hz18 _ hz] at hm;exact WX (bD 2 Q (aT [0,1,2] hm Q Q))
   exact WN [1,3,4] Q Q (aR 2 Q (GE hm λg32 hm=>SX Q Q (bI Q Q Q Q g32) (aE 2 Q (aX [0,1,2] hm Q Q))))
  refine aM 2 Q (IE hm λv33 hm hz=>?_);rw [hz8 _ hz] at hm;exact WX (bD 1 Q (aT [0,1,2] hm Q Q))
 refine WN [3] Q Q (aM 6 Q ?_);obtain rfl:=OJ hm;exact⟨_,[2],res Q,by decide,k0,Q,Q⟩
theorem qIA {p0:Am} {r:(List Ac)} (hm:nJ p0=some r):RetD TP 9 [p0.enc] (.sl 3 (r.map Ac.enc)):=by
 refine .of (mv:=λ_=>false) (aJ (aZ Q) func9 Q ntmps9 Q Q (λwX gX=>?_));unfold nJ at hm;refine WN [0] Q Q (aO 1 Q (bR 0 Q Q Q (aL 3 Q (cW (bJ follows (DA [0] TK Q (BE hm λr1 hr1 hm=>?_)))))));refine oJ [1] [(1,.flat 83 3 (r1.map Ac.enc))] (.msl 1 3 0 r1.length) Q (eH Q) Q (qZA (Bs:=[.flat 83 3 (r1.map Ac.enc)]) [1] (by intro i h;simp only [zQB,List.not_mem_nil,or_false] at h;rcases h with rfl<;>rfl) (by decide) Q Q Q Q (uZ hr1) (by intro B h;simp only [zQB,List.not_mem_nil,or_false] at h;rcases h with rfl<;>exact qXR (λ_=>Q)) (.msl _ _ _ _) Q (by intro B h;simp only [zQB,List.not_mem_nil,or_false] at h;rcases h with rfl<;>rfl)) ?_;refine DA [0] TK Q (jN [] hm (qBM ·) Q Q Q Q λr2 hm=>?_);refine DT ?_ (by kernel_rfl);refine GE hm λg3 hm=>cB (f:=Ac.enc) r2 TK Q Q cH Q Q Q Q Q (λh=>absurd h (zQV _)) Q bZ g3 Q Q (aL 3 Q (aP hm (λb4=>([(3,.msl 1 3 0 b4.length)])) (λb4=>([(1,.flat 83 3 (b4.map Ac.enc))])) [3] [1] Q (λz5 hm=>?_) (λb4 hm=>?_)))
 ·refine aO 5 Q (c_N hm (xS ·) Q Q Q Q λr6 hm=>aL 3 Q (bH hm Q (λh7 hm=>?_) (λh7 hm=>?_)))
  ·exact aR 2 Q (SX Q Q (bV Q qK cH Q Q Q Q) (SX Q Q (cF [.tmp 16] TK Q Q cH Q Q Q Q Q) (GE hm λg8 hm=>cB (f:=Ac.enc) ([(⟨(3:Int),(0:Int),(0:Int)⟩:Ac)]:List Ac) TK Q Q cH Q Q Q Q Q (λh=>absurd h (zQV _)) Q bZ g8 Q Q (aE 2 Q (aT [0,1] hm Q Q)))))
  exact aM 1 Q (aT [0,1] hm Q Q)
 refine WN [1,3] Q Q (aR 3 Q (c_D hm (qFH ·) Q Q Q Q λr9 hm=>GE hm λg10 hm=>cB (f:=Ac.enc) r9 TK Q Q cH Q Q Q Q Q (λh=>absurd h (zQV _)) Q bZ g10 Q Q (aG 6 Q (c_D hm (qDR ·) Q Q Q Q λr11 hm=>GE hm λg12 hm=>cB (f:=Ac.enc) r11 TK Q Q cH Q Q Q Q Q (λh=>absurd h (zQV _)) Q bZ g12 Q Q (aG 6 Q (c_D hm (qFI ·) Q Q Q Q λr13 hm=>GE hm λg14 hm=>cB (f:=Ac.enc) r13 TK Q Q cH Q Q Q Q Q (λh=>absurd h (zQV _)) Q bZ g14 Q Q (aE 4 Q ?_)))))));obtain rfl:=OJ hm;exact EndsS.one _ Q (bQ Q) (.refl _)
theorem qLB {p0:(List Ac)} {p1:(List Ac)} {r:Bool} (hm:mM p0 p1=some r):RetN TP 10 [.sl 3 (p0.map Ac.enc),.sl 3 (p1.map Ac.enc)] (.bool (r)):=by
 refine .unit (aJ (aZ Q) func10 Q ntmps10 Q Q (λwX gX=>?_)) Q;unfold mM at hm;refine WN [0,1] Q Q (aO 7 Q (SX Q Q (aN TK Q Q Q) (aG 1 Q (SX Q Q (aN TK Q Q Q) (aL 3 Q (eC hm Q (λh1 hm=>?_) (λh1 hm=>?_)))))))
 ·exact aM 6 Q (aS hm Q)
 refine bM 2 Q (bF hm (λ_=>[]) (λ_=>[]) [] [] Q (λz2 hm hz2=>?_) (λj hm=>?_))
 ·refine bN 5 Q (aV hm (λi4=>([(5,.d (.int .i64 i4))])) (λi4=>[]) [5] [0,1] [] Q k0 Q Q Q Q Q (λi4 z5 hm hz5=>WN [0,1,5] Q Q (aO 4 Q (SX Q Q (aN TK Q Q Q) (aL 3 Q (bL hm Q (λh6 hm=>?_) (λh6 hm=>?_)))))))
  ·refine bM 4 Q (bJ follows ?_);iterate 2 (refine DA [] TK Q ?_)
   refine VE hm λe7 he7 hm=>DX [] Q Q (bA TK Q Q Q Q he7) ?_;iterate 3 (refine DA [] TK Q ?_)
   refine VE hm λe8 he8 hm=>DX [] Q Q (bA TK Q Q Q Q he8) (DA [] TK Q (GE hm λg9 hm=>DX [] Q Q (qUA Q Q Q g9.1 g9.2) ?_));refine DT ?_ (by kernel_rfl);refine aL 2 Q (eC hm Q (λh11 hm=>?_) (λh11 hm=>?_))
   ·refine bM 4 Q (WN [4] Q Q (aM 3 Q (IE hm λv12 hm hz=>?_)));rw [hz5 _ hz] at hm;refine WR (bD 1 Q (IE hm λv13 hm hz=>?_));rw [hz2 _ hz] at hm;exact WR (aS hm Q)
   exact aR 5 Q (GE hm λg14 hm=>SX Q Q (bI Q Q Q Q g14) (aE 2 Q (aX [] hm Q Q)))
  refine aM 2 Q (IE hm λv15 hm hz=>?_);rw [hz5 _ hz] at hm;exact WX (bD 1 Q (aX [] hm Q Q))
 exact WN [] Q Q (aM 5 Q (aS hm Q))
theorem qBN {p0:Am} {r:Bool} (hm:iU p0=some r):RetN TP 14 [p0.enc] (.bool (r)):=by
 refine .unit (aJ (aZ Q) func14 Q ntmps14 Q Q (λwX gX=>?_)) Q;unfold iU at hm;exact WN [0] Q Q (aO 1 Q (bR 0 Q Q Q (aG 5 Q (c_D hm (yJ ·) Q Q Q Q λr1 hm=>SX Q Q (aN TK Q Q Q) (aE 5 Q (aS hm Q))))))
theorem vQ {p0:Am} {r:Bool} (hm:hZ p0=some r):Ret TP 3 [] (λ_=>false) ([p0.enc].map .d) (.d (.bool (r))) []:=by
 refine aJ (aZ Q) func3 Q ntmps3 Q Q (λwX gX=>?_);unfold hZ at hm;refine WN [0] Q Q (aO 1 Q (bR 0 Q Q Q (aL 4 Q (aP hm (λx1=>([(11,.d (.bool (x1)))])) (λx1=>[]) [11] [1] Q (λz2 hm=>?_) (λx1 hm=>?_)))))
 ·refine aO 2 Q (c_N hm (qPR ·) Q Q Q Q λr3 hm=>aG 1 Q (SB TK Q (λq4 hq4=>?_)));cases q4
  ·replace hm:=JB hq4 hm;exact aG 1 Q (c_N hm (qIC ·) Q Q Q Q λr5 hm=>aE 3 Q (aT [0] hm Q Q))
  replace hm:=JA hq4 hm;exact aE 5 Q (aT [0] hm Q Q)
 refine WN [1,11] Q Q (bH hm Q (λh6 hm=>?_) (λh6 hm=>?_))
 ·exact aR 1 Q (BE hm λr7 hr7 hm=>SX Q Q (RN Q Q SN (yC hr7)) (aE 5 Q (aS hm Q)))
 refine aR 4 Q (c_D hm (qIA ·) Q Q Q Q λr8 hm=>aL 3 Q (aP hm (λx9=>([(2,.d (.bool (x9)))])) (λx9=>[]) [2] [] Q (λz10 hm=>?_) (λx9 hm=>?_)))
 ·refine cJ follows (DA [0] TK Q (jN [0] hm (iS ·) Q Q Q Q λr11 hm=>DA [0] TK Q (dK [0] hm (qLB ·) Q Q Q Q λr12 hm=>d_b [0] TK Q (λq13 hq13=>?_))));cases q13
  ·replace hm:=JB hq13 hm;iterate 17 (refine DA [0] TK Q ?_)
   refine DT ?_ (by kernel_rfl);exact aE 2 Q (aT [0] hm Q Q)
  replace hm:=JA hq13 hm;refine DA [0] TK Q (dK [0] hm (rY ·) Q Q Q Q λr14 hm=>DA [0] TK Q (DX [0] Q Q (aN TK Q Q Q) ?_));iterate 3 (refine DA [0] TK Q ?_)
  refine d_b [0] TK Q (λq15 hq15=>?_);cases q15
  ·replace hm:=JB hq15 hm;iterate 9 (refine DA [0] TK Q ?_)
   refine DT ?_ (by kernel_rfl);exact aE 2 Q (aT [0] hm Q Q)
  replace hm:=JA hq15 hm;refine DA [0] TK Q (dK [0] hm (lQ ·) Q Q Q Q λr16 hm=>DA [0] TK Q (dK [0] hm (qBN ·) Q Q Q Q λr17 hm=>?_));iterate 2 (refine DA [0] TK Q ?_)
  refine d_b [0] TK Q (λq18 hq18=>?_);cases q18
  ·replace hm:=JB hq18 hm;iterate 2 (refine DA [0] TK Q ?_)
   refine DT ?_ (by kernel_rfl);exact aE 2 Q (aT [0] hm Q Q)
  replace hm:=JA hq18 hm;refine BE hm λr19 hr19 hm=>DX [0] Q Q (RN Q Q SN (yC hr19)) (DA [0] TK Q ?_);refine DT ?_ (by kernel_rfl);exact aE 2 Q (aT [0] hm Q Q)
 exact WN [2] Q Q (aM 1 Q (aS hm Q))
end Go.Proofs.YtofndjhpbonpbaaGreatDoor
set_option maxHeartbeats 8000000
set_option linter.unusedSimpArgs false
set_option linter.unusedVariables false
set_option maxRecDepth 20000
namespace Go.Proofs.YtofndjhpbonpbaaGreatDoor
open Go Go.TL
def uR:Option Nat->Int
 | some i=>i
 | none=>-1
theorem qXP (o:Option Nat):decide (0<=uR o)=o.isSome:=by cases o<;>simp [uR]
theorem qQA (o:Option Nat):decide (uR o < 0)=!o.isSome:=by
 cases o with
 | none=>simp [uR]
 | some i=>show decide ((i:Int) < 0)=false;simp
theorem idx_at {α:Type} {p:α->Bool} {l:List α} {i:Nat} {x:α} (h:zCI p l i) (hx:l[i]?=some x) (hs:p x=true):l.findIdx? p=some i:=by
 rw [List.findIdx?_eq_some_iff_getElem];have hlt:=(zQQ.1 hx).1;have he:=(zQQ.1 hx).2;refine⟨hlt,by rw [he];exact hs,λj hj=>?_⟩;unfold zCI at h;rw [List.any_eq_false] at h;have:=h l[j] (List.mem_take_iff_getElem.2 ⟨j,by omega,rfl⟩);simpa using this
theorem qMM {α:Type} {p:α->Bool} {l:List α} {i:Nat} (h:l.findIdx? p=some i):∃ x,l[i]?=some x/\p x=true/\i < l.length:=by
 rw [List.findIdx?_eq_some_iff_getElem] at h;obtain⟨hlt,hp,_⟩:=h;exact⟨l[i],by simp [hlt],hp,hlt⟩
def fQ (l:List Int) (x:Int):Option Nat:=l.findIdx? λy=>y == x
theorem qTE (l:List Int) (x:Int):(fQ l x).isSome=decide (x∈l):=by
 unfold fQ;rw [List.findIdx?_isSome,Bool.eq_iff_iff,zQU];simp
def fO (n:Nat) (P:Nat->Bool):Bool:=(List.range n).all P
def upTo (P:Nat->Bool) (i:Nat):Prop:=∀ j,j < i->P j=true
theorem allB_iff {P:Nat->Bool} {n:Nat}:fO n P=true↔∀ i,i < n->P i=true:=by
 unfold fO;rw [zQT];simp
def inB (n c:Int):Bool:=decide (0<=n/\n < c)
def sI (t:Al) (i:Nat):Bool:=decide (0<=t.Ae.getD i 0/\(0 < i->t.Ae.getD (i - 1) 0 < t.Ae.getD i 0)/\0<=t.A1.getD i 0/\t.A1.getD i 0 < t.Ad)
def nD (t:Al):Bool:=decide (t.A1.length=t.Ae.length)&&fO t.Ae.length (sI t)
theorem qJV {t:Al} {i:Nat} {p q h:Int} (hp:t.Ae[i]?=some p) (hq:t.Ae[i - 1]?=some q) (hh:t.A1[i]?=some h):sI t i=decide (0<=p/\(0 < i->q < p)/\0<=h/\h < t.Ad):=by
 simp only [sI,zQD,hp,hq,hh,Option.getD_some]
def qFC (t:Al) (l:List Aa) (i:Nat):Bool:=decide ((fQ t.Ae (l.getD i ⟨0,0⟩).el).isSome=true/\1<=(l.getD i ⟨0,0⟩).pos/\(l.getD i ⟨0,0⟩).pos<=2/\(0 < i->(l.getD (i - 1) ⟨0,0⟩).el < (l.getD i ⟨0,0⟩).el))
def eO (t:Al) (l:List Aa):Bool:=fO l.length (qFC t l)
theorem qFB {t:Al} {l:List Aa} {i:Nat} {x y:Aa} (hx:l[i]?=some x) (hy:l[i - 1]?=some y):qFC t l i=decide ((fQ t.Ae x.el).isSome=true/\1<=x.pos/\x.pos<=2/\(0 < i->y.el < x.el)):=by
 simp only [qFC,zQD,hx,hy,Option.getD_some]
def kX (a b:List Aa):Bool:=a.all λx=>b.all λy=>!(decide (x.el=y.el)&&!decide (x.pos=y.pos))
def qSA (t:Al) (l:List Int) (i:Nat):Bool:=inB (l.getD i 0) t.Ad&&!decide (l.getD i 0∈l.take i)
def qUJ (t:Al) (l:List Int):Bool:=fO l.length (qSA t l)
theorem qKT {t:Al} {l:List Int} {i:Nat} {s:Int} (hs:l[i]?=some s):qSA t l i=(inB s t.Ad&&!decide (s∈l.take i)):=by
 simp only [qSA,zQD,hs,Option.getD_some]
def zBL (t:Al) (r:Ai):Bool:=inB r.entry t.Ah&&decide (-1<=r.exit/\r.exit < t.Ah)&&decide (1<=r.path.length/\r.path.length<=12)
def lS (t:Al) (r:Ai):Bool:=zBL t r&&decide (0 < r.Ad.length)&&qUJ t (r.Ad++r.Ao)&&inB r.A2 t.Ad&&decide (1<=r.length)
def oG (t:Al) (r:Ai):Bool:=eO t r.Ae&&eO t r.Aj&&eO t r.At
def nH (r:Ai):Bool:=kX r.Ae r.Aj&&kX r.Ae r.At&&kX r.Aj r.At
def yA (l:List Ai) (i:Nat):Bool:=(l[i]?).all λr=>!((l.take i).any λq=>decide (q.name=r.name))
def vO (l:List Ai):Bool:=fO l.length (yA l)
theorem qGB {l:List Ai} {i:Nat} {r:Ai} (hr:l[i]?=some r):yA l i=!((l.take i).any λq=>decide (q.name=r.name)):=by simp only [yA,hr,Option.all_some]
def qEC (t:Al):Bool:=decide (t.Ab.length<=48/\t.Ae.length<=32/\0<=t.Ad/\t.Ad<=24/\0<=t.Ah/\t.Ah<=20)
def fK (t:Al):Int:=
 if qEC t=false then 2
 else if nD t=false then 1
 else if t.Ab.all (λr=>lS t r&&oG t r)=false then 1
 else if t.Ab.all nH=false then 10
 else if vO t.Ab=false then 8
 else 0
section chk
variable {t:Al}
theorem qKE (h:qEC t=false):fK t=2:=by simp [fK,h]
theorem qAP (h1:qEC t=true) (h:nD t=false):fK t=1:=by simp [fK,h1,h]
end chk
def lK (l:List Int) (i:Nat):List Bool:=(List.range 24).map λ(j:Nat)=>decide ((j:Int)∈l.take i)
theorem qNK (l:List Int):lK l 0=List.replicate 24 false:=by simp [lK,List.map_const']
theorem qHT (l:List Int) (i:Nat):(lK l i).length=24:=by simp [lK]
theorem qRW (l:List Int) (i:Nat) {s:Int} (h0:0<=s) (h1:s < 24):(lK l i)[s.toNat]?=some (decide (s∈l.take i)):=by
 have:s.toNat < 24:=by omega
 simp [lK,this,Int.toNat_of_nonneg h0]
theorem qRV {l:List Int} {i:Nat} {s:Int} (hs:l[i]?=some s) (h0:0<=s) (h1:s < 24):(lK l i).set s.toNat true=lK l (i+1):=by
 apply List.ext_getElem?;intro j;by_cases hj:j < 24
 ·have e1 : ∀ k, (lK l k)[j]? = some (decide ((j : Int) ∈ l.take k)) := fun k => by simp [lK, hj]
  rw [List.getElem?_set,e1,e1,List.take_add_one,hs];split
  ·rename_i e;rw [if_pos (by rw [qHT];omega)];have:(j:Int)=s:=by omega
   simp [this]
  rename_i e;have:¬ (j:Int)=s:=by omega
  simp [this]
 rw [List.getElem?_eq_none (by simp [lK];omega),List.getElem?_eq_none (by simp [lK];omega)]
def eW (l:List Ai) (i:Nat):List (BA×Bool):=(l.take i).map λr=>(r.name,true)
theorem qMB (l:List Ai):eW l 0=[]:=by simp [eW]
theorem zU {l:List Ai} {i:Nat} {r:Ai} (hr:l[i]?=some r):eW l i++[(r.name,true)]=eW l (i+1):=by
 unfold eW;rw [List.take_add_one,hr];simp
theorem qIZ (l:List Ai) (i:Nat) (s:BA):(match cO (eW l i) s with|some b=>D.bool b|none=>D.bool false)=D.bool ((l.take i).any λq=>decide (q.name=s)):=by
 unfold eW
 induction l.take i with
 | nil=>rfl
 | cons x r ih=>
  simp only [List.map_cons,List.any_cons,cO,List.find?_cons]
  cases h:decide (x.name=s) with
  | true=>simp
  | false=>simpa [cO] using ih
theorem qMC {l:List Ai} {i:Nat} {s:BA} (h:((l.take i).any λq=>decide (q.name=s))=false):cO (eW l i) s=none:=by
 unfold eW cO;rw [Option.map_eq_none_iff,List.find?_eq_none];intro x hx;simp only [List.mem_map] at hx;obtain⟨r,hr,rfl⟩:=hx;rw [List.any_eq_false] at h;simpa using h r hr
theorem xZ {l:List Ai}:∀ {i:Nat},upTo (yA l) i->((eW l i).map (·.1)).Nodup
 | 0,_=>by simp [eW]
 | i+1,h=>by
  have ih:=xZ (i:=i) λj hj=>h j (by omega)
  cases hr:l[i]? with
  | none=>unfold eW at *; rw [List.take_add_one,hr];simpa using ih
  | some r=>
   have hn:=h i (by omega);rw [qGB hr] at hn;rw [<- zU hr,List.map_append,List.nodup_append];refine⟨ih,by simp,λa ha b hb e=>?_⟩;simp only [List.map_cons,List.map_nil,List.mem_singleton] at hb;subst hb;subst e;unfold eW at ha;simp only [List.map_map,List.mem_map,Function.comp_apply] at ha;obtain⟨q,hq,he⟩:=ha;simp only [Bool.not_eq_true',List.any_eq_false] at hn;exact hn q hq (by simp [he])
theorem qXT {l:List Ai} {i:Nat} {r:Ai} (hr:l[i]?=some r):decide (uR (l.findIdx? λq=>decide (q.name=r.name))=(i:Int))=yA l i:=by
 rw [qGB hr,Bool.eq_iff_iff];have hi:=(zQQ.1 hr).1;have hri:=(zQQ.1 hr).2;simp only [decide_eq_true_eq,Bool.not_eq_true',List.any_eq_false];constructor
 ·intro h q hq
  cases e:l.findIdx? λq=>decide (q.name=r.name) with
  | none=>rw [e] at h;simp only [uR] at h;omega
  | some j=>
   rw [e] at h;simp only [uR] at h;have:j=i:=by omega
   subst this;rw [List.findIdx?_eq_some_iff_getElem] at e;obtain⟨_,_,h3⟩:=e;obtain⟨k,hk,rfl⟩:=List.mem_take_iff_getElem.1 hq;simpa using h3 k (by omega)
 intro h
 have:l.findIdx? (λq=>decide (q.name=r.name))=some i:=by
  refine idx_at (x:=r) ?_ hr (by simp);unfold zCI;rw [List.any_eq_false];simpa using h
 rw [this];rfl
def dZ (x:Ak) (n:Int):Bool:=
 if x.state=0\/x.state=1\/x.state=2 then decide (x.rel=0/\x.timer=0)
 else if x.state=3 then decide (0<=x.rel/\x.rel < n/\(x.timer=0\/(x.rel=n - 1/\0 < x.timer/\x.timer < 4)))
 else if x.state=4 then decide (0<=x.rel/\x.rel < n/\0<=x.timer/\x.timer < 12)
 else false
def jP (t:Al) (s:Az) (i:Nat):Bool:=(s.Ab[i]?).all λx=>(t.Ab[i]?).all λr=>dZ x r.Ad.length
def qED (p:Int):Bool:=decide (p=1\/p=2)
def tD (t:Al) (s:Az):Bool:=decide (fK t=0/\s.Ab.length=t.Ab.length/\s.lies.length=t.Ae.length)&&fO s.Ab.length (jP t s)&&s.lies.all qED
theorem zD {t:Al} {s:Az} {i:Nat} {x:Ak} {r:Ai} (hx:s.Ab[i]?=some x) (hr:t.Ab[i]?=some r):jP t s i=dZ x r.Ad.length:=by simp only [jP,hx,hr,Option.all_some]
theorem fitsB_iff {t:Al} {s:Az}:tD t s=true↔fK t=0/\s.Ab.length=t.Ab.length/\s.lies.length=t.Ae.length/\(∀ i,i < s.Ab.length->jP t s i=true)/\∀ p∈s.lies,qED p=true:=by
 unfold tD;rw [zQA,zQA,decide_eq_true_eq,allB_iff,zQT];constructor
 ·rintro⟨⟨⟨h1,h2,h3⟩,h4⟩,h5⟩;exact⟨h1,h2,h3,h4,h5⟩
 rintro⟨h1,h2,h3,h4,h5⟩;exact⟨⟨⟨h1,h2,h3⟩,h4⟩,h5⟩
def nX (r:Ai) (x:Ak):List Int:=if x.state=0 then [] else r.Ad.drop x.rel.toNat
def nY (r:Ai) (x:Ak):List Int:=if x.state=0 then [] else r.Ao
theorem qS {n:Nat} (h:n<=reachBytes):n<=140737488351232:=h
theorem eD {i n:Nat} (h:i < n):((i:Int) < (n:Int))=True:=by simp [h]
abbrev Cnt {α:Type} (l:List α):Prop:=l.length<=9223372036854775807
theorem qPZ (l:List Int) (x:Int) (h:Cnt l):fB l x=some (uR (fQ l x)):=by
 unfold fB;rw [qCK l (λy=>y == x) (λi=>.inr (i:Int)) (.inl ()) h]
 ·unfold fQ;cases l.findIdx? (λy=>y == x)<;>rfl
 ·intro i e he;have hi:=(zQQ.1 he).1;simp only [eD hi,if_true,aH he];by_cases hx:x=e
  ·simp [hx]
  have : ¬ (e == x) = true := by simp; exact fun q => hx q.symm
  simp [hx,this,bW hi h]
 simp
theorem wO (t:Al) (x:Int) (h:Cnt t.Ae):fV t x=some (uR (fQ t.Ae x)):=by
 simp [fV,qPZ _ _ h]
theorem yP (t:Al) (x:Int) (h:Cnt t.Ae):jB t x=some (uR (fQ t.Ae x)):=by
 unfold jB;rw [qCK t.Ae (λy=>y == x) (λi=>.inr (i:Int)) (.inl ()) h]
 ·unfold fQ;cases t.Ae.findIdx? (λy=>y == x)<;>rfl
 ·intro i e he;have hi:=(zQQ.1 he).1;simp only [eD hi,if_true,aH he];by_cases hx:e=x
  ·simp [hx]
  simp [hx,bW hi h]
 simp
theorem qAG (l:List Int) (x:Int) (h:Cnt l):gK l x=some (decide (x∈l)):=by
 unfold gK;rw [fI l (λy=>y == x) (.inr true) (.inl ()) h]
 ·by_cases hx:x∈l
  ·have : (l.any fun y => y == x) = true := by simpa using hx
   simp [this,hx]
  have : ¬ (l.any fun y => y == x) = true := by simpa using hx
  simp only [if_neg this];simp [hx]
 ·intro i e he;have hi:=(zQQ.1 he).1;simp only [eD hi,if_true,aH he];by_cases hx:e=x
  ·simp [hx]
  simp [hx,bW hi h]
 simp
theorem qQM (l:List Int) (x:Int) (h:Cnt l):eT l x=some (decide (x∈l)):=by
 simp only [eT,qPZ l x h,aD,Option.some.injEq];rw [qXP,qTE]
theorem wM (n c:Int):cQ n c=some (inB n c):=by simp [cQ,inB]
theorem fZ (n:Nat) (P:Nat->Bool):((List.range n).any λi=>!P i)=!fO n P:=by simp [fO,List.not_all_eq_any_not]
theorem jS {α:Type} (l:List α) (P:α->Bool):(l.any λi=>!P i)=!l.all P:=by simp [List.not_all_eq_any_not]
theorem qFT (t:Al) (h:Cnt t.Ae):fU t=some (nD t):=by
 unfold fU nD;by_cases e:t.A1.length=t.Ae.length
 ·rw [if_pos (by rw [e]), fD t.Ae.length (fun i => !sI t i) (.inr false) (.inl ()) h, fZ]
  ·simp only [e,decide_true,Bool.true_and];cases fO t.Ae.length (sI t)<;>rfl
  ·intro i hi;obtain⟨p,hp⟩:=jL hi;obtain⟨q,hq⟩:=jL (xs:=t.Ae) (i:=i - 1) (by omega);obtain⟨hm,hh⟩:=jL (xs:=t.A1) (i:=i) (by omega);simp only [eD hi,if_true,aH hp,aH hh,wM,aD];rw [qJV hp hq hh];by_cases h0:0 < i
   ·have e1 : ((i : Int) - 1) = ((i - 1 : Nat) : Int) := by omega
    have e2:I64 ((i - 1:Nat):Int):=by unfold I64;omega
    have e3:(0:Int) < (i:Int):=by omega
    simp only [e1,aA e2,aH hq,e3,if_true];simp only [fE,aD,aA (bW hi h),dM]
    grind [inB]
   have e3 : ¬ (0 : Int) < (i : Int) := by omega
   simp only [e3,if_false,fE,aD,aA (bW hi h),dM]
   grind [inB]
  simp
 rw [if_neg (by omega)];simp [e]
theorem mL (t:Al) (l:List Aa) (ht:Cnt t.Ae) (h:Cnt l):cL t l=some (eO t l):=by
 unfold cL eO;rw [fD l.length (λi=>!qFC t l i) (.inr false) (.inl ()) h,fZ]
 ·cases fO l.length (qFC t l)<;>rfl
 ·intro i hi;obtain⟨x,hx⟩:=jL hi;obtain⟨y,hy⟩:=jL (xs:=l) (i:=i - 1) (by omega);simp only [eD hi,if_true,aH hx,wO _ _ ht,aD,qQA];rw [qFB hx hy];by_cases h0:0 < i
  ·have e1 : ((i : Int) - 1) = ((i - 1 : Nat) : Int) := by omega
   have e2:I64 ((i - 1:Nat):Int):=by unfold I64;omega
   have e3:(0:Int) < (i:Int):=by omega
   simp only [e1,aA e2,aH hy,e3,if_true,fE,aD,aA (bW hi h),dM]
   grind
  have e3 : ¬ (0 : Int) < (i : Int) := by omega
  simp only [e3,if_false,fE,aD,aA (bW hi h),dM]
  grind
 simp
theorem rW (t:Al) (l:List Aa) (ht:Cnt t.Ae) (h:Cnt l):dO t l=some (eO t l):=by
 unfold dO eO;rw [fD l.length (λi=>!qFC t l i) (.inr false) (.inl ()) h,fZ]
 ·cases fO l.length (qFC t l)<;>rfl
 ·intro i hi;obtain⟨x,hx⟩:=jL hi;obtain⟨y,hy⟩:=jL (xs:=l) (i:=i - 1) (by omega);have hneg:=qQA (fQ t.Ae x.el);simp only [eD hi,if_true,aH hx,yP _ _ ht,aD];rw [qFB hx hy];by_cases h0:0 < i
  ·have e1 : ((i : Int) - 1) = ((i - 1 : Nat) : Int) := by omega
   have e2:I64 ((i - 1:Nat):Int):=by unfold I64;omega
   have e3:(0:Int) < (i:Int):=by omega
   simp only [e1,aA e2,aH hy,e3,if_true,fE,aD,aA (bW hi h),dM]
   grind
  have e3 : ¬ (0 : Int) < (i : Int) := by omega
  simp only [e3,if_false,fE,aD,aA (bW hi h),dM]
  grind
 simp
theorem qKJ (a b:List Aa):(a.any λx=>b.any λy=>decide (x.el=y.el)&&!decide (x.pos=y.pos))=!kX a b:=by
 unfold kX;rw [List.not_all_eq_any_not]
 congr 1
 funext x
 rw [List.not_all_eq_any_not];simp
theorem qHI (a b:List Aa) (ha:Cnt a) (hb:Cnt b):dQ a b=some (kX a b):=by
 unfold dQ;rw [fI a (λx=>b.any λy=>decide (x.el=y.el)&&!decide (x.pos=y.pos)) (.inr false) (.inl ()) ha,qKJ]
 ·cases kX a b<;>rfl
 ·intro i x hx;have hi:=(zQQ.1 hx).1;simp only [eD hi,if_true,aH hx];rw [fI b (λy=>decide (x.el=y.el)&&!decide (x.pos=y.pos)) (.inr (.inr (.inr false))) (.inl ()) hb]
  ·simp only [aA (bW hi ha)];split<;>rfl
  ·intro j y hy;have hj:=(zQQ.1 hy).1;simp only [eD hj,if_true,aH hy,aA (bW hj hb),dM]
  simp
 simp
theorem yU (a b:List Aa) (ha:Cnt a) (hb:Cnt b):eY a b=some (kX a b):=by
 unfold eY;rw [fI a (λx=>b.any λy=>decide (x.el=y.el)&&!decide (x.pos=y.pos)) (.inr false) (.inl ()) ha,qKJ]
 ·cases kX a b<;>rfl
 ·intro i x hx;have hi:=(zQQ.1 hx).1;simp only [eD hi,if_true,aH hx];rw [fI b (λy=>decide (x.el=y.el)&&!decide (x.pos=y.pos)) (.inr (.inr (.inr false))) (.inl ()) hb]
  ·simp only [aA (bW hi ha)];split<;>rfl
  ·intro j y hy;have hj:=(zQQ.1 hy).1;simp only [eD hj,if_true,aH hy,aA (bW hj hb),dM]
  simp
 simp
structure Short (r:Ai):Prop where
 secs:r.Ad.length+r.Ao.length<=2000000
 Ae:r.Ae.length<=2000000
 over:r.Aj.length<=2000000
 At:r.At.length<=2000000
structure TOk (t:Al):Prop where
 Ab:t.Ab.length<=2000000
 Ae:t.Ae.length<=2000000
 each:∀ r∈t.Ab,Short r
theorem qHV (t:Al) (l:List Int) (h:Cnt l):iZ t l=some (qUJ t l):=by
 unfold iZ qUJ;rw [fD l.length (λi=>!qSA t l i) (.inr false) (.inl ()) h,fZ]
 ·cases fO l.length (qSA t l)<;>rfl
 ·intro i hi;obtain⟨x,hx⟩:=jL hi;simp only [eD hi,if_true,aH hx];rw [qKT hx]
  have hm:((List.range i).any λj=>decide (l[j]?=some x))=decide (x∈l.take i):=by
   rw [Bool.eq_iff_iff,zQU,decide_eq_true_eq,List.mem_take_iff_getElem];constructor
   ·rintro⟨j,hj,hjx⟩;have hj:=List.mem_range.1 hj;have:=of_decide_eq_true hjx;obtain⟨h1,h2⟩:=zQQ.1 this;exact⟨j,by omega,h2⟩
   rintro⟨j,hj,rfl⟩;exact⟨j,List.mem_range.2 (by omega),by simp⟩
  by_cases hb:x < 0\/t.Ad<=x
  ·have : inB x t.Ad = false := by unfold inB; simp; omega
   simp only [this];simp [hb]
  have hin : inB x t.Ad = true := by unfold inB; simp; omega
  rw [if_neg (by simpa using hb),fD i (λj=>decide (l[j]?=some x)) (.inr (.inr (.inr false))) (.inl ()) (by omega),hm]
  ·simp only [hin,Bool.true_and,Bool.not_not,aA (bW hi h)];split<;>rfl
  ·intro j hj;obtain⟨y,hy⟩:=jL (xs:=l) (i:=j) (by omega);simp only [eD hj,if_true,aH hy,hy,aA (bW hj (by omega)),dM,Option.some.injEq,decide_eq_true_eq]
  simp
 simp
theorem qSF (t:Al) (r:Ai) (h:Short r):lC t r=some (lS t r):=by
 have h1:=h.secs;unfold lC lS zBL;rw [aA (by simp;omega),aA (by simp;omega)];simp only [List.nil_append,qHV t (r.Ad++r.Ao) (by simp;omega),aD,fE]
 grind [inB]
theorem qXZ (xss:List (List Int)) (h:xss.length<=1000/\xss.flatten.length<=1000000000):iO xss=some xss.flatten:=aA h
theorem qHY (t:Al) (r:Ai) (hs:t.Ad<=24) (h:Short r):fA t r=some (lS t r):=by
 have h1:=h.secs;unfold fA;rw [qXZ _ (by simp;omega)];have hcat:([r.Ad,r.Ao]:List (List Int)).flatten=r.Ad++r.Ao:=by simp
 simp only [hcat,aD,wM,fE];generalize hl:r.Ad++r.Ao=l;have hln:l.length<=2000000:=by rw [<- hl];simp;omega
 rw [qJZ l.length (lK l) (λi=>!qSA t l i) (.inr false) (.inl (lK l l.length)) (qNK l).symm (by omega),fZ]
 ·unfold lS zBL qUJ;rw [hl];clear hcat hl;cases fO l.length (qSA t l)
  ·simp only [Bool.not_false,if_true,qYF,qAB,Option.some.injEq];rw [Bool.eq_iff_iff];simp only [qAT,zQA,decide_eq_true_eq,Bool.or_eq_true,inB,Bool.not_eq_true',decide_eq_false_iff_not]
   grind
  simp only [Bool.not_true,Bool.false_eq_true,if_false,pI,qAB,Option.some.injEq];rw [Bool.eq_iff_iff];simp only [qAT,zQA,decide_eq_true_eq,Bool.or_eq_true,inB,Bool.not_eq_true',decide_eq_false_iff_not]
  grind
 ·intro i hi _;obtain⟨x,hx⟩:=jL hi;simp only [eD hi,if_true,aH hx];rw [qKT hx];by_cases hin:inB x t.Ad=true
  ·have hx0 : 0 <= x /\ x < 24 := by unfold inB at hin; simp at hin; omega
   have hg:=qRW l i hx0.1 hx0.2;simp only [hin,aA hx0.2,gA hx0.1 hg,aD,Bool.not_true,Bool.true_and,Bool.not_not,aA (bW hi (by omega)),qRV hx hx0.1 hx0.2,dM];by_cases hm:x∈l.take i<;>simp [hm]
  have hin : inB x t.Ad = false := by simpa using hin
  simp [hin]
 intro _;simp
theorem qOU {α β:Type} [DecidableEq α] {fs:List (α×β)} {k:α} {v:β} (h:cO fs k=none):uA fs k v=fs++[(k,v)]:=by
 unfold uA
 have:(fs.findIdx? λx=>decide (x.1=k))=none:=by
  unfold cO at h;rw [Option.map_eq_none_iff,List.find?_eq_none] at h;rw [List.findIdx?_eq_none_iff];intro x hx;simpa using h x hx
 rw [this]
theorem qPJ (t : Al) (h : t.Ab.length <= 2000000) (k : List (BA × Bool) -> Option Int) : bS (aY (fun (x, b) =>
     if x < (t.Ab.length : Int) then
      aU t.Ab x fun e =>
      aC (b.map (·.1)).Nodup <|
      if (((cO b e.name).getD false)) = true then
       aQ (aQ (some (8 : Int)))
      else
       aC (b.map (·.1)).Nodup <|
       aC (I64 (x + (1 : Int))) <|
       some (.inl ((x + (1 : Int)), (uA b e.name true)))
     else
      aQ (some (.inl b))) ((0 : Int), ([] : List (BA × Bool)))) k = if vO t.Ab = true then k (eW t.Ab t.Ab.length) else some 8 := by
 rw [qJZ t.Ab.length (eW t.Ab) (λi=>!yA t.Ab i) (.inr 8) (.inl (eW t.Ab t.Ab.length)) (qMB _).symm (by omega),fZ]
 ·unfold vO;cases fO t.Ab.length (yA t.Ab)<;>rfl
 ·intro i hi hj;obtain⟨x,hx⟩:=jL hi;have hnd:((eW t.Ab i).map (·.1)).Nodup:=xZ λj hjj=>by have:=hj j hjj;simpa using this
  simp only [eD hi,if_true,aH hx,aA hnd,aA (bW hi (by omega))];rw [qGB hx,Bool.not_not];have ha:=qIZ t.Ab i x.name
  cases hc:((t.Ab.take i).any λq=>decide (q.name=x.name)) with
  | true=>
   rw [hc] at ha
   have:((cO (eW t.Ab i) x.name).getD false)=true:=by
    cases e:cO (eW t.Ab i) x.name with
    | none=>rw [e] at ha;simp at ha
    | some b=>rw [e] at ha;simp at ha;simp [ha]
   simp [this]
  | false=>
   have hn:=qMC hc;simp [hn,qOU hn,zU hx]
 intro hj;simp
theorem qPI (l : List Ai) (P : Ai -> Bool) (v : Int) (h : l.length <= 2000000) (g : Ai -> Option Bool) (hg : ∀ r ∈ l, g r = some (P r)) (k : Unit -> Option Int) : bS (aY (fun x =>
     if x < (l.length : Int) then
      aU l x fun e =>
      aB (g e) fun r =>
      if (!(r)) = true then
       aQ (aQ (some v))
      else
       aC (I64 (x + (1 : Int))) <|
       some (.inl (x + (1 : Int)))
     else
      aQ (some (.inl ()))) (0 : Int)) k = if l.all P = true then k () else some v := by
 rw [fI l (λr=>!P r) (.inr v) (.inl ()) (by omega),jS]
 ·cases l.all P<;>rfl
 ·intro i x hx;have hi:=(zQQ.1 hx).1;simp only [eD hi,if_true,aH hx,hg x (zQM hx),aD,aA (bW hi (by omega)),dM]
 simp
theorem oV (l : List Ai) (P : Ai -> Bool) (v : Int) (h : l.length <= 2000000) (g : Ai -> Option Bool) (hg : ∀ r ∈ l, g r = some (!P r)) (k : Unit -> Option Int) : bS (aY (fun x =>
     if x < (l.length : Int) then
      aU l x fun e =>
      aB (g e) fun r =>
      if r = true then
       aQ (aQ (some v))
      else
       aC (I64 (x + (1 : Int))) <|
       some (.inl (x + (1 : Int)))
     else
      aQ (some (.inl ()))) (0 : Int)) k = if l.all P = true then k () else some v := by
 rw [fI l (λr=>!P r) (.inr v) (.inl ()) (by omega),jS]
 ·cases l.all P<;>rfl
 ·intro i x hx;have hi:=(zQQ.1 hx).1;simp only [eD hi,if_true,aH hx,hg x (zQM hx),aD,aA (bW hi (by omega)),dM]
 simp
theorem qWI (t:Al) (r:Ai) (ht:Cnt t.Ae) (h:Short r):(aB (cL t r.Ae) λa=>if (!(a))=true then some true else aB (cL t r.Aj) λb=>if (!(b))=true then some true else aB (cL t r.At) λc=>some (!(c)))=some (!oG t r):=by
 have h1:=h.Ae;have h2:=h.over;have h3:=h.At;rw [mL t _ ht (by omega),mL t _ ht (by omega),mL t _ ht (by omega)];unfold oG;cases eO t r.Ae<;>cases eO t r.Aj<;>cases eO t r.At<;>rfl
theorem qTW (r:Ai) (h:Short r):(aB (dQ r.Ae r.Aj) λa=>if (!(a))=true then some true else aB (dQ r.Ae r.At) λb=>if (!(b))=true then some true else aB (dQ r.Aj r.At) λc=>some (!(c)))=some (!nH r):=by
 have h1:=h.Ae;have h2:=h.over;have h3:=h.At;rw [qHI _ _ (by omega) (by omega),qHI _ _ (by omega) (by omega),qHI _ _ (by omega) (by omega)];unfold nH;cases kX r.Ae r.Aj<;>cases kX r.Ae r.At<;>cases kX r.Aj r.At<;>rfl
theorem qRM (r:Ai) (h:Short r):(aB (eY r.Ae r.Aj) λa=>if (!(a))=true then some true else aB (eY r.Ae r.At) λb=>if (!(b))=true then some true else aB (eY r.Aj r.At) λc=>some (!(c)))=some (!nH r):=by
 have h1:=h.Ae;have h2:=h.over;have h3:=h.At;rw [yU _ _ (by omega) (by omega),yU _ _ (by omega) (by omega),yU _ _ (by omega) (by omega)];unfold nH;cases kX r.Ae r.Aj<;>cases kX r.Ae r.At<;>cases kX r.Aj r.At<;>rfl
theorem qYI (l:List Ai) (p q:Ai->Bool):l.all (λr=>p r&&q r)=(l.all p&&l.all q):=by
 rw [Bool.eq_iff_iff];simp only [zQT,zQA];exact⟨λh=>⟨λx hx=>(h x hx).1,λx hx=>(h x hx).2⟩,λh x hx=>⟨h.1 x hx,h.2 x hx⟩⟩
theorem zCC (t:Al) (h:TOk t):nI t=some (fK t):=by
 have hp:=h.Ae;have hr:=h.Ab;unfold nI;by_cases hl:qEC t=true
 ·have hs : t.Ad <= 24 := by unfold qEC at hl; simp at hl; omega
  have hc : (if (48 : Int) < (t.Ab.length : Int) then some true
   else if (32 : Int) < (t.Ae.length : Int) then some true
   else aB (cQ t.Ad (25 : Int)) fun r5 => if (!(r5)) = true then some true else aB (cQ t.Ah (21 : Int)) fun r7 => some (!(r7))) = some false := by
   simp only [wM,aD];unfold qEC at hl;simp only [decide_eq_true_eq] at hl;rw [if_neg (by omega),if_neg (by omega),if_neg (by unfold inB;simp;omega)];simp [inB];omega
  rw [hc];simp only [aD,qFT t (by omega)];by_cases hpb:nD t=true
  ·simp only [hpb];simp only [Bool.not_true,Bool.false_eq_true,if_false];rw [qPI t.Ab (lS t) 1 hr (fA t) (λr hm=>qHY t r hs (h.each r hm))];rw [oV t.Ab (oG t) 1 hr _ (λr hm=>qWI t r (by omega) (h.each r hm)),oV t.Ab nH 10 hr _ (λr hm=>qTW r (h.each r hm)),qPJ t hr];unfold fK;rw [qYI];simp only [hl,hpb];cases t.Ab.all (lS t)<;>cases t.Ab.all (oG t)<;>cases t.Ab.all nH<;>cases vO t.Ab<;>rfl
  rw [qAP hl (by simpa using hpb)];simp [hpb]
 rw [qKE (by simpa using hl)]
 have hc : (if (48 : Int) < (t.Ab.length : Int) then some true
  else if (32 : Int) < (t.Ae.length : Int) then some true
  else aB (cQ t.Ad (25 : Int)) fun r5 => if (!(r5)) = true then some true else aB (cQ t.Ah (21 : Int)) fun r7 => some (!(r7))) = some true := by
  simp only [wM,aD];unfold qEC at hl;simp only [decide_eq_true_eq] at hl
  grind [inB]
 rw [hc];rfl
theorem qXU (t:Al) (s:BA) (h:Cnt t.Ab):mO t s=some (uR (t.Ab.findIdx? λq=>decide (q.name=s))):=by
 unfold mO;rw [qCK t.Ab (λq=>decide (q.name=s)) (λi=>.inr (i:Int)) (.inl ()) h]
 ·cases t.Ab.findIdx? (λq=>decide (q.name=s))<;>rfl
 ·intro i e he;have hi:=(zQQ.1 he).1;simp only [eD hi,if_true,aH he];by_cases hx:e.name=s
  ·simp [hx]
  simp [hx,bW hi h]
 simp
theorem qOX (t : Al) (h : Cnt t.Ae) (e : t.A1.length = t.Ae.length) (k : Unit -> Option Int) : bS (
    aY (fun x10 =>
     if x10 < (t.Ae.length : Int) then
      aU t.Ae x10 fun e13 =>
      aB (
       if e13 < (0 : Int) then
        some true
       else
        if (0 : Int) < x10 then
         aC (I64 (x10 - (1 : Int))) <|
         aU t.Ae (x10 - (1 : Int)) fun e22 =>
         if e13 <= e22 then
          some true
         else
          aU t.A1 x10 fun e24 =>
          if e24 < (0 : Int) then
           some true
          else
           aU t.A1 x10 fun e26 =>
           some (decide (t.Ad <= e26))
        else
         aU t.A1 x10 fun e18 =>
         if e18 < (0 : Int) then
          some true
         else
          aU t.A1 x10 fun e20 =>
          some (decide (t.Ad <= e20))) fun x14 =>
      if x14 = true then
       aQ (
        aQ (
         some (1 : Int)))
      else
       aC (I64 (x10 + (1 : Int))) <|
       some (.inl (x10 + (1 : Int)))
     else
      aQ (
       some (.inl ()))) (0 : Int)) k = if fO t.Ae.length (sI t) = true then k () else some 1 := by
 rw [fD t.Ae.length (λi=>!sI t i) (.inr 1) (.inl ()) h,fZ]
 ·cases fO t.Ae.length (sI t)<;>rfl
 ·intro i hi;obtain⟨p,hp⟩:=jL hi;obtain⟨q,hq⟩:=jL (xs:=t.Ae) (i:=i - 1) (by omega);obtain⟨hm,hh⟩:=jL (xs:=t.A1) (i:=i) (by omega);simp only [eD hi,if_true,aH hp,aH hh,aD];rw [qJV hp hq hh];by_cases h0:0 < i
  ·have e1 : ((i : Int) - 1) = ((i - 1 : Nat) : Int) := by omega
   have e2:I64 ((i - 1:Nat):Int):=by unfold I64;omega
   have e3:(0:Int) < (i:Int):=by omega
   simp only [e1,aA e2,aH hq,e3,if_true,fE,aD,aA (bW hi h),dM]
   grind
  have e3 : ¬ (0 : Int) < (i : Int) := by omega
  simp only [e3,if_false,fE,aD,aA (bW hi h),dM]
  grind
 simp
theorem qMH (t : Al) (h : t.Ab.length <= 2000000) (k : Unit -> Option Int) : bS (
    aY (fun x72 =>
     if x72 < (t.Ab.length : Int) then
      aU t.Ab x72 fun e75 =>
      aB (mO t e75.name) fun r76 =>
      if r76 = x72 then
       aC (I64 (x72 + (1 : Int))) <|
       some (.inl (x72 + (1 : Int)))
      else
       aQ (
        aQ (
         some (8 : Int)))
     else
      aQ (
       some (.inl ()))) (0 : Int)) k = if vO t.Ab = true then k () else some 8 := by
 rw [fD t.Ab.length (λi=>!yA t.Ab i) (.inr 8) (.inl ()) (by omega),fZ]
 ·unfold vO;cases fO t.Ab.length (yA t.Ab)<;>rfl
 ·intro i hi;obtain⟨x,hx⟩:=jL hi;have hf:=qXT hx;simp only [eD hi,if_true,aH hx,qXU t _ (show Cnt t.Ab by unfold Cnt;omega),aD,aA (bW hi (by omega)),dM]
  cases hb:yA t.Ab i with
  | true=>rw [hb] at hf;rw [if_pos (of_decide_eq_true hf)];simp
  | false=>rw [hb] at hf;rw [if_neg (of_decide_eq_false hf)];simp
 simp
theorem qHZ (t:Al) (r:Ai) (ht:Cnt t.Ae) (h:Short r):(aB (lC t r) λa=>if (!(a))=true then some true else aB (dO t r.Ae) λb=>if (!(b))=true then some true else aB (dO t r.Aj) λc=>if (!(c))=true then some true else aB (dO t r.At) λd=>some (!(d)))=some (!(lS t r&&oG t r)):=by
 have h1:=h.Ae;have h2:=h.over;have h3:=h.At;rw [qSF t r h,rW t _ ht (by omega),rW t _ ht (by omega),rW t _ ht (by omega)];unfold oG;cases lS t r<;>cases eO t r.Ae<;>cases eO t r.Aj<;>cases eO t r.At<;>rfl
theorem qTP (t:Al) (h:TOk t):lD t=some (fK t):=by
 have hp:=h.Ae;have hr:=h.Ab;unfold lD;by_cases hl:qEC t=true
 ·rw [if_neg (by unfold qEC at hl; simp only [decide_eq_true_eq] at hl; simp only [Bool.or_eq_true, decide_eq_true_eq]; omega)];by_cases e:t.A1.length=t.Ae.length
  ·rw [if_pos (by rw [e]), qOX t (by omega) e, oV t.Ab (fun r => lS t r && oG t r) 1 hr _ (fun r hm => qHZ t r (by omega) (h.each r hm)), oV t.Ab nH 10 hr _ (fun r hm => qRM r (h.each r hm)), qMH t hr];unfold fK;simp only [hl];have hpb:nD t=fO t.Ae.length (sI t):=by unfold nD;simp [e]
   rw [hpb];cases fO t.Ae.length (sI t)<;>cases t.Ab.all (λr=>lS t r&&oG t r)<;>cases t.Ab.all nH<;>cases vO t.Ab<;>rfl
  rw [if_neg (by omega),qAP hl (by unfold nD;simp [e])]
 rw [if_pos (by unfold qEC at hl;simp only [decide_eq_true_eq] at hl;simp only [Bool.or_eq_true,decide_eq_true_eq];omega),qKE (by simpa using hl)]
theorem qKZ (x:Ak) (n:Int) (hn:0<=n/\n<=2000000):iG x n=some (dZ x n):=by
 unfold iG;simp only [aA (show I64 (n - 1) by unfold I64;omega),fE,aD];simp only [qAB,Option.some.injEq];rw [Bool.eq_iff_iff];unfold dZ;simp only [qAT,zQA,decide_eq_true_eq,Bool.or_eq_true,and_true,Bool.false_eq_true,and_false,or_false];rcases Decidable.em (x.state=0) with s0|s0<;>rcases Decidable.em (x.state=1) with s1|s1<;>rcases Decidable.em (x.state=2) with s2|s2<;>rcases Decidable.em (x.state=3) with s3|s3<;>rcases Decidable.em (x.state=4) with s4|s4<;>first|omega|(simp only [s0,s1,s2,s3,s4,if_true,if_false,true_and,false_and,or_false,false_or,not_true,not_false_iff,and_true,and_false,true_or,or_true];omega)
theorem qMP (x:Ak) (n:Int) (hn:0<=n/\n<=2000000):iF x n=some (dZ x n):=by
 unfold iF;simp only [aA (show I64 (n - 1) by unfold I64;omega),fE,aD];simp only [qAB,Option.some.injEq];rw [Bool.eq_iff_iff];unfold dZ;simp only [qAT,zQA,decide_eq_true_eq,Bool.or_eq_true,and_true,Bool.false_eq_true,and_false,or_false];rcases Decidable.em (x.state=0) with s0|s0<;>rcases Decidable.em (x.state=1) with s1|s1<;>rcases Decidable.em (x.state=2) with s2|s2<;>rcases Decidable.em (x.state=3) with s3|s3<;>rcases Decidable.em (x.state=4) with s4|s4<;>first|omega|(simp only [s0,s1,s2,s3,s4,if_true,if_false,true_and,false_and,or_false,false_or,not_true,not_false_iff,and_true,and_false,true_or,or_true];omega)
theorem qJN (t : Al) (s : Az) (h : TOk t) (hlen : s.Ab.length = t.Ab.length) (g : Ak -> Int -> Option Bool) (hg : ∀ x n, 0 <= n /\ n <= 2000000 -> g x n = some (dZ x n)) (k : Unit -> Option Bool) : bS (
   aY (fun x9 =>
    if x9 < (s.Ab.length : Int) then
     aU s.Ab x9 fun e12 =>
     aU t.Ab x9 fun e13 =>
     aB (g e12 (e13.Ad.length : Int)) fun r14 =>
     if (!(r14)) = true then
      aQ (
       aQ (
        some false))
     else
      aC (I64 (x9 + (1 : Int))) <|
      some (.inl (x9 + (1 : Int)))
    else
     aQ (
      some (.inl ()))) (0 : Int)) k = if fO s.Ab.length (jP t s) = true then k () else some false := by
 have hr:=h.Ab;rw [fD s.Ab.length (λi=>!jP t s i) (.inr false) (.inl ()) (by omega),fZ]
 ·cases fO s.Ab.length (jP t s)<;>rfl
 ·intro i hi;obtain⟨x,hx⟩:=jL hi;obtain⟨r,hrr⟩:=jL (xs:=t.Ab) (i:=i) (by omega);have hs:=(h.each r (zQM hrr)).secs;simp only [eD hi,if_true,aH hx,aH hrr,hg x _ (show 0<=(r.Ad.length:Int)/\(r.Ad.length:Int)<=2000000 by omega),aD,zD hx hrr,aA (bW hi (by omega)),dM]
 simp
theorem zBA (l : List Int) (h : Cnt l) (k : Unit -> Option Bool) : bS (
   aY (fun x22 =>
    if x22 < (l.length : Int) then
     aU l x22 fun e25 =>
     if ((!(decide (e25 = (1 : Int)))) && (!(decide (e25 = (2 : Int))))) = true then
      aQ (
       aQ (
        some false))
     else
      aC (I64 (x22 + (1 : Int))) <|
      some (.inl (x22 + (1 : Int)))
    else
     aQ (
      some (.inl ()))) (0 : Int)) k = if l.all qED = true then k () else some false := by
 rw [fI l (λr=>!qED r) (.inr false) (.inl ()) h,jS]
 ·cases l.all qED<;>rfl
 ·intro i x hx;have hi:=(zQQ.1 hx).1;simp only [eD hi,if_true,aH hx,aA (bW hi h),dM,qED];by_cases h1:x=1<;>by_cases h2:x=2<;>simp [h1,h2]
 simp
theorem qTA (l : List Int) (h : Cnt l) (k : Unit -> Option Bool) : bS (
   aY (fun x22 =>
    if x22 < (l.length : Int) then
     aB (
      aU l x22 fun e27 =>
      if e27 = (1 : Int) then
       some false
      else
       aU l x22 fun e29 =>
       some (!(decide (e29 = (2 : Int))))) fun x25 =>
     if x25 = true then
      aQ (
       aQ (
        some false))
     else
      aC (I64 (x22 + (1 : Int))) <|
      some (.inl (x22 + (1 : Int)))
    else
     aQ (
      some (.inl ()))) (0 : Int)) k = if l.all qED = true then k () else some false := by
 rw [fI l (λr=>!qED r) (.inr false) (.inl ()) h,jS]
 ·cases l.all qED<;>rfl
 ·intro i x hx;have hi:=(zQQ.1 hx).1;simp only [eD hi,if_true,aH hx,aA (bW hi h),dM,qED,fE,aD];by_cases h1:x=1<;>by_cases h2:x=2<;>simp [h1,h2]
 simp
theorem qKB (t:Al) (s:Az):(if fK t=(0:Int) then if (s.Ab.length:Int)=(t.Ab.length:Int) then some (!(decide ((s.lies.length:Int)=(t.Ae.length:Int)))) else some true else some true)=some (!decide (fK t=0/\s.Ab.length=t.Ab.length/\s.lies.length=t.Ae.length)):=by
 by_cases h1:fK t=0<;>by_cases h2:s.Ab.length=t.Ab.length<;>by_cases h3:s.lies.length=t.Ae.length<;>simp [h1,h2,h3]<;>omega
theorem zEM (t:Al) (s:Az) (h:TOk t):qQ t s=some (tD t s):=by
 have hp:=h.Ae;unfold qQ tD;simp only [zCC t h,aD,qKB];by_cases hd:fK t=0/\s.Ab.length=t.Ab.length/\s.lies.length=t.Ae.length
 ·rw [decide_eq_true hd];simp only [Bool.not_true,Bool.false_eq_true,if_false];rw [qJN t s h hd.2.1 _ (λx n hn=>qKZ x n hn),zBA s.lies (by unfold Cnt;omega)];cases fO s.Ab.length (jP t s)<;>cases s.lies.all qED<;>rfl
 simp [hd]
theorem qXS (t:Al) (s:Az) (h:TOk t):pY t s=some (tD t s):=by
 have hp:=h.Ae;unfold pY tD;simp only [qTP t h,aD,qKB];by_cases hd:fK t=0/\s.Ab.length=t.Ab.length/\s.lies.length=t.Ae.length
 ·rw [decide_eq_true hd];simp only [Bool.not_true,Bool.false_eq_true,if_false];rw [qJN t s h hd.2.1 _ (λx n hn=>qMP x n hn),qTA s.lies (by unfold Cnt;omega)];cases fO s.Ab.length (jP t s)<;>cases s.lies.all qED<;>rfl
 simp [hd]
theorem zI {x:Ak} {n:Nat} (h:dZ x n=true):0<=x.rel/\x.rel<=n:=by
 unfold dZ at h;split at h
 ·simp at h;omega
 split at h
 ·simp at h;omega
 split at h
 ·simp at h;omega
 cases h
theorem qGY (l:List Int) (h:l.length<=1000000000):dD l=some l:=by
 unfold dD;rw [aA (by simpa using h)];cases l<;>simp [qXB]
theorem zAX (r:Ai) (x:Ak) (h:Short r) (hx:dZ x r.Ad.length=true):qO r x=some (nX r x):=by
 have hr:=zI hx;have hs:=h.secs;unfold qO nX;split
 ·rfl
 rw [aA ⟨hr.1,hr.2,Int.le_refl _⟩];have e:x.rel=((x.rel.toNat:Nat):Int):=by omega
 rw [e,lM];simp only [Int.toNat_natCast];rw [qGY _ (by simp;omega)];rfl
theorem zAY (r:Ai) (x:Ak) (h:Short r):qP r x=some (nY r x):=by
 have hs:=h.secs;unfold qP nY;split
 ·rfl
 rw [qGY _ (by omega)];rfl
theorem qWV (t:Al) (s:Az) (h:TOk t) {i:Nat} {r:Ai} {x:Ak} (hr:t.Ab[i]?=some r) (hx:s.Ab[i]?=some x) (hf:dZ x r.Ad.length=true):iX t s (i:Int)=some (nX r x):=by
 have hrl:=zI hf;have hs:=(h.each r (zQM hr)).secs;unfold iX nX;rw [aH hx];split
 ·rfl
 rw [aH hr,aH hx,aA ⟨hrl.1,hrl.2,Int.le_refl _⟩];have e:x.rel=((x.rel.toNat:Nat):Int):=by omega
 rw [e,lM];simp only [Int.toNat_natCast];rw [aA (by simp;omega),List.nil_append]
theorem qWZ (t:Al) (s:Az) (h:TOk t) {i:Nat} {r:Ai} {x:Ak} (hr:t.Ab[i]?=some r) (hx:s.Ab[i]?=some x):iY t s (i:Int)=some (nY r x):=by
 have hs:=(h.each r (zQM hr)).secs;unfold iY nY;rw [aH hx];split
 ·rfl
 rw [aH hr,aA (by simp;omega),List.nil_append]
end Go.Proofs.YtofndjhpbonpbaaGreatDoor
