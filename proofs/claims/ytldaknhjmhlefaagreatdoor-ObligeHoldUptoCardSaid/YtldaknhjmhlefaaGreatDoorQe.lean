/- A part of the proof. No condition. -/
import Derived.Test.YtldaknhjmhlefaaGreatDoorQd
set_option linter.unusedSimpArgs false
set_option linter.unusedVariables false

set_option maxHeartbeats 8000000
set_option linter.unusedSimpArgs false
set_option linter.unusedVariables false
set_option maxRecDepth 20000
namespace Go.Proofs.YtldaknhjmhlefaaGreatDoor
open Go Go.TL Go.Proofs.Tryz
theorem we{f:BA}{g:BA}{h:(List Int)}{r:BA}(a:rE f g h=some r):RetN TP 175 [.str f,.str g,.sl 1 (h.map (D.int .i64))] (.str r):=by
 refine .unit (aN (bE Q) func175 Q ntmps175 Q Q (λwX gX=>?_)) Q;unfold rE at a;refine aC [0,1,2] Q (bO 4 Q (aL a (λb=>([(0,.d (.str b))])) (λb=>[]) [0] [] Q (λu a=>?_) (λb a=>?_)));refine aQ 2 Q (aW TK Q (aH 4 Q (aX a (λ(c,e)=>([(0,.d (.str c)),(11,.d (.int .i64 e))])) (λ(c,e)=>[]) [0,11] [1,9,10] [] k0 Q (λs v a o=>?_))));obtain⟨c,e⟩:=s;refine aC [0,1,9,10,11] Q (bO 5 Q (bK a Q (λl a=>?_) (λl a=>?_)));exact aK 5 Q (VE a λp m a=>dN TK Q m (aI 8 Q (cW a (yJ ·) Q λq a=>GE a λi a=>bN Q (yE Q Q Q i) (GE a λj a=>bN Q (yE Q Q Q j) (aI 5 Q (GE a λk a=>bF Q k (aG 2 Q (bU [] a Q Q))))))));refine aM 2 Q (IE a λt a n=>?_);rw[o _ n]at a;exact WX (bM 1 Q (bI [] a Q Q));exact aC [0] Q (aM 6 Q (bD a Q))
theorem bq{b:(List Ab)}{r:Ab}(a:tC b=some r):RetD TP 105 [.sl 3 (b.map Ab.As)] (r.enc):=by
 refine .of (mv:=λ_=>false) (aN (bE Q) func105 Q ntmps105 Q Q (λwX gX=>?_));unfold tC at a;refine aC [0] Q (aQ 1 Q (cS 0 Q Q aO Q (cL 0 [none,none,some 3] Q Q (aI 4 Q (bN Q (cK Q vX aO Q Q Q Q) (aG 4 Q ?_))))));obtain rfl:=OJ a;exact EndsS.cellR _ TK Q Q Q Q Q (.d _)
theorem nP{a:Ab}{r:Ab}(b:kH a=some r):RetD TP 97 [a.enc] (r.enc):=by
 refine .of (mv:=λ_=>false) (aN (bE Q) func97 Q ntmps97 Q Q (λwX gX=>?_));unfold kH at b;refine aC [0] Q (aQ 1 Q (cY 0 Q Q Q (cS 1 Q Q aO Q (cL 1 [none,none,some 3] Q Q (aI 4 Q (bN Q (bY (f:=Ab.As) (xs:=([a]:List Ab)) [.tmp 3] TK Q Q aO Q (bV Q (aF (Ab.Ah _) aZ)) Q (aS Ab.Aj) Q) (bN Q (cK Q vX aO Q Q Q Q) (aG 4 Q ?_))))))));obtain rfl:=OJ b;exact EndsS.cellR _ TK Q Q Q Q Q (.d _)
theorem pH{b:(List Ab)}{r:Ab}(a:nY b=some r):RetD TP 98 [.sl 3 (b.map Ab.As)] (r.enc):=by
 refine .of (mv:=λ_=>false) (aN (bE Q) func98 Q ntmps98 Q Q (λwX gX=>?_));unfold nY at a;refine aC [0] Q (aQ 1 Q (cS 0 Q Q aO Q (cL 0 [none,none,some 3] Q Q (aI 4 Q (bN Q (cK Q vX aO Q Q Q Q) (aG 4 Q ?_))))));obtain rfl:=OJ a;exact EndsS.cellR _ TK Q Q Q Q Q (.d _)
theorem dG{a:Av}{c:BA}{e:(List Int)}{r:Ab}(b:bS a c e=some r):Ret TP 104 [fy a.A0 1 2 a.list.length,.map 9 3 (eP D.str (D.int .i64) a.vars),.flat 42 4 (a.list.map Am.enc)] (λ_=>false) [.mptr 0 0 0 0,.d (.str c),.d (.sl 1 (e.map (D.int .i64)))] (.d (r.enc)) [fy a.A0 1 2 a.list.length,.map 9 3 (eP D.str (D.int .i64) a.vars),.flat 42 4 (a.list.map Am.enc)]:=by
 refine cP (bE Q) func104 Q ntmps104 Q Q (λwX gX=>?_);unfold bS at b;refine aC [0,1,2] Q (aQ 1 Q (cS 3 Q Q aO Q (cL 3 [none,none,some 3] Q Q (aH 2 Q (bR follows ?_)))));iterate 6 (refine DA [0,1,2,3] TK Q ?_)
 refine gI [0,1,2,3] b (we ·) Q λg b=>GE b λf b=>aV [0,1,2,3] Q (Y2 Cr (D.int .i64) _ _ (0:Int) Q mty91 gA Q Q Q Q f) (aV [0,1,2,3] Q (cK Q vX aO Q Q Q Q) ?_);refine DT ?_ (by kernel_rfl);refine aI 1 Q (cL 3 [none,none,some 3] Q Q (aG 3 Q ?_));obtain rfl:=OJ b;exact⟨_,[0,1,2],.mk _ (.cons (.agg (TK.lay Q) Q Q Q Q) .nil) Q,by decide,(kB Q),Q,Q⟩
theorem kQ{b:Av}{c:Int}{r:Ab}(a:eB b c=some r):Ret TP 101 [fy b.A0 1 2 b.list.length,.map 9 3 (eP D.str (D.int .i64) b.vars),.flat 42 4 (b.list.map Am.enc)] (λ_=>false) [.mptr 0 0 0 0,.d (.int .i64 c)] (.d (r.enc)) [fy b.A0 1 2 b.list.length,.map 9 3 (eP D.str (D.int .i64) b.vars),.flat 42 4 (b.list.map Am.enc)]:=by
 refine cP (bE Q) func101 Q ntmps101 Q Q (λwX gX=>?_);unfold eB at a;refine aC [0,1] Q (aQ 1 Q (cS 3 Q Q aO Q (cL 3 [none,none,some 3] Q Q (aI 5 Q (dO [.tmp 6] TK Q gA (BE a λj e a=>bZ [0,1,2] (dG e) Q (aI 2 Q (dO [.tmp 10] TK Q gA (BE a λk g a=>bZ [0,1,2] (dG g) Q (aI 2 Q (dO [.tmp 14] TK Q gA (BE a λl h a=>bZ [0,1,2] (dG h) Q (aI 2 Q (dO [.tmp 18] TK Q gA (BE a λm i a=>bZ [0,1,2] (dG i) Q (bN Q (bY (f:=Ab.As) (xs:=([j,k,l,m]:List Ab)) [.tmp 8,.tmp 12,.tmp 16,.tmp 20] TK Q Q aO Q (bV Q (aF (Ab.Ah _) (aF (Ab.Ah _) (aF (Ab.Ah _) (aF (Ab.Ah _) aZ))))) Q (aS Ab.Aj) Q) (fA a (bq ·) Q λn a=>aH 3 Q (aC [4] Q ?_))))))))))))))))));refine aM 1 Q ?_;obtain rfl:=OJ a;exact⟨_,[0,1,2],.mk _ (.cons (.agg (TK.lay Q) Q Q Q Q) .nil) Q,by decide,(kB Q),Q,Q⟩
theorem lI{b:Av}{c:Int}{e:Int}{r:Ab}(a:eH b c e=some r):Ret TP 99 [fy b.A0 1 2 b.list.length,.map 9 3 (eP D.str (D.int .i64) b.vars),.flat 42 4 (b.list.map Am.enc)] (λ_=>false) [.mptr 0 0 0 0,.d (.int .i64 c),.d (.int .i64 e)] (.d (r.enc)) [fy b.A0 1 2 b.list.length,.map 9 3 (eP D.str (D.int .i64) b.vars),.flat 42 4 (b.list.map Am.enc)]:=by
 refine cP (bE Q) func99 Q ntmps99 Q Q (λwX gX=>?_);unfold eH at a;refine aC [0,1,2] Q (aQ 1 Q (cS 3 Q Q aO Q (cL 3 [none,none,some 3] Q Q (aI 11 Q (VE a λo i a=>dN TK Q i (aI 2 Q (aW TK Q (GE a λg a=>bF Q g (aH 3 Q (bK a Q (λh a=>?_) (λh a=>?_)))))))))));refine aK 3 Q (BE a λp j a=>bZ [0,1,2] (kQ j) Q (aH 3 Q (aC [6] Q (aM 2 Q ?_))));obtain rfl:=OJ a;exact⟨_,[0,1,2],.mk _ (.cons (.agg (TK.lay Q) Q Q Q Q) .nil) Q,by decide,(kB Q),Q,Q⟩;refine aK 5 Q (BE a λm k a=>bZ [0,1,2] (kQ k) Q (aI 3 Q (dO [.tmp 27,.tmp 28] TK Q gA (BE a λq l a=>bZ [0,1,2] (dG l) Q (fA a (nP ·) Q λn a=>bN Q (bY (f:=Ab.As) (xs:=([m,n]:List Ab)) [.tmp 25,.tmp 31] TK Q Q aO Q (bV Q (aF (Ab.Ah _) (aF (Ab.Ah _) aZ))) Q (aS Ab.Aj) Q) (fA a (pH ·) Q λs a=>aH 3 Q (aC [6] Q (aM 1 Q ?_))))))));obtain rfl:=OJ a;exact⟨_,[0,1,2],.mk _ (.cons (.agg (TK.lay Q) Q Q Q Q) .nil) Q,by decide,(kB Q),Q,Q⟩
theorem iR{b:Av}{c:Ab}{e:BA}{g:(List Int)}{r:Av}(a:eV b c e g=some r):Ret TP 96 [fy b.A0 1 2 b.list.length,.map 9 3 (eP D.str (D.int .i64) b.vars),.flat 42 4 (b.list.map Am.enc)] (λj=>Nat.beq j 2) [.mptr 0 0 0 0,.d (c.enc),.d (.str e),.d (.sl 1 (g.map (D.int .i64)))] (.tup []) [fy b.A0 1 2 r.list.length,.map 9 3 (eP D.str (D.int .i64) b.vars),.flat 42 4 (r.list.map Am.enc)]:=by
 refine cP (bE Q) func96 Q ntmps96 Q Q (λwX gX=>?_);unfold eV at a;refine aC [0,1,2,3] Q (aQ 1 Q (cY 3 Q Q Q (aH 2 Q (dP follows ?_))));iterate 7 (refine DA [0,1,2,3] TK Q ?_)
 refine gI [0,1,2,3] a (we ·) Q λh a=>DA [0,1,2,3] TK Q (aV [0,1,2,3] Q (cK Q plc42 L9 Q Q Q Q) (aV [0,1,2,3] Q (nD [.tmp 17] TK Q Q L9 Q Q Q Q Q) ?_));refine qc 0 8 ?_ ?_ Q (by kernel_rfl) (by kernel_rfl) (by kernel_rfl);refine GE a λi a=>cG (f:=Am.enc) ([(⟨h,c⟩:Am)]:List Am) TK Q Q L9 Q Q Q Q Q (λ_=>Q) Q cB i Q Q (aG 4 Q ?_);obtain rfl:=OJ a;exact⟨_,[0,1,2],res Q,by decide,(kB Q),Q,Q⟩;refine GE a λk a=>cG (f:=Am.enc) ([(⟨h,c⟩:Am)]:List Am) TK Q Q L9 Q Q Q Q Q (λ_=>Q) Q cB k Q Q (aG 5 Q ?_);obtain rfl:=OJ a;exact⟨_,[0,1,2],res Q,by decide,(kB Q),Q,Q⟩
theorem cq{b:Av}{r:Av}(a:iP b=some r):Ret TP 36 [fy b.A0 1 2 b.list.length,.map 9 3 (eP D.str (D.int .i64) b.vars),.flat 42 4 (b.list.map Am.enc)] (λj=>Nat.beq j 2) [.mptr 0 0 0 0] (.tup []) [fy b.A0 1 2 r.list.length,.map 9 3 (eP D.str (D.int .i64) b.vars),.flat 42 4 (r.list.map Am.enc)]:=by
 refine cP (bE Q) func36 Q ntmps36 Q Q (λwX gX=>?_);unfold iP at a;refine aC [0] Q (aQ 6 Q (aW TK Q (aH 4 Q (aX a (λ(n,i)=>([(13,.d (.int .i64 n))])) (λ(n,i)=>([(0,fy b.A0 1 2 i.length),(2,.flat 42 4 (i.map Am.enc))])) [13] [0,12] [0,1,2] (kB Q) Q (λs Z a I=>?_)))));obtain⟨n,i⟩:=s;refine aC [0,12,13] Q (bO 5 Q (bK a Q (λy a=>?_) (λy a=>?_)));refine cH 2 Q (aL a (λk=>[]) (λk=>([(0,fy b.A0 1 2 k.length),(2,.flat 42 4 (k.map Am.enc))])) [] [0,12,13] Q (λa0 a=>?_) (λk a=>?_))
 ·refine aQ 8 Q (GE a λo a=>bF Q o (aH 4 Q (aX a (λ(l,e)=>([(3,.d (.int .i64 l))])) (λ(l,e)=>([(0,fy b.A0 1 2 e.length),(2,.flat 42 4 (e.map Am.enc))])) [3] [0,2,12,13] [0,1,2] (kB Q) Q (λs W a G=>?_))));obtain⟨l,e⟩:=s;refine aC [0,2,3,12,13] Q (aQ 8 Q (aW TK Q (aH 3 Q (bK a Q (λv a=>?_) (λv a=>?_)))));refine cH 2 Q (aL a (λg=>[]) (λg=>([(0,fy b.A0 1 2 g.length),(2,.flat 42 4 (g.map Am.enc))])) [] [0,2,3,12,13] Q (λX a=>?_) (λg a=>?_))
  ·refine aQ 8 Q (VE a λL z a=>dN TK Q z (aI 2 Q (aW TK Q (aH 3 Q (aC [0,2,3,12,13,36,37,38] Q (cH 1 Q (aX a (λ(m,h)=>([(38,.d (.int .i64 m))])) (λ(m,h)=>([(0,fy b.A0 1 2 h.length),(2,.flat 42 4 (h.map Am.enc))])) [38] [0,2,3,12,13,36,37] [0,1,2] (kB Q) Q (λs Y a H=>?_))))))));obtain⟨m,h⟩:=s;refine aC [0,2,3,12,13,36,37,38] Q (bO 5 Q (bK a Q (λw a=>?_) (λw a=>?_)));refine aK 6 Q (VE a λM A a=>dN TK Q A (aI 12 Q (VE a λN B a=>dN TK Q B (aI 3 Q (cW a (iG ·) Q λO a=>aH 3 Q (aC [0,2,3,4,5,6,12,13,36,37,38] Q (cH 5 Q (bK a Q (λx a=>?_) (λx a=>?_)))))))))
   ·refine aK 5 Q (BE a λJ C a=>bZ [0,1,2] (lI C) Q (aI 3 Q (BE a λK E a=>bZ [0,1,2] (lI E) Q (bN Q (bY (f:=Ab.As) (xs:=([J,K]:List Ab)) [.tmp 60,.tmp 64] TK Q Q aO Q (bV Q (aF (Ab.Ah _) (aF (Ab.Ah _) aZ))) Q (aS Ab.Aj) Q) (fA a (pH ·) Q λP a=>fA a (nP ·) Q λR a=>aI 3 Q (dO [.tmp 68,.tmp 69,.tmp 70] TK Q gA (BE a λS F a=>?_)))))));refine dF [0,1,2] (λj=>Nat.beq j 2) Q Q Q (by decide) Q Q Q Q (iR F) Q Q Q ?_;exact aH 3 Q (aC [0,2,3,12,13,36,37,38] Q (aK 1 Q (GE a λp a=>bF Q p (aG 2 Q (uK [0,1,2] a Q (kB Q) Q)))))
   exact aK 4 Q (GE a λq a=>bF Q q (aG 2 Q (uK [0,1,2] a Q (kB Q) Q)));refine aM 2 Q (IE a λT a c=>?_);rw[H _ c]at a;exact WX (bM 2 Q (oW [0,1,2] a Q (kB Q) Q))
  exact aC [0,2,3,12,13] Q (aK 2 Q (GE a λt a=>bF Q t (aG 2 Q (uK [0,1,2] a Q (kB Q) Q))));refine aM 2 Q (IE a λU a c=>?_);rw[G _ c]at a;exact WX (bM 2 Q (oW [0,1,2] a Q (kB Q) Q))
 exact aC [0,12,13] Q (aK 1 Q (GE a λu a=>bF Q u (aG 2 Q (uK [0,1,2] a Q (kB Q) Q))));refine aM 2 Q (IE a λV a c=>?_);rw[I _ c]at a;refine WX (bM 1 Q ?_);obtain rfl:=OJ a;exact⟨_,[0,1,2],res Q,by decide,(kB Q),Q,Q⟩
theorem xI{b:Av}{r:Av}(a:gJ b=some r):Ret TP 37 [fy b.A0 1 2 b.list.length,.map 9 3 (eP D.str (D.int .i64) b.vars),.flat 42 4 (b.list.map Am.enc)] (λj=>Nat.beq j 2) [.mptr 0 0 0 0] (.tup []) [fy b.A0 1 2 r.list.length,.map 9 3 (eP D.str (D.int .i64) b.vars),.flat 42 4 (r.list.map Am.enc)]:=by
 refine cP (bE Q) func37 Q ntmps37 Q Q (λwX gX=>?_);unfold gJ at a;refine aC [0] Q (aQ 6 Q (aW TK Q (aH 4 Q (aX a (λ(o,i)=>([(15,.d (.int .i64 o))])) (λ(o,i)=>([(0,fy b.A0 1 2 i.length),(2,.flat 42 4 (i.map Am.enc))])) [15] [0,13,14] [0,1,2] (kB Q) Q (λs a4 a K=>?_)))));obtain⟨o,i⟩:=s;refine aC [0,13,14,15] Q (bO 5 Q (bK a Q (λA a=>?_) (λA a=>?_)));refine cH 2 Q (aL a (λk=>[]) (λk=>([(0,fy b.A0 1 2 k.length),(2,.flat 42 4 (k.map Am.enc))])) [] [0,13,14,15] Q (λa5 a=>?_) (λk a=>?_))
 ·refine aQ 3 Q (VE a λO B a=>dN TK Q B (aI 1 Q (cS 3 Q Q iM Q (cL 3 [none,none,none,some 3,some 2,some 1,none,none,some 3,some 2,some 1,some 2,some 1,some 2] Q Q (aI 10 Q (aW TK Q (aH 4 Q (aX a (λ(l,e)=>([(26,.d (.int .i64 l))])) (λ(l,e)=>([(0,fy b.A0 1 2 e.length),(2,.flat 42 4 (e.map Am.enc))])) [26] [0,2,3,13,14,15,24,25] [0,1,2,3] (kB Q) Q (λs a0 a I=>?_)))))))));obtain⟨l,e⟩:=s;refine aC [0,2,3,13,14,15,24,25,26] Q (bO 5 Q (bK a Q (λw a=>?_) (λw a=>?_)));refine cH 2 Q (aL a (λg=>[]) (λg=>([(0,fy b.A0 1 2 g.length),(2,.flat 42 4 (g.map Am.enc))])) [] [0,2,3,13,14,15,24,25,26] Q (λa1 a=>?_) (λg a=>?_))
  ·refine aQ 3 Q (VE a λP C a=>dN TK Q C (aI 1 Q (cS 4 Q Q iM Q (cL 4 [none,none,none,some 3,some 2,some 1,none,none,some 3,some 2,some 1,some 2,some 1,some 2] Q Q (aH 4 Q (aC [0,2,3,4,5,13,14,15,24,25,26] Q (cH 1 Q (aL a (λm=>([(38,.d (.bool (m)))])) (λm=>[]) [38] [0,2,3,4,5,13,14,15,24,25,26] Q (λa2 a=>?_) (λm a=>?_)))))))))
   ·refine aQ 4 Q (SB TK Q (λL p=>?_));cases L;replace a:=JF p a;exact aI 2 Q (cW a (sR ·) Q λS a=>aG 2 Q (oW [0,1,2,3,4] a Q (kB Q) Q));replace a:=JT p a;exact aG 5 Q (oW [0,1,2,3,4] a Q (kB Q) Q)
   refine aC [0,2,3,4,5,13,14,15,24,25,26,38] Q (cI a Q (λx a=>?_) (λx a=>?_))
   ·exact aM 3 Q (oW [0,1,2,3] a Q (kB Q) Q)
   refine aK 5 Q (aW TK Q (aH 4 Q (aX a (λ(n,h)=>([(42,.d (.int .i64 n))])) (λ(n,h)=>([(0,fy b.A0 1 2 h.length),(2,.flat 42 4 (h.map Am.enc))])) [42] [0,2,3,4,5,13,14,15,24,25,26,40,41] [0,1,2,3,4] (kB Q) Q (λs a3 a J=>?_))));obtain⟨n,h⟩:=s;refine aC [0,2,3,4,5,13,14,15,24,25,26,40,41,42] Q (bO 5 Q (bK a Q (λy a=>?_) (λy a=>?_)));refine aK 5 Q (VE a λR E a=>dN TK Q E (aI 8 Q (cW a (iG ·) Q λT a=>aH 8 Q (bK a Q (λz a=>?_) (λz a=>?_)))))
   ·refine aK 4 Q (BE a λM F a=>bZ [0,1,2] (kQ F) Q (aI 3 Q (BE a λN G a=>bZ [0,1,2] (lI G) Q (bN Q (bY (f:=Ab.As) (xs:=([M,N]:List Ab)) [.tmp 55,.tmp 59] TK Q Q aO Q (bV Q (aF (Ab.Ah _) (aF (Ab.Ah _) aZ))) Q (aS Ab.Aj) Q) (fA a (pH ·) Q λU a=>fA a (nP ·) Q λV a=>aI 3 Q (dO [.tmp 63,.tmp 64,.tmp 65] TK Q gA (BE a λW H a=>?_)))))));refine dF [0,1,2] (λj=>Nat.beq j 2) Q Q Q (by decide) Q Q Q Q (iR H) Q Q Q ?_;exact aH 3 Q (aC [0,2,3,4,5,13,14,15,24,25,26,40,41,42] Q (aK 1 Q (GE a λq a=>bF Q q (aG 2 Q (uK [0,1,2,3,4] a Q (kB Q) Q)))))
   exact aK 4 Q (GE a λt a=>bF Q t (aG 2 Q (uK [0,1,2,3,4] a Q (kB Q) Q)));refine aM 2 Q (IE a λX a c=>?_);rw[J _ c]at a;exact WX (bM 2 Q (oW [0,1,2,3] a Q (kB Q) Q))
  exact aC [0,2,3,13,14,15,24,25,26] Q (aK 1 Q (GE a λu a=>bF Q u (aG 2 Q (uK [0,1,2,3] a Q (kB Q) Q))));refine aM 2 Q (IE a λY a c=>?_);rw[I _ c]at a;exact WX (bM 2 Q (oW [0,1,2] a Q (kB Q) Q))
 exact aC [0,13,14,15] Q (aK 1 Q (GE a λv a=>bF Q v (aG 2 Q (uK [0,1,2] a Q (kB Q) Q))));refine aM 2 Q (IE a λZ a c=>?_);rw[K _ c]at a;refine WX (bM 1 Q ?_);obtain rfl:=OJ a;exact⟨_,[0,1,2],res Q,by decide,(kB Q),Q,Q⟩
theorem cr{b:Av}{g:Int}{h:Ad}{r:Ab}(a:iQ b g h=some r):Ret TP 106 [fy b.A0 1 2 b.list.length,.map 9 3 (eP D.str (D.int .i64) b.vars),.flat 42 4 (b.list.map Am.enc)] (λ_=>false) [.mptr 0 0 0 0,.d (.int .i64 g),.d (h.enc)] (.d (r.enc)) [fy b.A0 1 2 b.list.length,.map 9 3 (eP D.str (D.int .i64) b.vars),.flat 42 4 (b.list.map Am.enc)]:=by
 refine cP (bE Q) func106 Q ntmps106 Q Q (λwX gX=>?_);unfold iQ at a;refine aC [0,1,2] Q (aQ 1 Q (cY 3 Q Q Q (cS 4 Q Q aO Q (cL 4 [none,none,some 3] Q Q (aH 2 Q (aC [0,1,5,6] Q (aK 7 Q (VE a λp j a=>dN TK Q j (aI 1 Q (cS 5 Q Q iM Q (cL 5 [none,none,none,some 3,some 2,some 1,none,none,some 3,some 2,some 1,some 2,some 1,some 2] Q Q (aH 3 Q (aC [0,1,5,6,7] Q (bR follows ?_))))))))))))));iterate 13 (refine DA [0,1,2,3,4,5] TK Q ?_)
 refine gI [0,1,2,3,4,5] a (mL ·) Q λv a=>VE a λq k a=>aV [0,1,2,3,4,5] Q (eW TK Q Q Q Q k) (DA [0,1,2,3,4,5] TK Q (gI [0,1,2,3,4,5] a (iG ·) Q λw a=>?_));refine DT ?_ (by kernel_rfl);refine aH 3 Q (aC [0,1,5,6,7,8] Q (cH 1 Q (aL a (λc=>([(47,.d (.bool (c)))])) (λc=>[]) [47] [0,1,6,8] Q (λy a=>?_) (λc a=>?_))));refine aQ 3 Q (SB TK Q (λn e=>?_));cases n;replace a:=JF e a;refine aI 3 Q (cW a (iX ·) Q λx a=>aI 1 Q (SB TK Q (λo f=>?_)));cases o;replace a:=JB f a;exact aI 3 Q (cW a (iX ·) Q λs a=>aG 2 Q (oW [0,1,2,3,4,5] a Q (kB Q) Q));replace a:=JA f a;exact aG 6 Q (oW [0,1,2,3,4,5] a Q (kB Q) Q);replace a:=JT e a;exact aG 12 Q (oW [0,1,2,3,4,5] a Q (kB Q) Q);refine aC [0,1,6,8,47] Q (cI a Q (λi a=>?_) (λi a=>?_))
 ·refine aK 3 Q (BE a λt l a=>bZ [0,1,2] (kQ l) Q (aH 3 Q (aC [6] Q (aM 2 Q ?_))));obtain rfl:=OJ a;exact⟨_,[0,1,2],.mk _ (.cons (.agg (TK.lay Q) Q Q Q Q) .nil) Q,by decide,(kB Q),Q,Q⟩
 refine aK 6 Q (BE a λu m a=>bZ [0,1,2] (lI m) Q (aH 3 Q (aC [6] Q (aM 1 Q ?_))));obtain rfl:=OJ a;exact⟨_,[0,1,2],.mk _ (.cons (.agg (TK.lay Q) Q Q Q Q) .nil) Q,by decide,(kB Q),Q,Q⟩
theorem fc{b:Av}{k:Int}{r:Av}(a:jE b k=some r):Ret TP 38 [fy b.A0 1 2 b.list.length,.map 9 3 (eP D.str (D.int .i64) b.vars),.flat 42 4 (b.list.map Am.enc)] (λj=>Nat.beq j 2) [.mptr 0 0 0 0,.d (.int .i64 k)] (.tup []) [fy b.A0 1 2 r.list.length,.map 9 3 (eP D.str (D.int .i64) b.vars),.flat 42 4 (r.list.map Am.enc)]:=by
 refine cP (bE Q) func38 Q ntmps38 Q Q (λwX gX=>?_);unfold jE at a;refine aC [0,1] Q (aQ 7 Q (VE a λy o a=>dN TK Q o (aI 1 Q (fA a (mS ·) Q λF a=>aW TK Q (aH 4 Q (aX a (λ(i,c)=>([(18,.d (.int .i64 i))])) (λ(i,c)=>([(0,fy b.A0 1 2 c.length),(2,.flat 42 4 (c.map Am.enc))])) [18] [0,1,16,17] [0,1,2] (kB Q) Q (λs K a w=>?_)))))));obtain⟨i,c⟩:=s;refine aC [0,1,16,17,18] Q (bO 5 Q (bK a Q (λn a=>?_) (λn a=>?_)));refine aK 5 Q (VE a λz p a=>dN TK Q p (aI 1 Q (cS 3 Q Q dJ Q (aH 3 Q (bR follows ?_)))));iterate 6 (refine DA [0,1,2,3] TK Q ?_)
 refine gI [0,1,2,3] a (mL ·) Q λA a=>?_;refine DT ?_ (by kernel_rfl);refine aI 6 Q (dO [.tmp 30] TK Q gA (BE a λB q a=>bZ [0,1,2] (dG q) Q (cS 4 Q Q aO Q (cL 4 [none,none,some 3] Q Q (aH 3 Q (aC [0,1,5,6,7,16,17,18] Q (aL a (λ(e,g,h)=>[]) (λ(e,g,h)=>([(4,.box 40 [.d (.int .i64 e),.d (.int .i64 g),.d (.sl 3 (h.map Ab.As))])])) [] [0,1,5,6,7,16,17,18] Q (λJ a=>?_) (λj a=>?_))))))));refine bO 6 Q (bK a Q (λm a=>?_) (λm a=>?_))
 ·exact aK 2 Q (fA a (nP ·) Q λC a=>aG 2 Q (oW [0,1,2,3,4] a Q (kB Q) Q))
 exact aM 1 Q (oW [0,1,2,3,4] a Q (kB Q) Q);obtain⟨e,g,h⟩:=j;refine aC [0,1,5,6,7,16,17,18] Q (dP follows ?_);iterate 4 (refine DA [0,1,2,3,4] TK Q ?_)
 refine BE a λE t a=>?_;refine aV [0,1,2,3,4] Q (bJ [0,1,2] ⟨Q,Q,λ_=>Q⟩ Q Q Q (by decide) Q (aY Q) Q Q (cr t)) ?_;refine eC [0,1,2,3,4] a (nP ·) Q λx a=>DA [0,1,2,3,4] TK Q (aV [0,1,2,3,4] Q (bY (f:=Ab.As) (xs:=([x,(⟨e,g,h⟩:Ab)]:List Ab)) [.tmp 43,.tmp 44] TK Q Q aO Q (bV Q (aF (Ab.Ah _) (aF (Ab.Ah _) aZ))) Q (aS Ab.Aj) Q) (eC [0,1,2,3,4] a (bq ·) Q λG a=>?_));iterate 2 (refine DA [0,1,2,3,4] TK Q ?_)
 refine aV [0,1,2,3,4] Q (nD [.tmp 47,.tmp 48] TK Q Q gA Q Q Q Q Q) ?_;refine DT ?_ (by kernel_rfl);refine BE a λH u a=>?_;refine dF [0,1,2] (λj=>Nat.beq j 2) Q Q Q (by decide) Q Q Q Q (iR u) Q Q Q ?_;exact aH 3 Q (aC [0,1,16,17,18] Q (aK 1 Q (GE a λl a=>bF Q l (aG 2 Q (uK [0,1,2] a Q (kB Q) Q)))));refine aM 2 Q (IE a λI a v=>?_);rw[w _ v]at a;refine WX (bM 1 Q ?_);obtain rfl:=OJ a;exact⟨_,[0,1,2],res Q,by decide,(kB Q),Q,Q⟩
theorem zY{b:Av}{o:Int}{r:Av}(a:iA b o=some r):Ret TP 39 [fy b.A0 1 2 b.list.length,.map 9 3 (eP D.str (D.int .i64) b.vars),.flat 42 4 (b.list.map Am.enc)] (λj=>Nat.beq j 2) [.mptr 0 0 0 0,.d (.int .i64 o)] (.tup []) [fy b.A0 1 2 r.list.length,.map 9 3 (eP D.str (D.int .i64) b.vars),.flat 42 4 (r.list.map Am.enc)]:=by
 refine cP (bE Q) func39 Q ntmps39 Q Q (λwX gX=>?_);unfold iA at a;refine aC [0,1] Q (aQ 7 Q (VE a λM A a=>dN TK Q A (aI 1 Q (cS 3 Q Q iM Q (cL 3 [none,none,none,some 3,some 2,some 1,none,none,some 3,some 2,some 1,some 2,some 1,some 2] Q Q (aI 4 Q (gU (f:=Ab.As) 4 40 3 Q Q Q (aH 2 Q (aC [0,1,4,5] Q (aL a (λe=>([(5,.msl 4 3 0 e.length)])) (λe=>([(4,.flat 40 3 (e.map Ab.As))])) [5] [0,1,4] Q (λa2 a=>?_) (λe a=>?_)))))))))));refine aQ 5 Q (dO [.tmp 20,.tmp 22] TK Q G3 (cW a (oE ·) Q λU a=>aW TK Q (aH 4 Q (aX a (λ(n,i)=>([(5,.msl 4 3 0 i.length),(26,.d (.int .i64 n))])) (λ(n,i)=>([(4,.flat 40 3 (i.map Ab.As))])) [5,26] [0,1,4,24,25] [0,1,2,3,4] (kB Q) Q (λs Y a I=>?_)))));obtain⟨n,i⟩:=s;refine aC [0,1,4,5,24,25,26] Q (bO 5 Q (bK a Q (λx a=>?_) (λx a=>?_)));refine aK 5 Q (VE a λN B a=>dN TK Q B (aI 8 Q (dO [.tmp 32] TK Q gA (BE a λp E a=>bZ [0,1,2] (dG E) Q (bN Q (bY (f:=Ab.As) (xs:=([p]:List Ab)) [.tmp 34] TK Q Q aO Q (bV Q (aF (Ab.Ah _) aZ)) Q (aS Ab.Aj) Q) (GE a λt a=>?_))))));refine cG (f:=Ab.As) ([p]:List Ab) TK Q Q aO Q Q Q Q Q (λh=>absurd (show 4<3 from h) (by decide)) Q cB t Q Q ?_;exact aH 4 Q (aC [0,1,4,5,24,25,26] Q (aK 1 Q (GE a λu a=>bF Q u (aG 2 Q (uK [0,1,2,3,4] a Q (kB Q) Q)))));refine aM 2 Q (IE a λW a k=>?_);rw[I _ k]at a;exact WX (bM 1 Q (oW [0,1,2,3,4] a Q (kB Q) Q));refine aC [0,1,4,5] Q (aL a (λc=>([(5,.msl 4 3 0 c.length)])) (λc=>([(4,.flat 40 3 (c.map Ab.As))])) [5] [0,1] Q (λZ a=>?_) (λc a=>?_))
 ·refine aQ 2 Q (fA a (mS ·) Q λP a=>aW TK Q (aH 4 Q (aX a (λ(m,g)=>([(5,.msl 4 3 0 g.length),(41,.d (.int .i64 m))])) (λ(m,g)=>([(4,.flat 40 3 (g.map Ab.As))])) [5,41] [0,1,39,40] [0,1,2,3,4] (kB Q) Q (λs a0 a J=>?_))));obtain⟨m,g⟩:=s;refine aC [0,1,5,39,40,41] Q (bO 5 Q (bK a Q (λy a=>?_) (λy a=>?_)));refine aK 5 Q (VE a λO C a=>dN TK Q C (aI 1 Q (cS 5 Q Q dJ Q (aH 3 Q (aC [0,1,5,9,39,40,41] Q (cH 4 Q (aL a (λl=>([(10,.d (.str l))])) (λl=>[]) [10] [0,1,5,9,39,40,41] Q (λa1 a=>?_) (λl a=>?_))))))))
  ·refine bO 6 Q (bK a Q (λz a=>?_) (λz a=>?_))
   ·exact aM 3 Q (oW [0,1,2,3,4,5] a Q (kB Q) Q)
   exact aM 1 Q (oW [0,1,2,3,4,5] a Q (kB Q) Q)
  refine aC [0,1,5,9,10,39,40,41] Q (dP follows ?_);iterate 9 (refine DA [0,1,2,3,4,5] TK Q ?_)
  refine gI [0,1,2,3,4,5] a (mL ·) Q λR a=>aV [0,1,2,3,4,5] Q (nD [.tmp 57] TK Q Q gA Q Q Q Q Q) (BE a λq F a=>?_);refine aV [0,1,2,3,4,5] Q (bJ [0,1,2] ⟨Q,Q,λ_=>Q⟩ Q Q Q (by decide) Q (aY Q) Q Q (dG F)) ?_;refine aV [0,1,2,3,4,5] Q (bY (f:=Ab.As) (xs:=([q]:List Ab)) [.tmp 59] TK Q Q aO Q (bV Q (aF (Ab.Ah _) aZ)) Q (aS Ab.Aj) Q) ?_;refine DT ?_ (by kernel_rfl);refine GE a λv a=>?_;refine cG (f:=Ab.As) ([q]:List Ab) TK Q Q aO Q Q Q Q Q (λh=>absurd (show 4<3 from h) (by decide)) Q cB v Q Q ?_;exact aH 4 Q (aC [0,1,5,39,40,41] Q (aK 1 Q (GE a λw a=>bF Q w (aG 2 Q (uK [0,1,2,3,4] a Q (kB Q) Q)))));refine aM 2 Q (IE a λX a k=>?_);rw[J _ k]at a;exact WX (bM 1 Q (oW [0,1,2,3,4] a Q (kB Q) Q))
 refine aC [0,1,5] Q ?_;refine nH 5 4 [0,1] Q Q Q Q Q (by simp) Q Q ?_;refine aK 4 Q (dO [.tmp 65] TK Q gA (BE a λS G a=>bZ [0,1,2] (dG G) Q (fA a (nP ·) Q λK a=>aI 1 Q (fA a (pH ·) Q λL a=>bN Q (bY (f:=Ab.As) (xs:=([K,L]:List Ab)) [.tmp 68,.tmp 70] TK Q Q aO Q (bV Q (aF (Ab.Ah _) (aF (Ab.Ah _) aZ))) Q (aS Ab.Aj) Q) (fA a (bq ·) Q λT a=>aI 1 Q (dO [.tmp 73] TK Q gA (BE a λV H a=>?_)))))));refine dF [0,1,2] (λj=>Nat.beq j 2) Q Q Q (by decide) Q Q Q Q (iR H) Q Q Q ?_;refine aG 1 Q ?_;obtain rfl:=OJ a;exact⟨_,[0,1,2],res Q,by decide,(kB Q),Q,Q⟩
theorem kp{b:Av}{n:Int}{r:Av}(a:jV b n=some r):Ret TP 40 [fy b.A0 1 2 b.list.length,.map 9 3 (eP D.str (D.int .i64) b.vars),.flat 42 4 (b.list.map Am.enc)] (λj=>Nat.beq j 2) [.mptr 0 0 0 0,.d (.int .i64 n)] (.tup []) [fy b.A0 1 2 r.list.length,.map 9 3 (eP D.str (D.int .i64) b.vars),.flat 42 4 (r.list.map Am.enc)]:=by
 refine cP (bE Q) func40 Q ntmps40 Q Q (λwX gX=>?_);unfold jV at a;refine aC [0,1] Q (aQ 1 Q (bN Q (build_a Q plcA153 Yy Q Q Q Q) (cS 3 Q Q Yy Q (aI 4 Q (gU (f:=Ab.As) 4 40 3 Q Q Q (aH 2 Q (aC [0,1,4,5] Q (qAC 3 Q Q Q Q Q (aL a (λc=>([(5,.msl 4 3 0 c.length)])) (λc=>([(4,.flat 40 3 (c.map Ab.As))])) [5] [0,1] Q (λR a=>?_) (λc a=>?_))))))))));refine bO 5 Q (aC [0,1,4,5,11,12] Q (cH 1 Q (aX a (λ(m,i)=>([(5,.msl 4 3 0 i.length),(12,.d (.int .i64 m))])) (λ(m,i)=>([(4,.flat 40 3 (i.map Ab.As))])) [5,12] [0,1,4,11] [0,1,2,3,4] (kB Q) Q (λs S a E=>?_))));obtain⟨m,i⟩:=s;refine aC [0,1,4,5,11,12] Q (bO 5 Q (bK a Q (λw a=>?_) (λw a=>?_)));refine cH 2 Q (aL a (λe=>([(5,.msl 4 3 0 e.length)])) (λe=>([(4,.flat 40 3 (e.map Ab.As))])) [5] [0,1,4,11,12] Q (λO a=>?_) (λe a=>?_))
 ·refine aQ 3 Q (VE a λH x a=>bN Q (x_ixv (f:=D.str) (xs:=([(⟨#[115,101,116]⟩:BA),(⟨#[99,108,101,97,114]⟩:BA),(⟨#[117,115,101,100]⟩:BA),(⟨#[104,101,108,100]⟩:BA)]:List BA)) Q Tryz.underlying153 lay9 Q Q x Q) (aI 6 Q (GE a λp a=>bN Q (x_cutA (f:=D.str) (xs:=([(⟨#[115,101,116]⟩:BA),(⟨#[99,108,101,97,114]⟩:BA),(⟨#[117,115,101,100]⟩:BA),(⟨#[104,101,108,100]⟩:BA)]:List BA)) Q Tryz.underlying153 lay9 Q Q Q Q p) (aW TK Q (aH 4 Q (aX a (λ(l,g)=>([(5,.msl 4 3 0 g.length),(19,.d (.int .i64 l))])) (λ(l,g)=>([(4,.flat 40 3 (g.map Ab.As))])) [5,19] [0,1,4,7,11,12,17,18] [0,1,2,3,4] (kB Q) Q (λs P a C=>?_)))))));obtain⟨l,g⟩:=s;refine aC [0,1,4,5,7,11,12,17,18,19] Q (bO 5 Q (bK a Q (λv a=>?_) (λv a=>?_)));refine aK 5 Q (VE a λI y a=>dN TK Q y (aI 9 Q (dO [.tmp 26] TK Q gA (BE a λF z a=>bZ [0,1,2] (dG z) Q (aI 3 Q (dO [.tmp 31] TK Q gA (BE a λG A a=>bZ [0,1,2] (dG A) Q (bN Q (bY (f:=Ab.As) (xs:=([F,G]:List Ab)) [.tmp 28,.tmp 33] TK Q Q aO Q (bV Q (aF (Ab.Ah _) (aF (Ab.Ah _) aZ))) Q (aS Ab.Aj) Q) (fA a (pH ·) Q λJ a=>fA a (nP ·) Q λo a=>bN Q (bY (f:=Ab.As) (xs:=([o]:List Ab)) [.tmp 36] TK Q Q aO Q (bV Q (aF (Ab.Ah _) aZ)) Q (aS Ab.Aj) Q) (GE a λq a=>?_))))))))));refine cG (f:=Ab.As) ([o]:List Ab) TK Q Q aO Q Q Q Q Q (λh=>absurd (show 4<3 from h) (by decide)) Q cB q Q Q ?_;exact aH 4 Q (aC [0,1,4,5,7,11,12,17,18,19] Q (aK 1 Q (GE a λt a=>bF Q t (aG 2 Q (uK [0,1,2,3,4] a Q (kB Q) Q)))));refine aM 2 Q (IE a λM a k=>?_);rw[C _ k]at a;exact WX (bM 2 Q (oW [0,1,2,3,4] a Q (kB Q) Q))
 exact aC [0,1,4,5,11,12] Q (aK 1 Q (GE a λu a=>bF Q u (aG 2 Q (uK [0,1,2,3,4] a Q (kB Q) Q))));refine aM 2 Q (IE a λN a k=>?_);rw[E _ k]at a;exact WX (bM 1 Q (oW [0,1,2,3,4] a Q (kB Q) Q));refine aC [0,1,5] Q ?_;refine nH 5 4 [0,1] Q Q Q Q Q (by simp) Q Q ?_;refine aK 3 Q (fA a (pH ·) Q λK a=>aI 1 Q (dO [.tmp 44] TK Q gA (BE a λL B a=>?_)));refine dF [0,1,2] (λj=>Nat.beq j 2) Q Q Q (by decide) Q Q Q Q (iR B) Q Q Q ?_;refine aG 1 Q ?_;obtain rfl:=OJ a;exact⟨_,[0,1,2],res Q,by decide,(kB Q),Q,Q⟩
theorem fb{b:Av}{g:Int}{r:Av}(a:jD b g=some r):Ret TP 41 [fy b.A0 1 2 b.list.length,.map 9 3 (eP D.str (D.int .i64) b.vars),.flat 42 4 (b.list.map Am.enc)] (λj=>Nat.beq j 2) [.mptr 0 0 0 0,.d (.int .i64 g)] (.tup []) [fy b.A0 1 2 r.list.length,.map 9 3 (eP D.str (D.int .i64) b.vars),.flat 42 4 (r.list.map Am.enc)]:=by
 refine cP (bE Q) func41 Q ntmps41 Q Q (λwX gX=>?_);unfold jD at a;refine aC [0,1] Q (aQ 1 Q (gU (f:=Ab.As) 3 40 3 Q Q Q (aH 2 Q (aL a (λc=>([(4,.msl 3 3 0 c.length)])) (λc=>([(3,.flat 40 3 (c.map Ab.As))])) [4] [0,1] Q (λF a=>?_) (λc a=>?_)))));refine bO 5 Q (aX a (λ(k6,e)=>([(4,.msl 3 3 0 e.length),(5,.d (.int .i64 k6))])) (λ(k6,e)=>([(3,.flat 40 3 (e.map Ab.As))])) [4,5] [0,1] [0,1,2,3] (kB Q) Q (λs G a w=>?_));obtain⟨k6,e⟩:=s;refine aC [0,1,4,5] Q (aQ 9 Q (VE a λz p a=>dN TK Q p (aI 2 Q (aW TK Q (GE a λk a=>bF Q k (aH 3 Q (bK a Q (λo a=>?_) (λo a=>?_))))))));refine aK 9 Q (dO [.tmp 23,.tmp 24] TK Q gA (BE a λA q a=>bZ [0,1,2] (dG q) Q (fA a (nP ·) Q λx a=>aI 3 Q (GE a λl a=>bF Q l (dO [.tmp 29,.tmp 31] TK Q gA (BE a λy t a=>bZ [0,1,2] (dG t) Q (bN Q (bY (f:=Ab.As) (xs:=([x,y]:List Ab)) [.tmp 27,.tmp 33] TK Q Q aO Q (bV Q (aF (Ab.Ah _) (aF (Ab.Ah _) aZ))) Q (aS Ab.Aj) Q) (fA a (bq ·) Q λi a=>bN Q (bY (f:=Ab.As) (xs:=([i]:List Ab)) [.tmp 35] TK Q Q aO Q (bV Q (aF (Ab.Ah _) aZ)) Q (aS Ab.Aj) Q) (GE a λm a=>?_)))))))));refine cG (f:=Ab.As) ([i]:List Ab) TK Q Q aO Q Q Q Q Q (λh=>absurd (show 3<3 from h) (by decide)) Q cB m Q Q ?_;exact aH 4 Q (aC [0,1,4,5] Q (aK 2 Q (GE a λn a=>bF Q n (aG 2 Q (uK [0,1,2,3] a Q (kB Q) Q)))));refine aM 2 Q (IE a λE a v=>?_);rw[w _ v]at a;exact WX (bM 1 Q (oW [0,1,2,3] a Q (kB Q) Q));refine aC [0,1,4] Q ?_;refine nH 4 3 [0,1] Q Q Q Q Q (by simp) Q Q ?_;refine aK 3 Q (fA a (pH ·) Q λB a=>aI 1 Q (dO [.tmp 41] TK Q gA (BE a λC u a=>?_)));refine dF [0,1,2] (λj=>Nat.beq j 2) Q Q Q (by decide) Q Q Q Q (iR u) Q Q Q ?_;refine aG 1 Q ?_;obtain rfl:=OJ a;exact⟨_,[0,1,2],res Q,by decide,(kB Q),Q,Q⟩
theorem Cj{b:Al}{x:(List Am)}{o:Int}(a:uX b=some (x,o)):RetT TP 11 [b.enc] [.sl 4 (x.map Am.enc),.int .i64 o]:=by
 refine .of (mv:=λ_=>false) (kL (bE Q) func11 Q ntmps11 Q Q (λwX gX=>?_));unfold uX at a;refine aC [0] Q (aQ 1 Q (cY 0 Q Q Q (aI 6 Q (BE a λo M a=>?_))));obtain⟨a2,a4⟩:=o;refine bN Q (hJ Q Q Q (C4 M)) (aI 3 Q (cS 1 Q Q xY Q (cL 1 [some 1,none,some 6] Q Q (aH 10 Q (qV a Q (λH a=>?_) (λH a=>?_))))));refine cH 6 Q (I6 2 [some 4] Q (aM 2 Q ?_));obtain⟨rfl,rfl⟩:=cV (cC a);exact EndsT.two Q (.d _) (.refl _) (.d _) (.refl _);refine aK 4 Q (Kz 9 3 Q (s_eq 22 (.mmap 2) Q Q (bN Q (kX Q plc93 zero93 Q Q Q Q) (cS 3 Q Q zero93 Q (s_upM (kf:=D.str) (f:=(D.int .i64)) 3 5 4 9 3 Q Q Q (jG (f:=Am.enc) 3 6 5 42 4 Q Q Q (cL 3 [some 14,some 1,some 1,none,none,none,none] Q Q (aI 1 Q (jG (f:=Am.enc) 3 6 6 42 4 Q Q Q (aH 2 Q (aC [4,6] Q (aL a (λq=>[]) (λq=>([(2,.map 9 3 (eP D.str (D.int .i64) q))])) [] [6] Q (λc1 a=>?_) (λq a=>?_)))))))))))))
 ·refine aQ 3 Q (aW TK Q (aH 4 Q (aX a (λ(r,p)=>([(27,.d (.int .i64 r))])) (λ(r,p)=>([(2,.map 9 3 (eP D.str (D.int .i64) p))])) [27] [6,25,26] [0,1,2,3,4,5,6] k0 Q (λs b3 a U=>?_))));obtain⟨r,p⟩:=s;refine aC [6,25,26,27] Q (bO 5 Q (bK a Q (λF a=>?_) (λF a=>?_)));exact aK 6 Q (VE a λZ L a=>dN TK Q L (aI 10 Q (GE a λy a=>s_putE Cr (D.int .i64) mty91 Q Q Q Q y (aH 3 Q (aC [6,25,26,27] Q (aK 1 Q (GE a λz a=>bF Q z (aG 2 Q (bU [0,1,2,3,4,5,6] a Q Q)))))))));refine aM 2 Q (IE a λa8 a c=>?_);rw[U _ c]at a;exact WX (bM 1 Q (bI [0,1,2,3,4,5,6] a Q Q))
 refine aC [6] Q (aK 1 Q (BE a λa0 N a=>?_));refine dF [3,2,6] (λj=>Nat.beq j 2) Q Q Q (by decide) Q Q Q Q (cq N) Q Q Q ?_;refine aH 2 Q (aC [6] Q (aK 1 Q (BE a λa1 O a=>?_)));refine dF [3,2,6] (λj=>Nat.beq j 2) Q Q Q (by decide) Q Q Q Q (xI O) Q Q Q ?_;refine aH 2 Q (aC [6] Q (aL a (λe=>[]) (λe=>([(3,fy b 2 6 e.length),(6,.flat 42 4 (e.map Am.enc))])) [] [6] Q (λb4 a=>?_) (λe a=>?_)));refine aQ 4 Q (aW TK Q (aH 4 Q (aX a (λ(t,g)=>([(43,.d (.int .i64 t))])) (λ(t,g)=>([(3,fy b 2 6 g.length),(6,.flat 42 4 (g.map Am.enc))])) [43] [6,42] [0,1,2,3,4,5,6] k0 Q (λs b5 a V=>?_))));obtain⟨t,g⟩:=s;refine aC [6,42,43] Q (bO 5 Q (bK a Q (λG a=>?_) (λG a=>?_)));refine aK 11 Q (BE a λa3 P a=>?_);refine dF [3,2,6] (λj=>Nat.beq j 2) Q Q Q (by decide) Q Q Q Q (fc P) Q Q Q ?_;exact aH 3 Q (aC [6,42,43] Q (aK 1 Q (GE a λA a=>bF Q A (aG 2 Q (bU [0,1,2,3,4,5,6] a Q Q)))));refine aM 2 Q (IE a λa9 a c=>?_);rw[V _ c]at a;exact WX (bM 1 Q (bI [0,1,2,3,4,5,6] a Q Q));refine aC [6] Q (aL a (λh=>[]) (λh=>([(3,fy b 2 6 h.length),(6,.flat 42 4 (h.map Am.enc))])) [] [6] Q (λb6 a=>?_) (λh a=>?_))
 ·refine aQ 4 Q (aW TK Q (aH 4 Q (aX a (λ(u,i)=>([(53,.d (.int .i64 u))])) (λ(u,i)=>([(3,fy b 2 6 i.length),(6,.flat 42 4 (i.map Am.enc))])) [53] [6,52] [0,1,2,3,4,5,6] k0 Q (λs b7 a W=>?_))));obtain⟨u,i⟩:=s;refine aC [6,52,53] Q (bO 5 Q (bK a Q (λI a=>?_) (λI a=>?_)));refine aK 11 Q (BE a λa5 R a=>?_);refine dF [3,2,6] (λj=>Nat.beq j 2) Q Q Q (by decide) Q Q Q Q (zY R) Q Q Q ?_;exact aH 3 Q (aC [6,52,53] Q (aK 1 Q (GE a λB a=>bF Q B (aG 2 Q (bU [0,1,2,3,4,5,6] a Q Q)))));refine aM 2 Q (IE a λb0 a c=>?_);rw[W _ c]at a;exact WX (bM 1 Q (bI [0,1,2,3,4,5,6] a Q Q))
 refine aC [6] Q (aL a (λk=>[]) (λk=>([(3,fy b 2 6 k.length),(6,.flat 42 4 (k.map Am.enc))])) [] [6] Q (λb8 a=>?_) (λk a=>?_))
 ·refine aQ 4 Q (aW TK Q (aH 4 Q (aX a (λ(v,l)=>([(63,.d (.int .i64 v))])) (λ(v,l)=>([(3,fy b 2 6 l.length),(6,.flat 42 4 (l.map Am.enc))])) [63] [6,62] [0,1,2,3,4,5,6] k0 Q (λs b9 a X=>?_))));obtain⟨v,l⟩:=s;refine aC [6,62,63] Q (bO 5 Q (bK a Q (λJ a=>?_) (λJ a=>?_)));refine aK 11 Q (BE a λa6 S a=>?_);refine dF [3,2,6] (λj=>Nat.beq j 2) Q Q Q (by decide) Q Q Q Q (kp S) Q Q Q ?_;exact aH 3 Q (aC [6,62,63] Q (aK 1 Q (GE a λC a=>bF Q C (aG 2 Q (bU [0,1,2,3,4,5,6] a Q Q)))));refine aM 2 Q (IE a λb1 a c=>?_);rw[X _ c]at a;exact WX (bM 1 Q (bI [0,1,2,3,4,5,6] a Q Q))
 refine aC [6] Q (aL a (λm=>[]) (λm=>([(3,fy b 2 6 m.length),(6,.flat 42 4 (m.map Am.enc))])) [] [6] Q (λc0 a=>?_) (λm a=>?_))
 ·refine aQ 4 Q (aW TK Q (aH 4 Q (aX a (λ(w,n)=>([(73,.d (.int .i64 w))])) (λ(w,n)=>([(3,fy b 2 6 n.length),(6,.flat 42 4 (n.map Am.enc))])) [73] [6,72] [0,1,2,3,4,5,6] k0 Q (λs c2 a Y=>?_))));obtain⟨w,n⟩:=s;refine aC [6,72,73] Q (bO 5 Q (bK a Q (λK a=>?_) (λK a=>?_)));refine aK 11 Q (BE a λa7 T a=>?_);refine dF [3,2,6] (λj=>Nat.beq j 2) Q Q Q (by decide) Q Q Q Q (fb T) Q Q Q ?_;exact aH 3 Q (aC [6,72,73] Q (aK 1 Q (GE a λE a=>bF Q E (aG 2 Q (bU [0,1,2,3,4,5,6] a Q Q)))));refine aM 2 Q (IE a λb2 a c=>?_);rw[Y _ c]at a;exact WX (bM 1 Q (bI [0,1,2,3,4,5,6] a Q Q))
 refine aC [6] Q (aM 8 Q ?_);obtain⟨rfl,rfl⟩:=cV (cC a);exact EndsT.two Q (cO Q) (.refl _) (.d _) (.refl _)
theorem fe{b:Int}{r:Ab}(a:ky b=some r):RetD TP 34 [.int .i64 b] (r.enc):=by
 refine .of (mv:=λ_=>false) (aN (bE Q) func34 Q ntmps34 Q Q (λwX gX=>?_));unfold ky at a;refine aC [0] Q (aQ 1 Q (cS 0 Q Q aO Q (cL 0 [none,none,some 3] Q Q (aI 4 Q (bN Q (cK Q vX aO Q Q Q Q) (Mo 4 [none,none,some 3] Q (aG 4 Q ?_)))))));obtain rfl:=OJ a;exact EndsS.cellR _ TK Q Q Q Q Q (.d _)
theorem Ko:∀(fu:Nat){b:Ab}{c:Int}{e:Int}{f:Int}{g:Bool}{h:Int}(a:xM fu b c e f=some (g,h)),Ret TP 122 [.box 3 [.d (.int .i64 f)]] (λ_=>false) [.d (.ptr (b.enc) 0),.d (.int .i64 c),.d (.int .i64 e),.mptr 0 0 0 0] (.d (.bool (g))) [.box 3 [.d (.int .i64 h)]]:=by
 intro fu
 induction fu with
 |zero=>
  intro b c e f g h a;unfold xM at a;cases a
 |succ fu ih=>
  intro b c e f g h a;refine cP (bE Q) func122 Q ntmps122 Q Q (λwX gX=>?_);unfold xM at a;refine aC [0,1,2,3] Q (bO 5 Q ?_);refine hO [(17,.d (.bool (((decide (12<e))||(decide (f=0))))))] [17] [0,1,2,3] Q ?_ ?_;refine aQ 3 Q (SB TK Q (λr k=>?_));cases r;refine aG 6 Q ?_;exact⟨[0],Q,(kB Q),bT (aR (aU (by simp[k])) Q) Q⟩;refine aG 6 Q ?_;exact⟨[0],Q,(kB Q),bT (aR (aU (by simp[k])) Q) Q⟩;refine aC [0,1,2,3,17] Q (cI a Q (λn a=>?_) (λn a=>?_))
  ·cases a
  refine aK 6 Q (GE a λm a=>bF Q m (aH 13 Q (aL a (λ_=>([(27,.d (.bool (decide (b.op=2))))])) (λ_=>[]) [27] [0,1,2,3,26] Q (λu a=>?_) (λj a=>?_))))
  ·refine bO 5 Q (bK a Q (λo a=>?_) (λo a=>?_))
   ·cases a
   exact aM 4 Q (oW [0] a Q (kB Q) Q)
  refine aC [0,1,2,3,26,27] Q (bK a Q (λp a=>?_) (λp a=>?_))
  ·cases a
  refine cH 5 Q (bK a Q (λq a=>?_) (λq a=>?_))
  ·refine hO [(8,.d (.bool (((decide (0<=b.var))&&((decide (b.var<c))&&(decide ((b.args.length:Int)=0)))))))] [8] [] Q ?_ ?_
   ·refine aQ 6 Q (SB TK Q (λs i=>?_));cases s;refine aG 17 Q ?_;exact⟨[0],Q,(kB Q),bT (aR (aU (by simp[i])) Q) Q⟩;refine aI 7 Q (SB TK Q (λt l=>?_));cases t;refine aG 9 Q ?_;exact⟨[0],Q,(kB Q),bT (aR (aU (by simp[i,l])) Q) Q⟩;refine aI 4 Q (aW TK Q (aG 4 Q ?_));exact⟨[0],Q,(kB Q),bT (aR (aU (by simp[i,l])) Q) Q⟩
   refine aC [8] Q (aM 3 Q ?_);obtain⟨rfl,rfl⟩:=cV (cC a);exact⟨_,[0],res Q,by decide,(kB Q),Q,Q⟩
  cases a
theorem N4{a:Ab}{b:Int}{c:Int}{e:Int}{f:Bool}{g:Int}(h:Iy a b c e=some (f,g)):Ret TP 122 [.box 3 [.d (.int .i64 e)]] (λ_=>false) [.d (.ptr (a.enc) 0),.d (.int .i64 b),.d (.int .i64 c),.mptr 0 0 0 0] (.d (.bool (f))) [.box 3 [.d (.int .i64 g)]]:=Ko eO h
theorem qa{b:Ab}{c:Int}{r:Bool}(a:zK b c=some r):RetN TP 54 [b.enc,.int .i64 c] (.bool (r)):=by
 refine .unit (aN (bE Q) func54 Q ntmps54 Q Q (λwX gX=>?_)) Q;unfold zK at a;refine aC [0,1] Q (aQ 1 Q (cY 0 Q Q Q (aI 4 Q (cS 1 Q Q gA Q (aH 3 Q (qAC 0 Q Q Q Q Q (aK 2 Q (BE a λe d a=>?_))))))));obtain⟨f,g⟩:=e;refine dF [1] (λ_=>false) Q Q Q (by decide) Q Q Q Q (N4 d) Q Q Q ?_;exact aG 4 Q (bD a Q)
theorem Ft{h:Program}{b:Ap}{r:Bool}(a:cp h b=some r):RetN TP 121 [h.enc,b.enc] (.bool (r)):=by
 refine .unit (aN (bE Q) func121 Q ntmps121 Q Q (λwX gX=>?_)) Q;unfold cp at a;refine aC [0,1] Q (aQ 1 Q (cY 0 Q Q Q (cY 1 Q Q Q (aH 3 Q (cJ a (λ_=>[]) (λ_=>[]) [] [2,3] Q (λt a q=>?_) (λj a=>?_))))));refine bO 11 Q (bK a Q (λi a=>?_) (λi a=>?_))
 ·refine cH 6 Q (qV a Q (λk a=>?_) (λk a=>?_))
  ·cases a
  exact aM 2 Q (bU [0,1] a Q Q)
 refine cH 5 Q (bK a Q (λl a=>?_) (λl a=>?_))
 ·refine hO [(21,.d (.bool (((decide (b.A1<1))||(decide (1073741824<b.A1))))))] [21] [2,3] Q ?_ ?_
  ·refine aQ 4 Q (SB TK Q (λo f=>?_));cases o;refine aG 5 Q ?_;exact⟨[0,1],Q,k0,bT (aR (aU (by simp[f])) Q) Q⟩;refine aG 5 Q ?_;exact⟨[0,1],Q,k0,bT (aR (aU (by simp[f])) Q) Q⟩
  refine aC [2,3,21] Q (cI a Q (λm a=>?_) (λm a=>?_))
  ·cases a
  exact aM 2 Q (bU [0,1] a Q Q)
 cases a;refine aC [2,3] Q (aL a (λc=>([(4,.d (.bool (c)))])) (λc=>[]) [4] [] Q (λu a=>?_) (λc a=>?_))
 ·refine aQ 6 Q (SB TK Q (λp g=>?_));cases p;replace a:=JF g a;exact aG 17 Q (bI [0,1] a Q Q);replace a:=JT g a;refine aI 4 Q (aW TK Q (aI 2 Q (SB TK Q (λn e=>?_))));cases n;replace a:=JF e a;exact aG 9 Q (bI [0,1] a Q Q);replace a:=JT e a;exact aI 4 Q (aW TK Q (cW a (qa ·) Q λs a=>aG 3 Q (bI [0,1] a Q Q)))
 exact aC [4] Q (aM 1 Q (bD a Q))
theorem Q4{c:Program}{r:Int}(a:D8 c=some r):RetN TP 53 [c.enc] (.int .i64 r):=by
 refine .unit (aN (bE Q) func53 Q ntmps53 Q Q (λwX gX=>?_)) Q;unfold D8 at a;refine aC [0] Q (aQ 1 Q (cY 0 Q Q Q (aI 7 Q (aW TK Q (aH 3 Q (bK a Q (λt a=>?_) (λt a=>?_)))))));cases a;refine cH 3 Q ?_;refine hO [(22,.d (.bool (((decide (c.inputs<0))||(decide ((c.names.length:Int)<c.inputs))))))] [22] [1] Q ?_ ?_;refine aQ 4 Q (SB TK Q (λF n=>?_));cases F;refine aI 4 Q (aW TK Q (aG 3 Q ?_));exact⟨[0],Q,k0,bT (aR (aU (by simp[n])) Q) Q⟩;refine aG 8 Q ?_;exact⟨[0],Q,k0,bT (aR (aU (by simp[n])) Q) Q⟩;refine aC [1,22] Q (cI a Q (λy a=>?_) (λy a=>?_))
 ·cases a
 refine cH 2 Q (cJ a (λ_=>[]) (λ_=>[]) [] [1] Q (λR a K=>?_) (λj a=>?_))
 ·refine aQ 3 Q (aW TK Q (aH 4 Q (aX a (λi=>([(26,.d (.int .i64 i))])) (λi=>[]) [26] [1,24,25] [0] k0 Q (λi S a E=>aC [1,24,25,26] Q (bO 5 Q (bK a Q (λz a=>?_) (λz a=>?_)))))))
  ·refine aK 5 Q (VE a λI B a=>dN TK Q B (aI 1 Q (cS 1 Q Q jN Q (cL 1 [none,none,none,none,none,some 3] Q Q (aI 6 Q (cW a (Ft ·) Q λL a=>aH 3 Q (cI a Q (λu a=>?_) (λu a=>?_))))))))
   ·cases a
   exact aK 4 Q (GE a λo a=>bF Q o (aG 2 Q (bU [0] a Q Q)))
  refine aM 2 Q (IE a λM a g=>?_);rw[E _ g]at a;exact WX (bM 1 Q (bU [0] a Q Q))
 refine aC [1] Q (aK 3 Q (aW TK Q (GE a λp a=>s_mkO (f:=D.bool) (x:=false) 1 TK Q Q Q lU Q Q Q Q Q p Q (aH 3 Q (cJ a (λe=>[]) (λe=>([(1,.flat 4 1 (e.map D.bool))])) [] [] Q (λO a J=>?_) (λe a=>?_))))))
 ·refine aQ 3 Q (aW TK Q (aH 4 Q (aX a (λ(h,b)=>([(5,.msl 1 1 0 b.length),(42,.d (.int .i64 h))])) (λ(h,b)=>([(1,.flat 4 1 (b.map D.bool))])) [5,42] [40,41] [0,1] k0 Q (λs P a C=>?_))));obtain⟨h,b⟩:=s;refine aC [5,40,41,42] Q (bO 5 Q (bK a Q (λv a=>?_) (λv a=>?_)));refine aK 5 Q (VE a λk A a=>dN TK Q A (aI 1 Q (cS 2 Q Q jN Q (cL 2 [none,none,none,none,none,some 3] Q Q (aI 8 Q (VE a λG l a=>bN Q (rH TK Q Q Q Q l Q) (bN Q (wQ TK Q Q Q Q l.2 Q) (aH 2 Q (cI a Q (λw a=>?_) (λw a=>?_))))))))))
  ·cases a
  exact aK 6 Q (VE a λH m a=>bN Q (rH TK Q Q Q Q m Q) (E2 (x':=true) TK Q Q Q Q Q m.2 Q Q Q (bh 5 (b.set k.var.toNat true).length Q zal79q.symm (bh 51 (b.set k.var.toNat true).length Q zal79q.symm (aI 4 Q (GE a λq a=>bF Q q (aG 2 Q (bU [0,1] a Q Q))))))));refine aM 2 Q (IE a λN a g=>?_);rw[C _ g]at a;exact WX (bM 1 Q (bU [0,1] a Q Q))
 exact aC [] Q (aM 5 Q (bD a Q))
theorem C0:∀(fu:Nat){b:Ab}{r:Ab}(a:uD fu b=some r),Ret TP 123 [] (λ_=>false) ([b.enc].map .d) (.agg [.d (.int .i64 r.op),.d (.int .i64 r.var),.msl 0 3 0 r.args.length]) [.flat 40 3 (r.args.map Ab.As)]:=by
 intro fu
 induction fu with
 |zero=>
  intro b r a;unfold uD at a;cases a
 |succ fu ih=>
  intro b r a;refine cP (bE Q) func123 Q ntmps123 Q Q (λwX gX=>?_);unfold uD at a;refine aC [0] Q (aQ 1 Q (cY 0 Q Q Q (cS 1 Q Q aO Q (jG (f:=Ab.As) 1 2 2 40 3 Q Q Q (aI 7 Q (bN Q (kX Q vX aO Q Q Q Q) (cS 3 Q Q aO Q (jG (f:=Ab.As) 3 2 4 40 3 Q Q Q (aI 1 Q (jG (f:=Ab.As) 3 2 5 40 3 Q Q Q (aH 2 Q (aC [1,2,3] Q (aL a (λ_=>[]) (λ_=>[]) [] [2,3] Q (λk a=>?_) (λj a=>?_))))))))))))));refine aQ 3 Q (aW TK Q (aH 4 Q (aX a (λc=>([(14,.d (.int .i64 c))])) (λc=>[]) [14] [2,3,12,13] [0,1,2,3,4,5] k0 Q (λc l a h=>aC [2,3,12,13,14] Q (bO 5 Q (bK a Q (λe a=>?_) (λe a=>?_)))))))
  ·cases a
  refine aM 2 Q (IE a λi a g=>?_);rw[h _ g]at a;exact WX (bM 1 Q (bI [0,1,2,3,4,5] a Q Q));refine aC [2,3] Q (cH 5 Q (aC [2] Q (aM 1 Q ?_)));obtain rfl:=OJ a;exact⟨_,[5],.mk _ (.cons (.agg (TK.lay Q) Q Q Q Q) .nil) Q,by decide,k0,Q,Q⟩
theorem Eo{a:Ab}{r:Ab}(b:C1 a=some r):Ret TP 123 [] (λ_=>false) ([a.enc].map .d) (.agg [.d (.int .i64 r.op),.d (.int .i64 r.var),.msl 0 3 0 r.args.length]) [.flat 40 3 (r.args.map Ab.As)]:=C0 eO b
theorem Fy:∀(fu:Nat){b:Ab}{c:Int}{e:Ab}{r:Ab}(a:uE fu b c e=some r),RetD TP 55 [b.enc,.int .i64 c,e.enc] (r.enc):=by
 intro fu
 induction fu with
 |zero=>
  intro b c e r a;unfold uE at a;cases a
 |succ fu ih=>
  intro b c e r a;refine .of (mv:=λ_=>false) (aN (bE Q) func55 Q ntmps55 Q Q (λwX gX=>?_));unfold uE at a;refine aC [0,1,2] Q (aQ 1 Q (cY 0 Q Q Q (cY 1 Q Q Q (cS 2 Q Q aO Q (jG (f:=Ab.As) 2 2 3 40 3 Q Q Q (aH 3 Q (hO [(18,.d (.bool (((decide (b.op=3))&&(decide (b.var=c))))))] [18] [1,3,5,6] Q ?_ ?_)))))));refine aQ 4 Q (SB TK Q (λp i=>?_));cases p;refine aG 6 Q ?_;exact⟨[0,1,2,3],Q,k0,bT (aR (aU (by simp[i])) Q) Q⟩;refine aG 6 Q ?_;exact⟨[0,1,2,3],Q,k0,bT (aR (aU (by simp[i])) Q) Q⟩;refine aC [1,3,5,6,18] Q (cI a Q (λk a=>?_) (λk a=>?_))
  ·refine aK 2 Q (BE a λg m a=>Gb Q Q Q (Eo m) Q Q (s_eq 20 (.agg [.d (.int .i64 g.op),.d (.int .i64 g.var),.msl 4 3 0 g.args.length]) Q Q (aH 3 Q (aC [6] Q (aM 2 Q ?_)))));obtain rfl:=OJ a;exact EndsS.cellR _ TK Q Q Q Q Q (jS (.cons (.d _) Q (.cons (.d _) Q (.cons (cO Q) Q .nil))))
  refine aK 7 Q (bN Q (kX Q vX aO Q Q Q Q) (cS 4 Q Q aO Q (jG (f:=Ab.As) 4 2 5 40 3 Q Q Q (aI 1 Q (jG (f:=Ab.As) 4 2 6 40 3 Q Q Q (aH 2 Q (aC [1,3,5,6,7] Q (aL a (λ_=>[]) (λ_=>[]) [] [6,7] Q (λs a=>?_) (λj a=>?_)))))))))
  ·refine aQ 3 Q (aW TK Q (aH 4 Q (aX a (λh=>([(29,.d (.int .i64 h))])) (λh=>[]) [29] [1,5,6,7,27,28] [0,1,2,3,4,5,6] k0 Q (λh t a o=>aC [1,5,6,7,27,28,29] Q (bO 5 Q (bK a Q (λl a=>?_) (λl a=>?_)))))))
   ·cases a
   refine aM 2 Q (IE a λq a n=>?_);rw[o _ n]at a;exact WX (bM 1 Q (bI [0,1,2,3,4,5,6] a Q Q))
  refine aC [6,7] Q (cH 5 Q (aC [6] Q (aM 1 Q ?_)));obtain rfl:=OJ a;exact EndsS.cellR _ TK Q Q Q Q Q (jS (.cons (.d _) Q (.cons (.d _) Q (.cons (cO Q) Q .nil))))
theorem wq{a:Ab}{b:Int}{c:Ab}{r:Ab}(d:qb a b c=some r):RetD TP 55 [a.enc,.int .i64 b,c.enc] (r.enc):=Fy eO d
theorem N6:∀(fu:Nat){b:Ab}{r:Int}(a:bz fu b=some r),RetN TP 56 [b.enc] (.int .i64 r):=by
 intro fu
 induction fu with
 |zero=>
  intro b r a;unfold bz at a;cases a
 |succ fu ih=>
  intro b r a;refine .unit (aN (bE Q) func56 Q ntmps56 Q Q (λwX gX=>?_)) Q;unfold bz at a;refine aC [0] Q (aQ 1 Q (cY 0 Q Q Q (aH 7 Q (aL a (λc=>([(3,.d (.int .i64 c))])) (λc=>[]) [3] [] Q (λk a=>?_) (λc a=>?_)))));refine aQ 3 Q (aW TK Q (aH 4 Q (aX a (λ(e,f)=>([(3,.d (.int .i64 e)),(9,.d (.int .i64 f))])) (λ(e,f)=>[]) [3,9] [7,8] [0] k0 Q (λs l a i=>?_))));obtain⟨e,f⟩:=s;refine aC [3,7,8,9] Q (bO 5 Q (bK a Q (λg a=>?_) (λg a=>?_)));cases a;refine aM 2 Q (IE a λj a h=>?_);rw[i _ h]at a;exact WX (bM 1 Q (bI [0] a Q Q));exact aC [3] Q (aM 6 Q (bD a Q))
theorem Fe{a:Ab}{r:Int}(b:Ep a=some r):RetN TP 56 [a.enc] (.int .i64 r):=N6 eO b
theorem Eb:∀(fu:Nat){b:Ab}{c:Int}{r:Int}(a:sF fu b c=some r),RetN TP 57 [b.enc,.int .i64 c] (.int .i64 r):=by
 intro fu
 induction fu with
 |zero=>
  intro b c r a;unfold sF at a;cases a
 |succ fu ih=>
  intro b c r a;refine .unit (aN (bE Q) func57 Q ntmps57 Q Q (λwX gX=>?_)) Q;unfold sF at a;refine aC [0,1] Q (aQ 1 Q (cY 0 Q Q Q (aH 7 Q (aL a (λ_=>([(5,.d (.int .i64 1))])) (λ_=>[]) [5] [1,2] Q (λp a=>?_) (λj a=>?_)))));refine hO [(16,.d (.bool (((decide (b.op=3))&&(decide (b.var=c))))))] [16] [1,2,5] Q ?_ ?_
  ·refine aQ 4 Q (SB TK Q (λn h=>?_));cases n;refine aG 6 Q ?_;exact⟨[0],Q,k0,bT (aR (aU (by simp[h])) Q) Q⟩;refine aG 6 Q ?_;exact⟨[0],Q,k0,bT (aR (aU (by simp[h])) Q) Q⟩
  refine aC [1,2,5,16] Q (cI a Q (λk a=>?_) (λk a=>?_))
  ·exact qBB 3 Q (bI [0] a Q Q)
  cases a;refine aC [1,2,5] Q (aL a (λe=>([(5,.d (.int .i64 e))])) (λe=>[]) [5] [] Q (λt a=>?_) (λe a=>?_))
  ·refine aQ 3 Q (aW TK Q (aH 4 Q (aX a (λ(f,g)=>([(5,.d (.int .i64 f)),(20,.d (.int .i64 g))])) (λ(f,g)=>[]) [5,20] [1,18,19] [0] k0 Q (λs q a m=>?_))));obtain⟨f,g⟩:=s;refine aC [1,5,18,19,20] Q (bO 5 Q (bK a Q (λi a=>?_) (λi a=>?_)));cases a;refine aM 2 Q (IE a λo a l=>?_);rw[m _ l]at a;exact WX (bM 1 Q (bI [0] a Q Q))
  exact aC [5] Q (aM 6 Q (bD a Q))
theorem Fu{a:Ab}{b:Int}{r:Int}(c:yw a b=some r):RetN TP 57 [a.enc,.int .i64 b] (.int .i64 r):=Eb eO c
theorem J3:∀(fu:Nat){b:Ab}{c:Ab}{r:Bool}(a:xE fu b c=some r),RetN TP 23 [b.enc,c.enc] (.bool (r)):=by
 intro fu
 induction fu with
 |zero=>
  intro b c r a;unfold xE at a;cases a
 |succ fu ih=>
  intro b c r a;refine .unit (aN (bE Q) func23 Q ntmps23 Q Q (λwX gX=>?_)) Q;unfold xE at a;refine aC [0,1] Q (aQ 1 Q (cY 0 Q Q Q (cY 1 Q Q Q (aH 4 Q ?_))));refine hO [(26,.d (.bool (((!(decide (b.op=c.op)))||((!(decide (b.var=c.var)))||(!(decide ((b.args.length:Int)=(c.args.length:Int)))))))))] [26] [2,3] Q ?_ ?_;refine aQ 6 Q (SB TK Q (λm e=>?_));cases m;refine aI 6 Q (SB TK Q (λn g=>?_));cases n;refine aI 2 Q (aW TK Q (aI 2 Q (aW TK Q (aG 3 Q ?_))));exact⟨[0,1],Q,k0,bT (aR (aU (by simp[e,g])) Q) Q⟩;refine aG 9 Q ?_;exact⟨[0,1],Q,k0,bT (aR (aU (by simp[e,g])) Q) Q⟩;refine aG 16 Q ?_;exact⟨[0,1],Q,k0,bT (aR (aU (by simp[e])) Q) Q⟩;refine aC [2,3,26] Q (cI a Q (λh a=>?_) (λh a=>?_))
  ·cases a
  refine cH 2 Q (cJ a (λ_=>[]) (λ_=>[]) [] [] Q (λq a o=>?_) (λj a=>?_))
  ·refine bO 5 Q (aX a (λf=>([(5,.d (.int .i64 f))])) (λf=>[]) [5] [2,3] [0,1] k0 Q (λf s a l=>aC [2,3,5] Q (aQ 5 Q (aW TK Q (aH 3 Q (bK a Q (λi a=>?_) (λi a=>?_)))))))
   ·cases a
   refine aM 2 Q (IE a λp a k=>?_);rw[l _ k]at a;exact WX (bM 1 Q (bU [0,1] a Q Q))
  exact aC [] Q (aM 5 Q (bD a Q))
theorem B9{a:Ab}{b:Ab}{r:Bool}(c:zq a b=some r):RetN TP 23 [a.enc,b.enc] (.bool (r)):=J3 eO c
theorem Kp{b:Ab}{r:Pa}(a:wD b=some r):RetD TP 185 [.ptr (b.enc) 0] (r.enc):=by
 refine .of (mv:=λ_=>false) (aN (bE Q) func185 Q ntmps185 Q Q (λwX gX=>?_));unfold wD at a;refine aC [0] Q (bO 18 Q (bK a Q (λc a=>?_) (λc a=>?_)));exact aK 2 Q (bN Q (cK Q plc200 Me Q Q Q Q) (aG 7 Q (bD a Q)));refine cH 5 Q (bK a Q (λd a=>?_) (λd a=>?_))
 ·refine aK 5 Q (aW TK Q (aH 3 Q (bK a Q (λe a=>?_) (λe a=>?_))))
  ·exact aK 2 Q (bN Q (cK Q plc201 Mc Q Q Q Q) (aH 4 Q (aC [2] Q (aM 3 Q (bD a Q)))))
  exact cH 3 Q (aC [0] Q (aK 2 Q (bN Q (cK Q plc232 Yx Q Q Q Q) (aG 5 Q (bD a Q)))))
 refine cH 5 Q (bK a Q (λf a=>?_) (λf a=>?_))
 ·exact aK 2 Q (bN Q (cK Q plc202 Mb Q Q Q Q) (aH 4 Q (aC [2] Q (aM 3 Q (bD a Q)))))
 refine cH 5 Q (bK a Q (λg a=>?_) (λg a=>?_))
 ·exact aK 2 Q (bN Q (cK Q plc203 Ma Q Q Q Q) (aH 4 Q (aC [2] Q (aM 3 Q (bD a Q)))))
 exact aK 5 Q (bN Q (cK Q plc232 Yx Q Q Q Q) (aH 4 Q (aC [2] Q (aM 1 Q (bD a Q)))))
theorem N5:∀(fu:Nat){k:Ab}{l:(List Bool)} {r:Bool} (a:mP fu k l=some r),RetN TP 120 [.ptr (k.enc) 0,.sl 1 (l.map D.bool)] (.bool (r)):=by
 intro fu
 induction fu with
 |zero=>
  intro k l r a;unfold mP at a;cases a
 |succ fu ih=>
  intro k l r a;refine .unit (aN (bE Q) func120 Q ntmps120 Q Q (λwX gX=>?_)) Q;unfold mP at a;refine aC [0,1] Q (bO 4 Q (cJ a (λ_=>[]) (λ_=>[]) [] [0] Q (λa4 a c=>?_) (λj a=>?_)));refine aQ 2 Q (fA a (Kp ·) Q λm a=>aI 4 Q ?_);by_cases i:m.tid=200;rw[if_pos i]at a;refine bN Q (Y3 Q Z9 Q i) (aH 4 Q ?_);refine TC true Q (λ_=>?_) (λh=>by cases h);refine aK 1 Q (cS 0 Q Q Me Q (aH 3 Q (aL a (λp=>([(4,.d (.bool (p)))])) (λp=>[]) [4] [] Q (λa9 a=>?_) (λp a=>?_))));refine aQ 7 Q (SB TK Q (λI q=>?_));cases I;replace a:=JF q a;exact aG 21 Q (bI [0] a Q Q);replace a:=JT q a;refine aI 6 Q (aW TK Q (aI 2 Q (SB TK Q (λJ s=>?_))));cases J;replace a:=JF s a;exact aG 11 Q (bI [0] a Q Q);replace a:=JT s a;exact aI 6 Q (VE a λN F a=>dN TK Q F (aG 4 Q (bI [0] a Q Q)));refine aC [4] Q (aM 2 Q (IE a λa3 a b=>?_));rw[c _ b]at a;exact WR (bD a Q);rw[if_neg i]at a;refine bN Q (Y4 Q Z9 Q i Me Q) (aH 4 Q (TC false Q (λh=>by cases h) (λ_=>aK 1 Q ?_)));by_cases e:m.tid=201;rw[if_pos e]at a;refine bN Q (Y3 Q Z8 Q e) (aH 4 Q ?_);refine TC true Q (λ_=>?_) (λh=>by cases h);refine aK 1 Q (cS 0 Q Q Mc Q (aI 9 Q (VE a λK B a=>bN Q (Ex TK Q Q Q Q B (Ab.Ah _)) (aI 1 Q (cW a (ih ·) Q λO a=>aH 4 Q (aC [4] Q (aM 2 Q (IE a λS a b=>?_))))))));rw[c _ b]at a;exact WR (bD a Q);rw[if_neg e]at a;refine bN Q (Y4 Q Z8 Q e Mc Q) (aH 4 Q (TC false Q (λh=>by cases h) (λ_=>aK 1 Q ?_)));by_cases f:m.tid=202;rw[if_pos f]at a;refine bN Q (Y3 Q Z7 Q f) (aH 4 Q ?_);refine TC true Q (λ_=>?_) (λh=>by cases h);refine aK 1 Q (cS 0 Q Q Mb Q (aH 3 Q (cJ a (λ_=>[]) (λ_=>[]) [] [] Q (λa5 a G=>?_) (λj a=>?_))));refine aQ 6 Q (aW TK Q (aH 3 Q (aC [1,7,62,63] Q (cH 1 Q (aX a (λn=>([(63,.d (.int .i64 n))])) (λn=>[]) [63] [1,7,62] [0] k0 Q (λn a6 a t=>aC [1,7,62,63] Q (bO 5 Q (bK a Q (λx a=>?_) (λx a=>?_)))))))))
  ·refine aK 16 Q (VE a λL C a=>bN Q (Ex TK Q Q Q Q C (Ab.Ah _)) (aI 1 Q (cW a (ih ·) Q λP a=>aH 3 Q (cI a Q (λy a=>?_) (λy a=>?_)))))
   ·refine cH 4 Q (aC [4] Q (aM 3 Q (IE a λT a b=>?_)));rw[t _ b]at a;refine WR (bM 1 Q (IE a λU a b=>?_));rw[G _ b]at a;refine WR (bM 1 Q (IE a λV a b=>?_));rw[c _ b]at a;exact WR (bD a Q)
   exact aK 4 Q (GE a λv a=>bF Q v (aG 2 Q (bU [0] a Q Q)))
  refine aM 2 Q (IE a λW a b=>?_);rw[t _ b]at a;exact WX (bM 1 Q (bU [0] a Q Q));refine aC [] Q (aM 6 Q (IE a λX a b=>?_));rw[c _ b]at a;exact WR (bD a Q);rw[if_neg f]at a;refine bN Q (Y4 Q Z7 Q f Mb Q) (aH 4 Q (TC false Q (λh=>by cases h) (λ_=>aK 1 Q ?_)));by_cases g:m.tid=203;rw[if_pos g]at a;refine bN Q (Y3 Q Z6 Q g) (aH 4 Q ?_);refine TC true Q (λ_=>?_) (λh=>by cases h);refine aK 1 Q (cS 0 Q Q Ma Q (aH 3 Q (aC [1,9] Q (cJ a (λ_=>[]) (λ_=>[]) [] [] Q (λa7 a H=>?_) (λj a=>?_)))));refine aQ 6 Q (aW TK Q (aH 4 Q (aX a (λo=>([(86,.d (.int .i64 o))])) (λo=>[]) [86] [1,9,85] [0] k0 Q (λo a8 a u=>aC [1,9,85,86] Q (bO 5 Q (bK a Q (λz a=>?_) (λz a=>?_)))))))
  ·refine aK 16 Q (VE a λM E a=>bN Q (Ex TK Q Q Q Q E (Ab.Ah _)) (aI 1 Q (cW a (ih ·) Q λR a=>aH 2 Q (cI a Q (λA a=>?_) (λA a=>?_)))))
   ·refine cH 4 Q (aC [4] Q (aM 3 Q (IE a λY a b=>?_)));rw[u _ b]at a;refine WR (bM 1 Q (IE a λZ a b=>?_));rw[H _ b]at a;refine WR (bM 1 Q (IE a λa0 a b=>?_));rw[c _ b]at a;exact WR (bD a Q)
   exact aK 4 Q (GE a λw a=>bF Q w (aG 2 Q (bU [0] a Q Q)))
  refine aM 2 Q (IE a λa1 a b=>?_);rw[u _ b]at a;exact WX (bM 1 Q (bU [0] a Q Q));refine aC [] Q (aM 6 Q (IE a λa2 a b=>?_));rw[c _ b]at a;exact WR (bD a Q);rw[if_neg g]at a;exact bN Q (Y4 Q Z6 Q g Ma Q) (aH 4 Q (TC false Q (λh=>by cases h) (λ_=>aM 2 Q (bU [] a Q Q))));exact aC [0] Q (aM 10 Q (bD a Q))
theorem V4{a:Ab}{b:(List Bool)}{r:Bool}(c:En a b=some r):RetN TP 120 [.ptr (a.enc) 0,.sl 1 (b.map D.bool)] (.bool (r)):=N5 eO c
theorem V5{b:Ab}{c:(List Bool)}{r:Bool}(a:fh b c=some r):RetN TP 52 [b.enc,.sl 1 (c.map D.bool)] (.bool (r)):=by
 refine .unit (aN (bE Q) func52 Q ntmps52 Q Q (λwX gX=>?_)) Q;unfold fh at a;exact aC [0,1] Q (aQ 1 Q (cY 0 Q Q Q (aH 3 Q (qAC 0 Q Q Q Q Q (aK 2 Q (cW a (V4 ·) Q λd a=>aG 4 Q (bD a Q)))))))
theorem Ci{b:Am}{c:Machine}{r:Bool}(a:pM b c=some r):RetN TP 51 [b.enc,.ptr (c.enc) 0] (.bool (r)):=by
 refine .unit (aN (bE Q) func51 Q ntmps51 Q Q (λwX gX=>?_)) Q;unfold pM at a;exact aC [0,1] Q (aQ 1 Q (cY 0 Q Q Q (aI 8 Q (cW a (V5 ·) Q λd a=>aG 5 Q (bD a Q)))))
theorem vM{h:(List Am)}{i:Am->Option Bool}{f:D}(q:∀e r,i e=some r->∃F cs,Vy f=some (F,cs)/\RetD TP F ([e.enc]++cs) (.bool (r))){r:Int}(a:jZ h i=some r):RetN TP 50 [.sl 4 (h.map Am.enc),f] (.int .i64 r):=by
 refine .unit (aN (bE Q) func50 Q ntmps50 Q Q (λwX gX=>?_)) Q;unfold jZ at a;refine aC [0,1] Q (bO 4 Q (cJ a (λ_=>[]) (λ_=>[]) [] [] Q (λA a t=>?_) (λj a=>?_)));refine aQ 2 Q (aW TK Q (aH 4 Q (aX a (λc=>([(8,.d (.int .i64 c))])) (λc=>[]) [8] [0,1,7] [] k0 Q (λc B a g=>aC [0,1,7,8] Q (bO 5 Q (bK a Q (λl a=>?_) (λl a=>?_)))))))
 ·refine aK 13 Q (VE a λv p a=>dN TK Q p (aI 1 Q (BE a λw s a=>?_)));obtain⟨Fr7,u,n,o⟩:=q _ _ s;refine bN Q (rd_callC Q Q n Q o) (aH 2 Q (cI a Q (λm a=>?_) (λm a=>?_)));refine aM 8 Q (IE a λz a b=>?_);rw[g _ b]at a;refine WR (bM 1 Q (IE a λx a b=>?_));rw[t _ b]at a;exact WR (bD a Q);exact aK 4 Q (GE a λk a=>bF Q k (aG 2 Q (bU [] a Q Q)))
 refine aM 2 Q (IE a λy a b=>?_);rw[g _ b]at a;exact WX (bM 1 Q (bU [] a Q Q));exact aC [] Q (aM 5 Q (bD a Q))
theorem zB{b:(List Am)}{c:Machine}{r:Int}(a:nQ b c=some r):RetN TP 18 [.sl 4 (b.map Am.enc),c.enc] (.int .i64 r):=by
 refine .unit (aN (bE Q) func18 Q ntmps18 Q Q (λwX gX=>?_)) Q;unfold nQ at a;exact aC [0,1] Q (aQ 1 Q (cY 0 Q Q Q (aH 3 Q (qAC 0 Q Q Q Q Q (aK 3 Q (BE a λe d a=>bN Q (RN Q Q (tO Q) (vM (λ_ r h=>⟨51,_,Q,(Ci h).retD⟩) d)) (aG 4 Q (bD a Q))))))))
theorem bu{b:Program}{r:Ab}{t:Ab}{u:Int}(a:sG b r=some (t,u)):Ret TP 21 [.flat 64 6 (b.Ai.map Ap.enc)] (λ_=>false) [.agg [.d (.sl 1 (b.names.map D.str)),.d (.int .i64 b.inputs),.msl 0 6 0 b.Ai.length],.d (r.enc)] (.tup [.d (t.enc),.d (.int .i64 u)]) [.flat 64 6 (b.Ai.map Ap.enc)]:=by
 refine cP (bE Q) func21 Q ntmps21 Q Q (λwX gX=>?_);unfold sG at a;refine aC [0,1] Q (aQ 1 Q (cY 1 Q Q Q (cY 2 Q Q Q (cS 3 Q Q aO Q (cL 3 [none,none,some 3] Q Q (aI 6 Q (aW TK Q (aH 4 Q (aL a (λo=>([(23,.d (.bool (o)))])) (λo=>[]) [23] [2,3,4,6] Q (λZ a=>?_) (λo a=>?_))))))))));refine aQ 2 Q (BE a λO I a=>bN Q (RN Q Q (SC (jS (.cons (.d _) Q (.cons (.d _) Q (.cons (cO Q) Q .nil)))) SN) (Q4 I)) (aI 1 Q (SB TK Q (λL q=>?_))));cases L;replace a:=cw q a;exact aI 2 Q (cW a (qa ·) Q λV a=>aG 3 Q (oW [0,1,2,3] a Q (kB Q) Q));replace a:=cv q a;exact aG 6 Q (oW [0,1,2,3] a Q (kB Q) Q);refine aC [2,3,4,6,23] Q (cI a Q (λH a=>?_) (λH a=>?_))
 ·cases a
 refine aK 7 Q (GE a λB a=>bF Q B (aI 5 Q (bN Q (cK Q vX aO Q Q Q Q) (Mo 31 [none,none,some 3] Q (fA a (wq ·) Q λW a=>cS 4 Q Q aO Q (cL 4 [none,none,some 3] Q Q (aH 3 Q (aC [2,4,6,7,8] Q (cJ a (λ(m,c,e)=>[]) (λ(m,c,e)=>([(4,.box 40 [.d (.int .i64 m),.d (.int .i64 c),.d (.sl 3 (e.map Ab.As))])])) [] [4,8] Q (λY a N=>?_) (λj a=>?_))))))))))
 ·refine aQ 4 Q (GE a λv a=>bF Q v (aH 4 Q (aX a (λ(n,f,g,h)=>([(9,.d (.int .i64 n))])) (λ(n,f,g,h)=>([(4,.box 40 [.d (.int .i64 f),.d (.int .i64 g),.d (.sl 3 (h.map Ab.As))])])) [9] [2,4,6,7,8] [0,1,2,3,4] (kB Q) Q (λs a0 a K=>?_))));obtain⟨n,f,g,h⟩:=s;refine aC [2,4,6,7,8,9] Q (bO 6 Q (bK a Q (λC a=>?_) (λC a=>?_)));refine aK 8 Q (VE a λM p a=>bN Q (rH TK Q Q Q Q p Q) (bN Q (wQ TK Q Q Q Q p.2 Q) (cS 5 Q Q jN Q (cL 5 [none,none,none,none,none,some 3] Q Q (aH 3 Q (aC [2,4,6,7,8,9,10] Q (aK 3 Q (cS 6 Q Q aO Q (cL 6 [none,none,some 3] Q Q (aH 3 Q (aC [2,4,6,7,8,9,10,11] Q (aL a (λ(i,k,l)=>[]) (λ(i,k,l)=>([(6,.box 40 [.d (.int .i64 i),.d (.int .i64 k),.d (.sl 3 (l.map Ab.As))])])) [] [2,4,6,7,8,9,10,11] Q (λa1 a=>?_) (λj a=>?_)))))))))))))
  ·refine bO 6 Q (bK a Q (λE a=>?_) (λE a=>?_))
   ·exact aK 3 Q (GE a λw a=>bF Q w (bN Q (cK Q vX aO Q Q Q Q) (Mo 54 [none,none,some 3] Q (aG 2 Q (oW [0,1,2,3,4,5,6] a Q (kB Q) Q)))))
   exact aM 1 Q (oW [0,1,2,3,4,5,6] a Q (kB Q) Q)
  obtain⟨i,k,l⟩:=j;refine aC [2,4,6,7,8,9,10,11] Q (cH 1 Q (bR follows (DA [0,1,2,3,4,5,6] TK Q (gI [0,1,2,3,4,5,6] a (Fe ·) Q λP a=>?_))));iterate 3 (refine DA [0,1,2,3,4,5,6] TK Q ?_)
  refine gI [0,1,2,3,4,5,6] a (Fu ·) Q λR a=>DA [0,1,2,3,4,5,6] TK Q (gI [0,1,2,3,4,5,6] a (Fe ·) Q λS a=>GE a λx a=>aV [0,1,2,3,4,5,6] Q (tL Q Q Q Q x) (GE a λy a=>aV [0,1,2,3,4,5,6] Q (tL Q Q Q Q y) (GE a λz a=>aV [0,1,2,3,4,5,6] Q (tL Q Q Q Q z) (DA [0,1,2,3,4,5,6] TK Q ?_))));refine DT ?_ (by kernel_rfl);refine aH 2 Q (aC [2,4,6,7,8,9,10,11,66] Q (bK a Q (λF a=>?_) (λF a=>?_)));cases a;refine aK 7 Q (fA a (wq ·) Q λT a=>aH 3 Q (aC [2,4,6,7,8,9] Q (aK 3 Q (cW a (qa ·) Q λU a=>aH 3 Q (cI a Q (λG a=>?_) (λG a=>?_))))))
  ·cases a
  exact aK 5 Q (GE a λA a=>bF Q A (aG 2 Q (uK [0,1,2,3,4] a Q (kB Q) Q)));refine aM 2 Q (IE a λX a J=>?_);rw[K _ J]at a;exact WX (bM 1 Q (uK [0,1,2,3,4] a Q (kB Q) Q))
 obtain⟨m,c,e⟩:=j;refine aC [4,8] Q (cH 6 Q (aC [4,5] Q (aM 1 Q ?_)));obtain⟨rfl,rfl⟩:=cV (cC a);exact⟨_,[0],.mk _ (.cons (.agg (TK.lay Q) Q Q Q Q) (.cons (.tmp 5) .nil)) Q,by decide,(kB Q),Q,Q⟩
theorem cu  {r:Bool} (a:qS=some r):RetN TP 10 [] (.bool (r)):=by
 refine .unit (aN (bE Q) func10 Q ntmps10 Q Q (λwX gX=>?_)) Q;unfold qS at a;refine aC [] Q (aQ 5 Q (fA a (Nv ·) Q λR a=>BE a λM y a=>?_));obtain⟨X,a1⟩:=M;refine bN Q (hJ Q Q Q (yr y)) (aI 3 Q (cS 0 Q Q Di Q (cL 0 [some 14,some 1,some 1,none,none] Q Q (aI 6 Q (BE a λN A a=>?_)))));obtain⟨a2,a3⟩:=N;refine bN Q (hJ Q Q Q (Cj A)) (aI 8 Q (bN Q (nD [.const (Value.string ⟨#[97]⟩),.const (Value.string ⟨#[98]⟩)] TK Q Q fK Q Q Q Q Q) (fA a (fe ·) Q λe a=>bN Q (cK Q E7 jN Q Q Q Q) (vn (f:=Ap.enc) 1 [.tmp 22] ([(⟨(1:Int),(1:Int),(0:Int),e⟩:Ap)]:List Ap) TK Q Q Q jN Q Q Q Q Q (bN Q (kX Q K8 xY Q Q Q Q) (cS 2 Q Q xY Q (jG (f:=Ap.enc) 2 2 3 64 6 Q Q Q (cL 2 [some 1,none,none] Q Q (aH 3 Q (aC [3,4,5] Q (iW (bR follows (DA [2] TK Q (eC [] a (fe ·) Q λa4 a=>BE a λK w a=>?_))))))))))))));obtain⟨g,S⟩:=K;refine aV [1] Q (bJ [1] ⟨Q,Q,λ_=>Q⟩ Q Q Q (by decide) Q (aY Q) Q Q (bu w)) ?_;iterate 3 (refine DA [] TK Q ?_)
 refine zZ [4] _ (.mptr 4 0 0 0) Q (mD Q) Q (pZ Q Q aO Q Q) (V8 1000002 [4] [(4,.box 40 [.d (.int .i64 g.op),.d (.int .i64 g.var),.d (.sl 3 (g.args.map Ab.As))])] (mD Q) Q (vj TK Q Q Q Q Q Q Q Q Q Q) ?_);refine DT ?_ (by kernel_rfl);refine aH 3 Q (aC [3,4,5,6,7] Q (aK 3 Q (VE a λb j a=>bN Q (rH TK Q Q Q Q j Q) (aI 1 Q (E2 (x':=(⟨(2:Int),b.var,b.A1,b.expr⟩:Ap)) TK Q Q Q Q Q j.2 Q Q Q (bh 32 (([(⟨(1:Int),(1:Int),(0:Int),e⟩:Ap)]:List Ap).set (0:Int).toNat (⟨(2:Int),b.var,b.A1,b.expr⟩:Ap)).length Q zal79q.symm ?_))))));refine s_eqB 2 [.d (.sl 1 (([(⟨#[97]⟩:BA),(⟨#[98]⟩:BA)]:List BA).map D.str)),.d (.int .i64 1),.msl 1 6 0 (([(⟨(1:Int),(1:Int),(0:Int),e⟩:Ap)]:List Ap).set (0:Int).toNat (⟨(2:Int),b.var,b.A1,b.expr⟩:Ap)).length] Q (by simp only[zal79q]<;>rfl) ?_;refine aH 2 Q (aC [3,4,5,6,7] Q (aK 3 Q (VE a λc k a=>bN Q (rH TK Q Q Q Q k Q) (aI 1 Q (E2 (x':=(⟨c.kind,c.var,(2:Int),c.expr⟩:Ap)) TK Q Q Q Q Q k.2 Q Q Q (bh 36 ((([(⟨(1:Int),(1:Int),(0:Int),e⟩:Ap)]:List Ap).set (0:Int).toNat (⟨(2:Int),b.var,b.A1,b.expr⟩:Ap)).set (0:Int).toNat (⟨c.kind,c.var,(2:Int),c.expr⟩:Ap)).length Q zal79q.symm ?_))))));refine s_eqB 2 [.d (.sl 1 (([(⟨#[97]⟩:BA),(⟨#[98]⟩:BA)]:List BA).map D.str)),.d (.int .i64 1),.msl 1 6 0 ((([(⟨(1:Int),(1:Int),(0:Int),e⟩:Ap)]:List Ap).set (0:Int).toNat (⟨(2:Int),b.var,b.A1,b.expr⟩:Ap)).set (0:Int).toNat (⟨c.kind,c.var,(2:Int),c.expr⟩:Ap)).length] Q (by simp only[zal79q]<;>rfl) ?_;refine aH 2 Q (aC [3,4,5,6,7] Q (iW (bR follows (DA [2] TK Q (eC [] a (fe ·) Q λT a=>BE a λL x a=>?_)))));obtain⟨h,U⟩:=L;refine aV [1] Q (bJ [1] ⟨Q,Q,λ_=>Q⟩ Q Q Q (by decide) Q (aY Q) Q Q (bu x)) ?_;iterate 3 (refine DA [] TK Q ?_)
 refine zZ [5] _ (.mptr 5 0 0 0) Q (mD Q) Q (pZ Q Q aO Q Q) (V8 1000004 [5] [(5,.box 40 [.d (.int .i64 h.op),.d (.int .i64 h.var),.d (.sl 3 (h.args.map Ab.As))])] (mD Q) Q (vj TK Q Q Q Q Q Q Q Q Q Q) ?_);refine DT ?_ (by kernel_rfl);refine aH 3 Q (aC [3,4,6,7,8,9] Q (aL a (λi=>([(0,.d (.bool (i)))])) (λi=>[]) [0] [] Q (λa5 a=>?_) (λi a=>?_)));refine gT follows ?_;iterate 2 (refine DA [0,1,2,3,4,5] TK Q ?_)
 refine uP [0,1,2,3,4,5] TK Q (λB l=>?_);cases B;replace a:=JF l a;iterate 42 (refine DA [0,1,2,3,4,5] TK Q ?_)
 refine DT ?_ (by kernel_rfl);exact aG 2 Q (bI [0,1,2,3,4,5] a Q Q);replace a:=JT l a;refine DA [0,1,2,3,4,5] TK Q (aV [0,1,2,3,4,5] Q (yD TK Q Q Q) ?_);iterate 2 (refine DA [0,1,2,3,4,5] TK Q ?_)
 refine uP [0,1,2,3,4,5] TK Q (λC m=>?_);cases C;replace a:=JF m a;iterate 37 (refine DA [0,1,2,3,4,5] TK Q ?_)
 refine DT ?_ (by kernel_rfl);exact aG 2 Q (bI [0,1,2,3,4,5] a Q Q);replace a:=JT m a;refine DA [0,1,2,3,4,5] TK Q (VE a λO u a=>aV [0,1,2,3,4,5] Q (eW TK Q Q Q Q u) ?_);iterate 4 (refine DA [0,1,2,3,4,5] TK Q ?_)
 refine uP [0,1,2,3,4,5] TK Q (λE n=>?_);cases E;replace a:=JF n a;iterate 30 (refine DA [0,1,2,3,4,5] TK Q ?_)
 refine DT ?_ (by kernel_rfl);exact aG 2 Q (bI [0,1,2,3,4,5] a Q Q);replace a:=JT n a;refine DA [0,1,2,3,4,5] TK Q (VE a λP v a=>aV [0,1,2,3,4,5] Q (eW TK Q Q Q Q v) ?_);iterate 4 (refine DA [0,1,2,3,4,5] TK Q ?_)
 refine uP [0,1,2,3,4,5] TK Q (λF o=>?_);cases F;replace a:=JF o a;iterate 23 (refine DA [0,1,2,3,4,5] TK Q ?_)
 refine DT ?_ (by kernel_rfl);exact aG 2 Q (bI [0,1,2,3,4,5] a Q Q);replace a:=JT o a;iterate 3 (refine DA [0,1,2,3,4,5] TK Q ?_)
 refine uP [0,1,2,3,4,5] TK Q (λG p=>?_);cases G;replace a:=JF p a;iterate 19 (refine DA [0,1,2,3,4,5] TK Q ?_)
 refine DT ?_ (by kernel_rfl);exact aG 2 Q (bI [0,1,2,3,4,5] a Q Q);replace a:=JT p a;refine DA [0,1,2,3,4,5] TK Q (eC [0,1,2,3,4,5] a (fe ·) Q λV a=>gI [0,1,2,3,4,5] a (B9 ·) Q λW a=>DA [0,1,2,3,4,5] TK Q (uP [0,1,2,3,4,5] TK Q (λH q=>?_)));cases H;replace a:=JB q a;iterate 14 (refine DA [0,1,2,3,4,5] TK Q ?_)
 refine DT ?_ (by kernel_rfl);exact aG 2 Q (bI [0,1,2,3,4,5] a Q Q);replace a:=JA q a;iterate 3 (refine DA [0,1,2,3,4,5] TK Q ?_)
 refine uP [0,1,2,3,4,5] TK Q (λI s=>?_);cases I;replace a:=JF s a;iterate 10 (refine DA [0,1,2,3,4,5] TK Q ?_)
 refine DT ?_ (by kernel_rfl);exact aG 2 Q (bI [0,1,2,3,4,5] a Q Q);replace a:=JT s a;refine DA [0,1,2,3,4,5] TK Q (eC [0,1,2,3,4,5] a (fe ·) Q λY a=>gI [0,1,2,3,4,5] a (B9 ·) Q λZ a=>DA [0,1,2,3,4,5] TK Q (uP [0,1,2,3,4,5] TK Q (λJ t=>?_)));cases J;replace a:=JB t a;iterate 5 (refine DA [0,1,2,3,4,5] TK Q ?_)
 refine DT ?_ (by kernel_rfl);exact aG 2 Q (bI [0,1,2,3,4,5] a Q Q);replace a:=JA t a;refine DA [0,1,2,3,4,5] TK Q (aV [0,1,2,3,4,5] Q (cK Q Zl ge Q Q Q Q) (BE a λa0 z a=>aV [0,1,2,3,4,5] Q (RN Q Q (tO Q) ((zB z).args ((.cons (.refl _) (.cons (.agg (.cons (.nil _) Q (.cons (.nil _) Q (.cons (.refl _) Q .nil)))) .nil))))) ?_));iterate 2 (refine DA [0,1,2,3,4,5] TK Q ?_)
 refine DT ?_ (by kernel_rfl);exact aG 2 Q (bI [0,1,2,3,4,5] a Q Q);exact aC [0] Q (aM 1 Q (bD a Q))
theorem Dz{e:Al}{n:(List Int)}{r:Bool}(a:qL e n=some r):RetN TP 155 [e.enc,.sl 1 (n.map (D.int .i64))] (.bool (r)):=by
 refine .unit (aN (bE Q) func155 Q ntmps155 Q Q (λwX gX=>?_)) Q;unfold qL at a;refine aC [0,1] Q (aQ 1 Q (cY 0 Q Q Q (aH 3 Q (cJ a (λ_=>[]) (λ_=>[]) [] [] Q (λJ a k=>?_) (λj a=>?_)))));refine aQ 2 Q (aW TK Q (aH 4 Q (aX a (λg=>([(10,.d (.int .i64 g))])) (λg=>[]) [10] [1,2,8,9] [0] k0 Q (λg L a c=>aC [1,2,8,9,10] Q (bO 5 Q (bK a Q (λt a=>?_) (λt a=>?_)))))))
 ·refine cH 2 Q (cJ a (λ_=>[]) (λ_=>[]) [] [1,2,8,9,10] Q (λM a m=>?_) (λj a=>?_))
  ·refine aQ 3 Q (VE a λh w a=>dN TK Q w (aH 6 Q ?_));refine hO [(22,.d (.bool (((decide (h<0))||(decide (e.Aa<=h))))))] [22] [1,2,5,6,8,9,10] Q ?_ ?_;refine aQ 3 Q (SB TK Q (λx i=>?_));cases x;refine aG 6 Q ?_;exact⟨[0],Q,k0,bT (aR (aU (by simp[i])) Q) Q⟩;refine aG 6 Q ?_;exact⟨[0],Q,k0,bT (aR (aU (by simp[i])) Q) Q⟩;refine aC [1,2,5,6,8,9,10,22] Q (cI a Q (λu a=>?_) (λu a=>?_))
   ·refine aM 7 Q (IE a λz a b=>?_);rw[m _ b]at a;refine WR (IE a λA a b=>?_);rw[c _ b]at a;refine WR (bM 1 Q (IE a λB a b=>?_));rw[k _ b]at a;exact WR (bD a Q)
   refine cH 8 Q (aX a (λf=>([(24,.d (.int .i64 f))])) (λf=>[]) [24] [1,2,6,8,9,10,23] [0] k0 Q (λf K a l=>aC [1,2,6,8,9,10,23,24] Q (bO 5 Q (bK a Q (λq a=>?_) (λq a=>?_)))))
   ·refine aK 12 Q (VE a λy v a=>dN TK Q v (aH 5 Q (bK a Q (λs a=>?_) (λs a=>?_))))
    ·refine cH 4 Q (aC [4] Q (aM 3 Q (IE a λC a b=>?_)));rw[l _ b]at a;refine WR (bM 2 Q (IE a λE a b=>?_));rw[m _ b]at a;refine WR (IE a λF a b=>?_);rw[c _ b]at a;refine WR (bM 1 Q (IE a λG a b=>?_));rw[k _ b]at a;exact WR (bD a Q)
    exact aK 4 Q (GE a λo a=>bF Q o (aG 2 Q (bU [0] a Q Q)))
   refine aM 2 Q (IE a λH a b=>?_);rw[l _ b]at a;exact WX (bM 2 Q (bU [0] a Q Q))
  exact aC [1,2,8,9,10] Q (aK 1 Q (GE a λp a=>bF Q p (aG 2 Q (bU [0] a Q Q))))
 refine aM 2 Q (IE a λI a b=>?_);rw[c _ b]at a;exact WX (bM 1 Q (bU [0] a Q Q));exact aC [] Q (aM 5 Q (bD a Q))
theorem J6{j:Al}{b:Ak}{r:Bool}(a:sX j b=some r):RetN TP 78 [j.enc,b.enc] (.bool (r)):=by
 refine .unit (aN (bE Q) func78 Q ntmps78 Q Q (λwX gX=>?_)) Q;unfold sX at a;refine aC [0,1] Q (aQ 1 Q (cY 0 Q Q Q (cY 1 Q Q Q (aH 4 Q ?_))));refine hO [(44,.d (.bool (((decide (b.entry<0))||((decide (j.Au<=b.entry))||((decide (b.exit<(-1:Int)))||((decide (j.Au<=b.exit))||((decide ((b.path.length:Int)<1))||((decide (12<(b.path.length:Int)))||(decide (b.length<1)))))))))))] [44] [2,3] Q ?_ ?_;refine aQ 4 Q (SB TK Q (λv c=>?_));cases v;refine aI 6 Q (SB TK Q (λz e=>?_));cases z;refine aI 4 Q (SB TK Q (λA g=>?_));cases A;refine aI 6 Q (SB TK Q (λB i=>?_));cases B;refine aI 2 Q (aW TK Q (aI 2 Q (SB TK Q (λC k=>?_))));cases C;refine aI 2 Q (aW TK Q (aI 2 Q (SB TK Q (λE p=>?_))));cases E;refine aG 5 Q ?_;exact⟨[0,1],Q,k0,bT (aR (aU (by simp[c,e,g,i,k,p])) Q) Q⟩;refine aG 5 Q ?_;exact⟨[0,1],Q,k0,bT (aR (aU (by simp[c,e,g,i,k,p])) Q) Q⟩;refine aG 11 Q ?_;exact⟨[0,1],Q,k0,bT (aR (aU (by simp[c,e,g,i,k])) Q) Q⟩;refine aG 17 Q ?_;exact⟨[0,1],Q,k0,bT (aR (aU (by simp[c,e,g,i])) Q) Q⟩;refine aG 24 Q ?_;exact⟨[0,1],Q,k0,bT (aR (aU (by simp[c,e,g])) Q) Q⟩;refine aG 29 Q ?_;exact⟨[0,1],Q,k0,bT (aR (aU (by simp[c,e])) Q) Q⟩;refine aG 36 Q ?_;exact⟨[0,1],Q,k0,bT (aR (aU (by simp[c])) Q) Q⟩;refine aC [2,3,44] Q (cI a Q (λt a=>?_) (λt a=>?_))
 ·exact aM 6 Q (bD a Q)
 refine aK 3 Q (gU (f:=(D.int .i64)) 2 3 1 Q Q Q (aI 6 Q (GE a λq a=>cG (f:=(D.int .i64)) b.Aa TK Q Q gA Q Q Q Q Q (λh=>absurd h (mQ _)) Q cB q Q Q (aI 7 Q (GE a λs a=>cG (f:=(D.int .i64)) b.Ae TK Q Q gA Q Q Q Q Q (λh=>absurd h (mQ _)) Q cB s Q Q (aH 3 Q (aL a (λl=>([(4,.d (.bool (l)))])) (λl=>[]) [4] [] Q (λG a=>?_) (λl a=>?_))))))))
 ·refine aQ 3 Q (aW TK Q (aI 1 Q (SB TK Q (λw m=>?_))));cases w;replace a:=JF m a;exact aG 18 Q (bI [0,1,2] a Q Q);replace a:=JT m a;refine aI 2 Q (BE a λF u a=>bN Q (RN Q Q (SC (.d _) (SC (cO Q) SN)) (Dz u)) (aI 1 Q (SB TK Q (λx n=>?_))));cases x;replace a:=JB n a;exact aG 13 Q (bI [0,1,2] a Q Q);replace a:=JA n a;refine aI 4 Q (SB TK Q (λy o=>?_));cases y;replace a:=JF o a;exact aG 8 Q (bI [0,1,2] a Q Q);replace a:=JT o a;exact aG 8 Q (bI [0,1,2] a Q Q)
 exact aC [4] Q (aM 1 Q (bD a Q))
theorem vG{f:Al}{g:Int}{r:Int}(a:oX f g=some r):RetN TP 115 [f.enc,.int .i64 g] (.int .i64 r):=by
 refine .unit (aN (bE Q) func115 Q ntmps115 Q Q (λwX gX=>?_)) Q;unfold oX at a;refine aC [0,1] Q (aQ 1 Q (cY 0 Q Q Q (aH 3 Q (cJ a (λ_=>[]) (λ_=>[]) [] [] Q (λs a m=>?_) (λj a=>?_)))));refine aQ 3 Q (aW TK Q (aH 4 Q (aX a (λc=>([(10,.d (.int .i64 c))])) (λc=>[]) [10] [1,8,9] [0] k0 Q (λc t a e=>aC [1,8,9,10] Q (bO 5 Q (bK a Q (λi a=>?_) (λi a=>?_)))))))
 ·refine aK 6 Q (VE a λn l a=>dN TK Q l (aH 11 Q (bK a Q (λk a=>?_) (λk a=>?_))))
  ·refine aM 8 Q (IE a λp a b=>?_);rw[e _ b]at a;refine WR (bM 1 Q (IE a λq a b=>?_));rw[m _ b]at a;exact WR (bD a Q)
  exact aK 4 Q (GE a λh a=>bF Q h (aG 2 Q (bU [0] a Q Q)))
 refine aM 2 Q (IE a λo a b=>?_);rw[e _ b]at a;exact WX (bM 1 Q (bU [0] a Q Q));exact aC [] Q (aM 5 Q (bD a Q))
theorem uR{l:Al}{m:(List Ad)}{r:Bool}(a:jI l m=some r):RetN TP 79 [l.enc,.sl 2 (m.map Ad.enc)] (.bool (r)):=by
 refine .unit (aN (bE Q) func79 Q ntmps79 Q Q (λwX gX=>?_)) Q;unfold jI at a;refine aC [0,1] Q (aQ 1 Q (cY 0 Q Q Q (aH 3 Q (cJ a (λ_=>[]) (λ_=>[]) [] [] Q (λG a u=>?_) (λj a=>?_)))));refine aQ 2 Q (aW TK Q (aH 4 Q (aX a (λc=>([(9,.d (.int .i64 c))])) (λc=>[]) [9] [1,2,7,8] [0] k0 Q (λc H a k=>aC [1,2,7,8,9] Q (bO 5 Q (bK a Q (λq a=>?_) (λq a=>?_)))))))
 ·refine aK 6 Q (VE a λA t a=>dN TK Q t (aI 1 Q (cS 1 Q Q dJ Q (aH 4 Q (aL a (λe=>([(43,.d (.bool (e)))])) (λe=>[]) [43] [1,2,7,8,9] Q (λI a=>?_) (λe a=>?_))))))
  ·refine gT follows ?_;iterate 3 (refine DA [0,1] TK Q ?_)
   refine gI [0,1] a (vG ·) Q λB a=>DA [0,1] TK Q (uP [0,1] TK Q (λv f=>?_));cases v;replace a:=JF f a;iterate 4 (refine DA [0,1] TK Q ?_)
   refine uP [0,1] TK Q (λw g=>?_);cases w;replace a:=JF g a;iterate 4 (refine DA [0,1] TK Q ?_)
   refine uP [0,1] TK Q (λx h=>?_);cases x;replace a:=JF h a;iterate 2 (refine DA [0,1] TK Q ?_)
   refine uP [0,1] TK Q (λy i=>?_);cases y;replace a:=JF i a;iterate 11 (refine DA [0,1] TK Q ?_)
   refine DT ?_ (by kernel_rfl);exact aG 1 Q (bI [0,1] a Q Q);replace a:=JT i a;iterate 2 (refine DA [0,1] TK Q ?_)
   refine GE a λn a=>aV [0,1] Q (tL Q Q Q Q n) (VE a λz s a=>aV [0,1] Q (eW TK Q Q Q Q s) ?_);iterate 7 (refine DA [0,1] TK Q ?_)
   refine DT ?_ (by kernel_rfl);exact aG 1 Q (bI [0,1] a Q Q);replace a:=JT h a;iterate 14 (refine DA [0,1] TK Q ?_)
   refine DT ?_ (by kernel_rfl);exact aG 1 Q (bI [0,1] a Q Q);replace a:=JT g a;iterate 19 (refine DA [0,1] TK Q ?_)
   refine DT ?_ (by kernel_rfl);exact aG 1 Q (bI [0,1] a Q Q);replace a:=JT f a;iterate 24 (refine DA [0,1] TK Q ?_)
   refine DT ?_ (by kernel_rfl);exact aG 1 Q (bI [0,1] a Q Q)
  refine aC [1,2,7,8,9,43] Q (cI a Q (λp a=>?_) (λp a=>?_))
  ·refine aM 7 Q (IE a λC a b=>?_);rw[k _ b]at a;refine WR (bM 1 Q (IE a λE a b=>?_));rw[u _ b]at a;exact WR (bD a Q)
  exact aK 4 Q (GE a λo a=>bF Q o (aG 2 Q (bU [0] a Q Q)))
 refine aM 2 Q (IE a λF a b=>?_);rw[k _ b]at a;exact WX (bM 1 Q (bU [0] a Q Q));exact aC [] Q (aM 5 Q (bD a Q))
theorem ck{l:(List Ad)}{m:(List Ad)}{r:Bool}(a:mM l m=some r):RetN TP 80 [.sl 2 (l.map Ad.enc),.sl 2 (m.map Ad.enc)] (.bool (r)):=by
 refine .unit (aN (bE Q) func80 Q ntmps80 Q Q (λwX gX=>?_)) Q;unfold mM at a;refine aC [0,1] Q (bO 4 Q (cJ a (λ_=>[]) (λ_=>[]) [] [] Q (λF a v=>?_) (λj a=>?_)));refine aQ 2 Q (aW TK Q (aH 4 Q (aX a (λc=>([(11,.d (.int .i64 c))])) (λc=>[]) [11] [1,9,10] [] k0 Q (λc H a k=>aC [1,9,10,11] Q (bO 5 Q (bK a Q (λs a=>?_) (λs a=>?_)))))))
 ·refine cH 2 Q (cJ a (λ_=>[]) (λ_=>[]) [] [1,9,10,11] Q (λI a w=>?_) (λj a=>?_))
  ·refine aQ 2 Q (VE a λg u a=>dN TK Q u (aI 1 Q (cS 0 Q Q dJ Q (aI 5 Q (aW TK Q (aH 4 Q (aX a (λe=>([(17,.d (.int .i64 e))])) (λe=>[]) [17] [1,6,9,10,11,15,16] [0] k0 Q (λe G a i=>aC [1,6,9,10,11,15,16,17] Q (bO 5 Q (bK a Q (λp a=>?_) (λp a=>?_)))))))))))
   ·refine aK 5 Q (VE a λf t a=>dN TK Q t (aI 1 Q (cS 1 Q Q dJ Q (aH 3 Q (hO [(32,.d (.bool (((decide (g.el=f.el))&&(!(decide (g.pos=f.pos)))))))] [32] [1,6,9,10,11,15,16,17] Q ?_ ?_)))))
    ·refine aQ 6 Q (SB TK Q (λx h=>?_));cases x;refine aG 7 Q ?_;exact⟨[0,1],Q,k0,bT (aR (aU (by simp[h])) Q) Q⟩;refine aG 7 Q ?_;exact⟨[0,1],Q,k0,bT (aR (aU (by simp[h])) Q) Q⟩
    refine aC [1,6,9,10,11,15,16,17,32] Q (cI a Q (λq a=>?_) (λq a=>?_))
    ·refine aM 7 Q (IE a λy a b=>?_);rw[i _ b]at a;refine WR (bM 2 Q (IE a λz a b=>?_));rw[w _ b]at a;refine WR (IE a λA a b=>?_);rw[k _ b]at a;refine WR (bM 1 Q (IE a λB a b=>?_));rw[v _ b]at a;exact WR (bD a Q)
    exact aK 4 Q (GE a λn a=>bF Q n (aG 2 Q (bU [0] a Q Q)))
   refine aM 2 Q (IE a λC a b=>?_);rw[i _ b]at a;exact WX (bM 2 Q (bU [] a Q Q))
  exact aC [1,9,10,11] Q (aK 1 Q (GE a λo a=>bF Q o (aG 2 Q (bU [] a Q Q))))
 refine aM 2 Q (IE a λE a b=>?_);rw[k _ b]at a;exact WX (bM 1 Q (bU [] a Q Q));exact aC [] Q (aM 5 Q (bD a Q))
theorem M0{f:Al}{g:BA}{r:Int}(a:uS f g=some r):RetN TP 81 [f.enc,.str g] (.int .i64 r):=by
 refine .unit (aN (bE Q) func81 Q ntmps81 Q Q (λwX gX=>?_)) Q;unfold uS at a;refine aC [0,1] Q (aQ 1 Q (cY 0 Q Q Q (aH 3 Q (cJ a (λ_=>[]) (λ_=>[]) [] [] Q (λs a m=>?_) (λj a=>?_)))));refine aQ 3 Q (aW TK Q (aH 4 Q (aX a (λc=>([(10,.d (.int .i64 c))])) (λc=>[]) [10] [1,8,9] [0] k0 Q (λc t a e=>aC [1,8,9,10] Q (bO 5 Q (bK a Q (λi a=>?_) (λi a=>?_)))))))
 ·refine aK 6 Q (VE a λn l a=>dN TK Q l (aI 1 Q (cS 1 Q Q iM Q (cL 1 [none,none,none,some 3,some 2,some 1,none,none,some 3,some 2,some 1,some 2,some 1,some 2] Q Q (aH 11 Q (bK a Q (λk a=>?_) (λk a=>?_)))))))
  ·refine cH 5 Q (aC [4] Q (aM 3 Q (IE a λp a b=>?_)));rw[e _ b]at a;refine WR (bM 1 Q (IE a λq a b=>?_));rw[m _ b]at a;exact WR (bD a Q)
  exact aK 4 Q (GE a λh a=>bF Q h (aG 2 Q (bU [0] a Q Q)))
 refine aM 2 Q (IE a λo a b=>?_);rw[e _ b]at a;exact WX (bM 1 Q (bU [0] a Q Q));exact aC [] Q (aM 5 Q (bD a Q))
theorem yq{c:Al}{r:Int}(a:sY c=some r):RetN TP 31 [c.enc] (.int .i64 r):=by
 refine .unit (aN (bE Q) func31 Q ntmps31 Q Q (λwX gX=>?_)) Q;unfold sY at a;refine aC [0] Q (aQ 1 Q (cY 0 Q Q Q (aH 4 Q ?_)));refine hO [(40,.d (.bool (((decide (48<(c.Ac.length:Int)))||((decide (32<(c.Ag.length:Int)))||((decide (c.Aa<0))||((decide (24<c.Aa))||((decide (c.Au<0))||(decide (20<c.Au))))))))))] [40] [1] Q ?_ ?_;refine aQ 3 Q (aW TK Q (aI 1 Q (SB TK Q (λb0 e=>?_))));cases b0;refine aI 2 Q (aW TK Q (aI 2 Q (SB TK Q (λb4 f=>?_))));cases b4;refine aI 4 Q (SB TK Q (λb7 g=>?_));cases b7;refine aI 4 Q (SB TK Q (λb8 h=>?_));cases b8;refine aI 4 Q (SB TK Q (λc2 z=>?_));cases c2;refine aG 5 Q ?_;exact⟨[0],Q,k0,bT (aR (aU (by simp[e,f,g,h,z])) Q) Q⟩;refine aG 5 Q ?_;exact⟨[0],Q,k0,bT (aR (aU (by simp[e,f,g,h,z])) Q) Q⟩;refine aG 10 Q ?_;exact⟨[0],Q,k0,bT (aR (aU (by simp[e,f,g,h])) Q) Q⟩;refine aG 15 Q ?_;exact⟨[0],Q,k0,bT (aR (aU (by simp[e,f,g])) Q) Q⟩;refine aG 20 Q ?_;exact⟨[0],Q,k0,bT (aR (aU (by simp[e,f])) Q) Q⟩;refine aG 26 Q ?_;exact⟨[0],Q,k0,bT (aR (aU (by simp[e])) Q) Q⟩;refine aC [1,40] Q (cI a Q (λS a=>?_) (λS a=>?_))
 ·exact aM 6 Q (bD a Q)
 refine aK 6 Q (aW TK Q (aI 2 Q (aW TK Q (aH 3 Q (qV a Q (λU a=>?_) (λU a=>?_))))))
 ·exact aM 6 Q (bD a Q)
 refine cH 2 Q (cJ a (λ_=>[]) (λ_=>[]) [] [1] Q (λg4 a a9=>?_) (λj a=>?_))
 ·refine aQ 3 Q (aW TK Q (aH 4 Q (aX a (λi=>([(51,.d (.int .i64 i))])) (λi=>[]) [51] [1,49,50] [0] k0 Q (λi f4 a C=>aC [1,49,50,51] Q (bO 5 Q (bK a Q (λM a=>?_) (λM a=>?_)))))))
  ·refine aK 6 Q (VE a λc5 X a=>dN TK Q X (aH 5 Q (aL a (λk=>([(89,.d (.bool (k)))])) (λk=>[]) [89] [1,49,50,51] Q (λf5 a=>?_) (λk a=>?_))))
   ·refine gT follows ?_;iterate 2 (refine DA [0] TK Q ?_)
    refine uP [0] TK Q (λb1 q=>?_);cases b1;replace a:=JF q a;iterate 2 (refine DA [0] TK Q ?_)
    refine uP [0] TK Q (λb2 s=>?_);cases b2;replace a:=JF s a;iterate 14 (refine DA [0] TK Q ?_)
    refine VE a λc6 Y a=>aV [0] Q (eW TK Q Q Q Q Y) ?_;iterate 3 (refine DA [0] TK Q ?_)
    refine uP [0] TK Q (λb3 t=>?_);cases b3;replace a:=JF t a;iterate 3 (refine DA [0] TK Q ?_)
    refine VE a λc7 Z a=>aV [0] Q (eW TK Q Q Q Q Z) ?_;iterate 5 (refine DA [0] TK Q ?_)
    refine DT ?_ (by kernel_rfl);exact aG 1 Q (bI [0] a Q Q);replace a:=JT t a;iterate 9 (refine DA [0] TK Q ?_)
    refine DT ?_ (by kernel_rfl);exact aG 1 Q (bI [0] a Q Q);replace a:=JT s a;iterate 3 (refine DA [0] TK Q ?_)
    refine GE a λH a=>aV [0] Q (tL Q Q Q Q H) (VE a λc8 a0 a=>aV [0] Q (eW TK Q Q Q Q a0) ?_);iterate 5 (refine DA [0] TK Q ?_)
    refine uP [0] TK Q (λb5 u=>?_);cases b5;replace a:=JF u a;iterate 3 (refine DA [0] TK Q ?_)
    refine VE a λc9 a1 a=>aV [0] Q (eW TK Q Q Q Q a1) ?_;iterate 3 (refine DA [0] TK Q ?_)
    refine uP [0] TK Q (λb6 v=>?_);cases b6;replace a:=JF v a;iterate 3 (refine DA [0] TK Q ?_)
    refine VE a λd0 a2 a=>aV [0] Q (eW TK Q Q Q Q a2) ?_;iterate 5 (refine DA [0] TK Q ?_)
    refine DT ?_ (by kernel_rfl);exact aG 1 Q (bI [0] a Q Q);replace a:=JT v a;iterate 9 (refine DA [0] TK Q ?_)
    refine DT ?_ (by kernel_rfl);exact aG 1 Q (bI [0] a Q Q);replace a:=JT u a;iterate 17 (refine DA [0] TK Q ?_)
    refine DT ?_ (by kernel_rfl);exact aG 1 Q (bI [0] a Q Q);replace a:=JT q a;iterate 31 (refine DA [0] TK Q ?_)
    refine DT ?_ (by kernel_rfl);exact aG 1 Q (bI [0] a Q Q)
   refine aC [1,49,50,51,89] Q (cI a Q (λN a=>?_) (λN a=>?_))
   ·refine aM 7 Q (IE a λe2 a b=>?_);rw[C _ b]at a;refine WR (bM 1 Q (IE a λe3 a b=>?_));rw[a9 _ b]at a;exact WR (bD a Q)
   exact aK 4 Q (GE a λI a=>bF Q I (aG 2 Q (bU [0] a Q Q)))
  refine aM 2 Q (IE a λe4 a b=>?_);rw[C _ b]at a;exact WX (bM 1 Q (bU [0] a Q Q))
 refine aC [1] Q (cJ a (λ_=>[]) (λ_=>[]) [] [1] Q (λf6 a a6=>?_) (λj a=>?_))
 ·refine aQ 3 Q (aW TK Q (aH 4 Q (aX a (λl=>([(94,.d (.int .i64 l))])) (λl=>[]) [94] [1,92,93] [0] k0 Q (λl f7 a E=>aC [1,92,93,94] Q (bO 5 Q (bK a Q (λO a=>?_) (λO a=>?_)))))))
  ·refine aK 5 Q (VE a λd1 a3 a=>dN TK Q a3 (aI 1 Q (cS 1 Q Q iM Q (cL 1 [none,none,none,some 3,some 2,some 1,none,none,some 3,some 2,some 1,some 2,some 1,some 2] Q Q (aH 3 Q (aL a (λm=>([(122,.d (.bool (m)))])) (λm=>[]) [122] [1,92,93,94] Q (λf8 a=>?_) (λm a=>?_)))))))
   ·refine aQ 3 Q (cW a (J6 ·) Q λd4 a=>aI 1 Q (SB TK Q (λb9 w=>?_)));cases b9;replace a:=JB w a;refine aI 3 Q (cW a (uR ·) Q λd5 a=>aI 2 Q (SB TK Q (λc0 x=>?_)));cases c0;replace a:=JB x a;refine aI 3 Q (cW a (uR ·) Q λd6 a=>aI 2 Q (SB TK Q (λc1 y=>?_)));cases c1;replace a:=JB y a;exact aI 3 Q (cW a (uR ·) Q λd7 a=>aG 3 Q (bI [0,1] a Q Q));replace a:=JA y a;exact aG 7 Q (bI [0,1] a Q Q);replace a:=JA x a;exact aG 14 Q (bI [0,1] a Q Q);replace a:=JA w a;exact aG 21 Q (bI [0,1] a Q Q)
   refine aC [1,92,93,94,122] Q (cI a Q (λP a=>?_) (λP a=>?_))
   ·refine aM 7 Q (IE a λe5 a b=>?_);rw[E _ b]at a;refine WR (bM 1 Q (IE a λe6 a b=>?_));rw[a6 _ b]at a;exact WR (bD a Q)
   exact aK 4 Q (GE a λJ a=>bF Q J (aG 2 Q (bU [0] a Q Q)))
  refine aM 2 Q (IE a λe7 a b=>?_);rw[E _ b]at a;exact WX (bM 1 Q (bU [0] a Q Q))
 refine aC [1] Q (cJ a (λ_=>[]) (λ_=>[]) [] [1] Q (λf9 a a7=>?_) (λj a=>?_))
 ·refine aQ 3 Q (aW TK Q (aH 4 Q (aX a (λn=>([(127,.d (.int .i64 n))])) (λn=>[]) [127] [1,125,126] [0] k0 Q (λn g0 a F=>aC [1,125,126,127] Q (bO 5 Q (bK a Q (λR a=>?_) (λR a=>?_)))))))
  ·refine aK 5 Q (VE a λd2 a4 a=>dN TK Q a4 (aI 1 Q (cS 1 Q Q iM Q (cL 1 [none,none,none,some 3,some 2,some 1,none,none,some 3,some 2,some 1,some 2,some 1,some 2] Q Q (aH 3 Q (aL a (λo=>([(152,.d (.bool (o)))])) (λo=>[]) [152] [1,125,126,127] Q (λg1 a=>?_) (λo a=>?_)))))))
   ·refine aQ 5 Q (cW a (ck ·) Q λd8 a=>aI 1 Q (SB TK Q (λc3 A=>?_)));cases c3;replace a:=JB A a;refine aI 4 Q (cW a (ck ·) Q λd9 a=>aI 2 Q (SB TK Q (λc4 B=>?_)));cases c4;replace a:=JB B a;exact aI 4 Q (cW a (ck ·) Q λe0 a=>aG 3 Q (bI [0,1] a Q Q));replace a:=JA B a;exact aG 8 Q (bI [0,1] a Q Q);replace a:=JA A a;exact aG 16 Q (bI [0,1] a Q Q)
   refine aC [1,125,126,127,152] Q (cI a Q (λT a=>?_) (λT a=>?_))
   ·refine aM 7 Q (IE a λe8 a b=>?_);rw[F _ b]at a;refine WR (bM 1 Q (IE a λe9 a b=>?_));rw[a7 _ b]at a;exact WR (bD a Q)
   exact aK 4 Q (GE a λK a=>bF Q K (aG 2 Q (bU [0] a Q Q)))
  refine aM 2 Q (IE a λf0 a b=>?_);rw[F _ b]at a;exact WX (bM 1 Q (bU [0] a Q Q))
 refine aC [1] Q (cJ a (λ_=>[]) (λ_=>[]) [] [] Q (λg2 a a8=>?_) (λj a=>?_))
 ·refine aQ 3 Q (aW TK Q (aH 4 Q (aX a (λp=>([(157,.d (.int .i64 p))])) (λp=>[]) [157] [1,155,156] [0] k0 Q (λp g3 a G=>aC [1,155,156,157] Q (bO 5 Q (bK a Q (λV a=>?_) (λV a=>?_)))))))
  ·refine aK 6 Q (VE a λd3 a5 a=>dN TK Q a5 (aI 1 Q (cS 1 Q Q iM Q (cL 1 [none,none,none,some 3,some 2,some 1,none,none,some 3,some 2,some 1,some 2,some 1,some 2] Q Q (aI 8 Q (cW a (M0 ·) Q λe1 a=>aH 4 Q (qV a Q (λW a=>?_) (λW a=>?_))))))))
   ·refine cH 4 Q (aC [2] Q (aM 3 Q (IE a λf1 a b=>?_)));rw[G _ b]at a;refine WR (bM 1 Q (IE a λf2 a b=>?_));rw[a8 _ b]at a;exact WR (bD a Q)
   exact aK 4 Q (GE a λL a=>bF Q L (aG 2 Q (bU [0] a Q Q)))
  refine aM 2 Q (IE a λf3 a b=>?_);rw[G _ b]at a;exact WX (bM 1 Q (bU [0] a Q Q))
 exact aC [] Q (aM 5 Q (bD a Q))
theorem Dy{b:Al}{r:Pd}(a:qJ b=some r):RetD TP 13 [b.enc] (r.enc):=by
 refine .of (mv:=λ_=>false) (aN (bE Q) func13 Q ntmps13 Q Q (λwX gX=>?_));unfold qJ at a;refine aC [0] Q (aQ 1 Q (cY 0 Q Q Q (cS 1 Q Q Wv Q (jG (f:=(D.int .i64)) 1 5 2 3 1 Q Q Q (aI 5 Q (GE a λl a=>bF Q l (bN Q (kX Q plc34 Wv Q Q Q Q) (cS 3 Q Q Wv Q (jG (f:=(D.int .i64)) 3 5 4 3 1 Q Q Q (aI 1 Q (jG (f:=(D.int .i64)) 3 5 5 3 1 Q Q Q (aH 2 Q (aC [1,2,3] Q (aK 5 Q (aW TK Q (GE a λm a=>bF Q m (GE a λw a=>bF Q w (aH 4 Q (aC [1,2,3] Q (aK 5 Q ?_))))))))))))))))))));refine aW TK Q (GE a λx a=>bF Q x (GE a λy a=>bF Q y (aH 4 Q (aC [1,2,3] Q (aK 5 Q (aW TK Q (GE a λz a=>bF Q z (aH 3 Q (aL a (λ(i,g)=>([(4,.d (.int .i64 i))])) (λ(i,g)=>([(3,.box 34 [.d (.int .i64 (2*b.Aa)),.d (.int .i64 ((2*b.Aa)+(2*(b.Ag.length:Int)))),.d (.int .i64 (((2*b.Aa)+(2*(b.Ag.length:Int)))+(4*(b.Ac.length:Int)))),.d (.int .i64 0),.d (.int .i64 0),.msl 5 1 0 g.length]),(5,.flat 3 1 (g.map (D.int .i64)))])) [4] [1,2,3] Q (λI a=>?_) (λj a=>?_))))))))));refine bO 5 Q (aX a (λ(c,k,e)=>([(4,.d (.int .i64 c)),(5,.d (.int .i64 k))])) (λ(c,k,e)=>([(3,.box 34 [.d (.int .i64 (2*b.Aa)),.d (.int .i64 ((2*b.Aa)+(2*(b.Ag.length:Int)))),.d (.int .i64 (((2*b.Aa)+(2*(b.Ag.length:Int)))+(4*(b.Ac.length:Int)))),.d (.int .i64 0),.d (.int .i64 0),.msl 5 1 0 e.length]),(5,.flat 3 1 (e.map (D.int .i64)))])) [4,5] [1,2,3] [0,1,2,3,4,5] k0 Q (λs H a E=>?_));obtain⟨c,k,e⟩:=s;refine aC [1,2,3,4,5] Q (aQ 5 Q (aW TK Q (aH 3 Q (bK a Q (λA a=>?_) (λA a=>?_)))));exact aK 8 Q (dO [.tmp 41] TK Q gA (GE a λn a=>cG (f:=(D.int .i64)) ([c]:List Int) TK Q Q gA Q Q Q Q Q (λh=>absurd h (mQ _)) Q cB n Q Q (aH 4 Q (aC [1,2,3,4,5] Q (aK 2 Q (GE a λo a=>bF Q o (aI 3 Q (VE a λF B a=>dN TK Q B (aI 2 Q (aW TK Q (GE a λp a=>bF Q p (bN Q (H1 Q Q Q Q) (GE a λq a=>bF Q q (aI 6 Q (GE a λt a=>bF Q t (aG 2 Q (bU [0,1,2,3,4,5] a Q Q)))))))))))))))));refine aM 2 Q (IE a λG a C=>?_);rw[E _ C]at a;exact WX (bM 1 Q (bI [0,1,2,3,4,5] a Q Q));obtain⟨i,g⟩:=j;refine aC [1,2,3,4] Q (cH 6 Q (aC [1,2,3,4] Q (aK 4 Q (aW TK Q (GE a λu a=>bF Q u (GE a λv a=>bF Q v (aH 4 Q (aC [2,3] Q (cH 5 Q (aC [2] Q (aM 1 Q ?_)))))))))));obtain rfl:=OJ a;exact EndsS.cellR _ TK Q Q Q Q Q (jS (.cons (.d _) Q (.cons (.d _) Q (.cons (.d _) Q (.cons (.d _) Q (.cons (.d _) Q (.cons (cO Q) Q .nil)))))))
theorem gC{b:Int}{r:Ab}(a:fU b=some r):RetD TP 151 [.int .i64 b] (r.enc):=by
 refine .of (mv:=λ_=>false) (aN (bE Q) func151 Q ntmps151 Q Q (λwX gX=>?_));unfold fU at a;refine aC [0] Q (aQ 1 Q (cS 0 Q Q aO Q (cL 0 [none,none,some 3] Q Q (aI 4 Q (bN Q (cK Q vX aO Q Q Q Q) (Mo 4 [none,none,some 3] Q (aG 4 Q ?_)))))));obtain rfl:=OJ a;exact EndsS.cellR _ TK Q Q Q Q Q (.d _)
theorem iH{b:(List Ab)}{r:Ab}(a:jH b=some r):RetD TP 73 [.sl 3 (b.map Ab.As)] (r.enc):=by
 refine .of (mv:=λ_=>false) (aN (bE Q) func73 Q ntmps73 Q Q (λwX gX=>?_));unfold jH at a;refine aC [0] Q (aQ 1 Q (cS 0 Q Q aO Q (cL 0 [none,none,some 3] Q Q (aI 4 Q (bN Q (cK Q vX aO Q Q Q Q) (aG 4 Q ?_))))));obtain rfl:=OJ a;exact EndsS.cellR _ TK Q Q Q Q Q (.d _)
theorem eT{b:(List Ab)}{r:Ab}(a:fI b=some r):RetD TP 141 [.sl 3 (b.map Ab.As)] (r.enc):=by
 refine .of (mv:=λ_=>false) (aN (bE Q) func141 Q ntmps141 Q Q (λwX gX=>?_));unfold fI at a;refine aC [0] Q (aQ 1 Q (cS 0 Q Q aO Q (cL 0 [none,none,some 3] Q Q (aI 4 Q (bN Q (cK Q vX aO Q Q Q Q) (aG 4 Q ?_))))));obtain rfl:=OJ a;exact EndsS.cellR _ TK Q Q Q Q Q (.d _)
theorem fE{a:Ab}{r:Ab}(b:fP a=some r):RetD TP 145 [a.enc] (r.enc):=by
 refine .of (mv:=λ_=>false) (aN (bE Q) func145 Q ntmps145 Q Q (λwX gX=>?_));unfold fP at b;refine aC [0] Q (aQ 1 Q (cY 0 Q Q Q (cS 1 Q Q aO Q (cL 1 [none,none,some 3] Q Q (aI 4 Q (bN Q (bY (f:=Ab.As) (xs:=([a]:List Ab)) [.tmp 3] TK Q Q aO Q (bV Q (aF (Ab.Ah _) aZ)) Q (aS Ab.Aj) Q) (bN Q (cK Q vX aO Q Q Q Q) (aG 4 Q ?_))))))));obtain rfl:=OJ b;exact EndsS.cellR _ TK Q Q Q Q Q (.d _)
theorem kd{a:Ad}{b:Ad}{r:Bool}(e:lE a b=some r):RetN TP 183 [a.enc,b.enc] (.bool (r)):=by
 refine .unit (aN (bE Q) func183 Q ntmps183 Q Q (λwX gX=>?_)) Q;unfold lE at e;refine aC [0,1] Q (aQ 1 Q (cY 0 Q Q Q (cY 1 Q Q Q (aH 3 Q ?_))));refine hO [(4,.d (.bool (((decide (a.el<b.el))||((decide (a.el=b.el))&&(decide (a.pos<b.pos)))))))] [4] [] Q ?_ ?_;refine aQ 6 Q (SB TK Q (λg c=>?_));cases g;refine aI 5 Q (SB TK Q (λh f=>?_));cases h;refine aG 9 Q ?_;exact⟨[0,1],Q,k0,bT (aR (aU (by simp[c,f])) Q) Q⟩;refine aG 9 Q ?_;exact⟨[0,1],Q,k0,bT (aR (aU (by simp[c,f])) Q) Q⟩;refine aG 15 Q ?_;exact⟨[0,1],Q,k0,bT (aR (aU (by simp[c])) Q) Q⟩;exact aC [4] Q (aM 1 Q (bD e Q))
theorem oK{b:Ak}{r:(List Ad)}(a:kF b=some r):RetD TP 114 [b.enc] (.sl 2 (r.map Ad.enc)):=by
 refine .of (mv:=λ_=>false) (aN (bE Q) func114 Q ntmps114 Q Q (λwX gX=>?_));unfold kF at a;refine aC [0] Q (aQ 1 Q (cY 0 Q Q Q (aI 4 Q (gU (f:=Ad.enc) 1 148 2 Q Q Q (gU (f:=Ad.enc) 2 148 2 Q Q Q (aI 6 Q (GE a λx a=>cG (f:=Ad.enc) b.Ag TK Q Q dJ Q Q Q Q Q (λh=>absurd h (mQ _)) Q cB x Q Q (aI 7 Q (GE a λz a=>cG (f:=Ad.enc) b.An TK Q Q dJ Q Q Q Q Q (λh=>absurd h (mQ _)) Q cB z Q Q (aI 7 Q (GE a λA a=>cG (f:=Ad.enc) b.Ax TK Q Q dJ Q Q Q Q Q (λh=>absurd h (mQ _)) Q cB A Q Q (aH 3 Q (aC [3,4] Q (cH 1 Q (aX a (λc=>([(3,.msl 0 2 0 (((([]:List Ad)++b.Ag)++b.An)++b.Ax).length),(4,.msl 1 2 0 c.length)])) (λc=>([(1,.flat 148 2 (c.map Ad.enc))])) [3,4] [] [1,2] k0 Q (λc a0 a J=>aC [3,4] Q (bO 5 Q (aL a (λg=>([(5,.d (.int .i64 g))])) (λg=>[]) [5] [3,4] Q (λa1 a=>?_) (λg a=>?_)))))))))))))))))));refine bO 7 Q (aX a (λ(e,j)=>([(5,.d (.int .i64 e)),(22,.d (.int .i64 j))])) (λ(e,j)=>[]) [5,22] [3,4,20,21] [0,1] k0 Q (λs Y a I=>?_));obtain⟨e,j⟩:=s;refine aC [3,4,5,20,21,22] Q (bO 5 Q (bK a Q (λF a=>?_) (λF a=>?_)));refine aK 6 Q (VE a λO l a=>bN Q (rH TK Q Q Q Q l Q) (bN Q (wQ TK Q Q Q Q l.2 Q) (cS 2 Q Q dJ Q (aH 4 Q (aL a (λk=>([(51,.d (.bool (k)))])) (λk=>[]) [51] [3,4,5,6,20,21,22] Q (λZ a=>?_) (λk a=>?_))))))
 ·refine gT follows ?_;iterate 3 (refine DA [0,1,2] TK Q ?_)
  refine uP [0,1,2] TK Q (λK q=>?_);cases K;replace a:=JF q a;iterate 3 (refine DA [0,1,2] TK Q ?_)
  refine GE a λy a=>aV [0,1,2] Q (tL Q Q Q Q y) (VE a λP m a=>aV [0,1,2] Q (rH TK Q Q Q Q m Q) (aV [0,1,2] Q (wQ TK Q Q Q Q m.2 Q) (DA [0,1,2] TK Q (gI [0,1,2] a (kd ·) Q λT a=>DA [0,1,2] TK Q (uP [0,1,2] TK Q (λL t=>?_))))));cases L;replace a:=JB t a;iterate 11 (refine DA [0,1,2] TK Q ?_)
  refine DT ?_ (by kernel_rfl);exact aG 1 Q (bI [0,1,2] a Q Q);replace a:=JA t a;iterate 2 (refine DA [0,1,2] TK Q ?_)
  refine uP [0,1,2] TK Q (λM u=>?_);cases M;replace a:=JF u a;iterate 3 (refine DA [0,1,2] TK Q ?_)
  refine VE a λR n a=>aV [0,1,2] Q (rH TK Q Q Q Q n Q) (aV [0,1,2] Q (wQ TK Q Q Q Q n.2 Q) (gI [0,1,2] a (kd ·) Q λU a=>?_));iterate 2 (refine DA [0,1,2] TK Q ?_)
  refine DT ?_ (by kernel_rfl);exact aG 1 Q (bI [0,1,2] a Q Q);replace a:=JT u a;iterate 8 (refine DA [0,1,2] TK Q ?_)
  refine DT ?_ (by kernel_rfl);exact aG 1 Q (bI [0,1,2] a Q Q);replace a:=JT q a;iterate 12 (refine DA [0,1,2] TK Q ?_)
  refine uP [0,1,2] TK Q (λN v=>?_);cases N;replace a:=JF v a;iterate 3 (refine DA [0,1,2] TK Q ?_)
  refine VE a λS o a=>aV [0,1,2] Q (rH TK Q Q Q Q o Q) (aV [0,1,2] Q (wQ TK Q Q Q Q o.2 Q) (gI [0,1,2] a (kd ·) Q λV a=>?_));iterate 2 (refine DA [0,1,2] TK Q ?_)
  refine DT ?_ (by kernel_rfl);exact aG 1 Q (bI [0,1,2] a Q Q);replace a:=JT v a;iterate 8 (refine DA [0,1,2] TK Q ?_)
  refine DT ?_ (by kernel_rfl);exact aG 1 Q (bI [0,1,2] a Q Q)
 refine aC [3,4,5,6,20,21,22,51] Q (cI a Q (λG a=>?_) (λG a=>?_))
 ·exact aK 7 Q (GE a λB a=>bF Q B (aG 2 Q (bU [0,1] a Q Q)))
 exact aK 4 Q (GE a λC a=>bF Q C (aG 2 Q (bU [0,1] a Q Q)));refine aM 2 Q (IE a λW a i=>?_);rw[I _ i]at a;exact WX (bM 1 Q (bI [0,1] a Q Q));refine aC [3,4,5] Q (cH 6 Q (bK a Q (λH a=>?_) (λH a=>?_)))
 ·refine aM 8 Q (IE a λX a i=>?_);rw[J _ i]at a;refine WR (bM 1 Q ?_);obtain rfl:=OJ a;exact EndsS.one _ Q (cO Q) (.refl _)
 exact aK 6 Q (VE a λw p a=>bN Q (rH TK Q Q Q Q p Q) (bN Q (wQ TK Q Q Q Q p.2 Q) (dO [.tmp 61] TK Q dJ (GE a λE a=>cG (f:=Ad.enc) ([w]:List Ad) TK Q Q dJ Q Q Q Q Q (λh=>absurd h (mQ _)) Q cB E Q Q (aG 3 Q (bU [0,1] a Q Q))))))
theorem qm{a:Ak}{b:Ak}{r:Bool}(c:pP a b=some r):RetN TP 112 [a.enc,b.enc] (.bool (r)):=by
 refine .unit (aN (bE Q) func112 Q ntmps112 Q Q (λwX gX=>?_)) Q;unfold pP at c;refine aC [0,1] Q (aQ 1 Q (cY 0 Q Q Q (cY 1 Q Q Q (aH 3 Q (hO [(4,.d (.bool (((decide (0<=a.exit))&&(decide (b.entry=a.exit))))))] [4] [] Q ?_ ?_)))));refine aQ 4 Q (SB TK Q (λf e=>?_));cases f;refine aG 8 Q ?_;exact⟨[0,1],Q,k0,bT (aR (aU (by simp[e])) Q) Q⟩;refine aG 8 Q ?_;exact⟨[0,1],Q,k0,bT (aR (aU (by simp[e])) Q) Q⟩;exact aC [4] Q (aM 1 Q (bD c Q))
theorem rA{f:(List Int)}{g:(List Int)}{r:Int}(a:nV f g=some r):RetN TP 207 [.sl 1 (f.map (D.int .i64)),.sl 1 (g.map (D.int .i64))] (.int .i64 r):=by
 refine .unit (aN (bE Q) func207 Q ntmps207 Q Q (λwX gX=>?_)) Q;unfold nV at a;refine aC [0,1] Q (bO 8 Q (aL a (λc=>([(5,.d (.int .i64 c))])) (λc=>[]) [5] [] Q (λt a=>?_) (λc a=>?_)));refine bO 5 Q (aX a (λ(e,b)=>([(5,.d (.int .i64 e)),(6,.d (.int .i64 b))])) (λ(e,b)=>[]) [5,6] [0,1] [] k0 Q (λs u a n=>?_));obtain⟨e,b⟩:=s;refine aC [0,1,5,6] Q (aQ 4 Q (aW TK Q (aH 3 Q (bK a Q (λk a=>?_) (λk a=>?_)))));refine aK 8 Q (VE a λo l a=>dN TK Q l (aI 1 Q (cW a (bo ·) Q λp a=>aH 2 Q (cI a Q (λj a=>?_) (λj a=>?_)))))
 ·exact aK 8 Q (GE a λh a=>bF Q h (aG 2 Q (bU [] a Q Q)))
 exact aK 5 Q (GE a λi a=>bF Q i (aG 2 Q (bU [] a Q Q)));refine aM 2 Q (IE a λq a m=>?_);rw[n _ m]at a;exact WX (bM 1 Q (bI [] a Q Q));exact aC [5] Q (aM 6 Q (bD a Q))
theorem bk{g:(List Ad)}{h:Ad}{r:Bool}(a:sU g h=some r):RetN TP 153 [.sl 2 (g.map Ad.enc),h.enc] (.bool (r)):=by
 refine .unit (aN (bE Q) func153 Q ntmps153 Q Q (λwX gX=>?_)) Q;unfold sU at a;refine aC [0,1] Q (aQ 1 Q (cY 0 Q Q Q (aH 3 Q (cJ a (λ_=>[]) (λ_=>[]) [] [] Q (λt a n=>?_) (λj a=>?_)))));refine bO 5 Q (aX a (λc=>([(5,.d (.int .i64 c))])) (λc=>[]) [5] [0,3] [0] k0 Q (λc u a f=>aC [0,3,5] Q (aQ 4 Q (aW TK Q (aH 3 Q (bK a Q (λk a=>?_) (λk a=>?_)))))))
 ·refine cH 4 Q (bR follows ?_);iterate 2 (refine DA [0] TK Q ?_)
  refine VE a λo m a=>aV [0] Q (eW TK Q Q Q Q m) ?_;iterate 2 (refine DA [0] TK Q ?_)
  refine GE a λe a=>aV [0] Q (Bn Q Q Q e.1 e.2) ?_;refine DT ?_ (by kernel_rfl);refine aH 2 Q (bK a Q (λl a=>?_) (λl a=>?_));refine aM 7 Q (IE a λp a b=>?_);rw[f _ b]at a;refine WR (bM 1 Q (IE a λq a b=>?_));rw[n _ b]at a;exact WR (bD a Q);exact aK 5 Q (GE a λi a=>bF Q i (aG 2 Q (bU [0] a Q Q)))
 refine aM 2 Q (IE a λs a b=>?_);rw[f _ b]at a;exact WX (bM 1 Q (bU [0] a Q Q));exact aC [] Q (aM 5 Q (bD a Q))
theorem Ht{z:Al}{A:Int}{B:Int}{r:Int}(a:tS z A B=some r):RetN TP 152 [z.enc,.int .i64 A,.int .i64 B] (.int .i64 r):=by
 refine .unit (aN (bE Q) func152 Q ntmps152 Q Q (λwX gX=>?_)) Q;unfold tS at a;refine aC [0,1,2] Q (aQ 1 Q (cY 0 Q Q Q (aI 7 Q (VE a λa9 N a=>dN TK Q N (aI 1 Q (cS 1 Q Q iM Q (cL 1 [none,none,none,some 3,some 2,some 1,none,none,some 3,some 2,some 1,some 2,some 1,some 2] Q Q (aI 7 Q (VE a λb0 O a=>dN TK Q O (aI 1 Q (cS 2 Q Q iM Q (cL 2 [none,none,none,some 3,some 2,some 1,none,none,some 3,some 2,some 1,some 2,some 1,some 2] Q Q (aI 6 Q (aW TK Q (GE a λC a=>bF Q C (aH 3 Q (aC [3,7,8,9] Q (aK 3 Q (cW a (qm ·) Q λc5 a=>aI 6 Q ?_)))))))))))))))))));refine cW a (qm ·) Q λc6 a=>aI 8 Q (cW a (rA ·) Q λd0 a=>aH 3 Q (aL a (λi=>([(12,.d (.int .i64 i))])) (λi=>[]) [12] [3,7,8,9,10,11] Q (λe5 a=>?_) (λi a=>?_)));refine bO 5 Q (cI a Q (λM a=>?_) (λM a=>?_))
 ·exact aK 6 Q (cW a (rA ·) Q λb9 a=>bN Q (H1 Q Q Q Q) (aG 2 Q (bI [0,1,2] a Q Q)))
 exact aM 1 Q (bI [0,1,2] a Q Q);refine aC [3,7,8,9,10,11,12] Q (cH 1 Q (aL a (λj=>([(77,.d (.bool (j)))])) (λj=>[]) [77] [3,7,8,9,12] Q (λd8 a=>?_) (λj a=>?_)))
 ·refine aQ 3 Q (SB TK Q (λa0 m=>?_));cases a0;replace a:=JB m a;refine aI 10 Q (SB TK Q (λa1 n=>?_));cases a1;replace a:=JB n a;exact aG 13 Q (bI [0,1,2] a Q Q);replace a:=JA n a;refine aI 3 Q (SB TK Q (λa2 o=>?_));cases a2;replace a:=JB o a;exact aG 9 Q (bI [0,1,2] a Q Q);replace a:=JA o a;exact aI 4 Q (cW a (rA ·) Q λc0 a=>aG 4 Q (bI [0,1,2] a Q Q));replace a:=JA m a;refine aI 4 Q (cW a (rA ·) Q λc1 a=>aI 2 Q (SB TK Q (λa3 p=>?_)));cases a3;replace a:=JF p a;refine aI 2 Q (SB TK Q (λa4 q=>?_));cases a4;replace a:=JB q a;exact aG 13 Q (bI [0,1,2] a Q Q);replace a:=JA q a;refine aI 3 Q (SB TK Q (λa5 t=>?_));cases a5;replace a:=JB t a;exact aG 9 Q (bI [0,1,2] a Q Q);replace a:=JA t a;exact aI 4 Q (cW a (rA ·) Q λc2 a=>aG 4 Q (bI [0,1,2] a Q Q));replace a:=JT p a;exact aG 16 Q (bI [0,1,2] a Q Q)
 refine aC [3,7,8,9,12,77] Q (cI a Q (λH a=>?_) (λH a=>?_))
 ·exact aM 7 Q (bD a Q)
 refine aK 4 Q (fA a (oK ·) Q λc3 a=>aI 5 Q (fA a (oK ·) Q λc4 a=>aH 3 Q (cJ a (λe=>([(12,.d (.int .i64 e))])) (λe=>[]) [12] [] Q (λd9 a Y=>?_) (λe a=>?_))))
 ·refine bO 5 Q (aX a (λ(f,c)=>([(12,.d (.int .i64 f)),(15,.d (.int .i64 c))])) (λ(f,c)=>[]) [12,15] [3,7,9,13,14] [0,1,2] k0 Q (λs e0 a x=>?_));obtain⟨f,c⟩:=s;refine aC [3,7,9,12,13,14,15] Q (aQ 4 Q (aW TK Q (aH 3 Q (bK a Q (λI a=>?_) (λI a=>?_)))));refine cH 2 Q (cJ a (λg=>([(12,.d (.int .i64 g))])) (λg=>[]) [12] [3,7,9,13,14,15] Q (λe1 a Z=>?_) (λg a=>?_))
  ·refine bO 6 Q (aX a (λ(h,k38)=>([(12,.d (.int .i64 h)),(16,.d (.int .i64 k38))])) (λ(h,k38)=>[]) [12,16] [3,7,9,13,14,15] [0,1,2] k0 Q (λs e2 a y=>?_));obtain⟨h,k38⟩:=s;refine aC [3,7,9,12,13,14,15,16] Q (aQ 4 Q (aW TK Q (aH 3 Q (bK a Q (λJ a=>?_) (λJ a=>?_)))));refine cH 5 Q (aL a (λk=>([(118,.d (.bool (k)))])) (λk=>[]) [118] [3,7,9,12,13,14,15,16] Q (λe3 a=>?_) (λk a=>?_))
   ·refine gT follows ?_;iterate 2 (refine DA [0,1,2] TK Q ?_)
    refine VE a λb1 P a=>aV [0,1,2] Q (eW TK Q Q Q Q P) ?_;iterate 4 (refine DA [0,1,2] TK Q ?_)
    refine VE a λb2 R a=>aV [0,1,2] Q (eW TK Q Q Q Q R) ?_;iterate 3 (refine DA [0,1,2] TK Q ?_)
    refine uP [0,1,2] TK Q (λa6 u=>?_);cases a6;replace a:=cw u a;iterate 2 (refine DA [0,1,2] TK Q ?_)
    refine VE a λb3 S a=>aV [0,1,2] Q (eW TK Q Q Q Q S) ?_;iterate 4 (refine DA [0,1,2] TK Q ?_)
    refine VE a λb4 T a=>aV [0,1,2] Q (eW TK Q Q Q Q T) ?_;iterate 4 (refine DA [0,1,2] TK Q ?_)
    refine DT ?_ (by kernel_rfl);exact aG 1 Q (bI [0,1,2] a Q Q);replace a:=cv u a;iterate 12 (refine DA [0,1,2] TK Q ?_)
    refine DT ?_ (by kernel_rfl);exact aG 1 Q (bI [0,1,2] a Q Q)
   refine aC [3,7,9,12,13,14,15,16,118] Q (cI a Q (λK a=>?_) (λK a=>?_))
   ·exact aK 6 Q (GE a λE a=>bF Q E (aG 2 Q (bU [0,1,2] a Q Q)))
   refine cH 2 Q (bR follows ?_);iterate 7 (refine DA [0,1,2] TK Q ?_)
   refine VE a λb5 U a=>aV [0,1,2] Q (eW TK Q Q Q Q U) ?_;iterate 2 (refine DA [0,1,2] TK Q ?_)
   refine gI [0,1,2] a (vG ·) Q λc7 a=>VE a λb6 V a=>aV [0,1,2] Q (eW TK Q Q Q Q V) (DA [0,1,2] TK Q (aV [0,1,2] Q (nD [.tmp 131] TK Q Q gA Q Q Q Q Q) (gI [0,1,2] a (rA ·) Q λc8 a=>?_)));refine DT ?_ (by kernel_rfl);refine aH 3 Q (aC [3,7,9,12,13,14,15,16,17] Q (cH 1 Q (aL a (λl=>([(153,.d (.bool (l)))])) (λl=>[]) [153] [3,7,9,12,13,14,15,16,17] Q (λe4 a=>?_) (λl a=>?_))));refine gT follows ?_;iterate 2 (refine DA [0,1,2] TK Q ?_)
   refine uP [0,1,2] TK Q (λa7 v=>?_);cases a7;replace a:=JF v a;iterate 4 (refine DA [0,1,2] TK Q ?_)
   refine VE a λb7 W a=>aV [0,1,2] Q (eW TK Q Q Q Q W) (DA [0,1,2] TK Q (gI [0,1,2] a (bk ·) Q λc9 a=>DA [0,1,2] TK Q (uP [0,1,2] TK Q (λa8 w=>?_))));cases a8;replace a:=JB w a;iterate 4 (refine DA [0,1,2] TK Q ?_)
   refine VE a λb8 X a=>aV [0,1,2] Q (eW TK Q Q Q Q X) (DA [0,1,2] TK Q (gI [0,1,2] a (bk ·) Q λd1 a=>DA [0,1,2] TK Q ?_));refine DT ?_ (by kernel_rfl);exact aG 1 Q (bI [0,1,2] a Q Q);replace a:=JA w a;iterate 8 (refine DA [0,1,2] TK Q ?_)
   refine DT ?_ (by kernel_rfl);exact aG 1 Q (bI [0,1,2] a Q Q);replace a:=JT v a;iterate 17 (refine DA [0,1,2] TK Q ?_)
   refine DT ?_ (by kernel_rfl);exact aG 1 Q (bI [0,1,2] a Q Q);refine aC [3,7,9,12,13,14,15,16,17,153] Q (cI a Q (λL a=>?_) (λL a=>?_))
   ·refine aM 9 Q (IE a λd2 a b=>?_);rw[y _ b]at a;refine WR (bM 2 Q (IE a λd3 a b=>?_));rw[Z _ b]at a;refine WR (IE a λd4 a b=>?_);rw[x _ b]at a;refine WR (bM 1 Q (IE a λd5 a b=>?_));rw[Y _ b]at a;exact WR (bD a Q)
   exact aK 5 Q (bN Q (H1 Q Q Q Q) (aI 6 Q (GE a λF a=>bF Q F (aG 2 Q (bU [0,1,2] a Q Q)))));refine aM 2 Q (IE a λd6 a b=>?_);rw[y _ b]at a;exact WX (bM 2 Q (bU [0,1,2] a Q Q))
  exact aC [3,7,9,12,13,14,15] Q (aK 2 Q (GE a λG a=>bF Q G (aG 2 Q (bU [0,1,2] a Q Q))));refine aM 2 Q (IE a λd7 a b=>?_);rw[x _ b]at a;exact WX (bM 1 Q (bU [0,1,2] a Q Q))
 exact aC [12] Q (aM 6 Q (bD a Q))
theorem H0{h:Int}{r:BA}(a:xH h=some r):RetN TP 118 [.int .i64 h] (.str r):=by
 refine .unit (aN (bE Q) func118 Q ntmps118 Q Q (λwX gX=>?_)) Q;unfold xH at a;refine aC [0] Q (bO 8 Q (aL a (λf=>([(3,.d (.str f))])) (λf=>[]) [3] [0] Q (λy a=>?_) (λf a=>?_)));refine bO 6 Q (aX a (λ(c,b)=>([(3,.d (.str c)),(4,.d (.int .i64 b))])) (λ(c,b)=>[]) [3,4] [0] [] k0 Q (λs z a u=>?_));obtain⟨c,b⟩:=s;refine aC [0,3,4] Q (bO 1 Q ?_);refine hO [(12,.d (.bool (((!(decide (b=0)))||(decide (c=(⟨#[]⟩:BA)))))))] [12] [0,3,4] Q ?_ ?_;refine aQ 3 Q (SB TK Q (λv g=>?_));cases v;refine aG 4 Q ?_;exact⟨[],Q,k0,bT (aR (aU (by simp[g])) Q) Q⟩;refine aG 4 Q ?_;exact⟨[],Q,k0,bT (aR (aU (by simp[g])) Q) Q⟩;refine aC [0,3,4,12] Q (cI a Q (λq a=>?_) (λq a=>?_))
 ·refine aK 6 Q (GE a λi a=>bN Q (Y5 Q Q Q (qAH i)) (aH 3 Q (aL a (λe=>([(5,.d (.int .i64 e))])) (λe=>[]) [5] [0,3,4] Q (λx a=>?_) (λe a=>?_))))
  ·refine bO 5 Q (bK a Q (λo a=>?_) (λo a=>?_))
   ·exact aK 2 Q (bN Q (x_neg Q Q) (aG 2 Q (bI [] a Q Q)))
   exact aM 1 Q (bI [] a Q Q)
  exact aC [0,3,4,5] Q (aK 3 Q (GE a λj a=>bF Q j (GE a λk a=>bN Q (x_cutS Q Tryz.underlying9 Q Q Q k) (aI 1 Q (GE a λl a=>bN Q (yE Q Q Q l) (aI 6 Q (GE a λm a=>bN Q (Y5 Q Q Q (qAI m)) (aG 2 Q (bU [] a Q Q)))))))))
 refine aM 2 Q (IE a λw a t=>?_);rw[u _ t]at a;exact WX (bM 1 Q (bI [] a Q Q));refine aC [0,3] Q (cH 6 Q (bK a Q (λp a=>?_) (λp a=>?_)))
 ·exact aK 2 Q (GE a λn a=>bN Q (yE Q Q Q n) (aG 5 Q (bD a Q)))
 exact aM 8 Q (bD a Q)
theorem eL{b:BA}{c:Int}{r:BA}(a:eS b c=some r):RetN TP 154 [.str b,.int .i64 c] (.str r):=by
 refine .unit (aN (bE Q) func154 Q ntmps154 Q Q (λwX gX=>?_)) Q;unfold eS at a;exact aC [0,1] Q (aQ 6 Q (GE a λd a=>bN Q (yE Q Q Q d) (aI 1 Q (cW a (H0 ·) Q λf a=>GE a λe a=>bN Q (yE Q Q Q e) (aG 4 Q (bD a Q))))))
theorem Jz{B:Al}{C:(List BA)}{E:Int}(a:vN B=some (C,E)):RetT TP 76 [B.enc] [.sl 1 (C.map D.str),.int .i64 E]:=by
 refine .of (mv:=λ_=>false) (kL (bE Q) func76 Q ntmps76 Q Q (λwX gX=>?_));unfold vN at a;refine aC [0] Q (aQ 1 Q (cY 0 Q Q Q (aI 5 Q (gU (f:=D.str) 1 9 1 Q Q Q (aH 2 Q (aL a (λc=>([(4,.msl 1 1 0 c.length)])) (λc=>([(1,.flat 9 1 (c.map D.str))])) [4] [1] Q (λf7 a=>?_) (λc a=>?_)))))));refine bO 5 Q (aX a (λ(z,q)=>([(4,.msl 1 1 0 q.length),(5,.d (.int .i64 z))])) (λ(z,q)=>([(1,.flat 9 1 (q.map D.str))])) [4,5] [1] [0,1] k0 Q (λs g6 a c2=>?_));obtain⟨z,q⟩:=s;refine aC [1,4,5] Q (bO 8 Q (bK a Q (λb4 a=>?_) (λb4 a=>?_)));exact aK 7 Q (cW a (eL ·) Q λc4 a=>dO [.tmp 21] TK Q fK (GE a λH a=>cG (f:=D.str) ([c4]:List BA) TK Q Q fK Q Q Q Q Q (λh=>absurd h (mQ _)) Q cB H Q Q (aI 6 Q (cW a (eL ·) Q λd0 a=>dO [.tmp 26] TK Q fK (GE a λO a=>cG (f:=D.str) ([d0]:List BA) TK Q Q fK Q Q Q Q Q (λh=>absurd h (mQ _)) Q cB O Q Q (aI 6 Q (GE a λP a=>bF Q P (aG 2 Q (bU [0,1] a Q Q)))))))));refine aM 2 Q (IE a λe9 a b=>?_);rw[c2 _ b]at a;exact WX (bM 1 Q (bI [0,1] a Q Q));refine aC [1,4] Q (aL a (λi=>([(4,.msl 1 1 0 i.length)])) (λi=>([(1,.flat 9 1 (i.map D.str))])) [4] [1] Q (λf6 a=>?_) (λi a=>?_))
 ·refine bO 5 Q (aX a (λ(w,j)=>([(4,.msl 1 1 0 j.length),(6,.d (.int .i64 w))])) (λ(w,j)=>([(1,.flat 9 1 (j.map D.str))])) [4,6] [1] [0,1] k0 Q (λs f8 a b8=>?_));obtain⟨w,j⟩:=s;refine aC [1,4,6] Q (aQ 5 Q (aW TK Q (aH 3 Q (bK a Q (λb0 a=>?_) (λb0 a=>?_)))));exact aK 7 Q (cW a (eL ·) Q λd2 a=>dO [.tmp 38] TK Q fK (GE a λR a=>cG (f:=D.str) ([d2]:List BA) TK Q Q fK Q Q Q Q Q (λh=>absurd h (mQ _)) Q cB R Q Q (aI 6 Q (cW a (eL ·) Q λd3 a=>dO [.tmp 43] TK Q fK (GE a λS a=>cG (f:=D.str) ([d3]:List BA) TK Q Q fK Q Q Q Q Q (λh=>absurd h (mQ _)) Q cB S Q Q (aH 4 Q (aC [1,4,6] Q (aK 2 Q (GE a λT a=>bF Q T (aG 2 Q (bU [0,1] a Q Q)))))))))));refine aM 2 Q (IE a λf0 a b=>?_);rw[b8 _ b]at a;exact WX (bM 1 Q (bI [0,1] a Q Q))
 refine aC [1,4] Q (aL a (λk=>([(4,.msl 1 1 0 k.length)])) (λk=>([(1,.flat 9 1 (k.map D.str))])) [4] [1] Q (λf9 a=>?_) (λk a=>?_))
 ·refine bO 5 Q (aX a (λ(x,l)=>([(4,.msl 1 1 0 l.length),(7,.d (.int .i64 x))])) (λ(x,l)=>([(1,.flat 9 1 (l.map D.str))])) [4,7] [1] [0,1] k0 Q (λs g0 a b9=>?_));obtain⟨x,l⟩:=s;refine aC [1,4,7] Q (aQ 5 Q (aW TK Q (aH 3 Q (bK a Q (λb1 a=>?_) (λb1 a=>?_)))));refine aK 7 Q (cW a (eL ·) Q λd4 a=>dO [.tmp 55] TK Q fK (GE a λU a=>cG (f:=D.str) ([d4]:List BA) TK Q Q fK Q Q Q Q Q (λh=>absurd h (mQ _)) Q cB U Q Q (aI 6 Q (cW a (eL ·) Q λd5 a=>dO [.tmp 60] TK Q fK (GE a λV a=>cG (f:=D.str) ([d5]:List BA) TK Q Q fK Q Q Q Q Q (λh=>absurd h (mQ _)) Q cB V Q Q (aH 3 Q (aC [1,4,7] Q (aK 3 Q (cW a (eL ·) Q λd6 a=>dO [.tmp 65] TK Q fK (GE a λW a=>cG (f:=D.str) ([d6]:List BA) TK Q Q fK Q Q Q Q Q (λh=>absurd h (mQ _)) Q cB W Q Q (aI 6 Q (cW a (eL ·) Q λd7 a=>dO [.tmp 70] TK Q fK (GE a λX a=>cG (f:=D.str) ([d7]:List BA) TK Q Q fK Q Q Q Q Q (λh=>absurd h (mQ _)) Q cB X Q Q (aI 6 Q (GE a λY a=>?_)))))))))))))));exact bF Q Y (aG 2 Q (bU [0,1] a Q Q));refine aM 2 Q (IE a λf1 a b=>?_);rw[b9 _ b]at a;exact WX (bM 1 Q (bI [0,1] a Q Q))
 refine aC [1,4] Q (cH 6 Q (aL a (λm=>([(4,.msl 1 1 0 m.length)])) (λm=>([(1,.flat 9 1 (m.map D.str))])) [4] [1,8] Q (λg1 a=>?_) (λm a=>?_)))
 ·refine bO 5 Q (aX a (λ(y,n)=>([(4,.msl 1 1 0 n.length),(9,.d (.int .i64 y))])) (λ(y,n)=>([(1,.flat 9 1 (n.map D.str))])) [4,9] [1,8] [0,1] k0 Q (λs g2 a c0=>?_));obtain⟨y,n⟩:=s;refine aC [1,4,8,9] Q (aQ 5 Q (aW TK Q (aH 3 Q (bK a Q (λb2 a=>?_) (λb2 a=>?_)))));exact aK 7 Q (cW a (eL ·) Q λd8 a=>dO [.tmp 84] TK Q fK (GE a λZ a=>cG (f:=D.str) ([d8]:List BA) TK Q Q fK Q Q Q Q Q (λh=>absurd h (mQ _)) Q cB Z Q Q (aI 6 Q (GE a λa0 a=>bF Q a0 (aG 2 Q (bU [0,1] a Q Q))))));refine aM 2 Q (IE a λf2 a b=>?_);rw[c0 _ b]at a;exact WX (bM 1 Q (bI [0,1] a Q Q))
 refine aC [1,4,8] Q (aL a (λo=>([(4,.msl 1 1 0 o.length)])) (λo=>([(1,.flat 9 1 (o.map D.str))])) [4] [1,8] Q (λg3 a=>?_) (λo a=>?_))
 ·refine bO 5 Q (aX a (λ(A,p)=>([(4,.msl 1 1 0 p.length),(10,.d (.int .i64 A))])) (λ(A,p)=>([(1,.flat 9 1 (p.map D.str))])) [4,10] [1,8] [0,1] k0 Q (λs g4 a c1=>?_));obtain⟨A,p⟩:=s;refine aC [1,4,8,10] Q (aQ 5 Q (aW TK Q (aH 3 Q (bK a Q (λb3 a=>?_) (λb3 a=>?_)))));refine cH 2 Q (aL a (λr=>([(4,.msl 1 1 0 r.length)])) (λr=>([(1,.flat 9 1 (r.map D.str))])) [4] [1,8,10] Q (λg5 a=>?_) (λr a=>?_))
  ·refine aQ 4 Q (cW a (eL ·) Q λd9 a=>dO [.tmp 96] TK Q fK (GE a λa1 a=>cG (f:=D.str) ([d9]:List BA) TK Q Q fK Q Q Q Q Q (λh=>absurd h (mQ _)) Q cB a1 Q Q (aI 6 Q (cW a (eL ·) Q λe0 a=>dO [.tmp 101] TK Q fK (GE a λa2 a=>cG (f:=D.str) ([e0]:List BA) TK Q Q fK Q Q Q Q Q (λh=>absurd h (mQ _)) Q cB a2 Q Q (aH 3 Q (aC [1,4,8,10] Q (aK 3 Q (cW a (eL ·) Q λe1 a=>dO [.tmp 106] TK Q fK (GE a λa3 a=>cG (f:=D.str) ([e1]:List BA) TK Q Q fK Q Q Q Q Q (λh=>absurd h (mQ _)) Q cB a3 Q Q (aI 6 Q (cW a (eL ·) Q λe2 a=>dO [.tmp 111] TK Q fK (GE a λa4 a=>cG (f:=D.str) ([e2]:List BA) TK Q Q fK Q Q Q Q Q (λh=>absurd h (mQ _)) Q cB a4 Q Q (aH 3 Q (aL a (λt=>([(4,.msl 1 1 0 t.length)])) (λt=>([(1,.flat 9 1 (t.map D.str))])) [4] [1,8,10] Q (λg7 a=>?_) (λt a=>?_))))))))))))))))
   ·refine bO 5 Q (aX a (λ(k87,u)=>([(4,.msl 1 1 0 u.length),(11,.d (.int .i64 k87))])) (λ(k87,u)=>([(1,.flat 9 1 (u.map D.str))])) [4,11] [1,8,10] [0,1] k0 Q (λs g8 a c3=>?_));obtain⟨k87,u⟩:=s;refine aC [1,4,8,10,11] Q (aQ 6 Q (VE a λe5 b6 a=>dN TK Q b6 (aI 2 Q (aW TK Q (GE a λa5 a=>bF Q a5 (aH 3 Q (bK a Q (λb5 a=>?_) (λb5 a=>?_))))))));exact aK 7 Q (cW a (eL ·) Q λe6 a=>aI 1 Q (cW a (eL ·) Q λe3 a=>dO [.tmp 130] TK Q fK (GE a λa6 a=>cG (f:=D.str) ([e3]:List BA) TK Q Q fK Q Q Q Q Q (λh=>absurd h (mQ _)) Q cB a6 Q Q (aH 4 Q (aC [1,4,8,10,11] Q (aK 2 Q (GE a λa7 a=>bF Q a7 (aG 2 Q (bU [0,1] a Q Q)))))))));refine aM 2 Q (IE a λf3 a b=>?_);rw[c3 _ b]at a;exact WX (bM 1 Q (bI [0,1] a Q Q))
   exact aC [1,4,8,10] Q (aK 3 Q (cW a (eL ·) Q λe4 a=>dO [.tmp 135] TK Q fK (GE a λa8 a=>cG (f:=D.str) ([e4]:List BA) TK Q Q fK Q Q Q Q Q (λh=>absurd h (mQ _)) Q cB a8 Q Q (aI 6 Q (cW a (eL ·) Q λc5 a=>dO [.tmp 140] TK Q fK (GE a λF a=>cG (f:=D.str) ([c5]:List BA) TK Q Q fK Q Q Q Q Q (λh=>absurd h (mQ _)) Q cB F Q Q (aG 3 Q (bI [0,1] a Q Q))))))))
  exact aC [1,4,8,10] Q (aK 2 Q (GE a λG a=>bF Q G (aG 2 Q (bU [0,1] a Q Q))));refine aM 2 Q (IE a λe7 a b=>?_);rw[c1 _ b]at a;exact WX (bM 1 Q (bI [0,1] a Q Q))
 refine aC [1,4,8] Q (aL a (λe=>([(4,.msl 1 1 0 e.length)])) (λe=>([(1,.flat 9 1 (e.map D.str))])) [4] [8] Q (λf4 a=>?_) (λe a=>?_))
 ·refine bO 5 Q (aX a (λ(v,g)=>([(4,.msl 1 1 0 g.length),(12,.d (.int .i64 v))])) (λ(v,g)=>([(1,.flat 9 1 (g.map D.str))])) [4,12] [1,8] [0,1] k0 Q (λs f5 a b7=>?_));obtain⟨v,g⟩:=s;refine aC [1,4,8,12] Q (aQ 5 Q (aW TK Q (aH 3 Q (bK a Q (λa9 a=>?_) (λa9 a=>?_)))));refine aK 7 Q (cW a (eL ·) Q λc6 a=>dO [.tmp 152] TK Q fK (GE a λI a=>cG (f:=D.str) ([c6]:List BA) TK Q Q fK Q Q Q Q Q (λh=>absurd h (mQ _)) Q cB I Q Q (aI 6 Q (cW a (eL ·) Q λc7 a=>dO [.tmp 157] TK Q fK (GE a λJ a=>cG (f:=D.str) ([c7]:List BA) TK Q Q fK Q Q Q Q Q (λh=>absurd h (mQ _)) Q cB J Q Q (aH 3 Q (aC [1,4,8,12] Q (aK 3 Q (cW a (eL ·) Q λc8 a=>dO [.tmp 162] TK Q fK (GE a λK a=>cG (f:=D.str) ([c8]:List BA) TK Q Q fK Q Q Q Q Q (λh=>absurd h (mQ _)) Q cB K Q Q (aI 6 Q (cW a (eL ·) Q λc9 a=>dO [.tmp 167] TK Q fK (GE a λL a=>cG (f:=D.str) ([c9]:List BA) TK Q Q fK Q Q Q Q Q (λh=>absurd h (mQ _)) Q cB L Q Q (aI 6 Q (cW a (eL ·) Q λd1 a=>?_)))))))))))))));exact dO [.tmp 172] TK Q fK (GE a λM a=>cG (f:=D.str) ([d1]:List BA) TK Q Q fK Q Q Q Q Q (λh=>absurd h (mQ _)) Q cB M Q Q (aH 4 Q (aC [1,4,8,12] Q (aK 2 Q (GE a λN a=>bF Q N (aG 2 Q (bU [0,1] a Q Q)))))));refine aM 2 Q (IE a λe8 a b=>?_);rw[b7 _ b]at a;exact WX (bM 1 Q (bI [0,1] a Q Q))
 refine aC [4,8] Q (aM 8 Q ?_);obtain⟨rfl,rfl⟩:=cV (cC a);exact EndsT.two Q (cO Q) (.refl _) (.d _) (.refl _)
theorem jC{a:Ao}{c:Int}{r:Int}(b:fR a c=some r):Ret TP 139 [zT a.t a.p 1 a.Ai.length,.flat 64 6 (a.Ai.map Ap.enc)] (λ_=>false) [.mptr 0 0 0 0,.d (.int .i64 c)] (.d (.int .i64 r)) [zT a.t a.p 1 a.Ai.length,.flat 64 6 (a.Ai.map Ap.enc)]:=by
 refine cP (bE Q) func139 Q ntmps139 Q Q (λwX gX=>?_);unfold fR at b;refine aC [0,1] Q (aQ 11 Q (VE b λg f b=>dN TK Q f (aI 2 Q (aW TK Q (GE b λe b=>bF Q e (aG 4 Q ?_))))));obtain rfl:=OJ b;exact⟨_,[0,1],res Q,by decide,(kB Q),Q,Q⟩
theorem eE{a:Ao}{c:Int}{r:Ab}(b:dB a c=some r):Ret TP 140 [zT a.t a.p 1 a.Ai.length,.flat 64 6 (a.Ai.map Ap.enc)] (λ_=>false) [.mptr 0 0 0 0,.d (.int .i64 c)] (.d (r.enc)) [zT a.t a.p 1 a.Ai.length,.flat 64 6 (a.Ai.map Ap.enc)]:=by
 refine cP (bE Q) func140 Q ntmps140 Q Q (λwX gX=>?_);unfold dB at b;refine aC [1] Q (aQ 1 Q (cS 2 Q Q aO Q (cL 2 [none,none,some 3] Q Q (aI 4 Q (GE b λe b=>bF Q e (fA b (gC ·) Q λf b=>aG 4 Q ?_))))));obtain rfl:=OJ b;exact⟨_,[0,1],.mk _ (.cons (.agg (TK.lay Q) Q Q Q Q) .nil) Q,by decide,(kB Q),Q,Q⟩
theorem cA{a:Ao}{c:Int}{e:Int}{r:Ab}(b:bP a c e=some r):Ret TP 72 [zT a.t a.p 1 a.Ai.length,.flat 64 6 (a.Ai.map Ap.enc)] (λ_=>false) [.mptr 0 0 0 0,.d (.int .i64 c),.d (.int .i64 e)] (.d (r.enc)) [zT a.t a.p 1 a.Ai.length,.flat 64 6 (a.Ai.map Ap.enc)]:=by
 refine cP (bE Q) func72 Q ntmps72 Q Q (λwX gX=>?_);unfold bP at b;refine aC [0,1,2] Q (aQ 1 Q (cS 2 Q Q aO Q (cL 2 [none,none,some 3] Q Q (aI 9 Q (VE b λh g b=>dN TK Q g (aI 2 Q (GE b λf b=>bF Q f (fA b (gC ·) Q λi b=>aG 4 Q ?_))))))));obtain rfl:=OJ b;exact⟨_,[0,1],.mk _ (.cons (.agg (TK.lay Q) Q Q Q Q) .nil) Q,by decide,(kB Q),Q,Q⟩
theorem gO{b:Ao}{c:Int}{e:Int}{r:Ab}(a:dM b c e=some r):Ret TP 142 [zT b.t b.p 1 b.Ai.length,.flat 64 6 (b.Ai.map Ap.enc)] (λ_=>false) [.mptr 0 0 0 0,.d (.int .i64 c),.d (.int .i64 e)] (.d (r.enc)) [zT b.t b.p 1 b.Ai.length,.flat 64 6 (b.Ai.map Ap.enc)]:=by
 refine cP (bE Q) func142 Q ntmps142 Q Q (λwX gX=>?_);unfold dM at a;refine aC [0,1,2] Q (aQ 1 Q (cS 2 Q Q aO Q (cL 2 [none,none,some 3] Q Q (aI 9 Q (GE a λf a=>bF Q f (GE a λg a=>bF Q g (aI 1 Q (GE a λh a=>bF Q h (fA a (gC ·) Q λi a=>aG 4 Q ?_)))))))));obtain rfl:=OJ a;exact⟨_,[0,1],.mk _ (.cons (.agg (TK.lay Q) Q Q Q Q) .nil) Q,by decide,(kB Q),Q,Q⟩
theorem jT{b:Ao}{c:Int}{e:Int}{r:Ab}(a:eZ b c e=some r):Ret TP 150 [zT b.t b.p 1 b.Ai.length,.flat 64 6 (b.Ai.map Ap.enc)] (λ_=>false) [.mptr 0 0 0 0,.d (.int .i64 c),.d (.int .i64 e)] (.d (r.enc)) [zT b.t b.p 1 b.Ai.length,.flat 64 6 (b.Ai.map Ap.enc)]:=by
 refine cP (bE Q) func150 Q ntmps150 Q Q (λwX gX=>?_);unfold eZ at a;refine aC [0,1,2] Q (aQ 1 Q (cS 2 Q Q aO Q (cL 2 [none,none,some 3] Q Q (aI 9 Q (VE a λi h a=>dN TK Q h (aI 1 Q (GE a λf a=>bF Q f (aI 1 Q (GE a λg a=>bF Q g (fA a (gC ·) Q λj a=>aH 3 Q (aC [6] Q (aM 1 Q ?_))))))))))));obtain rfl:=OJ a;exact⟨_,[0,1],.mk _ (.cons (.agg (TK.lay Q) Q Q Q Q) .nil) Q,by decide,(kB Q),Q,Q⟩
theorem rR{b:Ao}{g:Int}{r:Ab}(a:iO b g=some r):Ret TP 143 [zT b.t b.p 1 b.Ai.length,.flat 64 6 (b.Ai.map Ap.enc)] (λ_=>false) [.mptr 0 0 0 0,.d (.int .i64 g)] (.d (r.enc)) [zT b.t b.p 1 b.Ai.length,.flat 64 6 (b.Ai.map Ap.enc)]:=by
 refine cP (bE Q) func143 Q ntmps143 Q Q (λwX gX=>?_);unfold iO at a;refine aC [0,1] Q (aQ 1 Q (cS 2 Q Q aO Q (cL 2 [none,none,some 3] Q Q (aI 9 Q (VE a λF u a=>dN TK Q u (aI 6 Q (gU (f:=Ab.As) 3 40 3 Q Q Q (aH 2 Q (aL a (λc=>([(6,.msl 3 3 0 c.length)])) (λc=>([(3,.flat 40 3 (c.map Ab.As))])) [6] [0,4,5] Q (λK a=>?_) (λc a=>?_))))))))));refine bO 5 Q (aX a (λ(k7,e)=>([(6,.msl 3 3 0 e.length),(7,.d (.int .i64 k7))])) (λ(k7,e)=>([(3,.flat 40 3 (e.map Ab.As))])) [6,7] [0,1,4,5] [0,1,2,3] (kB Q) Q (λs L a B=>?_));obtain⟨k7,e⟩:=s;refine aC [0,1,4,5,6,7] Q (aQ 4 Q (aW TK Q (GE a λk a=>bF Q k (aH 3 Q (bK a Q (λq a=>?_) (λq a=>?_))))));refine cH 4 Q (dP follows ?_);iterate 4 (refine DA [0,1,2,3] TK Q ?_)
 refine BE a λC x a=>?_;refine aV [0,1,2,3] Q (bJ [0,1] ⟨Q,Q,λ_=>Q⟩ Q Q Q (by decide) Q (aY Q) Q Q (jT x)) ?_;iterate 3 (refine DA [0,1,2,3] TK Q ?_)
 refine VE a λG v a=>aV [0,1,2,3] Q (eW TK Q Q Q Q v) (DA [0,1,2,3] TK Q (BE a λE y a=>?_));refine aV [0,1,2,3] Q (bJ [0,1] ⟨Q,Q,λ_=>Q⟩ Q Q Q (by decide) Q (aY Q) Q Q (eE y)) ?_;refine aV [0,1,2,3] Q (bY (f:=Ab.As) (xs:=([C,E]:List Ab)) [.tmp 28,.tmp 34] TK Q Q aO Q (bV Q (aF (Ab.Ah _) (aF (Ab.Ah _) aZ))) Q (aS Ab.Aj) Q) (eC [0,1,2,3] a (iH ·) Q λi a=>aV [0,1,2,3] Q (bY (f:=Ab.As) (xs:=([i]:List Ab)) [.tmp 36] TK Q Q aO Q (bV Q (aF (Ab.Ah _) aZ)) Q (aS Ab.Aj) Q) ?_);refine DT ?_ (by kernel_rfl);refine GE a λl a=>?_;refine cG (f:=Ab.As) ([i]:List Ab) TK Q Q aO Q Q Q Q Q (λh=>absurd (show 3<2 from h) (by decide)) Q cB l Q Q ?_;exact aH 4 Q (aC [0,1,4,5,6,7] Q (aK 2 Q (GE a λm a=>bF Q m (aG 2 Q (uK [0,1,2,3] a Q (kB Q) Q)))));refine aM 2 Q (IE a λJ a A=>?_);rw[B _ A]at a;exact WX (bM 1 Q (oW [0,1,2,3] a Q (kB Q) Q));refine aC [0,4,5,6] Q (aK 5 Q (aW TK Q (GE a λn a=>bF Q n (VE a λH w a=>dN TK Q w (aI 1 Q (BE a λj z a=>bZ [0,1] (eE z) Q (bN Q (bY (f:=Ab.As) (xs:=([j]:List Ab)) [.tmp 47] TK Q Q aO Q (bV Q (aF (Ab.Ah _) aZ)) Q (aS Ab.Aj) Q) (GE a λo a=>?_))))))));refine cG (f:=Ab.As) ([j]:List Ab) TK Q Q aO Q Q Q Q Q (λh=>absurd (show 3<2 from h) (by decide)) Q cB o Q Q ?_;refine aH 3 Q ?_;refine nH 6 3 [4] Q Q Q Q Q (by simp) Q Q ?_;refine aK 2 Q (fA a (eT ·) Q λI a=>aH 3 Q (aC [4] Q (aM 1 Q ?_)));obtain rfl:=OJ a;exact⟨_,[0,1],.mk _ (.cons (.agg (TK.lay Q) Q Q Q Q) .nil) Q,by decide,(kB Q),Q,Q⟩
theorem oF{b:Ao}{g:Int}{i:Int}{r:Ab}(a:jA b g i=some r):Ret TP 144 [zT b.t b.p 1 b.Ai.length,.flat 64 6 (b.Ai.map Ap.enc)] (λ_=>false) [.mptr 0 0 0 0,.d (.int .i64 g),.d (.int .i64 i)] (.d (r.enc)) [zT b.t b.p 1 b.Ai.length,.flat 64 6 (b.Ai.map Ap.enc)]:=by
 refine cP (bE Q) func144 Q ntmps144 Q Q (λwX gX=>?_);unfold jA at a;refine aC [0,1,2] Q (aQ 1 Q (cS 2 Q Q aO Q (cL 2 [none,none,some 3] Q Q (aI 3 Q (gU (f:=Ab.As) 3 40 3 Q Q Q (aH 2 Q (aL a (λc=>([(7,.msl 3 3 0 c.length)])) (λc=>([(3,.flat 40 3 (c.map Ab.As))])) [7] [0,1,2,6] Q (λz a=>?_) (λc a=>?_))))))));refine bO 5 Q (bK a Q (λq a=>?_) (λq a=>?_))
 ·refine aK 5 Q (GE a λm a=>bF Q m (BE a λk u a=>bZ [0,1] (jT u) Q (bN Q (bY (f:=Ab.As) (xs:=([k]:List Ab)) [.tmp 15] TK Q Q aO Q (bV Q (aF (Ab.Ah _) aZ)) Q (aS Ab.Aj) Q) (GE a λn a=>?_))));refine cG (f:=Ab.As) ([k]:List Ab) TK Q Q aO Q Q Q Q Q (λh=>absurd (show 3<2 from h) (by decide)) Q cB n Q Q ?_;exact aG 2 Q (oW [0,1,2,3] a Q (kB Q) Q)
 exact aM 1 Q (oW [0,1,2,3] a Q (kB Q) Q);refine aC [0,1,2,6,7] Q (aL a (λe=>([(7,.msl 3 3 0 e.length)])) (λe=>([(3,.flat 40 3 (e.map Ab.As))])) [7] [6] Q (λA a=>?_) (λe a=>?_))
 ·refine aQ 4 Q (BE a λy v a=>bZ [0,1] (jC v) Q (aH 3 Q (bK a Q (λo a=>?_) (λo a=>?_))))
  ·refine aK 5 Q (BE a λw s a=>bZ [0,1] (jT s) Q (fA a (fE ·) Q λj a=>bN Q (bY (f:=Ab.As) (xs:=([j]:List Ab)) [.tmp 28] TK Q Q aO Q (bV Q (aF (Ab.Ah _) aZ)) Q (aS Ab.Aj) Q) (GE a λl a=>?_)));refine cG (f:=Ab.As) ([j]:List Ab) TK Q Q aO Q Q Q Q Q (λh=>absurd (show 3<2 from h) (by decide)) Q cB l Q Q ?_;exact aG 2 Q (oW [0,1,2,3] a Q (kB Q) Q)
  exact aM 1 Q (oW [0,1,2,3] a Q (kB Q) Q)
 refine aC [6,7] Q ?_;refine nH 7 3 [6] Q Q Q Q Q (by simp) Q Q ?_;refine aK 2 Q (fA a (eT ·) Q λx a=>aG 4 Q ?_);obtain rfl:=OJ a;exact⟨_,[0,1],.mk _ (.cons (.agg (TK.lay Q) Q Q Q Q) .nil) Q,by decide,(kB Q),Q,Q⟩
theorem kE{b:Ao}{c:Int}{e:Int}{r:Ab}(a:fF b c e=some r):Ret TP 146 [zT b.t b.p 1 b.Ai.length,.flat 64 6 (b.Ai.map Ap.enc)] (λ_=>false) [.mptr 0 0 0 0,.d (.int .i64 c),.d (.int .i64 e)] (.d (r.enc)) [zT b.t b.p 1 b.Ai.length,.flat 64 6 (b.Ai.map Ap.enc)]:=by
 refine cP (bE Q) func146 Q ntmps146 Q Q (λwX gX=>?_);unfold fF at a;refine aC [0,1,2] Q (aQ 1 Q (cS 2 Q Q aO Q (cL 2 [none,none,some 3] Q Q (aH 2 Q (bR follows ?_)))));iterate 6 (refine DA [0,1,2] TK Q ?_)
 refine VE a λk i a=>aV [0,1,2] Q (eW TK Q Q Q Q i) (DA [0,1,2] TK Q (GE a λf a=>aV [0,1,2] Q (tL Q Q Q Q f) ?_));iterate 2 (refine DA [0,1,2] TK Q ?_)
 refine BE a λl j a=>?_;refine aV [0,1,2] Q (bJ [0,1] ⟨Q,Q,λ_=>Q⟩ Q Q Q (by decide) Q (aY Q) Q Q (jC j)) ?_;refine GE a λg a=>aV [0,1,2] Q (tL Q Q Q Q g) (DA [0,1,2] TK Q (GE a λh a=>aV [0,1,2] Q (tL Q Q Q Q h) (eC [0,1,2] a (gC ·) Q λm a=>?_)));refine DT ?_ (by kernel_rfl);refine aH 3 Q (aC [6] Q (aM 1 Q ?_));obtain rfl:=OJ a;exact⟨_,[0,1],.mk _ (.cons (.agg (TK.lay Q) Q Q Q Q) .nil) Q,by decide,(kB Q),Q,Q⟩
theorem eq{b:Ao}{e:Int}{r:Ao}(a:kV b e=some r):Ret TP 68 [zT b.t b.p 1 b.Ai.length,.flat 64 6 (b.Ai.map Ap.enc)] (λj=>Nat.beq j 1) [.mptr 0 0 0 0,.d (.int .i64 e)] (.tup []) [zT b.t b.p 1 r.Ai.length,.flat 64 6 (r.Ai.map Ap.enc)]:=by
 refine cP (bE Q) func68 Q ntmps68 Q Q (λwX gX=>?_);unfold kV at a;refine aC [0,1] Q (aQ 3 Q (BE a λS w a=>bZ [0,1] (jC w) Q (aI 11 Q (VE a λP u a=>dN TK Q u (aI 3 Q (VE a λR v a=>dN TK Q v (aI 1 Q (BE a λT C a=>bZ [0,1] (eE C) Q (cS 2 Q Q aO Q (cL 2 [none,none,some 3] Q Q (aH 3 Q (aC [0,1,4,5] Q (aK 3 Q (BE a λL E a=>bZ [0,1] (cA E) Q (aI 2 Q (BE a λM F a=>bZ [0,1] (gO F) Q (aI 2 Q ?_)))))))))))))))));refine BE a λN G a=>bZ [0,1] (rR G) Q (bN Q (bY (f:=Ab.As) (xs:=([L,M,N]:List Ab)) [.tmp 27,.tmp 30,.tmp 33] TK Q Q aO Q (bV Q (aF (Ab.Ah _) (aF (Ab.Ah _) (aF (Ab.Ah _) aZ)))) Q (aS Ab.Aj) Q) (fA a (eT ·) Q λk a=>cS 3 Q Q aO Q (cL 3 [none,none,some 3] Q Q (aH 3 Q (iW (bR follows ?_))))));iterate 2 (refine DA [] TK Q ?_)
 refine BE a λO H a=>?_;refine aV [0,1] Q (bJ [0,1] ⟨Q,Q,λ_=>Q⟩ Q Q Q (by decide) Q (aY Q) Q Q (cA H)) ?_;iterate 3 (refine DA [] TK Q ?_)
 refine BE a λI x a=>?_;refine aV [0,1] Q (bJ [0,1] ⟨Q,Q,λ_=>Q⟩ Q Q Q (by decide) Q (aY Q) Q Q (oF x)) ?_;iterate 2 (refine DA [] TK Q ?_)
 refine BE a λJ y a=>?_;refine aV [0,1] Q (bJ [0,1] ⟨Q,Q,λ_=>Q⟩ Q Q Q (by decide) Q (aY Q) Q Q (gO y)) ?_;refine DA [2] TK Q (eC [] a (fE ·) Q λK a=>aV [] Q (bY (f:=Ab.As) (xs:=([O,I,J,K]:List Ab)) [.tmp 38,.tmp 42,.tmp 45,.tmp 47] TK Q Q aO Q (bV Q (aF (Ab.Ah _) (aF (Ab.Ah _) (aF (Ab.Ah _) (aF (Ab.Ah _) aZ))))) Q (aS Ab.Aj) Q) (eC [] a (eT ·) Q λc a=>zZ [4] _ (.mptr 4 0 0 0) Q (mD Q) Q (pZ Q Q aO Q Q) ?_));refine DT ?_ (by kernel_rfl);refine aH 3 Q (aC [0,1,6,7] Q (bR follows ?_));iterate 7 (refine DA [0,1,2,3,4] TK Q ?_)
 refine BE a λg z a=>?_;refine aV [0,1,2,3,4] Q (bJ [0,1] ⟨Q,Q,λ_=>Q⟩ Q Q Q (by decide) Q (aY Q) Q Q (kE z)) ?_;iterate 2 (refine DA [0,1,2,3,4] TK Q ?_)
 refine aV [0,1,2,3,4] Q (cK Q E7 jN Q Q Q Q) (aV [0,1,2,3,4] Q (nD [.tmp 60] TK Q Q jN Q Q Q Q Q) ?_);refine qc 0 50 ?_ ?_ Q (by kernel_rfl) (by kernel_rfl) (by kernel_rfl);refine GE a λl a=>cG (f:=Ap.enc) ([(⟨(2:Int),g.var,(12:Int),k⟩:Ap)]:List Ap) TK Q Q jN Q Q Q Q Q (λ_=>Q) Q cB l Q Q (aH 5 Q (aC [0,1,7] Q (dP follows ?_)));iterate 7 (refine DA [0,1,2,3,4] TK Q ?_)
 refine BE a λh A a=>?_;refine aV [0,1,2,3,4] Q (bJ [0,1] ⟨Q,Q,λ_=>Q⟩ Q Q Q (by decide) Q (aY Q) Q Q (kE A)) ?_;iterate 2 (refine DA [0,1,2,3,4] TK Q ?_)
 refine aV [0,1,2,3,4] Q (cK Q E7 jN Q Q Q Q) (aV [0,1,2,3,4] Q (nD [.tmp 75] TK Q Q jN Q Q Q Q Q) ?_);refine qc 0 65 ?_ ?_ Q (by kernel_rfl) (by kernel_rfl) (by kernel_rfl);refine GE a λm a=>cG (f:=Ap.enc) ([(⟨(2:Int),h.var,(4:Int),c⟩:Ap)]:List Ap) TK Q Q jN Q Q Q Q Q (λ_=>Q) Q cB m Q Q (aG 4 Q ?_);obtain rfl:=OJ a;exact⟨_,[0,1],res Q,by decide,(kB Q),Q,Q⟩;refine GE a λn a=>cG (f:=Ap.enc) ([(⟨(2:Int),h.var,(4:Int),c⟩:Ap)]:List Ap) TK Q Q jN Q Q Q Q Q (λ_=>Q) Q cB n Q Q (aG 5 Q ?_);obtain rfl:=OJ a;exact⟨_,[0,1],res Q,by decide,(kB Q),Q,Q⟩;refine GE a λo a=>cG (f:=Ap.enc) ([(⟨(2:Int),g.var,(12:Int),k⟩:Ap)]:List Ap) TK Q Q jN Q Q Q Q Q (λ_=>Q) Q cB o Q Q (aH 6 Q (aC [0,1,7] Q (dP follows ?_)));iterate 7 (refine DA [0,1,2,3,4] TK Q ?_)
 refine BE a λi B a=>?_;refine aV [0,1,2,3,4] Q (bJ [0,1] ⟨Q,Q,λ_=>Q⟩ Q Q Q (by decide) Q (aY Q) Q Q (kE B)) ?_;iterate 2 (refine DA [0,1,2,3,4] TK Q ?_)
 refine aV [0,1,2,3,4] Q (cK Q E7 jN Q Q Q Q) (aV [0,1,2,3,4] Q (nD [.tmp 75] TK Q Q jN Q Q Q Q Q) ?_);refine qc 0 65 ?_ ?_ Q (by kernel_rfl) (by kernel_rfl) (by kernel_rfl);refine GE a λq a=>cG (f:=Ap.enc) ([(⟨(2:Int),i.var,(4:Int),c⟩:Ap)]:List Ap) TK Q Q jN Q Q Q Q Q (λ_=>Q) Q cB q Q Q (aG 4 Q ?_);obtain rfl:=OJ a;exact⟨_,[0,1],res Q,by decide,(kB Q),Q,Q⟩;refine GE a λs a=>cG (f:=Ap.enc) ([(⟨(2:Int),i.var,(4:Int),c⟩:Ap)]:List Ap) TK Q Q jN Q Q Q Q Q (λ_=>Q) Q cB s Q Q (aG 5 Q ?_);obtain rfl:=OJ a;exact⟨_,[0,1],res Q,by decide,(kB Q),Q,Q⟩
theorem cT{b:Ao}{c:Int}{e:Int}{r:Ab}(a:bW b c e=some r):Ret TP 74 [zT b.t b.p 1 b.Ai.length,.flat 64 6 (b.Ai.map Ap.enc)] (λ_=>false) [.mptr 0 0 0 0,.d (.int .i64 c),.d (.int .i64 e)] (.d (r.enc)) [zT b.t b.p 1 b.Ai.length,.flat 64 6 (b.Ai.map Ap.enc)]:=by
 refine cP (bE Q) func74 Q ntmps74 Q Q (λwX gX=>?_);unfold bW at a;refine aC [0,1,2] Q (aQ 1 Q (cS 2 Q Q aO Q (cL 2 [none,none,some 3] Q Q (aI 9 Q (GE a λf a=>bF Q f (GE a λg a=>bF Q g (aI 1 Q (GE a λh a=>bF Q h (fA a (gC ·) Q λi a=>aG 4 Q ?_)))))))));obtain rfl:=OJ a;exact⟨_,[0,1],.mk _ (.cons (.agg (TK.lay Q) Q Q Q Q) .nil) Q,by decide,(kB Q),Q,Q⟩
theorem oJ{b:Ao}{q:Int}{r:Ab}(a:gW b q=some r):Ret TP 147 [zT b.t b.p 1 b.Ai.length,.flat 64 6 (b.Ai.map Ap.enc)] (λ_=>false) [.mptr 0 0 0 0,.d (.int .i64 q)] (.d (r.enc)) [zT b.t b.p 1 b.Ai.length,.flat 64 6 (b.Ai.map Ap.enc)]:=by
 refine cP (bE Q) func147 Q ntmps147 Q Q (λwX gX=>?_);unfold gW at a;refine aC [0,1] Q (aQ 1 Q (cS 2 Q Q aO Q (cL 2 [none,none,some 3] Q Q (aI 9 Q (VE a λW L a=>dN TK Q L (aI 1 Q (cS 3 Q Q iM Q (cL 3 [none,none,none,some 3,some 2,some 1,none,none,some 3,some 2,some 1,some 2,some 1,some 2] Q Q (aI 4 Q (gU (f:=Ab.As) 4 40 3 Q Q Q (aH 2 Q (aC [0,4,5,6] Q (aL a (λg=>([(6,.msl 4 3 0 g.length)])) (λg=>([(4,.flat 40 3 (g.map Ab.As))])) [6] [0,4,5] Q (λa9 a=>?_) (λg a=>?_))))))))))))));refine bO 5 Q (aX a (λ(o,l)=>([(6,.msl 4 3 0 l.length),(7,.d (.int .i64 o))])) (λ(o,l)=>([(4,.flat 40 3 (l.map Ab.As))])) [6,7] [0,4,5] [0,1,2,3,4] (kB Q) Q (λs b2 a V=>?_));obtain⟨o,l⟩:=s;refine aC [0,4,5,6,7] Q (aQ 5 Q (aW TK Q (aH 3 Q (bK a Q (λI a=>?_) (λI a=>?_)))));refine aK 10 Q (VE a λX M a=>dN TK Q M (aI 1 Q (BE a λu R a=>bZ [0,1] (eE R) Q (bN Q (bY (f:=Ab.As) (xs:=([u]:List Ab)) [.tmp 33] TK Q Q aO Q (bV Q (aF (Ab.Ah _) aZ)) Q (aS Ab.Aj) Q) (GE a λx a=>?_)))));refine cG (f:=Ab.As) ([u]:List Ab) TK Q Q aO Q Q Q Q Q (λh=>absurd (show 4<2 from h) (by decide)) Q cB x Q Q ?_;exact aH 4 Q (aC [0,4,5,6,7] Q (aK 2 Q (GE a λy a=>bF Q y (aG 2 Q (uK [0,1,2,3,4] a Q (kB Q) Q)))));refine aM 2 Q (IE a λa4 a c=>?_);rw[V _ c]at a;exact WX (bM 1 Q (oW [0,1,2,3,4] a Q (kB Q) Q));refine aC [0,4,5,6] Q (aL a (λe=>([(6,.msl 4 3 0 e.length)])) (λe=>([(4,.flat 40 3 (e.map Ab.As))])) [6] [0,4,5] Q (λa7 a=>?_) (λe a=>?_))
 ·refine bO 5 Q (aX a (λ(m,i)=>([(6,.msl 4 3 0 i.length),(8,.d (.int .i64 m))])) (λ(m,i)=>([(4,.flat 40 3 (i.map Ab.As))])) [6,8] [0,4,5] [0,1,2,3,4] (kB Q) Q (λs a8 a T=>?_));obtain⟨m,i⟩:=s;refine aC [0,4,5,6,8] Q (aQ 5 Q (aW TK Q (aH 3 Q (bK a Q (λJ a=>?_) (λJ a=>?_)))));refine aK 10 Q (VE a λY N a=>dN TK Q N (aI 1 Q (BE a λv S a=>bZ [0,1] (eE S) Q (bN Q (bY (f:=Ab.As) (xs:=([v]:List Ab)) [.tmp 50] TK Q Q aO Q (bV Q (aF (Ab.Ah _) aZ)) Q (aS Ab.Aj) Q) (GE a λz a=>?_)))));refine cG (f:=Ab.As) ([v]:List Ab) TK Q Q aO Q Q Q Q Q (λh=>absurd (show 4<2 from h) (by decide)) Q cB z Q Q ?_;exact aH 4 Q (aC [0,4,5,6,8] Q (aK 2 Q (GE a λA a=>bF Q A (aG 2 Q (uK [0,1,2,3,4] a Q (kB Q) Q)))));refine aM 2 Q (IE a λa5 a c=>?_);rw[T _ c]at a;exact WX (bM 1 Q (oW [0,1,2,3,4] a Q (kB Q) Q))
 refine aC [0,4,5,6] Q (aK 2 Q (fA a (oK ·) Q λa1 a=>aH 3 Q (aL a (λj=>([(6,.msl 4 3 0 j.length)])) (λj=>([(4,.flat 40 3 (j.map Ab.As))])) [6] [4] Q (λb0 a=>?_) (λj a=>?_))))
 ·refine bO 5 Q (aX a (λ(n,k)=>([(6,.msl 4 3 0 k.length),(10,.d (.int .i64 n))])) (λ(n,k)=>([(4,.flat 40 3 (k.map Ab.As))])) [6,10] [0,4,9] [0,1,2,3,4] (kB Q) Q (λs b1 a U=>?_));obtain⟨n,k⟩:=s;refine aC [0,4,6,9,10] Q (aQ 4 Q (aW TK Q (aH 3 Q (bK a Q (λK a=>?_) (λK a=>?_)))));refine cH 4 Q (dP follows ?_);iterate 12 (refine DA [0,1,2,3,4] TK Q ?_)
  refine VE a λZ O a=>aV [0,1,2,3,4] Q (eW TK Q Q Q Q O) ?_;iterate 2 (refine DA [0,1,2,3,4] TK Q ?_)
  refine gI [0,1,2,3,4] a (vG ·) Q λa2 a=>GE a λB a=>aV [0,1,2,3,4] Q (tL Q Q Q Q B) (GE a λC a=>aV [0,1,2,3,4] Q (tL Q Q Q Q C) ?_);iterate 2 (refine DA [0,1,2,3,4] TK Q ?_)
  refine VE a λa0 P a=>aV [0,1,2,3,4] Q (eW TK Q Q Q Q P) ?_;iterate 2 (refine DA [0,1,2,3,4] TK Q ?_)
  refine GE a λE a=>aV [0,1,2,3,4] Q (tL Q Q Q Q E) (GE a λF a=>aV [0,1,2,3,4] Q (tL Q Q Q Q F) (eC [0,1,2,3,4] a (gC ·) Q λw a=>aV [0,1,2,3,4] Q (bY (f:=Ab.As) (xs:=([w]:List Ab)) [.tmp 86] TK Q Q aO Q (bV Q (aF (Ab.Ah _) aZ)) Q (aS Ab.Aj) Q) ?_));refine DT ?_ (by kernel_rfl);refine GE a λG a=>?_;refine cG (f:=Ab.As) ([w]:List Ab) TK Q Q aO Q Q Q Q Q (λh=>absurd (show 4<2 from h) (by decide)) Q cB G Q Q ?_;exact aH 4 Q (aC [0,4,6,9,10] Q (aK 2 Q (GE a λH a=>bF Q H (aG 2 Q (uK [0,1,2,3,4] a Q (kB Q) Q)))));refine aM 2 Q (IE a λa6 a c=>?_);rw[U _ c]at a;exact WX (bM 1 Q (oW [0,1,2,3,4] a Q (kB Q) Q))
 refine aC [4,6] Q ?_;refine nH 6 4 [4] Q Q Q Q Q (by simp) Q Q ?_;refine aK 2 Q (fA a (eT ·) Q λa3 a=>aH 3 Q (aC [4] Q (aM 1 Q ?_)));obtain rfl:=OJ a;exact⟨_,[0,1],.mk _ (.cons (.agg (TK.lay Q) Q Q Q Q) .nil) Q,by decide,(kB Q),Q,Q⟩
theorem eU{b:Ao}{c:Ab}{e:Ab}{r:Ao}(a:dY b c e=some r):Ret TP 71 [zT b.t b.p 1 b.Ai.length,.flat 64 6 (b.Ai.map Ap.enc)] (λj=>Nat.beq j 1) [.mptr 0 0 0 0,.d (c.enc),.d (e.enc)] (.tup []) [zT b.t b.p 1 r.Ai.length,.flat 64 6 (r.Ai.map Ap.enc)]:=by
 refine cP (bE Q) func71 Q ntmps71 Q Q (λwX gX=>?_);unfold dY at a;refine aC [0,1,2] Q (aQ 1 Q (cY 2 Q Q Q (cY 3 Q Q Q (aH 2 Q (dP follows ?_)))));iterate 8 (refine DA [0,1,2,3] TK Q ?_)
 refine aV [0,1,2,3] Q (cK Q E7 jN Q Q Q Q) (aV [0,1,2,3] Q (nD [.tmp 14] TK Q Q jN Q Q Q Q Q) ?_);refine qc 0 6 ?_ ?_ Q (by kernel_rfl) (by kernel_rfl) (by kernel_rfl);refine GE a λg a=>cG (f:=Ap.enc) ([(⟨(1:Int),c.var,(0:Int),e⟩:Ap)]:List Ap) TK Q Q jN Q Q Q Q Q (λ_=>Q) Q cB g Q Q (aG 4 Q ?_);obtain rfl:=OJ a;exact⟨_,[0,1],res Q,by decide,(kB Q),Q,Q⟩;refine GE a λh a=>cG (f:=Ap.enc) ([(⟨(1:Int),c.var,(0:Int),e⟩:Ap)]:List Ap) TK Q Q jN Q Q Q Q Q (λ_=>Q) Q cB h Q Q (aG 5 Q ?_);obtain rfl:=OJ a;exact⟨_,[0,1],res Q,by decide,(kB Q),Q,Q⟩
theorem pC{a:Ao}{c:Int}{r:Ab}(b:iI a c=some r):Ret TP 148 [zT a.t a.p 1 a.Ai.length,.flat 64 6 (a.Ai.map Ap.enc)] (λ_=>false) [.mptr 0 0 0 0,.d (.int .i64 c)] (.d (r.enc)) [zT a.t a.p 1 a.Ai.length,.flat 64 6 (a.Ai.map Ap.enc)]:=by
 refine cP (bE Q) func148 Q ntmps148 Q Q (λwX gX=>?_);unfold iI at b;refine aC [0,1] Q (aQ 1 Q (cS 2 Q Q aO Q (cL 2 [none,none,some 3] Q Q (aI 5 Q (BE b λh e b=>bZ [0,1] (gO e) Q (aI 2 Q (BE b λi g b=>bZ [0,1] (rR g) Q (bN Q (bY (f:=Ab.As) (xs:=([h,i]:List Ab)) [.tmp 7,.tmp 10] TK Q Q aO Q (bV Q (aF (Ab.Ah _) (aF (Ab.Ah _) aZ))) Q (aS Ab.Aj) Q) (fA b (eT ·) Q λj b=>aG 4 Q ?_)))))))));obtain rfl:=OJ b;exact⟨_,[0,1],.mk _ (.cons (.agg (TK.lay Q) Q Q Q Q) .nil) Q,by decide,(kB Q),Q,Q⟩
theorem uM{b:Ao}{g:Int}{r:Ab}(a:kM b g=some r):Ret TP 149 [zT b.t b.p 1 b.Ai.length,.flat 64 6 (b.Ai.map Ap.enc)] (λ_=>false) [.mptr 0 0 0 0,.d (.int .i64 g)] (.d (r.enc)) [zT b.t b.p 1 b.Ai.length,.flat 64 6 (b.Ai.map Ap.enc)]:=by
 refine cP (bE Q) func149 Q ntmps149 Q Q (λwX gX=>?_);unfold kM at a;refine aC [0,1] Q (aQ 1 Q (cS 2 Q Q aO Q (cL 2 [none,none,some 3] Q Q (aI 3 Q (gU (f:=Ab.As) 3 40 3 Q Q Q (aH 2 Q (aL a (λc=>([(5,.msl 3 3 0 c.length)])) (λc=>([(3,.flat 40 3 (c.map Ab.As))])) [5] [4] Q (λF a=>?_) (λc a=>?_))))))));refine bO 5 Q (aX a (λ(k6,e)=>([(5,.msl 3 3 0 e.length),(6,.d (.int .i64 k6))])) (λ(k6,e)=>([(3,.flat 40 3 (e.map Ab.As))])) [5,6] [0,1,4] [0,1,2,3] (kB Q) Q (λs G a w=>?_));obtain⟨k6,e⟩:=s;refine aC [0,1,4,5,6] Q (aQ 5 Q (BE a λC u a=>bZ [0,1] (jC u) Q (aH 3 Q (bK a Q (λl a=>?_) (λl a=>?_)))));refine cH 4 Q (dP follows ?_);iterate 4 (refine DA [0,1,2,3] TK Q ?_)
 refine BE a λx o a=>?_;refine aV [0,1,2,3] Q (bJ [0,1] ⟨Q,Q,λ_=>Q⟩ Q Q Q (by decide) Q (aY Q) Q Q (oF o)) ?_;iterate 7 (refine DA [0,1,2,3] TK Q ?_)
 refine VE a λz m a=>aV [0,1,2,3] Q (eW TK Q Q Q Q m) ?_;iterate 3 (refine DA [0,1,2,3] TK Q ?_)
 refine VE a λA n a=>aV [0,1,2,3] Q (eW TK Q Q Q Q n) (DA [0,1,2,3] TK Q (BE a λy q a=>?_));refine aV [0,1,2,3] Q (bJ [0,1] ⟨Q,Q,λ_=>Q⟩ Q Q Q (by decide) Q (aY Q) Q Q (eE q)) ?_;refine aV [0,1,2,3] Q (bY (f:=Ab.As) (xs:=([x,y]:List Ab)) [.tmp 18,.tmp 32] TK Q Q aO Q (bV Q (aF (Ab.Ah _) (aF (Ab.Ah _) aZ))) Q (aS Ab.Aj) Q) (eC [0,1,2,3] a (eT ·) Q λi a=>aV [0,1,2,3] Q (bY (f:=Ab.As) (xs:=([i]:List Ab)) [.tmp 34] TK Q Q aO Q (bV Q (aF (Ab.Ah _) aZ)) Q (aS Ab.Aj) Q) ?_);refine DT ?_ (by kernel_rfl);refine GE a λj a=>?_;refine cG (f:=Ab.As) ([i]:List Ab) TK Q Q aO Q Q Q Q Q (λh=>absurd (show 3<2 from h) (by decide)) Q cB j Q Q ?_;exact aH 4 Q (aC [0,1,4,5,6] Q (aK 2 Q (GE a λk a=>bF Q k (aG 2 Q (uK [0,1,2,3] a Q (kB Q) Q)))));refine aM 2 Q (IE a λE a v=>?_);rw[w _ v]at a;exact WX (bM 1 Q (oW [0,1,2,3] a Q (kB Q) Q));refine aC [4,5] Q ?_;refine nH 5 3 [4] Q Q Q Q Q (by simp) Q Q ?_;refine aK 2 Q (fA a (iH ·) Q λB a=>aG 4 Q ?_);obtain rfl:=OJ a;exact⟨_,[0,1],.mk _ (.cons (.agg (TK.lay Q) Q Q Q Q) .nil) Q,by decide,(kB Q),Q,Q⟩
theorem zX{b:Ao}{h:Int}{r:Ao}(a:jU b h=some r):Ret TP 69 [zT b.t b.p 1 b.Ai.length,.flat 64 6 (b.Ai.map Ap.enc)] (λj=>Nat.beq j 1) [.mptr 0 0 0 0,.d (.int .i64 h)] (.tup []) [zT b.t b.p 1 r.Ai.length,.flat 64 6 (r.Ai.map Ap.enc)]:=by
 refine cP (bE Q) func69 Q ntmps69 Q Q (λwX gX=>?_);unfold jU at a;refine aC [0,1] Q (aQ 7 Q (VE a λi6 o a=>dN TK Q o (aI 1 Q (cS 2 Q Q iM Q (cL 2 [none,none,none,some 3,some 2,some 1,none,none,some 3,some 2,some 1,some 2,some 1,some 2] Q Q (aI 6 Q (BE a λk3 N a=>bZ [0,1] (jC N) Q (aI 6 Q (BE a λg S a=>bZ [0,1] (gO S) Q (cS 3 Q Q aO Q (cL 3 [none,none,some 3] Q Q (aI 6 Q (BE a λi Y a=>bZ [0,1] (gO Y) Q (cS 4 Q Q aO Q (cL 4 [none,none,some 3] Q Q (aH 3 Q (aC [0,1,4,5,6,7] Q (aK 4 Q (VE a λi7 q a=>?_)))))))))))))))))));refine dN TK Q q (aI 1 Q (BE a λg8 b1 a=>bZ [0,1] (eE b1) Q (cS 5 Q Q aO Q (cL 5 [none,none,some 3] Q Q (aH 3 Q (aC [0,1,4,5,6,7,8] Q (aK 5 Q (VE a λi8 u a=>dN TK Q u (aI 1 Q (BE a λh4 b6 a=>bZ [0,1] (eE b6) Q (cS 6 Q Q aO Q (cL 6 [none,none,some 3] Q Q (aH 3 Q (aC [0,1,4,5,6,7,8,9] Q (bR follows ?_)))))))))))))));iterate 3 (refine DA [0,1,2,3,4,5,6] TK Q ?_)
 refine BE a λm2 c3 a=>?_;refine aV [0,1,2,3,4,5,6] Q (bJ [0,1] ⟨Q,Q,λ_=>Q⟩ Q Q Q (by decide) Q (aY Q) Q Q (cT c3)) ?_;iterate 2 (refine DA [0,1,2,3,4,5,6] TK Q ?_)
 refine BE a λd1 x a=>?_;refine aV [0,1,2,3,4,5,6] Q (bJ [0,1] ⟨Q,Q,λ_=>Q⟩ Q Q Q (by decide) Q (aY Q) Q Q (cA x)) ?_;refine DA [0,1,2,3,4,5,6] TK Q (eC [0,1,2,3,4,5,6] a (fE ·) Q λd6 a=>?_);iterate 2 (refine DA [0,1,2,3,4,5,6] TK Q ?_)
 refine BE a λj8 J a=>?_;refine aV [0,1,2,3,4,5,6] Q (bJ [0,1] ⟨Q,Q,λ_=>Q⟩ Q Q Q (by decide) Q (aY Q) Q Q (oJ J)) ?_;refine eC [0,1,2,3,4,5,6] a (fE ·) Q λd7 a=>aV [0,1,2,3,4,5,6] Q (bY (f:=Ab.As) (xs:=([d1,d6,d7]:List Ab)) [.tmp 51,.tmp 53,.tmp 57] TK Q Q aO Q (bV Q (aF (Ab.Ah _) (aF (Ab.Ah _) (aF (Ab.Ah _) aZ)))) Q (aS Ab.Aj) Q) (eC [0,1,2,3,4,5,6] a (eT ·) Q λj9 a=>?_);refine DT ?_ (by kernel_rfl);refine BE a λk1 K a=>?_;refine dF [0,1] (λj=>Nat.beq j 1) Q Q Q (by decide) Q Q Q Q (eU K) Q Q Q ?_;refine aH 2 Q (aC [0,1,4,5,6,7,8,9] Q (iW (bR follows (DA [3] TK Q (eC [] a (fE ·) Q λd8 a=>?_)))));iterate 2 (refine DA [] TK Q ?_)
 refine BE a λk2 L a=>?_;refine aV [0,1] Q (bJ [0,1] ⟨Q,Q,λ_=>Q⟩ Q Q Q (by decide) Q (aY Q) Q Q (pC L)) ?_;refine eC [] a (fE ·) Q λd9 a=>?_;iterate 3 (refine DA [] TK Q ?_)
 refine BE a λe0 M a=>?_;refine aV [0,1] Q (bJ [0,1] ⟨Q,Q,λ_=>Q⟩ Q Q Q (by decide) Q (aY Q) Q Q (oF M)) ?_;refine DA [6] TK Q (aV [] Q (bY (f:=Ab.As) (xs:=([e0,h4]:List Ab)) [.tmp 70,.tmp 71] TK Q Q aO Q (bV Q (aF (Ab.Ah _) (aF (Ab.Ah _) aZ))) Q (aS Ab.Aj) Q) (eC [] a (eT ·) Q λk4 a=>eC [] a (fE ·) Q λe1 a=>?_));iterate 2 (refine DA [] TK Q ?_)
 refine BE a λk5 O a=>?_;refine aV [0,1] Q (bJ [0,1] ⟨Q,Q,λ_=>Q⟩ Q Q Q (by decide) Q (aY Q) Q Q (kE O)) ?_;refine eC [] a (fE ·) Q λe2 a=>aV [] Q (bY (f:=Ab.As) (xs:=([d9,e1,e2]:List Ab)) [.tmp 66,.tmp 74,.tmp 78] TK Q Q aO Q (bV Q (aF (Ab.Ah _) (aF (Ab.Ah _) (aF (Ab.Ah _) aZ)))) Q (aS Ab.Aj) Q) (eC [] a (eT ·) Q λe3 a=>aV [] Q (bY (f:=Ab.As) (xs:=([d8,e3]:List Ab)) [.tmp 62,.tmp 80] TK Q Q aO Q (bV Q (aF (Ab.Ah _) (aF (Ab.Ah _) aZ))) Q (aS Ab.Aj) Q) (eC [] a (iH ·) Q λe4 a=>zZ [7] _ (.mptr 7 0 0 0) Q (mD Q) Q (pZ Q Q aO Q Q) ?_));refine DT ?_ (by kernel_rfl);refine aH 3 Q (aC [0,1,4,5,6,7,8,10] Q (bR follows ?_));iterate 3 (refine DA [0,1,2,3,4,5,6,7] TK Q ?_)
 refine BE a λk6 P a=>?_;refine aV [0,1,2,3,4,5,6,7] Q (bJ [0,1] ⟨Q,Q,λ_=>Q⟩ Q Q Q (by decide) Q (aY Q) Q Q (cT P)) ?_;iterate 2 (refine DA [0,1,2,3,4,5,6,7] TK Q ?_)
 refine BE a λe5 R a=>?_;refine aV [0,1,2,3,4,5,6,7] Q (bJ [0,1] ⟨Q,Q,λ_=>Q⟩ Q Q Q (by decide) Q (aY Q) Q Q (cA R)) ?_;refine DA [0,1,2,3,4,5,6,7] TK Q (eC [0,1,2,3,4,5,6,7] a (fE ·) Q λe6 a=>aV [0,1,2,3,4,5,6,7] Q (bY (f:=Ab.As) (xs:=([e5,e6]:List Ab)) [.tmp 89,.tmp 91] TK Q Q aO Q (bV Q (aF (Ab.Ah _) (aF (Ab.Ah _) aZ))) Q (aS Ab.Aj) Q) (eC [0,1,2,3,4,5,6,7] a (eT ·) Q λe7 a=>?_));iterate 2 (refine DA [0,1,2,3,4,5,6,7] TK Q ?_)
 refine BE a λe8 T a=>?_;refine aV [0,1,2,3,4,5,6,7] Q (bJ [0,1] ⟨Q,Q,λ_=>Q⟩ Q Q Q (by decide) Q (aY Q) Q Q (cA T)) ?_;iterate 2 (refine DA [0,1,2,3,4,5,6,7] TK Q ?_)
 refine BE a λk7 U a=>?_;refine aV [0,1,2,3,4,5,6,7] Q (bJ [0,1] ⟨Q,Q,λ_=>Q⟩ Q Q Q (by decide) Q (aY Q) Q Q (uM U)) ?_;refine eC [0,1,2,3,4,5,6,7] a (fE ·) Q λe9 a=>aV [0,1,2,3,4,5,6,7] Q (bY (f:=Ab.As) (xs:=([e8,e9]:List Ab)) [.tmp 96,.tmp 100] TK Q Q aO Q (bV Q (aF (Ab.Ah _) (aF (Ab.Ah _) aZ))) Q (aS Ab.Aj) Q) (eC [0,1,2,3,4,5,6,7] a (eT ·) Q λf0 a=>?_);iterate 2 (refine DA [0,1,2,3,4,5,6,7] TK Q ?_)
 refine BE a λf1 V a=>?_;refine aV [0,1,2,3,4,5,6,7] Q (bJ [0,1] ⟨Q,Q,λ_=>Q⟩ Q Q Q (by decide) Q (aY Q) Q Q (cA V)) ?_;refine DA [0,1,2,3,4,5,6,7] TK Q (aV [0,1,2,3,4,5,6,7] Q (bY (f:=Ab.As) (xs:=([f1,e4]:List Ab)) [.tmp 105,.tmp 106] TK Q Q aO Q (bV Q (aF (Ab.Ah _) (aF (Ab.Ah _) aZ))) Q (aS Ab.Aj) Q) (eC [0,1,2,3,4,5,6,7] a (eT ·) Q λf2 a=>aV [0,1,2,3,4,5,6,7] Q (bY (f:=Ab.As) (xs:=([e7,f0,f2]:List Ab)) [.tmp 93,.tmp 102,.tmp 108] TK Q Q aO Q (bV Q (aF (Ab.Ah _) (aF (Ab.Ah _) (aF (Ab.Ah _) aZ)))) Q (aS Ab.Aj) Q) (eC [0,1,2,3,4,5,6,7] a (iH ·) Q λk8 a=>?_)));refine DT ?_ (by kernel_rfl);refine BE a λk9 W a=>?_;refine dF [0,1] (λj=>Nat.beq j 1) Q Q Q (by decide) Q Q Q Q (eU W) Q Q Q ?_;refine aH 2 Q (aC [0,1,4,5,6,7,8] Q (iW (bR follows (DA [4] TK Q (DA [3] TK Q ?_)))));iterate 2 (refine DA [] TK Q ?_)
 refine DA [2] TK Q (BE a λf3 X a=>?_);refine aV [0,1] Q (bJ [0,1] ⟨Q,Q,λ_=>Q⟩ Q Q Q (by decide) Q (aY Q) Q Q (eE X)) ?_;refine aV [] Q (bY (f:=Ab.As) (xs:=([i,g,f3]:List Ab)) [.tmp 112,.tmp 113,.tmp 117] TK Q Q aO Q (bV Q (aF (Ab.Ah _) (aF (Ab.Ah _) (aF (Ab.Ah _) aZ)))) Q (aS Ab.Aj) Q) (eC [] a (eT ·) Q λl0 a=>zZ [8] _ (.mptr 8 0 0 0) Q (mD Q) Q (pZ Q Q aO Q Q) ?_);refine DT ?_ (by kernel_rfl);refine aH 3 Q (aC [0,1,4,5,6,7,8,11] Q (bR follows ?_));iterate 3 (refine DA [0,1,2,3,4,5,6,7,8] TK Q ?_)
 refine BE a λl1 Z a=>?_;refine aV [0,1,2,3,4,5,6,7,8] Q (bJ [0,1] ⟨Q,Q,λ_=>Q⟩ Q Q Q (by decide) Q (aY Q) Q Q (cT Z)) ?_;iterate 2 (refine DA [0,1,2,3,4,5,6,7,8] TK Q ?_)
 refine BE a λf4 a0 a=>?_;refine aV [0,1,2,3,4,5,6,7,8] Q (bJ [0,1] ⟨Q,Q,λ_=>Q⟩ Q Q Q (by decide) Q (aY Q) Q Q (cA a0)) ?_;iterate 4 (refine DA [0,1,2,3,4,5,6,7,8] TK Q ?_)
 refine BE a λl2 a1 a=>?_;refine aV [0,1,2,3,4,5,6,7,8] Q (bJ [0,1] ⟨Q,Q,λ_=>Q⟩ Q Q Q (by decide) Q (aY Q) Q Q (oJ a1)) ?_;refine eC [0,1,2,3,4,5,6,7,8] a (fE ·) Q λf5 a=>aV [0,1,2,3,4,5,6,7,8] Q (bY (f:=Ab.As) (xs:=([i,f5]:List Ab)) [.tmp 128,.tmp 132] TK Q Q aO Q (bV Q (aF (Ab.Ah _) (aF (Ab.Ah _) aZ))) Q (aS Ab.Aj) Q) (eC [0,1,2,3,4,5,6,7,8] a (iH ·) Q λf6 a=>DA [0,1,2,3,4,5,6,7,8] TK Q (eC [0,1,2,3,4,5,6,7,8] a (fE ·) Q λf7 a=>aV [0,1,2,3,4,5,6,7,8] Q (bY (f:=Ab.As) (xs:=([f4,g8,f6,f7]:List Ab)) [.tmp 126,.tmp 127,.tmp 134,.tmp 136] TK Q Q aO Q (bV Q (aF (Ab.Ah _) (aF (Ab.Ah _) (aF (Ab.Ah _) (aF (Ab.Ah _) aZ))))) Q (aS Ab.Aj) Q) (eC [0,1,2,3,4,5,6,7,8] a (eT ·) Q λf8 a=>?_)));iterate 2 (refine DA [0,1,2,3,4,5,6,7,8] TK Q ?_)
 refine BE a λf9 a2 a=>?_;refine aV [0,1,2,3,4,5,6,7,8] Q (bJ [0,1] ⟨Q,Q,λ_=>Q⟩ Q Q Q (by decide) Q (aY Q) Q Q (cA a2)) ?_;iterate 3 (refine DA [0,1,2,3,4,5,6,7,8] TK Q ?_)
 refine BE a λg0 a3 a=>?_;refine aV [0,1,2,3,4,5,6,7,8] Q (bJ [0,1] ⟨Q,Q,λ_=>Q⟩ Q Q Q (by decide) Q (aY Q) Q Q (pC a3)) ?_;refine aV [0,1,2,3,4,5,6,7,8] Q (bY (f:=Ab.As) (xs:=([f9,g,g0]:List Ab)) [.tmp 141,.tmp 142,.tmp 145] TK Q Q aO Q (bV Q (aF (Ab.Ah _) (aF (Ab.Ah _) (aF (Ab.Ah _) aZ)))) Q (aS Ab.Aj) Q) (eC [0,1,2,3,4,5,6,7,8] a (eT ·) Q λg1 a=>?_);iterate 2 (refine DA [0,1,2,3,4,5,6,7,8] TK Q ?_)
 refine BE a λg2 a4 a=>?_;refine aV [0,1,2,3,4,5,6,7,8] Q (bJ [0,1] ⟨Q,Q,λ_=>Q⟩ Q Q Q (by decide) Q (aY Q) Q Q (cA a4)) ?_;iterate 2 (refine DA [0,1,2,3,4,5,6,7,8] TK Q ?_)
 refine BE a λg3 a5 a=>?_;refine aV [0,1,2,3,4,5,6,7,8] Q (bJ [0,1] ⟨Q,Q,λ_=>Q⟩ Q Q Q (by decide) Q (aY Q) Q Q (uM a5)) ?_;iterate 2 (refine DA [0,1,2,3,4,5,6,7,8] TK Q ?_)
 refine BE a λl3 a6 a=>?_;refine aV [0,1,2,3,4,5,6,7,8] Q (bJ [0,1] ⟨Q,Q,λ_=>Q⟩ Q Q Q (by decide) Q (aY Q) Q Q (kE a6)) ?_;refine eC [0,1,2,3,4,5,6,7,8] a (fE ·) Q λg4 a=>aV [0,1,2,3,4,5,6,7,8] Q (bY (f:=Ab.As) (xs:=([g2,g3,g4]:List Ab)) [.tmp 150,.tmp 153,.tmp 157] TK Q Q aO Q (bV Q (aF (Ab.Ah _) (aF (Ab.Ah _) (aF (Ab.Ah _) aZ)))) Q (aS Ab.Aj) Q) (eC [0,1,2,3,4,5,6,7,8] a (eT ·) Q λg5 a=>aV [0,1,2,3,4,5,6,7,8] Q (bY (f:=Ab.As) (xs:=([f8,g1,g5]:List Ab)) [.tmp 138,.tmp 147,.tmp 159] TK Q Q aO Q (bV Q (aF (Ab.Ah _) (aF (Ab.Ah _) (aF (Ab.Ah _) aZ)))) Q (aS Ab.Aj) Q) (eC [0,1,2,3,4,5,6,7,8] a (iH ·) Q λl4 a=>?_));refine DT ?_ (by kernel_rfl);refine BE a λl5 a7 a=>?_;refine dF [0,1] (λj=>Nat.beq j 1) Q Q Q (by decide) Q Q Q Q (eU a7) Q Q Q ?_;refine aH 2 Q (aC [0,1,4,5,6,7] Q (bR follows ?_));iterate 3 (refine DA [0,1,2,3,4,5,6,7,8] TK Q ?_)
 refine BE a λl6 a8 a=>?_;refine aV [0,1,2,3,4,5,6,7,8] Q (bJ [0,1] ⟨Q,Q,λ_=>Q⟩ Q Q Q (by decide) Q (aY Q) Q Q (cA a8)) ?_;iterate 2 (refine DA [0,1,2,3,4,5,6,7,8] TK Q ?_)
 refine BE a λg6 a9 a=>?_;refine aV [0,1,2,3,4,5,6,7,8] Q (bJ [0,1] ⟨Q,Q,λ_=>Q⟩ Q Q Q (by decide) Q (aY Q) Q Q (cA a9)) ?_;iterate 2 (refine DA [0,1,2,3,4,5,6,7,8] TK Q ?_)
 refine BE a λg7 b0 a=>?_;refine aV [0,1,2,3,4,5,6,7,8] Q (bJ [0,1] ⟨Q,Q,λ_=>Q⟩ Q Q Q (by decide) Q (aY Q) Q Q (cA b0)) ?_;refine aV [0,1,2,3,4,5,6,7,8] Q (bY (f:=Ab.As) (xs:=([g6,g7]:List Ab)) [.tmp 169,.tmp 172] TK Q Q aO Q (bV Q (aF (Ab.Ah _) (aF (Ab.Ah _) aZ))) Q (aS Ab.Aj) Q) (eC [0,1,2,3,4,5,6,7,8] a (iH ·) Q λg9 a=>DA [0,1,2,3,4,5,6,7,8] TK Q (eC [0,1,2,3,4,5,6,7,8] a (fE ·) Q λh0 a=>?_));iterate 2 (refine DA [0,1,2,3,4,5,6,7,8] TK Q ?_)
 refine BE a λh1 b2 a=>?_;refine aV [0,1,2,3,4,5,6,7,8] Q (bJ [0,1] ⟨Q,Q,λ_=>Q⟩ Q Q Q (by decide) Q (aY Q) Q Q (oJ b2)) ?_;refine aV [0,1,2,3,4,5,6,7,8] Q (bY (f:=Ab.As) (xs:=([g9,h0,h1]:List Ab)) [.tmp 174,.tmp 176,.tmp 179] TK Q Q aO Q (bV Q (aF (Ab.Ah _) (aF (Ab.Ah _) (aF (Ab.Ah _) aZ)))) Q (aS Ab.Aj) Q) (eC [0,1,2,3,4,5,6,7,8] a (eT ·) Q λl7 a=>?_);refine DT ?_ (by kernel_rfl);refine BE a λl8 b3 a=>?_;refine dF [0,1] (λj=>Nat.beq j 1) Q Q Q (by decide) Q Q Q Q (eU b3) Q Q Q ?_;refine aH 2 Q (aC [0,1,4,5,6] Q (aL a (λc=>[]) (λc=>([(0,zT b.t b.p 1 c.length),(1,.flat 64 6 (c.map Ap.enc))])) [] [0,1] Q (λm8 a=>?_) (λc a=>?_)));refine aQ 2 Q (GE a λk a=>bF Q k (aH 4 Q (aX a (λ(k71,e)=>([(12,.d (.int .i64 k71))])) (λ(k71,e)=>([(0,zT b.t b.p 1 e.length),(1,.flat 64 6 (e.map Ap.enc))])) [12] [0,1,4,6] [0,1,2,3,4,5,6,7,8] (kB Q) Q (λs m9 a d0=>?_))));obtain⟨k71,e⟩:=s;refine aC [0,1,4,6,12] Q (bO 6 Q (bK a Q (λn a=>?_) (λn a=>?_)));refine aK 9 Q (GE a λl a=>bF Q l (VE a λi9 v a=>dN TK Q v (aI 1 Q (BE a λl9 b4 a=>bZ [0,1] (eE b4) Q (fA a (fE ·) Q λh2 a=>aI 2 Q (BE a λh3 b5 a=>bZ [0,1] (gO b5) Q (bN Q (bY (f:=Ab.As) (xs:=([h2,h3]:List Ab)) [.tmp 197,.tmp 200] TK Q Q aO Q (bV Q (aF (Ab.Ah _) (aF (Ab.Ah _) aZ))) Q (aS Ab.Aj) Q) (fA a (iH ·) Q λh5 a=>cS 9 Q Q aO Q (cL 9 [none,none,some 3] Q Q (aH 3 Q (aC [0,1,4,6,12,13] Q (iW (bR follows ?_)))))))))))));iterate 2 (refine DA [] TK Q ?_)
 refine BE a λh6 b7 a=>?_;refine aV [0,1] Q (bJ [0,1] ⟨Q,Q,λ_=>Q⟩ Q Q Q (by decide) Q (aY Q) Q Q (cA b7)) ?_;refine DA [3] TK Q ?_;iterate 2 (refine DA [] TK Q ?_)
 refine BE a λm0 b8 a=>?_;refine aV [0,1] Q (bJ [0,1] ⟨Q,Q,λ_=>Q⟩ Q Q Q (by decide) Q (aY Q) Q Q (pC b8)) ?_;refine eC [] a (fE ·) Q λh7 a=>?_;iterate 3 (refine DA [] TK Q ?_)
 refine BE a λh8 b9 a=>?_;refine aV [0,1] Q (bJ [0,1] ⟨Q,Q,λ_=>Q⟩ Q Q Q (by decide) Q (aY Q) Q Q (oF b9)) ?_;iterate 2 (refine DA [] TK Q ?_)
 refine DA [2] TK Q (DA [] TK Q (VE a λj0 w a=>aV [] Q (eW TK Q Q Q Q w) (DA [] TK Q (BE a λh9 c0 a=>?_))));refine aV [0,1] Q (bJ [0,1] ⟨Q,Q,λ_=>Q⟩ Q Q Q (by decide) Q (aY Q) Q Q (eE c0)) ?_;refine DA [9] TK Q (aV [] Q (bY (f:=Ab.As) (xs:=([h6,g,h7,h8,h9,h5]:List Ab)) [.tmp 205,.tmp 206,.tmp 210,.tmp 214,.tmp 221,.tmp 222] TK Q Q aO Q (bV Q (aF (Ab.Ah _) (aF (Ab.Ah _) (aF (Ab.Ah _) (aF (Ab.Ah _) (aF (Ab.Ah _) (aF (Ab.Ah _) aZ))))))) Q (aS Ab.Aj) Q) (eC [] a (eT ·) Q λi0 a=>zZ [10] _ (.mptr 10 0 0 0) Q (mD Q) Q (pZ Q Q aO Q Q) ?_));refine DT ?_ (by kernel_rfl);refine aH 3 Q (aC [0,1,4,6,12,14] Q (dP follows ?_));iterate 4 (refine DA [0,1,2,3,4,5,6,7,8,9,10] TK Q ?_)
 refine BE a λm1 c1 a=>?_;refine aV [0,1,2,3,4,5,6,7,8,9,10] Q (bJ [0,1] ⟨Q,Q,λ_=>Q⟩ Q Q Q (by decide) Q (aY Q) Q Q (jT c1)) ?_;iterate 2 (refine DA [0,1,2,3,4,5,6,7,8,9,10] TK Q ?_)
 refine BE a λi1 c2 a=>?_;refine aV [0,1,2,3,4,5,6,7,8,9,10] Q (bJ [0,1] ⟨Q,Q,λ_=>Q⟩ Q Q Q (by decide) Q (aY Q) Q Q (cT c2)) ?_;iterate 2 (refine DA [0,1,2,3,4,5,6,7,8,9,10] TK Q ?_)
 refine BE a λi2 c4 a=>?_;refine aV [0,1,2,3,4,5,6,7,8,9,10] Q (bJ [0,1] ⟨Q,Q,λ_=>Q⟩ Q Q Q (by decide) Q (aY Q) Q Q (cT c4)) ?_;refine aV [0,1,2,3,4,5,6,7,8,9,10] Q (bY (f:=Ab.As) (xs:=([i1,i2]:List Ab)) [.tmp 232,.tmp 235] TK Q Q aO Q (bV Q (aF (Ab.Ah _) (aF (Ab.Ah _) aZ))) Q (aS Ab.Aj) Q) (eC [0,1,2,3,4,5,6,7,8,9,10] a (iH ·) Q λi3 a=>?_);iterate 3 (refine DA [0,1,2,3,4,5,6,7,8,9,10] TK Q ?_)
 refine BE a λi4 c5 a=>?_;refine aV [0,1,2,3,4,5,6,7,8,9,10] Q (bJ [0,1] ⟨Q,Q,λ_=>Q⟩ Q Q Q (by decide) Q (aY Q) Q Q (jT c5)) ?_;refine DA [0,1,2,3,4,5,6,7,8,9,10] TK Q (aV [0,1,2,3,4,5,6,7,8,9,10] Q (bY (f:=Ab.As) (xs:=([i4,i0]:List Ab)) [.tmp 241,.tmp 242] TK Q Q aO Q (bV Q (aF (Ab.Ah _) (aF (Ab.Ah _) aZ))) Q (aS Ab.Aj) Q) (eC [0,1,2,3,4,5,6,7,8,9,10] a (iH ·) Q λi5 a=>aV [0,1,2,3,4,5,6,7,8,9,10] Q (bY (f:=Ab.As) (xs:=([i3,i5]:List Ab)) [.tmp 237,.tmp 244] TK Q Q aO Q (bV Q (aF (Ab.Ah _) (aF (Ab.Ah _) aZ))) Q (aS Ab.Aj) Q) (eC [0,1,2,3,4,5,6,7,8,9,10] a (eT ·) Q λm3 a=>?_)));refine DT ?_ (by kernel_rfl);refine BE a λm4 c6 a=>?_;refine dF [0,1] (λj=>Nat.beq j 1) Q Q Q (by decide) Q Q Q Q (eU c6) Q Q Q ?_;exact aH 3 Q (aC [0,1,4,6,12] Q (aK 2 Q (GE a λm a=>bF Q m (aG 2 Q (uK [0,1,2,3,4,5,6,7,8] a Q (kB Q) Q)))));refine aM 2 Q (IE a λm7 a c9=>?_);rw[d0 _ c9]at a;exact WX (bM 1 Q (oW [0,1,2,3,4,5,6,7,8] a Q (kB Q) Q));refine aC [0,1] Q (aK 4 Q (BE a λm5 c7 a=>bZ [0,1] (cA c7) Q (aI 2 Q (BE a λm6 c8 a=>bZ [0,1] (cT c8) Q (BE a λj1 y a=>?_)))));refine dF [0,1] (λj=>Nat.beq j 1) Q Q Q (by decide) Q Q Q Q (eU y) Q Q Q ?_;refine aH 2 Q (aC [0,1] Q (aK 4 Q (BE a λj2 z a=>bZ [0,1] (cA z) Q (aI 2 Q (BE a λj3 A a=>bZ [0,1] (cT A) Q (BE a λj4 B a=>?_))))));refine dF [0,1] (λj=>Nat.beq j 1) Q Q Q (by decide) Q Q Q Q (eU B) Q Q Q ?_;refine aH 2 Q (aC [0,1] Q (aK 4 Q (BE a λj5 C a=>bZ [0,1] (cT C) Q (aI 2 Q (BE a λd2 E a=>bZ [0,1] (cT E) Q (aI 2 Q (BE a λd3 F a=>bZ [0,1] (cA F) Q (aI 2 Q (BE a λd4 G a=>bZ [0,1] (cA G) Q (aI 2 Q (BE a λd5 H a=>bZ [0,1] (cA H) Q (bN Q (bY (f:=Ab.As) (xs:=([d2,d3,d4,d5]:List Ab)) [.tmp 270,.tmp 273,.tmp 276,.tmp 279] TK Q Q aO Q (bV Q (aF (Ab.Ah _) (aF (Ab.Ah _) (aF (Ab.Ah _) (aF (Ab.Ah _) aZ))))) Q (aS Ab.Aj) Q) (fA a (iH ·) Q λj6 a=>BE a λj7 I a=>?_)))))))))))));refine dF [0,1] (λj=>Nat.beq j 1) Q Q Q (by decide) Q Q Q Q (eU I) Q Q Q ?_;refine aG 1 Q ?_;obtain rfl:=OJ a;exact⟨_,[0,1],res Q,by decide,(kB Q),Q,Q⟩
theorem eu{c:Ao}{H:Int}{r:Ao}(a:kW c H=some r):Ret TP 70 [zT c.t c.p 1 c.Ai.length,.flat 64 6 (c.Ai.map Ap.enc)] (λj=>Nat.beq j 1) [.mptr 0 0 0 0,.d (.int .i64 H)] (.tup []) [zT c.t c.p 1 r.Ai.length,.flat 64 6 (r.Ai.map Ap.enc)]:=by
 refine cP (bE Q) func70 Q ntmps70 Q Q (λwX gX=>?_);unfold kW at a;refine aC [0,1] Q (aQ 7 Q (VE a λd7 b0 a=>dN TK Q b0 (aI 1 Q (cS 2 Q Q iM Q (cL 2 [none,none,none,some 3,some 2,some 1,none,none,some 3,some 2,some 1,some 2,some 1,some 2] Q Q (aI 6 Q (BE a λd0 b7 a=>bZ [0,1] (gO b7) Q (aI 2 Q (BE a λe4 b8 a=>bZ [0,1] (cT b8) Q (fA a (fE ·) Q λd1 a=>vn (f:=Ab.As) 3 [.tmp 25,.tmp 29] ([d0,d1]:List Ab) TK Q Q Q aO Q (bV Q (aF (Ab.Ah _) (aF (Ab.Ah _) aZ))) Q (aS Ab.Aj) Q (aH 3 Q (aC [0,1,4,5] Q (aL a (λm=>([(5,.msl 3 3 0 m.length)])) (λm=>([(3,.flat 40 3 (m.map Ab.As))])) [5] [0,1,4] Q (λg5 a=>?_) (λm a=>?_))))))))))))));refine bO 5 Q (aX a (λ(E,e)=>([(5,.msl 3 3 0 e.length),(6,.d (.int .i64 E))])) (λ(E,e)=>([(3,.flat 40 3 (e.map Ab.As))])) [5,6] [0,1,4] [0,1,2,3] (kB Q) Q (λs f9 a c5=>?_));obtain⟨E,e⟩:=s;refine aC [0,1,4,5,6] Q (aQ 5 Q (aW TK Q (aH 3 Q (bK a Q (λa2 a=>?_) (λa2 a=>?_)))));refine aK 9 Q (VE a λd8 b1 a=>dN TK Q b1 (aI 1 Q (GE a λN a=>bF Q N (GE a λO a=>bF Q O (fA a (gC ·) Q λJ a=>bN Q (bY (f:=Ab.As) (xs:=([J]:List Ab)) [.tmp 46] TK Q Q aO Q (bV Q (aF (Ab.Ah _) aZ)) Q (aS Ab.Aj) Q) (GE a λP a=>?_))))));refine cG (f:=Ab.As) ([J]:List Ab) TK Q Q aO Q Q Q Q Q (λh=>absurd (show 3<2 from h) (by decide)) Q cB P Q Q ?_;exact aH 4 Q (aC [0,1,4,5,6] Q (aK 2 Q (GE a λR a=>bF Q R (aG 2 Q (uK [0,1,2,3] a Q (kB Q) Q)))));refine aM 2 Q (IE a λf5 a b=>?_);rw[c5 _ b]at a;exact WX (bM 1 Q (oW [0,1,2,3] a Q (kB Q) Q));refine aC [0,1,4,5] Q (aL a (λg=>([(5,.msl 3 3 0 g.length)])) (λg=>([(3,.flat 40 3 (g.map Ab.As))])) [5] [0,1,4] Q (λg0 a=>?_) (λg a=>?_))
 ·refine bO 5 Q (aX a (λ(F,i)=>([(5,.msl 3 3 0 i.length),(7,.d (.int .i64 F))])) (λ(F,i)=>([(3,.flat 40 3 (i.map Ab.As))])) [5,7] [0,1,4] [0,1,2,3] (kB Q) Q (λs g1 a c6=>?_));obtain⟨F,i⟩:=s;refine aC [0,1,4,5,7] Q (aQ 5 Q (aW TK Q (aH 3 Q (bK a Q (λa3 a=>?_) (λa3 a=>?_)))));refine aK 9 Q (VE a λd9 b2 a=>dN TK Q b2 (aI 1 Q (GE a λS a=>bF Q S (GE a λT a=>bF Q T (fA a (gC ·) Q λK a=>bN Q (bY (f:=Ab.As) (xs:=([K]:List Ab)) [.tmp 64] TK Q Q aO Q (bV Q (aF (Ab.Ah _) aZ)) Q (aS Ab.Aj) Q) (GE a λU a=>?_))))));refine cG (f:=Ab.As) ([K]:List Ab) TK Q Q aO Q Q Q Q Q (λh=>absurd (show 3<2 from h) (by decide)) Q cB U Q Q ?_;exact aH 4 Q (aC [0,1,4,5,7] Q (aK 2 Q (GE a λV a=>bF Q V (aG 2 Q (uK [0,1,2,3] a Q (kB Q) Q)))));refine aM 2 Q (IE a λf6 a b=>?_);rw[c6 _ b]at a;exact WX (bM 1 Q (oW [0,1,2,3] a Q (kB Q) Q))
 refine aC [0,1,4,5] Q (aL a (λk=>([(5,.msl 3 3 0 k.length)])) (λk=>([(3,.flat 40 3 (k.map Ab.As))])) [5] [0,1,4] Q (λg2 a=>?_) (λk a=>?_))
 ·refine bO 5 Q (aX a (λ(z,l)=>([(5,.msl 3 3 0 l.length),(8,.d (.int .i64 z))])) (λ(z,l)=>([(3,.flat 40 3 (l.map Ab.As))])) [5,8] [0,1,4] [0,1,2,3] (kB Q) Q (λs g3 a c7=>?_));obtain⟨z,l⟩:=s;refine aC [0,1,4,5,8] Q (aQ 8 Q (aW TK Q (aH 3 Q (bK a Q (λa4 a=>?_) (λa4 a=>?_)))));refine aK 11 Q (cW a (Ht ·) Q λd2 a=>aH 3 Q (aC [0,1,4,5,8,9] Q (cH 1 Q ?_)));refine hO [(90,.d (.bool (((decide (z=H))||(decide (d2<0))))))] [90] [0,1,4,5,8,9] Q ?_ ?_;refine aQ 4 Q (SB TK Q (λc9 I=>?_));cases c9;refine aG 4 Q ?_;exact⟨[0,1,2,3],Q,(kB Q),bT (aR (aU (by simp[I])) Q) Q⟩;refine aG 4 Q ?_;exact⟨[0,1,2,3],Q,(kB Q),bT (aR (aU (by simp[I])) Q) Q⟩;refine aC [0,1,4,5,8,9,90] Q (cI a Q (λa5 a=>?_) (λa5 a=>?_))
  ·exact aK 6 Q (GE a λW a=>bF Q W (aG 2 Q (uK [0,1,2,3] a Q (kB Q) Q)))
  refine aK 5 Q (BE a λd3 b9 a=>bZ [0,1] (cT b9) Q (cS 4 Q Q aO Q (cL 4 [none,none,some 3] Q Q (aH 3 Q (aC [0,1,4,5,8,9,10] Q (aL a (λ(q,u,v)=>[]) (λ(q,u,v)=>([(4,.box 40 [.d (.int .i64 q),.d (.int .i64 u),.d (.sl 3 (v.map Ab.As))])])) [] [0,1,4,5,8,10] Q (λg4 a=>?_) (λj a=>?_)))))))
  ·refine aQ 4 Q (BE a λe5 c0 a=>bZ [0,1] (jC c0) Q (aH 3 Q (bK a Q (λa6 a=>?_) (λa6 a=>?_))))
   ·refine dP follows ?_;iterate 4 (refine DA [0,1,2,3,4] TK Q ?_)
    refine BE a λe6 c1 a=>?_;refine aV [0,1,2,3,4] Q (bJ [0,1] ⟨Q,Q,λ_=>Q⟩ Q Q Q (by decide) Q (aY Q) Q Q (jT c1)) ?_;refine eC [0,1,2,3,4] a (fE ·) Q λd4 a=>aV [0,1,2,3,4] Q (bY (f:=Ab.As) (xs:=([d3,d4]:List Ab)) [.tmp 99,.tmp 104] TK Q Q aO Q (bV Q (aF (Ab.Ah _) (aF (Ab.Ah _) aZ))) Q (aS Ab.Aj) Q) (eC [0,1,2,3,4] a (eT ·) Q λe7 a=>?_);refine DT ?_ (by kernel_rfl);exact aG 2 Q (oW [0,1,2,3,4] a Q (kB Q) Q)
   exact aM 1 Q (oW [0,1,2,3,4] a Q (kB Q) Q)
  obtain⟨q,u,v⟩:=j;refine aC [0,1,4,5,8,10] Q (aL a (λ(A,B,C)=>[]) (λ(A,B,C)=>([(4,.box 40 [.d (.int .i64 A),.d (.int .i64 B),.d (.sl 3 (C.map Ab.As))])])) [] [0,1,4,5,8,10] Q (λg6 a=>?_) (λj a=>?_));refine bO 6 Q (bK a Q (λa7 a=>?_) (λa7 a=>?_))
  ·refine dP follows ?_;iterate 3 (refine DA [0,1,2,3,4] TK Q ?_)
   refine BE a λd5 c2 a=>?_;refine aV [0,1,2,3,4] Q (bJ [0,1] ⟨Q,Q,λ_=>Q⟩ Q Q Q (by decide) Q (aY Q) Q Q (cT c2)) ?_;refine aV [0,1,2,3,4] Q (bY (f:=Ab.As) (xs:=([(⟨q,u,v⟩:Ab),d5]:List Ab)) [.tmp 110,.tmp 113] TK Q Q aO Q (bV Q (aF (Ab.Ah _) (aF (Ab.Ah _) aZ))) Q (aS Ab.Aj) Q) (eC [0,1,2,3,4] a (iH ·) Q λe8 a=>?_);refine DT ?_ (by kernel_rfl);exact aG 2 Q (oW [0,1,2,3,4] a Q (kB Q) Q)
  exact aM 1 Q (oW [0,1,2,3,4] a Q (kB Q) Q);obtain⟨A,B,C⟩:=j;refine aC [0,1,4,5,8,10] Q (aK 3 Q (fA a (fE ·) Q λL a=>bN Q (bY (f:=Ab.As) (xs:=([L]:List Ab)) [.tmp 118] TK Q Q aO Q (bV Q (aF (Ab.Ah _) aZ)) Q (aS Ab.Aj) Q) (GE a λX a=>?_)));refine cG (f:=Ab.As) ([L]:List Ab) TK Q Q aO Q Q Q Q Q (λh=>absurd (show 3<2 from h) (by decide)) Q cB X Q Q ?_;exact aH 4 Q (aC [0,1,4,5,8] Q (aK 2 Q (GE a λY a=>bF Q Y (aG 2 Q (uK [0,1,2,3] a Q (kB Q) Q)))));refine aM 2 Q (IE a λf7 a b=>?_);rw[c7 _ b]at a;exact WX (bM 1 Q (oW [0,1,2,3] a Q (kB Q) Q))
 refine aC [0,1,4,5] Q (aK 2 Q (fA a (oK ·) Q λe9 a=>aH 3 Q (aL a (λn=>([(5,.msl 3 3 0 n.length)])) (λn=>([(3,.flat 40 3 (n.map Ab.As))])) [5] [0,1] Q (λg7 a=>?_) (λn a=>?_))))
 ·refine bO 5 Q (aX a (λ(G,o)=>([(5,.msl 3 3 0 o.length),(12,.d (.int .i64 G))])) (λ(G,o)=>([(3,.flat 40 3 (o.map Ab.As))])) [5,12] [0,1,11] [0,1,2,3] (kB Q) Q (λs g8 a c8=>?_));obtain⟨G,o⟩:=s;refine aC [0,1,5,11,12] Q (aQ 4 Q (aW TK Q (aH 3 Q (bK a Q (λa8 a=>?_) (λa8 a=>?_)))));refine cH 4 Q (bR follows ?_);iterate 6 (refine DA [0,1,2,3] TK Q ?_)
  refine VE a λe0 b3 a=>aV [0,1,2,3] Q (eW TK Q Q Q Q b3) ?_;iterate 2 (refine DA [0,1,2,3] TK Q ?_)
  refine gI [0,1,2,3] a (vG ·) Q λf0 a=>?_;refine DT ?_ (by kernel_rfl);refine aI 10 Q (GE a λZ a=>bF Q Z (fA a (gC ·) Q λf1 a=>cS 4 Q Q aO Q (cL 4 [none,none,some 3] Q Q (aH 3 Q (aC [0,1,5,11,12,13,14] Q (aL a (λ(w,x,y)=>[]) (λ(w,x,y)=>([(4,.box 40 [.d (.int .i64 w),.d (.int .i64 x),.d (.sl 3 (y.map Ab.As))])])) [] [0,1,5,11,12,13,14] Q (λg9 a=>?_) (λj a=>?_)))))));refine aQ 3 Q (VE a λe1 b4 a=>dN TK Q b4 (aH 5 Q (bK a Q (λa9 a=>?_) (λa9 a=>?_))))
  ·exact aK 2 Q (fA a (fE ·) Q λf2 a=>aG 2 Q (oW [0,1,2,3,4] a Q (kB Q) Q))
  exact aM 1 Q (oW [0,1,2,3,4] a Q (kB Q) Q);obtain⟨w,x,y⟩:=j;refine aC [0,1,5,11,12,13,14] Q (dP follows ?_);iterate 9 (refine DA [0,1,2,3,4] TK Q ?_)
  refine VE a λe2 b5 a=>aV [0,1,2,3,4] Q (eW TK Q Q Q Q b5) (DA [0,1,2,3,4] TK Q (BE a λd6 c3 a=>?_));refine aV [0,1,2,3,4] Q (bJ [0,1] ⟨Q,Q,λ_=>Q⟩ Q Q Q (by decide) Q (aY Q) Q Q (eE c3)) ?_;refine aV [0,1,2,3,4] Q (bY (f:=Ab.As) (xs:=([(⟨w,x,y⟩:Ab),d6]:List Ab)) [.tmp 156,.tmp 166] TK Q Q aO Q (bV Q (aF (Ab.Ah _) (aF (Ab.Ah _) aZ))) Q (aS Ab.Aj) Q) (eC [0,1,2,3,4] a (iH ·) Q λM a=>aV [0,1,2,3,4] Q (bY (f:=Ab.As) (xs:=([M]:List Ab)) [.tmp 168] TK Q Q aO Q (bV Q (aF (Ab.Ah _) aZ)) Q (aS Ab.Aj) Q) ?_);refine DT ?_ (by kernel_rfl);refine GE a λa0 a=>?_;refine cG (f:=Ab.As) ([M]:List Ab) TK Q Q aO Q Q Q Q Q (λh=>absurd (show 3<2 from h) (by decide)) Q cB a0 Q Q ?_;exact aH 4 Q (aC [0,1,5,11,12] Q (aK 2 Q (GE a λa1 a=>bF Q a1 (aG 2 Q (uK [0,1,2,3] a Q (kB Q) Q)))));refine aM 2 Q (IE a λf8 a b=>?_);rw[c8 _ b]at a;exact WX (bM 1 Q (oW [0,1,2,3] a Q (kB Q) Q))
 refine aC [0,1,5] Q ?_;refine nH 5 3 [0,1] Q Q Q Q Q (by simp) Q Q ?_;refine aK 4 Q (BE a λf3 c4 a=>bZ [0,1] (cT c4) Q (aI 1 Q (fA a (eT ·) Q λf4 a=>BE a λe3 b6 a=>?_)));refine dF [0,1] (λj=>Nat.beq j 1) Q Q Q (by decide) Q Q Q Q (eU b6) Q Q Q ?_;refine aG 1 Q ?_;obtain rfl:=OJ a;exact⟨_,[0,1],res Q,by decide,(kB Q),Q,Q⟩
theorem qy{b:Ao}{m:Int}{r:Ao}(a:mC b m=some r):Ret TP 75 [zT b.t b.p 1 b.Ai.length,.flat 64 6 (b.Ai.map Ap.enc)] (λj=>Nat.beq j 1) [.mptr 0 0 0 0,.d (.int .i64 m)] (.tup []) [zT b.t b.p 1 r.Ai.length,.flat 64 6 (r.Ai.map Ap.enc)]:=by
 refine cP (bE Q) func75 Q ntmps75 Q Q (λwX gX=>?_);unfold mC at a;refine aC [0,1] Q (aQ 1 Q (gU (f:=Ab.As) 2 40 3 Q Q Q (gU (f:=Ab.As) 3 40 3 Q Q Q (aH 2 Q (aL a (λ(c,i)=>([(4,.msl 2 3 0 c.length),(5,.msl 3 3 0 i.length)])) (λ(c,i)=>([(2,.flat 40 3 (c.map Ab.As)),(3,.flat 40 3 (i.map Ab.As))])) [4,5] [0,1] Q (λa1 a=>?_) (λj a=>?_))))));refine bO 5 Q (aX a (λ(l,k,e)=>([(4,.msl 2 3 0 k.length),(5,.msl 3 3 0 e.length),(6,.d (.int .i64 l))])) (λ(l,k,e)=>([(2,.flat 40 3 (k.map Ab.As)),(3,.flat 40 3 (e.map Ab.As))])) [4,5,6] [0,1] [0,1,2,3] (kB Q) Q (λs Z a J=>?_));obtain⟨l,k,e⟩:=s;refine aC [0,1,4,5,6] Q (aQ 8 Q (aW TK Q (aH 3 Q (bK a Q (λy a=>?_) (λy a=>?_)))));refine aK 11 Q (VE a λO B a=>dN TK Q B (aI 1 Q (fA a (oK ·) Q λS a=>aH 3 Q (aC [0,1,4,5,6,7] Q (aL a (λg=>([(4,.msl 2 3 0 g.length)])) (λg=>([(2,.flat 40 3 (g.map Ab.As))])) [4] [0,1,5,6,7] Q (λa0 a=>?_) (λg a=>?_))))))
 ·refine aQ 8 Q (VE a λP C a=>dN TK Q C (aI 1 Q (bN Q (cK Q tZ dJ Q Q Q Q) (cW a (bk ·) Q λT a=>aH 2 Q (cI a Q (λz a=>?_) (λz a=>?_))))))
  ·refine aK 4 Q (BE a λn F a=>bZ [0,1] (cT F) Q (bN Q (bY (f:=Ab.As) (xs:=([n]:List Ab)) [.tmp 42] TK Q Q aO Q (bV Q (aF (Ab.Ah _) aZ)) Q (aS Ab.Aj) Q) (GE a λq a=>?_)));refine cG (f:=Ab.As) ([n]:List Ab) TK Q Q aO Q Q Q Q Q (λh=>absurd (show 2<2 from h) (by decide)) Q cB q Q Q ?_;exact aG 2 Q (oW [0,1,2,3] a Q (kB Q) Q)
  exact aM 1 Q (oW [0,1,2,3] a Q (kB Q) Q)
 refine aC [0,1,4,5,6,7] Q (aK 8 Q (VE a λR E a=>dN TK Q E (aI 1 Q (bN Q (cK Q tZ dJ Q Q Q Q) (cW a (bk ·) Q λU a=>aH 2 Q (cI a Q (λA a=>?_) (λA a=>?_)))))))
 ·refine aK 4 Q (BE a λo G a=>bZ [0,1] (cT G) Q (bN Q (bY (f:=Ab.As) (xs:=([o]:List Ab)) [.tmp 59] TK Q Q aO Q (bV Q (aF (Ab.Ah _) aZ)) Q (aS Ab.Aj) Q) (GE a λu a=>?_)));refine cG (f:=Ab.As) ([o]:List Ab) TK Q Q aO Q Q Q Q Q (λh=>absurd (show 3<2 from h) (by decide)) Q cB u Q Q ?_;exact aH 4 Q (aC [0,1,4,5,6] Q (aK 2 Q (GE a λv a=>bF Q v (aG 2 Q (uK [0,1,2,3] a Q (kB Q) Q)))))
 exact aK 5 Q (GE a λw a=>bF Q w (aG 2 Q (uK [0,1,2,3] a Q (kB Q) Q)));refine aM 2 Q (IE a λY a I=>?_);rw[J _ I]at a;exact WX (bM 1 Q (oW [0,1,2,3] a Q (kB Q) Q));obtain⟨c,i⟩:=j;refine aC [0,1,4,5] Q (aK 7 Q (GE a λx a=>bF Q x (fA a (gC ·) Q λK a=>cS 4 Q Q aO Q (cL 4 [none,none,some 3] Q Q (aH 3 Q (aC [0,4,5,8] Q ?_))))));refine nH 5 3 [0,4,8] Q Q Q Q Q (by simp) Q Q ?_;refine nH 4 2 [0,5,8] Q Q Q Q Q (by simp) Q Q ?_;refine dP follows ?_;iterate 3 (refine DA [0,1,2,3,4] TK Q ?_)
 refine eC [0,1,2,3,4] a (iH ·) Q λL a=>?_;iterate 2 (refine DA [0,1,2,3,4] TK Q ?_)
 refine eC [0,1,2,3,4] a (iH ·) Q λV a=>eC [0,1,2,3,4] a (fE ·) Q λM a=>aV [0,1,2,3,4] Q (bY (f:=Ab.As) (xs:=([K,M]:List Ab)) [.tmp 74,.tmp 77] TK Q Q aO Q (bV Q (aF (Ab.Ah _) (aF (Ab.Ah _) aZ))) Q (aS Ab.Aj) Q) (eC [0,1,2,3,4] a (eT ·) Q λN a=>aV [0,1,2,3,4] Q (bY (f:=Ab.As) (xs:=([L,N]:List Ab)) [.tmp 73,.tmp 79] TK Q Q aO Q (bV Q (aF (Ab.Ah _) (aF (Ab.Ah _) aZ))) Q (aS Ab.Aj) Q) (eC [0,1,2,3,4] a (iH ·) Q λW a=>?_));refine DT ?_ (by kernel_rfl);refine BE a λX H a=>?_;refine dF [0,1] (λj=>Nat.beq j 1) Q Q Q (by decide) Q Q Q Q (eU H) Q Q Q ?_;refine aG 1 Q ?_;obtain rfl:=OJ a;exact⟨_,[0,1],res Q,by decide,(kB Q),Q,Q⟩
theorem Fj{b:Al}{x:Program}{r:Int}(a:nW b=some (x,r)):RetT TP 28 [b.enc] [x.enc,.int .i64 r]:=by
 refine .of (mv:=λ_=>false) (kL (bE Q) func28 Q ntmps28 Q Q (λwX gX=>?_));unfold nW at a;refine aC [0] Q (aQ 1 Q (cY 0 Q Q Q (cS 1 Q Q xY Q (cL 1 [some 1,none,some 6] Q Q (aI 5 Q (cW a (yq ·) Q λr a=>aH 9 Q (qV a Q (λF a=>?_) (λF a=>?_))))))));refine aK 1 Q (bN Q (cK Q K8 xY Q Q Q Q) (Mo 17 [some 1,none,some 6] Q (aG 7 Q ?_)));obtain⟨rfl,rfl⟩:=cV (cC a);exact⟨_,.mk _ (.cons (.agg (TK.lay Q) Q Q Q Q) (.cons (.tmp 3) .nil)) Q,(.cons (.d _) (.refl _) (.cons (.d _) (.refl _) .nil))⟩;refine cH 2 Q (bR follows ?_);iterate 2 (refine DA [0,1] TK Q ?_)
 refine eC [0,1] a (Dy ·) Q λc a=>aV [0,1] Q (kX Q plc111 zero111 Q Q Q Q) ?_;refine DT ?_ (by kernel_rfl);refine cY 2 Q Q Q (aH 3 Q (c_upB (f:=Ap.enc) 2 11 3 64 6 Q Q Q (cH 10 Q (aC [1,2,5,29] Q (bK a Q (λI a=>?_) (λI a=>?_))))));refine aK 1 Q (bN Q (cK Q K8 xY Q Q Q Q) (Mo 30 [some 1,none,some 6] Q (aG 6 Q ?_)));obtain⟨rfl,rfl⟩:=cV (cC a);exact⟨_,.mk _ (.cons (.agg (TK.lay Q) Q Q Q Q) (.cons (.tmp 3) .nil)) Q,(.cons (.d _) (.refl _) (.cons (.d _) (.refl _) .nil))⟩;refine cH 2 Q (aL a (λo=>[]) (λo=>([(2,zT b c 3 o.length),(3,.flat 64 6 (o.map Ap.enc))])) [] [1,2,5] Q (λc5 a=>?_) (λo a=>?_))
 ·refine bO 5 Q (aX a (λ(t,g)=>([(6,.d (.int .i64 t))])) (λ(t,g)=>([(2,zT b c 3 g.length),(3,.flat 64 6 (g.map Ap.enc))])) [6] [1,2,5] [0,1,2,3] k0 Q (λs b7 a V=>?_));obtain⟨t,g⟩:=s;refine aC [1,2,5,6] Q (aQ 5 Q (aW TK Q (aH 3 Q (bK a Q (λE a=>?_) (λE a=>?_)))));refine aK 7 Q (BE a λa3 L a=>?_);refine dF [2,3] (λj=>Nat.beq j 1) Q Q Q (by decide) Q Q Q Q (eq L) Q Q Q ?_;exact aI 5 Q (GE a λy a=>bF Q y (aG 2 Q (bU [0,1,2,3] a Q Q)));refine aM 2 Q (IE a λb2 a e=>?_);rw[V _ e]at a;exact WX (bM 1 Q (bI [0,1,2,3] a Q Q))
 refine aC [1,2,5] Q (aL a (λh=>[]) (λh=>([(2,zT b c 3 h.length),(3,.flat 64 6 (h.map Ap.enc))])) [] [1,2,5] Q (λb8 a=>?_) (λh a=>?_))
 ·refine bO 5 Q (aX a (λ(u,i)=>([(7,.d (.int .i64 u))])) (λ(u,i)=>([(2,zT b c 3 i.length),(3,.flat 64 6 (i.map Ap.enc))])) [7] [1,2,5] [0,1,2,3] k0 Q (λs b9 a W=>?_));obtain⟨u,i⟩:=s;refine aC [1,2,5,7] Q (aQ 5 Q (aW TK Q (aH 3 Q (bK a Q (λG a=>?_) (λG a=>?_)))));refine aK 7 Q (BE a λa4 M a=>?_);refine dF [2,3] (λj=>Nat.beq j 1) Q Q Q (by decide) Q Q Q Q (zX M) Q Q Q ?_;exact aI 5 Q (GE a λz a=>bF Q z (aG 2 Q (bU [0,1,2,3] a Q Q)));refine aM 2 Q (IE a λb3 a e=>?_);rw[W _ e]at a;exact WX (bM 1 Q (bI [0,1,2,3] a Q Q))
 refine aC [1,2,5] Q (aL a (λk=>[]) (λk=>([(2,zT b c 3 k.length),(3,.flat 64 6 (k.map Ap.enc))])) [] [1,2,5] Q (λc0 a=>?_) (λk a=>?_))
 ·refine bO 5 Q (aX a (λ(v,l)=>([(8,.d (.int .i64 v))])) (λ(v,l)=>([(2,zT b c 3 l.length),(3,.flat 64 6 (l.map Ap.enc))])) [8] [1,2,5] [0,1,2,3] k0 Q (λs c1 a X=>?_));obtain⟨v,l⟩:=s;refine aC [1,2,5,8] Q (aQ 5 Q (aW TK Q (aH 3 Q (bK a Q (λH a=>?_) (λH a=>?_)))));refine aK 7 Q (BE a λa5 N a=>?_);refine dF [2,3] (λj=>Nat.beq j 1) Q Q Q (by decide) Q Q Q Q (eu N) Q Q Q ?_;exact aI 5 Q (GE a λA a=>bF Q A (aG 2 Q (bU [0,1,2,3] a Q Q)));refine aM 2 Q (IE a λb4 a e=>?_);rw[X _ e]at a;exact WX (bM 1 Q (bI [0,1,2,3] a Q Q))
 refine aC [1,2,5] Q (aL a (λm=>[]) (λm=>([(2,zT b c 3 m.length),(3,.flat 64 6 (m.map Ap.enc))])) [] [1,2,5] Q (λc2 a=>?_) (λm a=>?_))
 ·refine bO 5 Q (aX a (λ(w,n)=>([(9,.d (.int .i64 w))])) (λ(w,n)=>([(2,zT b c 3 n.length),(3,.flat 64 6 (n.map Ap.enc))])) [9] [1,2,5] [0,1,2,3] k0 Q (λs c3 a Y=>?_));obtain⟨w,n⟩:=s;refine aC [1,2,5,9] Q (aQ 5 Q (aW TK Q (aH 3 Q (bK a Q (λJ a=>?_) (λJ a=>?_)))));refine aK 8 Q (BE a λa6 O a=>bZ [2,3] (cA O) Q (aI 2 Q (BE a λa0 P a=>bZ [2,3] (cT P) Q (aI 2 Q (BE a λa1 R a=>bZ [2,3] (cT R) Q (bN Q (bY (f:=Ab.As) (xs:=([a0,a1]:List Ab)) [.tmp 74,.tmp 77] TK Q Q aO Q (bV Q (aF (Ab.Ah _) (aF (Ab.Ah _) aZ))) Q (aS Ab.Aj) Q) (fA a (iH ·) Q λa7 a=>BE a λa8 S a=>?_)))))));refine dF [2,3] (λj=>Nat.beq j 1) Q Q Q (by decide) Q Q Q Q (eU S) Q Q Q ?_;exact aH 3 Q (aC [1,2,5,9] Q (aK 2 Q (GE a λB a=>bF Q B (aG 2 Q (bU [0,1,2,3] a Q Q)))));refine aM 2 Q (IE a λb5 a e=>?_);rw[Y _ e]at a;exact WX (bM 1 Q (bI [0,1,2,3] a Q Q))
 refine aC [1,2,5] Q (aL a (λp=>[]) (λp=>([(2,zT b c 3 p.length),(3,.flat 64 6 (p.map Ap.enc))])) [] [1,2,5] Q (λc4 a=>?_) (λp a=>?_))
 ·refine bO 5 Q (aX a (λ(k62,q)=>([(10,.d (.int .i64 k62))])) (λ(k62,q)=>([(2,zT b c 3 q.length),(3,.flat 64 6 (q.map Ap.enc))])) [10] [1,2,5] [0,1,2,3] k0 Q (λs c6 a Z=>?_));obtain⟨k62,q⟩:=s;refine aC [1,2,5,10] Q (aQ 5 Q (aW TK Q (aH 3 Q (bK a Q (λK a=>?_) (λK a=>?_)))));refine aK 7 Q (BE a λa9 T a=>?_);refine dF [2,3] (λj=>Nat.beq j 1) Q Q Q (by decide) Q Q Q Q (qy T) Q Q Q ?_;exact aI 5 Q (GE a λC a=>bF Q C (aG 2 Q (bU [0,1,2,3] a Q Q)));refine aM 2 Q (IE a λb6 a e=>?_);rw[Z _ e]at a;exact WX (bM 1 Q (bI [0,1,2,3] a Q Q))
 refine aC [1,2,5] Q (aK 2 Q (BE a λa2 U a=>?_));obtain⟨b0,b1⟩:=a2;refine bN Q (hJ Q Q Q (Jz U)) (aI 14 Q (bN Q (kX Q K8 xY Q Q Q Q) (aH 4 Q (aC [2,3] Q (aM 1 Q ?_)))));obtain⟨rfl,rfl⟩:=cV (cC a);exact⟨_,.mk _ (.cons (.agg (TK.lay Q) Q Q Q Q) (.cons (.tmp 3) .nil)) Q,(.cons (jS (.cons (.d _) Q (.cons (.d _) Q (.cons (cO Q) Q .nil)))) (.refl _) (.cons (.d _) (.refl _) .nil))⟩
end Go.Proofs.YtldaknhjmhlefaaGreatDoor
set_option maxHeartbeats 8000000
set_option linter.unusedSimpArgs false
set_option linter.unusedVariables false
set_option maxRecDepth 20000
namespace Go.Proofs.YtldaknhjmhlefaaGreatDoor
open Go Go.TL
end Go.Proofs.YtldaknhjmhlefaaGreatDoor
set_option maxHeartbeats 8000000
set_option linter.unusedSimpArgs false
set_option linter.unusedVariables false
set_option maxRecDepth 20000
namespace Go.Proofs.YtldaknhjmhlefaaGreatDoor
open Go Go.TL Go.Proofs.Tryz
theorem J2:∀(fu:Nat){b:Ab}{r:Int}(a:pD fu b=some r),RetN TP 17 [b.enc] (.int .i64 r):=by
 intro fu
 induction fu with
 |zero=>
  intro b r a;unfold pD at a;cases a
 |succ fu ih=>
  intro b r a;refine .unit (aN (bE Q) func17 Q ntmps17 Q Q (λwX gX=>?_)) Q;unfold pD at a;refine aC [0] Q (aQ 1 Q (cY 0 Q Q Q (aH 7 Q (aL a (λe=>([(3,.d (.int .i64 e))])) (λe=>[]) [3] [] Q (λp a=>?_) (λe a=>?_)))));refine bO 5 Q (aX a (λ(f,c)=>([(3,.d (.int .i64 f)),(4,.d (.int .i64 c))])) (λ(f,c)=>[]) [3,4] [1] [0] k0 Q (λs q a l=>?_));obtain⟨f,c⟩:=s;refine aC [1,3,4] Q (aQ 5 Q (aW TK Q (aH 3 Q (bK a Q (λi a=>?_) (λi a=>?_)))));exact aK 9 Q (VE a λm j a=>bN Q (Ex TK Q Q Q Q j (Ab.Ah _)) (aI 1 Q (cW a (ih ·) Q λn a=>GE a λg a=>bF Q g (aI 6 Q (GE a λh a=>bF Q h (aG 2 Q (bU [0] a Q Q)))))));refine aM 2 Q (IE a λo a k=>?_);rw[l _ k]at a;exact WX (bM 1 Q (bI [0] a Q Q));exact aC [3] Q (aM 6 Q (bD a Q))
theorem My{a:Ab}{r:Int}(b:gz a=some r):RetN TP 17 [a.enc] (.int .i64 r):=J2 eO b
theorem Hv:∀(fu:Nat){b:Ab}{r:Int}(a:nX fu b=some r),RetN TP 48 [b.enc] (.int .i64 r):=by
 intro fu
 induction fu with
 |zero=>
  intro b r a;unfold nX at a;cases a
 |succ fu ih=>
  intro b r a;refine .unit (aN (bE Q) func48 Q ntmps48 Q Q (λwX gX=>?_)) Q;unfold nX at a;refine aC [0] Q (aQ 1 Q (cY 0 Q Q Q (aH 7 Q (aL a (λc=>([(3,.d (.int .i64 c))])) (λc=>[]) [3] [] Q (λp a=>?_) (λc a=>?_)))));refine bO 5 Q (aX a (λ(e,f)=>([(3,.d (.int .i64 e)),(4,.d (.int .i64 f))])) (λ(e,f)=>[]) [3,4] [1] [0] k0 Q (λs q a l=>?_));obtain⟨e,f⟩:=s;refine aC [1,3,4] Q (aQ 5 Q (aW TK Q (aH 3 Q (bK a Q (λi a=>?_) (λi a=>?_)))));exact aK 9 Q (VE a λm j a=>bN Q (Ex TK Q Q Q Q j (Ab.Ah _)) (aI 1 Q (cW a (ih ·) Q λn a=>bN Q (H1 Q Q Q Q) (aI 6 Q (GE a λg a=>bF Q g (aG 2 Q (bU [0] a Q Q)))))));refine aM 2 Q (IE a λo a k=>?_);rw[l _ k]at a;exact WX (bM 1 Q (bI [0] a Q Q));exact aC [3] Q (aK 2 Q (GE a λh a=>bF Q h (aG 4 Q (bD a Q))))
theorem J5{a:Ab}{r:Int}(b:bl a=some r):RetN TP 48 [a.enc] (.int .i64 r):=Hv eO b
theorem J0:∀(fu:Nat){c:Ab}{e:Int}{r:Bool}(a:nN fu c e=some r),RetN TP 49 [c.enc,.int .i64 e] (.bool (r)):=by
 intro fu
 induction fu with
 |zero=>
  intro c e r a;unfold nN at a;cases a
 |succ fu ih=>
  intro c e r a;refine .unit (aN (bE Q) func49 Q ntmps49 Q Q (λwX gX=>?_)) Q;unfold nN at a;refine aC [0,1] Q (aQ 1 Q (cY 0 Q Q Q (aI 6 Q (aW TK Q (aH 3 Q (cJ a (λ_=>[]) (λ_=>[]) [] [1,2,5] Q (λN a f=>?_) (λj a=>?_)))))));refine bO 6 Q (aL a (λi=>([(12,.d (.bool (i)))])) (λi=>[]) [12] [1,2,5,11] Q (λR a=>?_) (λi a=>?_))
  ·refine bO 5 Q (bK a Q (λv a=>?_) (λv a=>?_))
   ·exact aM 1 Q (bI [0] a Q Q)
   exact aM 4 Q (bI [0] a Q Q)
  refine aC [1,2,5,11,12] Q (cI a Q (λw a=>?_) (λw a=>?_))
  ·refine hO [(4,.d (.bool (((decide (c.var=0))&&(decide ((c.args.length:Int)=0))))))] [4] [] Q ?_ ?_
   ·refine aQ 4 Q (SB TK Q (λB m=>?_));cases B;refine aG 5 Q ?_;exact⟨[0],Q,k0,bT (aR (aU (by simp[m])) Q) Q⟩;refine aG 5 Q ?_;exact⟨[0],Q,k0,bT (aR (aU (by simp[m])) Q) Q⟩
   refine aC [4] Q (aM 2 Q (IE a λM a b=>?_));rw[f _ b]at a;exact WR (bD a Q)
  refine cH 5 Q (bK a Q (λx a=>?_) (λx a=>?_))
  ·refine hO [(4,.d (.bool (((decide (0<=c.var))&&((decide (c.var<e))&&(decide ((c.args.length:Int)=0)))))))] [4] [] Q ?_ ?_
   ·refine aQ 4 Q (SB TK Q (λC g=>?_));cases C;refine aG 11 Q ?_;exact⟨[0],Q,k0,bT (aR (aU (by simp[g])) Q) Q⟩;refine aI 5 Q (SB TK Q (λA l=>?_));cases A;refine aG 5 Q ?_;exact⟨[0],Q,k0,bT (aR (aU (by simp[g,l])) Q) Q⟩;refine aG 5 Q ?_;exact⟨[0],Q,k0,bT (aR (aU (by simp[g,l])) Q) Q⟩
   refine aC [4] Q (aM 2 Q (IE a λG a b=>?_));rw[f _ b]at a;exact WR (bD a Q)
  refine cH 5 Q (bK a Q (λp a=>?_) (λp a=>?_))
  ·refine cH 5 Q (qV a Q (λq a=>?_) (λq a=>?_))
   ·refine aM 6 Q (IE a λH a b=>?_);rw[f _ b]at a;exact WR (bD a Q)
   exact aM 2 Q (bU [0] a Q Q)
  refine cH 6 Q (bK a Q (λk a=>?_) (λk a=>?_))
  ·exact cH 2 Q (twp_hyp Q true k (aM 2 Q (bU [0] a Q Q)))
  refine cH 5 Q (bK a Q (λs a=>?_) (λs a=>?_))
  ·exact aM 2 Q (bU [0] a Q Q)
  refine aM 6 Q (IE a λI a b=>?_);rw[f _ b]at a;exact WR (bD a Q);refine aC [1,2,5] Q (cJ a (λ_=>[]) (λ_=>[]) [] [2] Q (λO a z=>?_) (λj a=>?_))
  ·refine bO 5 Q (aX a (λh=>([(6,.d (.int .i64 h))])) (λh=>[]) [6] [1,2,5] [0] k0 Q (λh P a n=>aC [1,2,5,6] Q (bO 7 Q (bK a Q (λt a=>?_) (λt a=>?_)))))
   ·refine aK 8 Q (VE a λE y a=>bN Q (Ex TK Q Q Q Q y (Ab.Ah _)) (aI 2 Q (cW a (ih ·) Q λF a=>aH 3 Q (cI a Q (λu a=>?_) (λu a=>?_)))))
    ·refine cH 4 Q (aC [4] Q (aM 3 Q (IE a λJ a b=>?_)));rw[n _ b]at a;refine WR (bM 1 Q (IE a λK a b=>?_));rw[z _ b]at a;exact WR (bD a Q)
    exact aK 5 Q (GE a λo a=>bF Q o (aG 2 Q (bU [0] a Q Q)))
   refine aM 2 Q (IE a λL a b=>?_);rw[n _ b]at a;exact WX (bM 1 Q (bU [0] a Q Q))
  exact aC [2] Q (aM 8 Q (bD a Q))
theorem Mx{a:Ab}{b:Int}{r:Bool}(c:gy a b=some r):RetN TP 49 [a.enc,.int .i64 b] (.bool (r)):=J0 eO c
theorem J1{f:Ab}{g:Int}{r:Bool}(a:vO f g=some r):RetN TP 15 [f.enc,.int .i64 g] (.bool (r)):=by
 refine .unit (aN (bE Q) func15 Q ntmps15 Q Q (λwX gX=>?_)) Q;unfold vO at a;refine aC [0,1] Q (aQ 1 Q (cY 0 Q Q Q (aH 3 Q (aL a (λb=>([(4,.d (.bool (b)))])) (λb=>[]) [4] [] Q (λm a=>?_) (λb a=>?_)))));refine aQ 2 Q (cW a (My ·) Q λj a=>aI 1 Q (SB TK Q (λh c=>?_)));cases h;replace a:=JF c a;exact aG 11 Q (bI [0] a Q Q);replace a:=JT c a;refine aI 1 Q (cW a (J5 ·) Q λk a=>aI 2 Q (SB TK Q (λi e=>?_)));cases i;replace a:=JF e a;exact aG 6 Q (bI [0] a Q Q);replace a:=JT e a;exact aI 2 Q (cW a (Mx ·) Q λl a=>aG 3 Q (bI [0] a Q Q));exact aC [4] Q (aM 1 Q (bD a Q))
theorem J4:∀(fu:Nat){e:Ab}{f:(List Bool)} {r:Bool} (a:mG fu e f=some r),RetN TP 16 [e.enc,.sl 1 (f.map D.bool)] (.bool (r)):=by
 intro fu
 induction fu with
 |zero=>
  intro e f r a;unfold mG at a;cases a
 |succ fu ih=>
  intro e f r a;refine .unit (aN (bE Q) func16 Q ntmps16 Q Q (λwX gX=>?_)) Q;unfold mG at a;refine aC [0,1] Q (aQ 1 Q (cY 0 Q Q Q (aH 3 Q (cJ a (λ_=>[]) (λ_=>[]) [] [] Q (λU a c=>?_) (λj a=>?_)))));refine bO 11 Q (bK a Q (λs a=>?_) (λs a=>?_))
  ·refine aM 6 Q (IE a λN a b=>?_);rw[c _ b]at a;exact WR (bD a Q)
  refine cH 5 Q (bK a Q (λx a=>?_) (λx a=>?_))
  ·refine aL a (λk=>([(4,.d (.bool (k)))])) (λk=>[]) [4] [] Q (λZ a=>?_) (λk a=>?_)
   ·refine aQ 4 Q (SB TK Q (λE m=>?_));cases E;replace a:=JF m a;exact aG 15 Q (bI [0] a Q Q);replace a:=JT m a;refine aI 3 Q (aW TK Q (aI 2 Q (SB TK Q (λF n=>?_))));cases F;replace a:=JF n a;exact aG 8 Q (bI [0] a Q Q);replace a:=JT n a;exact aI 3 Q (VE a λI A a=>dN TK Q A (aG 4 Q (bI [0] a Q Q)))
   refine aC [4] Q (aM 2 Q (IE a λL a b=>?_));rw[c _ b]at a;exact WR (bD a Q)
  refine cH 5 Q (bK a Q (λq a=>?_) (λq a=>?_))
  ·refine aL a (λh=>([(4,.d (.bool (h)))])) (λh=>[]) [4] [] Q (λV a=>?_) (λh a=>?_)
   ·refine aQ 3 Q (aW TK Q (aI 1 Q (SB TK Q (λC l=>?_))));cases C;replace a:=JF l a;exact aG 10 Q (bI [0] a Q Q);replace a:=JT l a;exact aI 2 Q (VE a λG y a=>bN Q (Ex TK Q Q Q Q y (Ab.Ah _)) (aI 2 Q (cW a (ih ·) Q λJ a=>aG 4 Q (bI [0] a Q Q))))
   refine aC [4] Q (aM 2 Q (IE a λM a b=>?_));rw[c _ b]at a;exact WR (bD a Q)
  refine aL a (λi=>([(44,.d (.bool (i)))])) (λi=>[]) [44] [1,2] Q (λW a=>?_) (λi a=>?_)
  ·refine bO 5 Q (bK a Q (λt a=>?_) (λt a=>?_))
   ·exact aM 1 Q (bI [0] a Q Q)
   exact aM 4 Q (bI [0] a Q Q)
  refine aC [1,2,44] Q (cI a Q (λu a=>?_) (λu a=>?_))
  ·refine cJ a (λ_=>[]) (λ_=>[]) [] [2] Q (λX a B=>?_) (λj a=>?_)
   ·refine bO 5 Q (aX a (λg=>([(5,.d (.int .i64 g))])) (λg=>[]) [5] [1,2] [0] k0 Q (λg Y a o=>aC [1,2,5] Q (aQ 5 Q (aW TK Q (aH 3 Q (bK a Q (λv a=>?_) (λv a=>?_)))))))
    ·refine cH 4 Q (bR follows ?_);iterate 3 (refine DA [0] TK Q ?_)
     refine VE a λH z a=>aV [0] Q (Ex TK Q Q Q Q z (Ab.Ah _)) ?_;iterate 2 (refine DA [0] TK Q ?_)
     refine gI [0] a (ih ·) Q λK a=>?_;iterate 4 (refine DA [0] TK Q ?_)
     refine DT ?_ (by kernel_rfl);refine aH 2 Q (aC [1,2,5,64] Q (cI a Q (λw a=>?_) (λw a=>?_)));refine aM 10 Q (IE a λO a b=>?_);rw[o _ b]at a;refine WR (bM 1 Q (IE a λP a b=>?_));rw[B _ b]at a;refine WR (bM 1 Q (IE a λR a b=>?_));rw[c _ b]at a;exact WR (bD a Q);exact aK 5 Q (GE a λp a=>bF Q p (aG 2 Q (bU [0] a Q Q)))
    refine aM 2 Q (IE a λS a b=>?_);rw[o _ b]at a;exact WX (bM 1 Q (bU [0] a Q Q))
   refine aC [2] Q (aM 9 Q (IE a λT a b=>?_));rw[c _ b]at a;exact WR (bD a Q)
  exact aM 2 Q (bU [0] a Q Q);exact aC [] Q (aM 5 Q (bD a Q))
theorem Mz{a:Ab}{b:(List Bool)}{r:Bool}(c:ka a b=some r):RetN TP 16 [a.enc,.sl 1 (b.map D.bool)] (.bool (r)):=J4 eO c
theorem Mt{e:Program}{a:Ap}{r:Bool}(b:yQ e a=some r):RetN TP 124 [e.enc,a.enc] (.bool (r)):=by
 refine .unit (aN (bE Q) func124 Q ntmps124 Q Q (λwX gX=>?_)) Q;unfold yQ at b;refine aC [0,1] Q (aQ 1 Q (cY 0 Q Q Q (cY 1 Q Q Q (aH 4 Q ?_))));refine hO [(27,.d (.bool ((bif !(decide (a.kind=1))then((!(decide (a.kind=2)))||((decide (a.var<e.inputs))||(decide ((e.names.length:Int)<=a.var))))else((decide (a.var<e.inputs))||(decide ((e.names.length:Int)<=a.var)))))))] [27] [2,3] Q ?_ ?_;refine aQ 4 Q (SB TK Q (λq f=>?_));cases q;refine aI 11 Q (SB TK Q (λu l=>?_));cases u;refine aI 4 Q (aW TK Q (aG 3 Q ?_));exact⟨[0,1],Q,k0,bT (aR (aU (by simp[f,l])) Q) Q⟩;refine aG 8 Q ?_;exact⟨[0,1],Q,k0,bT (aR (aU (by simp[f,l])) Q) Q⟩;refine aI 4 Q (SB TK Q (λv i=>?_));cases v;refine aI 6 Q (SB TK Q (λw m=>?_));cases w;refine aI 4 Q (aW TK Q (aG 3 Q ?_));exact⟨[0,1],Q,k0,bT (aR (aU (by simp[f,i,m])) Q) Q⟩;refine aG 8 Q ?_;exact⟨[0,1],Q,k0,bT (aR (aU (by simp[f,i,m])) Q) Q⟩;refine aG 15 Q ?_;exact⟨[0,1],Q,k0,bT (aR (aU (by simp[f,i])) Q) Q⟩;refine aC [2,3,27] Q (cI b Q (λp b=>?_) (λp b=>?_))
 ·exact aM 6 Q (bD b Q)
 refine cH 3 Q ?_;refine hO [(50,.d (.bool ((bif decide (a.kind=1)then((!(decide (a.A1=0)))||((decide (a.kind=2))&&((decide (a.A1<1))||(decide (1073741824<a.A1)))))else((decide (a.kind=2))&&((decide (a.A1<1))||(decide (1073741824<a.A1))))))))] [50] [2,3] Q ?_ ?_;refine aQ 4 Q (SB TK Q (λx c=>?_));cases x;refine aI 8 Q (SB TK Q (λy j=>?_));cases y;refine aG 11 Q ?_;exact⟨[0,1],Q,k0,bT (aR (aU (by simp[c,j])) Q) Q⟩;refine aI 3 Q (SB TK Q (λz n=>?_));cases z;refine aG 7 Q ?_;exact⟨[0,1],Q,k0,bT (aR (aU (by simp[c,j,n])) Q) Q⟩;refine aG 7 Q ?_;exact⟨[0,1],Q,k0,bT (aR (aU (by simp[c,j,n])) Q) Q⟩;refine aI 4 Q (SB TK Q (λA g=>?_));cases A;refine aI 3 Q (SB TK Q (λs h=>?_));cases s;refine aG 11 Q ?_;exact⟨[0,1],Q,k0,bT (aR (aU (by simp[c,g,h])) Q) Q⟩;refine aI 3 Q (SB TK Q (λt k=>?_));cases t;refine aG 7 Q ?_;exact⟨[0,1],Q,k0,bT (aR (aU (by simp[c,g,h,k])) Q) Q⟩;refine aG 7 Q ?_;exact⟨[0,1],Q,k0,bT (aR (aU (by simp[c,g,h,k])) Q) Q⟩;refine aG 15 Q ?_;exact⟨[0,1],Q,k0,bT (aR (aU (by simp[c,g])) Q) Q⟩;refine aC [2,3,50] Q (cI b Q (λo b=>?_) (λo b=>?_))
 ·exact aM 6 Q (bD b Q)
 exact aK 7 Q (aW TK Q (cW b (J1 ·) Q λB b=>aG 4 Q (bD b Q)))
theorem yp{c:Program}{r:Int}(a:sW c=some r):RetN TP 58 [c.enc] (.int .i64 r):=by
 refine .unit (aN (bE Q) func58 Q ntmps58 Q Q (λwX gX=>?_)) Q;unfold sW at a;refine aC [0] Q (aQ 1 Q (cY 0 Q Q Q (aI 7 Q (aW TK Q (aH 3 Q (bK a Q (λo a=>?_) (λo a=>?_)))))));exact aM 6 Q (bD a Q);refine cH 3 Q ?_;refine hO [(20,.d (.bool (((decide (c.inputs<0))||(decide ((c.names.length:Int)<c.inputs))))))] [20] [1] Q ?_ ?_;refine aQ 4 Q (SB TK Q (λC g=>?_));cases C;refine aI 4 Q (aW TK Q (aG 3 Q ?_));exact⟨[0],Q,k0,bT (aR (aU (by simp[g])) Q) Q⟩;refine aG 8 Q ?_;exact⟨[0],Q,k0,bT (aR (aU (by simp[g])) Q) Q⟩;refine aC [1,20] Q (cI a Q (λu a=>?_) (λu a=>?_))
 ·exact aM 6 Q (bD a Q)
 refine cH 2 Q (cJ a (λ_=>[]) (λ_=>[]) [] [1] Q (λW a B=>?_) (λj a=>?_))
 ·refine bO 5 Q (aX a (λf=>([(3,.d (.int .i64 f))])) (λf=>[]) [3] [1] [0] k0 Q (λf X a k=>aC [1,3] Q (aQ 5 Q (aW TK Q (aH 3 Q (bK a Q (λv a=>?_) (λv a=>?_)))))))
  ·refine cH 4 Q (bR follows ?_);iterate 4 (refine DA [0] TK Q ?_)
   refine VE a λG y a=>aV [0] Q (eW TK Q Q Q Q y) (DA [0] TK Q (gI [0] a (Mt ·) Q λH a=>DA [0] TK Q ?_));refine DT ?_ (by kernel_rfl);refine aH 2 Q (cI a Q (λp a=>?_) (λp a=>?_));refine cH 4 Q (aC [2] Q (aM 3 Q (IE a λI a b=>?_)));rw[k _ b]at a;refine WR (bM 1 Q (IE a λJ a b=>?_));rw[B _ b]at a;exact WR (bD a Q);exact aK 5 Q (GE a λl a=>bF Q l (aG 2 Q (bU [0] a Q Q)))
  refine aM 2 Q (IE a λK a b=>?_);rw[k _ b]at a;exact WX (bM 1 Q (bU [0] a Q Q))
 refine aC [1] Q (cJ a (λ_=>[]) (λ_=>[]) [] [] Q (λS a z=>?_) (λj a=>?_))
 ·refine bO 5 Q (aX a (λe=>([(4,.d (.int .i64 e))])) (λe=>[]) [4] [1] [0] k0 Q (λe T a h=>aC [1,4] Q (aQ 5 Q (aW TK Q (aH 3 Q (bK a Q (λq a=>?_) (λq a=>?_)))))))
  ·refine cH 2 Q (cJ a (λ_=>[]) (λ_=>[]) [] [1,4] Q (λU a A=>?_) (λj a=>?_))
   ·refine bO 6 Q (aX a (λk23=>([(5,.d (.int .i64 k23))])) (λk23=>[]) [5] [1,4] [0] k0 Q (λk23 V a i=>aC [1,4,5] Q (bO 7 Q (bK a Q (λs a=>?_) (λs a=>?_)))))
    ·refine cH 4 Q (bR follows ?_);iterate 3 (refine DA [0] TK Q ?_)
     refine VE a λE w a=>aV [0] Q (eW TK Q Q Q Q w) ?_;iterate 5 (refine DA [0] TK Q ?_)
     refine VE a λF x a=>aV [0] Q (eW TK Q Q Q Q x) ?_;iterate 3 (refine DA [0] TK Q ?_)
     refine DT ?_ (by kernel_rfl);refine aH 2 Q (aC [1,4,5,60] Q (bK a Q (λt a=>?_) (λt a=>?_)));refine aM 7 Q (IE a λL a b=>?_);rw[i _ b]at a;refine WR (bM 2 Q (IE a λM a b=>?_));rw[A _ b]at a;refine WR (IE a λN a b=>?_);rw[h _ b]at a;refine WR (bM 1 Q (IE a λO a b=>?_));rw[z _ b]at a;exact WR (bD a Q);exact aK 5 Q (GE a λm a=>bF Q m (aG 2 Q (bU [0] a Q Q)))
    refine aM 2 Q (IE a λP a b=>?_);rw[i _ b]at a;exact WX (bM 2 Q (bU [0] a Q Q))
   exact aC [1,4] Q (aK 2 Q (GE a λn a=>bF Q n (aG 2 Q (bU [0] a Q Q))))
  refine aM 2 Q (IE a λR a b=>?_);rw[h _ b]at a;exact WX (bM 1 Q (bU [0] a Q Q))
 exact aC [] Q (aM 5 Q (bD a Q))
theorem Mw{l:Program}{m:Machine}{r:Bool}(a:yS l m=some r):RetN TP 24 [l.enc,m.enc] (.bool (r)):=by
 refine .unit (aN (bE Q) func24 Q ntmps24 Q Q (λwX gX=>?_)) Q;unfold yS at a;refine aC [0,1] Q (aQ 1 Q (cY 0 Q Q Q (cY 1 Q Q Q (aH 4 Q (aL a (λe=>([(26,.d (.bool (e)))])) (λe=>[]) [26] [2,3] Q (λJ a=>?_) (λe a=>?_))))));refine aQ 2 Q (cW a (yp ·) Q λC a=>aI 1 Q (SB TK Q (λx h=>?_)));cases x;replace a:=cw h a;refine aI 2 Q (aW TK Q (aI 2 Q (aW TK Q (aI 2 Q (SB TK Q (λy i=>?_))))));cases y;replace a:=cw i a;exact aI 2 Q (aW TK Q (aI 2 Q (aW TK Q (aG 3 Q (bI [0,1] a Q Q)))));replace a:=cv i a;exact aG 9 Q (bI [0,1] a Q Q);replace a:=cv h a;exact aG 18 Q (bI [0,1] a Q Q);refine aC [2,3,26] Q (cI a Q (λq a=>?_) (λq a=>?_))
 ·exact aM 6 Q (bD a Q)
 refine cH 2 Q (cJ a (λ_=>[]) (λ_=>[]) [] [] Q (λK a v=>?_) (λj a=>?_))
 ·refine bO 5 Q (aX a (λc=>([(5,.d (.int .i64 c))])) (λc=>[]) [5] [2,3] [0,1] k0 Q (λc H a k=>aC [2,3,5] Q (aQ 5 Q (aW TK Q (aH 3 Q (bK a Q (λo a=>?_) (λo a=>?_)))))))
  ·refine cH 4 Q (aL a (λf=>([(53,.d (.bool (f)))])) (λf=>[]) [53] [2,3,5] Q (λI a=>?_) (λf a=>?_))
   ·refine gT follows ?_;iterate 3 (refine DA [0,1] TK Q ?_)
    refine VE a λz s a=>aV [0,1] Q (eW TK Q Q Q Q s) ?_;iterate 2 (refine DA [0,1] TK Q ?_)
    refine uP [0,1] TK Q (λw g=>?_);cases w;replace a:=JF g a;iterate 3 (refine DA [0,1] TK Q ?_)
    refine VE a λA t a=>aV [0,1] Q (eW TK Q Q Q Q t) ?_;iterate 4 (refine DA [0,1] TK Q ?_)
    refine VE a λB u a=>aV [0,1] Q (eW TK Q Q Q Q u) ?_;iterate 4 (refine DA [0,1] TK Q ?_)
    refine DT ?_ (by kernel_rfl);exact aG 1 Q (bI [0,1] a Q Q);replace a:=JT g a;iterate 13 (refine DA [0,1] TK Q ?_)
    refine DT ?_ (by kernel_rfl);exact aG 1 Q (bI [0,1] a Q Q)
   refine aC [2,3,5,53] Q (cI a Q (λp a=>?_) (λp a=>?_))
   ·refine aM 7 Q (IE a λE a b=>?_);rw[k _ b]at a;refine WR (bM 1 Q (IE a λF a b=>?_));rw[v _ b]at a;exact WR (bD a Q)
   exact aK 5 Q (GE a λn a=>bF Q n (aG 2 Q (bU [0,1] a Q Q)))
  refine aM 2 Q (IE a λG a b=>?_);rw[k _ b]at a;exact WX (bM 1 Q (bU [0,1] a Q Q))
 exact aC [] Q (aM 5 Q (bD a Q))
theorem yo{b:Program}{r:Machine}(a:sV b=some r):RetD TP 29 [b.enc] (r.enc):=by
 refine .of (mv:=λ_=>false) (aN (bE Q) func29 Q ntmps29 Q Q (λwX gX=>?_));unfold sV at a;refine aC [0] Q (aQ 1 Q (cY 0 Q Q Q (cS 1 Q Q ge Q (cL 1 [some 1,some 1,none] Q Q (aI 5 Q (cW a (yp ·) Q λh a=>aH 3 Q (qV a Q (λg a=>?_) (λg a=>?_))))))));refine aK 1 Q (bN Q (cK Q Zl ge Q Q Q Q) (Mo 6 [some 1,some 1,none] Q (aG 5 Q ?_)));obtain rfl:=OJ a;exact EndsS.cellR _ TK Q Q Q Q Q (.d _);refine cH 2 Q (bR follows ?_);iterate 2 (refine DA [0,1] TK Q ?_)
 refine aV [0,1] Q (yD TK Q Q Q) (GE a λc a=>aV [0,1] Q (x_make (f:=D.bool) (x:=false) TK Q Q lU Q Q Q Q Q c Q) ?_);iterate 2 (refine DA [0,1] TK Q ?_)
 refine aV [0,1] Q (yD TK Q Q Q) (GE a λe a=>aV [0,1] Q (x_make (f:=(D.int .i64)) (x:=(0:Int)) TK Q Q gA Q Q Q Q Q e Q) (aV [0,1] Q (cK Q Zl ge Q Q Q Q) ?_));refine DT ?_ (by kernel_rfl);refine aG 4 Q ?_;obtain rfl:=OJ a;exact EndsS.cellR _ TK Q Q Q Q Q (.d _)
theorem Mv{b:Program}{r:Machine}(a:yR b=some r):RetD TP 62 [b.enc] (r.enc):=by
 refine .of (mv:=λ_=>false) (aN (bE Q) func62 Q ntmps62 Q Q (λwX gX=>?_));unfold yR at a;refine aC [0] Q (aQ 1 Q (cY 0 Q Q Q (cS 1 Q Q ge Q (cL 1 [some 1,some 1,none] Q Q (aI 4 Q (fA a (yo ·) Q λc a=>cS 2 Q Q ge Q (cL 2 [some 1,some 1,none] Q Q (aG 14 Q ?_))))))));obtain rfl:=OJ a;exact EndsS.cellR _ TK Q Q Q Q Q (.d _)
theorem Mu{F:Program}{q:Machine}{G:(List Bool)}{r:Machine}(a:qK F q G=some r):RetD TP 25 [F.enc,q.enc,.sl 1 (G.map D.bool)] (r.enc):=by
 refine .of (mv:=λ_=>false) (aN (bE Q) func25 Q ntmps25 Q Q (λwX gX=>?_));unfold qK at a;refine aC [0,1,2] Q (aQ 1 Q (cY 0 Q Q Q (cY 1 Q Q Q (cS 2 Q Q ge Q (cL 2 [some 1,some 1,none] Q Q (aH 3 Q (aL a (λv=>([(21,.d (.bool (v)))])) (λv=>[]) [21] [2,3,4,6] Q (λb2 a=>?_) (λv a=>?_))))))));refine aQ 3 Q (cW a (Mw ·) Q λa5 a=>aI 1 Q (SB TK Q (λZ E=>?_)));cases Z;replace a:=JB E a;exact aG 4 Q (bI [0,1,2] a Q Q);replace a:=JA E a;exact aG 4 Q (bI [0,1,2] a Q Q);refine aC [2,3,4,6,21] Q (cI a Q (λS a=>?_) (λS a=>?_))
 ·refine aK 2 Q (fA a (Mv ·) Q λa7 a=>aG 5 Q ?_);obtain rfl:=OJ a;exact EndsS.cellR _ TK Q Q Q Q Q (.d _)
 refine aK 3 Q (vn (f:=D.bool) 3 [] ([]:List Bool) TK Q Q Q lU Q Q Q Q Q (aI 2 Q (GE a λL a=>cG (f:=D.bool) q.vars TK Q Q lU Q Q Q Q Q (λh=>absurd h (mQ _)) Q cB L Q Q (aI 4 Q (vn (f:=(D.int .i64)) 4 [] ([]:List Int) TK Q Q Q gA Q Q Q Q Q (aI 2 Q (GE a λM a=>cG (f:=(D.int .i64)) q.counts TK Q Q gA Q Q Q Q Q (λh=>absurd h (mQ _)) Q cB M Q Q (aH 3 Q (aC [2,3,6,7,8] Q (aL a (λp=>([(7,.msl 3 1 0 p.length)])) (λp=>([(3,.flat 4 1 (p.map D.bool))])) [7] [3,6,8] Q (λb0 a=>?_) (λp a=>?_)))))))))))
 ·refine bO 5 Q (aX a (λ(c,b)=>([(7,.msl 3 1 0 b.length),(9,.d (.int .i64 c))])) (λ(c,b)=>([(3,.flat 4 1 (b.map D.bool))])) [7,9] [2,3,6,8] [0,1,2,3,4] k0 Q (λs b1 a W=>?_));obtain⟨c,b⟩:=s;refine aC [2,3,6,7,8,9] Q (bO 8 Q (bK a Q (λN a=>?_) (λN a=>?_)));refine aK 9 Q (aW TK Q (aI 1 Q (SB TK Q (λY C=>?_))));cases Y;replace a:=JF C a;exact aI 5 Q (VE a λa0 x a=>bN Q (rH TK Q Q Q Q x Q) (E2 (x':=false) TK Q Q Q Q Q x.2 Q Q Q (bh 7 (b.set c.toNat false).length Q zal79q.symm (bh 38 (b.set c.toNat false).length Q zal79q.symm (aH 3 Q (aC [2,3,6,7,8,9] Q (aK 2 Q (GE a λH a=>bF Q H (aG 2 Q (bU [0,1,2,3,4] a Q Q))))))))));replace a:=JT C a;exact aI 2 Q (VE a λt T a=>dN TK Q T (aI 2 Q (VE a λa1 y a=>bN Q (rH TK Q Q Q Q y Q) (E2 (x':=t) TK Q Q Q Q Q y.2 Q Q Q (bh 7 (b.set c.toNat t).length Q zal79q.symm (bh 38 (b.set c.toNat t).length Q zal79q.symm (aH 3 Q (aC [2,3,6,7,8,9] Q (aK 2 Q (GE a λI a=>bF Q I (aG 2 Q (bU [0,1,2,3,4] a Q Q))))))))))));refine aM 2 Q (IE a λa8 a u=>?_);rw[W _ u]at a;exact WX (bM 1 Q (bI [0,1,2,3,4] a Q Q))
 refine aC [3,6,7,8] Q (aL a (λ(m,n)=>([(7,.msl 3 1 0 m.length),(8,.msl 4 1 0 n.length)])) (λ(m,n)=>([(3,.flat 4 1 (m.map D.bool)),(4,.flat 3 1 (n.map (D.int .i64)))])) [7,8] [6] Q (λb3 a=>?_) (λj a=>?_))
 ·refine bO 5 Q (aX a (λ(l,e,g)=>([(7,.msl 3 1 0 e.length),(8,.msl 4 1 0 g.length),(10,.d (.int .i64 l))])) (λ(l,e,g)=>([(3,.flat 4 1 (e.map D.bool)),(4,.flat 3 1 (g.map (D.int .i64)))])) [7,8,10] [3,6] [0,1,2,3,4] k0 Q (λs b4 a X=>?_));obtain⟨l,e,g⟩:=s;refine aC [3,6,7,8,10] Q (aQ 5 Q (aW TK Q (aH 3 Q (bK a Q (λO a=>?_) (λO a=>?_)))));refine aK 8 Q (VE a λw U a=>dN TK Q U (aI 1 Q (cS 5 Q Q jN Q (cL 5 [none,none,none,none,none,some 3] Q Q (aH 3 Q (aC [3,6,7,8,10,11] Q (aK 4 Q (BE a λa6 V a=>bN Q (RN Q Q (SC (.d _) (SC (cO Q) SN)) (Mz V)) (aH 3 Q (aL a (λ(k,o)=>([(8,.msl 4 1 0 o.length),(12,.d (.bool (k)))])) (λ(k,o)=>([(4,.flat 3 1 (o.map (D.int .i64)))])) [8,12] [3,6,7,10,11] Q (λb5 a=>?_) (λj a=>?_)))))))))))
  ·refine bO 6 Q (bK a Q (λP a=>?_) (λP a=>?_))
   ·refine cH 4 Q (aL a (λi=>([(13,.d (.int .i64 i))])) (λi=>[]) [13] [3,6,7,8,10,11] Q (λb6 a=>?_) (λi a=>?_))
    ·refine bO 4 Q (cI a Q (λR a=>?_) (λR a=>?_))
     ·refine dP follows ?_;iterate 2 (refine DA [0,1,2,3,4,5] TK Q ?_)
      refine VE a λa2 z a=>aV [0,1,2,3,4,5] Q (rH TK Q Q Q Q z Q) (aV [0,1,2,3,4,5] Q (wQ TK Q Q Q Q z.2 Q) (GE a λJ a=>aV [0,1,2,3,4,5] Q (tL Q Q Q Q J) ?_));iterate 2 (refine DA [0,1,2,3,4,5] TK Q ?_)
      refine aV [0,1,2,3,4,5] Q (rd_min Q Q Q Q) ?_;refine DT ?_ (by kernel_rfl);exact aG 2 Q (bI [0,1,2,3,4,5] a Q Q)
     exact aM 1 Q (bI [0,1,2,3,4,5] a Q Q)
    exact aC [3,6,7,8,10,11,13] Q (aK 4 Q (VE a λa3 A a=>bN Q (rH TK Q Q Q Q A Q) (E2 (x':=i) TK Q Q Q Q Q A.2 Q Q Q (bh 8 (g.set l.toNat i).length Q zal79q.symm (bh 79 (g.set l.toNat i).length Q zal79q.symm (aH 2 Q (aC [3,6,7,8,10,11,13] Q (aM 7 Q (bI [0,1,2,3,4,5] a Q Q)))))))))
   exact aM 1 Q (bI [0,1,2,3,4,5] a Q Q)
  obtain⟨k,o⟩:=j;exact aC [3,6,7,8,10,11,12] Q (aK 5 Q (VE a λa4 B a=>bN Q (rH TK Q Q Q Q B Q) (E2 (x':=k) TK Q Q Q Q Q B.2 Q Q Q (bh 7 (e.set w.var.toNat k).length Q zal79q.symm (bh 87 (e.set w.var.toNat k).length Q zal79q.symm (aH 3 Q (aC [3,6,7,8,10] Q (aK 2 Q (GE a λK a=>bF Q K (aG 2 Q (bU [0,1,2,3,4] a Q Q)))))))))));refine aM 2 Q (IE a λa9 a u=>?_);rw[X _ u]at a;exact WX (bM 1 Q (bI [0,1,2,3,4] a Q Q))
 obtain⟨m,n⟩:=j;refine aC [6,7,8] Q (aK 3 Q (bN Q (kX Q Zl ge Q Q Q Q) (aH 3 Q (aC [6] Q (aM 1 Q ?_)))));obtain rfl:=OJ a;exact EndsS.cellR _ TK Q Q Q Q Q (jS (.cons (cO Q) Q (.cons (cO Q) Q (.cons (.d _) Q .nil))))
theorem Vm{a:Aq}{r:Bool}(f:xu a=some r):RetN TP 27 [a.enc] (.bool (r)):=by
 refine .unit (aN (bE Q) func27 Q ntmps27 Q Q (λwX gX=>?_)) Q;unfold xu at f;refine aC [0] Q (aQ 1 Q (cY 0 Q Q Q (aH 3 Q (hO [(2,.d (.bool (((decide ((a.Aa.length:Int)<=60))&&((decide ((a.Ar.length:Int)<=60))&&((decide ((a.joints.length:Int)<=100))&&((decide ((a.Au.length:Int)<=60))&&(decide ((a.balises.length:Int)<=60)))))))))] [2] [] Q ?_ ?_))));refine aQ 3 Q (aW TK Q (aI 1 Q (SB TK Q (λh b=>?_))));cases h;refine aG 25 Q ?_;exact⟨[0],Q,k0,bT (aR (aU (by simp[b])) Q) Q⟩;refine aI 2 Q (aW TK Q (aI 2 Q (SB TK Q (λi c=>?_))));cases i;refine aG 19 Q ?_;exact⟨[0],Q,k0,bT (aR (aU (by simp[b,c])) Q) Q⟩;refine aI 2 Q (aW TK Q (aI 2 Q (SB TK Q (λj e=>?_))));cases j;refine aG 13 Q ?_;exact⟨[0],Q,k0,bT (aR (aU (by simp[b,c,e])) Q) Q⟩;refine aI 2 Q (aW TK Q (aI 2 Q (SB TK Q (λk g=>?_))));cases k;refine aG 7 Q ?_;exact⟨[0],Q,k0,bT (aR (aU (by simp[b,c,e,g])) Q) Q⟩;refine aI 2 Q (aW TK Q (aG 4 Q ?_));exact⟨[0],Q,k0,bT (aR (aU (by simp[b,c,e,g])) Q) Q⟩;exact aC [2] Q (aM 1 Q (bD f Q))
theorem Hu{A:Al}{B:A8}{r:(List Bool)}(a:tT A B=some r):RetD TP 30 [A.enc,B.enc] (.sl 1 (r.map D.bool)):=by
 refine .of (mv:=λ_=>false) (aN (bE Q) func30 Q ntmps30 Q Q (λwX gX=>?_));unfold tT at a;refine aC [0,1] Q (aQ 1 Q (cY 0 Q Q Q (cY 1 Q Q Q (aI 6 Q (cW a (yq ·) Q λc4 a=>aH 3 Q (qV a Q (λa4 a=>?_) (λa4 a=>?_)))))));refine cH 4 Q (I6 4 [some 1] Q (aM 2 Q ?_));obtain rfl:=OJ a;exact EndsS.one _ Q (.d _) (.refl _);refine aK 3 Q (gU (f:=D.bool) 2 4 1 Q Q Q (aH 2 Q (aL a (λg=>([(5,.msl 2 1 0 g.length)])) (λg=>([(2,.flat 4 1 (g.map D.bool))])) [5] [2,3] Q (λd3 a=>?_) (λg a=>?_))))
 ·refine bO 5 Q (aX a (λ(t,o)=>([(5,.msl 2 1 0 o.length),(6,.d (.int .i64 t))])) (λ(t,o)=>([(2,.flat 4 1 (o.map D.bool))])) [5,6] [2,3] [0,1,2] k0 Q (λs c8 a b3=>?_));obtain⟨t,o⟩:=s;refine aC [2,3,5,6] Q (bO 8 Q (bK a Q (λa3 a=>?_) (λa3 a=>?_)));refine cH 4 Q (aL a (λc=>([(5,.msl 2 1 0 c.length)])) (λc=>([(2,.flat 4 1 (c.map D.bool))])) [5] [2,3,6] Q (λc9 a=>?_) (λc a=>?_))
  ·refine aQ 5 Q (aW TK Q (aI 1 Q (SB TK Q (λb6 u=>?_))));cases b6;replace a:=JF u a;exact aI 7 Q (dO [.tmp 31] TK Q lU (GE a λJ a=>cG (f:=D.bool) ([false]:List Bool) TK Q Q lU Q Q Q Q Q (λh=>absurd h (mQ _)) Q cB J Q Q (aG 2 Q (bI [0,1,2] a Q Q))));replace a:=JT u a;exact aI 3 Q (VE a λC a7 a=>dN TK Q a7 (aI 3 Q (dO [.tmp 31] TK Q lU (GE a λK a=>cG (f:=D.bool) ([!(C)]:List Bool) TK Q Q lU Q Q Q Q Q (λh=>absurd h (mQ _)) Q cB K Q Q (aG 2 Q (bI [0,1,2] a Q Q))))))
  refine aC [2,3,5,6] Q (aK 5 Q (aW TK Q (aI 1 Q (SB TK Q (λb7 v=>?_)))));cases b7;replace a:=JF v a;exact aI 7 Q (dO [.tmp 47] TK Q lU (GE a λL a=>cG (f:=D.bool) ([false]:List Bool) TK Q Q lU Q Q Q Q Q (λh=>absurd h (mQ _)) Q cB L Q Q (aH 4 Q (aC [2,3,5,6] Q (aK 2 Q (GE a λM a=>bF Q M (aG 2 Q (bU [0,1,2] a Q Q))))))));replace a:=JT v a;exact aI 3 Q (VE a λE a8 a=>dN TK Q a8 (aI 3 Q (dO [.tmp 47] TK Q lU (GE a λN a=>cG (f:=D.bool) ([!(E)]:List Bool) TK Q Q lU Q Q Q Q Q (λh=>absurd h (mQ _)) Q cB N Q Q (aH 4 Q (aC [2,3,5,6] Q (aK 2 Q (GE a λO a=>bF Q O (aG 2 Q (bU [0,1,2] a Q Q))))))))));refine aM 2 Q (IE a λc5 a b=>?_);rw[b3 _ b]at a;exact WX (bM 1 Q (bI [0,1,2] a Q Q))
 refine aC [2,3,5] Q (aL a (λe=>([(5,.msl 2 1 0 e.length)])) (λe=>([(2,.flat 4 1 (e.map D.bool))])) [5] [2,3] Q (λd0 a=>?_) (λe a=>?_))
 ·refine bO 5 Q (aX a (λ(p,i)=>([(5,.msl 2 1 0 i.length),(7,.d (.int .i64 p))])) (λ(p,i)=>([(2,.flat 4 1 (i.map D.bool))])) [5,7] [2,3] [0,1,2] k0 Q (λs d1 a b4=>?_));obtain⟨p,i⟩:=s;refine aC [2,3,5,7] Q (aQ 5 Q (aW TK Q (aH 3 Q (bK a Q (λa5 a=>?_) (λa5 a=>?_)))));refine cH 4 Q (aL a (λj=>([(5,.msl 2 1 0 j.length)])) (λj=>([(2,.flat 4 1 (j.map D.bool))])) [5] [2,3,7] Q (λd2 a=>?_) (λj a=>?_))
  ·refine aQ 5 Q (aW TK Q (aI 1 Q (SB TK Q (λb8 w=>?_))));cases b8;replace a:=JF w a;exact aI 7 Q (dO [.tmp 70] TK Q lU (GE a λP a=>cG (f:=D.bool) ([false]:List Bool) TK Q Q lU Q Q Q Q Q (λh=>absurd h (mQ _)) Q cB P Q Q (aG 2 Q (bI [0,1,2] a Q Q))));replace a:=JT w a;exact aI 3 Q (VE a λF a9 a=>dN TK Q a9 (aI 3 Q (dO [.tmp 70] TK Q lU (GE a λR a=>cG (f:=D.bool) ([decide (F=1)]:List Bool) TK Q Q lU Q Q Q Q Q (λh=>absurd h (mQ _)) Q cB R Q Q (aG 2 Q (bI [0,1,2] a Q Q))))))
  refine aC [2,3,5,7] Q (aK 5 Q (aW TK Q (aI 1 Q (SB TK Q (λb9 x=>?_)))));cases b9;replace a:=JF x a;exact aI 7 Q (dO [.tmp 86] TK Q lU (GE a λS a=>cG (f:=D.bool) ([false]:List Bool) TK Q Q lU Q Q Q Q Q (λh=>absurd h (mQ _)) Q cB S Q Q (aH 4 Q (aC [2,3,5,7] Q (aK 2 Q (GE a λT a=>bF Q T (aG 2 Q (bU [0,1,2] a Q Q))))))));replace a:=JT x a;exact aI 3 Q (VE a λG b0 a=>dN TK Q b0 (aI 3 Q (dO [.tmp 86] TK Q lU (GE a λU a=>cG (f:=D.bool) ([decide (G=2)]:List Bool) TK Q Q lU Q Q Q Q Q (λh=>absurd h (mQ _)) Q cB U Q Q (aH 4 Q (aC [2,3,5,7] Q (aK 2 Q (GE a λV a=>bF Q V (aG 2 Q (bU [0,1,2] a Q Q))))))))));refine aM 2 Q (IE a λc6 a b=>?_);rw[b4 _ b]at a;exact WX (bM 1 Q (bI [0,1,2] a Q Q))
 refine aC [2,3,5] Q (aL a (λk=>([(5,.msl 2 1 0 k.length)])) (λk=>([(2,.flat 4 1 (k.map D.bool))])) [5] [] Q (λd4 a=>?_) (λk a=>?_))
 ·refine bO 5 Q (aX a (λ(q,l)=>([(5,.msl 2 1 0 l.length),(8,.d (.int .i64 q))])) (λ(q,l)=>([(2,.flat 4 1 (l.map D.bool))])) [5,8] [2,3] [0,1,2] k0 Q (λs d5 a b5=>?_));obtain⟨q,l⟩:=s;refine aC [2,3,5,8] Q (aQ 5 Q (aW TK Q (aH 3 Q (bK a Q (λa6 a=>?_) (λa6 a=>?_)))));refine cH 4 Q (aL a (λm=>([(5,.msl 2 1 0 m.length)])) (λm=>([(2,.flat 4 1 (m.map D.bool))])) [5] [2,3,8] Q (λd6 a=>?_) (λm a=>?_))
  ·refine aQ 5 Q (aW TK Q (aI 1 Q (SB TK Q (λc0 y=>?_))));cases c0;replace a:=JF y a;exact aI 7 Q (dO [.tmp 109] TK Q lU (GE a λW a=>cG (f:=D.bool) ([false]:List Bool) TK Q Q lU Q Q Q Q Q (λh=>absurd h (mQ _)) Q cB W Q Q (aG 2 Q (bI [0,1,2] a Q Q))));replace a:=JT y a;exact aI 3 Q (VE a λH b1 a=>dN TK Q b1 (aI 3 Q (dO [.tmp 109] TK Q lU (GE a λX a=>cG (f:=D.bool) ([!(H)]:List Bool) TK Q Q lU Q Q Q Q Q (λh=>absurd h (mQ _)) Q cB X Q Q (aG 2 Q (bI [0,1,2] a Q Q))))))
  refine aC [2,3,5,8] Q (aL a (λn=>([(5,.msl 2 1 0 n.length)])) (λn=>([(2,.flat 4 1 (n.map D.bool))])) [5] [2,3,8] Q (λd7 a=>?_) (λn a=>?_))
  ·refine aQ 5 Q (aW TK Q (aI 1 Q (SB TK Q (λc1 z=>?_))));cases c1;replace a:=JF z a;exact aI 6 Q (dO [.tmp 124] TK Q lU (GE a λY a=>cG (f:=D.bool) ([false]:List Bool) TK Q Q lU Q Q Q Q Q (λh=>absurd h (mQ _)) Q cB Y Q Q (aG 2 Q (bI [0,1,2] a Q Q))));replace a:=JT z a;exact aI 3 Q (VE a λI b2 a=>dN TK Q b2 (aI 2 Q (dO [.tmp 124] TK Q lU (GE a λZ a=>cG (f:=D.bool) ([I]:List Bool) TK Q Q lU Q Q Q Q Q (λh=>absurd h (mQ _)) Q cB Z Q Q (aG 2 Q (bI [0,1,2] a Q Q))))))
  exact aC [2,3,5,8] Q (aK 5 Q (cW a (bo ·) Q λc2 a=>dO [.tmp 131] TK Q lU (GE a λa0 a=>cG (f:=D.bool) ([c2]:List Bool) TK Q Q lU Q Q Q Q Q (λh=>absurd h (mQ _)) Q cB a0 Q Q (aI 8 Q (cW a (bo ·) Q λc3 a=>dO [.tmp 138] TK Q lU (GE a λa1 a=>cG (f:=D.bool) ([c3]:List Bool) TK Q Q lU Q Q Q Q Q (λh=>absurd h (mQ _)) Q cB a1 Q Q (aI 6 Q (GE a λa2 a=>bF Q a2 (aG 2 Q (bU [0,1,2] a Q Q))))))))));refine aM 2 Q (IE a λc7 a b=>?_);rw[b5 _ b]at a;exact WX (bM 1 Q (bI [0,1,2] a Q Q))
 refine aC [5] Q (aM 6 Q ?_);obtain rfl:=OJ a;exact EndsS.one _ Q (cO Q) (.refl _)
theorem zz{u:Aq}{v:(List A8)}{r:Bool}(a:oQ u v=some r):Ret TP 7 [] (λ_=>false) ([u.enc,.sl 7 (v.map A8.enc)].map .d) (.d (.bool (r))) []:=by
 refine aN (bE Q) func7 Q ntmps7 Q Q (λwX gX=>?_);unfold oQ at a;refine aC [0,1] Q (aQ 1 Q (cY 0 Q Q Q (aI 5 Q (BE a λR F a=>?_))));obtain⟨a0,a4⟩:=R;refine bN Q (hJ Q Q Q (yr F)) (aI 3 Q (cS 1 Q Q Di Q (cL 1 [some 14,some 1,some 1,none,none] Q Q (aH 5 Q (aL a (λm=>([(35,.d (.bool (m)))])) (λm=>[]) [35] [1,5] Q (λb7 a=>?_) (λm a=>?_))))));refine aQ 2 Q (cW a (Vm ·) Q λa9 a=>aI 1 Q (SB TK Q (λO p=>?_)));cases O;replace a:=JB p a;refine aI 3 Q (SB TK Q (λP q=>?_));cases P;replace a:=cw q a;refine aI 1 Q (cW a (Km ·) Q λb0 a=>aI 2 Q (SB TK Q (λM n=>?_)));cases M;replace a:=JB n a;exact aI 1 Q (aW TK Q (aG 3 Q (bI [0,1] a Q Q)));replace a:=JA n a;exact aG 5 Q (bI [0,1] a Q Q);replace a:=cv q a;exact aG 10 Q (bI [0,1] a Q Q);replace a:=JA p a;exact aG 14 Q (bI [0,1] a Q Q);refine aC [1,5,35] Q (cI a Q (λx a=>?_) (λx a=>?_))
 ·exact aK 1 Q (BE a λV G a=>bN Q (RN Q Q SN (cu G)) (aG 5 Q (bD a Q)))
 refine aK 4 Q (BE a λS H a=>?_);obtain⟨W,X⟩:=S;refine bN Q (hJ Q Q Q (Fj H)) (aI 3 Q (cS 2 Q Q xY Q (cL 2 [some 1,none,some 6] Q Q (aI 6 Q (BE a λT I a=>?_)))));obtain⟨Y,Z⟩:=T;refine bN Q (hJ Q Q Q (Cj I)) (aH 14 Q (qV a Q (λy a=>?_) (λy a=>?_)));exact cH 4 Q (aC [4] Q (aM 2 Q (bD a Q)));refine cH 2 Q (aC [1,5,7,8,9] Q (cH 6 Q (qV a Q (λz a=>?_) (λz a=>?_))))
 ·refine aL a (λk=>([(4,.d (.bool (k)))])) (λk=>[]) [4] [] Q (λb4 a=>?_) (λk a=>?_)
  ·refine aQ 2 Q (aW TK Q (aI 1 Q (SB TK Q (λN o=>?_))));cases N;replace a:=JF o a;exact aG 4 Q (bI [0,1,2] a Q Q);replace a:=JT o a;exact BE a λa1 J a=>bN Q (RN Q Q SN (cu J)) (aG 3 Q (bI [0,1,2] a Q Q))
  exact aC [4] Q (aM 2 Q (bD a Q))
 refine aK 4 Q (fA a (yo ·) Q λa2 a=>cS 3 Q Q ge Q (cL 3 [some 1,some 1,none] Q Q (aI 7 Q (cW a (zB ·) Q λa3 a=>aH 3 Q (bK a Q (λA a=>?_) (λA a=>?_))))))
 ·exact aM 6 Q (bD a Q)
 refine cH 2 Q (cJ a (λ(c,e,f)=>[]) (λ(c,e,f)=>([(3,.box 47 [.d (.sl 1 (c.map D.bool)),.d (.sl 1 (e.map (D.int .i64))),.d (.bool (f))])])) [] [] Q (λb5 a L=>?_) (λj a=>?_))
 ·refine aQ 2 Q (aW TK Q (aH 4 Q (aX a (λ(l,g,h,i)=>([(66,.d (.int .i64 l))])) (λ(l,g,h,i)=>([(3,.box 47 [.d (.sl 1 (g.map D.bool)),.d (.sl 1 (h.map (D.int .i64))),.d (.bool (i))])])) [66] [5,7,9,11,64,65] [0,1,2,3] k0 Q (λs b6 a t=>?_))));obtain⟨l,g,h,i⟩:=s;refine aC [5,7,9,11,64,65,66] Q (bO 5 Q (bK a Q (λB a=>?_) (λB a=>?_)));refine aK 5 Q (VE a λU E a=>dN TK Q E (aI 1 Q (cS 4 Q Q zero80 Q (cL 4 [some 1,some 1,some 1,some 1,some 1,some 1,some 1] Q Q (aH 3 Q (aC [5,7,9,11,13,64,65,66] Q (bR follows ?_)))))));iterate 4 (refine DA [0,1,2,3,4] TK Q ?_)
  refine eC [0,1,2,3,4] a (Hu ·) Q λa5 a=>eC [0,1,2,3,4] a (Mu ·) Q λa6 a=>?_;refine DT ?_ (by kernel_rfl);refine aH 3 Q (aC [5,7,9,11,64,65,66] Q (aK 3 Q (cW a (zB ·) Q λa7 a=>aH 3 Q (bK a Q (λC a=>?_) (λC a=>?_)))));refine aM 7 Q (IE a λb1 a b=>?_);rw[t _ b]at a;refine WR (bM 1 Q (IE a λb2 a b=>?_));rw[L _ b]at a;exact WR (bD a Q);exact aK 4 Q (GE a λw a=>bF Q w (aG 2 Q (bU [0,1,2,3] a Q Q)));refine aM 2 Q (IE a λb3 a b=>?_);rw[t _ b]at a;exact WX (bM 1 Q (bU [0,1,2,3] a Q Q))
 obtain⟨c,e,f⟩:=j;exact aC [] Q (aK 1 Q (BE a λa8 K a=>bN Q (RN Q Q SN (cu K)) (aG 4 Q (bD a Q))))
end Go.Proofs.YtldaknhjmhlefaaGreatDoor
set_option linter.unusedSimpArgs false
set_option linter.unusedVariables false
namespace Go.Proofs.YtldaknhjmhlefaaGreatDoor
open Go Go.TL
structure Id where
 state:Int
 rel:Int
 timer:Int
deriving DecidableEq,Inhabited
def Id.ok(x:Id):Prop:=bH x.state/\bH x.rel/\bH x.timer
instance (x:Id):Decidable (Id.ok x):=by unfold Id.ok;infer_instance
def kA:Option Nat->Int
 |some i=>i
 |none=>-1
theorem Lq(o:Option Nat):decide (0<=kA o)=o.isSome:=by cases o<;>simp[kA]
theorem Vs(o:Option Nat):decide (kA o<0)=!o.isSome:=by
 cases o with
 |none=>simp[kA]
 |some i=>show decide ((i:Int)<0)=false;simp
theorem idx_at{α:Type}{p:α->Bool}{l:List α}{i:Nat}{x:α}(h:anyTo p l i)(hx:l[i]?=some x)(hs:p x=true):l.findIdx? p=some i:=by
 rw[za];have hlt:=(zQQ.1 hx).1;have he:=(zQQ.1 hx).2;refine⟨hlt,by rw[he];exact hs,λj hj=>?_⟩;unfold anyTo at h;rw[ze]at h;have:=h l[j] (zal103q.2 ⟨j,by omega,rfl⟩);simpa using this
theorem bx{α:Type}{p:α->Bool}{l:List α}{i:Nat}(h:l.findIdx? p=some i):∃x,l[i]?=some x/\p x=true/\i<l.length:=by
 rw[za]at h;obtain⟨hlt,hp,_⟩:=h;exact⟨l[i],by simp[hlt],hp,hlt⟩
def dU(l:List Int)(x:Int):Option Nat:=l.findIdx? λy=>y == x
theorem z8(l:List Int)(x:Int):(dU l x).isSome=decide (x∈l):=by
 unfold dU;rw[List.findIdx?_isSome,nF,zQU];simp
def qh(n:Nat)(P:Nat->Bool):Bool:=(List.range n).all P
def upTo(P:Nat->Bool)(i:Nat):Prop:=∀j,j<i->P j=true
theorem allB_iff{P:Nat->Bool}{n:Nat}:qh n P=true↔∀i,i<n->P i=true:=by
 unfold qh;rw[zQT];simp
def Fx(n c:Int):Bool:=decide (0<=n/\n<c)
def co(t:Al)(i:Nat):Bool:=decide (0<=t.Ag.getD i 0/\(0<i->t.Ag.getD (i-1) 0<t.Ag.getD i 0)/\0<=t.A7.getD i 0/\t.A7.getD i 0<t.Aa)
def vH(t:Al):Bool:=decide (t.A7.length=t.Ag.length)&&qh t.Ag.length (co t)
theorem D7{t:Al}{i:Nat}{p q h:Int}(hp:t.Ag[i]?=some p)(hq:t.Ag[i-1]?=some q)(hh:t.A7[i]?=some h):co t i=decide (0<=p/\(0<i->q<p)/\0<=h/\h<t.Aa):=by
 simp only[co,qv,hp,hq,hh,vC]
def B4(t:Al)(l:List Ad)(i:Nat):Bool:=decide ((dU t.Ag (l.getD i ⟨0,0⟩).el).isSome=true/\1<=(l.getD i ⟨0,0⟩).pos/\(l.getD i ⟨0,0⟩).pos<=2/\(0<i->(l.getD (i-1) ⟨0,0⟩).el<(l.getD i ⟨0,0⟩).el))
def iN(t:Al)(l:List Ad):Bool:=qh l.length (B4 t l)
theorem By{t:Al}{l:List Ad}{i:Nat}{x y:Ad}(hx:l[i]?=some x)(hy:l[i-1]?=some y):B4 t l i=decide ((dU t.Ag x.el).isSome=true/\1<=x.pos/\x.pos<=2/\(0<i->y.el<x.el)):=by
 simp only[B4,qv,hx,hy,vC]
def qW(a b:List Ad):Bool:=a.all λx=>b.all λy=>!(decide (x.el=y.el)&&!decide (x.pos=y.pos))
def W9(t:Al)(l:List Int)(i:Nat):Bool:=Fx (l.getD i 0) t.Aa&&!decide (l.getD i 0∈l.take i)
def E0(t:Al)(l:List Int):Bool:=qh l.length (W9 t l)
theorem gx{t:Al}{l:List Int}{i:Nat}{s:Int}(hs:l[i]?=some s):W9 t l i=(Fx s t.Aa&&!decide (s∈l.take i)):=by
 simp only[W9,qv,hs,vC]
def Zz(t:Al)(r:Ak):Bool:=Fx r.entry t.Au&&decide (-1<=r.exit/\r.exit<t.Au)&&decide (1<=r.path.length/\r.path.length<=12)
def qI(t:Al)(r:Ak):Bool:=Zz t r&&decide (0<r.Aa.length)&&E0 t (r.Aa++r.Ae)&&Fx r.A5 t.Aa&&decide (1<=r.length)
def tQ(t:Al)(r:Ak):Bool:=iN t r.Ag&&iN t r.An&&iN t r.Ax
def sI(r:Ak):Bool:=qW r.Ag r.An&&qW r.Ag r.Ax&&qW r.An r.Ax
def yz(l:List Ak)(i:Nat):Bool:=(l[i]?).all λr=>!((l.take i).any λq=>decide (q.name=r.name))
def wg(l:List Ak):Bool:=qh l.length (yz l)
theorem H9{l:List Ak}{i:Nat}{r:Ak}(hr:l[i]?=some r):yz l i=!((l.take i).any λq=>decide (q.name=r.name)):=by simp only[yz,hr,Option.all_some]
def Fw(t:Al):Bool:=decide (t.Ac.length<=48/\t.Ag.length<=32/\0<=t.Aa/\t.Aa<=24/\0<=t.Au/\t.Au<=20)
def iK(t:Al):Int:=
 if Fw t=false then 2
 else if vH t=false then 1
 else if t.Ac.all (λr=>qI t r&&tQ t r)=false then 1
 else if t.Ac.all sI=false then 10
 else if wg t.Ac=false then 8
 else 0
section chk
variable {t:Al}
theorem L0(h:Fw t=false):iK t=2:=by simp[iK,h]
theorem C5(h1:Fw t=true)(h:vH t=false):iK t=1:=by simp[iK,h1,h]
end chk
def tM(l:List Int)(i:Nat):List Bool:=(List.range 24).map λ(j:Nat)=>decide ((j:Int)∈l.take i)
theorem Oz(l:List Int):tM l 0=List.replicate 24 false:=by simp[tM,List.map_const']
theorem Jt(l:List Int)(i:Nat):(tM l i).length=24:=by simp[tM]
theorem W3(l:List Int)(i:Nat){s:Int}(h0:0<=s)(h1:s<24):(tM l i)[s.toNat]?=some (decide (s∈l.take i)):=by
 have:s.toNat<24:=by omega
 simp[tM,this,Int.toNat_of_nonneg h0]
theorem W2{l:List Int}{i:Nat}{s:Int}(hs:l[i]?=some s)(h0:0<=s)(h1:s<24):(tM l i).set s.toNat true=tM l (i+1):=by
 apply tH;intro j;by_cases hj:j<24;have e1 : ∀ k, (tM l k)[j]? = some (decide ((j : Int) ∈ l.take k)) := fun k => by simp [tM, hj]
 rw[hZ,e1,e1,mF,hs];split;rename_i e;rw[if_pos (by rw[Jt];omega)];have:(j:Int)=s:=by omega
 simp[this];rename_i e;have:¬(j:Int)=s:=by omega
 simp[this];rw[lB (by simp[tM];omega),lB (by simp[tM];omega)]
def mH(l:List Ak)(i:Nat):List (BA×Bool):=(l.take i).map λr=>(r.name,true)
theorem Np(l:List Ak):mH l 0=[]:=by simp[mH]
theorem Ck{l:List Ak}{i:Nat}{r:Ak}(hr:l[i]?=some r):mH l i++[(r.name,true)]=mH l (i+1):=by
 unfold mH;rw[mF,hr];simp
theorem Kk(l:List Ak)(i:Nat)(s:BA):(match lF (mH l i) s with|some b=>D.bool b|none=>D.bool false)=D.bool ((l.take i).any λq=>decide (q.name=s)):=by
 unfold mH
 induction l.take i with
 |nil=>rfl
 |cons x r ih=>
  simp only[nE,nT,lF,List.find?_cons]
  cases h:decide (x.name=s)with
  |true=>simp
  |false=>simpa[lF]using ih
theorem Nq{l:List Ak}{i:Nat}{s:BA}(h:((l.take i).any λq=>decide (q.name=s))=false):lF (mH l i) s=none:=by
 unfold mH lF;rw[Br,Mj];intro x hx;simp only[zal96q]at hx;obtain⟨r,hr,rfl⟩:=hx;rw[ze]at h;simpa using h r hr
theorem yy{l:List Ak}:∀{i:Nat},upTo (yz l) i->((mH l i).map (·.1)).Nodup
 |0,_=>by simp[mH]
 |i+1,h=>by
  have ih:=yy (i:=i) λj hj=>h j (by omega)
  cases hr:l[i]? with
  |none=>unfold mH at *; rw[mF,hr];simpa using ih
  |some r=>
   have hn:=h i (by omega);rw[H9 hr]at hn;rw[<- Ck hr,mU,zal106q];refine⟨ih,by simp,λa ha b hb e=>?_⟩;simp only[nE,q7,zal102q]at hb;subst hb;subst e;unfold mH at ha;simp only[List.map_map,zal96q,Function.comp_apply]at ha;obtain⟨q,hq,he⟩:=ha;simp only[lW,ze]at hn;exact hn q hq (by simp[he])
theorem qBW{l:List Ak}{i:Nat}{r:Ak}(hr:l[i]?=some r):decide (kA (l.findIdx? λq=>decide (q.name=r.name))=(i:Int))=yz l i:=by
 rw[H9 hr,nF];have hi:=(zQQ.1 hr).1;have hri:=(zQQ.1 hr).2;simp only[decide_eq_true_eq,lW,ze];constructor;intro h q hq
 cases e:l.findIdx? λq=>decide (q.name=r.name)with
 |none=>rw[e]at h;simp only[kA]at h;omega
 |some j=>
  rw[e]at h;simp only[kA]at h;have:j=i:=by omega
  subst this;rw[za]at e;obtain⟨_,_,h3⟩:=e;obtain⟨k,hk,rfl⟩:=zal103q.1 hq;simpa using h3 k (by omega)
 intro h
 have:l.findIdx? (λq=>decide (q.name=r.name))=some i:=by
  refine idx_at (x:=r) ?_ hr (by simp);unfold anyTo;rw[ze];simpa using h
 rw[this];rfl
end Go.Proofs.YtldaknhjmhlefaaGreatDoor
set_option linter.unusedVariables false
set_option linter.unusedSimpArgs false
set_option maxHeartbeats 400000
namespace Go.Proofs.YtldaknhjmhlefaaGreatDoor
open Go Go.TL
theorem Ej{n:Nat}(h:n<=reachBytes):n<=140737488351232:=h
theorem mJ{i n:Nat}(h:i<n):((i:Int)<(n:Int))=True:=by simp[h]
abbrev rQ{α:Type}(l:List α):Prop:=l.length<=9223372036854775807
theorem wA(l:List Int)(x:Int)(h:rQ l):eQ l x=some (kA (dU l x)):=by
 unfold eQ;rw[xp l (λy=>y == x) (λi=>.inr (i:Int)) (.inl ()) h];unfold dU;cases l.findIdx? (λy=>y == x)<;>rfl;intro i e he;have hi:=(zQQ.1 he).1;simp only[mJ hi,if_true,aJ he];by_cases hx:x=e;simp[hx];have : ¬ (e == x) = true := by simp; exact fun q => hx q.symm
 simp[hx,this,bG hi h];simp
theorem sT(t:Al)(x:Int)(h:rQ t.Ag):jR t x=some (kA (dU t.Ag x)):=by
 simp[jR,wA _ _ h]
theorem kz(t:Al)(x:Int)(h:rQ t.Ag):oX t x=some (kA (dU t.Ag x)):=by
 unfold oX;rw[xp t.Ag (λy=>y == x) (λi=>.inr (i:Int)) (.inl ()) h];unfold dU;cases t.Ag.findIdx? (λy=>y == x)<;>rfl;intro i e he;have hi:=(zQQ.1 he).1;simp only[mJ hi,if_true,aJ he];by_cases hx:e=x;simp[hx];simp[hx,bG hi h];simp
theorem Is(l:List Int)(x:Int)(h:rQ l):pQ l x=some (decide (x∈l)):=by
 unfold pQ;rw[mE l (λy=>y == x) (.inr true) (.inl ()) h];by_cases hx:x∈l
 ·have : (l.any fun y => y == x) = true := by simpa using hx
  simp[this,hx]
 have : ¬ (l.any fun y => y == x) = true := by simpa using hx
 simp only[if_neg this];simp[hx];intro i e he;have hi:=(zQQ.1 he).1;simp only[mJ hi,if_true,aJ he];by_cases hx:e=x;simp[hx];simp[hx,bG hi h];simp
theorem wv(l:List Int)(x:Int)(h:rQ l):fZ l x=some (decide (x∈l)):=by
 simp only[fZ,wA l x h,aA,lV];rw[Lq,z8]
theorem xh(n c:Int):fY n c=some (Fx n c):=by simp[fY,Fx]
theorem oY(n:Nat)(P:Nat->Bool):((List.range n).any λi=>!P i)=!qh n P:=by simp[qh,F7]
theorem xJ{α:Type}(l:List α)(P:α->Bool):(l.any λi=>!P i)=!l.all P:=by simp[F7]
theorem H5(t:Al)(h:rQ t.Ag):nK t=some (vH t):=by
 unfold nK vH;by_cases e:t.A7.length=t.Ag.length;rw [if_pos (by rw [e]), tD t.Ag.length (fun i => !co t i) (.inr false) (.inl ()) h, oY]
 ·simp only[e,decide_true,yB];cases qh t.Ag.length (co t)<;>rfl
 intro i hi;obtain⟨p,hp⟩:=sQ hi;obtain⟨q,hq⟩:=sQ (xs:=t.Ag) (i:=i-1) (by omega);obtain⟨hm,hh⟩:=sQ (xs:=t.A7) (i:=i) (by omega);simp only[mJ hi,if_true,aJ hp,aJ hh,xh,aA];rw[D7 hp hq hh];by_cases h0:0<i;have e1 : ((i : Int) - 1) = ((i - 1 : Nat) : Int) := by omega
 have e2:bH ((i-1:Nat):Int):=by unfold bH;omega
 have e3:(0:Int)<(i:Int):=by omega
 simp only[e1,aB e2,aJ hq,e3,if_true];simp only[pS,aA,aB (bG hi h),fJ]
 grind [Fx]
 have e3 : ¬ (0 : Int) < (i : Int) := by omega
 simp only[e3,if_false,pS,aA,aB (bG hi h),fJ]
 grind [Fx]
 simp;rw[if_neg (by omega)];simp[e]
theorem uQ(t:Al)(l:List Ad)(ht:rQ t.Ag)(h:rQ l):fQ t l=some (iN t l):=by
 unfold fQ iN;rw[tD l.length (λi=>!B4 t l i) (.inr false) (.inl ()) h,oY];cases qh l.length (B4 t l)<;>rfl;intro i hi;obtain⟨x,hx⟩:=sQ hi;obtain⟨y,hy⟩:=sQ (xs:=l) (i:=i-1) (by omega);simp only[mJ hi,if_true,aJ hx,sT _ _ ht,aA,Vs];rw[By hx hy];by_cases h0:0<i;have e1 : ((i : Int) - 1) = ((i - 1 : Nat) : Int) := by omega
 have e2:bH ((i-1:Nat):Int):=by unfold bH;omega
 have e3:(0:Int)<(i:Int):=by omega
 simp only[e1,aB e2,aJ hy,e3,if_true,pS,aA,aB (bG hi h),fJ]
 grind
 have e3 : ¬ (0 : Int) < (i : Int) := by omega
 simp only[e3,if_false,pS,aA,aB (bG hi h),fJ]
 grind
 simp
theorem ci(t:Al)(l:List Ad)(ht:rQ t.Ag)(h:rQ l):jI t l=some (iN t l):=by
 unfold jI iN;rw[tD l.length (λi=>!B4 t l i) (.inr false) (.inl ()) h,oY];cases qh l.length (B4 t l)<;>rfl;intro i hi;obtain⟨x,hx⟩:=sQ hi;obtain⟨y,hy⟩:=sQ (xs:=l) (i:=i-1) (by omega);have hneg:=Vs (dU t.Ag x.el);simp only[mJ hi,if_true,aJ hx,kz _ _ ht,aA];rw[By hx hy];by_cases h0:0<i;have e1 : ((i : Int) - 1) = ((i - 1 : Nat) : Int) := by omega
 have e2:bH ((i-1:Nat):Int):=by unfold bH;omega
 have e3:(0:Int)<(i:Int):=by omega
 simp only[e1,aB e2,aJ hy,e3,if_true,pS,aA,aB (bG hi h),fJ]
 grind
 have e3 : ¬ (0 : Int) < (i : Int) := by omega
 simp only[e3,if_false,pS,aA,aB (bG hi h),fJ]
 grind
 simp
theorem L7(a b:List Ad):(a.any λx=>b.any λy=>decide (x.el=y.el)&&!decide (x.pos=y.pos))=!qW a b:=by
 unfold qW;rw[F7]
 congr 1
 funext x
 rw[F7];simp
theorem Jj(a b:List Ad)(ha:rQ a)(hb:rQ b):jJ a b=some (qW a b):=by
 unfold jJ;rw[mE a (λx=>b.any λy=>decide (x.el=y.el)&&!decide (x.pos=y.pos)) (.inr false) (.inl ()) ha,L7];cases qW a b<;>rfl;intro i x hx;have hi:=(zQQ.1 hx).1;simp only[mJ hi,if_true,aJ hx];rw[mE b (λy=>decide (x.el=y.el)&&!decide (x.pos=y.pos)) (.inr (.inr (.inr false))) (.inl ()) hb];simp only[aB (bG hi ha)];split<;>rfl;intro j y hy;have hj:=(zQQ.1 hy).1;simp only[mJ hj,if_true,aJ hy,aB (bG hj hb),fJ];simp;simp
theorem Bl(a b:List Ad)(ha:rQ a)(hb:rQ b):mM a b=some (qW a b):=by
 unfold mM;rw[mE a (λx=>b.any λy=>decide (x.el=y.el)&&!decide (x.pos=y.pos)) (.inr false) (.inl ()) ha,L7];cases qW a b<;>rfl;intro i x hx;have hi:=(zQQ.1 hx).1;simp only[mJ hi,if_true,aJ hx];rw[mE b (λy=>decide (x.el=y.el)&&!decide (x.pos=y.pos)) (.inr (.inr (.inr false))) (.inl ()) hb];simp only[aB (bG hi ha)];split<;>rfl;intro j y hy;have hj:=(zQQ.1 hy).1;simp only[mJ hj,if_true,aJ hy,aB (bG hj hb),fJ];simp;simp
structure Short (r:Ak):Prop where
 secs:r.Aa.length+r.Ae.length<=2000000
 Ag:r.Ag.length<=2000000
 over:r.An.length<=2000000
 Ax:r.Ax.length<=2000000
structure TOk (t:Al):Prop where
 Ac:t.Ac.length<=2000000
 Ag:t.Ag.length<=2000000
 each:∀r∈t.Ac,Short r
theorem Jv(t:Al)(l:List Int)(h:rQ l):qL t l=some (E0 t l):=by
 unfold qL E0;rw[tD l.length (λi=>!W9 t l i) (.inr false) (.inl ()) h,oY];cases qh l.length (W9 t l)<;>rfl;intro i hi;obtain⟨x,hx⟩:=sQ hi;simp only[mJ hi,if_true,aJ hx];rw[gx hx]
 have hm:((List.range i).any λj=>decide (l[j]?=some x))=decide (x∈l.take i):=by
  rw[nF,zQU,decide_eq_true_eq,zal103q];constructor;rintro⟨j,hj,hjx⟩;have hj:=zal101q.1 hj;have:=of_decide_eq_true hjx;obtain⟨h1,h2⟩:=zQQ.1 this;exact⟨j,by omega,h2⟩;rintro⟨j,hj,rfl⟩;exact⟨j,zal101q.2 (by omega),by simp⟩
 by_cases hb:x<0\/t.Aa<=x;have : Fx x t.Aa = false := by unfold Fx; simp; omega
 simp only[this];simp[hb];have hin : Fx x t.Aa = true := by unfold Fx; simp; omega
 rw[if_neg (by simpa using hb),tD i (λj=>decide (l[j]?=some x)) (.inr (.inr (.inr false))) (.inl ()) (by omega),hm];simp only[hin,yB,Bool.not_not,aB (bG hi h)];split<;>rfl;intro j hj;obtain⟨y,hy⟩:=sQ (xs:=l) (i:=j) (by omega);simp only[mJ hj,if_true,aJ hy,hy,aB (bG hj (by omega)),fJ,lV,decide_eq_true_eq];simp;simp
theorem Xf(t:Al)(r:Ak)(h:Short r):sX t r=some (qI t r):=by
 have h1:=h.secs;unfold sX qI Zz;rw[aB (by simp;omega),aB (by simp;omega)];simp only[gE,Jv t (r.Aa++r.Ae) (by simp;omega),aA,pS]
 grind [Fx]
theorem xx(xss:List (List Int))(h:xss.length<=1000/\xss.flatten.length<=1000000000):kD xss=some xss.flatten:=aB h
theorem Jw(t:Al)(r:Ak)(hs:t.Aa<=24)(h:Short r):mR t r=some (qI t r):=by
 have h1:=h.secs;unfold mR;rw[xx _ (by simp;omega)];have hcat:([r.Aa,r.Ae]:List (List Int)).flatten=r.Aa++r.Ae:=by simp
 simp only[hcat,aA,xh,pS];generalize hl:r.Aa++r.Ae=l;have hln:l.length<=2000000:=by rw[<- hl];simp;omega
 rw[Li l.length (tM l) (λi=>!W9 t l i) (.inr false) (.inl (tM l l.length)) (Oz l).symm (by omega),oY];unfold qI Zz E0;rw[hl];clear hcat hl;cases qh l.length (W9 t l);simp only[Hd,if_true,kN,Im,lV];rw[nF];simp only[Wi,wP,decide_eq_true_eq,lC,Fx,lW,decide_eq_false_iff_not]
 grind
 simp only[vf,gk,if_false,oT,Im,lV];rw[nF];simp only[Wi,wP,decide_eq_true_eq,lC,Fx,lW,decide_eq_false_iff_not]
 grind
 intro i hi _;obtain⟨x,hx⟩:=sQ hi;simp only[mJ hi,if_true,aJ hx];rw[gx hx];by_cases hin:Fx x t.Aa=true;have hx0 : 0 <= x /\ x < 24 := by unfold Fx at hin; simp at hin; omega
 have hg:=W3 l i hx0.1 hx0.2;simp only[hin,aB hx0.2,wC hx0.1 hg,aA,vf,yB,Bool.not_not,aB (bG hi (by omega)),W2 hx hx0.1 hx0.2,fJ];by_cases hm:x∈l.take i<;>simp[hm];have hin : Fx x t.Aa = false := by simpa using hin
 simp[hin];intro _;simp
theorem Q0{α β:Type}[DecidableEq α]{fs:List (α×β)}{k:α}{v:β}(h:lF fs k=none):Nh fs k v=fs++[(k,v)]:=by
 unfold Nh
 have:(fs.findIdx? λx=>decide (x.1=k))=none:=by
  unfold lF at h;rw[Br,Mj]at h;rw[Mi];intro x hx;simpa using h x hx
 rw[this]
theorem Vg(t:Al)(h:t.Ac.length<=2000000)(k:List (BA×Bool)->Option Int):dS (bB (λ(x,b)=>
     if x<(t.Ac.length:Int)then
      bC t.Ac x λe=>
      aE (b.map (·.1)).Nodup <|
      if(((lF b e.name).getD false))=true then
       aT (aT (some (8:Int)))
      else
       aE (b.map (·.1)).Nodup <|
       aE (bH (x+(1:Int))) <|
       some (.inl ((x+(1:Int)),(Nh b e.name true)))
     else
      aT (some (.inl b))) ((0:Int),([]:List (BA×Bool)))) k=if wg t.Ac=true then k (mH t.Ac t.Ac.length)else some 8:=by
 rw[Li t.Ac.length (mH t.Ac) (λi=>!yz t.Ac i) (.inr 8) (.inl (mH t.Ac t.Ac.length)) (Np _).symm (by omega),oY];unfold wg;cases qh t.Ac.length (yz t.Ac)<;>rfl;intro i hi hj;obtain⟨x,hx⟩:=sQ hi;have hnd:((mH t.Ac i).map (·.1)).Nodup:=yy λj hjj=>by have:=hj j hjj;simpa using this
 simp only[mJ hi,if_true,aJ hx,aB hnd,aB (bG hi (by omega))];rw[H9 hx,Bool.not_not];have ha:=Kk t.Ac i x.name
 cases hc:((t.Ac.take i).any λq=>decide (q.name=x.name))with
 |true=>
  rw[hc]at ha
  have:((lF (mH t.Ac i) x.name).getD false)=true:=by
   cases e:lF (mH t.Ac i) x.name with
   |none=>rw[e]at ha;simp at ha
   |some b=>rw[e]at ha;simp at ha;simp[ha]
  simp[this]
 |false=>
  have hn:=Nq hc;simp[hn,Q0 hn,Ck hx]
 intro hj;simp
theorem Ve(l:List Ak)(P:Ak->Bool)(v:Int)(h:l.length<=2000000)(g:Ak->Option Bool)(hg:∀r∈l,g r=some (P r))(k:Unit->Option Int):dS (bB (λx=>
     if x<(l.length:Int)then
      bC l x λe=>
      aD (g e) λr=>
      if(!(r))=true then
       aT (aT (some v))
      else
       aE (bH (x+(1:Int))) <|
       some (.inl (x+(1:Int)))
     else
      aT (some (.inl ()))) (0:Int)) k=if l.all P=true then k ()else some v:=by
 rw[mE l (λr=>!P r) (.inr v) (.inl ()) (by omega),xJ];cases l.all P<;>rfl;intro i x hx;have hi:=(zQQ.1 hx).1;simp only[mJ hi,if_true,aJ hx,hg x (lG hx),aA,aB (bG hi (by omega)),fJ];simp
theorem xK(l:List Ak)(P:Ak->Bool)(v:Int)(h:l.length<=2000000)(g:Ak->Option Bool)(hg:∀r∈l,g r=some (!P r))(k:Unit->Option Int):dS (bB (λx=>
     if x<(l.length:Int)then
      bC l x λe=>
      aD (g e) λr=>
      if r=true then
       aT (aT (some v))
      else
       aE (bH (x+(1:Int))) <|
       some (.inl (x+(1:Int)))
     else
      aT (some (.inl ()))) (0:Int)) k=if l.all P=true then k ()else some v:=by
 rw[mE l (λr=>!P r) (.inr v) (.inl ()) (by omega),xJ];cases l.all P<;>rfl;intro i x hx;have hi:=(zQQ.1 hx).1;simp only[mJ hi,if_true,aJ hx,hg x (lG hx),aA,aB (bG hi (by omega)),fJ];simp
theorem qAT(t:Al)(r:Ak)(ht:rQ t.Ag)(h:Short r):(aD (fQ t r.Ag) λa=>if(!(a))=true then some true else aD (fQ t r.An) λb=>if(!(b))=true then some true else aD (fQ t r.Ax) λc=>some (!(c)))=some (!tQ t r):=by
 have h1:=h.Ag;have h2:=h.over;have h3:=h.Ax;rw[uQ t _ ht (by omega),uQ t _ ht (by omega),uQ t _ ht (by omega)];unfold tQ;cases iN t r.Ag<;>cases iN t r.An<;>cases iN t r.Ax<;>rfl
theorem Yn(r:Ak)(h:Short r):(aD (jJ r.Ag r.An) λa=>if(!(a))=true then some true else aD (jJ r.Ag r.Ax) λb=>if(!(b))=true then some true else aD (jJ r.An r.Ax) λc=>some (!(c)))=some (!sI r):=by
 have h1:=h.Ag;have h2:=h.over;have h3:=h.Ax;rw[Jj _ _ (by omega) (by omega),Jj _ _ (by omega) (by omega),Jj _ _ (by omega) (by omega)];unfold sI;cases qW r.Ag r.An<;>cases qW r.Ag r.Ax<;>cases qW r.An r.Ax<;>rfl
theorem Wq(r:Ak)(h:Short r):(aD (mM r.Ag r.An) λa=>if(!(a))=true then some true else aD (mM r.Ag r.Ax) λb=>if(!(b))=true then some true else aD (mM r.An r.Ax) λc=>some (!(c)))=some (!sI r):=by
 have h1:=h.Ag;have h2:=h.over;have h3:=h.Ax;rw[Bl _ _ (by omega) (by omega),Bl _ _ (by omega) (by omega),Bl _ _ (by omega) (by omega)];unfold sI;cases qW r.Ag r.An<;>cases qW r.Ag r.Ax<;>cases qW r.An r.Ax<;>rfl
theorem qCH(l:List Ak)(p q:Ak->Bool):l.all (λr=>p r&&q r)=(l.all p&&l.all q):=by
 rw[nF];simp only[zQT,wP];exact⟨λh=>⟨λx hx=>(h x hx).1,λx hx=>(h x hx).2⟩,λh x hx=>⟨h.1 x hx,h.2 x hx⟩⟩
theorem Wa(t:Al)(h:TOk t):vL t=some (iK t):=by
 have hp:=h.Ag;have hr:=h.Ac;unfold vL;by_cases hl:Fw t=true;have hs : t.Aa <= 24 := by unfold Fw at hl; simp at hl; omega
 have hc:(if(48:Int)<(t.Ac.length:Int)then some true
  else if(32:Int)<(t.Ag.length:Int)then some true
  else aD (fY t.Aa (25:Int)) λr5=>if(!(r5))=true then some true else aD (fY t.Au (21:Int)) λr7=>some (!(r7)))=some false:=by
  simp only[xh,aA];unfold Fw at hl;simp only[decide_eq_true_eq]at hl;rw[if_neg (by omega),if_neg (by omega),if_neg (by unfold Fx;simp;omega)];simp[Fx];omega
 rw[hc];simp only[aA,H5 t (by omega)];by_cases hpb:vH t=true;simp only[hpb];simp only[vf,gk,if_false];rw[Ve t.Ac (qI t) 1 hr (mR t) (λr hm=>Jw t r hs (h.each r hm))];rw[xK t.Ac (tQ t) 1 hr _ (λr hm=>qAT t r (by omega) (h.each r hm)),xK t.Ac sI 10 hr _ (λr hm=>Yn r (h.each r hm)),Vg t hr];unfold iK;rw[qCH];simp only[hl,hpb];cases t.Ac.all (qI t)<;>cases t.Ac.all (tQ t)<;>cases t.Ac.all sI<;>cases wg t.Ac<;>rfl;rw [C5 hl (by simpa using hpb)];simp[hpb];rw [L0 (by simpa using hl)]
 have hc:(if(48:Int)<(t.Ac.length:Int)then some true
  else if(32:Int)<(t.Ag.length:Int)then some true
  else aD (fY t.Aa (25:Int)) λr5=>if(!(r5))=true then some true else aD (fY t.Au (21:Int)) λr7=>some (!(r7)))=some true:=by
  simp only[xh,aA];unfold Fw at hl;simp only[decide_eq_true_eq]at hl
  grind [Fx]
 rw[hc];rfl
theorem qBY(t:Al)(s:BA)(h:rQ t.Ac):uS t s=some (kA (t.Ac.findIdx? λq=>decide (q.name=s))):=by
 unfold uS;rw[xp t.Ac (λq=>decide (q.name=s)) (λi=>.inr (i:Int)) (.inl ()) h];cases t.Ac.findIdx? (λq=>decide (q.name=s))<;>rfl;intro i e he;have hi:=(zQQ.1 he).1;simp only[mJ hi,if_true,aJ he];by_cases hx:e.name=s;simp[hx];simp[hx,bG hi h];simp
theorem Q3(t : Al)(h : rQ t.Ag)(e : t.A7.length = t.Ag.length)(k : Unit -> Option Int) : dS (
    bB (fun x10 =>
     if x10 < (t.Ag.length : Int) then
      bC t.Ag x10 λe13=>
      aD (
       if e13<(0:Int)then
        some true
       else
        if (0 : Int) < x10 then
         aE (bH (x10-(1:Int))) <|
         bC t.Ag (x10-(1:Int)) λe22=>
         if e13<=e22 then
          some true
         else
          bC t.A7 x10 λe24=>
          if e24<(0:Int)then
           some true
          else
           bC t.A7 x10 λe26=>
           some (decide (t.Aa<=e26))
        else
         bC t.A7 x10 λe18=>
         if e18<(0:Int)then
          some true
         else
          bC t.A7 x10 λe20=>
          some (decide (t.Aa<=e20))) λx14=>
      if x14 = true then
       aT (
        aT (
         some (1:Int)))
      else
       aE (bH (x10+(1:Int))) <|
       some (.inl (x10+(1:Int)))
     else
      aT (
       some (.inl ()))) (0:Int)) k=if qh t.Ag.length (co t)=true then k ()else some 1:=by
 rw[tD t.Ag.length (λi=>!co t i) (.inr 1) (.inl ()) h,oY];cases qh t.Ag.length (co t)<;>rfl;intro i hi;obtain⟨p,hp⟩:=sQ hi;obtain⟨q,hq⟩:=sQ (xs:=t.Ag) (i:=i-1) (by omega);obtain⟨hm,hh⟩:=sQ (xs:=t.A7) (i:=i) (by omega);simp only[mJ hi,if_true,aJ hp,aJ hh,aA];rw[D7 hp hq hh];by_cases h0:0<i;have e1 : ((i : Int) - 1) = ((i - 1 : Nat) : Int) := by omega
 have e2:bH ((i-1:Nat):Int):=by unfold bH;omega
 have e3:(0:Int)<(i:Int):=by omega
 simp only[e1,aB e2,aJ hq,e3,if_true,pS,aA,aB (bG hi h),fJ]
 grind
 have e3 : ¬ (0 : Int) < (i : Int) := by omega
 simp only[e3,if_false,pS,aA,aB (bG hi h),fJ]
 grind
 simp
theorem Nt(t : Al)(h : t.Ac.length <= 2000000)(k : Unit -> Option Int) : dS (
    bB (λx72=>
     if x72 < (t.Ac.length : Int) then
      bC t.Ac x72 λe75=>
      aD (uS t e75.name) λr76=>
      if r76=x72 then
       aE (bH (x72+(1:Int))) <|
       some (.inl (x72+(1:Int)))
      else
       aT (
        aT (
         some (8:Int)))
     else
      aT (
       some (.inl ()))) (0:Int)) k=if wg t.Ac=true then k ()else some 8:=by
 rw[tD t.Ac.length (λi=>!yz t.Ac i) (.inr 8) (.inl ()) (by omega),oY];unfold wg;cases qh t.Ac.length (yz t.Ac)<;>rfl;intro i hi;obtain⟨x,hx⟩:=sQ hi;have hf:=qBW hx;simp only[mJ hi,if_true,aJ hx,qBY t _ (show rQ t.Ac by unfold rQ;omega),aA,aB (bG hi (by omega)),fJ]
 cases hb:yz t.Ac i with
 |true=>rw[hb]at hf;rw[if_pos (of_decide_eq_true hf)];simp
 |false=>rw[hb]at hf;rw[if_neg (of_decide_eq_false hf)];simp
 simp
theorem Jx(t:Al)(r:Ak)(ht:rQ t.Ag)(h:Short r):(aD (sX t r) λa=>if(!(a))=true then some true else aD (jI t r.Ag) λb=>if(!(b))=true then some true else aD (jI t r.An) λc=>if(!(c))=true then some true else aD (jI t r.Ax) λd=>some (!(d)))=some (!(qI t r&&tQ t r)):=by
 have h1:=h.Ag;have h2:=h.over;have h3:=h.Ax;rw[Xf t r h,ci t _ ht (by omega),ci t _ ht (by omega),ci t _ ht (by omega)];unfold tQ;cases qI t r<;>cases iN t r.Ag<;>cases iN t r.An<;>cases iN t r.Ax<;>rfl
theorem Bd(t:Al)(h:TOk t):sY t=some (iK t):=by
 have hp:=h.Ag;have hr:=h.Ac;unfold sY;by_cases hl:Fw t=true;rw [if_neg (by unfold Fw at hl; simp only [decide_eq_true_eq] at hl; simp only [lC, decide_eq_true_eq]; omega)];by_cases e:t.A7.length=t.Ag.length;rw [if_pos (by rw [e]), Q3 t (by omega) e, xK t.Ac (fun r => qI t r && tQ t r) 1 hr _ (fun r hm => Jx t r (by omega) (h.each r hm)), xK t.Ac sI 10 hr _ (fun r hm => Wq r (h.each r hm)), Nt t hr];unfold iK;simp only[hl];have hpb:vH t=qh t.Ag.length (co t):=by unfold vH;simp[e]
 rw[hpb];cases qh t.Ag.length (co t)<;>cases t.Ac.all (λr=>qI t r&&tQ t r)<;>cases t.Ac.all sI<;>cases wg t.Ac<;>rfl;rw[if_neg (by omega),C5 hl (by unfold vH;simp[e])];rw[if_pos (by unfold Fw at hl;simp only[decide_eq_true_eq]at hl;simp only[lC,decide_eq_true_eq];omega),L0 (by simpa using hl)]
def y1(x y:Ad):Bool:=decide (x.el<y.el)||(decide (x.el=y.el)&&decide (x.pos<y.pos))
theorem Co{x y:Ad}:y1 x y=true↔x.el<y.el\/x.el=y.el/\x.pos<y.pos:=by simp[y1]
theorem zF(x:Ad):y1 x x=false:=by simp[y1]
theorem Ef{x y z:Ad}(h1:y1 x y=true)(h2:y1 y z=true):y1 x z=true:=by rw[Co]at *; omega
theorem Lh{x y:Ad}(h1:y1 x y=true)(h2:y1 y x=true):False:=by rw[Co]at *; omega
theorem V6{x y:Ad}(h1:x.el=y.el)(h2:x.pos=y.pos):x=y:=by
 obtain⟨a,b⟩:=x;obtain⟨c,d⟩:=y;simp_all
theorem Nr{x y:Ad}(h1:y1 x y=false)(h2:y1 y x=false):x=y:=by
 have h1':¬(x.el<y.el\/x.el=y.el/\x.pos<y.pos):=λh=>by rw[<- Co,h1]at h;cases h
 have h2':¬(y.el<x.el\/y.el=x.el/\y.pos<x.pos):=λh=>by rw[<- Co,h2]at h;cases h
 exact V6 (by omega) (by omega)
def Io(x:Ad):List Ad->List Ad
 |[]=>[x]
 |y::r=>if y1 x y=true then x::y::r else if x=y then y::r else y::Io x r
def fM:List Ad->List Ad
 |[]=>[]
 |x::r=>Io x (fM r)
abbrev Asc(l:List Ad):Prop:=l.Pairwise (λa b=>y1 a b=true)
theorem insS_mem{s x:Ad}:∀{l},s∈Io x l↔s=x\/s∈l
 |[]=>by simp[Io]
 |y::r=>by
  unfold Io;split;simp;split
  ·rename_i e;subst e;simp
  simp only[zQB,insS_mem];grind
theorem ascS_mem{s:Ad}:∀{l},s∈fM l↔s∈l
 |[]=>by simp[fM]
 |x::r=>by simp[fM,insS_mem,ascS_mem]
theorem Vr(x:Ad):∀l,Asc l->Asc (Io x l)
 |[],_=>by simp[Io]
 |y::r,h=>by
  have h':=zal111q.1 h;unfold Io;split;rename_i hxy;refine zal111q.2 ⟨λb hb=>?_,h⟩;rcases zQB.1 hb with rfl|hb
  exact hxy;exact Ef hxy (h'.1 b hb);split
  ·exact h
  rename_i h1 h2;refine zal111q.2 ⟨λb hb=>?_,Vr x r h'.2⟩;rcases insS_mem.1 hb with rfl|hb
  cases h3:y1 y b with
  |true=>rfl
  |false=>exact absurd (Nr (by simpa using h1) h3) h2
  exact h'.1 b hb
theorem Je:∀l,Asc (fM l)
 |[]=>.nil
 |x::r=>Vr x _ (Je r)
theorem Jd:∀{l m:List Ad},Asc l->Asc m->(∀s,s∈l↔s∈m)->l=m
 |[],[],_,_,_=>rfl
 |[],y::m,_,_,h=>absurd ((h y).2 (rL ..)) (by simp)
 |x::l,[],_,_,h=>absurd ((h x).1 (rL ..)) (by simp)
 |x::l,y::m,h1,h2,h=>by
  have h1':=zal111q.1 h1;have h2':=zal111q.1 h2
  have e:x=y:=by
   rcases zQB.1 ((h x).1 (rL ..))with e|hx
   exact e;rcases zQB.1 ((h y).2 (rL ..))with e|hy
   ·exact e.symm
   exact(Lh (h2'.1 x hx) (h1'.1 y hy)).elim
  subst e
  have:=Jd h1'.2 h2'.2 λs=>⟨λhs=>by
   rcases zQB.1 ((h s).1 (gg _ hs))with e|h3
   subst e;have:=h1'.1 s hs;rw[zF]at this;cases this
   exact h3,λhs=>by
   rcases zQB.1 ((h s).2 (gg _ hs))with e|h3
   subst e;have:=h2'.1 s hs;rw[zF]at this;cases this
   exact h3⟩
  rw[this]
theorem ascS_eq{l m:List Ad}(h:Asc m)(hm:∀s,s∈m↔s∈l):m=fM l:=Jd h (Je l) λs=>by rw[hm,ascS_mem]
theorem nR(l:List Ad):(fM l).length<=l.length:=by
 induction l with
 |nil=>simp[fM]
 |cons x r ih=>
  have:∀m,(Io x m).length<=m.length+1:=by
   intro m
   induction m with
   |nil=>simp[Io]
   |cons y q ih=>unfold Io;split<;>(try split)<;>simp<;>omega
  have h:=this (fM r);simp only[fM,jF];omega
theorem Ns(x y:Ad):Dg eX x y=y1 x y:=by
 rw[nF,Co];simp only[Dg,yL,vC,sgn,decide_eq_true_eq];split<;>split<;>(try split)<;>(try split)<;>omega
def uO(L:List Ad):Nat->List Ad
 |0=>[]
 |i+1=>match L[i]? with
  |none=>uO L i
  |some e=>if i=0\/¬L[i-1]?=some e then uO L i++[e]else uO L i
theorem Lv(L:List Ad):∀i,(uO L i).length<=i
 |0=>Ks _
 |i+1=>by
  have:=Lv L i;unfold uO;split;omega;split
  ·simp;omega
  omega
theorem V7(L : List Ad)(hs : L.Pairwise (fun a b => y1 b a = false)) : ∀ i, i <= L.length -> Asc (uO L i) /\ ∀ s, s ∈ uO L i ↔ s ∈ L.take i
 |0,_=>⟨.nil,λs=>by simp[uO]⟩
 |i+1,hi=>by
  obtain⟨h1,h2⟩:=V7 L hs i (by omega);have he:L[i]?=some L[i]:=by simp
  rw[List.pairwise_iff_getElem]at hs;have htake:L.take (i+1)=L.take i++[L[i]]:=by rw[mF,he];rfl
  unfold uO;rw[he];simp only;split;rename_i hc;refine⟨List.pairwise_append.2 ⟨h1,by simp,λa ha b hb=>?_⟩,λs=>by rw[htake,zQN,zQN,h2]⟩;simp only[zal102q]at hb;subst hb;rcases hc with h0|hc
  subst h0;simp[uO]at ha;have hi0 : i ≠ 0 := fun e => by subst e; simp [uO] at ha
  obtain⟨j,hj,rfl⟩:=zal103q.1 ((h2 a).1 ha);have e1:L[i-1]?=some L[i-1]:=by rw[gN]
  have hne:L[i-1]≠L[i]:=λe=>hc (by rw[e1,e])
  have hlt:y1 L[i-1] L[i]=true:=by
   cases h3:y1 L[i-1] L[i]with
   |true=>rfl
   |false=>exact absurd (Nr h3 (hs (i-1) i (by omega) (by omega) (by omega))) hne
  by_cases hj':j=i-1;subst hj';exact hlt;have h4 := hs j (i - 1) (by omega) (by omega) (by omega)
  cases h5:y1 L[j] L[i-1]with
  |true=>exact Ef h5 hlt
  |false=>rw[Nr h5 h4];exact hlt
  rename_i hc;refine⟨h1,λs=>?_⟩;rw[htake,zQN,h2];have hi0:i≠0:=λe=>hc (.inl e)
  have e1:L[i-1]?=some L[i]:=by
   cases h:decide (L[i-1]?=some L[i])with
   |true=>exact of_decide_eq_true h
   |false=>exact absurd (.inr (of_decide_eq_false h)) hc
  have hm:L[i]∈L.take i:=zal103q.2 ⟨i-1,by omega,by rw[gN (by omega)]at e1;exact cC e1⟩;refine⟨.inl,λh=>?_⟩;rcases h with h|h
  exact h;simp only[zal102q]at h;subst h;exact hm
abbrev dI(r:Ak):List Ad:=r.Ag++r.An++r.Ax
theorem Yb(xss:List (List Ad))(h:xss.length<=1000/\xss.flatten.length<=1000000000):nB xss=some xss.flatten:=aB h
theorem O8(r:Ak)(h:Short r)(ho:∀s∈dI r,Ad.ok s):iF r=some (fM (dI r)):=by
 have hfl:[r.Ag,r.An,r.Ax].flatten=dI r:=by simp[dI]
 have hlen:(dI r).length<=6000000:=by have:=h.Ag;have:=h.over;have:=h.Ax;simp[dI];omega
 unfold iF;rw[Yb _ ⟨by simp,by rw[hfl];omega⟩,aA,hfl,aB (by omega)];generalize hL:be eX (dI r)=L;have hLl:L.length=(dI r).length:=by rw[<- hL,gu]
 have hmem:∀s,s∈L↔s∈dI r:=λs=>by rw[<- hL];exact(gt _).mem_iff
 have hsort:L.Pairwise (λa b=>y1 b a=false):=by
  rw[<- hL];have:=gr tN (dI r);exact this.imp fun {a b} hab=>by rw[<- Ns];exact hab
 obtain⟨h1,h2⟩:=V7 L hsort L.length (Ks _);have hfin:uO L L.length=fM (dI r):=ascS_eq h1 λs=>by rw[h2,oD,hmem]
 rw[lR (b:=([]:List Ad)) (o:=fM (dI r)) L.length (uO L) rfl (by omega) (λi hi=>?_) (by dsimp only;rw[if_neg (by omega),hfin];rfl)];rfl;have he : L[i]? = some L[i] := by simp
 have hg:(uO L i++[L[i]]).length<=1000000000:=by have:=Lv L i;simp;omega
 dsimp only;rw[if_pos (by omega),aJ he]
 have hcond:(if(i:Int)=0 then some true else aE (bH ((i:Int)-1)) (bC L ((i:Int)-1) λe17=>aE (Ad.ok L[i]/\Ad.ok e17) (some (!decide (L[i]=e17)))))=some (decide (i=0\/¬L[i-1]?=some L[i])):=by
  by_cases h0:i=0;subst h0;simp;have e1 : L[i - 1]? = some L[i - 1] := by rw [gN]
  have e2:((i:Int)-1)=((i-1:Nat):Int):=by omega
  rw[if_neg (by omega),aB (by unfold bH;omega),e2,aJ e1,aB ⟨ho _ ((hmem _).1 (fH _)),ho _ ((hmem _).1 (fH _))⟩,e1];have e3:(L[i]=L[i-1])=(L[i-1]=L[i]):=propext eq_comm;simp only[lV,h0,false_or,e3,decide_not]
 rw[hcond,aA];have hstep:uO L (i+1)=if i=0\/¬L[i-1]?=some L[i]then uO L i++[L[i]]else uO L i:=by rw[uO,he]
 by_cases hc:i=0\/¬L[i-1]?=some L[i];rw[if_pos (by simpa using hc),aB hg,aB (bG (n:=L.length) hi (by omega)),hstep,if_pos hc];rw[if_neg (by simpa using hc),aB (bG (n:=L.length) hi (by omega)),hstep,if_neg hc]
end Go.Proofs.YtldaknhjmhlefaaGreatDoor
