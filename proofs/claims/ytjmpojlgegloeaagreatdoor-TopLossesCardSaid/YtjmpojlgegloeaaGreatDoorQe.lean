/- A part of the proof. No condition. -/
import Derived.Test.YtjmpojlgegloeaaGreatDoorQd
set_option linter.unusedSimpArgs false
set_option linter.unusedVariables false

set_option maxHeartbeats 8000000
set_option linter.unusedSimpArgs false
set_option linter.unusedVariables false
set_option maxRecDepth 20000
namespace Go.Proofs.YtjmpojlgegloeaaGreatDoor
open Go Go.TL Go.Proofs.Tryz
theorem rM{p:Aa}{e:(List Ae)}{r:Bool}(a:lS p e=some r):RetN TP 110 [p.enc,.sl 3 (e.map Ae.enc)] (.bool (r)):=by
 refine .unit (aJ (aQ Q) func110 Q ntmps110 Q Q (λwX gX=>?_)) Q;unfold lS at a;refine aB [0,1] Q (aM 1 Q (bU 0 Q Q Q (aG 4 Q ?_)));refine fC [(21,.d (.bool (((decide ((e.length:Int)=0))||(decide (64<(e.length:Int)))))))] [21] [1,2] Q ?_ ?_;refine aM 2 Q (aX TK Q (aI 1 Q (SB TK Q (λM m=>?_))));cases M;refine aI 1 Q (aX TK Q (aF 3 Q ?_));exact⟨[0],Q,k0,bT (aO (aP (by first|(simp[m];done)|(simp only[m];simp))) Q) Q⟩;refine aF 5 Q ?_;exact⟨[0],Q,k0,bT (aO (aP (by first|(simp[m];done)|(simp only[m];simp))) Q) Q⟩;refine aB [1,2,21] Q (bI a Q (λy a=>?_) (λy a=>?_))
 ·exact aL 6 Q (aY a Q)
 refine aK 4 Q (iK a (xE ·) Q λR a=>aG 3 Q (cH a (λ_=>[]) (λ_=>[]) [] [] Q (λb3 a g=>?_) (λj a=>?_)))
 ·refine aM 2 Q (aX TK Q (aG 4 Q (bF a (λk=>([(26,.d (.int .i64 k))])) (λk=>[]) [26] [1,2,5,24,25] [0] k0 Q (λk b4 a c=>aB [1,2,5,24,25,26] Q (bX 5 Q (bY a Q (λF a=>?_) (λF a=>?_)))))))
  ·refine bP 2 Q (cH a (λ_=>[]) (λ_=>[]) [] [1,2,5,24,25,26] Q (λb5 a h=>?_) (λj a=>?_))
   ·refine aM 3 Q (VE a λl G a=>dL TK Q G (aI 1 Q (cK 1 Q Q dG Q (aI 8 Q (BE a λP J a=>?_)))));obtain⟨V,W⟩:=P;refine bB Q (dX Q Q Q (wC J)) (aG 12 Q (bI a Q (λx a=>?_) (λx a=>?_)));refine bP 4 Q (aB [4] Q (aL 3 Q (IE a λY a b=>?_)));rw[h _ b]at a;refine WR (IE a λZ a b=>?_);rw[c _ b]at a;refine WR (bS 1 Q (IE a λa0 a b=>?_));rw[g _ b]at a;exact WR (aY a Q);refine bP 2 Q (cH a (λ_=>[]) (λ_=>[]) [] [1,2,5,6,7,24,25,26] Q (λb1 a L=>?_) (λj a=>?_))
    ·refine aM 3 Q (GE a λt a=>bB Q (wB TK Q Q Q Q Q t) (aX TK Q (aG 3 Q (aB [1,2,5,6,7,24,25,26,41,42,43] Q (bP 1 Q (bF a (λi=>([(43,.d (.int .i64 i))])) (λi=>[]) [43] [1,2,5,6,7,24,25,26,41,42] [0,1] k0 Q (λi b2 a o=>aB [1,2,5,6,7,24,25,26,41,42,43] Q (bX 5 Q (bY a Q (λz a=>?_) (λz a=>?_))))))))))
     ·refine aK 5 Q (VE a λU H a=>dL TK Q H (aI 1 Q (cK 2 Q Q dG Q (aG 11 Q (bY a Q (λA a=>?_) (λA a=>?_))))))
      ·refine bP 4 Q (aB [4] Q (aL 3 Q (IE a λa1 a b=>?_)));rw[o _ b]at a;refine WR (bS 1 Q (IE a λa2 a b=>?_));rw[L _ b]at a;refine WR (bS 1 Q (IE a λa3 a b=>?_));rw[h _ b]at a;refine WR (IE a λa4 a b=>?_);rw[c _ b]at a;refine WR (bS 1 Q (IE a λa5 a b=>?_));rw[g _ b]at a;exact WR (aY a Q)
      exact aK 4 Q (GE a λu a=>bN Q u (aF 2 Q (cA [0,1] a Q Q)))
     refine aL 2 Q (IE a λa6 a b=>?_);rw[o _ b]at a;exact WX (bS 1 Q (cA [0,1] a Q Q))
    refine aB [1,2,5,6,7,24,25,26] Q (bP 6 Q (bY a Q (λB a=>?_) (λB a=>?_)))
    ·exact aL 3 Q (cA [0] a Q Q)
    refine aK 6 Q (GE a λv a=>bN Q v (VE a λs I a=>dL TK Q I (aI 1 Q ?_)))
    cases C:R with
    |c191 X=>
     rw[C]at a;dsimp only at a;refine BE a λS K a=>?_;obtain⟨q,T⟩:=S;refine bB Q (kh (ds:=[s.enc]) Q Q Q Q (sY K)) (aI 3 Q (cK 2 Q Q cQ Q (aG 4 Q ?_)));refine fC [(80,.d (.bool (((!(T))||((!(decide (q.el=l.el)))||(!(decide (q.side=l.inV))))))))] [80] [1,2,5,24,25,26] Q ?_ ?_;refine aM 3 Q (SB TK Q (λN f=>?_));cases N;refine aI 6 Q (SB TK Q (λO n=>?_));cases O;refine aF 7 Q ?_;exact⟨[0,1,2],Q,k0,bT (aO (aP (by first|(simp[f,n];done)|(simp only[f,n];simp))) Q) Q⟩;refine aF 7 Q ?_;exact⟨[0,1,2],Q,k0,bT (aO (aP (by first|(simp[f,n];done)|(simp only[f,n];simp))) Q) Q⟩;refine aF 14 Q ?_;exact⟨[0,1,2],Q,k0,bT (aO (aP (by first|(simp[f];done)|(simp only[f];simp))) Q) Q⟩;refine aB [1,2,5,24,25,26,80] Q (bI a Q (λE a=>?_) (λE a=>?_))
     ·refine aL 6 Q (IE a λa7 a b=>?_);rw[h _ b]at a;refine WR (IE a λa8 a b=>?_);rw[c _ b]at a;refine WR (bS 1 Q (IE a λa9 a b=>?_));rw[g _ b]at a;exact WR (aY a Q)
     exact aL 2 Q (cA [0] a Q Q)
   exact aB [1,2,5,24,25,26] Q (aK 1 Q (GE a λw a=>bN Q w (aF 2 Q (cA [0] a Q Q))))
  refine aL 2 Q (IE a λb0 a b=>?_);rw[c _ b]at a;exact WX (bS 1 Q (cA [0] a Q Q))
 exact aB [] Q (aL 5 Q (aY a Q))
theorem G6{b:A3}{r:Ae}(a:zO b=some r):RetN TP 111 [b.enc] (r.enc):=by
 refine .unit (aJ (aQ Q) func111 Q ntmps111 Q Q (λwX gX=>?_)) Q;unfold zO at a;refine aB [0] Q (aM 1 Q (bU 0 Q Q Q (cK 1 Q Q dG Q (aI 7 Q (aX TK Q (GE a λc a=>bN Q c (VE a λf e a=>dL TK Q e (aF 5 Q ?_))))))));obtain rfl:=OJ a;exact EndsS.cellR _ TK Q Q Q Q Q (.d _)
theorem zw{b:Aa}{c:A3}{r:Int}(a:pN b c=some r):RetN TP 112 [b.enc,c.enc] (.int .i64 r):=by
 refine .unit (aJ (aQ Q) func112 Q ntmps112 Q Q (λwX gX=>?_)) Q;unfold pN at a;refine aB [0,1] Q (aM 1 Q (bU 0 Q Q Q (bU 1 Q Q Q (aG 3 Q (bK follows ?_)))));iterate 5 (refine DA [0,1] TK Q ?_)
 refine aU [0,1] Q (oT TK Q Q Q) (GE a λd a=>aU [0,1] Q (mG Q Q Q Q d) (GE a λe a=>aU [0,1] Q (wB TK Q Q Q Q Q e) (gA [0,1] a (nD ·) Q λh a=>?_)));iterate 2 (refine DA [0,1] TK Q ?_)
 refine GE a λf a=>aU [0,1] Q (mG Q Q Q Q f) ?_;refine DT ?_ (by kernel_rfl);exact aG 3 Q (aB [3,5] Q (aK 4 Q (GE a λg a=>bN Q g (aF 4 Q (aY a Q)))))
theorem Es{k:Aa}{l:A3}{r:Int}(a:sS k l=some r):RetN TP 55 [k.enc,l.enc] (.int .i64 r):=by
 refine .unit (aJ (aQ Q) func55 Q ntmps55 Q Q (λwX gX=>?_)) Q;unfold sS at a;refine aB [0,1] Q (aM 1 Q (bU 0 Q Q Q (bU 1 Q Q Q (aG 4 Q (aN a (λb=>([(38,.d (.bool (b)))])) (λb=>[]) [38] [2,3] Q (λG a=>?_) (λb a=>?_))))));refine fU follows ?_;iterate 3 (refine DA [0,1] TK Q ?_)
 refine gA [0,1] a (rM ·) Q λC a=>DA [0,1] TK Q (bn [0,1] TK Q (λu g=>?_));cases u;replace a:=JB g a;iterate 4 (refine DA [0,1] TK Q ?_)
 refine bn [0,1] TK Q (λv h=>?_);cases v;replace a:=JF h a;iterate 4 (refine DA [0,1] TK Q ?_)
 refine bn [0,1] TK Q (λw i=>?_);cases w;replace a:=JF i a;iterate 4 (refine DA [0,1] TK Q ?_)
 refine bn [0,1] TK Q (λx j=>?_);cases x;replace a:=JF j a;iterate 5 (refine DA [0,1] TK Q ?_)
 refine gA [0,1] a (G6 ·) Q λE a=>DA [0,1] TK Q (VE a λA q a=>aU [0,1] Q (jQ TK Q Q Q Q q) ?_);iterate 4 (refine DA [0,1] TK Q ?_)
 refine DT ?_ (by kernel_rfl);exact aF 1 Q (aZ [0,1] a Q Q);replace a:=JT j a;iterate 12 (refine DA [0,1] TK Q ?_)
 refine DT ?_ (by kernel_rfl);exact aF 1 Q (aZ [0,1] a Q Q);replace a:=JT i a;iterate 17 (refine DA [0,1] TK Q ?_)
 refine DT ?_ (by kernel_rfl);exact aF 1 Q (aZ [0,1] a Q Q);replace a:=JT h a;iterate 22 (refine DA [0,1] TK Q ?_)
 refine DT ?_ (by kernel_rfl);exact aF 1 Q (aZ [0,1] a Q Q);replace a:=JA g a;iterate 27 (refine DA [0,1] TK Q ?_)
 refine DT ?_ (by kernel_rfl);exact aF 1 Q (aZ [0,1] a Q Q);refine aB [2,3,38] Q (bI a Q (λm a=>?_) (λm a=>?_))
 ·exact aL 6 Q (aY a Q)
 refine aK 5 Q (dI a (zw ·) Q λB a=>aG 4 Q (aN a (λc=>([(63,.d (.bool (c)))])) (λc=>[]) [63] [] Q (λF a=>?_) (λc a=>?_)))
 ·refine fU follows ?_;iterate 2 (refine DA [0,1] TK Q ?_)
  refine bn [0,1] TK Q (λs e=>?_);cases s;replace a:=JF e a;iterate 2 (refine DA [0,1] TK Q ?_)
  refine aU [0,1] Q (oT TK Q Q Q) (DA [0,1] TK Q (bn [0,1] TK Q (λt f=>?_)));cases t;replace a:=JF f a;iterate 14 (refine DA [0,1] TK Q ?_)
  refine DT ?_ (by kernel_rfl);exact aF 1 Q (aZ [0,1] a Q Q);replace a:=JT f a;iterate 5 (refine DA [0,1] TK Q ?_)
  refine VE a λy o a=>aU [0,1] Q (jQ TK Q Q Q Q o) ?_;iterate 2 (refine DA [0,1] TK Q ?_)
  refine VE a λz p a=>aU [0,1] Q (jQ TK Q Q Q Q p) ?_;iterate 5 (refine DA [0,1] TK Q ?_)
  refine DT ?_ (by kernel_rfl);exact aF 1 Q (aZ [0,1] a Q Q);replace a:=JT e a;iterate 19 (refine DA [0,1] TK Q ?_)
  refine DT ?_ (by kernel_rfl);exact aF 1 Q (aZ [0,1] a Q Q)
 refine aB [63] Q (bI a Q (λn a=>?_) (λn a=>?_))
 ·exact aL 6 Q (aY a Q)
 exact aL 7 Q (aY a Q)
theorem oC{b:Aa}{c:Ae}{r:Int}(a:iH b c=some r):RetN TP 58 [b.enc,c.enc] (.int .i64 r):=by
 refine .unit (aJ (aQ Q) func58 Q ntmps58 Q Q (λwX gX=>?_)) Q;unfold iH at a;exact aB [0,1] Q (aM 1 Q (bU 0 Q Q Q (bU 1 Q Q Q (aI 6 Q (iE [.tmp 6] TK Q dG (dI a (nD ·) Q λd a=>aF 4 Q (aY a Q)))))))
theorem zp{h:Aa}{i:Ao}{j:A3}{k:Af}{l:Int}(a:pM h i j=some (k,l)):RetT TP 16 [h.enc,i.enc,j.enc] [k.enc,.int .i64 l]:=by
 refine .of (mv:=λ_=>false) (fD (aQ Q) func16 Q ntmps16 Q Q (λwX gX=>?_));unfold pM at a;refine aB [0,1,2] Q (aM 1 Q (bU 0 Q Q Q (bU 1 Q Q Q (bU 2 Q Q Q (cK 3 Q Q jL Q (eZ 3 [none,none,none,none,some 3,some 1,some 1,some 1,some 1,none,none,none,none,none] Q Q (aG 4 Q (aN a (λb=>([(37,.d (.bool (b)))])) (λb=>[]) [37] [3,4,5,6] Q (λG a=>?_) (λb a=>?_)))))))));refine aM 2 Q (dI a (xZ ·) Q λC a=>aI 1 Q (SB TK Q (λt c=>?_)));cases t;replace a:=sP c a;refine aI 1 Q (dI a (Br ·) Q λE a=>aI 2 Q (SB TK Q (λu e=>?_)));cases u;replace a:=sP e a;refine aI 2 Q (dI a (Es ·) Q λF a=>aI 2 Q (SB TK Q (λv f=>?_)));cases v;replace a:=sP f a;refine aI 6 Q (SB TK Q (λw g=>?_));cases w;replace a:=sP g a;exact aI 2 Q (aX TK Q (aF 3 Q (aZ [0,1,2,3] a Q Q)));replace a:=sO g a;exact aF 6 Q (aZ [0,1,2,3] a Q Q);replace a:=sO f a;exact aF 13 Q (aZ [0,1,2,3] a Q Q);replace a:=sO e a;exact aF 19 Q (aZ [0,1,2,3] a Q Q);replace a:=sO c a;exact aF 24 Q (aZ [0,1,2,3] a Q Q);refine aB [3,4,5,6,37] Q (bI a Q (λq a=>?_) (λq a=>?_))
 ·refine aK 1 Q (bB Q (bR Q Jb jL Q Q Q Q) (Kb 38 [none,none,none,none,some 3,some 1,some 1,some 1,some 1,none,none,none,none,none] Q (aF 6 Q ?_)));obtain⟨rfl,rfl⟩:=bJ (aS a);exact⟨_,.mk _ (.cons (.agg (TK.lay Q) Q Q Q Q) (.cons (.tmp 7) .nil)) Q,(.cons (.d _) (.refl _) (.cons (.d _) (.refl _) .nil))⟩
 refine aK 5 Q (aX TK Q (GE a λm a=>bN Q m (aI 7 Q (VE a λx s a=>dL TK Q s (aI 1 Q (cK 4 Q Q dG Q (aG 3 Q (aB [3,4,5,6,8,9] Q (aK 6 Q (bB Q (bR Q pC cQ Q Q Q Q) (dI a (kY ·) Q λy a=>aG 9 Q (bY a Q (λr a=>?_) (λr a=>?_)))))))))))))
 ·refine aK 1 Q (bB Q (bR Q Jb jL Q Q Q Q) (Kb 57 [none,none,none,none,some 3,some 1,some 1,some 1,some 1,none,none,none,none,none] Q (aG 4 Q (aB [6,7] Q (aL 2 Q ?_)))));obtain⟨rfl,rfl⟩:=bJ (aS a);exact⟨_,.mk _ (.cons (.agg (TK.lay Q) Q Q Q Q) (.cons (.tmp 7) .nil)) Q,(.cons (.d _) (.refl _) (.cons (.d _) (.refl _) .nil))⟩
 refine bP 2 Q (bK follows ?_);iterate 6 (refine DA [0,1,2,3,4] TK Q ?_)
 refine GE a λn a=>aU [0,1,2,3,4] Q (wB TK Q Q Q Q Q n) (gA [0,1,2,3,4] a (nD ·) Q λz a=>aU [0,1,2,3,4] Q (x_neg Q Q) ?_);iterate 2 (refine DA [0,1,2,3,4] TK Q ?_)
 refine GE a λo a=>aU [0,1,2,3,4] Q (mG Q Q Q Q o) ?_;iterate 3 (refine DA [0,1,2,3,4] TK Q ?_)
 refine gA [0,1,2,3,4] a (oC ·) Q λA a=>?_;iterate 2 (refine DA [0,1,2,3,4] TK Q ?_)
 refine GE a λp a=>aU [0,1,2,3,4] Q (mG Q Q Q Q p) ?_;iterate 2 (refine DA [0,1,2,3,4] TK Q ?_)
 refine zR [0,1,2,3,4] a (eR ·) Q λB a=>aU [0,1,2,3,4] Q (bR Q Jb jL Q Q Q Q) ?_;refine DT ?_ (by kernel_rfl);refine aI 1 Q (eZ 3 [none,none,none,none,none,some 1,some 1,some 1,some 1,none,none,none,none,none] Q Q (aG 3 Q (aB [6,7] Q (aL 1 Q ?_))));obtain⟨rfl,rfl⟩:=bJ (aS a);exact⟨_,.mk _ (.cons (.agg (TK.lay Q) Q Q Q Q) (.cons (.tmp 7) .nil)) Q,(.cons (.d _) (.refl _) (.cons (.d _) (.refl _) .nil))⟩
theorem Bt{b:Int}{c:Int}{r:Ah}(a:tA b c=some r):RetN TP 17 [.int .i64 b,.int .i64 c] (r.enc):=by
 refine .unit (aJ (aQ Q) func17 Q ntmps17 Q Q (λwX gX=>?_)) Q;unfold tA at a;refine aB [0,1] Q (aM 1 Q (cK 0 Q Q uU Q (aI 5 Q (bB Q (bR Q plc89 uU Q Q Q Q) (aF 4 Q ?_)))));obtain rfl:=OJ a;exact EndsS.cellR _ TK Q Q Q Q Q (.d _)
theorem ec{k:Aa}{l:(List Ae)}{r:(List Int)}(a:gD k l=some r):Ret TP 53 [] (λ_=>false) ([k.enc,.sl 3 (l.map Ae.enc)].map .d) (.msl 0 1 0 r.length) [.flat 3 1 (r.map (D.int .i64))]:=by
 refine eB (aQ Q) func53 Q ntmps53 Q Q (λwX gX=>?_);unfold gD at a;refine aB [0,1] Q (aM 1 Q (bU 0 Q Q Q (iC (f:=(D.int .i64)) 1 3 1 Q Q Q (aI 3 Q (iC (f:=(D.int .i64)) 2 3 1 Q Q Q (aI 3 Q (lE 3 4 Q (oZ 10 (.mmap 3) Q Q (aG 3 Q (aN a (λ(b,g)=>([(5,.msl 2 1 0 b.length)])) (λ(b,g)=>([(2,.flat 3 1 (b.map (D.int .i64))),(3,.map 3 4 (aV (D.int .i64) D.bool g))])) [5] [] Q (λH a=>?_) (λj a=>?_)))))))))));refine aM 2 Q (aX TK Q (aG 4 Q (bF a (λ(i,c,e)=>([(5,.msl 2 1 0 c.length),(13,.d (.int .i64 i))])) (λ(i,c,e)=>([(2,.flat 3 1 (c.map (D.int .i64))),(3,.map 3 4 (aV (D.int .i64) D.bool e))])) [5,13] [2,6,11,12] [0,1,2,3] k0 Q (λs G a B=>?_))));obtain⟨i,c,e⟩:=s;refine aB [2,5,6,11,12,13] Q (bX 5 Q (bY a Q (λv a=>?_) (λv a=>?_)));refine aK 5 Q (VE a λC y a=>dL TK Q y (aI 1 Q (cK 4 Q Q dG Q (aG 3 Q (aB [2,5,6,8,11,12,13] Q (aK 5 Q (dI a (nC ·) Q λE a=>aG 3 Q (bI a Q (λw a=>?_) (λw a=>?_)))))))))
 ·exact aK 5 Q (GE a λn a=>bN Q n (aF 2 Q (cA [0,1,2,3] a Q Q)))
 refine aK 7 Q (VE a λm z a=>dL TK Q z (aI 8 Q (GE a λo a=>bB Q (vD (fT .i64) D.bool _ _ false Q ve Cb Q Q Q Q o) (aG 3 Q (aB [2,5,6,9,11,12,13,32] Q (bI a Q (λx a=>?_) (λx a=>?_)))))))
 ·exact aK 3 Q (GE a λp a=>bz (fT .i64) D.bool ve Q Q Q Q p (aG 2 Q (aB [2,5,6,9,11,12,13] Q (aK 3 Q (iE [.tmp 36] TK Q fL (GE a λq a=>fJ (f:=(D.int .i64)) ([m.Az]:List Int) TK Q Q fL Q Q Q Q Q (λh=>absurd h (pS _)) Q eC q Q Q (aG 4 Q (aB [2,5,6,11,12,13] Q (aK 1 Q (GE a λt a=>bN Q t (aF 2 Q (cA [0,1,2,3] a Q Q))))))))))))
 exact aK 4 Q (GE a λu a=>bN Q u (aF 2 Q (cA [0,1,2,3] a Q Q)));refine aL 2 Q (IE a λF a A=>?_);rw[B _ A]at a;exact WX (bS 1 Q (aZ [0,1,2,3] a Q Q));obtain⟨b,g⟩:=j;refine aB [5] Q (aL 6 Q ?_);obtain rfl:=OJ a;exact⟨_,[2],res Q,by decide,k0,Q,Q⟩
theorem wl{c:Aa}{d:A3}{r:(List Int)}(a:nU c d=some r):RetD TP 18 [c.enc,d.enc] (.sl 1 (r.map (D.int .i64))):=by
 refine .of (mv:=λ_=>false) (aJ (aQ Q) func18 Q ntmps18 Q Q (λwX gX=>?_));unfold nU at a;refine aB [0,1] Q (aM 1 Q (bU 0 Q Q Q (bU 1 Q Q Q (aI 7 Q (BE a λb f a=>kM Q Q Q (ec f) Q Q (oZ 9 (.msl 2 1 0 b.length) Q Q (aI 5 Q (GE a λe a=>?_))))))));refine vL [2] Q Q Q (by simp) Q Q Q (oW b e) Q Q ?_;refine cD 5 (kF b).length Q (fO _).symm (cD 10 (kF b).length Q (fO _).symm (aF 8 Q ?_));obtain rfl:=OJ a;exact EndsS.one _ Q (aW Q) (.refl _)
theorem Ci{C:Aa}{g:(List Ao)}{t:(List A3)}{E:Ar}{F:Int}(a:zA C g t=some (E,F)):RetT TP 5 [C.enc,.sl 10 (g.map Ao.enc),.sl 3 (t.map A3.enc)] [E.enc,.int .i64 F]:=by
 refine .of (mv:=λ_=>false) (fD (aQ Q) func5 Q ntmps5 Q Q (λwX gX=>?_));unfold zA at a;refine aB [0,1,2] Q (aM 1 Q (bU 0 Q Q Q (cK 1 Q Q jU Q (dJ (f:=Af.enc) 1 0 2 73 14 Q Q Q (dJ (f:=Ah.enc) 1 1 3 89 4 Q Q Q (aI 5 Q (aX TK Q (aG 4 Q ?_))))))));refine fC [(33,.d (.bool (((decide ((g.length:Int)=0))||((decide (6<(g.length:Int)))||(!(decide ((t.length:Int)=(g.length:Int)))))))))] [33] [1,2,3,6,8] Q ?_ ?_;refine aM 3 Q (SB TK Q (λb0 o=>?_));cases b0;refine aI 3 Q (SB TK Q (λb1 x=>?_));cases b1;refine aI 1 Q (aX TK Q (aF 4 Q ?_));exact⟨[0,1,2,3],Q,k0,bT (aO (aP (by first|(simp[o,x];done)|(simp only[o,x];simp))) Q) Q⟩;refine aF 6 Q ?_;exact⟨[0,1,2,3],Q,k0,bT (aO (aP (by first|(simp[o,x];done)|(simp only[o,x];simp))) Q) Q⟩;refine aF 10 Q ?_;exact⟨[0,1,2,3],Q,k0,bT (aO (aP (by first|(simp[o];done)|(simp only[o];simp))) Q) Q⟩;refine aB [1,2,3,6,8,33] Q (bI a Q (λT a=>?_) (λT a=>?_))
 ·refine aK 1 Q (bB Q (jD Q q0 jU Q Q Q Q) (aI 1 Q (dJ (f:=Af.enc) 1 0 4 73 14 Q Q Q (dJ (f:=Ah.enc) 1 1 5 89 4 Q Q Q (aG 3 Q (aB [6,7] Q (aL 2 Q ?_)))))));obtain⟨rfl,rfl⟩:=bJ (aS a);exact⟨_,.mk _ (.cons (.agg (TK.lay Q) Q Q Q Q) (.cons (.tmp 7) .nil)) Q,(.cons (fP (.cons (aW Q) Q (.cons (aW Q) Q .nil))) (.refl _) (.cons (.d _) (.refl _) .nil))⟩
 refine bP 2 Q (cH a (λ_=>[]) (λ_=>[]) [] [1,2,3,6] Q (λd5 a a7=>?_) (λj a=>?_))
 ·refine bX 5 Q (bF a (λp=>([(9,.d (.int .i64 p))])) (λp=>[]) [9] [1,2,3,6,8] [0,1,2,3] k0 Q (λp e0 a B=>aB [1,2,3,6,8,9] Q (bX 7 Q (bY a Q (λY a=>?_) (λY a=>?_)))))
  ·refine bP 4 Q (bK follows ?_);iterate 2 (refine DA [0,1,2,3] TK Q ?_)
   refine GE a λP a=>aU [0,1,2,3] Q (mG Q Q Q Q P) (VE a λb3 Z a=>aU [0,1,2,3] Q (jQ TK Q Q Q Q Z) ?_);iterate 4 (refine DA [0,1,2,3] TK Q ?_)
   refine VE a λb4 a0 a=>aU [0,1,2,3] Q (jQ TK Q Q Q Q a0) ?_;iterate 3 (refine DA [0,1,2,3] TK Q ?_)
   refine DT ?_ (by kernel_rfl);refine aG 2 Q (bY a Q (λR a=>?_) (λR a=>?_));refine aK 1 Q (bB Q (jD Q q0 jU Q Q Q Q) (aI 1 Q (dJ (f:=Af.enc) 1 0 4 73 14 Q Q Q (dJ (f:=Ah.enc) 1 1 5 89 4 Q Q Q (aG 3 Q (aB [6,7] Q (aL 3 Q (IE a λc1 a b=>?_))))))));rw[B _ b]at a;refine WR (bS 1 Q (IE a λc2 a b=>?_));rw[a7 _ b]at a;refine WR ?_;obtain⟨rfl,rfl⟩:=bJ (aS a);exact⟨_,.mk _ (.cons (.agg (TK.lay Q) Q Q Q Q) (.cons (.tmp 7) .nil)) Q,(.cons (fP (.cons (aW Q) Q (.cons (aW Q) Q .nil))) (.refl _) (.cons (.d _) (.refl _) .nil))⟩;exact bP 3 Q (aB [1,2,3,6,8,9] Q (aK 2 Q (GE a λH a=>bN Q H (aF 2 Q (cA [0,1,2,3] a Q Q)))))
  refine aL 2 Q (IE a λc3 a b=>?_);rw[B _ b]at a;exact WX (bS 1 Q (cA [0,1,2,3] a Q Q))
 refine aB [1,2,3,6] Q (aK 1 Q (cK 4 Q Q jU Q (dJ (f:=Af.enc) 4 0 5 73 14 Q Q Q (dJ (f:=Ah.enc) 4 1 6 89 4 Q Q Q (aG 2 Q (aB [1,2,3,6,10] Q (cH a (λ(i,k)=>[]) (λ(i,k)=>([(4,.box 46 [.msl 5 14 0 i.length,.msl 6 4 0 k.length]),(5,.flat 73 14 (i.map Af.enc)),(6,.flat 89 4 (k.map Ah.enc))])) [] [2,3,6,10] Q (λd3 a a6=>?_) (λj a=>?_))))))))
 ·refine aM 2 Q (aX TK Q (aG 4 Q (bF a (λ(u,l,e)=>([(55,.d (.int .i64 u))])) (λ(u,l,e)=>([(4,.box 46 [.msl 5 14 0 l.length,.msl 6 4 0 e.length]),(5,.flat 73 14 (l.map Af.enc)),(6,.flat 89 4 (e.map Ah.enc))])) [55] [2,3,6,10,53,54] [0,1,2,3,4,5,6] k0 Q (λs d4 a y=>?_))));obtain⟨u,l,e⟩:=s;refine aB [2,3,6,10,53,54,55] Q (bX 5 Q (bY a Q (λS a=>?_) (λS a=>?_)))
  ·refine aK 6 Q (VE a λb5 a1 a=>dL TK Q a1 (aI 1 Q (cK 7 Q Q bo Q (aG 4 Q (aB [2,3,6,10,11,12,53,54,55] Q (fN (bK follows (DA [0] TK Q (DA [7] TK Q ?_)))))))));iterate 2 (refine DA [] TK Q ?_)
   refine VE a λb6 a2 a=>aU [] Q (jQ TK Q Q Q Q a2) (DA [] TK Q (BE a λb2 a5 a=>?_));obtain⟨c,b9⟩:=b2;refine aU [] Q (dX Q Q Q (zp a5)) ?_;iterate 3 (refine DA [] TK Q ?_)
   refine tV [8] _ (.mptr 8 0 0 0) Q (dZ Q) Q (lL Q Q jL Q Q) (qT 1000012 [8] [(8,.box 73 [.d (.int .i64 c.id),.d (.int .i64 c.origin),.d (.int .i64 c.endV),.d (.int .i64 c.atV),.d (.sl 3 (c.steps.map Ae.enc)),.d (.sl 1 (c.Ak.map (D.int .i64))),.d (.sl 1 (c.starts.map (D.int .i64))),.d (.sl 1 (c.ends.map (D.int .i64))),.d (.sl 1 (c.done.map (D.int .i64))),.d (.int .i64 c.min),.d (.int .i64 c.sent),.d (.int .i64 c.accepted),.d (.int .i64 c.cut),.d (.int .i64 c.cutSeq)])] (dZ Q) Q (kK TK Q Q Q Q Q Q Q Q Q Q) ?_);refine DT ?_ (by kernel_rfl);refine aG 3 Q (aB [2,3,6,10,12,13,14,53,54,55] Q (bP 6 Q (mT a Q (λU a=>?_) (λU a=>?_))));refine aK 1 Q (bB Q (jD Q q0 jU Q Q Q Q) (aI 2 Q (dJ (f:=Af.enc) 1 0 9 73 14 Q Q Q (dJ (f:=Ah.enc) 1 1 10 89 4 Q Q Q (aG 3 Q (aB [6,7] Q (aL 4 Q (IE a λc4 a b=>?_))))))));rw[y _ b]at a;refine WR (bS 1 Q (IE a λc5 a b=>?_));rw[a6 _ b]at a;refine WR ?_;obtain⟨rfl,rfl⟩:=bJ (aS a);exact⟨_,.mk _ (.cons (.agg (TK.lay Q) Q Q Q Q) (.cons (.tmp 7) .nil)) Q,(.cons (fP (.cons (aW Q) Q (.cons (aW Q) Q .nil))) (.refl _) (.cons (.d _) (.refl _) .nil))⟩;refine aK 6 Q (iE [.tmp 76] TK Q jL (GE a λI a=>fJ (f:=Af.enc) ([c]:List Af) TK Q Q jL Q Q Q Q Q (λh=>absurd h (pS _)) Q eC I Q Q (aG 4 Q (aB [2,3,6,10,12,53,54,55] Q (fN (eV follows (DA [] TK Q (DA [4] TK Q (DA [] TK Q (DA [7] TK Q (gA [] a (Bt ·) Q λG a=>aU [] Q (pO [.tmp 84] TK Q Q uU Q Q Q Q Q) (GE a λJ a=>tV [6,9] _ (.msl 9 4 0 (e++([G]:List Ah)).length) Q (dZ Q) Q (xy (f:=Ah.enc) (xs:=e) ([G]:List Ah) Q Q Q TK Q uU Q Q Q Q Q Q eC J) (DA [] TK Q ?_)))))))))))));refine DT ?_ (by kernel_rfl);exact aG 4 Q (aB [2,3,6,10,53,54,55] Q (aK 1 Q (GE a λK a=>bN Q K (aF 2 Q (cA [0,1,2,3,4,5,9] a Q Q)))))
  refine aL 2 Q (IE a λc6 a b=>?_);rw[y _ b]at a;exact WX (bS 1 Q (cA [0,1,2,3,4,5,6] a Q Q))
 obtain⟨i,k⟩:=j;refine aB [2,3,6,10] Q (aK 1 Q (lE 3 4 Q (oZ 89 (.mmap 7) Q Q (aG 3 Q (aB [2,3,6,10,15] Q (cH a (λq=>[]) (λq=>([(7,.map 3 4 (aV (D.int .i64) D.bool q))])) [] [6,10] Q (λd6 a a8=>?_) (λq a=>?_)))))));refine aM 2 Q (aX TK Q (aG 4 Q (bF a (λ(v,m)=>([(92,.d (.int .i64 v))])) (λ(v,m)=>([(7,.map 3 4 (aV (D.int .i64) D.bool m))])) [92] [3,6,10,15,90,91] [0,1,2,3,4,5,6,7] k0 Q (λs d7 a z=>?_))));obtain⟨v,m⟩:=s;refine aB [3,6,10,15,90,91,92] Q (bX 5 Q (bY a Q (λV a=>?_) (λV a=>?_)));refine bP 2 Q (cH a (λr=>[]) (λr=>([(7,.map 3 4 (aV (D.int .i64) D.bool r))])) [] [3,6,10,15,90,91,92] Q (λd8 a a9=>?_) (λr a=>?_))
 ·refine aM 2 Q (VE a λb7 a3 a=>dL TK Q a3 (aI 1 Q (cK 8 Q Q xh Q (eZ 8 [some 3,none,none] Q Q (aG 3 Q (aB [3,6,10,15,17,90,91,92] Q (aK 3 Q (iK a (wl ·) Q λc0 a=>aX TK Q (aG 4 Q (bF a (λ(w,n)=>([(100,.d (.int .i64 w))])) (λ(w,n)=>([(7,.map 3 4 (aV (D.int .i64) D.bool n))])) [100] [3,6,10,15,90,91,92,98,99] [0,1,2,3,4,5,6,7] k0 Q (λs d9 a A=>?_)))))))))));obtain⟨w,n⟩:=s;refine aB [3,6,10,15,90,91,92,98,99,100] Q (bX 5 Q (bY a Q (λW a=>?_) (λW a=>?_)));refine aK 5 Q (VE a λb8 a4 a=>dL TK Q a4 (aI 8 Q (GE a λL a=>bB Q (vD (fT .i64) D.bool _ _ false Q ve Cb Q Q Q Q L) (aG 2 Q (bI a Q (λX a=>?_) (λX a=>?_))))))
  ·refine aK 1 Q (bB Q (jD Q q0 jU Q Q Q Q) (aI 1 Q (dJ (f:=Af.enc) 1 0 8 73 14 Q Q Q (dJ (f:=Ah.enc) 1 1 9 89 4 Q Q Q (aG 3 Q (aB [6,7] Q (aL 4 Q (IE a λc7 a b=>?_))))))));rw[A _ b]at a;refine WR (bS 2 Q (IE a λc8 a b=>?_));rw[a9 _ b]at a;refine WR (IE a λc9 a b=>?_);rw[z _ b]at a;refine WR (bS 1 Q (IE a λd0 a b=>?_));rw[a8 _ b]at a;refine WR ?_;obtain⟨rfl,rfl⟩:=bJ (aS a);exact⟨_,.mk _ (.cons (.agg (TK.lay Q) Q Q Q Q) (.cons (.tmp 7) .nil)) Q,(.cons (fP (.cons (aW Q) Q (.cons (aW Q) Q .nil))) (.refl _) (.cons (.d _) (.refl _) .nil))⟩
  exact aK 5 Q (GE a λM a=>bz (fT .i64) D.bool ve Q Q Q Q M (aG 3 Q (aB [3,6,10,15,90,91,92,98,99,100] Q (aK 1 Q (GE a λN a=>bN Q N (aF 2 Q (cA [0,1,2,3,4,5,6,7] a Q Q)))))));refine aL 2 Q (IE a λd1 a b=>?_);rw[A _ b]at a;exact WX (bS 2 Q (cA [0,1,2,3,4,5,6,7] a Q Q))
 exact aB [3,6,10,15,90,91,92] Q (aK 1 Q (GE a λO a=>bN Q O (aF 2 Q (cA [0,1,2,3,4,5,6,7] a Q Q))));refine aL 2 Q (IE a λd2 a b=>?_);rw[z _ b]at a;exact WX (bS 1 Q (cA [0,1,2,3,4,5,6,7] a Q Q));refine aB [6,10] Q (bP 6 Q (aB [6,7] Q (aL 1 Q ?_)));obtain⟨rfl,rfl⟩:=bJ (aS a);exact⟨_,.mk _ (.cons (.agg (TK.lay Q) Q Q Q Q) (.cons (.tmp 7) .nil)) Q,(.cons (fP (.cons (aW Q) Q (.cons (aW Q) Q .nil))) (.refl _) (.cons (.d _) (.refl _) .nil))⟩
theorem E6{b:Aa}{i:(List A9)}{r:Bool}(a:uC b i=some r):RetN TP 19 [b.enc,.sl 7 (i.map A9.enc)] (.bool (r)):=by
 refine .unit (aJ (aQ Q) func19 Q ntmps19 Q Q (λwX gX=>?_)) Q;unfold uC at a;refine aB [0,1] Q (aM 1 Q (bU 0 Q Q Q (aG 4 Q ?_)));refine fC [(38,.d (.bool (((decide (40<(b.Ad.length:Int)))||((decide (80<(b.joints.length:Int)))||((decide (30<(b.Aj.length:Int)))||((decide (40<(b.balises.length:Int)))||((decide (40<(b.Ai.length:Int)))||(decide (16<(i.length:Int)))))))))))] [38] [1] Q ?_ ?_;refine aM 3 Q (aX TK Q (aI 1 Q (SB TK Q (λI c=>?_))));cases I;refine aI 2 Q (aX TK Q (aI 2 Q (SB TK Q (λM e=>?_))));cases M;refine aI 2 Q (aX TK Q (aI 2 Q (SB TK Q (λR g=>?_))));cases R;refine aI 2 Q (aX TK Q (aI 2 Q (SB TK Q (λS h=>?_))));cases S;refine aI 2 Q (aX TK Q (aI 2 Q (SB TK Q (λT t=>?_))));cases T;refine aI 1 Q (aX TK Q (aF 3 Q ?_));exact⟨[0],Q,k0,bT (aO (aP (by simp[c,e,g,h,t])) Q) Q⟩;refine aF 5 Q ?_;exact⟨[0],Q,k0,bT (aO (aP (by simp[c,e,g,h,t])) Q) Q⟩;refine aF 11 Q ?_;exact⟨[0],Q,k0,bT (aO (aP (by simp[c,e,g,h])) Q) Q⟩;refine aF 17 Q ?_;exact⟨[0],Q,k0,bT (aO (aP (by simp[c,e,g])) Q) Q⟩;refine aF 23 Q ?_;exact⟨[0],Q,k0,bT (aO (aP (by simp[c,e])) Q) Q⟩;refine aF 29 Q ?_;exact⟨[0],Q,k0,bT (aO (aP (by simp[c])) Q) Q⟩;refine aB [1,38] Q (bI a Q (λy a=>?_) (λy a=>?_))
 ·exact aL 6 Q (aY a Q)
 refine bP 2 Q (cH a (λ_=>[]) (λ_=>[]) [] [] Q (λa6 a H=>?_) (λj a=>?_))
 ·refine aM 2 Q (aX TK Q (aG 4 Q (bF a (λl=>([(41,.d (.int .i64 l))])) (λl=>[]) [41] [1,40] [0] k0 Q (λl a4 a u=>aB [1,40,41] Q (bX 5 Q (bY a Q (λw a=>?_) (λw a=>?_)))))))
  ·refine bP 9 Q (aN a (λk=>([(104,.d (.bool (k)))])) (λk=>[]) [104] [1,40,41] Q (λa5 a=>?_) (λk a=>?_))
   ·refine aM 3 Q (VE a λU z a=>dL TK Q z (aI 2 Q (aX TK Q (aI 1 Q (SB TK Q (λJ m=>?_))))));cases J;replace a:=JF m a;refine aI 2 Q (VE a λV A a=>dL TK Q A (aI 2 Q (aX TK Q (aI 2 Q (SB TK Q (λK n=>?_))))));cases K;replace a:=JF n a;refine aI 2 Q (VE a λW B a=>dL TK Q B (aI 2 Q (aX TK Q (aI 2 Q (SB TK Q (λL o=>?_))))));cases L;replace a:=JF o a;refine aI 2 Q (VE a λX C a=>dL TK Q C (aI 2 Q (aX TK Q (aI 2 Q (SB TK Q (λN p=>?_))))));cases N;replace a:=JF p a;refine aI 2 Q (VE a λY E a=>dL TK Q E (aI 2 Q (aX TK Q (aI 2 Q (SB TK Q (λO q=>?_))))));cases O;replace a:=JF q a;refine aI 2 Q (VE a λZ F a=>dL TK Q F (aI 2 Q (aX TK Q (aI 2 Q (SB TK Q (λP s=>?_))))));cases P;replace a:=JF s a;exact aI 2 Q (VE a λa0 G a=>dL TK Q G (aI 2 Q (aX TK Q (aF 3 Q (aZ [0] a Q Q)))));replace a:=JT s a;exact aF 9 Q (aZ [0] a Q Q);replace a:=JT q a;exact aF 18 Q (aZ [0] a Q Q);replace a:=JT p a;exact aF 27 Q (aZ [0] a Q Q);replace a:=JT o a;exact aF 36 Q (aZ [0] a Q Q);replace a:=JT n a;exact aF 45 Q (aZ [0] a Q Q);replace a:=JT m a;exact aF 54 Q (aZ [0] a Q Q)
   refine aB [1,40,41,104] Q (bI a Q (λx a=>?_) (λx a=>?_))
   ·refine aL 7 Q (IE a λa1 a f=>?_);rw[u _ f]at a;refine WR (bS 1 Q (IE a λa2 a f=>?_));rw[H _ f]at a;exact WR (aY a Q)
   exact aK 4 Q (GE a λv a=>bN Q v (aF 2 Q (cA [0] a Q Q)))
  refine aL 2 Q (IE a λa3 a f=>?_);rw[u _ f]at a;exact WX (bS 1 Q (cA [0] a Q Q))
 exact aB [] Q (aL 5 Q (aY a Q))
theorem E5{i:Fd}{r:Bool}(a:uB i=some r):RetN TP 6 [i.enc] (.bool (r)):=by
 refine .unit (aJ (aQ Q) func6 Q ntmps6 Q Q (λwX gX=>?_)) Q;unfold uB at a;refine aB [0] Q (aM 1 Q (bU 0 Q Q Q (aG 3 Q (cH a (λ_=>[]) (λ_=>[]) [] [1] Q (λy a p=>?_) (λj a=>?_)))));refine aM 3 Q (aX TK Q (aG 4 Q (bF a (λe=>([(7,.d (.int .i64 e))])) (λe=>[]) [7] [1,6] [0] k0 Q (λe A a h=>aB [1,6,7] Q (bX 5 Q (bY a Q (λl a=>?_) (λl a=>?_)))))))
 ·refine aK 13 Q (VE a λt n a=>dL TK Q n (aI 2 Q (aX TK Q (aG 3 Q (bY a Q (λm a=>?_) (λm a=>?_))))))
  ·refine aL 7 Q (IE a λw a b=>?_);rw[h _ b]at a;refine WR (bS 1 Q (IE a λx a b=>?_));rw[p _ b]at a;exact WR (aY a Q)
  exact aK 4 Q (GE a λk a=>bN Q k (aF 2 Q (cA [0] a Q Q)))
 refine aL 2 Q (IE a λv a b=>?_);rw[h _ b]at a;exact WX (bS 1 Q (cA [0] a Q Q));refine aB [1] Q (aN a (λc=>([(2,.d (.bool (c)))])) (λc=>[]) [2] [] Q (λz a=>?_) (λc a=>?_))
 ·refine aM 3 Q (BE a λu o a=>bB Q (RN Q Q (hZ Q) ((E6 o).args ((.cons (.refl _) (.cons (.nil _) .nil))))) (SB TK Q (λq f=>?_)));cases q;replace a:=JB f a;exact aF 13 Q (aZ [0] a Q Q);replace a:=JA f a;refine aI 2 Q (aX TK Q (aI 2 Q (SB TK Q (λs g=>?_))));cases s;replace a:=JF g a;exact aF 7 Q (aZ [0] a Q Q);replace a:=JT g a;exact aI 2 Q (aX TK Q (aF 4 Q (aZ [0] a Q Q)))
 exact aB [2] Q (aL 1 Q (aY a Q))
theorem E4  {b:Ao} {c:A3} (a:gw=some (b,c)):RetT TP 20 [] [b.enc,c.enc]:=by
 refine .of (mv:=λ_=>false) (fD (aQ Q) func20 Q ntmps20 Q Q (λwX gX=>?_));unfold gw at a;refine aB [] Q (aM 1 Q (cK 0 Q Q bo Q (cK 1 Q Q xh Q (eZ 1 [some 3,none,none] Q Q (aI 3 Q (bB Q (bR Q plc60 bo Q Q Q Q) (bB Q (bR Q plc120 dG Q Q Q Q) (iE [.tmp 3] TK Q dG (bB Q (bR Q plc87 xh Q Q Q Q) (aF 5 Q ?_))))))))));obtain⟨rfl,rfl⟩:=bJ (aS a);exact⟨_,.mk _ (.cons (.agg (TK.lay Q) Q Q Q Q) (.cons (.agg (TK.lay Q) Q Q Q Q) .nil)) Q,(.cons (.d _) (.refl _) (.cons (.d _) (.refl _) .nil))⟩
theorem bv  {r:Aa} (a:xF=some r):RetD TP 21 [] (r.enc):=by
 refine .of (mv:=λ_=>false) (aJ (aQ Q) func21 Q ntmps21 Q Q (λwX gX=>?_));unfold xF at a;refine aB [] Q (aM 1 Q (cK 0 Q Q He Q (dJ (f:=An.enc) 0 2 1 141 7 Q Q Q (eZ 0 [none,some 1,none,some 4,some 4,some 3] Q Q (aI 3 Q (bB Q (pO [.const (Value.string ⟨#[97]⟩),.const (Value.string ⟨#[98]⟩),.const (Value.string ⟨#[99]⟩)] TK Q Q qj Q Q Q Q Q) (bB Q (bR Q pC cQ Q Q Q Q) (bB Q (bR Q H4 nW Q Q Q Q) (bB Q (bR Q pC cQ Q Q Q Q) (bB Q (bR Q H4 nW Q Q Q Q) (iE [.tmp 6,.tmp 8] TK Q nW (bB Q (jD Q plc28 He Q Q Q Q) (cK 2 Q Q He Q (dJ (f:=An.enc) 2 2 3 141 7 Q Q Q (eZ 2 [none,some 1,none,some 4,some 4,some 3] Q Q (aI 1 Q (dJ (f:=An.enc) 2 2 4 141 7 Q Q Q (eZ 2 [none,none,none,some 4,none,some 3] Q Q (aG 2 Q (aB [0,1] Q (aN a (λb=>[]) (λb=>([(2,.box 28 [.d (.str (⟨#[108,105,110,101]⟩:BA)),.d (.sl 1 (([(⟨#[97]⟩:BA),(⟨#[98]⟩:BA),(⟨#[99]⟩:BA)]:List BA).map D.str)),.msl 4 7 0 b.length,.d (.sl 4 (([]:List Ay).map Ay.enc)),.d (.sl 4 (([(⟨(⟨#[115,49]⟩:BA),(⟨(0:Int),(1:Int)⟩:End),(0:Int)⟩:As),(⟨(⟨#[115,50]⟩:BA),(⟨(1:Int),(1:Int)⟩:End),(0:Int)⟩:As)]:List As).map As.enc)),.d (.sl 3 (([]:List Am).map Am.enc))]),(4,.flat 141 7 (b.map An.enc))])) [] [0,1] Q (λp a=>?_) (λb a=>?_))))))))))))))))))))));refine aM 3 Q (bB Q (oT (f:=D.str) (xs:=([(⟨#[97]⟩:BA),(⟨#[98]⟩:BA),(⟨#[99]⟩:BA)]:List BA)) TK Q Q Q) (aG 4 Q (bF a (λ(e,c)=>([(14,.d (.int .i64 e))])) (λ(e,c)=>([(2,.box 28 [.d (.str (⟨#[108,105,110,101]⟩:BA)),.d (.sl 1 (([(⟨#[97]⟩:BA),(⟨#[98]⟩:BA),(⟨#[99]⟩:BA)]:List BA).map D.str)),.msl 4 7 0 c.length,.d (.sl 4 (([]:List Ay).map Ay.enc)),.d (.sl 4 (([(⟨(⟨#[115,49]⟩:BA),(⟨(0:Int),(1:Int)⟩:End),(0:Int)⟩:As),(⟨(⟨#[115,50]⟩:BA),(⟨(1:Int),(1:Int)⟩:End),(0:Int)⟩:As)]:List As).map As.enc)),.d (.sl 3 (([]:List Am).map Am.enc))]),(4,.flat 141 7 (c.map An.enc))])) [14] [0,1,12,13] [0,1,2,3,4] k0 Q (λs q a n=>?_))));obtain⟨e,c⟩:=s;refine aB [0,1,12,13,14] Q (bX 5 Q (bY a Q (λk a=>?_) (λk a=>?_)));exact aK 6 Q (VE a λg l a=>bB Q (jQ (f:=D.str) (xs:=([(⟨#[97]⟩:BA),(⟨#[98]⟩:BA),(⟨#[99]⟩:BA)]:List BA)) TK Q Q Q Q l) (aI 10 Q (bB Q (bR Q plc141 rI Q Q Q Q) (iE [.tmp 23] TK Q rI (GE a λi a=>fJ (f:=An.enc) ([(⟨g,(1:Int),(20000:Int),(0:Int),(1000:Int),(0:Int),e⟩:An)]:List An) TK Q Q rI Q Q Q Q Q (λh=>absurd h (pS _)) Q eC i Q Q (aG 5 Q (aB [0,1,12,13,14] Q (aK 1 Q (GE a λj a=>bN Q j (aF 2 Q (cA [0,1,2,3,4] a Q Q)))))))))));refine aL 2 Q (IE a λo a m=>?_);rw[n _ m]at a;exact WX (bS 1 Q (aZ [0,1,2,3,4] a Q Q));refine aB [0,1] Q (aK 1 Q (bB Q (bR Q pC cQ Q Q Q Q) (bB Q (bR Q pC cQ Q Q Q Q) (bB Q (bR Q plc153 sX Q Q Q Q) (bB Q (bR Q pC cQ Q Q Q Q) (bB Q (bR Q pC cQ Q Q Q Q) (bB Q (bR Q plc153 sX Q Q Q Q) (iE [.tmp 30,.tmp 33] TK Q sX (aG 4 Q (aB [0,1] Q (bP 5 Q (aB [0] Q (aL 1 Q ?_)))))))))))))
 obtain rfl:=OJ a;exact EndsS.cellR _ TK Q Q Q Q Q (fP (.cons (.d _) Q (.cons (.d _) Q (.cons (aW Q) Q (.cons (.d _) Q (.cons (.d _) Q (.cons (.d _) Q .nil)))))))
theorem xN{b:Ar}{r:Bool}(a:kN b=some r):RetN TP 23 [b.enc] (.bool (r)):=by
 refine .unit (aJ (aQ Q) func23 Q ntmps23 Q Q (λwX gX=>?_)) Q;unfold kN at a;exact aB [0] Q (aM 1 Q (bU 0 Q Q Q (aI 6 Q (aX TK Q (aI 2 Q (aX TK Q (aF 5 Q (aY a Q))))))))
theorem wg{b:Af}{r:Af}(a:eJ b=some r):RetD TP 60 [b.enc] (r.enc):=by
 refine .of (mv:=λ_=>false) (aJ (aQ Q) func60 Q ntmps60 Q Q (λwX gX=>?_));unfold eJ at a;refine aB [0] Q (aM 1 Q (bU 0 Q Q Q (cK 1 Q Q jL Q (eZ 1 [none,none,none,none,some 3,some 1,some 1,some 1,some 1,none,none,none,none,none] Q Q (aI 5 Q (iK a (eR ·) Q λc a=>aI 7 Q (iK a (cB ·) Q λe a=>aI 7 Q (iK a (cB ·) Q λf a=>aI 7 Q (iK a (cB ·) Q λg a=>aG 4 Q (aB [1,2] Q (aK 3 Q (iK a (cB ·) Q λh a=>aF 10 Q ?_))))))))))));obtain rfl:=OJ a;exact EndsS.cellR _ TK Q Q Q Q Q (.d _)
theorem cu{b:Int}{c:A6}{r:Bool}(a:qC b c=some r):RetN TP 62 [.int .i64 b,.ptr (c.enc) 0] (.bool (r)):=by
 refine .unit (aJ (aQ Q) func62 Q ntmps62 Q Q (λwX gX=>?_)) Q;unfold qC at a;refine aB [0,1] Q (bX 5 Q ?_);refine fC [(13,.d (.bool (((decide (b<0))||(decide ((c.Ak.length:Int)<=b))))))] [13] [0,1] Q ?_ ?_;refine aM 3 Q (SB TK Q (λj f=>?_));cases j;refine aI 3 Q (aX TK Q (aF 3 Q ?_));exact⟨[],Q,k0,bT (aO (aP (by simp[f])) Q) Q⟩;refine aF 7 Q ?_;exact⟨[],Q,k0,bT (aO (aP (by simp[f])) Q) Q⟩;refine aB [0,1,13] Q (bI a Q (λh a=>?_) (λh a=>?_))
 ·exact aL 6 Q (aY a Q)
 refine aK 6 Q (VE a λe i a=>dL TK Q i (aG 5 Q (fC [(3,.d (.bool (((!(decide (e.state=3)))&&(!(decide (e.state=4)))))))] [3] [] Q ?_ ?_)))
 ·refine aM 3 Q (SB TK Q (λk g=>?_));cases k;refine aF 5 Q ?_;exact⟨[],Q,k0,bT (aO (aP (by simp[g])) Q) Q⟩;refine aF 5 Q ?_;exact⟨[],Q,k0,bT (aO (aP (by simp[g])) Q) Q⟩
 exact aB [3] Q (aL 1 Q (aY a Q))
theorem vI{h:(List Int)}{i:Int->Option Bool}{f:D}(q:∀e r,i e=some r->∃F cs,sV f=some (F,cs)/\RetD TP F ([.int .i64 e]++cs) (.bool (r))){r:Int}(a:gH h i=some r):RetN TP 113 [.sl 1 (h.map (D.int .i64)),f] (.int .i64 r):=by
 refine .unit (aJ (aQ Q) func113 Q ntmps113 Q Q (λwX gX=>?_)) Q;unfold gH at a;refine aB [0,1] Q (bX 4 Q (cH a (λ_=>[]) (λ_=>[]) [] [] Q (λA a t=>?_) (λj a=>?_)));refine aM 2 Q (aX TK Q (aG 4 Q (bF a (λc=>([(8,.d (.int .i64 c))])) (λc=>[]) [8] [0,1,7] [] k0 Q (λc B a g=>aB [0,1,7,8] Q (bX 5 Q (bY a Q (λl a=>?_) (λl a=>?_)))))))
 ·refine aK 13 Q (VE a λv p a=>dL TK Q p (aI 1 Q (BE a λw s a=>?_)));obtain⟨Fr7,u,n,o⟩:=q _ _ s;refine bB Q (pB Q Q n Q o) (aG 2 Q (bI a Q (λm a=>?_) (λm a=>?_)));refine aL 8 Q (IE a λz a b=>?_);rw[g _ b]at a;refine WR (bS 1 Q (IE a λx a b=>?_));rw[t _ b]at a;exact WR (aY a Q);exact aK 4 Q (GE a λk a=>bN Q k (aF 2 Q (cA [] a Q Q)))
 refine aL 2 Q (IE a λy a b=>?_);rw[g _ b]at a;exact WX (bS 1 Q (cA [] a Q Q));exact aB [] Q (aL 5 Q (aY a Q))
theorem uE{e:(List Int)}{f:Int->Option Bool}{c:D}(h:∀b r,f b=some r->∃F cs,sV c=some (F,cs)/\RetD TP F ([.int .i64 b]++cs) (.bool (r))){r:(List Int)}(a:iQ e f=some r):RetD TP 61 [.sl 1 (e.map (D.int .i64)),c] (.sl 1 (r.map (D.int .i64))):=by
 refine .of (mv:=λ_=>false) (aJ (aQ Q) func61 Q ntmps61 Q Q (λwX gX=>?_));unfold iQ at a;refine aB [0,1] Q (aM 7 Q (BE a λj i a=>bB Q (RN Q Q (hZ Q) (vI h i)) (aG 9 Q (bY a Q (λg a=>?_) (λg a=>?_)))));refine aL 7 Q ?_;obtain rfl:=OJ a;exact EndsS.one _ Q (.d _) (.refl _);cases a
theorem wh{b:Af}{c:A6}{r:Af}(a:nR b c=some r):RetD TP 24 [b.enc,c.enc] (r.enc):=by
 refine .of (mv:=λ_=>false) (aJ (aQ Q) func24 Q ntmps24 Q Q (λwX gX=>?_));unfold nR at a;refine aB [0,1] Q (aM 1 Q (bU 0 Q Q Q (bU 1 Q Q Q (cK 2 Q Q jL Q (eZ 2 [none,none,none,none,some 3,some 1,some 1,some 1,some 1,none,none,none,none,none] Q Q (aI 4 Q (iK a (wg ·) Q λf a=>aG 3 Q (vn 1 Q Q Q Q Q (aK 4 Q (BE a λg e a=>bB Q (RD Q Q Q (uE (λ_ r h=>⟨62,_,Q,(cu h).retD⟩) e)) (aF 10 Q ?_)))))))))));obtain rfl:=OJ a;exact EndsS.cellR _ TK Q Q Q Q Q (.d _)
theorem yq{b:Af}{c:Int}{r:Bool}(a:rS b c=some r):RetN TP 115 [b.enc,.ptr (.agg [.int .i64 c]) 0] (.bool (r)):=by
 refine .unit (aJ (aQ Q) func115 Q ntmps115 Q Q (λwX gX=>?_)) Q;unfold rS at a;exact aB [0,1] Q (aM 1 Q (bU 0 Q Q Q (aI 7 Q (dI a (iR ·) Q λd a=>aF 4 Q (aY a Q)))))
theorem tN{h:(List Af)}{i:Af->Option Bool}{f:D}(q:∀e r,i e=some r->∃F cs,sV f=some (F,cs)/\RetD TP F ([e.enc]++cs) (.bool (r))){r:Int}(a:iA h i=some r):RetN TP 164 [.sl 14 (h.map Af.enc),f] (.int .i64 r):=by
 refine .unit (aJ (aQ Q) func164 Q ntmps164 Q Q (λwX gX=>?_)) Q;unfold iA at a;refine aB [0,1] Q (bX 4 Q (cH a (λ_=>[]) (λ_=>[]) [] [] Q (λA a t=>?_) (λj a=>?_)));refine aM 2 Q (aX TK Q (aG 4 Q (bF a (λc=>([(8,.d (.int .i64 c))])) (λc=>[]) [8] [0,1,7] [] k0 Q (λc B a g=>aB [0,1,7,8] Q (bX 5 Q (bY a Q (λl a=>?_) (λl a=>?_)))))))
 ·refine aK 13 Q (VE a λv p a=>dL TK Q p (aI 1 Q (BE a λw s a=>?_)));obtain⟨Fr7,u,n,o⟩:=q _ _ s;refine bB Q (pB Q Q n Q o) (aG 2 Q (bI a Q (λm a=>?_) (λm a=>?_)));refine aL 8 Q (IE a λz a b=>?_);rw[g _ b]at a;refine WR (bS 1 Q (IE a λx a b=>?_));rw[t _ b]at a;exact WR (aY a Q);exact aK 4 Q (GE a λk a=>bN Q k (aF 2 Q (cA [] a Q Q)))
 refine aL 2 Q (IE a λy a b=>?_);rw[g _ b]at a;exact WX (bS 1 Q (cA [] a Q Q));exact aB [] Q (aL 5 Q (aY a Q))
theorem rP{d:(List Af)}{e:Af->Option Bool}{c:D}(f:∀b r,e b=some r->∃F cs,sV c=some (F,cs)/\RetD TP F ([b.enc]++cs) (.bool (r))){r:Bool}(a:eP d e=some r):RetN TP 114 [.sl 14 (d.map Af.enc),c] (.bool (r)):=by
 refine .unit (aJ (aQ Q) func114 Q ntmps114 Q Q (λwX gX=>?_)) Q;unfold eP at a;exact aB [0,1] Q (aM 7 Q (BE a λh g a=>bB Q (RN Q Q (hZ Q) (tN f g)) (aF 5 Q (aY a Q))))
theorem Ft{k:A1}{l:A6}{m:(List Af)}{n:Int}{r:Int}(a:uH k l m n=some r):RetN TP 63 [k.enc,l.enc,.sl 14 (m.map Af.enc),.int .i64 n] (.int .i64 r):=by
 refine .unit (aJ (aQ Q) func63 Q ntmps63 Q Q (λwX gX=>?_)) Q;unfold uH at a;refine aB [0,1,2,3] Q (aM 1 Q (bU 0 Q Q Q (bU 1 Q Q Q (aG 3 Q (cH a (λ_=>[]) (λ_=>[]) [] [] Q (λI a i=>?_) (λj a=>?_))))));refine aM 3 Q (aX TK Q (aG 4 Q (bF a (λf=>([(15,.d (.int .i64 f))])) (λf=>[]) [15] [2,3,5,13,14] [0,1] k0 Q (λf K a c=>aB [2,3,5,13,14,15] Q (bX 5 Q (bY a Q (λt a=>?_) (λt a=>?_)))))))
 ·refine aK 6 Q (VE a λA w a=>dL TK Q w (aI 1 Q (cK 2 Q Q fL Q (cK 3 Q Q oD Q (eZ 3 [none,none,none,some 3,some 2,some 1,none,none,some 3,some 2,some 1,some 2,some 1,some 2] Q Q (aI 9 Q (aX TK Q (aG 3 Q (bY a Q (λu a=>?_) (λu a=>?_))))))))))
  ·refine bP 4 Q (aB [8] Q (aL 4 Q (IE a λG a b=>?_)));rw[c _ b]at a;refine WR (bS 1 Q (IE a λH a b=>?_));rw[i _ b]at a;exact WR (aY a Q)
  refine bP 3 Q (aN a (λe=>([(37,.d (.bool (e)))])) (λe=>[]) [37] [2,3,5,9,13,14,15] Q (λJ a=>?_) (λe a=>?_))
  ·refine aM 5 Q (SB TK Q (λy g=>?_));cases y;replace a:=sP g a;exact aI 3 Q (VE a λz v a=>dL TK Q v (aF 5 Q (aZ [0,1,2,3] a Q Q)));replace a:=sO g a;exact aF 9 Q (aZ [0,1,2,3] a Q Q)
  refine aB [2,3,5,9,13,14,15,37] Q (bI a Q (λq a=>?_) (λq a=>?_))
  ·exact aK 5 Q (GE a λo a=>bN Q o (aF 2 Q (cA [0,1] a Q Q)))
  refine bP 2 Q (vn 2 Q Q Q Q Q (aK 3 Q (BE a λB x a=>bB Q (RN Q Q (hZ Q) (rP (λ_ r h=>⟨115,_,Q,(yq h).retD⟩) x)) (aG 8 Q (bI a Q (λs a=>?_) (λs a=>?_))))))
  ·refine bP 5 Q (aB [8] Q (aL 3 Q (IE a λC a b=>?_)));rw[c _ b]at a;refine WR (bS 1 Q (IE a λE a b=>?_));rw[i _ b]at a;exact WR (aY a Q)
  exact aK 4 Q (GE a λp a=>bN Q p (aF 2 Q (cA [0,1] a Q Q)))
 refine aL 2 Q (IE a λF a b=>?_);rw[c _ b]at a;exact WX (bS 1 Q (cA [0,1] a Q Q));exact aB [] Q (aL 5 Q (aY a Q))
theorem wW{b:Ae}{c:Ae}{r:Bool}(a:jT b c=some r):RetN TP 166 [b.enc,.ptr (c.enc) 0] (.bool (r)):=by
 refine .unit (aJ (aQ Q) func166 Q ntmps166 Q Q (λwX gX=>?_)) Q;unfold jT at a;exact aB [0,1] Q (aM 1 Q (bU 0 Q Q Q (aF 13 Q (aY a Q))))
theorem cr{b:Ae}{c:Af}{r:Bool}(a:mP b c=some r):RetN TP 165 [b.enc,.ptr (c.enc) 0] (.bool (r)):=by
 refine .unit (aJ (aQ Q) func165 Q ntmps165 Q Q (λwX gX=>?_)) Q;unfold mP at a;exact aB [0,1] Q (aM 1 Q (bU 0 Q Q Q (aG 3 Q (vn 0 Q Q Q Q Q (aK 4 Q (BE a λe d a=>bB Q (RN Q Q (hZ Q) (eG (λ_ r h=>⟨166,_,Q,(wW h).retD⟩) d)) (aF 4 Q (aY a Q))))))))
theorem we{e:A1}{b:Af}{c:Int}{r:A5 ⊕ Al}(a:nQ e b c=some r):Iz TP 117 [e.enc,b.enc,.int .i64 c] (λp=>.iface 216 p.enc) (λv=>.d (v.enc)) r:=by
 refine Ch (aQ Q) func117 Q ntmps117 Q Q (λwX gX=>?_);unfold nQ at a;refine aB [0,1,2] Q (aM 1 Q (bU 0 Q Q Q (bU 1 Q Q Q (cK 2 Q Q oD Q (eZ 2 [none,none,none,some 3,some 2,some 1,none,none,some 3,some 2,some 1,some 2,some 1,some 2] Q Q (aG 3 Q ?_))))));refine fC [(17,.d (.bool (((decide (c<0))||(decide ((e.Ak.length:Int)<=c))))))] [17] [2,3,4,6] Q ?_ ?_;refine aM 3 Q (SB TK Q (λz i=>?_));cases z;refine aI 3 Q (aX TK Q (aF 3 Q ?_));exact⟨[0,1,2],Q,k0,bT (aO (aP (by simp[i])) Q) Q⟩;refine aF 7 Q ?_;exact⟨[0,1,2],Q,k0,bT (aO (aP (by simp[i])) Q) Q⟩;refine aB [2,3,4,6,17] Q (bI a Q (λs a=>?_) (λs a=>?_))
 ·refine mF (rC 2 Q Q (bB Q (bR Q yv yQ Q Q Q Q) (aF 2 Q (oI (rL Q Q (λch3 hp3=>fE _ ?_))))));obtain rfl:=OJ a;exact hp3
 refine aK 6 Q (VE a λm x a=>dL TK Q x (aI 1 Q (cK 3 Q Q oD Q (eZ 3 [none,none,none,some 3,some 2,some 1,none,none,some 3,some 2,some 1,some 2,some 1,some 2] Q Q (aG 10 Q (mT a Q (λu a=>?_) (λu a=>?_)))))))
 ·refine mF (rC 2 Q Q (bB Q (bR Q yv yQ Q Q Q Q) (aF 2 Q (oI (rL Q Q (λch6 hp6=>fE _ ?_))))));obtain rfl:=OJ a;exact hp6
 refine bP 3 Q ?_;refine fC [(39,.d (.bool (((decide (b.endV=(-1:Int)))||(!(decide (b.endV=m.entry)))))))] [39] [2,4,6,7] Q ?_ ?_;refine aM 4 Q (SB TK Q (λC l=>?_));cases C;refine aF 7 Q ?_;exact⟨[0,1,2,3],Q,k0,bT (aO (aP (by simp[l])) Q) Q⟩;refine aF 7 Q ?_;exact⟨[0,1,2,3],Q,k0,bT (aO (aP (by simp[l])) Q) Q⟩;refine aB [2,4,6,7,39] Q (bI a Q (λw a=>?_) (λw a=>?_))
 ·refine mF (rC 2 Q Q (bB Q (bR Q yv yQ Q Q Q Q) (aF 2 Q (oI (rL Q Q (λch9 hp9=>fE _ ?_))))));obtain rfl:=OJ a;exact hp9
 refine bP 2 Q (vn 1 Q Q Q Q Q (bP 6 Q (aN a (λf=>([(52,.d (.bool (f)))])) (λf=>[]) [52] [4,6,7] Q (λG a=>?_) (λf a=>?_))))
 ·refine aM 4 Q (BE a λE y a=>bB Q (RN Q Q (hZ Q) (eG (λ_ r h=>⟨165,_,Q,(cr h).retD⟩) y)) (SB TK Q (λA j=>?_)));cases A;replace a:=JB j a;exact aI 3 Q (dI a (iR ·) Q λF a=>aF 2 Q (aZ [0,1,2,3] a Q Q));replace a:=JA j a;exact aF 6 Q (aZ [0,1,2,3] a Q Q)
 refine aB [4,6,7,52] Q (bI a Q (λq a=>?_) (λq a=>?_))
 ·refine mF (rC 2 Q Q (bB Q (bR Q yv yQ Q Q Q Q) (aF 2 Q (oI (rL Q Q (λch16 hp16=>fE _ ?_))))));obtain rfl:=OJ a;exact hp16
 refine bP 3 Q (aN a (λg=>([(70,.d (.bool (g)))])) (λg=>[]) [70] [6,7] Q (λH a=>?_) (λg a=>?_))
 ·refine aM 3 Q (aX TK Q (aI 2 Q (aX TK Q (GE a λn a=>bN Q n (aI 1 Q (SB TK Q (λB k=>?_)))))));cases B;replace a:=JF k a;exact aI 4 Q (GE a λo a=>bN Q o (aF 3 Q (aZ [0,1,2,3] a Q Q)));replace a:=JT k a;exact aF 8 Q (aZ [0,1,2,3] a Q Q)
 refine aB [6,7,70] Q (bI a Q (λt a=>?_) (λt a=>?_))
 ·refine mF (rC 2 Q Q (bB Q (bR Q yv yQ Q Q Q Q) (aF 2 Q (oI (rL Q Q (λch23 hp23=>fE _ ?_))))));obtain rfl:=OJ a;exact hp23
 refine aL 8 Q ?_;obtain rfl:=OJ a;exact Cd (EndsS.cellR _ TK Q Q Q Q Q (.d _))
theorem wd{f:Aa}{g:Al}{r:Int}(a:nP f g=some r):RetN TP 118 [f.enc,g.enc] (.int .i64 r):=by
 refine .unit (aJ (aQ Q) func118 Q ntmps118 Q Q (λwX gX=>?_)) Q;unfold nP at a;refine aB [0,1] Q (aM 1 Q (bU 0 Q Q Q (bU 1 Q Q Q (aI 7 Q (aX TK Q (aG 3 Q (bY a Q (λl a=>?_) (λl a=>?_))))))));exact aL 6 Q (aY a Q);refine aK 7 Q (aX TK Q (GE a λk a=>bN Q k (VE a λv p a=>dL TK Q p (aG 4 Q (aB [2,3,5] Q (bP 4 Q (aN a (λb=>([(6,.d (.int .i64 b))])) (λb=>[]) [6] [] Q (λA a=>?_) (λb a=>?_))))))))
 ·refine aM 3 Q (aX TK Q (aG 4 Q (bF a (λ(c,e)=>([(6,.d (.int .i64 c)),(24,.d (.int .i64 e))])) (λ(c,e)=>[]) [6,24] [2,5,22,23] [0,1] k0 Q (λs z a t=>?_))));obtain⟨c,e⟩:=s;refine aB [2,5,6,22,23,24] Q (bX 5 Q (bY a Q (λm a=>?_) (λm a=>?_)));refine aK 5 Q (VE a λu o a=>dL TK Q o (aI 1 Q (cK 2 Q Q dG Q (aI 7 Q (dI a (eN ·) Q λw a=>aG 4 Q (bY a Q (λn a=>?_) (λn a=>?_)))))))
  ·exact aK 4 Q (dI a (oC ·) Q λx a=>GE a λh a=>bN Q h (aG 4 Q (aB [2,5,6,22,23,24] Q (aK 1 Q (GE a λi a=>bN Q i (aF 2 Q (cA [0,1] a Q Q)))))))
  exact aK 4 Q (GE a λj a=>bN Q j (aF 2 Q (cA [0,1] a Q Q)));refine aL 2 Q (IE a λy a q=>?_);rw[t _ q]at a;exact WX (bS 1 Q (aZ [0,1] a Q Q))
 exact aB [6] Q (aL 6 Q (aY a Q))
theorem yJ{a:Af}{e:Int}{pv:A5}{b:Af}{f:Int}{ch:List PanicEntry}(hx:I1 (.iface 216 pv.enc) ch)(c:kP a e pv=some (b,f)):Ca TP 116 [.box 73 [.d (.int .i64 a.id),.d (.int .i64 a.origin),.d (.int .i64 a.endV),.d (.int .i64 a.atV),.d (.sl 3 (a.steps.map Ae.enc)),.d (.sl 1 (a.Ak.map (D.int .i64))),.d (.sl 1 (a.starts.map (D.int .i64))),.d (.sl 1 (a.ends.map (D.int .i64))),.d (.sl 1 (a.done.map (D.int .i64))),.d (.int .i64 a.min),.d (.int .i64 a.sent),.d (.int .i64 a.accepted),.d (.int .i64 a.cut),.d (.int .i64 a.cutSeq)],.box 40 [.d (.int .i64 e)]] (.panicking ch) [.box 73 [.d (.int .i64 b.id),.d (.int .i64 b.origin),.d (.int .i64 b.endV),.d (.int .i64 b.atV),.d (.sl 3 (b.steps.map Ae.enc)),.d (.sl 1 (b.Ak.map (D.int .i64))),.d (.sl 1 (b.starts.map (D.int .i64))),.d (.sl 1 (b.ends.map (D.int .i64))),.d (.sl 1 (b.done.map (D.int .i64))),.d (.int .i64 b.min),.d (.int .i64 b.sent),.d (.int .i64 b.accepted),.d (.int .i64 b.cut),.d (.int .i64 b.cutSeq)],.box 40 [.d (.int .i64 f)]]:=by
 refine yG (aQ Q) func116 Q Q ntmps116 Q Q Q (.inr ⟨_,Q,hx⟩) (λwX gX=>?_);unfold kP at c;refine aI 5 Q (bB Q (x_nilY Q Tryz.underlying20 Q) (aG 2 Q ?_));refine TC true Q (λ_=>?_) (λh=>by cases h);refine aK 1 Q (bB Q (bR Q Jb jL Q Q Q Q) (Kb 8 [none,none,none,none,some 3,some 1,some 1,some 1,some 1,none,none,none,none,none] Q (aI 6 Q (bB Q (x_asY Q conc216 Q Q) (aI 3 Q (cK 2 Q Q yQ Q (aG 8 Q ?_)))))));refine TC true Q (λ_=>?_) (λh=>by cases h);refine aL 5 Q ?_;obtain⟨rfl,rfl⟩:=bJ (aS c);exact⟨_,[0,1],res Q,by decide,(kB Q),Q,Q⟩
theorem gI{b:(List Int)}{r:(List Int)}(a:bW b=some r):Ret TP 39 [] (λ_=>false) ([.sl 1 (b.map (D.int .i64))].map .d) (.msl 0 1 0 r.length) [.flat 3 1 (r.map (D.int .i64))]:=by
 refine eB (aQ Q) func39 Q ntmps39 Q Q (λwX gX=>?_);unfold bW at a;refine aB [0] Q (aM 1 Q (iC (f:=(D.int .i64)) 0 3 1 Q Q Q (aI 5 Q (tB Q Tryz.underlying37 Q Q (λg hb1=>aG 2 Q (TC _ Q (λc=>?_) (λc=>?_)))))));obtain⟨hnb1,a⟩:=vb (hb1 c) a;subst hnb1;refine aK 1 Q (iC (f:=(D.int .i64)) 1 3 1 Q Q Q (aF 4 Q ?_));obtain rfl:=OJ a;exact⟨_,[1],res Q,by decide,k0,Q,Q⟩;replace a:=vd a;refine aK 3 Q (xI (f:=(D.int .i64)) 1 [] ([]:List Int) TK Q Q Q fL Q Q Q Q Q (aI 1 Q (GE a λe a=>fJ (f:=(D.int .i64)) b TK Q Q fL Q Q Q Q Q (λh=>absurd h (pS _)) Q eC e Q Q (aF 4 Q ?_))));obtain rfl:=OJ a;exact⟨_,[1],res Q,by decide,k0,Q,Q⟩
theorem fm{b:Af}{r:Af}(a:eJ b=some r):Ret TP 60 [] (λ_=>false) ([b.enc].map .d) (.agg [.d (.int .i64 r.id),.d (.int .i64 r.origin),.d (.int .i64 r.endV),.d (.int .i64 r.atV),.msl 0 3 0 r.steps.length,.msl 1 1 0 r.Ak.length,.msl 2 1 0 r.starts.length,.msl 3 1 0 r.ends.length,.d (.sl 1 (r.done.map (D.int .i64))),.d (.int .i64 r.min),.d (.int .i64 r.sent),.d (.int .i64 r.accepted),.d (.int .i64 r.cut),.d (.int .i64 r.cutSeq)]) [.flat 120 3 (r.steps.map Ae.enc),.flat 3 1 (r.Ak.map (D.int .i64)),.flat 3 1 (r.starts.map (D.int .i64)),.flat 3 1 (r.ends.map (D.int .i64))]:=by
 refine eB (aQ Q) func60 Q ntmps60 Q Q (λwX gX=>?_);unfold eJ at a;refine aB [0] Q (aM 1 Q (bU 0 Q Q Q (cK 1 Q Q jL Q (dJ (f:=Ae.enc) 1 4 2 120 3 Q Q Q (dJ (f:=(D.int .i64)) 1 5 3 3 1 Q Q Q (dJ (f:=(D.int .i64)) 1 6 4 3 1 Q Q Q (dJ (f:=(D.int .i64)) 1 7 5 3 1 Q Q Q (eZ 1 [none,none,none,none,none,none,none,none,some 1,none,none,none,none,none] Q Q (aG 2 Q (aB [1,2] Q (aK 3 Q (BE a λi c a=>kM Q Q Q (lI c) Q Q (oZ 5 (.msl 6 3 0 i.length) Q Q (aG 4 Q (aB [1,2] Q (aK 3 Q (BE a λj e a=>kM Q Q Q (gI e) Q Q (oZ 9 (.msl 7 1 0 j.length) Q Q (aG 4 Q (aB [1,2] Q (aK 3 Q ?_)))))))))))))))))))));refine BE a λk g a=>kM Q Q Q (gI g) Q Q (oZ 13 (.msl 8 1 0 k.length) Q Q (aG 4 Q (aB [1,2] Q (aK 3 Q (BE a λl h a=>kM Q Q Q (gI h) Q Q (oZ 17 (.msl 9 1 0 l.length) Q Q (aG 4 Q (aB [1,2] Q (aK 3 Q (iK a (cB ·) Q λm a=>aG 4 Q (aB [1,2] Q (bP 5 Q (aB [2] Q (aL 1 Q ?_))))))))))))));obtain rfl:=OJ a;exact⟨_,[6,7,8,9],.mk _ (.cons (.agg (TK.lay Q) Q Q Q Q) .nil) Q,by decide,k0,Q,Q⟩
theorem yI{a:Af}{e:Int}{b:Af}{f:Int}(c:kO a e=some (b,f)):Ca TP 116 [.box 73 [.d (.int .i64 a.id),.d (.int .i64 a.origin),.d (.int .i64 a.endV),.d (.int .i64 a.atV),.d (.sl 3 (a.steps.map Ae.enc)),.d (.sl 1 (a.Ak.map (D.int .i64))),.d (.sl 1 (a.starts.map (D.int .i64))),.d (.sl 1 (a.ends.map (D.int .i64))),.d (.sl 1 (a.done.map (D.int .i64))),.d (.int .i64 a.min),.d (.int .i64 a.sent),.d (.int .i64 a.accepted),.d (.int .i64 a.cut),.d (.int .i64 a.cutSeq)],.box 40 [.d (.int .i64 e)]] .returning [.box 73 [.d (.int .i64 b.id),.d (.int .i64 b.origin),.d (.int .i64 b.endV),.d (.int .i64 b.atV),.d (.sl 3 (b.steps.map Ae.enc)),.d (.sl 1 (b.Ak.map (D.int .i64))),.d (.sl 1 (b.starts.map (D.int .i64))),.d (.sl 1 (b.ends.map (D.int .i64))),.d (.sl 1 (b.done.map (D.int .i64))),.d (.int .i64 b.min),.d (.int .i64 b.sent),.d (.int .i64 b.accepted),.d (.int .i64 b.cut),.d (.int .i64 b.cutSeq)],.box 40 [.d (.int .i64 f)]]:=by
 refine yG (aQ Q) func116 Q Q ntmps116 Q Q Q (.inl ⟨Q,Q⟩) (λwX gX=>?_);unfold kO at c;refine aI 5 Q (bB Q (Hh Q Tryz.underlying20 Q) (aG 2 Q (TC false Q (λh=>by cases h) (λ_=>aL 1 Q ?_))));obtain⟨rfl,rfl⟩:=bJ (aS c);exact⟨_,[0,1],res Q,by decide,(kB Q),Q,Q⟩
theorem wj{g:Aa}{i:A1}{j:Af}{c:Int}{k:Af}{l:Int}(a:nT g i j c=some (k,l)):RetT TP 64 [g.enc,i.enc,j.enc,.int .i64 c] [k.enc,.int .i64 l]:=by
 refine .of (mv:=λ_=>false) (cd (aQ Q) func64 Q ntmps64 Q Q (λwX gX=>?_));unfold nT at a;refine Eg (bU 0 Q Q Q (bU 1 Q Q Q (bU 2 Q Q Q (cK 3 Q Q jL Q (eZ 3 [none,none,none,none,some 3,some 1,some 1,some 1,some 1,none,none,none,none,none] Q Q (cK 4 Q Q zero40 Q (aF 1 Q (oI (xc 1 11 Q Q (bB Q (tD Q) (aF 1 Q (oI (f_go [3,4] Q (λwY gY dfY=>aB [3,4,5,6,8,9] Q (Hg (ks:=[]) (rC 3 Q Q (aF 4 Q (oI (BE a λB t a=>Dc Q Q Q (we t) (λ_=>Q) (λF ch5 er2 hp5=>?_) (λe er2=>?_))))))))))))))))))));subst er2;dsimp only at a;refine fE _ (BE a λy u a=>?_);obtain⟨C,E⟩:=y;obtain⟨rfl,rfl⟩:=bJ (aS a);exact yr Q Q Q (yJ hp5 u) Q Q ⟨_,.mk _ (.cons (.agg (TK.lay Q) Q Q Q Q) (.cons (.one (TK.lay Q) Q Q Q) .nil)) Q,(.cons (.d _) (.refl _) (.cons (.d _) (.refl _) .nil))⟩;subst er2;dsimp only at a;refine Db (cK 5 Q Q oD Q (eZ 5 [none,none,none,some 3,some 2,some 1,none,none,some 3,some 2,some 1,some 2,some 1,some 2] Q Q (aG 3 Q (aB [3,4,6,8,9,10] Q (aK 2 Q (BE a λb v a=>kM Q Q Q (fm v) Q Q (oZ 17 (.agg [.d (.int .i64 b.id),.d (.int .i64 b.origin),.d (.int .i64 b.endV),.d (.int .i64 b.atV),.msl 6 3 0 b.steps.length,.msl 7 1 0 b.Ak.length,.msl 8 1 0 b.starts.length,.msl 9 1 0 b.ends.length,.d (.sl 1 (b.done.map (D.int .i64))),.d (.int .i64 b.min),.d (.int .i64 b.sent),.d (.int .i64 b.accepted),.d (.int .i64 b.cut),.d (.int .i64 b.cutSeq)]) Q Q (aG 3 Q (aB [3,4,8,9,10] Q (aK 5 Q (GE a λm a=>bN Q m (aG 4 Q (aB [3,4,8,9,10] Q (bP 7 Q (aB [3,4,8,9,10] Q (aK 5 Q (GE a λn a=>?_)))))))))))))))));refine fJ (f:=Ae.enc) e.path TK Q Q dG Q Q Q Q Q (λh=>absurd (show 6<5 from h) (by decide)) Q eC n Q Q ?_;refine aG 4 Q (aB [3,4,8,9,10] Q (aK 4 Q (iE [.tmp 35] TK Q fL (GE a λo a=>?_))));refine fJ (f:=(D.int .i64)) ([c]:List Int) TK Q Q fL Q Q Q Q Q (λh=>absurd (show 7<5 from h) (by decide)) Q eC o Q Q ?_;refine aG 4 Q (aB [4,8,9,10] Q (bK follows ?_));iterate 6 (refine DA [0,1,2,3,4,5,6,7,8,9] TK Q ?_)
 refine gA [0,1,2,3,4,5,6,7,8,9] a (wd ·) Q λw a=>GE a λp a=>aU [0,1,2,3,4,5,6,7,8,9] Q (mG Q Q Q Q p) (aU [0,1,2,3,4,5,6,7,8,9] Q (pO [.tmp 46] TK Q Q fL Q Q Q Q Q) ?_);refine DT ?_ (by kernel_rfl);refine GE a λq a=>?_;refine fJ (f:=(D.int .i64)) ([((b.atV+e.length)-w)]:List Int) TK Q Q fL Q Q Q Q Q (λh=>absurd (show 8<5 from h) (by decide)) Q eC q Q Q ?_;refine aG 4 Q (aB [8,9] Q (aK 5 Q (iE [.tmp 53] TK Q fL (GE a λr a=>?_))));refine fJ (f:=(D.int .i64)) ([(b.atV+e.length)]:List Int) TK Q Q fL Q Q Q Q Q (λh=>absurd (show 9<5 from h) (by decide)) Q eC r Q Q ?_;refine aG 4 Q (aB [8,9] Q (bP 6 Q ?_));refine zu 3 4 6 [8,9] Q Q Q Q Q Q (by simp) Q Q Q ?_;refine aB [8,9] Q ?_;refine zu 3 5 7 [8,9] Q Q Q Q Q Q (by simp) Q Q Q ?_;refine aB [8,9] Q ?_;refine zu 3 6 8 [8,9] Q Q Q Q Q Q (by simp) Q Q Q ?_;refine aB [8,9] Q ?_;refine zu 3 7 9 [8,9] Q Q Q Q Q Q (by simp) Q Q Q ?_;refine aB [8,9] Q (aL 1 Q (BE a λx s a=>?_));obtain⟨z,A⟩:=x;obtain⟨rfl,rfl⟩:=bJ (aS a);exact yr Q Q Q (yI s) Q Q ⟨_,.mk _ (.cons (.agg (TK.lay Q) Q Q Q Q) (.cons (.one (TK.lay Q) Q Q Q) .nil)) Q,(.cons (.d _) (.refl _) (.cons (.d _) (.refl _) .nil))⟩
theorem lW{a:Int}{r:Bool}(b:fA a=some r):RetN TP 172 [.int .i64 a] (.bool (r)):=by
 refine .unit (aJ (aQ Q) func172 Q ntmps172 Q Q (λwX gX=>?_)) Q;unfold fA at b;refine aB [0] Q (bX 4 Q (fC [(2,.d (.bool (((decide ((-1073741824:Int)<=a))&&(decide (a<=1073741824))))))] [2] [] Q ?_ ?_));refine aM 3 Q (SB TK Q (λe c=>?_));cases e;refine aF 5 Q ?_;exact⟨[],Q,k0,bT (aO (aP (by simp[c])) Q) Q⟩;refine aF 5 Q ?_;exact⟨[],Q,k0,bT (aO (aP (by simp[c])) Q) Q⟩;exact aB [2] Q (aL 1 Q (aY b Q))
theorem kW{q:(List Ag)}{r:Bool}(a:fK q=some r):RetN TP 128 [.sl 4 (q.map Ag.enc)] (.bool (r)):=by
 refine .unit (aJ (aQ Q) func128 Q ntmps128 Q Q (λwX gX=>?_)) Q;unfold fK at a;refine aB [0] Q (aM 7 Q (aX TK Q (aG 3 Q (bY a Q (λu a=>?_) (λu a=>?_)))));exact aL 6 Q (aY a Q);refine bP 2 Q (cH a (λ_=>[]) (λ_=>[]) [] [] Q (λS a p=>?_) (λj a=>?_))
 ·refine aM 2 Q (aX TK Q (aG 4 Q (bF a (λf=>([(10,.d (.int .i64 f))])) (λf=>[]) [10] [0,8,9] [] k0 Q (λf U a c=>aB [0,8,9,10] Q (bX 5 Q (bY a Q (λx a=>?_) (λx a=>?_)))))))
  ·refine aK 6 Q (VE a λJ z a=>dL TK Q z (aI 1 Q (cK 0 Q Q nV Q (aG 5 Q (aN a (λg=>([(51,.d (.bool (g)))])) (λg=>[]) [51] [0,3,4,8,9,10] Q (λV a=>?_) (λg a=>?_))))))
   ·refine aM 3 Q (dI a (lW ·) Q λK a=>aI 1 Q (SB TK Q (λA h=>?_)));cases A;replace a:=JB h a;refine aI 2 Q (dI a (lW ·) Q λL a=>aI 2 Q (SB TK Q (λB i=>?_)));cases B;replace a:=JB i a;refine aI 6 Q (SB TK Q (λC k=>?_));cases C;replace a:=JF k a;refine aI 4 Q (SB TK Q (λE l=>?_));cases E;replace a:=JF l a;refine aI 4 Q (SB TK Q (λF m=>?_));cases F;replace a:=JF m a;refine aI 4 Q (SB TK Q (λG n=>?_));cases G;replace a:=JF n a;exact aF 5 Q (aZ [0] a Q Q);replace a:=JT n a;exact aF 5 Q (aZ [0] a Q Q);replace a:=JT m a;exact aF 10 Q (aZ [0] a Q Q);replace a:=JT l a;exact aF 15 Q (aZ [0] a Q Q);replace a:=JT k a;exact aF 20 Q (aZ [0] a Q Q);replace a:=JA i a;exact aF 27 Q (aZ [0] a Q Q);replace a:=JA h a;exact aF 33 Q (aZ [0] a Q Q)
   refine aB [0,3,4,8,9,10,51] Q (bI a Q (λv a=>?_) (λv a=>?_))
   ·refine aL 8 Q (IE a λM a b=>?_);rw[c _ b]at a;refine WR (bS 1 Q (IE a λN a b=>?_));rw[p _ b]at a;exact WR (aY a Q)
   refine bP 2 Q (aN a (λe=>([(64,.d (.bool (e)))])) (λe=>[]) [64] [0,8,9,10] Q (λT a=>?_) (λe a=>?_))
   ·refine fU follows ?_;iterate 2 (refine DA [0] TK Q ?_)
    refine bn [0] TK Q (λH o=>?_);cases H;replace a:=JF o a;iterate 10 (refine DA [0] TK Q ?_)
    refine DT ?_ (by kernel_rfl);exact aF 1 Q (aZ [0] a Q Q);replace a:=JT o a;iterate 4 (refine DA [0] TK Q ?_)
    refine GE a λs a=>aU [0] Q (mG Q Q Q Q s) (VE a λI y a=>aU [0] Q (jQ TK Q Q Q Q y) ?_);iterate 4 (refine DA [0] TK Q ?_)
    refine DT ?_ (by kernel_rfl);exact aF 1 Q (aZ [0] a Q Q)
   refine aB [0,8,9,10,64] Q (bI a Q (λw a=>?_) (λw a=>?_))
   ·refine aL 7 Q (IE a λO a b=>?_);rw[c _ b]at a;refine WR (bS 1 Q (IE a λP a b=>?_));rw[p _ b]at a;exact WR (aY a Q)
   exact aK 4 Q (GE a λt a=>bN Q t (aF 2 Q (cA [] a Q Q)))
  refine aL 2 Q (IE a λR a b=>?_);rw[c _ b]at a;exact WX (bS 1 Q (cA [] a Q Q))
 exact aB [] Q (aL 5 Q (aY a Q))
theorem xX{f:(List Ac)}{g:Int}{h:Int}{r:Int}(a:mL f g h=some r):RetN TP 192 [.sl 2 (f.map Ac.enc),.int .i64 g,.int .i64 h] (.int .i64 r):=by
 refine .unit (aJ (aQ Q) func192 Q ntmps192 Q Q (λwX gX=>?_)) Q;unfold mL at a;refine aB [0,1,2] Q (bX 4 Q (cH a (λ_=>[]) (λ_=>[]) [] [] Q (λt a n=>?_) (λj a=>?_)));refine bX 6 Q (bF a (λc=>([(7,.d (.int .i64 c))])) (λc=>[]) [7] [0,2] [] k0 Q (λc u a e=>aB [0,2,7] Q (aM 4 Q (aX TK Q (aG 3 Q (bY a Q (λk a=>?_) (λk a=>?_)))))))
 ·refine aK 7 Q (VE a λo m a=>dL TK Q m (aG 6 Q (bY a Q (λl a=>?_) (λl a=>?_))))
  ·refine bP 5 Q (aB [6] Q (aL 3 Q (IE a λq a b=>?_)));rw[e _ b]at a;refine WR (bS 1 Q (IE a λs a b=>?_));rw[n _ b]at a;exact WR (aY a Q)
  exact aK 5 Q (GE a λi a=>bN Q i (aF 2 Q (cA [] a Q Q)))
 refine aL 2 Q (IE a λp a b=>?_);rw[e _ b]at a;exact WX (bS 1 Q (cA [] a Q Q));exact aB [] Q (aL 5 Q (aY a Q))
theorem v6{i:(List Ac)}{r:Bool}(a:nK i=some r):RetN TP 167 [.sl 2 (i.map Ac.enc)] (.bool (r)):=by
 refine .unit (aJ (aQ Q) func167 Q ntmps167 Q Q (λwX gX=>?_)) Q;unfold nK at a;refine aB [0] Q (aM 7 Q (aX TK Q (aG 3 Q (bY a Q (λo a=>?_) (λo a=>?_)))));exact aL 6 Q (aY a Q);refine bP 2 Q (cH a (λ_=>[]) (λ_=>[]) [] [] Q (λF a u=>?_) (λj a=>?_))
 ·refine aM 2 Q (aX TK Q (aG 4 Q (bF a (λc=>([(10,.d (.int .i64 c))])) (λc=>[]) [10] [0,8,9] [] k0 Q (λc G a h=>aB [0,8,9,10] Q (bX 5 Q (bY a Q (λq a=>?_) (λq a=>?_)))))))
  ·refine aK 6 Q (VE a λy t a=>dL TK Q t (aI 1 Q (cK 0 Q Q yR Q (aG 4 Q (aN a (λe=>([(36,.d (.bool (e)))])) (λe=>[]) [36] [0,8,9,10] Q (λH a=>?_) (λe a=>?_))))))
   ·refine fU follows ?_;iterate 2 (refine DA [0] TK Q ?_)
    refine bn [0] TK Q (λv f=>?_);cases v;replace a:=JF f a;iterate 13 (refine DA [0] TK Q ?_)
    refine GE a λk a=>aU [0] Q (wB TK Q Q Q Q Q k) ?_;iterate 2 (refine DA [0] TK Q ?_)
    refine gA [0] a (xX ·) Q λz a=>?_;iterate 2 (refine DA [0] TK Q ?_)
    refine DT ?_ (by kernel_rfl);exact aF 1 Q (aZ [0] a Q Q);replace a:=JT f a;iterate 4 (refine DA [0] TK Q ?_)
    refine GE a λl a=>aU [0] Q (mG Q Q Q Q l) (VE a λx s a=>aU [0] Q (jQ TK Q Q Q Q s) ?_);iterate 4 (refine DA [0] TK Q ?_)
    refine bn [0] TK Q (λw g=>?_);cases w;replace a:=JF g a;iterate 2 (refine DA [0] TK Q ?_)
    refine GE a λm a=>aU [0] Q (wB TK Q Q Q Q Q m) ?_;iterate 2 (refine DA [0] TK Q ?_)
    refine gA [0] a (xX ·) Q λA a=>?_;iterate 2 (refine DA [0] TK Q ?_)
    refine DT ?_ (by kernel_rfl);exact aF 1 Q (aZ [0] a Q Q);replace a:=JT g a;iterate 8 (refine DA [0] TK Q ?_)
    refine DT ?_ (by kernel_rfl);exact aF 1 Q (aZ [0] a Q Q)
   refine aB [0,8,9,10,36] Q (bI a Q (λp a=>?_) (λp a=>?_))
   ·refine aL 7 Q (IE a λB a b=>?_);rw[h _ b]at a;refine WR (bS 1 Q (IE a λC a b=>?_));rw[u _ b]at a;exact WR (aY a Q)
   exact aK 4 Q (GE a λn a=>bN Q n (aF 2 Q (cA [] a Q Q)))
  refine aL 2 Q (IE a λE a b=>?_);rw[h _ b]at a;exact WX (bS 1 Q (cA [] a Q Q))
 exact aB [] Q (aL 5 Q (aY a Q))
theorem ga{i:Au}{r:Bool}(a:lA i=some r):RetN TP 122 [i.enc] (.bool (r)):=by
 refine .unit (aJ (aQ Q) func122 Q ntmps122 Q Q (λwX gX=>?_)) Q;unfold lA at a;refine aB [0] Q (aM 1 Q (bU 0 Q Q Q (aI 6 Q (aX TK Q (aG 3 Q (aN a (λb=>([(2,.d (.bool (b)))])) (λb=>[]) [2] [] Q (λu a=>?_) (λb a=>?_)))))));refine fU follows ?_;iterate 3 (refine DA [0] TK Q ?_)
 refine bn [0] TK Q (λm e=>?_);cases m;replace a:=JF e a;iterate 30 (refine DA [0] TK Q ?_)
 refine DT ?_ (by kernel_rfl);exact aF 2 Q (aZ [0] a Q Q);replace a:=JT e a;iterate 4 (refine DA [0] TK Q ?_)
 refine bn [0] TK Q (λn f=>?_);cases n;replace a:=JF f a;iterate 25 (refine DA [0] TK Q ?_)
 refine DT ?_ (by kernel_rfl);exact aF 2 Q (aZ [0] a Q Q);replace a:=JT f a;iterate 2 (refine DA [0] TK Q ?_)
 refine gA [0] a (kW ·) Q λt a=>DA [0] TK Q (bn [0] TK Q (λo g=>?_));cases o;replace a:=JB g a;iterate 20 (refine DA [0] TK Q ?_)
 refine DT ?_ (by kernel_rfl);exact aF 2 Q (aZ [0] a Q Q);replace a:=JA g a;iterate 3 (refine DA [0] TK Q ?_)
 refine bn [0] TK Q (λp h=>?_);cases p;replace a:=JF h a;iterate 16 (refine DA [0] TK Q ?_)
 refine DT ?_ (by kernel_rfl);exact aF 2 Q (aZ [0] a Q Q);replace a:=JT h a;iterate 3 (refine DA [0] TK Q ?_)
 refine GE a λj a=>aU [0] Q (mG Q Q Q Q j) (VE a λq k a=>aU [0] Q (jQ TK Q Q Q Q k) ?_);iterate 6 (refine DA [0] TK Q ?_)
 refine bn [0] TK Q (λl c=>?_);cases l;replace a:=JF c a;iterate 4 (refine DA [0] TK Q ?_)
 refine DT ?_ (by kernel_rfl);exact aF 2 Q (aZ [0] a Q Q);replace a:=JT c a;iterate 2 (refine DA [0] TK Q ?_)
 refine gA [0] a (v6 ·) Q λs a=>DA [0] TK Q ?_;refine DT ?_ (by kernel_rfl);exact aF 2 Q (aZ [0] a Q Q);exact aB [2] Q (aL 1 Q (aY a Q))
theorem ce{e:An}{b:Ae}{r:Int}(a:jX e b=some r):RetN TP 173 [e.enc,b.enc] (.int .i64 r):=by
 refine .unit (aJ (aQ Q) func173 Q ntmps173 Q Q (λwX gX=>?_)) Q;unfold jX at a;refine aB [0,1] Q (aM 1 Q (bU 0 Q Q Q (bU 1 Q Q Q (aG 4 Q ?_))));refine fC [(17,.d (.bool (((decide (b.inV=0))||((decide (b.inV=2))&&(decide (e.kind=3)))))))] [17] [2] Q ?_ ?_;refine aM 4 Q (SB TK Q (λh c=>?_));cases h;refine aI 3 Q (SB TK Q (λi f=>?_));cases i;refine aF 6 Q ?_;exact⟨[0,1],Q,k0,bT (aO (aP (by simp[c,f])) Q) Q⟩;refine aF 6 Q ?_;exact⟨[0,1],Q,k0,bT (aO (aP (by simp[c,f])) Q) Q⟩;refine aF 10 Q ?_;exact⟨[0,1],Q,k0,bT (aO (aP (by simp[c])) Q) Q⟩;refine aB [2,17] Q (bI a Q (λg a=>?_) (λg a=>?_))
 ·exact aL 8 Q (aY a Q)
 exact aK 5 Q (bB Q (x_neg Q Q) (aF 4 Q (aY a Q)))
theorem vw{e:An}{b:Ae}{r:Int}(a:nH e b=some r):RetN TP 174 [e.enc,b.enc] (.int .i64 r):=by
 refine .unit (aJ (aQ Q) func174 Q ntmps174 Q Q (λwX gX=>?_)) Q;unfold nH at a;refine aB [0,1] Q (aM 1 Q (bU 0 Q Q Q (bU 1 Q Q Q (aG 4 Q ?_))));refine fC [(17,.d (.bool (((decide (e.kind=2))&&((decide (b.inV=2))||(decide (b.out=2)))))))] [17] [2] Q ?_ ?_;refine aM 4 Q (SB TK Q (λh c=>?_));cases h;refine aF 10 Q ?_;exact⟨[0,1],Q,k0,bT (aO (aP (by simp[c])) Q) Q⟩;refine aI 3 Q (SB TK Q (λi f=>?_));cases i;refine aF 6 Q ?_;exact⟨[0,1],Q,k0,bT (aO (aP (by simp[c,f])) Q) Q⟩;refine aF 6 Q ?_;exact⟨[0,1],Q,k0,bT (aO (aP (by simp[c,f])) Q) Q⟩;refine aB [2,17] Q (bI a Q (λg a=>?_) (λg a=>?_))
 ·exact aL 8 Q (aY a Q)
 exact aL 9 Q (aY a Q)
theorem Dx{i:Aa}{p:(List Ae)}{q:Int}{r:(List Ag)}(a:sK i p q=some r):RetD TP 124 [i.enc,.sl 3 (p.map Ae.enc),.int .i64 q] (.sl 4 (r.map Ag.enc)):=by
 refine .of (mv:=λ_=>false) (aJ (aQ Q) func124 Q ntmps124 Q Q (λwX gX=>?_));unfold sK at a;refine aB [0,1,2] Q (aM 1 Q (bU 0 Q Q Q (aI 6 Q (aX TK Q (aG 3 Q (bY a Q (λx a=>?_) (λx a=>?_)))))));refine bP 4 Q (sW 6 [some 4] Q (aL 2 Q ?_));obtain rfl:=OJ a;exact EndsS.one _ Q (.d _) (.refl _);refine aK 3 Q (iC (f:=Ag.enc) 1 165 4 Q Q Q (aG 7 Q (cH a (λe=>([(7,.msl 1 4 0 e.length)])) (λe=>([(1,.flat 165 4 (e.map Ag.enc))])) [7] [] Q (λY a o=>?_) (λe a=>?_))))
 ·refine aM 2 Q (aX TK Q (aG 4 Q (bF a (λ(from9,j,c)=>([(7,.msl 1 4 0 c.length),(8,.d (.int .i64 from9)),(21,.d (.int .i64 j))])) (λ(from9,j,c)=>([(1,.flat 165 4 (c.map Ag.enc))])) [7,8,21] [3,19,20] [0,1] k0 Q (λs W a g=>?_))));obtain⟨from9,j,c⟩:=s;refine aB [3,7,8,19,20,21] Q (bX 5 Q (bY a Q (λy a=>?_) (λy a=>?_)));refine aK 5 Q (VE a λl C a=>dL TK Q C (aI 1 Q (cK 2 Q Q dG Q (aG 4 Q ?_))));refine fC [(35,.d (.bool (((decide (l.el<0))||(decide ((i.Ad.length:Int)<=l.el))))))] [35] [3,7,8,10,19,20,21] Q ?_ ?_;refine aM 4 Q (SB TK Q (λH m=>?_));cases H;refine aI 4 Q (aX TK Q (aF 3 Q ?_));exact⟨[0,1,2],Q,k0,bT (aO (aP (by simp[m])) Q) Q⟩;refine aF 8 Q ?_;exact⟨[0,1,2],Q,k0,bT (aO (aP (by simp[m])) Q) Q⟩;refine aB [3,7,8,10,19,20,21,35] Q (bI a Q (λz a=>?_) (λz a=>?_))
  ·refine bP 4 Q (sW 6 [some 4] Q (aL 4 Q (IE a λR a b=>?_)));rw[g _ b]at a;refine WR (bS 1 Q (IE a λS a b=>?_));rw[o _ b]at a;refine WR ?_;obtain rfl:=OJ a;exact EndsS.one _ Q (.d _) (.refl _)
  refine aK 7 Q (VE a λt E a=>dL TK Q E (aI 1 Q (cK 3 Q Q rI Q (aI 11 Q (BE a λJ F a=>?_)))));obtain⟨M,N⟩:=J;refine bB Q (dX Q Q Q (tE F)) (aG 7 Q (aB [3,7,8,10,11,13,19,20,21] Q (aN a (λk=>([(58,.d (.bool (k)))])) (λk=>[]) [58] [3,7,8,10,11,19,20,21] Q (λX a=>?_) (λk a=>?_))));refine aM 3 Q (SB TK Q (λI n=>?_));cases I;replace a:=JB n a;exact aI 1 Q (dI a (lW ·) Q λO a=>aF 3 Q (aZ [0,1,2,3] a Q Q));replace a:=JA n a;exact aF 5 Q (aZ [0,1,2,3] a Q Q);refine aB [3,7,8,10,11,19,20,21,58] Q (bI a Q (λA a=>?_) (λA a=>?_))
  ·refine bP 4 Q (sW 6 [some 4] Q (aL 4 Q (IE a λT a b=>?_)));rw[g _ b]at a;refine WR (bS 1 Q (IE a λU a b=>?_));rw[o _ b]at a;refine WR ?_;obtain rfl:=OJ a;exact EndsS.one _ Q (.d _) (.refl _)
  refine aK 6 Q (GE a λu a=>bN Q u (aG 3 Q (bK follows ?_)));iterate 5 (refine DA [0,1,2,3] TK Q ?_)
  refine gA [0,1,2,3] a (ce ·) Q λK a=>?_;iterate 2 (refine DA [0,1,2,3] TK Q ?_)
  refine gA [0,1,2,3] a (vw ·) Q λL a=>aU [0,1,2,3] Q (bR Q plc165 nV Q Q Q Q) (aU [0,1,2,3] Q (pO [.tmp 72] TK Q Q nV Q Q Q Q Q) ?_);refine DT ?_ (by kernel_rfl);exact GE a λv a=>fJ (f:=Ag.enc) ([(⟨from9,(from9+t.length),K,L⟩:Ag)]:List Ag) TK Q Q nV Q Q Q Q Q (λh=>absurd h (pS _)) Q eC v Q Q (aG 3 Q (aB [3,7,14,19,20,21] Q (aK 7 Q (GE a λw a=>bN Q w (aF 2 Q (cA [0,1] a Q Q))))));refine aL 2 Q (IE a λV a b=>?_);rw[g _ b]at a;exact WX (bS 1 Q (cA [0,1] a Q Q))
 refine aB [7] Q (aK 3 Q (BE a λP G a=>bB Q (RN Q Q (SC (aW Q) SN) (kW G)) (aG 3 Q (bI a Q (λB a=>?_) (λB a=>?_)))))
 ·refine bP 4 Q (sW 6 [some 4] Q (aL 2 Q ?_));obtain rfl:=OJ a;exact EndsS.one _ Q (.d _) (.refl _)
 refine aL 8 Q ?_;obtain rfl:=OJ a;exact EndsS.one _ Q (aW Q) (.refl _)
theorem vK{b:(List Ag)}{r:(List Ag)}(a:gK b=some r):RetD TP 169 [.sl 4 (b.map Ag.enc)] (.sl 4 (r.map Ag.enc)):=by
 refine .of (mv:=λ_=>false) (aJ (aQ Q) func169 Q ntmps169 Q Q (λwX gX=>?_));unfold gK at a;refine aB [0] Q (aM 7 Q (tB Q Tryz.underlying63 Q Q (λg hb1=>aG 2 Q (TC _ Q (λc=>?_) (λc=>?_)))));obtain⟨hnb1,a⟩:=vb (hb1 c) a;subst hnb1;refine bP 4 Q (sW 2 [some 4] Q (aL 2 Q ?_));obtain rfl:=OJ a;exact EndsS.one _ Q (.d _) (.refl _);replace a:=vd a;refine aK 3 Q (xI (f:=Ag.enc) 0 [] ([]:List Ag) TK Q Q Q nV Q Q Q Q Q (aI 1 Q (GE a λe a=>fJ (f:=Ag.enc) b TK Q Q nV Q Q Q Q Q (λh=>absurd h (pS _)) Q eC e Q Q (aF 4 Q ?_))));obtain rfl:=OJ a;exact EndsS.one _ Q (aW Q) (.refl _)
theorem zU{b:Fn}{a:Ag}{e:Ag}{f:Bool}(c:jE b a=some (e,f)):Ret TP 175 [] (λ_=>false) ([b.enc,a.enc].map .d) (.tup ([e.enc,.bool (f)].map .d)) []:=by
 refine fD (aQ Q) func175 Q ntmps175 Q Q (λwX gX=>?_);unfold jE at c;refine aB [0,1] Q (aM 1 Q (bU 0 Q Q Q (bU 1 Q Q Q (cK 2 Q Q nV Q (aG 3 Q (bK follows (DA [] TK Q (DA [1] TK Q (DA [] TK Q (DA [0] TK Q (aU [] Q (Dq Q Q Q Q) (DA [] TK Q (DA [1] TK Q (DA [] TK Q (DA [0] TK Q (aU [] Q (Dp Q Q Q Q) (DA [] TK Q (qT 1000002 [1] [(1,.box 165 [.d (.int .i64 (max a.fromV b.fromV)),.d (.int .i64 a.to),.d (.int .i64 a.grade),.d (.int .i64 a.speed)])] (dZ Q) Q (kK TK Q Q Q Q Q Q Q Q Q Q) (DA [] TK Q ?_)))))))))))))))))));refine DT ?_ (by kernel_rfl);refine aG 3 Q (aB [3,4] Q (bK follows (DA [1] TK Q (DA [] TK Q (DA [1] TK Q (DA [] TK Q (DA [1] TK Q (DA [] TK Q (qT 1000004 [2] [(2,.box 165 [.d (.int .i64 (max a.fromV b.fromV)),.d (.int .i64 (min a.to b.to)),.d (.int .i64 a.grade),.d (.int .i64 a.speed)])] (dZ Q) Q (kK TK Q Q Q Q Q Q Q Q Q Q) ?_)))))))));refine DT ?_ (by kernel_rfl);refine aF 4 Q ?_;obtain⟨rfl,rfl⟩:=bJ (aS c);exact⟨_,.mk _ (.cons (.agg (TK.lay Q) Q Q Q Q) (.cons (.tmp 5) .nil)) Q,(.cons (.d _) (.refl _) (.cons (.d _) (.refl _) .nil))⟩
theorem zV{a:Fn}{b:Ag}{c:Ag}{d:Bool}(e:jE a b=some (c,d)):RetT TP 175 [a.enc,b.enc] [c.enc,.bool (d)]:=.of (mv:=λ_=>false) (zU e)
theorem nG{b:(List Ag)}{c:(List Ag)}(a:fS b=some c):Ca TP 168 [.box 63 [.d (.sl 4 (b.map Ag.enc))]] .returning [.box 63 [.d (.sl 4 (c.map Ag.enc))]]:=by
 refine yG (aQ Q) func168 Q Q ntmps168 Q Q Q (.inl ⟨Q,Q⟩) (λwX gX=>?_);unfold fS at a;refine bB Q (Hh Q Tryz.underlying20 Q) (aG 2 Q (TC false Q (λh=>by cases h) (λ_=>aL 1 Q ?_)));obtain rfl:=OJ a;exact⟨_,[0],res Q,by decide,(kB Q),Q,Q⟩
theorem zT{h:(List Av)}{i:(List Ae)}{k:Int}{l:Aa}{m:(List Ag)}{r:(List Ag)}(a:jC h i k l m=some r):RetD TP 123 [.sl 6 (h.map Av.enc),.sl 3 (i.map Ae.enc),.int .i64 k,l.enc,.sl 4 (m.map Ag.enc)] (.sl 4 (r.map Ag.enc)):=by
 refine .of (mv:=λ_=>false) (Ht (aQ Q) func123 Q ntmps123 Q Q (λwX gX=>?_));unfold jC at a;refine Eg (bU 0 Q Q Q (cK 1 Q Q zero63 Q (eZ 1 [some 4] Q Q (aF 1 Q (oI (xc 1 13 Q Q (bB Q (tD Q) (aF 1 Q (oI (f_go [1] Q (λwY gY dfY=>aB [0,1,2,4,8,10] Q (aM 2 Q (iK a (vK ·) Q λz a=>aG 4 Q (aN a (λc=>([(32,.d (.bool (c)))])) (λc=>[]) [32] [0,1,2,8,10] Q (λG a=>?_) (λc a=>?_)))))))))))))));refine aM 2 Q (dI a (kW ·) Q λA a=>aI 1 Q (SB TK Q (λu e=>?_)));cases u;replace a:=JB e a;refine aI 2 Q (dI a (rM ·) Q λB a=>aI 2 Q (SB TK Q (λv f=>?_)));cases v;replace a:=JB f a;refine aI 3 Q (SB TK Q (λw g=>?_));cases w;replace a:=JF g a;exact aF 4 Q (zJ [0,1] a Q (kB Q) Q);replace a:=JT g a;exact aF 4 Q (zJ [0,1] a Q (kB Q) Q);replace a:=JA f a;exact aF 8 Q (zJ [0,1] a Q (kB Q) Q);replace a:=JA e a;exact aF 14 Q (zJ [0,1] a Q (kB Q) Q);refine aB [0,1,2,8,10,32] Q (bI a Q (λn a=>?_) (λn a=>?_))
 ·refine aL 7 Q (BE a λx p a=>?_);obtain rfl:=OJ a;exact yr Q Q Q (nG p) Q Q (EndsS.cell1 TK Q Q Q Q (.d _))
 refine bP 2 Q (aN a (λ_=>[]) (λ_=>[]) [] [10] Q (λE a=>?_) (λj a=>?_))
 ·refine aM 2 Q (aX TK Q (aG 4 Q (bF a (λb=>([(36,.d (.int .i64 b))])) (λb=>[]) [36] [1,2,8,10,34,35] [0,1] (kB Q) Q (λb F a t=>aB [1,2,8,10,34,35,36] Q (bX 5 Q (bY a Q (λo a=>?_) (λo a=>?_)))))))
  ·cases a
  refine aL 2 Q (IE a λC a s=>?_);rw[t _ s]at a;exact WX (bS 1 Q (zJ [0,1] a Q (kB Q) Q))
 refine aB [10] Q (aL 6 Q (BE a λy q a=>?_));obtain rfl:=OJ a;exact yr Q Q Q (nG q) Q Q (EndsS.cell1 TK Q Q Q Q (.d _))
theorem Bw{g:(List Ag)}{i:Int}{j:Int}{r:(List Ag)}(a:qP g i j=some r):RetD TP 125 [.sl 4 (g.map Ag.enc),.int .i64 i,.int .i64 j] (.sl 4 (r.map Ag.enc)):=by
 refine .of (mv:=λ_=>false) (aJ (aQ Q) func125 Q ntmps125 Q Q (λwX gX=>?_));unfold qP at a;refine aB [0,1,2] Q (aM 7 Q (dI a (kW ·) Q λz a=>aG 3 Q (bI a Q (λp a=>?_) (λp a=>?_))));refine bP 4 Q (sW 6 [some 4] Q (aL 2 Q ?_));obtain rfl:=OJ a;exact EndsS.one _ Q (.d _) (.refl _);refine aK 3 Q (iC (f:=Ag.enc) 0 165 4 Q Q Q (aG 2 Q (aN a (λb=>([(7,.msl 0 4 0 b.length)])) (λb=>([(0,.flat 165 4 (b.map Ag.enc))])) [7] [] Q (λE a=>?_) (λb a=>?_))))
 ·refine aM 2 Q (aX TK Q (aG 4 Q (bF a (λ(e,c)=>([(7,.msl 0 4 0 c.length),(17,.d (.int .i64 e))])) (λ(e,c)=>([(0,.flat 165 4 (c.map Ag.enc))])) [7,17] [1,2,15,16] [0] k0 Q (λs C a v=>?_))));obtain⟨e,c⟩:=s;refine aB [1,2,7,15,16,17] Q (bX 5 Q (bY a Q (λn a=>?_) (λn a=>?_)));refine aK 5 Q (VE a λy q a=>dL TK Q q (aI 1 Q (cK 1 Q Q nV Q (aI 6 Q (bB Q (bR Q plc277 zero277 Q Q Q Q) (aI 1 Q (BE a λw t a=>?_)))))));obtain⟨x,A⟩:=w;refine bB Q (dX Q Q Q (zV t)) (aI 3 Q (cK 2 Q Q nV Q (aG 8 Q (bI a Q (λo a=>?_) (λo a=>?_)))));exact aK 3 Q (iE [.tmp 31] TK Q nV (GE a λk a=>fJ (f:=Ag.enc) ([x]:List Ag) TK Q Q nV Q Q Q Q Q (λh=>absurd h (pS _)) Q eC k Q Q (aG 4 Q (aB [1,2,7,15,16,17] Q (aK 1 Q (GE a λl a=>bN Q l (aF 2 Q (cA [0] a Q Q))))))));exact bP 3 Q (aB [1,2,7,15,16,17] Q (aK 1 Q (GE a λm a=>bN Q m (aF 2 Q (cA [0] a Q Q)))));refine aL 2 Q (IE a λB a u=>?_);rw[v _ u]at a;exact WX (bS 1 Q (aZ [0] a Q Q))
 refine aB [7] Q (aL 6 Q ?_);obtain rfl:=OJ a;exact EndsS.one _ Q (aW Q) (.refl _)
theorem ku{i:Int}{b:Ae}{r:Bool}(a:mA i b=some r):RetN TP 176 [.int .i64 i,b.enc] (.bool (r)):=by
 refine .unit (aJ (aQ Q) func176 Q ntmps176 Q Q (λwX gX=>?_)) Q;unfold mA at a;refine aB [0,1] Q (aM 1 Q (bU 0 Q Q Q (aG 14 Q (bY a Q (λj a=>?_) (λj a=>?_)))));exact aL 7 Q (aY a Q);refine aN a (λf=>([(8,.d (.bool (f)))])) (λf=>[]) [8] [3] Q (λq a=>?_) (λf a=>?_)
 ·refine bX 5 Q (bY a Q (λk a=>?_) (λk a=>?_))
  ·exact aL 1 Q (aZ [0] a Q Q)
  exact aL 4 Q (aZ [0] a Q Q)
 refine aB [3,8] Q (bI a Q (λl a=>?_) (λl a=>?_))
 ·refine fC [(4,.d (.bool ((bif decide (b.inV=0)then((decide (b.out=1))||((decide (b.inV=1))&&(decide (b.out=0))))else((decide (b.inV=1))&&(decide (b.out=0)))))))] [4] [] Q ?_ ?_
  ·refine aM 4 Q (SB TK Q (λm c=>?_));cases m;refine aI 8 Q (SB TK Q (λn g=>?_));cases n;refine aF 7 Q ?_;exact⟨[0],Q,k0,bT (aO (aP (by simp[c,g])) Q) Q⟩;refine aF 7 Q ?_;exact⟨[0],Q,k0,bT (aO (aP (by simp[c,g])) Q) Q⟩;refine aI 4 Q (SB TK Q (λo e=>?_));cases o;refine aI 3 Q (SB TK Q (λp h=>?_));cases p;refine aF 7 Q ?_;exact⟨[0],Q,k0,bT (aO (aP (by simp[c,e,h])) Q) Q⟩;refine aF 7 Q ?_;exact⟨[0],Q,k0,bT (aO (aP (by simp[c,e,h])) Q) Q⟩;refine aF 11 Q ?_;exact⟨[0],Q,k0,bT (aO (aP (by simp[c,e])) Q) Q⟩
  exact aB [4] Q (aL 3 Q (aY a Q))
 exact aL 8 Q (aY a Q)
theorem v7{b:Ac}{c:Ac}{r:Int}(a:nL b c=some r):RetN TP 178 [b.enc,c.enc] (.int .i64 r):=by
 refine .unit (aJ (aQ Q) func178 Q ntmps178 Q Q (λwX gX=>?_)) Q;unfold nL at a;refine aB [0,1] Q (aM 1 Q (bU 0 Q Q Q (bU 1 Q Q Q (aG 3 Q (bK follows ?_)))));iterate 4 (refine DA [0,1] TK Q ?_)
 refine gA [0,1] a (gS ·) Q λd a=>?_;iterate 4 (refine DA [0,1] TK Q ?_)
 refine gA [0,1] a (gS ·) Q λe a=>aU [0,1] Q (pO [.tmp 9,.tmp 14] TK Q Q fL Q Q Q Q Q) (gA [0,1] a (vY ·) Q λf a=>?_);refine DT ?_ (by kernel_rfl);exact aG 3 Q (aB [4] Q (aL 1 Q (aY a Q)))
theorem fZ{k:(List Ac)}{y:Int}{z:Int}{A:Ac->Ac->Option Int}{r:(List Ac)}{o:D}(N:∀m n r,A m n=some r->∃F cs,sV o=some (F,cs)/\RetD TP F ([m.enc,n.enc]++cs) (.int .i64 r))(a:cJ k y z A=some r):Ret TP 202 [.flat 168 2 (k.map Ac.enc)] (λ_=>false) [.msl 0 2 0 k.length,.d (.int .i64 y),.d (.int .i64 z),.d (o)] (.tup []) [.flat 168 2 (r.map Ac.enc)]:=by
 refine eB (aQ Q) func202 Q ntmps202 Q Q (λwX gX=>?_);unfold cJ at a;refine aB [0,1,2,3] Q (aM 2 Q (GE a λB a=>bN Q B (aG 4 Q (bF a (λ(j,g)=>([(0,.msl 0 2 0 g.length),(8,.d (.int .i64 j))])) (λ(j,g)=>([(0,.flat 168 2 (g.map Ac.enc))])) [0,8] [1,2,3] [0] (kB Q) Q (λs a4 a R=>?_)))));obtain⟨j,g⟩:=s;refine aB [0,1,2,3,8] Q (bX 7 Q (bY a Q (λK a=>?_) (λK a=>?_)))
 ·refine bP 2 Q (aN a (λh=>([(0,.msl 0 2 0 h.length)])) (λh=>([(0,.flat 168 2 (h.map Ac.enc))])) [0] [1,2,3,8] Q (λa1 a=>?_) (λh a=>?_))
  ·refine bX 7 Q (bF a (λ(b,c)=>([(0,.msl 0 2 0 c.length),(9,.d (.int .i64 b))])) (λ(b,c)=>([(0,.flat 168 2 (c.map Ac.enc))])) [0,9] [1,2,3,8] [0] (kB Q) Q (λs a2 a P=>?_));obtain⟨b,c⟩:=s;refine aB [0,1,2,3,8,9] Q (bX 1 Q (aN a (λl=>([(34,.d (.bool (l)))])) (λl=>[]) [34] [0,1,2,3,8,9] Q (λa3 a=>?_) (λl a=>?_)))
   ·refine fU follows ?_;iterate 3 (refine DA [0] TK Q ?_)
    refine bn [0] TK Q (λS x=>?_);cases S;replace a:=JF x a;iterate 13 (refine DA [0] TK Q ?_)
    refine DT ?_ (by kernel_rfl);exact aF 1 Q (zJ [0] a Q (kB Q) Q);replace a:=JT x a;iterate 3 (refine DA [0] TK Q ?_)
    refine VE a λU p a=>?_;refine aU [0] Q (eF TK Q Q Q Q p (by first|rfl|simp)) ?_;refine aU [0] Q (gV TK Q Q Q Q p.2 Q) ?_;iterate 2 (refine DA [0] TK Q ?_)
    refine GE a λC a=>aU [0] Q (mG Q Q Q Q C) (VE a λV q a=>?_);refine aU [0] Q (eF TK Q Q Q Q q (by first|rfl|simp)) ?_;refine aU [0] Q (gV TK Q Q Q Q q.2 Q) (BE a λY O a=>?_);obtain⟨Fr23,T,L,M⟩:=N _ _ _ O;refine aU [0] Q (pB Q Q L Q M) ?_;iterate 2 (refine DA [0] TK Q ?_)
    refine DT ?_ (by kernel_rfl);exact aF 1 Q (zJ [0] a Q (kB Q) Q)
   refine aB [0,1,2,3,8,9,34] Q (bI a Q (λJ a=>?_) (λJ a=>?_))
   ·refine bP 4 Q (eV follows ?_);iterate 4 (refine DA [] TK Q ?_)
    refine GE a λE a=>aU [] Q (mG Q Q Q Q E) ?_;iterate 2 (refine DA [] TK Q ?_)
    refine GE a λG a=>aU [] Q (mG Q Q Q Q G) (VE a λe t a=>?_);refine aU [] Q (eF TK Q Q Q Q t (by first|rfl|simp)) ?_;refine aU [0] Q (gV TK Q Q Q Q t.2 Q) ?_;iterate 2 (refine DA [] TK Q ?_)
    refine VE a λf u a=>?_;refine aU [] Q (eF TK Q Q Q Q u (by first|rfl|simp)) ?_;refine aU [0] Q (gV TK Q Q Q Q u.2 Q) (VE a λW v a=>?_);refine aU [] Q (eF TK Q Q Q Q v (by first|rfl|simp)) ?_;refine qT 1000072 [0] [(0,.flat 168 2 ((c.set b.toNat e).map Ac.enc))] (dZ Q) Q (xx (z':=e) TK Q Q Q Q Q Q Q v.2 Q Q Q) (VE a λX w a=>?_);refine aU [] Q (eF TK Q Q Q Q w (by first|rfl|simp)) ?_;refine DT ?_ (by kernel_rfl);exact cD 0 (c.set b.toNat e).length Q zal60q.symm (cD 37 (c.set b.toNat e).length Q zal60q.symm (cD 39 (c.set b.toNat e).length Q zal60q.symm (cD 42 (c.set b.toNat e).length Q zal60q.symm (cD 47 (c.set b.toNat e).length Q zal60q.symm (wH (x':=f) TK Q Q Q Q Q w.2 Q Q Q (cD 0 ((c.set b.toNat e).set (b-1).toNat f).length Q zal60q.symm (cD 37 ((c.set b.toNat e).set (b-1).toNat f).length Q zal60q.symm (cD 39 ((c.set b.toNat e).set (b-1).toNat f).length Q zal60q.symm (cD 42 ((c.set b.toNat e).set (b-1).toNat f).length Q zal60q.symm (cD 47 ((c.set b.toNat e).set (b-1).toNat f).length Q zal60q.symm (aG 3 Q (aB [0,1,2,3,8,9] Q (aK 2 Q (GE a λH a=>bN Q H (aF 2 Q (wL [0] a Q (kB Q) Q))))))))))))))))
   refine aL 2 Q (IE a λZ a i=>?_);rw[P _ i]at a;exact WX (bS 2 Q (zJ [0] a Q (kB Q) Q))
  exact aB [0,1,2,3,8] Q (aK 2 Q (GE a λI a=>bN Q I (aF 2 Q (wL [0] a Q (kB Q) Q))))
 refine aL 2 Q (IE a λa0 a i=>?_);rw[R _ i]at a;refine WX (bS 1 Q ?_);obtain rfl:=OJ a;exact⟨_,[0],res Q,by decide,(kB Q),Q,Q⟩
theorem eQ{i:(List Ac)}{e:Int}{g:Int}{q:Int}{t:Ac->Ac->Option Int}{r:(List Ac)}{l:D}(G:∀j k r,t j k=some r->∃F cs,sV l=some (F,cs)/\RetD TP F ([j.enc,k.enc]++cs) (.int .i64 r))(a:cI i e g q t=some r):Ret TP 212 [.flat 168 2 (i.map Ac.enc)] (λ_=>false) [.msl 0 2 0 i.length,.d (.int .i64 e),.d (.int .i64 g),.d (.int .i64 q),.d (l)] (.tup []) [.flat 168 2 (r.map Ac.enc)]:=by
 refine eB (aQ Q) func212 Q ntmps212 Q Q (λwX gX=>?_);unfold cI at a;refine aB [0,1,2,3] Q (bX 5 Q (bF a (λ(b,c)=>([(0,.msl 0 2 0 c.length),(10,.d (.int .i64 b))])) (λ(b,c)=>([(0,.flat 168 2 (c.map Ac.enc))])) [0,10] [1,2,3] [0] (kB Q) Q (λs I a B=>?_)));obtain⟨b,c⟩:=s;refine aB [0,1,2,3,10] Q (bX 7 Q (bY a Q (λz a=>?_) (λz a=>?_)))
 ·refine bP 4 Q (eV follows ?_);iterate 3 (refine DA [] TK Q ?_)
  refine GE a λx a=>aU [] Q (mG Q Q Q Q x) ?_;iterate 3 (refine DA [] TK Q ?_)
  refine GE a λy a=>aU [] Q (mG Q Q Q Q y) ?_;iterate 3 (refine DA [] TK Q ?_)
  refine GE a λu a=>aU [] Q (mG Q Q Q Q u) (VE a λf m a=>?_);refine aU [] Q (eF TK Q Q Q Q m (by first|rfl|simp)) ?_;refine aU [0] Q (gV TK Q Q Q Q m.2 Q) ?_;iterate 3 (refine DA [] TK Q ?_)
  refine GE a λv a=>aU [] Q (mG Q Q Q Q v) (VE a λh n a=>?_);refine aU [] Q (eF TK Q Q Q Q n (by first|rfl|simp)) ?_;refine aU [0] Q (gV TK Q Q Q Q n.2 Q) (VE a λC o a=>?_);refine aU [] Q (eF TK Q Q Q Q o (by first|rfl|simp)) ?_;refine qT 1000012 [0] [(0,.flat 168 2 ((c.set (e+b).toNat f).map Ac.enc))] (dZ Q) Q (xx (z':=f) TK Q Q Q Q Q Q Q o.2 Q Q Q) (VE a λE p a=>?_);refine aU [] Q (eF TK Q Q Q Q p (by first|rfl|simp)) ?_;refine DT ?_ (by kernel_rfl);exact cD 0 (c.set (e+b).toNat f).length Q zal60q.symm (cD 16 (c.set (e+b).toNat f).length Q zal60q.symm (cD 20 (c.set (e+b).toNat f).length Q zal60q.symm (cD 24 (c.set (e+b).toNat f).length Q zal60q.symm (cD 30 (c.set (e+b).toNat f).length Q zal60q.symm (wH (x':=h) TK Q Q Q Q Q p.2 Q Q Q (cD 0 ((c.set (e+b).toNat f).set (g+b).toNat h).length Q zal60q.symm (cD 16 ((c.set (e+b).toNat f).set (g+b).toNat h).length Q zal60q.symm (cD 20 ((c.set (e+b).toNat f).set (g+b).toNat h).length Q zal60q.symm (cD 24 ((c.set (e+b).toNat f).set (g+b).toNat h).length Q zal60q.symm (cD 30 ((c.set (e+b).toNat f).set (g+b).toNat h).length Q zal60q.symm (aG 3 Q (aB [0,1,2,3,10] Q (aK 2 Q (GE a λw a=>bN Q w (aF 2 Q (wL [0] a Q (kB Q) Q))))))))))))))))
 refine aL 2 Q (IE a λH a A=>?_);rw[B _ A]at a;refine WX (bS 1 Q ?_);obtain rfl:=OJ a;exact⟨_,[0],res Q,by decide,(kB Q),Q,Q⟩
theorem oQ{i:(List Ac)}{q:Int}{t:Int}{u:Int}{v:Ac->Ac->Option Int}{r:(List Ac)}{m:D}(e:∀k l r,v k l=some r->∃F cs,sV m=some (F,cs)/\RetD TP F ([k.enc,l.enc]++cs) (.int .i64 r))(a:dH i q t u v=some r):Ret TP 209 [.flat 168 2 (i.map Ac.enc)] (λ_=>false) [.msl 0 2 0 i.length,.d (.int .i64 q),.d (.int .i64 t),.d (.int .i64 u),.d (m)] (.tup []) [.flat 168 2 (r.map Ac.enc)]:=by
 refine eB (aQ Q) func209 Q ntmps209 Q Q (λwX gX=>?_);unfold dH at a;refine aB [0,1,2,3,4] Q (aM 3 Q (GE a λz a=>bN Q z (aI 6 Q (GE a λB a=>bN Q B (aG 3 Q (aN a (λ(g,c)=>([(0,.msl 0 2 0 c.length),(10,.d (.int .i64 g))])) (λ(g,c)=>([(0,.flat 168 2 (c.map Ac.enc))])) [0,10] [2,4] Q (λU a=>?_) (λj a=>?_)))))));refine bX 1 Q (bF a (λ(f,h,b)=>([(0,.msl 0 2 0 b.length),(10,.d (.int .i64 f)),(11,.d (.int .i64 h))])) (λ(f,h,b)=>([(0,.flat 168 2 (b.map Ac.enc))])) [0,10,11] [2,4] [0] (kB Q) Q (λs T a R=>?_));obtain⟨f,h,b⟩:=s;refine aB [0,2,4,10,11] Q (bX 7 Q (mT a Q (λK a=>?_) (λK a=>?_)));refine bP 9 Q (bY a Q (λL a=>?_) (λL a=>?_))
 ·refine aK 4 Q (GE a λA a=>bN Q A (aI 3 Q (BE a λw M a=>GE a λn a=>?_)));refine gP [0] (λ_=>false) Q Q Q (by decide) Q Q Q Q (eQ e M) Q Q Q ?_;exact cD 0 w.length Q n.symm (cD 24 w.length Q n.symm (aI 5 Q (GE a λC a=>bN Q C (aF 3 Q (wL [0] a Q (kB Q) Q)))))
 refine aK 4 Q (GE a λE a=>bN Q E (aI 2 Q (GE a λG a=>bN Q G (aI 1 Q (GE a λH a=>bN Q H (aI 2 Q (BE a λx N a=>GE a λo a=>?_)))))));refine gP [0] (λ_=>false) Q Q Q (by decide) Q Q Q Q (eQ e N) Q Q Q ?_;exact cD 0 x.length Q o.symm (cD 35 x.length Q o.symm (aG 2 Q (aB [0,2,4,10,11] Q (aK 3 Q (GE a λI a=>bN Q I (aF 3 Q (wL [0] a Q (kB Q) Q)))))));refine aL 2 Q (IE a λS a P=>?_);rw[R _ P]at a;exact WX (bS 1 Q (zJ [0] a Q (kB Q) Q));obtain⟨g,c⟩:=j;refine aB [0,2,4,10] Q (aK 4 Q (GE a λJ a=>bN Q J (aI 3 Q (BE a λy O a=>GE a λp a=>?_))));refine gP [0] (λ_=>false) Q Q Q (by decide) Q Q Q Q (eQ e O) Q Q Q ?_;refine cD 0 y.length Q p.symm (cD 50 y.length Q p.symm (aF 1 Q ?_));obtain rfl:=OJ a;exact⟨_,[0],res Q,by decide,(kB Q),Q,Q⟩
theorem mY:∀(fu:Nat){o:(List Ac)} {h:Int} {k:Int} {i:Int} {u:Ac->Ac->Option Int} {r:(List Ac)} {t:D} (l:∀H I r,u H I=some r->∃F cs,sV t=some (F,cs)/\RetD TP F ([H.enc,I.enc]++cs) (.int .i64 r)) (a:bV fu o h k i u=some r),Ret TP 203 [.flat 168 2 (o.map Ac.enc)] (λ_=>false) [.msl 0 2 0 o.length,.d (.int .i64 h),.d (.int .i64 k),.d (.int .i64 i),.d (t)] (.tup []) [.flat 168 2 (r.map Ac.enc)]:=by
 intro fu
 induction fu with
 |zero=>
  intro o h k i u r t l a;unfold bV at a;cases a
 |succ fu ih=>
  intro o h k i u r t l a;refine eB (aQ Q) func203 Q ntmps203 Q Q (λwX gX=>?_);unfold bV at a;refine aB [0,1,2,3,4] Q (cH a (λ_=>[]) (λ_=>[]) [] [0,1,2,3,4] Q (λj1 a f8=>?_) (λj a=>?_))
  ·refine aM 3 Q (GE a λb2 a=>bN Q b2 (aG 3 Q (bY a Q (λd8 a=>?_) (λd8 a=>?_))))
   ·refine bP 10 Q (aN a (λx=>([(10,.d (.int .i64 x))])) (λx=>[]) [10] [0,1] Q (λk1 a=>?_) (λx a=>?_))
    ·refine bX 1 Q (bF a (λ(A,C)=>([(10,.d (.int .i64 A)),(11,.d (.int .i64 C))])) (λ(A,C)=>[]) [10,11] [0,1,4] [0] (kB Q) Q (λs j2 a f9=>?_));obtain⟨A,C⟩:=s;refine aB [0,1,4,10,11] Q (bX 7 Q (bY a Q (λd3 a=>?_) (λd3 a=>?_)))
     ·refine aK 6 Q (GE a λa9 a=>bN Q a9 (bB Q (oU Q Tryz.underlying3 Tryz.underlying197 Q) (GE a λb0 a=>bB Q (I4 Q Q Q Q b0) (bB Q (oU Q Tryz.underlying197 Tryz.underlying3 Q) (aG 3 Q (bK follows ?_))))));iterate 3 (refine DA [0] TK Q ?_)
      refine VE a λh1 M a=>?_;refine aU [0] Q (eF TK Q Q Q Q M (by first|rfl|simp)) ?_;refine aU [0] Q (gV TK Q Q Q Q M.2 Q) ?_;iterate 2 (refine DA [0] TK Q ?_)
      refine VE a λh2 N a=>?_;refine aU [0] Q (eF TK Q Q Q Q N (by first|rfl|simp)) ?_;refine aU [0] Q (gV TK Q Q Q Q N.2 Q) (BE a λi1 f5 a=>?_);obtain⟨Fr16,g8,e6,e9⟩:=l _ _ _ f5;refine aU [0] Q (pB Q Q e6 Q e9) (DA [0] TK Q ?_);refine DT ?_ (by kernel_rfl);refine aG 2 Q (aB [0,1,4,10,11,12,50] Q (bY a Q (λd6 a=>?_) (λd6 a=>?_)));exact aK 2 Q (GE a λb1 a=>bN Q b1 (aF 3 Q (wL [0] a Q (kB Q) Q)));exact aL 5 Q (wL [0] a Q (kB Q) Q)
     refine aL 2 Q (IE a λi5 a e=>?_);rw[f9 _ e]at a;exact WX (bS 1 Q (zJ [0] a Q (kB Q) Q))
    refine aB [0,1,10] Q (aN a (λv=>[]) (λv=>([(0,.flat 168 2 (v.map Ac.enc))])) [] [] Q (λj5 a=>?_) (λv a=>?_))
    ·refine bX 6 Q (bF a (λ(k25,b)=>([(0,.msl 0 2 0 b.length),(13,.d (.int .i64 k25))])) (λ(k25,b)=>([(0,.flat 168 2 (b.map Ac.enc))])) [0,13] [10] [0] (kB Q) Q (λs j6 a g0=>?_));obtain⟨k25,b⟩:=s;refine aB [0,10,13] Q (aM 4 Q (GE a λb3 a=>bN Q b3 (aG 3 Q (bY a Q (λd7 a=>?_) (λd7 a=>?_)))))
     ·refine bP 4 Q (eV follows ?_);iterate 4 (refine DA [] TK Q ?_)
      refine GE a λb4 a=>aU [] Q (mG Q Q Q Q b4) ?_;iterate 2 (refine DA [] TK Q ?_)
      refine GE a λb5 a=>aU [] Q (mG Q Q Q Q b5) (VE a λf O a=>?_);refine aU [] Q (eF TK Q Q Q Q O (by first|rfl|simp)) ?_;refine aU [0] Q (gV TK Q Q Q Q O.2 Q) ?_;iterate 2 (refine DA [] TK Q ?_)
      refine VE a λm P a=>?_;refine aU [] Q (eF TK Q Q Q Q P (by first|rfl|simp)) ?_;refine aU [0] Q (gV TK Q Q Q Q P.2 Q) (VE a λh3 R a=>?_);refine aU [] Q (eF TK Q Q Q Q R (by first|rfl|simp)) ?_;refine qT 1000072 [0] [(0,.flat 168 2 ((b.set k25.toNat f).map Ac.enc))] (dZ Q) Q (xx (z':=f) TK Q Q Q Q Q Q Q R.2 Q Q Q) (VE a λh4 S a=>?_);refine aU [] Q (eF TK Q Q Q Q S (by first|rfl|simp)) ?_;refine DT ?_ (by kernel_rfl);exact cD 0 (b.set k25.toNat f).length Q zal60q.symm (cD 61 (b.set k25.toNat f).length Q zal60q.symm (cD 63 (b.set k25.toNat f).length Q zal60q.symm (cD 66 (b.set k25.toNat f).length Q zal60q.symm (cD 71 (b.set k25.toNat f).length Q zal60q.symm (wH (x':=m) TK Q Q Q Q Q S.2 Q Q Q (cD 0 ((b.set k25.toNat f).set (k25+1).toNat m).length Q zal60q.symm (cD 61 ((b.set k25.toNat f).set (k25+1).toNat m).length Q zal60q.symm (cD 63 ((b.set k25.toNat f).set (k25+1).toNat m).length Q zal60q.symm (cD 66 ((b.set k25.toNat f).set (k25+1).toNat m).length Q zal60q.symm (cD 71 ((b.set k25.toNat f).set (k25+1).toNat m).length Q zal60q.symm (aG 3 Q (aB [0,10,13] Q (aK 2 Q (GE a λb6 a=>bN Q b6 (aF 2 Q (wL [0] a Q (kB Q) Q))))))))))))))))
     refine aL 2 Q (IE a λi6 a e=>?_);rw[g0 _ e]at a;exact WX (bS 1 Q (zJ [0] a Q (kB Q) Q))
    refine aB [] Q (aL 1 Q (IE a λi7 a e=>?_));rw[f8 _ e]at a;refine WR ?_;obtain rfl:=OJ a;exact⟨_,[0],res Q,by decide,(kB Q),Q,Q⟩
   exact aL 1 Q (wL [0] a Q (kB Q) Q)
  refine aB [0,1,2,3,4] Q (cH a (λ_=>[]) (λ_=>[]) [] [0,1,2,3,4] Q (λj7 a g1=>?_) (λj a=>?_))
  ·refine aM 3 Q (GE a λb7 a=>bN Q b7 (aG 3 Q (bY a Q (λd9 a=>?_) (λd9 a=>?_))))
   ·refine bP 10 Q (aN a (λy=>([(14,.d (.int .i64 y))])) (λy=>[]) [14] [0,2] Q (λj8 a=>?_) (λy a=>?_))
    ·refine bX 1 Q (bF a (λ(z,B)=>([(14,.d (.int .i64 z)),(15,.d (.int .i64 B))])) (λ(z,B)=>[]) [14,15] [0,2,4] [0] (kB Q) Q (λs j9 a g2=>?_));obtain⟨z,B⟩:=s;refine aB [0,2,4,14,15] Q (bX 7 Q (bY a Q (λe0 a=>?_) (λe0 a=>?_)))
     ·refine aK 6 Q (GE a λb8 a=>bN Q b8 (bB Q (oU Q Tryz.underlying3 Tryz.underlying197 Q) (GE a λb9 a=>bB Q (I4 Q Q Q Q b9) (bB Q (oU Q Tryz.underlying197 Tryz.underlying3 Q) (aG 3 Q (bK follows ?_))))));iterate 3 (refine DA [0] TK Q ?_)
      refine VE a λh5 T a=>?_;refine aU [0] Q (eF TK Q Q Q Q T (by first|rfl|simp)) ?_;refine aU [0] Q (gV TK Q Q Q Q T.2 Q) ?_;iterate 2 (refine DA [0] TK Q ?_)
      refine VE a λh6 U a=>?_;refine aU [0] Q (eF TK Q Q Q Q U (by first|rfl|simp)) ?_;refine aU [0] Q (gV TK Q Q Q Q U.2 Q) (BE a λi2 f6 a=>?_);obtain⟨Fr54,g9,e7,f0⟩:=l _ _ _ f6;refine aU [0] Q (pB Q Q e7 Q f0) ?_;iterate 2 (refine DA [0] TK Q ?_)
      refine DT ?_ (by kernel_rfl);refine aG 2 Q (aB [0,2,4,14,15,16,103] Q (mT a Q (λe1 a=>?_) (λe1 a=>?_)));exact aK 2 Q (GE a λc0 a=>bN Q c0 (aF 3 Q (wL [0] a Q (kB Q) Q)));exact aL 5 Q (wL [0] a Q (kB Q) Q)
     refine aL 2 Q (IE a λi8 a e=>?_);rw[g2 _ e]at a;exact WX (bS 1 Q (zJ [0] a Q (kB Q) Q))
    refine aB [0,2,14] Q (aN a (λw=>[]) (λw=>([(0,.flat 168 2 (w.map Ac.enc))])) [] [] Q (λk2 a=>?_) (λw a=>?_))
    ·refine bX 6 Q (bF a (λ(k63,c)=>([(0,.msl 0 2 0 c.length),(17,.d (.int .i64 k63))])) (λ(k63,c)=>([(0,.flat 168 2 (c.map Ac.enc))])) [0,17] [14] [0] (kB Q) Q (λs k3 a g3=>?_));obtain⟨k63,c⟩:=s;refine aB [0,14,17] Q (bX 7 Q (bY a Q (λe2 a=>?_) (λe2 a=>?_)))
     ·refine bP 4 Q (eV follows ?_);iterate 4 (refine DA [] TK Q ?_)
      refine GE a λc1 a=>aU [] Q (mG Q Q Q Q c1) ?_;iterate 2 (refine DA [] TK Q ?_)
      refine GE a λc2 a=>aU [] Q (mG Q Q Q Q c2) (VE a λg V a=>?_);refine aU [] Q (eF TK Q Q Q Q V (by first|rfl|simp)) ?_;refine aU [0] Q (gV TK Q Q Q Q V.2 Q) ?_;iterate 2 (refine DA [] TK Q ?_)
      refine VE a λn W a=>?_;refine aU [] Q (eF TK Q Q Q Q W (by first|rfl|simp)) ?_;refine aU [0] Q (gV TK Q Q Q Q W.2 Q) (VE a λh7 X a=>?_);refine aU [] Q (eF TK Q Q Q Q X (by first|rfl|simp)) ?_;refine qT 1000096 [0] [(0,.flat 168 2 ((c.set k63.toNat g).map Ac.enc))] (dZ Q) Q (xx (z':=g) TK Q Q Q Q Q Q Q X.2 Q Q Q) (VE a λh8 Y a=>?_);refine aU [] Q (eF TK Q Q Q Q Y (by first|rfl|simp)) ?_;refine DT ?_ (by kernel_rfl);exact cD 0 (c.set k63.toNat g).length Q zal60q.symm (cD 113 (c.set k63.toNat g).length Q zal60q.symm (cD 115 (c.set k63.toNat g).length Q zal60q.symm (cD 118 (c.set k63.toNat g).length Q zal60q.symm (cD 123 (c.set k63.toNat g).length Q zal60q.symm (wH (x':=n) TK Q Q Q Q Q Y.2 Q Q Q (cD 0 ((c.set k63.toNat g).set (k63-1).toNat n).length Q zal60q.symm (cD 113 ((c.set k63.toNat g).set (k63-1).toNat n).length Q zal60q.symm (cD 115 ((c.set k63.toNat g).set (k63-1).toNat n).length Q zal60q.symm (cD 118 ((c.set k63.toNat g).set (k63-1).toNat n).length Q zal60q.symm (cD 123 ((c.set k63.toNat g).set (k63-1).toNat n).length Q zal60q.symm (aG 3 Q (aB [0,14,17] Q (aK 2 Q (GE a λc3 a=>bN Q c3 (aF 2 Q (wL [0] a Q (kB Q) Q))))))))))))))))
     refine aL 2 Q (IE a λi9 a e=>?_);rw[g3 _ e]at a;exact WX (bS 1 Q (zJ [0] a Q (kB Q) Q))
    refine aB [] Q (aL 1 Q (IE a λj0 a e=>?_));rw[g1 _ e]at a;refine WR ?_;obtain rfl:=OJ a;exact⟨_,[0],res Q,by decide,(kB Q),Q,Q⟩
   exact aL 1 Q (wL [0] a Q (kB Q) Q)
  refine aB [0,1,2,3,4] Q (aM 3 Q (GE a λc4 a=>bN Q c4 (bB Q (oU Q Tryz.underlying3 Tryz.underlying197 Q) (GE a λc5 a=>bB Q (I4 Q Q Q Q c5) (bB Q (oU Q Tryz.underlying197 Tryz.underlying3 Q) (aI 6 Q (GE a λc6 a=>bN Q c6 (aG 8 Q (aN a (λ(start79,E)=>([(20,.d (.int .i64 start79)),(21,.d (.int .i64 E))])) (λ(start79,E)=>[]) [20,21] [0,1,2,3,4,18,19] Q (λk4 a=>?_) (λj a=>?_))))))))))
  ·refine bX 6 Q (bY a Q (λe3 a=>?_) (λe3 a=>?_))
   ·exact aK 3 Q (GE a λc7 a=>bN Q c7 (aG 3 Q (aB [0,1,2,3,4,18,19,20] Q (aL 4 Q (zJ [0] a Q (kB Q) Q)))))
   exact bP 5 Q (aB [0,1,2,3,4,18,19,20] Q (aL 4 Q (zJ [0] a Q (kB Q) Q)))
  obtain⟨start79,E⟩:=j;refine aB [0,1,2,3,4,18,19,20,21] Q (aK 2 Q (GE a λc8 a=>bN Q c8 (aG 3 Q (aN a (λstart85=>([(20,.d (.int .i64 start85))])) (λstart85=>[]) [20] [0,1,2,3,4,18,19] Q (λk5 a=>?_) (λstart85 a=>?_)))))
  ·refine bX 1 Q (bF a (λ(start89,G)=>([(20,.d (.int .i64 start89)),(21,.d (.int .i64 G))])) (λ(start89,G)=>[]) [20,21] [0,1,2,3,4,18,19,22] [0] (kB Q) Q (λs k6 a g4=>?_));obtain⟨start89,G⟩:=s;refine aB [0,1,2,3,4,18,19,20,21,22] Q (bX 7 Q (bY a Q (λe4 a=>?_) (λe4 a=>?_)))
   ·refine aK 6 Q (GE a λc9 a=>bN Q c9 (bB Q (oU Q Tryz.underlying3 Tryz.underlying197 Q) (GE a λd0 a=>bB Q (I4 Q Q Q Q d0) (bB Q (oU Q Tryz.underlying197 Tryz.underlying3 Q) (aG 3 Q (bK follows ?_))))));iterate 4 (refine DA [0] TK Q ?_)
    refine GE a λd1 a=>aU [0] Q (mG Q Q Q Q d1) (VE a λh9 Z a=>?_);refine aU [0] Q (eF TK Q Q Q Q Z (by first|rfl|simp)) ?_;refine aU [0] Q (gV TK Q Q Q Q Z.2 Q) ?_;iterate 2 (refine DA [0] TK Q ?_)
    refine VE a λi0 a0 a=>?_;refine aU [0] Q (eF TK Q Q Q Q a0 (by first|rfl|simp)) ?_;refine aU [0] Q (gV TK Q Q Q Q a0.2 Q) (BE a λi3 f7 a=>?_);obtain⟨Fr98,h0,e8,f1⟩:=l _ _ _ f7;refine aU [0] Q (pB Q Q e8 Q f1) ?_;iterate 2 (refine DA [0] TK Q ?_)
    refine DT ?_ (by kernel_rfl);refine aG 2 Q (aB [0,1,2,3,4,18,19,20,21,22,23,171] Q (mT a Q (λe5 a=>?_) (λe5 a=>?_)));exact aK 2 Q (GE a λa7 a=>bN Q a7 (aF 3 Q (wL [0] a Q (kB Q) Q)));exact aL 5 Q (wL [0] a Q (kB Q) Q)
   refine aL 2 Q (IE a λi4 a e=>?_);rw[g4 _ e]at a;exact WX (bS 1 Q (zJ [0] a Q (kB Q) Q))
  refine aB [0,1,2,3,4,18,19,20] Q (aK 3 Q (GE a λa8 a=>bN Q a8 (aG 3 Q (aN a (λp=>([(0,.msl 0 2 0 p.length)])) (λp=>([(0,.flat 168 2 (p.map Ac.enc))])) [0] [1,3,4,18,20,24] Q (λj3 a=>?_) (λp a=>?_)))))
  ·refine fC [(185,.d (.bool (((decide (start85<k))&&(decide (k<(((IntKind.i64.wrap ((IntKind.u64.wrap (h+i)).fdiv (2^(min (1:Int).toNat IntKind.u64.bits))))+k)-start85)))))))] [185] [0,1,2,3,4,18,20,24] Q ?_ ?_
   ·refine aM 4 Q (SB TK Q (λg5 a1=>?_));cases g5;refine aF 5 Q ?_;exact⟨[0],Q,(kB Q),bT (aO (aP (by first|(simp[a1];done)|(simp only[a1];simp))) Q) Q⟩;refine aF 5 Q ?_;exact⟨[0],Q,(kB Q),bT (aO (aP (by first|(simp[a1];done)|(simp only[a1];simp))) Q) Q⟩
   refine aB [0,1,2,3,4,18,20,24,185] Q (bI a Q (λd2 a=>?_) (λd2 a=>?_))
   ·refine aM 6 Q (BE a λa4 f2 a=>GE a λJ a=>?_);refine gP [0] (λ_=>false) Q Q Q (by decide) Q Q Q Q (oQ l f2) Q Q Q ?_;exact cD 0 a4.length Q J.symm (cD 186 a4.length Q J.symm (aF 1 Q (zJ [0] a Q (kB Q) Q)))
   exact r_px 1 Q (zJ [0] a Q (kB Q) Q)
  refine aB [0,1,3,4,18,20,24] Q (aN a (λq=>([(0,.msl 0 2 0 q.length)])) (λq=>([(0,.flat 168 2 (q.map Ac.enc))])) [0] [3,4,18,24] Q (λj4 a=>?_) (λq a=>?_))
  ·refine fC [(199,.d (.bool (((decide (h<start85))&&(decide (start85<(IntKind.i64.wrap ((IntKind.u64.wrap (h+i)).fdiv (2^(min (1:Int).toNat IntKind.u64.bits))))))))))] [199] [0,1,3,4,18,20,24] Q ?_ ?_
   ·refine aM 4 Q (SB TK Q (λg6 a2=>?_));cases g6;refine aF 5 Q ?_;exact⟨[0],Q,(kB Q),bT (aO (aP (by first|(simp[a2];done)|(simp only[a2];simp))) Q) Q⟩;refine aF 5 Q ?_;exact⟨[0],Q,(kB Q),bT (aO (aP (by first|(simp[a2];done)|(simp only[a2];simp))) Q) Q⟩
   refine aB [0,1,3,4,18,20,24,199] Q (bI a Q (λd4 a=>?_) (λd4 a=>?_))
   ·refine aM 6 Q (BE a λa5 f3 a=>GE a λK a=>?_);refine gP [0] (λ_=>false) Q Q Q (by decide) Q Q Q Q (ih l f3) Q Q Q ?_;exact cD 0 a5.length Q K.symm (cD 200 a5.length Q K.symm (aF 1 Q (zJ [0] a Q (kB Q) Q)))
   exact r_px 1 Q (zJ [0] a Q (kB Q) Q)
  refine aB [0,3,4,18,24] Q (fC [(213,.d (.bool (((decide ((IntKind.i64.wrap ((IntKind.u64.wrap (h+i)).fdiv (2^(min (1:Int).toNat IntKind.u64.bits))))<(((IntKind.i64.wrap ((IntKind.u64.wrap (h+i)).fdiv (2^(min (1:Int).toNat IntKind.u64.bits))))+k)-start85)))&&(decide ((((IntKind.i64.wrap ((IntKind.u64.wrap (h+i)).fdiv (2^(min (1:Int).toNat IntKind.u64.bits))))+k)-start85)<i))))))] [213] [0,3,4,18,24] Q ?_ ?_)
  ·refine aM 4 Q (SB TK Q (λg7 a3=>?_));cases g7;refine aF 5 Q ?_;exact⟨[0],Q,(kB Q),bT (aO (aP (by first|(simp[a3];done)|(simp only[a3];simp))) Q) Q⟩;refine aF 5 Q ?_;exact⟨[0],Q,(kB Q),bT (aO (aP (by first|(simp[a3];done)|(simp only[a3];simp))) Q) Q⟩
  refine aB [0,3,4,18,24,213] Q (bI a Q (λd5 a=>?_) (λd5 a=>?_))
  ·refine aK 6 Q (BE a λa6 f4 a=>GE a λL a=>?_);refine gP [0] (λ_=>false) Q Q Q (by decide) Q Q Q Q (ih l f4) Q Q Q ?_;refine cD 0 a6.length Q L.symm (cD 214 a6.length Q L.symm (aF 1 Q ?_));obtain rfl:=OJ a;exact⟨_,[0],res Q,by decide,(kB Q),Q,Q⟩
  refine aL 1 Q ?_;obtain rfl:=OJ a;exact⟨_,[0],res Q,by decide,(kB Q),Q,Q⟩
theorem iF{a:(List Ac)}{f:Int}{g:Int}{h:Int}{i:Ac->Ac->Option Int}{r:(List Ac)}{e:D}(j:∀b c r,i b c=some r->∃F cs,sV e=some (F,cs)/\RetD TP F ([b.enc,c.enc]++cs) (.int .i64 r))(k:cZ a f g h i=some r):Ret TP 203 [.flat 168 2 (a.map Ac.enc)] (λ_=>false) [.msl 0 2 0 a.length,.d (.int .i64 f),.d (.int .i64 g),.d (.int .i64 h),.d (e)] (.tup []) [.flat 168 2 (r.map Ac.enc)]:=mY lN j k
theorem oP{q:(List Ac)}{z:Int}{A:Ac->Ac->Option Int}{r:(List Ac)}{u:D}(k:∀t b r,A t b=some r->∃F cs,sV u=some (F,cs)/\RetD TP F ([t.enc,b.enc]++cs) (.int .i64 r))(a:eD q z A=some r):Ret TP 194 [.flat 168 2 (q.map Ac.enc)] (λ_=>false) [.msl 0 2 0 q.length,.d (.int .i64 z),.d (u)] (.tup []) [.flat 168 2 (r.map Ac.enc)]:=by
 refine eB (aQ Q) func194 Q ntmps194 Q Q (λwX gX=>?_);unfold eD at a;refine aB [0,1,2] Q (bX 10 Q (aN a (λ(b,f)=>([(0,.msl 0 2 0 f.length),(7,.d (.int .i64 b))])) (λ(b,f)=>([(0,.flat 168 2 (f.map Ac.enc))])) [0,7] [1,2,6] Q (λa6 a=>?_) (λj a=>?_)));refine bX 1 Q (bF a (λ(n,o,e)=>([(0,.msl 0 2 0 e.length),(7,.d (.int .i64 n)),(8,.d (.int .i64 o))])) (λ(n,o,e)=>([(0,.flat 168 2 (e.map Ac.enc))])) [0,7,8] [1,2,6] [0] (kB Q) Q (λs a4 a Y=>?_));obtain⟨n,o,e⟩:=s;refine aB [0,1,2,6,7,8] Q (bX 7 Q (bY a Q (λP a=>?_) (λP a=>?_)));refine aK 8 Q (BE a λB U a=>GE a λv a=>?_);refine gP [0] (λ_=>false) Q Q Q (by decide) Q Q Q Q (fZ k U) Q Q Q ?_;exact cD 0 B.length Q v.symm (cD 14 B.length Q v.symm (aI 10 Q (GE a λH a=>bN Q H (aF 3 Q (wL [0] a Q (kB Q) Q)))));refine aL 2 Q (IE a λa1 a c=>?_);rw[Y _ c]at a;exact WX (bS 1 Q (zJ [0] a Q (kB Q) Q));obtain⟨b,f⟩:=j;refine aB [0,1,2,6,7] Q (aK 5 Q (BE a λC V a=>GE a λw a=>?_));refine gP [0] (λ_=>false) Q Q Q (by decide) Q Q Q Q (fZ k V) Q Q Q ?_;refine cD 0 C.length Q w.symm (cD 23 C.length Q w.symm (aG 3 Q (bF a (λ(blockSize23,g)=>([(0,.msl 0 2 0 g.length),(6,.d (.int .i64 blockSize23))])) (λ(blockSize23,g)=>([(0,.flat 168 2 (g.map Ac.enc))])) [0,6] [1,2] [0] (kB Q) Q (λs a5 a Z=>?_))));obtain⟨blockSize23,g⟩:=s;refine aB [0,1,2,6] Q (bX 7 Q (bY a Q (λR a=>?_) (λR a=>?_)));refine aK 5 Q (GE a λI a=>bN Q I (aG 4 Q (aN a (λ(l,h)=>([(0,.msl 0 2 0 h.length),(7,.d (.int .i64 l))])) (λ(l,h)=>([(0,.flat 168 2 (h.map Ac.enc))])) [0,7] [1,2,6] Q (λa7 a=>?_) (λj a=>?_))))
 ·refine bX 1 Q (bF a (λ(m,p,i)=>([(0,.msl 0 2 0 i.length),(7,.d (.int .i64 m)),(8,.d (.int .i64 p))])) (λ(m,p,i)=>([(0,.flat 168 2 (i.map Ac.enc))])) [0,7,8] [1,2,6] [0] (kB Q) Q (λs a8 a a0=>?_));obtain⟨m,p,i⟩:=s;refine aB [0,1,2,6,7,8] Q (bX 7 Q (bY a Q (λS a=>?_) (λS a=>?_)));refine aK 8 Q (GE a λJ a=>bN Q J (aI 2 Q (BE a λE W a=>GE a λx a=>?_)));refine gP [0] (λ_=>false) Q Q Q (by decide) Q Q Q Q (iF k W) Q Q Q ?_;exact cD 0 E.length Q x.symm (cD 36 E.length Q x.symm (aI 10 Q (GE a λK a=>bN Q K (GE a λL a=>bN Q L (aF 3 Q (wL [0] a Q (kB Q) Q))))));refine aL 2 Q (IE a λa2 a c=>?_);rw[a0 _ c]at a;exact WX (bS 1 Q (zJ [0] a Q (kB Q) Q))
 obtain⟨l,h⟩:=j;refine aB [0,1,2,6,7] Q (aK 4 Q (GE a λM a=>bN Q M (aG 9 Q (bY a Q (λT a=>?_) (λT a=>?_)))));refine aK 6 Q (BE a λG X a=>GE a λy a=>?_);refine gP [0] (λ_=>false) Q Q Q (by decide) Q Q Q Q (iF k X) Q Q Q ?_;exact cD 0 G.length Q y.symm (cD 55 G.length Q y.symm (aI 4 Q (GE a λN a=>bN Q N (aF 3 Q (wL [0] a Q (kB Q) Q)))));exact aK 4 Q (GE a λO a=>bN Q O (aF 3 Q (wL [0] a Q (kB Q) Q)));refine aL 2 Q (IE a λa3 a c=>?_);rw[Z _ c]at a;refine WX (bS 1 Q ?_);obtain rfl:=OJ a;exact⟨_,[0],res Q,by decide,(kB Q),Q,Q⟩
theorem pV{c:(List Ac)}{i:Ac->Ac->Option Int}{r:(List Ac)}{h:D}(j:∀f g r,i f g=some r->∃F cs,sV h=some (F,cs)/\RetD TP F ([f.enc,g.enc]++cs) (.int .i64 r))(a:dW c i=some r):Ret TP 177 [.flat 168 2 (c.map Ac.enc)] (λ_=>false) [.msl 0 2 0 c.length,.d (h)] (.tup []) [.flat 168 2 (r.map Ac.enc)]:=by
 refine eB (aQ Q) func177 Q ntmps177 Q Q (λwX gX=>?_);unfold dW at a;refine aB [0,1] Q (aM 5 Q (BE a λe k a=>GE a λb a=>?_));refine gP [0] (λ_=>false) Q Q Q (by decide) Q Q Q Q (oP j k) Q Q Q ?_;refine cD 0 e.length Q b.symm (cD 4 e.length Q b.symm (cD 5 e.length Q b.symm (aF 1 Q ?_)));obtain rfl:=OJ a;exact⟨_,[0],res Q,by decide,(kB Q),Q,Q⟩
theorem D7{c:Aa}{B:(List Ae)}{C:Int}{E:Int}{r:(List Ac)}(a:sL c B C E=some r):RetD TP 126 [c.enc,.sl 3 (B.map Ae.enc),.int .i64 C,.int .i64 E] (.sl 2 (r.map Ac.enc)):=by
 refine .of (mv:=λ_=>false) (aJ (aQ Q) func126 Q ntmps126 Q Q (λwX gX=>?_));unfold sL at a;refine aB [0,1,2,3] Q (aM 1 Q (bU 0 Q Q Q (aI 7 Q (dI a (rM ·) Q λb6 a=>aG 3 Q (bI a Q (λa0 a=>?_) (λa0 a=>?_))))));refine bP 4 Q (sW 8 [some 2] Q (aL 2 Q ?_));obtain rfl:=OJ a;exact EndsS.one _ Q (.d _) (.refl _);refine aK 3 Q (lE 3 26 Q (oZ 24 (.mmap 1) Q Q (aG 3 Q (aN a (λy=>[]) (λy=>([(1,.map 3 26 (aV (D.int .i64) (λ(l:List Am)=>D.sl 3 (l.map Am.enc)) y))])) [] [1,2,3,4,9] Q (λc7 a=>?_) (λy a=>?_)))))
 ·refine aM 3 Q (aX TK Q (aG 3 Q (aB [1,2,3,4,9,26,27,28] Q (GE a λR a=>bP 1 Q (gr_loop (f:=Am.enc) (ty:=235) (sz:=3) (tm:=9) (λx=>x.el) c.balises (λi=>[(1,.d (.sl 3 (B.map Ae.enc))),(2,.d (.int .i64 C)),(3,.d (.int .i64 E)),(4,.mptr 0 0 0 0),(9,.mmap 1),(26,.d (.sl 3 (c.balises.map Am.enc))),(27,.d (.int .i64 (c.balises.length:Int))),(28,.d (.int .i64 i))]) [1,2,3,4,9,26,27,28] Q Q Q R (λi e G j es hi he hnd hj hln=>?_) (λi e G hi he hne=>?_) (λG hG=>?_))))))
  ·refine aM 1 Q (SB TK Q (λq hq=>?_));cases q;simp at hq;omega;refine aG 3 Q (Df Q true Q (aK 5 Q ?_));refine bB Q (jQ TK Q Q Q Q ⟨Int.natCast_nonneg i,(by simpa using he:c.balises[(i:Int).toNat]?=some e)⟩) ?_;refine aI 1 Q (s_alH 2 Q Q rH Q Q (aG 3 Q (qg [1,2,3,4,9,11,26,27,28] Q (gr_open (f:=Am.enc) (cN 3) Q Q Q hj (eV follows (DA [2] TK Q (DA [2] TK Q (DA [2] TK Q (DA [2] TK Q (DA [2] TK Q (DA [2] TK Q (aU [1] Q (x_lookVY (j:=j) Q kp Q Q Q (zi (fT .i64)) (Cu hnd hj) (Cv hj)) (DA [2] TK Q (aU [] Q (pO [.tmp 39] TK Q Q rH Q Q Q Q Q) (tV [3,4] _ (.msl 4 3 0 (es++[e]).length) Q (dZ Q) (wl4 Q) (xy (f:=Am.enc) (xs:=es) [e] Q Q Q TK Q rH Q Q Q Q Q Q eC hln) ?_)))))))))))))));refine DT (cU Q (H8 (j:=j) Q Q kp Q Q Q Q (zi (fT .i64)) (Cu hnd hj) (Cv hj) ?_)) (by kernel_rfl);refine aG 3 Q (qg [1,2,3,4,9,26,27,28] Q (gr_close (f:=Am.enc) (k:=e.el) (es':=es++[e]) (cN 2) Q Q (zQQ.1 hj).1 ?_));refine aK 1 Q ?_;refine bB Q (mG Q Q Q Q (by unfold bD;omega)) ?_;exact aF 2 Q ⟨Q,Q⟩
  refine aM 1 Q (SB TK Q (λq hq=>?_));cases q;simp at hq;omega;refine aG 3 Q (Df Q true Q (aK 5 Q ?_));refine bB Q (jQ TK Q Q Q Q ⟨Int.natCast_nonneg i,(by simpa using he:c.balises[(i:Int).toNat]?=some e)⟩) ?_;refine aI 1 Q (s_alH 2 Q Q rH Q Q (aG 3 Q (qg [1,2,3,4,9,11,26,27,28] Q (eV follows (DA [2] TK Q (DA [2] TK Q (DA [2] TK Q (DA [2] TK Q (DA [2] TK Q (DA [2] TK Q (aU [1] Q (x_lookVN Q kp zero26 Q Q Q Q ((fT .i64).key _) (qf (fT .i64)) (Gr hne)) (DA [2] TK Q (aU [] Q (pO [.tmp 39] TK Q Q rH Q Q Q Q Q) (tV [4] _ (.msl 4 3 0 [e].length) Q (dZ Q) (wl5 Q) (w_appN (f:=Am.enc) [e] Q Q TK Q rH Q Q Q Q eC (dK Q)) ?_))))))))))))));refine DT (cU Q (Fx Q Q kp Q Q Q Q ((fT .i64).key _) (qf (fT .i64)) (Gr hne) ?_)) (by kernel_rfl);refine aG 3 Q (qg [1,2,3,4,9,26,27,28] Q (gr_new (f:=Am.enc) (k:=e.el) (es':=[e]) (cN 2) Q Q (aK 1 Q ?_)));refine bB Q (mG Q Q Q Q (by unfold bD;omega)) ?_;exact aF 2 Q ⟨Q,Q⟩;refine aM 1 Q (SB TK Q (λq hq=>?_));subst hG;obtain rfl:q=false:=by simpa using hq.symm
  refine aG 3 Q (Df Q false Q (gr_end (f:=Am.enc) [1,2,3,4,9,26,27,28] Q Q Q Q (aL 2 Q ?_)));show post _ _ _ (.exit 0) _;exact aZ [0,1] a Q Q
 refine aB [1,2,3,4,9] Q (aK 1 Q (iC (f:=Ac.enc) 2 168 2 Q Q Q (aG 7 Q (cH a (λ(A,u)=>([(12,.msl 2 2 0 u.length)])) (λ(A,u)=>([(1,.map 3 26 (aV (D.int .i64) (λ(l:List Am)=>D.sl 3 (l.map Am.enc)) A)),(2,.flat 168 2 (u.map Ac.enc))])) [12] [] Q (λd0 a b3=>?_) (λj a=>?_)))))
 ·refine aM 2 Q (aX TK Q (aG 4 Q (bF a (λ(begin15,F,v,m)=>([(12,.msl 2 2 0 m.length),(13,.d (.int .i64 begin15)),(46,.d (.int .i64 F))])) (λ(begin15,F,v,m)=>([(1,.map 3 26 (aV (D.int .i64) (λ(l:List Am)=>D.sl 3 (l.map Am.enc)) v)),(2,.flat 168 2 (m.map Ac.enc))])) [12,13,46] [3,4,9,44,45] [0,1,2] k0 Q (λs c3 a L=>?_))));obtain⟨begin15,F,v,m⟩:=s;refine aB [3,4,9,12,13,44,45,46] Q (bX 5 Q (bY a Q (λa1 a=>?_) (λa1 a=>?_)));refine bP 2 Q (cH a (λ(begin21,w,n)=>([(12,.msl 2 2 0 n.length),(13,.d (.int .i64 begin21))])) (λ(begin21,w,n)=>([(1,.map 3 26 (aV (D.int .i64) (λ(l:List Am)=>D.sl 3 (l.map Am.enc)) w)),(2,.flat 168 2 (n.map Ac.enc))])) [12,13] [3,4,9,44,45,46] Q (λc4 a b1=>?_) (λj a=>?_))
  ·refine aM 2 Q (VE a λI a7 a=>dL TK Q a7 (aI 1 Q (cK 3 Q Q dG Q (aG 4 Q ?_))));refine fC [(60,.d (.bool (((decide (I.el<0))||(decide ((c.Ad.length:Int)<=I.el))))))] [60] [3,4,9,12,13,15,44,45,46] Q ?_ ?_;refine aM 4 Q (SB TK Q (λb4 K=>?_));cases b4;refine aI 4 Q (aX TK Q (aF 3 Q ?_));exact⟨[0,1,2,3],Q,k0,bT (aO (aP (by simp[K])) Q) Q⟩;refine aF 8 Q ?_;exact⟨[0,1,2,3],Q,k0,bT (aO (aP (by simp[K])) Q) Q⟩;refine aB [3,4,9,12,13,15,44,45,46,60] Q (bI a Q (λa2 a=>?_) (λa2 a=>?_))
   ·refine bP 4 Q (sW 8 [some 2] Q (aL 3 Q (IE a λb8 a b=>?_)));rw[b1 _ b]at a;refine WR (IE a λb9 a b=>?_);rw[L _ b]at a;refine WR (bS 1 Q (IE a λc0 a b=>?_));rw[b3 _ b]at a;refine WR ?_;obtain rfl:=OJ a;exact EndsS.one _ Q (.d _) (.refl _)
   refine aK 7 Q (VE a λb5 a8 a=>dL TK Q a8 (aI 1 Q (cK 4 Q Q rI Q (aG 3 Q (aB [3,4,9,12,13,15,16,44,45,46] Q (aN a (λ(z,o)=>([(12,.msl 2 2 0 o.length)])) (λ(z,o)=>([(1,.map 3 26 (aV (D.int .i64) (λ(l:List Am)=>D.sl 3 (l.map Am.enc)) z)),(2,.flat 168 2 (o.map Ac.enc))])) [12] [3,4,9,13,16,44,45,46] Q (λc5 a=>?_) (λj a=>?_)))))))
   ·refine aM 4 Q (dI a (ku ·) Q λb7 a=>aG 2 Q (bI a Q (λa3 a=>?_) (λa3 a=>?_)))
    ·refine aN a (λp=>([(12,.msl 2 2 0 p.length)])) (λp=>([(2,.flat 168 2 (p.map Ac.enc))])) [12] [3,4,9,13,15,16,44,45,46] Q (λc6 a=>?_) (λp a=>?_)
     ·refine aM 4 Q (GE a λO a=>bB Q (x_look0N (fT .i64) (λ(l:List Am)=>D.sl 3 (l.map Am.enc)) _ _ ([]:List Am) Q kp zero26 Q Q Q Q Q O) (aX TK Q (aG 4 Q (bF a (λ(H,t)=>([(12,.msl 2 2 0 t.length),(76,.d (.int .i64 H))])) (λ(H,t)=>([(2,.flat 168 2 (t.map Ac.enc))])) [12,76] [3,4,9,13,15,16,44,45,46,74,75] [0,1,2,3,4] k0 Q (λs c8 a b2=>?_)))));obtain⟨H,t⟩:=s;refine aB [3,4,9,12,13,15,16,44,45,46,74,75,76] Q (bX 5 Q (bY a Q (λa4 a=>?_) (λa4 a=>?_)));refine aK 5 Q (VE a λN a9 a=>dL TK Q a9 (aI 1 Q (cK 5 Q Q rH Q (aG 3 Q (aB [3,4,9,12,13,15,16,18,44,45,46,74,75,76] Q (aK 4 Q (GE a λP a=>bN Q P (aG 3 Q (aN a (λg=>([(19,.d (.int .i64 g))])) (λg=>[]) [19] [3,4,9,12,13,15,16,18,44,45,46,74,75,76] Q (λc9 a=>?_) (λg a=>?_))))))))))
      ·refine bX 6 Q (bY a Q (λa5 a=>?_) (λa5 a=>?_))
       ·exact aK 4 Q (GE a λS a=>bN Q S (aI 2 Q (GE a λT a=>bN Q T (aF 2 Q (aZ [0,1,2,3,4,5] a Q Q)))))
       exact aL 1 Q (aZ [0,1,2,3,4,5] a Q Q)
      refine aB [3,4,9,12,13,15,16,18,19,44,45,46,74,75,76] Q (bP 6 Q (bY a Q (λa6 a=>?_) (λa6 a=>?_)))
      ·exact aK 5 Q (bB Q (bR Q plc168 yR Q Q Q Q) (iE [.tmp 101] TK Q yR (GE a λU a=>fJ (f:=Ac.enc) ([(⟨N.id,g⟩:Ac)]:List Ac) TK Q Q yR Q Q Q Q Q (λh=>absurd h (pS _)) Q eC U Q Q (aG 4 Q (aB [3,4,9,12,13,15,16,44,45,46,74,75,76] Q (aK 1 Q (GE a λV a=>bN Q V (aF 2 Q (cA [0,1,2,3,4] a Q Q)))))))))
      exact aK 4 Q (GE a λW a=>bN Q W (aF 2 Q (cA [0,1,2,3,4] a Q Q)));refine aL 2 Q (IE a λc1 a b=>?_);rw[b2 _ b]at a;exact WX (bS 1 Q (aZ [0,1,2,3,4] a Q Q))
     exact aB [3,4,9,12,13,15,16,44,45,46] Q (aK 4 Q (GE a λX a=>s_delG (fT .i64) (λ(l:List Am)=>D.sl 3 (l.map Am.enc)) kp Q Q Q X (aF 1 Q (aZ [0,1,2,3,4] a Q Q))))
    exact aL 1 Q (aZ [0,1,2,3,4] a Q Q)
   obtain⟨z,o⟩:=j;exact aB [3,4,9,12,13,16,44,45,46] Q (aK 4 Q (GE a λY a=>bN Q Y (aF 3 Q (cA [0,1,2] a Q Q))))
  obtain⟨begin21,w,n⟩:=j;exact aB [3,4,9,12,13,44,45,46] Q (aK 1 Q (GE a λZ a=>bN Q Z (aF 2 Q (cA [0,1,2] a Q Q))));refine aL 2 Q (IE a λc2 a b=>?_);rw[L _ b]at a;exact WX (bS 1 Q (cA [0,1,2] a Q Q))
 obtain⟨A,u⟩:=j;refine aB [12] Q (aK 2 Q (BE a λM b0 a=>GE a λJ a=>?_));refine gP [2] (λ_=>false) Q Q Q (by decide) Q Q Q Q (pV (λ_ _ r h=>⟨178,_,Q,(v7 h).retD⟩) b0) Q Q Q ?_;refine cD 12 M.length Q J.symm (cD 113 M.length Q J.symm (aF 8 Q ?_));obtain rfl:=OJ a;exact EndsS.one _ Q (aW Q) (.refl _)
theorem wA{b:Au}{f:Int}{c:Au}{e:Int}(a:jK b f=some (c,e)):Ca TP 121 [.box 66 [.d (.int .i64 b.seq),.d (.int .i64 b.endV),.d (.sl 4 (b.profile.map Ag.enc)),.d (.sl 2 (b.links.map Ac.enc))],.box 40 [.d (.int .i64 f)]] .returning [.box 66 [.d (.int .i64 c.seq),.d (.int .i64 c.endV),.d (.sl 4 (c.profile.map Ag.enc)),.d (.sl 2 (c.links.map Ac.enc))],.box 40 [.d (.int .i64 e)]]:=by
 refine Is (aQ Q) func121 Q ntmps121 Q Q (λwX gX=>?_);unfold jK at a;refine aB [0,1] Q (aM 2 Q (dI a (ga ·) Q λe a=>aG 3 Q (bI a Q (λg a=>?_) (λg a=>?_))));refine aK 1 Q (bB Q (bR Q plc66 gk Q Q Q Q) (Kb 5 [none,none,some 4,some 2] Q (aF 3 Q ?_)));obtain⟨rfl,rfl⟩:=bJ (aS a);exact⟨_,[0,1],res Q,by decide,(kB Q),Q,Q⟩;refine aL 1 Q ?_;obtain⟨rfl,rfl⟩:=bJ (aS a);exact⟨_,[0,1],res Q,by decide,(kB Q),Q,Q⟩
theorem gb{f:Aa}{g:Af}{h:(List Av)}{i:Int}{j:Au}{k:Int}(a:lB f g h i=some (j,k)):RetT TP 66 [f.enc,g.enc,.sl 6 (h.map Av.enc),.int .i64 i] [j.enc,.int .i64 k]:=by
 refine .of (mv:=λ_=>false) (cd (aQ Q) func66 Q ntmps66 Q Q (λwX gX=>?_));unfold lB at a;refine Eg (bU 0 Q Q Q (bU 1 Q Q Q (cK 2 Q Q gk Q (eZ 2 [none,none,some 4,some 2] Q Q (cK 3 Q Q zero40 Q (aF 1 Q (oI (f_seqP (aN a (λb=>([(23,.d (.bool (b)))])) (λb=>[]) [23] [2,3,4,5,8,9] Q (λx a=>?_) (λb a=>?_))))))))));refine aM 4 Q (dI a (rM ·) Q λu a=>aI 1 Q (SB TK Q (λn c=>?_)));cases n;replace a:=JB c a;refine aI 3 Q (SB TK Q (λo e=>?_));cases o;replace a:=JF e a;exact aF 4 Q (aZ [0,1,2,3] a Q Q);replace a:=JT e a;exact aF 4 Q (aZ [0,1,2,3] a Q Q);replace a:=JA c a;exact aF 8 Q (aZ [0,1,2,3] a Q Q);refine aB [2,3,4,5,8,9,23] Q (bI a Q (λl a=>?_) (λl a=>?_))
 ·refine aK 1 Q (bB Q (bR Q plc66 gk Q Q Q Q) (Kb 24 [none,none,some 4,some 2] Q (aF 5 Q (f_ret ?_))));obtain⟨rfl,rfl⟩:=bJ (aS a);exact⟨_,.mk _ (.cons (.agg (TK.lay Q) Q Q Q Q) (.cons (.one (TK.lay Q) Q Q Q) .nil)) Q,(.cons (.d _) (.refl _) (.cons (.d _) (.refl _) .nil))⟩
 refine aL 1 Q (f_next (xc 1 25 Q Q (bB Q (tD Q) (aF 1 Q (oI (f_go [2,3] Q (λwY gY dfY=>aB [2,3,4,5,8,9] Q (tZ follows ?_))))))));iterate 11 (refine DA [0,1,2,3] TK Q ?_)
 refine zR [0,1,2,3] a (Dx ·) Q λv a=>zR [0,1,2,3] a (zT ·) Q λw a=>?_;refine DT ?_ (by kernel_rfl);refine aG 3 Q (bK follows ?_);iterate 8 (refine DA [0,1,2,3] TK Q ?_)
 refine zR [0,1,2,3] a (Bw ·) Q λq a=>?_;iterate 7 (refine DA [0,1,2,3] TK Q ?_)
 refine zR [0,1,2,3] a (D7 ·) Q λr a=>aU [0,1,2,3] Q (bR Q plc66 gk Q Q Q Q) ?_;refine DT ?_ (by kernel_rfl);refine aG 4 Q (aB [8,9] Q (aL 1 Q (BE a λp m a=>?_)));obtain⟨s,t⟩:=p;obtain⟨rfl,rfl⟩:=bJ (aS a);exact yr Q Q Q (wA m) Q Q ⟨_,.mk _ (.cons (.agg (TK.lay Q) Q Q Q Q) (.cons (.one (TK.lay Q) Q Q Q) .nil)) Q,(.cons (.d _) (.refl _) (.cons (.d _) (.refl _) .nil))⟩
theorem Fu{c:Aa}{e:(List Av)}{b:Af}{f:Af}{g:Ap}(a:uI c e b=some (f,g)):RetT TP 26 [c.enc,.sl 6 (e.map Av.enc),b.enc] [f.enc,g.enc]:=by
 refine .of (mv:=λ_=>false) (fD (aQ Q) func26 Q ntmps26 Q Q (λwX gX=>?_));unfold uI at a;refine aB [0,1,2] Q (aM 1 Q (bU 0 Q Q Q (bU 1 Q Q Q (cK 2 Q Q jL Q (eZ 2 [none,none,none,none,some 3,some 1,some 1,some 1,some 1,none,none,none,none,none] Q Q (cK 3 Q Q uV Q (eZ 3 [none,none,none,none,none,none,none,some 4,some 2,none,none,none,none,none] Q Q (aG 2 Q (fN (bK follows (DA [1] TK Q (tV [4] _ (.mptr 4 0 0 0) Q (dZ Q) Q (lL Q Q jL Q Q) (DA [] TK Q ?_)))))))))))));refine DT ?_ (by kernel_rfl);refine aG 3 Q (aB [1,3,5,6,7,8,9] Q (aN a (λ_=>([(8,.d (.int .i64 2))])) (λ_=>[]) [8] [1,3,5,6,7,9] Q (λq a=>?_) (λj a=>?_)));refine bX 6 Q (mT a Q (λk a=>?_) (λk a=>?_))
 ·cases a
 exact aL 1 Q (aZ [0,1,2,3,4] a Q Q);refine aB [1,3,5,6,7,8,9] Q (aK 6 Q (GE a λh a=>bN Q h (BE a λn m a=>?_)));obtain⟨o,p⟩:=n;refine bB Q (dX Q Q Q (gb m)) (aI 3 Q (cK 5 Q Q gk Q (eZ 5 [none,none,some 4,some 2] Q Q (aG 4 Q (aB [5,6,7,8,10,11] Q (bP 6 Q (mT a Q (λl a=>?_) (λl a=>?_))))))));refine aK 2 Q (bB Q (bR Q plc68 uV Q Q Q Q) (Kb 32 [none,none,none,none,none,none,none,some 4,some 2,none,none,none,none,none] Q (aG 4 Q (aB [6,7] Q (aL 2 Q ?_)))));obtain⟨rfl,rfl⟩:=bJ (aS a);exact⟨_,.mk _ (.cons (.agg (TK.lay Q) Q Q Q Q) (.cons (.agg (TK.lay Q) Q Q Q Q) .nil)) Q,(.cons (.d _) (.refl _) (.cons (.d _) (.refl _) .nil))⟩;refine aK 5 Q (GE a λi a=>bN Q i (aG 4 Q (aB [5,6,7,8,10] Q (bK follows (DA [1] TK Q (DA [] TK Q (DA [5] TK Q (aU [] Q (bR Q plc68 uV Q Q Q Q) (qT 1000002 [2] [(2,.box 73 [.d (.int .i64 b.id),.d (.int .i64 b.origin),.d (.int .i64 b.endV),.d (.int .i64 b.atV),.d (.sl 3 (b.steps.map Ae.enc)),.d (.sl 1 (b.Ak.map (D.int .i64))),.d (.sl 1 (b.starts.map (D.int .i64))),.d (.sl 1 (b.ends.map (D.int .i64))),.d (.sl 1 (b.done.map (D.int .i64))),.d (.int .i64 b.min),.d (.int .i64 (b.sent+1)),.d (.int .i64 b.accepted),.d (.int .i64 b.cut),.d (.int .i64 b.cutSeq)])] (dZ Q) Q (kK TK Q Q Q Q Q Q Q Q Q Q) ?_)))))))));refine DT ?_ (by kernel_rfl);refine aG 3 Q (aB [6,7] Q (aL 1 Q ?_));obtain⟨rfl,rfl⟩:=bJ (aS a);exact⟨_,.mk _ (.cons (.agg (TK.lay Q) Q Q Q Q) (.cons (.agg (TK.lay Q) Q Q Q Q) .nil)) Q,(.cons (.d _) (.refl _) (.cons (.d _) (.refl _) .nil))⟩
theorem rD{b:(List Ag)}{r:(List Ag)}(a:fR b=some r):RetD TP 67 [.sl 4 (b.map Ag.enc)] (.sl 4 (r.map Ag.enc)):=by
 refine .of (mv:=λ_=>false) (aJ (aQ Q) func67 Q ntmps67 Q Q (λwX gX=>?_));unfold fR at a;refine aB [0] Q (aM 6 Q (GE a λc a=>s_apN (f:=Ag.enc) 0 b TK Q Q Q nV Q Q Q Q eC c (aG 3 Q ?_)));refine Er 3 0 [0] Q Q Q Q Q (by simp) Q Q ?_;refine aK 3 Q (aX TK Q (aI 1 Q (aX TK Q (bB Q (x_cutF TK Q Q Q Q Q) (aF 4 Q ?_)))));obtain rfl:=OJ a;exact EndsS.one _ Q (.d _) (.refl _)
theorem rR{b:(List Ac)}{r:(List Ac)}(a:fY b=some r):RetD TP 68 [.sl 2 (b.map Ac.enc)] (.sl 2 (r.map Ac.enc)):=by
 refine .of (mv:=λ_=>false) (aJ (aQ Q) func68 Q ntmps68 Q Q (λwX gX=>?_));unfold fY at a;refine aB [0] Q (aM 6 Q (GE a λc a=>s_apN (f:=Ac.enc) 0 b TK Q Q Q yR Q Q Q Q eC c (aG 3 Q ?_)));refine Er 3 0 [0] Q Q Q Q Q (by simp) Q Q ?_;refine aK 3 Q (aX TK Q (aI 1 Q (aX TK Q (bB Q (x_cutF TK Q Q Q Q Q) (aF 4 Q ?_)))));obtain rfl:=OJ a;exact EndsS.one _ Q (.d _) (.refl _)
theorem yh{c:Ah}{a:Ap}{f:Int}{g:Ah}{h:Ap}(b:oY c a f=some (g,h)):RetT TP 27 [c.enc,a.enc,.int .i64 f] [g.enc,h.enc]:=by
 refine .of (mv:=λ_=>false) (fD (aQ Q) func27 Q ntmps27 Q Q (λwX gX=>?_));unfold oY at b;refine aB [0,1,2] Q (aM 1 Q (bU 0 Q Q Q (bU 1 Q Q Q (cK 2 Q Q uU Q (cK 3 Q Q uV Q (eZ 3 [none,none,none,none,none,none,none,some 4,some 2,none,none,none,none,none] Q Q (aG 2 Q (aN b (λe=>[]) (λe=>([(0,.box 89 [.d (.int .i64 c.peer),.d (.int .i64 e),.d (.int .i64 c.inV),.d (.int .i64 c.heard)])])) [] [2,3,4,6,7] Q (λm b=>?_) (λe b=>?_)))))))));refine bX 6 Q (bY b Q (λj b=>?_) (λj b=>?_))
 ·exact aK 3 Q (GE b λi b=>bN Q i (aF 3 Q (aZ [0,1,2,3] b Q Q)))
 exact aL 1 Q (aZ [0,1,2,3] b Q Q);refine aB [2,3,4,6,7] Q (bK follows (DA [] TK Q (DA [0] TK Q (DA [] TK Q (DA [0] TK Q ?_)))));iterate 2 (refine DA [] TK Q ?_)
 refine qT 1000003 [1] [(1,.box 68 [.d (.int .i64 a.kind),.d (.int .i64 a.fromV),.d (.int .i64 c.peer),.d (.int .i64 a.seq),.d (.int .i64 a.time),.d (.int .i64 a.auth.seq),.d (.int .i64 a.auth.endV),.d (.sl 4 (a.auth.profile.map Ag.enc)),.d (.sl 2 (a.auth.links.map Ac.enc)),.d (.int .i64 a.report.min),.d (.int .i64 a.report.speed),.d (.int .i64 a.report.mode),.d (.int .i64 a.report.accepted),.d (.bool (a.report.whole))])] (dZ Q) Q (kK TK Q Q Q Q Q Q Q Q Q Q) (DA [] TK Q (qT 1000004 [1] [(1,.box 68 [.d (.int .i64 a.kind),.d (.int .i64 a.fromV),.d (.int .i64 c.peer),.d (.int .i64 e),.d (.int .i64 a.time),.d (.int .i64 a.auth.seq),.d (.int .i64 a.auth.endV),.d (.sl 4 (a.auth.profile.map Ag.enc)),.d (.sl 2 (a.auth.links.map Ac.enc)),.d (.int .i64 a.report.min),.d (.int .i64 a.report.speed),.d (.int .i64 a.report.mode),.d (.int .i64 a.report.accepted),.d (.bool (a.report.whole))])] (dZ Q) Q (kK TK Q Q Q Q Q Q Q Q Q Q) (DA [] TK Q ?_)));refine DT ?_ (by kernel_rfl);refine aI 7 Q (iK b (rD ·) Q λk b=>aG 5 Q (aB [3,4,6,7] Q (aK 4 Q (iK b (rR ·) Q λl b=>aG 5 Q (bK follows (DA [0] TK Q (DA [1] TK Q (qT 1000006 [2] [(2,.box 89 [.d (.int .i64 c.peer),.d (.int .i64 e),.d (.int .i64 c.inV),.d (.int .i64 c.heard)])] (dZ Q) Q (kK TK Q Q Q Q Q Q Q Q Q Q) ?_))))))));refine DT ?_ (by kernel_rfl);refine aF 4 Q ?_;obtain⟨rfl,rfl⟩:=bJ (aS b);exact⟨_,.mk _ (.cons (.agg (TK.lay Q) Q Q Q Q) (.cons (.agg (TK.lay Q) Q Q Q Q) .nil)) Q,(.cons (.d _) (.refl _) (.cons (.d _) (.refl _) .nil))⟩
theorem tP{b:(List Ah)}{r:(List Ah)}(a:gJ b=some r):Ret TP 59 [] (λ_=>false) ([.sl 4 (b.map Ah.enc)].map .d) (.msl 0 4 0 r.length) [.flat 89 4 (r.map Ah.enc)]:=by
 refine eB (aQ Q) func59 Q ntmps59 Q Q (λwX gX=>?_);unfold gJ at a;refine aB [0] Q (aM 1 Q (iC (f:=Ah.enc) 0 89 4 Q Q Q (aI 5 Q (tB Q Tryz.underlying44 Q Q (λg hb1=>aG 2 Q (TC _ Q (λc=>?_) (λc=>?_)))))));obtain⟨hnb1,a⟩:=vb (hb1 c) a;subst hnb1;refine aK 1 Q (iC (f:=Ah.enc) 1 89 4 Q Q Q (aF 4 Q ?_));obtain rfl:=OJ a;exact⟨_,[1],res Q,by decide,k0,Q,Q⟩;replace a:=vd a;refine aK 3 Q (xI (f:=Ah.enc) 1 [] ([]:List Ah) TK Q Q Q uU Q Q Q Q Q (aI 1 Q (GE a λe a=>fJ (f:=Ah.enc) b TK Q Q uU Q Q Q Q Q (λh=>absurd h (pS _)) Q eC e Q Q (aF 4 Q ?_))));obtain rfl:=OJ a;exact⟨_,[1],res Q,by decide,k0,Q,Q⟩
theorem bj{n:Ar}{r:Ar}(a:rV n=some r):Ret TP 22 [] (λ_=>false) ([n.enc].map .d) (.agg [.msl 0 14 0 r.tracks.length,.msl 1 4 0 r.sessions.length]) [.flat 73 14 (r.tracks.map Af.enc),.flat 89 4 (r.sessions.map Ah.enc)]:=by
 refine eB (aQ Q) func22 Q ntmps22 Q Q (λwX gX=>?_);unfold rV at a;refine aB [0] Q (aM 1 Q (bU 0 Q Q Q (cK 1 Q Q jU Q (dJ (f:=Af.enc) 1 0 2 73 14 Q Q Q (dJ (f:=Ah.enc) 1 1 3 89 4 Q Q Q (aI 5 Q (aX TK Q (GE a λo a=>s_mkOw (f:=Af.enc) (x:=(⟨(0:Int),(0:Int),(0:Int),(0:Int),([]:List Ae),([]:List Int),([]:List Int),([]:List Int),([]:List Int),(0:Int),(0:Int),(0:Int),(0:Int),(0:Int)⟩:Af)) 4 [none,none,none,none,some 3,some 1,some 1,some 1,some 1,none,none,none,none,none] TK Q Q Q jL Q Q Q Q Q o Q Q (aG 3 Q (aB [1,2,3] Q (aN a (λg=>([(3,.msl 4 14 0 g.length)])) (λg=>([(4,.flat 73 14 (g.map Af.enc))])) [3] [1,2] Q (λB a=>?_) (λg a=>?_))))))))))))
 ·refine aM 3 Q (aX TK Q (aG 4 Q (bF a (λ(e,c)=>([(3,.msl 4 14 0 c.length),(13,.d (.int .i64 e))])) (λ(e,c)=>([(4,.flat 73 14 (c.map Af.enc))])) [3,13] [1,2,11,12] [0,1,2,3,4] k0 Q (λs C a w=>?_))));obtain⟨e,c⟩:=s;refine aB [1,2,3,11,12,13] Q (bX 5 Q (bY a Q (λq a=>?_) (λq a=>?_)))
  ·refine aK 6 Q (VE a λb t a=>dL TK Q t (aI 1 Q (cK 5 Q Q jL Q (eZ 5 [none,none,none,none,some 3,some 1,some 1,some 1,some 1,none,none,none,none,none] Q Q (aG 4 Q (aB [1,2,3,4,5,11,12,13] Q (aK 3 Q (iK a (eR ·) Q λh a=>aG 4 Q (aB [1,2,3,4,5,11,12,13] Q (aK 3 Q (iK a (cB ·) Q λi a=>aG 4 Q (aB [1,2,3,4,5,11,12,13] Q (aK 3 Q (iK a (cB ·) Q λj a=>aG 4 Q (aB [1,2,3,4,5,11,12,13] Q (aK 3 Q (iK a (cB ·) Q λk a=>aG 4 Q (aB [1,2,3,4,5,11,12,13] Q ?_))))))))))))))))));refine aK 3 Q (iK a (cB ·) Q λl a=>aG 4 Q (aB [1,2,3,4,5,11,12,13] Q (aK 4 Q (VE a λz m a=>?_))));refine bB Q (eF TK Q Q Q Q m (by first|rfl|simp)) ?_;exact wH (x':=(⟨b.id,b.origin,b.endV,b.atV,h,i,j,k,l,b.min,b.sent,b.accepted,b.cut,b.cutSeq⟩:Af)) TK Q Q Q Q Q m.2 Q Q Q (cD 3 (c.set e.toNat (⟨b.id,b.origin,b.endV,b.atV,h,i,j,k,l,b.min,b.sent,b.accepted,b.cut,b.cutSeq⟩:Af)).length Q zal60q.symm (cD 38 (c.set e.toNat (⟨b.id,b.origin,b.endV,b.atV,h,i,j,k,l,b.min,b.sent,b.accepted,b.cut,b.cutSeq⟩:Af)).length Q zal60q.symm (aG 3 Q (aB [1,2,3,11,12,13] Q (aK 1 Q (GE a λp a=>bN Q p (aF 2 Q (cA [0,1,2,3,4] a Q Q))))))))
  refine aL 2 Q (IE a λA a v=>?_);rw[w _ v]at a;exact WX (bS 1 Q (aZ [0,1,2,3,4] a Q Q))
 refine aB [1,2,3] Q (bP 6 Q (aB [1,2] Q (aK 3 Q (BE a λy u a=>kM Q Q Q (tP u) Q Q (oZ 47 (.msl 5 4 0 y.length) Q Q (aG 4 Q (aB [1,2] Q (bP 5 Q (aB [2] Q (aL 1 Q ?_))))))))));obtain rfl:=OJ a;exact⟨_,[4,5],.mk _ (.cons (.agg (TK.lay Q) Q Q Q Q) .nil) Q,by decide,k0,Q,Q⟩
theorem Dv{p:Aa}{q:A1}{s:A6}{h:(List Af)}{f:Int}{r:(List Af)}(a:sJ p q s h f=some r):Ret TP 25 [.flat 73 14 (h.map Af.enc)] (λ_=>false) [.d (p.enc),.d (q.enc),.d (s.enc),.msl 0 14 0 h.length,.d (.int .i64 f)] (.tup []) [.flat 73 14 (r.map Af.enc)]:=by
 refine eB (aQ Q) func25 Q ntmps25 Q Q (λwX gX=>?_);unfold sJ at a;refine aB [0,1,2,3,4] Q (aM 1 Q (bU 1 Q Q Q (bU 2 Q Q Q (bU 3 Q Q Q (aG 3 Q (bF a (λc=>([(3,.msl 0 14 0 c.length)])) (λc=>([(0,.flat 73 14 (c.map Af.enc))])) [3] [4,5,6,7] [0,1,2,3] (kB Q) Q (λc L a g=>aB [3,4,5,6,7] Q (bX 1 Q (aN a (λi=>([(26,.d (.bool (i)))])) (λi=>[]) [26] [3,4,5,6,7] Q (λM a=>?_) (λi a=>?_))))))))))
 ·refine aM 3 Q (VE a λE m a=>?_);refine bB Q (eF TK Q Q Q Q m (by first|rfl|simp)) ?_;refine aI 1 Q (bB Q (gV TK Q Q Q Q m.2 Q) (aI 1 Q (SB TK Q (λy o=>?_))));cases y;replace a:=JF o a;exact aF 8 Q (zJ [0,1,2,3] a Q (kB Q) Q);replace a:=JT o a;refine aI 2 Q (VE a λF n a=>?_);refine bB Q (eF TK Q Q Q Q n (by first|rfl|simp)) ?_;exact aI 1 Q (bB Q (gV TK Q Q Q Q n.2 Q) (aF 3 Q (zJ [0,1,2,3] a Q (kB Q) Q)))
 refine aB [3,4,5,6,7,26] Q (bI a Q (λv a=>?_) (λv a=>?_))
 ·refine bP 3 Q (bK follows ?_);iterate 5 (refine DA [0,1,2,3] TK Q ?_)
  refine VE a λA j a=>?_;refine aU [0,1,2,3] Q (eF TK Q Q Q Q j (by first|rfl|simp)) ?_;refine DA [0,1,2,3] TK Q (aU [0,1,2,3] Q (gV TK Q Q Q Q j.2 Q) (BE a λG w a=>aU [0,1,2,3] Q (RN Q Q (SC (.d _) (SC (.d _) (SC (aW Q) (hZ Q)))) (Ft w)) ?_));refine DT ?_ (by kernel_rfl);refine aG 9 Q (bY a Q (λt a=>?_) (λt a=>?_));refine aL 3 Q (IE a λI a e=>?_);rw[g _ e]at a;refine WR (bS 1 Q ?_);obtain rfl:=OJ a;exact⟨_,[0],res Q,by decide,(kB Q),Q,Q⟩;refine bP 2 Q (fN (bK follows (DA [1] TK Q (DA [2] TK Q ?_))));iterate 2 (refine DA [] TK Q ?_)
  refine VE a λB k a=>?_;refine aU [] Q (eF TK Q Q Q Q k (by first|rfl|simp)) ?_;refine aU [0] Q (gV TK Q Q Q Q k.2 Q) (DA [] TK Q (BE a λz x a=>?_));obtain⟨b,H⟩:=z;refine aU [] Q (dX Q Q Q (wj x)) ?_;iterate 3 (refine DA [] TK Q ?_)
  refine tV [4] _ (.mptr 4 0 0 0) Q (dZ Q) Q (lL Q Q jL Q Q) (qT 1000012 [4] [(4,.box 73 [.d (.int .i64 b.id),.d (.int .i64 b.origin),.d (.int .i64 b.endV),.d (.int .i64 b.atV),.d (.sl 3 (b.steps.map Ae.enc)),.d (.sl 1 (b.Ak.map (D.int .i64))),.d (.sl 1 (b.starts.map (D.int .i64))),.d (.sl 1 (b.ends.map (D.int .i64))),.d (.sl 1 (b.done.map (D.int .i64))),.d (.int .i64 b.min),.d (.int .i64 b.sent),.d (.int .i64 b.accepted),.d (.int .i64 b.cut),.d (.int .i64 b.cutSeq)])] (dZ Q) Q (kK TK Q Q Q Q Q Q Q Q Q Q) ?_);refine DT ?_ (by kernel_rfl);refine aG 3 Q (aB [3,4,5,6,7,11,12] Q (bP 6 Q (mT a Q (λu a=>?_) (λu a=>?_))));refine aL 3 Q (IE a λJ a e=>?_);rw[g _ e]at a;refine WR (bS 1 Q ?_);obtain rfl:=OJ a;exact⟨_,[0],res Q,by decide,(kB Q),Q,Q⟩;refine aK 6 Q (VE a λC l a=>?_);refine bB Q (eF TK Q Q Q Q l (by first|rfl|simp)) ?_;exact wH (x':=b) TK Q Q Q Q Q l.2 Q Q Q (cD 3 (c.set f.toNat b).length Q zal60q.symm (cD 51 (c.set f.toNat b).length Q zal60q.symm (aF 2 Q (wL [0,1,2,3] a Q (kB Q) Q))))
 refine aL 2 Q (IE a λK a e=>?_);rw[g _ e]at a;refine WX (bS 1 Q ?_);obtain rfl:=OJ a;exact⟨_,[0],res Q,by decide,(kB Q),Q,Q⟩
theorem qx{z:Aa}{A:A1}{B:A6}{C:(List Av)}{E:Ar}{F:Int}{G:Ar}{i:(List Ap)}(a:rW z A B C E F=some (G,i)):RetT TP 8 [z.enc,A.enc,B.enc,.sl 6 (C.map Av.enc),E.enc,.int .i64 F] [G.enc,.sl 14 (i.map Ap.enc)]:=by
 refine .of (mv:=λ_=>false) (fD (aQ Q) func8 Q ntmps8 Q Q (λwX gX=>?_));unfold rW at a;refine aB [0,1,2,3,4,5] Q (aM 1 Q (bU 0 Q Q Q (bU 1 Q Q Q (bU 2 Q Q Q (bU 3 Q Q Q (cK 4 Q Q jU Q (dJ (f:=Af.enc) 4 0 5 73 14 Q Q Q (dJ (f:=Ah.enc) 4 1 6 89 4 Q Q Q (aG 3 Q (aB [3,5,6,7,8,10,12] Q (aK 2 Q (BE a λi L a=>kM Q Q Q (bj L) Q Q (oZ 19 (.agg [.msl 7 14 0 i.tracks.length,.msl 8 4 0 i.sessions.length]) Q Q (aG 3 Q (aB [3,5,6,7,8,10,12] Q (aK 3 Q (BE a λa2 M a=>bB Q (RN Q Q (SC (fP (.cons (aW Q) Q (.cons (aW Q) Q .nil))) SN) (xN M)) (aG 3 Q (bI a Q (λK a=>?_) (λK a=>?_))))))))))))))))))));refine bP 6 Q (sW 13 [some 14] Q (aB [12,13] Q (aL 2 Q ?_)));obtain⟨rfl,rfl⟩:=bJ (aS a);exact⟨_,.mk _ (.cons (.agg (TK.lay Q) Q Q Q Q) (.cons (.tmp 13) .nil)) Q,(.cons (fP (.cons (aW Q) Q (.cons (aW Q) Q .nil))) (.refl _) (.cons (.d _) (.refl _) .nil))⟩;refine aK 3 Q (iC (f:=Ap.enc) 9 68 14 Q Q Q (aG 2 Q (aB [3,5,6,7,8,10,12,14] Q (aN a (λ(n,o,p)=>([(14,.msl 9 14 0 p.length)])) (λ(n,o,p)=>([(3,.box 46 [.msl 7 14 0 n.length,.msl 8 4 0 o.length]),(7,.flat 73 14 (n.map Af.enc)),(8,.flat 89 4 (o.map Ah.enc)),(9,.flat 68 14 (p.map Ap.enc))])) [14] [10,12] Q (λa6 a=>?_) (λj a=>?_)))))
 ·refine bX 8 Q (bF a (λ(c,g,e,m)=>([(14,.msl 9 14 0 m.length),(27,.d (.int .i64 c))])) (λ(c,g,e,m)=>([(3,.box 46 [.msl 7 14 0 g.length,.msl 8 4 0 e.length]),(7,.flat 73 14 (g.map Af.enc)),(8,.flat 89 4 (e.map Ah.enc)),(9,.flat 68 14 (m.map Ap.enc))])) [14,27] [3,5,6,7,8,10,12,26] [0,1,2,3,4,5,6,7,8,9] k0 Q (λs a5 a S=>?_));obtain⟨c,g,e,m⟩:=s;refine aB [3,5,6,7,8,10,12,14,26,27] Q (bX 5 Q (bY a Q (λJ a=>?_) (λJ a=>?_)))
  ·refine bP 9 Q (bK follows ?_);iterate 6 (refine DA [0,1,2,3,4,5,6,7,8,9] TK Q ?_)
   refine VE a λW t a=>?_;refine aU [0,1,2,3,4,5,6,7,8,9] Q (eF TK Q Q Q Q t (by first|rfl|simp)) ?_;refine aU [0,1,2,3,4,5,6,7,8,9] Q (gV TK Q Q Q Q t.2 Q) (DA [0,1,2,3,4,5,6,7,8,9] TK Q (zR [0,1,2,3,4,5,6,7,8,9] a (wh ·) Q λq a=>VE a λX u a=>?_));refine aU [0,1,2,3,4,5,6,7,8,9] Q (eF TK Q Q Q Q u (by first|rfl|simp)) ?_;refine DT ?_ (by kernel_rfl);refine wH (x':=q) TK Q Q Q Q Q u.2 Q Q Q (cD 31 (g.set c.toNat q).length Q zal60q.symm (cD 34 (g.set c.toNat q).length Q zal60q.symm ?_));refine yj 3 [.msl 7 14 0 (g.set c.toNat q).length,.msl 8 4 0 e.length] Q (by simp only[zal60q]<;>rfl) ?_;refine aG 2 Q (aB [3,5,6,7,8,10,12,14,15,26,27] Q (aK 7 Q (BE a λk N a=>GE a λr a=>?_)));refine gP [7] (λ_=>false) Q Q Q (by decide) Q Q Q Q (Dv N) Q Q Q ?_;refine cD 45 k.length Q r.symm ?_;refine yj 3 [.msl 7 14 0 k.length,.msl 8 4 0 e.length] Q (by rw[<- r]<;>rfl) ?_;refine aG 2 Q (aB [3,5,6,7,8,10,12,14,15,26,27] Q (fN (fN (bK follows (DA [0] TK Q ?_)))));iterate 2 (refine DA [] TK Q ?_)
   refine DA [3] TK Q (DA [] TK Q (VE a λY v a=>?_));refine aU [] Q (eF TK Q Q Q Q v (by first|rfl|simp)) ?_;refine aU [7] Q (gV TK Q Q Q Q v.2 Q) (BE a λT O a=>?_);obtain⟨b,a3⟩:=T;refine aU [] Q (dX Q Q Q (Fu O)) ?_;iterate 3 (refine DA [] TK Q ?_)
   refine tV [10] _ (.mptr 10 0 0 0) Q (dZ Q) Q (lL Q Q jL Q Q) (tV [11] _ (.mptr 11 0 0 0) Q (dZ Q) Q (lL Q Q uV Q Q) (qT 1000022 [10] [(10,.box 73 [.d (.int .i64 b.id),.d (.int .i64 b.origin),.d (.int .i64 b.endV),.d (.int .i64 b.atV),.d (.sl 3 (b.steps.map Ae.enc)),.d (.sl 1 (b.Ak.map (D.int .i64))),.d (.sl 1 (b.starts.map (D.int .i64))),.d (.sl 1 (b.ends.map (D.int .i64))),.d (.sl 1 (b.done.map (D.int .i64))),.d (.int .i64 b.min),.d (.int .i64 b.sent),.d (.int .i64 b.accepted),.d (.int .i64 b.cut),.d (.int .i64 b.cutSeq)])] (dZ Q) Q (kK TK Q Q Q Q Q Q Q Q Q Q) ?_));refine DT ?_ (by kernel_rfl);refine aG 3 Q (aB [3,5,6,7,8,10,12,14,15,16,17,26,27] Q (aK 5 Q (VE a λZ w a=>?_)));refine bB Q (eF TK Q Q Q Q w (by first|rfl|simp)) ?_;refine wH (x':=b) TK Q Q Q Q Q w.2 Q Q Q (cD 60 (k.set c.toNat b).length Q zal60q.symm ?_);refine yj 3 [.msl 7 14 0 (k.set c.toNat b).length,.msl 8 4 0 e.length] Q (by simp only[zal60q]<;>rfl) ?_;refine aG 2 Q (aB [3,5,6,7,8,10,12,14,15,17,26,27] Q (bK follows (DA [] TK Q (DA [3] TK Q ?_))));iterate 2 (refine DA [] TK Q ?_)
   refine DA [3] TK Q (DA [] TK Q (VE a λa0 x a=>?_));refine aU [] Q (eF TK Q Q Q Q x (by first|rfl|simp)) ?_;refine aU [8] Q (gV TK Q Q Q Q x.2 Q) (DA [11] TK Q (DA [] TK Q (BE a λU P a=>?_)));obtain⟨l,V⟩:=U;refine aU [] Q (dX Q Q Q (yh P)) ?_;iterate 3 (refine DA [] TK Q ?_)
   refine VE a λa1 y a=>?_;refine aU [] Q (eF TK Q Q Q Q y (by first|rfl|simp)) ?_;refine qT 1000024 [8] [(8,.flat 89 4 ((e.set c.toNat l).map Ah.enc))] (dZ Q) Q (xx (z':=l) TK Q Q Q Q Q Q Q y.2 Q Q Q) ?_;refine DT ?_ (by kernel_rfl);refine cD 66 (e.set c.toNat l).length Q zal60q.symm (cD 69 (e.set c.toNat l).length Q zal60q.symm ?_);refine yj 3 [.msl 7 14 0 (k.set c.toNat b).length,.msl 8 4 0 (e.set c.toNat l).length] Q (by simp only[zal60q]<;>rfl) ?_;exact aG 3 Q (aB [3,5,6,7,8,10,12,14,17,26,27] Q (aK 3 Q (iE [.tmp 80] TK Q uV (GE a λH a=>fJ (f:=Ap.enc) ([V]:List Ap) TK Q Q uV Q Q Q Q Q (λh=>absurd h (pS _)) Q eC H Q Q (aG 4 Q (aB [3,5,6,7,8,10,12,14,26,27] Q (aK 1 Q (GE a λI a=>bN Q I (aF 2 Q (cA [0,1,2,3,4,5,6,7,8,9] a Q Q))))))))))
  refine aL 2 Q (IE a λa4 a R=>?_);rw[S _ R]at a;exact WX (bS 1 Q (aZ [0,1,2,3,4,5,6,7,8,9] a Q Q))
 obtain⟨n,o,p⟩:=j;refine aB [10,12,14] Q (bP 7 Q (aB [12,13] Q (aL 1 Q ?_)));obtain⟨rfl,rfl⟩:=bJ (aS a);exact⟨_,.mk _ (.cons (.agg (TK.lay Q) Q Q Q Q) (.cons (.tmp 13) .nil)) Q,(.cons (fP (.cons (aW Q) Q (.cons (aW Q) Q .nil))) (.refl _) (.cons (aW Q) (.refl _) .nil))⟩
theorem sZ  {r:Bool} (a:kT=some r):RetN TP 7 [] (.bool (r)):=by
 refine .unit (aJ (aQ Q) func7 Q ntmps7 Q Q (λwX gX=>?_)) Q;unfold kT at a;refine aB [] Q (aM 5 Q (BE a λo i a=>?_));obtain⟨x,y⟩:=o;refine bB Q (dX Q Q Q (E4 i)) (aI 3 Q (cK 0 Q Q bo Q (cK 1 Q Q xh Q (eZ 1 [some 3,none,none] Q Q (aI 5 Q (iK a (bv ·) Q λz a=>BE a λq k a=>?_))))));obtain⟨A,B⟩:=q;refine bB Q (dX Q Q Q (bh k)) (aI 3 Q (cK 2 Q Q gl Q (eZ 2 [some 14,some 1,some 1,none,none] Q Q (aG 4 Q (fN (bK follows (zR [] a (bv ·) Q λC a=>DA [0] TK Q (aU [] Q (pO [.tmp 20] TK Q Q bo Q Q Q Q Q) (DA [1] TK Q (aU [] Q (pO [.tmp 22] TK Q Q xh Q Q Q Q Q) (BE a λs l a=>?_)))))))))));obtain⟨f,u⟩:=s;refine aU [] Q (dX Q Q Q (Ci l)) ?_;iterate 3 (refine DA [] TK Q ?_)
 refine tV [3] _ (.mptr 3 0 0 0) Q (dZ Q) Q (lL Q Q jU Q Q) (qT 1000002 [3] [(3,.box 46 [.d (.sl 14 (f.tracks.map Af.enc)),.d (.sl 4 (f.sessions.map Ah.enc))])] (dZ Q) Q (kK TK Q Q Q Q Q Q Q Q Q Q) ?_);refine DT ?_ (by kernel_rfl);refine aG 3 Q (aB [3,5,6] Q (fN (bK follows (zR [] a (bv ·) Q λv a=>DA [2] TK Q (aU [] Q (bR Q plc55 C2 Q Q Q Q) (aU [] Q (bR Q plc55 C2 Q Q Q Q) (aU [] Q (pO [.tmp 30,.tmp 31] TK Q Q C2 Q Q Q Q Q) (aU [] Q (bR Q plc53 Hd Q Q Q Q) (DA [3] TK Q (BE a λp j a=>?_))))))))));obtain⟨g,w⟩:=p;refine aU [] Q (dX Q Q Q ((qx j).args ((.cons (.refl _) (.cons (.refl _) (.cons (.agg (.cons (.refl _) Q (.cons (.nil _) Q .nil))) (.cons (.nil _) (.cons (.refl _) (.cons (.refl _) .nil))))))))) ?_;iterate 3 (refine DA [] TK Q ?_)
 refine tV [4] _ (.mptr 4 0 0 0) Q (dZ Q) Q (lL Q Q jU Q Q) (qT 1000004 [4] [(4,.box 46 [.d (.sl 14 (g.tracks.map Af.enc)),.d (.sl 4 (g.sessions.map Ah.enc))])] (dZ Q) Q (kK TK Q Q Q Q Q Q Q Q Q Q) ?_);refine DT ?_ (by kernel_rfl);refine aG 3 Q (aB [6,8] Q (aN a (λb=>([(0,.d (.bool (b)))])) (λb=>[]) [0] [] Q (λE a=>?_) (λb a=>?_)));refine aM 3 Q (SB TK Q (λm c=>?_));cases m;replace a:=JF c a;exact aF 14 Q (aZ [0,1,2,3,4] a Q Q);replace a:=JT c a;refine aI 1 Q (aX TK Q (aI 2 Q (SB TK Q (λn e=>?_))));cases n;replace a:=JF e a;exact aF 9 Q (aZ [0,1,2,3,4] a Q Q);replace a:=JT e a;exact aI 1 Q (VE a λt h a=>dL TK Q h (aF 7 Q (aZ [0,1,2,3,4] a Q Q)));exact aB [0] Q (aL 1 Q (aY a Q))
theorem cW{a:Int}{b:Int}{c:Int}{r:Bool}(e:cP a b c=some r):RetN TP 69 [.int .i64 a,.int .i64 b,.int .i64 c] (.bool (r)):=by
 refine .unit (aJ (aQ Q) func69 Q ntmps69 Q Q (λwX gX=>?_)) Q;unfold cP at e;refine aB [0,1,2] Q (bX 4 Q (fC [(6,.d (.bool (((decide (b<=a))&&(decide (a<=c))))))] [6] [] Q ?_ ?_));refine aM 4 Q (SB TK Q (λg f=>?_));cases g;refine aF 6 Q ?_;exact⟨[],Q,k0,bT (aO (aP (by simp[f])) Q) Q⟩;refine aF 6 Q ?_;exact⟨[],Q,k0,bT (aO (aP (by simp[f])) Q) Q⟩;exact aB [6] Q (aL 1 Q (aY e Q))
theorem eu{a:Int}{r:Bool}(b:nY a=some r):RetN TP 127 [.int .i64 a] (.bool (r)):=by
 refine .unit (aJ (aQ Q) func127 Q ntmps127 Q Q (λwX gX=>?_)) Q;unfold nY at b;refine aB [0] Q (bX 4 Q ?_);refine fC [(2,.d (.bool (((decide (a=2))||(decide (a=3))))))] [2] [] Q ?_ ?_;refine aM 3 Q (SB TK Q (λe c=>?_));cases e;refine aF 5 Q ?_;exact⟨[],Q,k0,bT (aO (aP (by simp[c])) Q) Q⟩;refine aF 5 Q ?_;exact⟨[],Q,k0,bT (aO (aP (by simp[c])) Q) Q⟩;exact aB [2] Q (aL 1 Q (aY b Q))
theorem tT{b:Ap}{r:Bool}(a:iD b=some r):RetN TP 70 [b.enc] (.bool (r)):=by
 refine .unit (aJ (aQ Q) func70 Q ntmps70 Q Q (λwX gX=>?_)) Q;unfold iD at a;refine aB [0] Q (aM 1 Q (bU 0 Q Q Q (aI 6 Q (cK 1 Q Q gk Q (eZ 1 [none,none,some 4,some 2] Q Q (aI 7 Q (dI a (eu ·) Q λH a=>aG 3 Q (bI a Q (λu a=>?_) (λu a=>?_)))))))));refine fC [(2,.d (.bool (((decide (b.auth.seq=0))&&((decide (b.auth.endV=0))&&((decide ((b.auth.profile.length:Int)=0))&&(decide ((b.auth.links.length:Int)=0))))))))] [2] [] Q ?_ ?_
 ·refine aM 4 Q (SB TK Q (λB e=>?_));cases B;refine aF 18 Q ?_;exact⟨[0,1],Q,k0,bT (aO (aP (by first|(simp[e];done)|(simp only[e];simp))) Q) Q⟩;refine aI 4 Q (SB TK Q (λC f=>?_));cases C;refine aF 13 Q ?_;exact⟨[0,1],Q,k0,bT (aO (aP (by first|(simp[e,f];done)|(simp only[e,f];simp))) Q) Q⟩;refine aI 2 Q (aX TK Q (aI 2 Q (SB TK Q (λE n=>?_))));cases E;refine aF 7 Q ?_;exact⟨[0,1],Q,k0,bT (aO (aP (by first|(simp[e,f,n];done)|(simp only[e,f,n];simp))) Q) Q⟩;refine aI 2 Q (aX TK Q (aF 4 Q ?_));exact⟨[0,1],Q,k0,bT (aO (aP (by first|(simp[e,f,n];done)|(simp only[e,f,n];simp))) Q) Q⟩
 exact aB [2] Q (aL 2 Q (aY a Q));refine bP 3 Q (aN a (λk=>([(41,.d (.bool (k)))])) (λk=>[]) [41] [3] Q (λV a=>?_) (λk a=>?_))
 ·refine aM 3 Q (dI a (cW ·) Q λM a=>aI 1 Q (SB TK Q (λF o=>?_)));cases F;replace a:=JB o a;exact aI 2 Q (dI a (cW ·) Q λI a=>aF 3 Q (aZ [0,1] a Q Q));replace a:=JA o a;exact aF 6 Q (aZ [0,1] a Q Q)
 refine aB [3,41] Q (bI a Q (λs a=>?_) (λs a=>?_))
 ·exact aL 6 Q (aY a Q)
 refine bP 3 Q (aN a (λg=>([(51,.d (.bool (g)))])) (λg=>[]) [51] [3] Q (λR a=>?_) (λg a=>?_))
 ·refine aM 3 Q (dI a (kW ·) Q λJ a=>aI 1 Q (SB TK Q (λz l=>?_)));cases z;replace a:=JB l a;exact aI 2 Q (aX TK Q (aF 3 Q (aZ [0,1] a Q Q)));replace a:=JA l a;exact aF 6 Q (aZ [0,1] a Q Q)
 refine aB [3,51] Q (bI a Q (λt a=>?_) (λt a=>?_))
 ·exact aL 6 Q (aY a Q)
 refine bP 2 Q (cH a (λ_=>[]) (λ_=>[]) [] [] Q (λS a y=>?_) (λj a=>?_))
 ·refine aM 3 Q (aX TK Q (aG 4 Q (bF a (λh=>([(55,.d (.int .i64 h))])) (λh=>[]) [55] [53,54] [0,1] k0 Q (λh T a p=>aB [53,54,55] Q (bX 5 Q (bY a Q (λv a=>?_) (λv a=>?_)))))))
  ·refine aK 5 Q (VE a λG x a=>dL TK Q x (aI 1 Q (cK 2 Q Q yR Q (aG 3 Q (aN a (λi=>([(68,.d (.bool (i)))])) (λi=>[]) [68] [53,54,55] Q (λU a=>?_) (λi a=>?_))))))
   ·refine aM 3 Q (dI a (cW ·) Q λK a=>aI 1 Q (SB TK Q (λA m=>?_)));cases A;replace a:=JB m a;exact aI 2 Q (dI a (cW ·) Q λL a=>aF 3 Q (aZ [0,1,2] a Q Q));replace a:=JA m a;exact aF 6 Q (aZ [0,1,2] a Q Q)
   refine aB [53,54,55,68] Q (bI a Q (λw a=>?_) (λw a=>?_))
   ·refine aL 7 Q (IE a λN a c=>?_);rw[p _ c]at a;refine WR (bS 1 Q (IE a λO a c=>?_));rw[y _ c]at a;exact WR (aY a Q)
   exact aK 4 Q (GE a λq a=>bN Q q (aF 2 Q (cA [0,1] a Q Q)))
  refine aL 2 Q (IE a λP a c=>?_);rw[p _ c]at a;exact WX (bS 1 Q (cA [0,1] a Q Q))
 exact aB [] Q (aL 5 Q (aY a Q))
theorem wS{h:Ap}{r:Bool}(a:jS h=some r):RetN TP 71 [h.enc] (.bool (r)):=by
 refine .unit (aJ (aQ Q) func71 Q ntmps71 Q Q (λwX gX=>?_)) Q;unfold jS at a;refine aB [0] Q (aM 1 Q (bU 0 Q Q Q (aI 6 Q (cK 1 Q Q zero62 Q (aG 10 Q (mT a Q (λi a=>?_) (λi a=>?_)))))));exact aK 2 Q (bB Q (bR Q plc62 zero62 Q Q Q Q) (GE a λc a=>bB Q (K9 Q Q Q c.1 c.2) (aF 5 Q (aY a Q))));refine bP 2 Q (aN a (λb=>([(2,.d (.bool (b)))])) (λb=>[]) [2] [] Q (λq a=>?_) (λb a=>?_))
 ·refine aM 3 Q (dI a (cW ·) Q λo a=>SB TK Q (λk f=>?_));cases k;replace a:=JB f a;exact aF 16 Q (aZ [0,1] a Q Q);replace a:=JA f a;refine aI 2 Q (dI a (cW ·) Q λp a=>aI 1 Q (SB TK Q (λl g=>?_)));cases l;replace a:=JB g a;exact aF 11 Q (aZ [0,1] a Q Q);replace a:=JA g a;refine aI 2 Q (dI a (cW ·) Q λm a=>aI 1 Q (SB TK Q (λj e=>?_)));cases j;replace a:=JB e a;exact aF 6 Q (aZ [0,1] a Q Q);replace a:=JA e a;exact aI 2 Q (dI a (cW ·) Q λn a=>aF 3 Q (aZ [0,1] a Q Q))
 exact aB [2] Q (aL 1 Q (aY a Q))
theorem vz{j:Ap}{r:Bool}(a:nJ j=some r):RetN TP 28 [j.enc] (.bool (r)):=by
 refine .unit (aJ (aQ Q) func28 Q ntmps28 Q Q (λwX gX=>?_)) Q;unfold nJ at a;refine aB [0] Q (aM 1 Q (bU 0 Q Q Q (aG 4 Q (aN a (λb=>([(18,.d (.bool (b)))])) (λb=>[]) [18] [1] Q (λA a=>?_) (λb a=>?_)))));refine aM 3 Q (dI a (cW ·) Q λv a=>aI 1 Q (SB TK Q (λo h=>?_)));cases o;replace a:=JB h a;refine aI 2 Q (dI a (cW ·) Q λw a=>aI 2 Q (SB TK Q (λp i=>?_)));cases p;replace a:=JB i a;exact aI 2 Q (dI a (cW ·) Q λx a=>aF 3 Q (aZ [0] a Q Q));replace a:=JA i a;exact aF 6 Q (aZ [0] a Q Q);replace a:=JA h a;exact aF 12 Q (aZ [0] a Q Q);refine aB [1,18] Q (bI a Q (λl a=>?_) (λl a=>?_))
 ·exact aL 6 Q (aY a Q)
 refine bP 3 Q (aN a (λe=>([(28,.d (.bool (e)))])) (λe=>[]) [28] [1] Q (λy a=>?_) (λe a=>?_))
 ·refine aM 3 Q (dI a (cW ·) Q λq a=>aI 1 Q (SB TK Q (λm f=>?_)));cases m;replace a:=JB f a;exact aI 2 Q (dI a (cW ·) Q λs a=>aF 3 Q (aZ [0] a Q Q));replace a:=JA f a;exact aF 6 Q (aZ [0] a Q Q)
 refine aB [1,28] Q (bI a Q (λk a=>?_) (λk a=>?_))
 ·exact aL 6 Q (aY a Q)
 refine bP 2 Q (aN a (λc=>([(2,.d (.bool (c)))])) (λc=>[]) [2] [] Q (λz a=>?_) (λc a=>?_))
 ·refine aM 2 Q (dI a (tT ·) Q λt a=>SB TK Q (λn g=>?_));cases n;replace a:=JB g a;exact aF 5 Q (aZ [0] a Q Q);replace a:=JA g a;exact aI 1 Q (dI a (wS ·) Q λu a=>aF 3 Q (aZ [0] a Q Q))
 exact aB [2] Q (aL 1 Q (aY a Q))
theorem Bv{f:(List Af)}{r:List (Int×Int)}(a:oL f=some r):Ret TP 29 [] (λ_=>false) ([.sl 14 (f.map Af.enc)].map .d) (.mmap 0) [.map 3 3 (aV (D.int .i64) (D.int .i64) r)]:=by
 refine eB (aQ Q) func29 Q ntmps29 Q Q (λwX gX=>?_);unfold oL at a;refine aB [0] Q (aM 5 Q (lE 3 3 Q (oZ 8 (.mmap 0) Q Q (aG 3 Q (aN a (λc=>[]) (λc=>([(0,.map 3 3 (aV (D.int .i64) (D.int .i64) c))])) [] [3] Q (λt a=>?_) (λc a=>?_))))));refine aM 2 Q (aX TK Q (aG 4 Q (bF a (λ(e,b)=>([(11,.d (.int .i64 e))])) (λ(e,b)=>([(0,.map 3 3 (aV (D.int .i64) (D.int .i64) b))])) [11] [3,9,10] [0] k0 Q (λs u a o=>?_))));obtain⟨e,b⟩:=s;refine aB [3,9,10,11] Q (bX 5 Q (bY a Q (λl a=>?_) (λl a=>?_)));refine aK 6 Q (VE a λp m a=>dL TK Q m (aI 1 Q (cK 1 Q Q jL Q (eZ 1 [none,none,none,none,some 3,some 1,some 1,some 1,some 1,none,none,none,none,none] Q Q (aI 8 Q (GE a λg a=>bB Q (x_look (fT .i64) (D.int .i64) _ _ (0:Int) Q Ic fL Q Q Q Q g) (aG 12 Q (bI a Q (λk a=>?_) (λk a=>?_)))))))))
 ·exact aK 5 Q (GE a λh a=>bz (fT .i64) (D.int .i64) Ic Q Q Q Q h (aG 3 Q (aB [3,9,10,11] Q (aK 1 Q (GE a λi a=>bN Q i (aF 2 Q (cA [0] a Q Q)))))))
 exact bP 3 Q (aB [3,9,10,11] Q (aK 1 Q (GE a λj a=>bN Q j (aF 2 Q (cA [0] a Q Q)))));refine aL 2 Q (IE a λq a n=>?_);rw[o _ n]at a;exact WX (bS 1 Q (aZ [0] a Q Q));refine aB [3] Q (aL 6 Q ?_);obtain rfl:=OJ a;exact⟨_,[0],res Q,by decide,k0,Q,Q⟩
theorem ki{b:Ao}{c:Ap}{r:Bool}(a:lV b c=some r):RetN TP 31 [b.enc,.ptr (c.enc) 0] (.bool (r)):=by
 refine .unit (aJ (aQ Q) func31 Q ntmps31 Q Q (λwX gX=>?_)) Q;unfold lV at a;exact aB [0,1] Q (aM 1 Q (bU 0 Q Q Q (aF 13 Q (aY a Q))))
theorem tM{h:(List Ao)}{i:Ao->Option Bool}{f:D}(q:∀e r,i e=some r->∃F cs,sV f=some (F,cs)/\RetD TP F ([e.enc]++cs) (.bool (r))){r:Int}(a:fQ h i=some r):RetN TP 30 [.sl 10 (h.map Ao.enc),f] (.int .i64 r):=by
 refine .unit (aJ (aQ Q) func30 Q ntmps30 Q Q (λwX gX=>?_)) Q;unfold fQ at a;refine aB [0,1] Q (bX 4 Q (cH a (λ_=>[]) (λ_=>[]) [] [] Q (λA a t=>?_) (λj a=>?_)));refine aM 2 Q (aX TK Q (aG 4 Q (bF a (λc=>([(8,.d (.int .i64 c))])) (λc=>[]) [8] [0,1,7] [] k0 Q (λc B a g=>aB [0,1,7,8] Q (bX 5 Q (bY a Q (λl a=>?_) (λl a=>?_)))))))
 ·refine aK 13 Q (VE a λv p a=>dL TK Q p (aI 1 Q (BE a λw s a=>?_)));obtain⟨Fr7,u,n,o⟩:=q _ _ s;refine bB Q (pB Q Q n Q o) (aG 2 Q (bI a Q (λm a=>?_) (λm a=>?_)));refine aL 8 Q (IE a λz a b=>?_);rw[g _ b]at a;refine WR (bS 1 Q (IE a λx a b=>?_));rw[t _ b]at a;exact WR (aY a Q);exact aK 4 Q (GE a λk a=>bN Q k (aF 2 Q (cA [] a Q Q)))
 refine aL 2 Q (IE a λy a b=>?_);rw[g _ b]at a;exact WX (bS 1 Q (cA [] a Q Q));exact aB [] Q (aL 5 Q (aY a Q))
theorem gy{a:Int}{b:Int}{c:Int}{r:Bool}(e:oX a b c=some r):RetN TP 72 [.int .i64 a,.int .i64 b,.int .i64 c] (.bool (r)):=by
 refine .unit (aJ (aQ Q) func72 Q ntmps72 Q Q (λwX gX=>?_)) Q;unfold oX at e;refine aB [0,1,2] Q (bX 4 Q (fC [(6,.d (.bool (((decide (a<=b))&&(decide ((IntKind.u64.wrap ((IntKind.u64.wrap b)-(IntKind.u64.wrap a)))<=(IntKind.u64.wrap c)))))))] [6] [] Q ?_ ?_));refine aM 4 Q (SB TK Q (λg f=>?_));cases g;refine aF 11 Q ?_;exact⟨[],Q,k0,bT (aO (aP (by simp[f])) Q) Q⟩;refine aI 1 Q (bB Q (oU Q Tryz.underlying3 Tryz.underlying227 Q) (aI 1 Q (bB Q (oU Q Tryz.underlying3 Tryz.underlying227 Q) (bB Q (x_arK Q Q Q Q) (aI 1 Q (bB Q (oU Q Tryz.underlying3 Tryz.underlying227 Q) (aF 4 Q ?_)))))));exact⟨[],Q,k0,bT (aO (aP (by simp[f])) Q) Q⟩;exact aB [6] Q (aL 1 Q (aY e Q))
theorem yf{b:Ah}{c:Ap}{e:Int}{f:Ah}{g:Int}(a:jA b c e=some (f,g)):Ret TP 32 [] (λ_=>false) ([b.enc,c.enc,.int .i64 e].map .d) (.tup ([f.enc,.int .i64 g].map .d)) []:=by
 refine fD (aQ Q) func32 Q ntmps32 Q Q (λwX gX=>?_);unfold jA at a;refine aB [0,1,2] Q (aM 1 Q (bU 0 Q Q Q (bU 1 Q Q Q (cK 2 Q Q uU Q (aG 14 Q (mT a Q (λh a=>?_) (λh a=>?_)))))));refine aL 9 Q ?_;obtain⟨rfl,rfl⟩:=bJ (aS a);exact⟨_,.mk _ (.cons (.agg (TK.lay Q) Q Q Q Q) (.cons (.tmp 7) .nil)) Q,(.cons (.d _) (.refl _) (.cons (.d _) (.refl _) .nil))⟩;refine aK 4 Q (dI a (gy ·) Q λk a=>aG 4 Q (bI a Q (λi a=>?_) (λi a=>?_)))
 ·refine bP 6 Q (aB [6,7] Q (aL 3 Q ?_));obtain⟨rfl,rfl⟩:=bJ (aS a);exact⟨_,.mk _ (.cons (.agg (TK.lay Q) Q Q Q Q) (.cons (.tmp 7) .nil)) Q,(.cons (.d _) (.refl _) (.cons (.d _) (.refl _) .nil))⟩
 refine bP 9 Q (aB [2,3,4,6,22] Q (bY a Q (λj a=>?_) (λj a=>?_)))
 ·refine aL 9 Q ?_;obtain⟨rfl,rfl⟩:=bJ (aS a);exact⟨_,.mk _ (.cons (.agg (TK.lay Q) Q Q Q Q) (.cons (.tmp 7) .nil)) Q,(.cons (.d _) (.refl _) (.cons (.d _) (.refl _) .nil))⟩
 refine aL 20 Q ?_;obtain⟨rfl,rfl⟩:=bJ (aS a);exact⟨_,.mk _ (.cons (.agg (TK.lay Q) Q Q Q Q) (.cons (.tmp 7) .nil)) Q,(.cons (.d _) (.refl _) (.cons (.d _) (.refl _) .nil))⟩
theorem yg{a:Ah}{b:Ap}{c:Int}{d:Ah}{e:Int}(f:jA a b c=some (d,e)):RetT TP 32 [a.enc,b.enc,.int .i64 c] [d.enc,.int .i64 e]:=.of (mv:=λ_=>false) (yf f)
theorem uM{e:Ao}{f:Int}{r:Int}(a:jZ e f=some r):RetN TP 76 [e.enc,.int .i64 f] (.int .i64 r):=by
 refine .unit (aJ (aQ Q) func76 Q ntmps76 Q Q (λwX gX=>?_)) Q;unfold jZ at a;refine aB [0,1] Q (aM 1 Q (bU 0 Q Q Q (aG 4 Q (aN a (λb=>([(13,.d (.bool (b)))])) (λb=>[]) [13] [1,2] Q (λk a=>?_) (λb a=>?_)))));refine aM 3 Q (SB TK Q (λj c=>?_));cases j;replace a:=JF c a;exact aI 3 Q (GE a λg a=>bN Q g (aF 3 Q (aZ [0] a Q Q)));replace a:=JT c a;exact aF 7 Q (aZ [0] a Q Q);refine aB [1,2,13] Q (bI a Q (λi a=>?_) (λi a=>?_))
 ·exact aL 6 Q (aY a Q)
 exact aK 6 Q (GE a λh a=>bN Q h (aF 4 Q (aY a Q)))
theorem cn{e:Ao}{f:Aq}{g:Int}{r:Bool}(a:iI e f g=some r):RetN TP 74 [e.enc,f.enc,.int .i64 g] (.bool (r)):=by
 refine .unit (aJ (aQ Q) func74 Q ntmps74 Q Q (λwX gX=>?_)) Q;unfold iI at a;refine aB [0,1,2] Q (aM 1 Q (bU 0 Q Q Q (bU 1 Q Q Q (aG 3 Q (aN a (λb=>([(6,.d (.bool (b)))])) (λb=>[]) [6] [] Q (λj a=>?_) (λb a=>?_))))));refine aM 3 Q (SB TK Q (λh c=>?_));cases h;replace a:=JB c a;exact aF 9 Q (aZ [0,1] a Q Q);replace a:=JA c a;exact aI 3 Q (dI a (uM ·) Q λi a=>aF 5 Q (aZ [0,1] a Q Q));exact aB [6] Q (aL 1 Q (aY a Q))
theorem ct{b:Af}{r:Af}(a:eJ b=some r):Ret TP 60 [] (λ_=>false) ([b.enc].map .d) (.agg [.d (.int .i64 r.id),.d (.int .i64 r.origin),.d (.int .i64 r.endV),.d (.int .i64 r.atV),.d (.sl 3 (r.steps.map Ae.enc)),.d (.sl 1 (r.Ak.map (D.int .i64))),.d (.sl 1 (r.starts.map (D.int .i64))),.d (.sl 1 (r.ends.map (D.int .i64))),.msl 0 1 0 r.done.length,.d (.int .i64 r.min),.d (.int .i64 r.sent),.d (.int .i64 r.accepted),.d (.int .i64 r.cut),.d (.int .i64 r.cutSeq)]) [.flat 3 1 (r.done.map (D.int .i64))]:=by
 refine eB (aQ Q) func60 Q ntmps60 Q Q (λwX gX=>?_);unfold eJ at a;refine aB [0] Q (aM 1 Q (bU 0 Q Q Q (cK 1 Q Q jL Q (dJ (f:=(D.int .i64)) 1 8 2 3 1 Q Q Q (eZ 1 [none,none,none,none,some 3,some 1,some 1,some 1,none,none,none,none,none,none] Q Q (aI 5 Q (iK a (eR ·) Q λg a=>aI 7 Q (iK a (cB ·) Q λh a=>aI 7 Q (iK a (cB ·) Q λi a=>aI 7 Q (iK a (cB ·) Q λj a=>aG 4 Q (aB [1,2] Q (aK 3 Q (BE a λe c a=>kM Q Q Q (gI c) Q Q (oZ 21 (.msl 3 1 0 e.length) Q Q (aF 10 Q ?_)))))))))))))));obtain rfl:=OJ a;exact⟨_,[3],.mk _ (.cons (.agg (TK.lay Q) Q Q Q Q) .nil) Q,by decide,k0,Q,Q⟩
theorem wi{F:Aa}{G:A1}{H:Ao}{I:Af}{c:Aq}{r:Af}(a:nS F G H I c=some r):RetD TP 33 [F.enc,G.enc,H.enc,I.enc,c.enc] (r.enc):=by
 refine .of (mv:=λ_=>false) (aJ (aQ Q) func33 Q ntmps33 Q Q (λwX gX=>?_));unfold nS at a;refine aB [0,1,2,3,4] Q (aM 1 Q (bU 0 Q Q Q (bU 1 Q Q Q (bU 2 Q Q Q (bU 3 Q Q Q (bU 4 Q Q Q (cK 5 Q Q jL Q (dJ (f:=(D.int .i64)) 5 8 6 3 1 Q Q Q (eZ 5 [none,none,none,none,some 3,some 1,some 1,some 1,none,none,none,none,none,none] Q Q (aG 2 Q (aB [5,6,7,8,9,10] Q (aK 2 Q (BE a λb a1 a=>kM Q Q Q (ct a1) Q Q (oZ 13 (.agg [.d (.int .i64 b.id),.d (.int .i64 b.origin),.d (.int .i64 b.endV),.d (.int .i64 b.atV),.d (.sl 3 (b.steps.map Ae.enc)),.d (.sl 1 (b.Ak.map (D.int .i64))),.d (.sl 1 (b.starts.map (D.int .i64))),.d (.sl 1 (b.ends.map (D.int .i64))),.msl 7 1 0 b.done.length,.d (.int .i64 b.min),.d (.int .i64 b.sent),.d (.int .i64 b.accepted),.d (.int .i64 b.cut),.d (.int .i64 b.cutSeq)]) Q Q (aG 3 Q (aB [5,6,7,8,9,10] Q (aK 5 Q (bB Q (Dq Q Q Q Q) (aG 4 Q (aB [5,6,7,8,9,10] Q (aK 7 Q (bB Q (Dp Q Q Q Q) ?_))))))))))))))))))))));refine bB Q (Dq Q Q Q Q) (aG 4 Q (aB [5,6,7,8,9,10] Q (aN a (λ_=>[]) (λ_=>[]) [] [5,7,8,9,10] Q (λc2 a=>?_) (λj a=>?_))));refine fC [(38,.d (.bool (((!(decide (b.cutSeq=0)))&&(decide (b.cutSeq<=(max b.accepted (min b.sent c.accepted))))))))] [38] [5,6,7,8,9,10] Q ?_ ?_
 ·refine aM 4 Q (SB TK Q (λa8 C=>?_));cases a8;refine aF 7 Q ?_;exact⟨[0,1,2,3,4,5,6,7],Q,k0,bT (aO (aP (by simp[C])) Q) Q⟩;refine aF 7 Q ?_;exact⟨[0,1,2,3,4,5,6,7],Q,k0,bT (aO (aP (by simp[C])) Q) Q⟩
 refine aB [5,6,7,8,9,10,38] Q (bI a Q (λT a=>?_) (λT a=>?_))
 ·cases a
 exact r_px 1 Q (aZ [0,1,2,3,4,5,6,7] a Q Q);refine aB [5,7,8,9,10] Q (aN a (λ(m,n,o,k)=>[]) (λ(m,n,o,k)=>([(3,.box 73 [.d (.int .i64 b.id),.d (.int .i64 b.origin),.d (.int .i64 b.endV),.d (.int .i64 b.atV),.d (.sl 3 (b.steps.map Ae.enc)),.d (.sl 1 (m.map (D.int .i64))),.d (.sl 1 (n.map (D.int .i64))),.d (.sl 1 (o.map (D.int .i64))),.msl 7 1 0 k.length,.d (.int .i64 (max b.min c.min)),.d (.int .i64 b.sent),.d (.int .i64 (max b.accepted (min b.sent c.accepted))),.d (.int .i64 b.cut),.d (.int .i64 b.cutSeq)]),(7,.flat 3 1 (k.map (D.int .i64)))])) [] [5,7,8,9,10] Q (λc8 a=>?_) (λj a=>?_))
 ·refine bX 1 Q (bF a (λ(e,g,l,h)=>[]) (λ(e,g,l,h)=>([(3,.box 73 [.d (.int .i64 b.id),.d (.int .i64 b.origin),.d (.int .i64 b.endV),.d (.int .i64 b.atV),.d (.sl 3 (b.steps.map Ae.enc)),.d (.sl 1 (e.map (D.int .i64))),.d (.sl 1 (g.map (D.int .i64))),.d (.sl 1 (l.map (D.int .i64))),.msl 7 1 0 h.length,.d (.int .i64 (max b.min c.min)),.d (.int .i64 b.sent),.d (.int .i64 (max b.accepted (min b.sent c.accepted))),.d (.int .i64 b.cut),.d (.int .i64 b.cutSeq)]),(7,.flat 3 1 (h.map (D.int .i64)))])) [] [5,7,8,9,10] [0,1,2,3,4,5,6,7] k0 Q (λs c1 a a3=>?_));obtain⟨e,g,l,h⟩:=s;refine aB [5,7,8,9,10] Q (bX 1 Q (aN a (λw=>([(67,.d (.bool (w)))])) (λw=>[]) [67] [5,7,8,9,10] Q (λc3 a=>?_) (λw a=>?_)));refine fU follows ?_;iterate 2 (refine DA [0,1,2,3,4,5,6,7] TK Q ?_)
  refine aU [0,1,2,3,4,5,6,7] Q (oT TK Q Q Q) (DA [0,1,2,3,4,5,6,7] TK Q (bn [0,1,2,3,4,5,6,7] TK Q (λa5 z=>?_)));cases a5;replace a:=JF z a;iterate 20 (refine DA [0,1,2,3,4,5,6,7] TK Q ?_)
  refine DT ?_ (by kernel_rfl);exact aF 1 Q (aZ [0,1,2,3,4,5,6,7] a Q Q);replace a:=JT z a;iterate 2 (refine DA [0,1,2,3,4,5,6,7] TK Q ?_)
  refine aU [0,1,2,3,4,5,6,7] Q (oT TK Q Q Q) ?_;iterate 2 (refine DA [0,1,2,3,4,5,6,7] TK Q ?_)
  refine bn [0,1,2,3,4,5,6,7] TK Q (λa6 A=>?_);cases a6;replace a:=JF A a;iterate 14 (refine DA [0,1,2,3,4,5,6,7] TK Q ?_)
  refine DT ?_ (by kernel_rfl);exact aF 1 Q (aZ [0,1,2,3,4,5,6,7] a Q Q);replace a:=JT A a;iterate 2 (refine DA [0,1,2,3,4,5,6,7] TK Q ?_)
  refine aU [0,1,2,3,4,5,6,7] Q (oT TK Q Q Q) ?_;iterate 2 (refine DA [0,1,2,3,4,5,6,7] TK Q ?_)
  refine bn [0,1,2,3,4,5,6,7] TK Q (λa7 B=>?_);cases a7;replace a:=JF B a;iterate 8 (refine DA [0,1,2,3,4,5,6,7] TK Q ?_)
  refine DT ?_ (by kernel_rfl);exact aF 1 Q (aZ [0,1,2,3,4,5,6,7] a Q Q);replace a:=JT B a;iterate 4 (refine DA [0,1,2,3,4,5,6,7] TK Q ?_)
  refine VE a λb0 W a=>aU [0,1,2,3,4,5,6,7] Q (jQ TK Q Q Q Q W) (DA [0,1,2,3,4,5,6,7] TK Q (gA [0,1,2,3,4,5,6,7] a (cn ·) Q λb4 a=>DA [0,1,2,3,4,5,6,7] TK Q ?_));refine DT ?_ (by kernel_rfl);exact aF 1 Q (aZ [0,1,2,3,4,5,6,7] a Q Q);refine aB [5,7,8,9,10,67] Q (bI a Q (λR a=>?_) (λR a=>?_))
  ·refine bP 3 Q (aN a (λi=>[]) (λi=>([(3,.box 73 [.d (.int .i64 b.id),.d (.int .i64 b.origin),.d (.int .i64 b.endV),.d (.int .i64 b.atV),.d (.sl 3 (b.steps.map Ae.enc)),.d (.sl 1 (e.map (D.int .i64))),.d (.sl 1 (g.map (D.int .i64))),.d (.sl 1 (l.map (D.int .i64))),.msl 7 1 0 i.length,.d (.int .i64 (max b.min c.min)),.d (.int .i64 b.sent),.d (.int .i64 (max b.accepted (min b.sent c.accepted))),.d (.int .i64 b.cut),.d (.int .i64 b.cutSeq)]),(7,.flat 3 1 (i.map (D.int .i64)))])) [] [5,7,8,9,10] Q (λc4 a=>?_) (λi a=>?_))
   ·refine tZ follows ?_;iterate 4 (refine DA [0,1,2,3,4,5,6,7] TK Q ?_)
    refine VE a λb1 X a=>aU [0,1,2,3,4,5,6,7] Q (jQ TK Q Q Q Q X) (DA [0,1,2,3,4,5,6,7] TK Q (BE a λb5 a2 a=>aU [0,1,2,3,4,5,6,7] Q (RN Q Q (SC (aW Q) (hZ Q)) (iR a2)) (DA [0,1,2,3,4,5,6,7] TK Q ?_)));refine DT ?_ (by kernel_rfl);refine aG 2 Q (aB [5,7,8,9,10,75] Q (bI a Q (λS a=>?_) (λS a=>?_)));refine fN (eV follows (DA [] TK Q (DA [3] TK Q (DA [] TK Q (DA [3] TK Q (VE a λy Y a=>aU [] Q (jQ TK Q Q Q Q Y) (DA [] TK Q (aU [] Q (pO [.tmp 81] TK Q Q fL Q Q Q Q Q) (GE a λJ a=>tV [7,8] _ (.msl 8 1 0 (h++([y]:List Int)).length) Q (dZ Q) Q (xy (f:=(D.int .i64)) (xs:=h) ([y]:List Int) Q Q Q TK Q fL Q Q Q Q Q Q eC J) (DA [] TK Q ?_))))))))));refine DT ?_ (by kernel_rfl);exact aF 2 Q (aZ [0,1,2,3,4,5,6,8] a Q Q);exact aL 1 Q (aZ [0,1,2,3,4,5,6,7] a Q Q)
   refine aB [5,7,8,9,10] Q (eV follows (DA [] TK Q (DA [3] TK Q (GE a λK a=>aU [] Q (wB TK Q Q Q Q Q K) (DA [] TK Q (DA [3] TK Q (GE a λL a=>aU [] Q (wB TK Q Q Q Q Q L) (DA [] TK Q (DA [3] TK Q (GE a λM a=>aU [] Q (wB TK Q Q Q Q Q M) (DA [] TK Q (qT 1000023 [3] [(3,.box 73 [.d (.int .i64 b.id),.d (.int .i64 b.origin),.d (.int .i64 b.endV),.d (.int .i64 b.atV),.d (.sl 3 (b.steps.map Ae.enc)),.d (.sl 1 ((sub e (1:Int) (e.length:Int)).map (D.int .i64))),.d (.sl 1 (g.map (D.int .i64))),.d (.sl 1 (l.map (D.int .i64))),.msl 7 1 0 i.length,.d (.int .i64 (max b.min c.min)),.d (.int .i64 b.sent),.d (.int .i64 (max b.accepted (min b.sent c.accepted))),.d (.int .i64 b.cut),.d (.int .i64 b.cutSeq)])] (dZ Q) Q (kK TK Q Q Q Q Q Q Q Q Q Q) (DA [] TK Q (qT 1000024 [3] [(3,.box 73 [.d (.int .i64 b.id),.d (.int .i64 b.origin),.d (.int .i64 b.endV),.d (.int .i64 b.atV),.d (.sl 3 (b.steps.map Ae.enc)),.d (.sl 1 ((sub e (1:Int) (e.length:Int)).map (D.int .i64))),.d (.sl 1 ((sub g (1:Int) (g.length:Int)).map (D.int .i64))),.d (.sl 1 (l.map (D.int .i64))),.msl 7 1 0 i.length,.d (.int .i64 (max b.min c.min)),.d (.int .i64 b.sent),.d (.int .i64 (max b.accepted (min b.sent c.accepted))),.d (.int .i64 b.cut),.d (.int .i64 b.cutSeq)])] (dZ Q) Q (kK TK Q Q Q Q Q Q Q Q Q Q) (DA [] TK Q ?_)))))))))))))));refine DT ?_ (by kernel_rfl);exact aF 3 Q (cA [0,1,2,3,4,5,6,7] a Q Q)
  refine aL 2 Q (IE a λb9 a v=>?_);rw[a3 _ v]at a;exact WX (bS 1 Q (aZ [0,1,2,3,4,5,6,7] a Q Q))
 obtain⟨m,n,o,k⟩:=j;refine aB [5,7,8,9,10] Q (aN a (λ(p,q)=>[]) (λ(p,q)=>([(3,.box 73 [.d (.int .i64 b.id),.d (.int .i64 p),.d (.int .i64 b.endV),.d (.int .i64 b.atV),.d (.sl 3 (q.map Ae.enc)),.d (.sl 1 (m.map (D.int .i64))),.d (.sl 1 (n.map (D.int .i64))),.d (.sl 1 (o.map (D.int .i64))),.msl 7 1 0 k.length,.d (.int .i64 (max b.min c.min)),.d (.int .i64 b.sent),.d (.int .i64 (max b.accepted (min b.sent c.accepted))),.d (.int .i64 b.cut),.d (.int .i64 b.cutSeq)])])) [] [8,10] Q (λc5 a=>?_) (λj a=>?_));refine bX 5 Q (bI a Q (λU a=>?_) (λU a=>?_))
 ·refine aK 4 Q (dI a (uM ·) Q λb6 a=>aG 3 Q (aB [5,8,10,11] Q (bP 1 Q (bF a (λ(t,u)=>[]) (λ(t,u)=>([(3,.box 73 [.d (.int .i64 b.id),.d (.int .i64 t),.d (.int .i64 b.endV),.d (.int .i64 b.atV),.d (.sl 3 (u.map Ae.enc)),.d (.sl 1 (m.map (D.int .i64))),.d (.sl 1 (n.map (D.int .i64))),.d (.sl 1 (o.map (D.int .i64))),.msl 7 1 0 k.length,.d (.int .i64 (max b.min c.min)),.d (.int .i64 b.sent),.d (.int .i64 (max b.accepted (min b.sent c.accepted))),.d (.int .i64 b.cut),.d (.int .i64 b.cutSeq)])])) [] [5,8,10,11] [0,1,2,3,4,5,6,7] k0 Q (λs c6 a a4=>?_)))));obtain⟨t,u⟩:=s;refine aB [5,8,10,11] Q (bX 1 Q (aN a (λx=>([(119,.d (.bool (x)))])) (λx=>[]) [119] [5,8,10,11] Q (λc7 a=>?_) (λx a=>?_)));refine fU follows ?_;iterate 2 (refine DA [0,1,2,3,4,5,6,7] TK Q ?_)
  refine aU [0,1,2,3,4,5,6,7] Q (oT TK Q Q Q) (DA [0,1,2,3,4,5,6,7] TK Q (bn [0,1,2,3,4,5,6,7] TK Q (λa9 E=>?_)));cases a9;replace a:=JF E a;iterate 12 (refine DA [0,1,2,3,4,5,6,7] TK Q ?_)
  refine DT ?_ (by kernel_rfl);exact aF 1 Q (aZ [0,1,2,3,4,5,6,7] a Q Q);replace a:=JT E a;iterate 5 (refine DA [0,1,2,3,4,5,6,7] TK Q ?_)
  refine VE a λb2 Z a=>aU [0,1,2,3,4,5,6,7] Q (jQ TK Q Q Q Q Z) (DA [0,1,2,3,4,5,6,7] TK Q (gA [0,1,2,3,4,5,6,7] a (oC ·) Q λb7 a=>GE a λN a=>aU [0,1,2,3,4,5,6,7] Q (mG Q Q Q Q N) ?_));iterate 3 (refine DA [0,1,2,3,4,5,6,7] TK Q ?_)
  refine DT ?_ (by kernel_rfl);exact aF 1 Q (aZ [0,1,2,3,4,5,6,7] a Q Q);refine aB [5,8,10,11,119] Q (bI a Q (λV a=>?_) (λV a=>?_))
  ·refine bP 3 Q (bK follows ?_);iterate 5 (refine DA [0,1,2,3,4,5,6,7] TK Q ?_)
   refine VE a λb3 a0 a=>aU [0,1,2,3,4,5,6,7] Q (jQ TK Q Q Q Q a0) (DA [0,1,2,3,4,5,6,7] TK Q (gA [0,1,2,3,4,5,6,7] a (oC ·) Q λb8 a=>GE a λO a=>aU [0,1,2,3,4,5,6,7] Q (mG Q Q Q Q O) (DA [0,1,2,3,4,5,6,7] TK Q ?_)));refine DT ?_ (by kernel_rfl);exact aG 3 Q (aB [5,8,10,11] Q (aK 3 Q (GE a λP a=>bB Q (wB TK Q Q Q Q Q P) (aF 4 Q (cA [0,1,2,3,4,5,6,7] a Q Q)))))
  refine aL 2 Q (IE a λc0 a v=>?_);rw[a4 _ v]at a;exact WX (bS 1 Q (aZ [0,1,2,3,4,5,6,7] a Q Q))
 exact aL 1 Q (aZ [0,1,2,3,4,5,6,7] a Q Q);obtain⟨p,q⟩:=j;refine aB [8,10] Q (bP 5 Q (aB [10] Q (aL 1 Q ?_)));obtain rfl:=OJ a;exact EndsS.cellR _ TK Q Q Q Q Q (fP (.cons (.d _) Q (.cons (.d _) Q (.cons (.d _) Q (.cons (.d _) Q (.cons (.d _) Q (.cons (.d _) Q (.cons (.d _) Q (.cons (.d _) Q (.cons (aW Q) Q (.cons (.d _) Q (.cons (.d _) Q (.cons (.d _) Q (.cons (.d _) Q (.cons (.d _) Q .nil)))))))))))))))
theorem bk{p:Aa}{q:A1}{s:(List Ao)}{t:Ar}{c:Ap}{u:Int}{v:Ar}{w:Int}(a:fW p q s t c u=some (v,w)):RetT TP 9 [p.enc,q.enc,.sl 10 (s.map Ao.enc),t.enc,c.enc,.int .i64 u] [v.enc,.int .i64 w]:=by
 refine .of (mv:=λ_=>false) (fD (aQ Q) func9 Q ntmps9 Q Q (λwX gX=>?_));unfold fW at a;refine aB [0,1,2,3,4,5] Q (aM 1 Q (bU 0 Q Q Q (bU 1 Q Q Q (bU 2 Q Q Q (bU 3 Q Q Q (cK 4 Q Q jU Q (dJ (f:=Af.enc) 4 0 5 73 14 Q Q Q (dJ (f:=Ah.enc) 4 1 6 89 4 Q Q Q (aG 3 Q (aB [2,5,6,7,9,10,12] Q (bP 1 Q (aN a (λj=>([(31,.d (.bool (j)))])) (λj=>[]) [31] [2,5,6,7,9,10,12] Q (λW a=>?_) (λj a=>?_)))))))))))));refine aM 2 Q (dI a (xN ·) Q λU a=>aI 1 Q (SB TK Q (λJ n=>?_)));cases J;replace a:=JB n a;refine aI 4 Q (SB TK Q (λK o=>?_));cases K;replace a:=sP o a;exact aI 1 Q (dI a (vz ·) Q λV a=>aF 3 Q (aZ [0,1,2,3,4,5,6] a Q Q));replace a:=sO o a;exact aF 5 Q (aZ [0,1,2,3,4,5,6] a Q Q);replace a:=JA n a;exact aF 10 Q (aZ [0,1,2,3,4,5,6] a Q Q);refine aB [2,5,6,7,9,10,12,31] Q (bI a Q (λB a=>?_) (λB a=>?_))
 ·refine aK 1 Q (bB Q (jD Q q0 jU Q Q Q Q) (aI 1 Q (dJ (f:=Af.enc) 4 0 7 73 14 Q Q Q (dJ (f:=Ah.enc) 4 1 8 89 4 Q Q Q (aG 3 Q (aB [12,13] Q (aL 2 Q ?_)))))));obtain⟨rfl,rfl⟩:=bJ (aS a);exact⟨_,.mk _ (.cons (.agg (TK.lay Q) Q Q Q Q) (.cons (.tmp 13) .nil)) Q,(.cons (fP (.cons (aW Q) Q (.cons (aW Q) Q .nil))) (.refl _) (.cons (.d _) (.refl _) .nil))⟩
 refine bP 2 Q (fN (bK follows (DA [] TK Q (DA [2] TK Q (BE a λg I a=>tV [7] _ (.mmap 7) Q (dZ Q) Q (w_callB Q Q Q Q (Bv I) (F1 (λ_=>Q) (λ_=>Q)) (.inl ⟨Q,Q⟩) Q) (DA [] TK Q (DA [3] TK Q (GE a λx a=>aU [7] Q (x_look (fT .i64) (D.int .i64) _ _ (0:Int) Q Ic fL Q Q Q Q x) ?_))))))));iterate 4 (refine DA [] TK Q ?_)
 refine DT ?_ (by kernel_rfl);refine aG 3 Q (aB [2,5,6,7,9,10,12,14,15] Q (bP 6 Q (bI a Q (λy a=>?_) (λy a=>?_))));refine aK 1 Q (bB Q (jD Q q0 jU Q Q Q Q) (aI 1 Q (dJ (f:=Af.enc) 4 0 8 73 14 Q Q Q (dJ (f:=Ah.enc) 4 1 9 89 4 Q Q Q (aG 3 Q (aB [12,13] Q (aL 2 Q ?_)))))));obtain⟨rfl,rfl⟩:=bJ (aS a);exact⟨_,.mk _ (.cons (.agg (TK.lay Q) Q Q Q Q) (.cons (.tmp 13) .nil)) Q,(.cons (fP (.cons (aW Q) Q (.cons (aW Q) Q .nil))) (.refl _) (.cons (.d _) (.refl _) .nil))⟩;refine bP 2 Q (vn 3 Q Q Q Q Q (aK 3 Q (BE a λS F a=>bB Q (RN Q Q (hZ Q) (tM (λ_ r h=>⟨31,_,Q,(ki h).retD⟩) F)) (aG 3 Q (aB [2,5,6,7,9,10,12,14,16] Q (bP 6 Q (bY a Q (λz a=>?_) (λz a=>?_))))))))
 ·refine aK 1 Q (bB Q (jD Q q0 jU Q Q Q Q) (aI 1 Q (dJ (f:=Af.enc) 4 0 8 73 14 Q Q Q (dJ (f:=Ah.enc) 4 1 9 89 4 Q Q Q (aG 3 Q (aB [12,13] Q (aL 2 Q ?_)))))));obtain⟨rfl,rfl⟩:=bJ (aS a);exact⟨_,.mk _ (.cons (.agg (TK.lay Q) Q Q Q Q) (.cons (.tmp 13) .nil)) Q,(.cons (fP (.cons (aW Q) Q (.cons (aW Q) Q .nil))) (.refl _) (.cons (.d _) (.refl _) .nil))⟩
 refine bP 2 Q (fN (bK follows (DA [] TK Q (DA [2] TK Q (DA [] TK Q (VE a λM C a=>aU [] Q (jQ TK Q Q Q Q C) ?_))))));iterate 3 (refine DA [] TK Q ?_)
 refine BE a λL G a=>?_;obtain⟨e,T⟩:=L;refine aU [] Q (dX Q Q Q (yg G)) ?_;iterate 3 (refine DA [] TK Q ?_)
 refine tV [8] _ (.mptr 8 0 0 0) Q (dZ Q) Q (lL Q Q uU Q Q) (qT 1000002 [8] [(8,.box 89 [.d (.int .i64 e.peer),.d (.int .i64 e.out),.d (.int .i64 e.inV),.d (.int .i64 e.heard)])] (dZ Q) Q (kK TK Q Q Q Q Q Q Q Q Q Q) ?_);refine DT ?_ (by kernel_rfl);refine aG 3 Q (aB [2,6,7,9,10,12,14,16,17,18] Q (bP 6 Q (mT a Q (λA a=>?_) (λA a=>?_))));refine aK 1 Q (bB Q (jD Q q0 jU Q Q Q Q) (aI 2 Q (dJ (f:=Af.enc) 4 0 9 73 14 Q Q Q (dJ (f:=Ah.enc) 4 1 10 89 4 Q Q Q (aG 3 Q (aB [12,13] Q (aL 2 Q ?_)))))));obtain⟨rfl,rfl⟩:=bJ (aS a);exact⟨_,.mk _ (.cons (.agg (TK.lay Q) Q Q Q Q) (.cons (.tmp 13) .nil)) Q,(.cons (fP (.cons (aW Q) Q (.cons (aW Q) Q .nil))) (.refl _) (.cons (.d _) (.refl _) .nil))⟩;refine aK 4 Q (BE a λb H a=>kM Q Q Q (bj H) Q Q (oZ 67 (.agg [.msl 9 14 0 b.tracks.length,.msl 10 4 0 b.sessions.length]) Q Q (aG 3 Q (aB [2,6,7,9,10,12,14,16,17] Q (aK 5 Q (VE a λN k a=>?_))))));refine bB Q (eF TK Q Q Q Q k (by first|rfl|simp)) ?_;refine wH (x':=e) TK Q Q Q Q Q k.2 Q Q Q (cD 69 (b.sessions.set ((bH g c.fromV).getD (0:Int)).toNat e).length Q zal60q.symm ?_);refine yj 2 [.msl 9 14 0 b.tracks.length,.msl 10 4 0 (b.sessions.set ((bH g c.fromV).getD (0:Int)).toNat e).length] Q (by simp only[zal60q]<;>rfl) ?_;refine aG 2 Q (aB [2,6,7,9,10,12,14,16] Q (bK follows ?_));iterate 7 (refine DA [0,1,2,3,4,5,6,7,8,9,10] TK Q ?_)
 refine VE a λO E a=>aU [0,1,2,3,4,5,6,7,8,9,10] Q (jQ TK Q Q Q Q E) ?_;iterate 4 (refine DA [0,1,2,3,4,5,6,7,8,9,10] TK Q ?_)
 refine VE a λP l a=>?_;refine aU [0,1,2,3,4,5,6,7,8,9,10] Q (eF TK Q Q Q Q l (by first|rfl|simp)) ?_;refine aU [0,1,2,3,4,5,6,7,8,9,10] Q (gV TK Q Q Q Q l.2 Q) ?_;iterate 2 (refine DA [0,1,2,3,4,5,6,7,8,9,10] TK Q ?_)
 refine zR [0,1,2,3,4,5,6,7,8,9,10] a (wi ·) Q λi a=>VE a λR m a=>?_;refine aU [0,1,2,3,4,5,6,7,8,9,10] Q (eF TK Q Q Q Q m (by first|rfl|simp)) ?_;refine DT ?_ (by kernel_rfl);refine wH (x':=i) TK Q Q Q Q Q m.2 Q Q Q (cD 74 (b.tracks.set ((bH g c.fromV).getD (0:Int)).toNat i).length Q zal60q.symm (cD 83 (b.tracks.set ((bH g c.fromV).getD (0:Int)).toNat i).length Q zal60q.symm ?_));refine yj 2 [.msl 9 14 0 (b.tracks.set ((bH g c.fromV).getD (0:Int)).toNat i).length,.msl 10 4 0 (b.sessions.set ((bH g c.fromV).getD (0:Int)).toNat e).length] Q (by simp only[zal60q]<;>rfl) ?_;refine aG 2 Q (aB [9,12] Q (bP 6 Q (aB [12,13] Q (aL 1 Q ?_))));obtain⟨rfl,rfl⟩:=bJ (aS a);exact⟨_,.mk _ (.cons (.agg (TK.lay Q) Q Q Q Q) (.cons (.tmp 13) .nil)) Q,(.cons (fP (.cons (aW Q) Q (.cons (aW Q) Q .nil))) (.refl _) (.cons (.d _) (.refl _) .nil))⟩
theorem fb{c:(List Int)}{r:(List Int)}(a:qB c=some r):RetD TP 78 [.sl 1 (c.map (D.int .i64))] (.sl 1 (r.map (D.int .i64))):=by
 refine .of (mv:=λ_=>false) (aJ (aQ Q) func78 Q ntmps78 Q Q (λwX gX=>?_));unfold qB at a;refine aB [0] Q (aM 6 Q (BE a λb f a=>kM Q Q Q (gI f) Q Q (oZ 5 (.msl 0 1 0 b.length) Q Q (aI 5 Q (GE a λd a=>?_)))));refine vL [0] Q Q Q (by simp) Q Q Q (oW b d) Q Q ?_;refine cD 3 (kF b).length Q (fO _).symm (cD 6 (kF b).length Q (fO _).symm (aI 4 Q (GE a λe a=>?_)));refine oZ 8 (.msl 0 1 0 (kF b).length) Q (by first|rfl|simp[Fr.get,iY,fO]) ?_;refine vL [0] Q Q Q (by simp) Q Q Q (qM (kF b) e) Q Q ?_;refine aF 4 Q ?_;obtain rfl:=OJ a;exact EndsS.one _ Q (aW Q) (.refl _)
theorem fa{x:(List Int)}{y:(List Int)}{z:Bool->Bool->Option Bool}{p:D}(S:∀n o r,z n o=some r->∃F cs,sV p=some (F,cs)/\RetD TP F ([.bool (n),.bool (o)]++cs) (.bool (r))){r:(List Int)}(a:oA x y z=some r):RetD TP 77 [.sl 1 (x.map (D.int .i64)),.sl 1 (y.map (D.int .i64)),p] (.sl 1 (r.map (D.int .i64))):=by
 refine .of (mv:=λ_=>false) (aJ (aQ Q) func77 Q ntmps77 Q Q (λwX gX=>?_));unfold oA at a;refine aB [0,1,2] Q (aM 5 Q (iC (f:=(D.int .i64)) 0 3 1 Q Q Q (aG 2 Q (aN a (λc=>([(7,.msl 0 1 0 c.length)])) (λc=>([(0,.flat 3 1 (c.map (D.int .i64)))])) [7] [] Q (λb2 a=>?_) (λc a=>?_)))));refine bX 1 Q (bF a (λ(b,g,e)=>([(0,.d (.sl 1 (b.map (D.int .i64)))),(1,.d (.sl 1 (g.map (D.int .i64)))),(7,.msl 0 1 0 e.length)])) (λ(b,g,e)=>([(0,.flat 3 1 (e.map (D.int .i64)))])) [0,1,7] [2] [0] k0 Q (λs b0 a V=>?_));obtain⟨b,g,e⟩:=s;refine aB [0,1,2,7] Q (bX 1 Q ?_);refine fC [(18,.d (.bool (((decide (0<(b.length:Int)))||(decide (0<(g.length:Int)))))))] [18] [0,1,2,7] Q ?_ ?_;refine aM 2 Q (aX TK Q (aI 1 Q (SB TK Q (λW q=>?_))));cases W;refine aI 1 Q (aX TK Q (aF 3 Q ?_));exact⟨[0],Q,k0,bT (aO (aP (by first|(simp[q];done)|(simp only[q];simp))) Q) Q⟩;refine aF 5 Q ?_;exact⟨[0],Q,k0,bT (aO (aP (by first|(simp[q];done)|(simp only[q];simp))) Q) Q⟩;refine aB [0,1,2,7,18] Q (bI a Q (λE a=>?_) (λE a=>?_))
 ·refine bP 3 Q (aN a (λinA14=>([(8,.d (.bool (inA14)))])) (λinA14=>[]) [8] [0,1,2,7] Q (λb1 a=>?_) (λinA14 a=>?_))
  ·refine fU follows (DA [0] TK Q (aU [0] Q (oT TK Q Q Q) (DA [0] TK Q (bn [0] TK Q (λX t=>?_)))));cases X;replace a:=JF t a;iterate 13 (refine DA [0] TK Q ?_)
   refine DT ?_ (by kernel_rfl);exact aF 2 Q (aZ [0] a Q Q);replace a:=JT t a;refine DA [0] TK Q (aU [0] Q (oT TK Q Q Q) (DA [0] TK Q (bn [0] TK Q (λY u=>?_))));cases Y;replace a:=JF u a;refine DA [0] TK Q (VE a λa2 L a=>aU [0] Q (jQ TK Q Q Q Q L) ?_);iterate 2 (refine DA [0] TK Q ?_)
   refine VE a λa3 M a=>aU [0] Q (jQ TK Q Q Q Q M) ?_;iterate 4 (refine DA [0] TK Q ?_)
   refine DT ?_ (by kernel_rfl);exact aF 2 Q (aZ [0] a Q Q);replace a:=JT u a;iterate 9 (refine DA [0] TK Q ?_)
   refine DT ?_ (by kernel_rfl);exact aF 2 Q (aZ [0] a Q Q)
  refine aB [0,1,2,7,8] Q (aN a (λinB20=>([(9,.d (.bool (inB20)))])) (λinB20=>[]) [9] [0,1,2,7,8] Q (λb3 a=>?_) (λinB20 a=>?_))
  ·refine fU follows (DA [0] TK Q (aU [0] Q (oT TK Q Q Q) (DA [0] TK Q (bn [0] TK Q (λZ v=>?_)))));cases Z;replace a:=JF v a;iterate 13 (refine DA [0] TK Q ?_)
   refine DT ?_ (by kernel_rfl);exact aF 2 Q (aZ [0] a Q Q);replace a:=JT v a;refine DA [0] TK Q (aU [0] Q (oT TK Q Q Q) (DA [0] TK Q (bn [0] TK Q (λa0 w=>?_))));cases a0;replace a:=JF w a;refine DA [0] TK Q (VE a λa4 N a=>aU [0] Q (jQ TK Q Q Q Q N) ?_);iterate 2 (refine DA [0] TK Q ?_)
   refine VE a λa5 O a=>aU [0] Q (jQ TK Q Q Q Q O) ?_;iterate 4 (refine DA [0] TK Q ?_)
   refine DT ?_ (by kernel_rfl);exact aF 2 Q (aZ [0] a Q Q);replace a:=JT w a;iterate 9 (refine DA [0] TK Q ?_)
   refine DT ?_ (by kernel_rfl);exact aF 2 Q (aZ [0] a Q Q)
  refine aB [0,1,2,7,8,9] Q (bP 4 Q (aN a (λ(k,m)=>([(0,.d (.sl 1 (k.map (D.int .i64)))),(10,.d (.int .i64 m))])) (λ(k,m)=>[]) [0,10] [1,2,7,8,9] Q (λb4 a=>?_) (λj a=>?_)))
  ·refine bX 4 Q (bI a Q (λG a=>?_) (λG a=>?_))
   ·refine eV follows (DA [0] TK Q (VE a λa6 P a=>aU [0] Q (jQ TK Q Q Q Q P) ?_));iterate 2 (refine DA [0] TK Q ?_)
    refine GE a λA a=>aU [0] Q (wB TK Q Q Q Q Q A) (DA [0] TK Q ?_);refine DT ?_ (by kernel_rfl);exact aF 2 Q (aZ [0] a Q Q)
   exact aL 1 Q (aZ [0] a Q Q)
  obtain⟨k,m⟩:=j;refine aB [0,1,2,7,8,9,10] Q (aN a (λ(l,i)=>([(1,.d (.sl 1 (l.map (D.int .i64)))),(10,.d (.int .i64 i))])) (λ(l,i)=>[]) [1,10] [0,2,7,8,9] Q (λb5 a=>?_) (λj a=>?_));refine bX 4 Q (bI a Q (λH a=>?_) (λH a=>?_))
  ·refine eV follows (DA [0] TK Q (VE a λa7 R a=>aU [0] Q (jQ TK Q Q Q Q R) ?_));iterate 2 (refine DA [0] TK Q ?_)
   refine GE a λB a=>aU [0] Q (wB TK Q Q Q Q Q B) (DA [0] TK Q ?_);refine DT ?_ (by kernel_rfl);exact aF 2 Q (aZ [0] a Q Q)
  exact aL 1 Q (aZ [0] a Q Q);obtain⟨l,i⟩:=j;refine aB [0,1,2,7,8,9,10] Q (aK 4 Q (BE a λa8 T a=>?_));obtain⟨Fr38,a1,J,K⟩:=S _ _ _ T;refine bB Q (pB Q Q J Q K) (aG 2 Q (bI a Q (λI a=>?_) (λI a=>?_)));exact aK 3 Q (iE [.tmp 70] TK Q fL (GE a λC a=>fJ (f:=(D.int .i64)) ([i]:List Int) TK Q Q fL Q Q Q Q Q (λh=>absurd h (pS _)) Q eC C Q Q (aF 3 Q (cA [0] a Q Q))));exact aL 2 Q (cA [0] a Q Q)
 refine aL 2 Q (IE a λa9 a U=>?_);rw[V _ U]at a;exact WX (bS 1 Q (aZ [0] a Q Q));refine aB [7] Q (aL 6 Q ?_);obtain rfl:=OJ a;exact EndsS.one _ Q (aW Q) (.refl _)
theorem kz{a:Bool}{b:Bool}{r:Bool}(c:pG a b=some r):RetN TP 79 [.bool (a),.bool (b)] (.bool (r)):=by
 refine .unit (aJ (aQ Q) func79 Q ntmps79 Q Q (λwX gX=>?_)) Q;unfold pG at c;refine aB [0,1] Q (bX 4 Q (fC [(4,.d (.bool ((a&&(!(b))))))] [4] [] Q ?_ ?_));refine aM 2 Q (SB TK Q (λf e=>?_));cases f;refine aF 5 Q ?_;exact⟨[],Q,k0,bT (aO (aP (by simp[e])) Q) Q⟩;refine aF 5 Q ?_;exact⟨[],Q,k0,bT (aO (aP (by simp[e])) Q) Q⟩;exact aB [4] Q (aL 1 Q (aY c Q))
theorem B5{b:(List Int)}{c:(List Int)}{r:(List Int)}(a:tF b c=some r):RetD TP 34 [.sl 1 (b.map (D.int .i64)),.sl 1 (c.map (D.int .i64))] (.sl 1 (r.map (D.int .i64))):=by
 refine .of (mv:=λ_=>false) (aJ (aQ Q) func34 Q ntmps34 Q Q (λwX gX=>?_));unfold tF at a;refine aB [0,1] Q (aM 6 Q (iK a (fb ·) Q λf a=>aI 1 Q (iK a (fb ·) Q λg a=>BE a λi e a=>bB Q (RD Q Q Q (fa (λ_ _ r h=>⟨79,_,Q,(kz h).retD⟩) e)) (aF 4 Q ?_))));obtain rfl:=OJ a;exact EndsS.one _ Q (.d _) (.refl _)
theorem y9{b:(List Int)}{c:(List Int)}{r:Bool}(a:pF b c=some r):RetN TP 10 [.sl 1 (b.map (D.int .i64)),.sl 1 (c.map (D.int .i64))] (.bool (r)):=by
 refine .unit (aJ (aQ Q) func10 Q ntmps10 Q Q (λwX gX=>?_)) Q;unfold pF at a;exact aB [0,1] Q (aM 7 Q (iK a (B5 ·) Q λd a=>aX TK Q (aF 5 Q (aY a Q))))
theorem vu{W:Fd}{X:(List (List Int))}{Y:(List Aq)}{Z:(List Bool)}{r:Bool}(a:nE W X Y Z=some r):Ret TP 3 [] (λ_=>false) ([W.enc,.sl 1 (X.map (λ(l:List Int)=>D.sl 1 (l.map (D.int .i64)))),.sl 5 (Y.map Aq.enc),.sl 1 (Z.map D.bool)].map .d) (.d (.bool (r))) []:=by
 refine aJ (aQ Q) func3 Q ntmps3 Q Q (λwX gX=>?_);unfold nE at a;refine aB [0,1,2,3] Q (aM 1 Q (bU 0 Q Q Q (aI 6 Q (BE a λe9 c9 a=>?_))));obtain⟨g4,g5⟩:=e9;refine bB Q (dX Q Q Q (bh c9)) (aI 3 Q (cK 1 Q Q gl Q (eZ 1 [some 14,some 1,some 1,none,none] Q Q (aI 11 Q (BE a λf0 d2 a=>?_)))));obtain⟨g6,g9⟩:=f0;refine bB Q (dX Q Q Q (Ci d2)) (aI 3 Q (cK 2 Q Q jU Q (eZ 2 [some 14,some 4] Q Q (aG 4 Q (aB [1,2,3,4,9,10,11,12] Q (bP 1 Q (aN a (λI=>([(74,.d (.bool (I)))])) (λI=>[]) [74] [1,2,3,4,9,11] Q (λj0 a=>?_) (λI a=>?_))))))));refine aM 2 Q (dI a (E5 ·) Q λh2 a=>aI 1 Q (SB TK Q (λe0 L=>?_)));cases e0;replace a:=JB L a;refine aI 3 Q (SB TK Q (λe1 M=>?_));cases e1;replace a:=sP M a;refine aI 3 Q (SB TK Q (λe2 N=>?_));cases e2;replace a:=sP N a;refine aI 1 Q (aX TK Q (aI 2 Q (SB TK Q (λe3 O=>?_))));cases e3;replace a:=JF O a;refine aI 1 Q (aX TK Q (aI 2 Q (SB TK Q (λe4 P=>?_))));cases e4;replace a:=JF P a;refine aI 2 Q (aX TK Q (aI 2 Q (SB TK Q (λe5 R=>?_))));cases e5;replace a:=JF R a;exact aI 2 Q (aX TK Q (aF 3 Q (aZ [0,1,2] a Q Q)));replace a:=JT R a;exact aF 6 Q (aZ [0,1,2] a Q Q);replace a:=JT P a;exact aF 12 Q (aZ [0,1,2] a Q Q);replace a:=JT O a;exact aF 17 Q (aZ [0,1,2] a Q Q);replace a:=sO N a;exact aF 22 Q (aZ [0,1,2] a Q Q);replace a:=sO M a;exact aF 26 Q (aZ [0,1,2] a Q Q);replace a:=JA L a;exact aF 30 Q (aZ [0,1,2] a Q Q);refine aB [1,2,3,4,9,11,74] Q (bI a Q (λb3 a=>?_) (λb3 a=>?_))
 ·exact aK 1 Q (BE a λg3 d1 a=>bB Q (RN Q Q SN (sZ d1)) (aF 5 Q (aY a Q)))
 refine bP 2 Q (aN a (λ(e,i)=>[]) (λ(e,i)=>([(2,.box 46 [.d (.sl 14 (e.map Af.enc)),.d (.sl 4 (i.map Ah.enc))])])) [] [2,3,4,9,11] Q (λi3 a=>?_) (λj a=>?_))
 ·refine aM 2 Q (aX TK Q (aG 4 Q (bF a (λ(F,o,p)=>([(78,.d (.int .i64 F))])) (λ(F,o,p)=>([(2,.box 46 [.d (.sl 14 (o.map Af.enc)),.d (.sl 4 (p.map Ah.enc))])])) [78] [1,2,3,4,9,11,77] [0,1,2] k0 Q (λs i4 a d7=>?_))));obtain⟨F,o,p⟩:=s;refine aB [1,2,3,4,9,11,77,78] Q (bX 5 Q (bY a Q (λb4 a=>?_) (λb4 a=>?_)))
  ·refine bP 2 Q (aN a (λ(q,t)=>[]) (λ(q,t)=>([(2,.box 46 [.d (.sl 14 (q.map Af.enc)),.d (.sl 4 (t.map Ah.enc))])])) [] [1,2,3,4,9,11,77,78] Q (λi5 a=>?_) (λj a=>?_))
   ·refine aM 9 Q (aX TK Q (GE a λa1 a=>s_mkO (f:=At.enc) (x:=(⟨(0:Int),(0:Int),(0:Int)⟩:At)) 3 TK Q Q Q C2 Q Q Q Q Q a1 Q (bB Q (jD Q plc53 Hd Q Q Q Q) (cK 4 Q Q Hd Q (dJ (f:=At.enc) 4 0 5 55 3 Q Q Q (eZ 4 [none,some 1] Q Q (aI 1 Q (eZ 4 [none,some 1] Q Q (aG 2 Q (aB [1,2,3,4,9,11,13,14,77,78] Q (aN a (λh=>[]) (λh=>([(3,.flat 55 3 (h.map At.enc)),(4,.box 53 [.msl 3 3 0 h.length,.d (.sl 1 (([]:List Int).map (D.int .i64)))])])) [] [1,2,3,4,9,11,13,14,77,78] Q (λi6 a=>?_) (λh a=>?_))))))))))))
    ·refine tZ follows ?_;iterate 2 (refine DA [0,1,2,3,4,5] TK Q ?_)
     refine VE a λf6 c3 a=>aU [0,1,2,3,4,5] Q (jQ TK Q Q Q Q c3) ?_;iterate 3 (refine DA [0,1,2,3,4,5] TK Q ?_)
     refine VE a λf7 c4 a=>aU [0,1,2,3,4,5] Q (jQ TK Q Q Q Q c4) (DA [0,1,2,3,4,5] TK Q (aU [0,1,2,3,4,5] Q (oT TK Q Q Q) (aU [0,1,2,3,4,5] Q (Dp Q Q Q Q) (GE a λa2 a=>aU [0,1,2,3,4,5] Q (wB TK Q Q Q Q Q a2) (aU [0,1,2,3,4,5] Q (oT TK Q Q Q) (DA [0,1,2,3,4,5] TK Q ?_))))));refine DT ?_ (by kernel_rfl);refine aG 3 Q (bF a (λ(G,c)=>([(98,.d (.int .i64 G))])) (λ(G,c)=>([(3,.flat 55 3 (c.map At.enc)),(4,.box 53 [.msl 3 3 0 c.length,.d (.sl 1 (([]:List Int).map (D.int .i64)))])])) [98] [1,2,3,4,9,11,13,14,77,78,96,97] [0,1,2,3,4,5] k0 Q (λs i7 a d8=>?_));obtain⟨G,c⟩:=s;refine aB [1,2,3,4,9,11,13,14,77,78,96,97,98] Q (bX 5 Q (bY a Q (λb5 a=>?_) (λb5 a=>?_)))
     ·refine aK 5 Q (VE a λn c5 a=>dL TK Q c5 (aG 4 Q (fC [(110,.d (.bool (((decide (0<=n))&&(decide (n<(c.length:Int)))))))] [110] [1,2,3,4,9,11,13,14,16,77,78,96,97,98] Q ?_ ?_)))
      ·refine aM 3 Q (SB TK Q (λe6 S=>?_));cases e6;refine aF 7 Q ?_;exact⟨[0,1,2,3,4,5],Q,k0,bT (aO (aP (by simp[S])) Q) Q⟩;refine aF 7 Q ?_;exact⟨[0,1,2,3,4,5],Q,k0,bT (aO (aP (by simp[S])) Q) Q⟩
      refine aB [1,2,3,4,9,11,13,14,16,77,78,96,97,98,110] Q (bI a Q (λb6 a=>?_) (λb6 a=>?_))
      ·refine aK 4 Q (VE a λg K a=>?_);refine bB Q (eF TK Q Q Q Q K (by first|rfl|simp)) ?_;refine aI 1 Q (wH (x':=(⟨(2:Int),g.rel,g.timer⟩:At)) TK Q Q Q Q Q K.2 Q Q Q (cD 112 (c.set n.toNat (⟨(2:Int),g.rel,g.timer⟩:At)).length Q zal60q.symm ?_));refine yj 4 [.msl 3 3 0 (c.set n.toNat (⟨(2:Int),g.rel,g.timer⟩:At)).length,.d (.sl 1 (([]:List Int).map (D.int .i64)))] Q (by simp only[zal60q]<;>rfl) ?_;exact aG 3 Q (aB [1,2,3,4,9,11,13,14,77,78,96,97,98] Q (aK 1 Q (GE a λa3 a=>bN Q a3 (aF 2 Q (cA [0,1,2,3,4,5] a Q Q)))))
      exact aK 4 Q (GE a λa4 a=>bN Q a4 (aF 2 Q (cA [0,1,2,3,4,5] a Q Q)))
     refine aL 2 Q (IE a λh8 a b=>?_);rw[d8 _ b]at a;exact WX (bS 1 Q (aZ [0,1,2,3,4,5] a Q Q))
    refine aB [1,2,3,4,9,11,13,14,77,78] Q ?_;refine zu 4 0 3 [1,2,3,4,9,11,13,14,77,78] Q Q Q Q Q Q (by simp) Q Q Q ?_;refine aK 7 Q (BE a λf1 d3 a=>?_);obtain⟨g7,g8⟩:=f1;exact bB Q (dX Q Q Q ((qx d3).args ((.cons (.refl _) (.cons (.refl _) (.cons (.refl _) (.cons (.nil _) (.cons (.refl _) (.cons (.refl _) .nil))))))))) (aF 6 Q (aZ [0,1,2] a Q Q))
   obtain⟨q,t⟩:=j;exact aB [1,2,3,4,9,11,77,78] Q (aK 1 Q (GE a λa5 a=>bN Q a5 (aF 2 Q (cA [0,1,2] a Q Q))))
  refine aL 2 Q (IE a λh9 a b=>?_);rw[d7 _ b]at a;exact WX (bS 1 Q (aZ [0,1,2] a Q Q))
 obtain⟨e,i⟩:=j;refine aB [2,3,4,9,11] Q (fN (fN (bK follows ?_)));iterate 2 (refine DA [2] TK Q ?_)
 refine tV [3] _ (.mptr 3 0 0 0) Q (dZ Q) Q (lL Q Q jU Q Q) (tV [4] _ (.mptr 4 0 0 0) Q (dZ Q) Q (lL Q Q jU Q Q) (qT 1000002 [3] [(3,.box 46 [.d (.sl 14 (e.map Af.enc)),.d (.sl 4 (i.map Ah.enc))])] (dZ Q) Q (kK TK Q Q Q Q Q Q Q Q Q Q) ?_));refine DT ?_ (by kernel_rfl);refine aG 3 Q (aB [2,3,4,9,11,17,18] Q (aN a (λ(k,u,m,v)=>[]) (λ(k,u,m,v)=>([(3,.box 46 [.d (.sl 14 (k.map Af.enc)),.d (.sl 4 (u.map Ah.enc))]),(4,.box 46 [.d (.sl 14 (m.map Af.enc)),.d (.sl 4 (v.map Ah.enc))])])) [] [11,17,18] Q (λi8 a=>?_) (λj a=>?_)));refine aM 2 Q (aX TK Q (aG 4 Q (bF a (λ(H,w,y,z,A)=>([(132,.d (.int .i64 H))])) (λ(H,w,y,z,A)=>([(3,.box 46 [.d (.sl 14 (w.map Af.enc)),.d (.sl 4 (y.map Ah.enc))]),(4,.box 46 [.d (.sl 14 (z.map Af.enc)),.d (.sl 4 (A.map Ah.enc))])])) [132] [2,3,4,9,11,17,18,131] [0,1,2,3,4] k0 Q (λs i9 a d9=>?_))));obtain⟨H,w,y,z,A⟩:=s;refine aB [2,3,4,9,11,17,18,131,132] Q (bX 5 Q (bY a Q (λb7 a=>?_) (λb7 a=>?_)));refine bP 9 Q (fN (bK follows (DA [] TK Q (DA [0] TK Q (VE a λf8 c6 a=>aU [] Q (jQ TK Q Q Q Q c6) ?_)))));iterate 3 (refine DA [] TK Q ?_)
 refine GE a λa6 a=>aU [] Q (mG Q Q Q Q a6) ?_;iterate 2 (refine DA [] TK Q ?_)
 refine VE a λf9 c7 a=>aU [] Q (jQ TK Q Q Q Q c7) (DA [] TK Q (aU [] Q (bR Q plc68 uV Q Q Q Q) (tV [5] _ (.mptr 5 0 0 0) Q (dZ Q) Q (lL Q Q uV Q Q) ?_)));refine DT ?_ (by kernel_rfl);refine aI 1 Q (eZ 5 [none,none,none,none,none,none,none,some 4,some 2,none,none,none,none,none] Q Q (aG 2 Q (aB [2,3,4,9,11,17,18,19,20,131,132] Q (aN a (λ(B,C)=>[]) (λ(B,C)=>([(3,.box 46 [.d (.sl 14 (B.map Af.enc)),.d (.sl 4 (C.map Ah.enc))])])) [] [2,3,4,9,11,17,18,19,20,131,132] Q (λj1 a=>?_) (λj a=>?_)))));refine aM 8 Q (BE a λf2 d4 a=>?_);obtain⟨h0,h1⟩:=f2;refine bB Q (dX Q Q Q (bk d4)) (aI 3 Q (cK 6 Q Q jU Q (eZ 6 [some 14,some 4] Q Q (aG 4 Q (aB [2,3,4,9,11,17,18,19,20,21,22,131,132] Q (bP 5 Q (bY a Q (λb8 a=>?_) (λb8 a=>?_))))))));exact aL 4 Q (aZ [0,1,2,3,4,5] a Q Q);exact aL 1 Q (aZ [0,1,2,3,4,5] a Q Q);obtain⟨B,C⟩:=j;refine aB [2,3,4,9,11,17,18,19,20,131,132] Q (bP 1 Q (aN a (λJ=>([(170,.d (.bool (J)))])) (λJ=>[]) [170] [2,3,4,9,11,17,18,20,131,132] Q (λj2 a=>?_) (λJ a=>?_)));refine aM 3 Q (aX TK Q (aI 1 Q (SB TK Q (λe7 T=>?_))));cases e7;replace a:=JF T a;exact aF 6 Q (aZ [0,1,2,3,4,5] a Q Q);replace a:=JT T a;exact aI 2 Q (VE a λg0 c8 a=>dL TK Q c8 (aF 3 Q (aZ [0,1,2,3,4,5] a Q Q)));refine aB [2,3,4,9,11,17,18,20,131,132,170] Q (bI a Q (λb9 a=>?_) (λb9 a=>?_))
 ·exact aK 5 Q (GE a λa7 a=>bN Q a7 (aF 2 Q (cA [0,1,2,3,4] a Q Q)))
 refine aK 10 Q (BE a λf3 d5 a=>?_);obtain⟨h3,h4⟩:=f3;refine bB Q (dX Q Q Q (bk d5)) (aI 3 Q (cK 6 Q Q jU Q (eZ 6 [some 14,some 4] Q Q (aG 4 Q (aB [2,3,4,9,11,17,18,23,24,131,132] Q (bP 5 Q (bY a Q (λc0 a=>?_) (λc0 a=>?_))))))));exact bP 6 Q (aB [2,3,4,9,11,17,18,131,132] Q (aK 1 Q (GE a λa8 a=>bN Q a8 (aF 2 Q (cA [0,1,2,3,4] a Q Q)))));exact aK 4 Q (GE a λa9 a=>bN Q a9 (aF 2 Q (cA [0,1,2,3,4] a Q Q)));refine aL 2 Q (IE a λi0 a b=>?_);rw[d9 _ b]at a;exact WX (bS 1 Q (aZ [0,1,2,3,4] a Q Q));obtain⟨k,u,m,v⟩:=j;refine aB [11,17,18] Q (bP 1 Q ?_);refine fC [(201,.d (.bool (((!(decide ((k.length:Int)=(e.length:Int))))||(!(decide ((m.length:Int)=(e.length:Int))))))))] [201] [17,18] Q ?_ ?_;refine aM 3 Q (aX TK Q (aI 2 Q (aX TK Q (aI 1 Q (SB TK Q (λe8 U=>?_))))));cases e8;refine aI 2 Q (aX TK Q (aI 2 Q (aX TK Q (aF 3 Q ?_))));exact⟨[0,1,2,3,4],Q,k0,bT (aO (aP (by simp[U])) Q) Q⟩;refine aF 9 Q ?_;exact⟨[0,1,2,3,4],Q,k0,bT (aO (aP (by simp[U])) Q) Q⟩;refine aB [17,18,201] Q (bI a Q (λb0 a=>?_) (λb0 a=>?_))
 ·exact aL 6 Q (aY a Q)
 refine bP 2 Q (cH a (λ_=>[]) (λ_=>[]) [] [] Q (λi1 a d6=>?_) (λj a=>?_))
 ·refine aM 3 Q (aX TK Q (aG 4 Q (bF a (λE=>([(205,.d (.int .i64 E))])) (λE=>[]) [205] [17,18,204] [0,1,2,3,4] k0 Q (λE i2 a V=>aB [17,18,204,205] Q (bX 5 Q (bY a Q (λb1 a=>?_) (λb1 a=>?_)))))))
  ·refine bP 9 Q (bK follows ?_);iterate 3 (refine DA [0,1,2,3,4] TK Q ?_)
   refine VE a λf4 c1 a=>aU [0,1,2,3,4] Q (jQ TK Q Q Q Q c1) ?_;iterate 5 (refine DA [0,1,2,3,4] TK Q ?_)
   refine VE a λf5 c2 a=>aU [0,1,2,3,4] Q (jQ TK Q Q Q Q c2) ?_;iterate 2 (refine DA [0,1,2,3,4] TK Q ?_)
   refine gA [0,1,2,3,4] a (y9 ·) Q λg1 a=>DA [0,1,2,3,4] TK Q ?_;refine DT ?_ (by kernel_rfl);refine aG 2 Q (aB [17,18,204,205,221] Q (bI a Q (λb2 a=>?_) (λb2 a=>?_)));refine aL 7 Q (IE a λh5 a b=>?_);rw[V _ b]at a;refine WR (bS 1 Q (IE a λh6 a b=>?_));rw[d6 _ b]at a;exact WR (aY a Q);exact aK 4 Q (GE a λa0 a=>bN Q a0 (aF 2 Q (cA [0,1,2,3,4] a Q Q)))
  refine aL 2 Q (IE a λh7 a b=>?_);rw[V _ b]at a;exact WX (bS 1 Q (cA [0,1,2,3,4] a Q Q))
 exact aB [] Q (aK 1 Q (BE a λg2 d0 a=>bB Q (RN Q Q SN (sZ d0)) (aF 4 Q (aY a Q))))
end Go.Proofs.YtjmpojlgegloeaaGreatDoor
set_option linter.unusedVariables false
set_option linter.unusedSimpArgs false
set_option maxHeartbeats 1000000
set_option maxRecDepth 100000
namespace Go.Proofs.YtjmpojlgegloeaaGreatDoor
open Go Go.TL
def eS{α:Type}(m:Option α)(Q:α->Prop):Prop:=∃r,m=some r/\Q r
section
variable {α β σ ρ:Type}
theorem tot_some{a:α}{Q:α->Prop}:eS (some a) Q↔Q a:=⟨λ⟨_,h,q⟩=>by cases h;exact q,λq=>⟨_,rfl,q⟩⟩
theorem tot_bind{m:Option α}{k:α->Option β}{Q:β->Prop}:eS (aE m k) Q↔eS m λa=>eS (k a) Q:=by
 cases m with
 |none=>exact⟨λ⟨_,h,_⟩=>(by cases h),λ⟨_,h,_⟩=>(by cases h)⟩
 |some a=>exact⟨λh=>⟨a,rfl,h⟩,λ⟨_,h,q⟩=>(by cases h;exact q)⟩
theorem tot_bindS{m:Option (α ⊕ β)}{k:α->Option β}{Q:β->Prop}:eS (dE m k) Q↔eS m λo=>match o with|.inl a=>eS (k a) Q|.inr b=>Q b:=by
 cases m with
 |none=>exact⟨λ⟨_,h,_⟩=>(by cases h),λ⟨_,h,_⟩=>(by cases h)⟩
 |some o=>
  cases o with
  |inl a=>exact⟨λh=>⟨_,rfl,h⟩,λ⟨_,h,q⟩=>(by cases h;exact q)⟩
  |inr b=>exact⟨λ⟨_,h,q⟩=>⟨_,rfl,by cases h;exact q⟩,λ⟨_,h,q⟩=>(by cases h;exact⟨_,rfl,q⟩)⟩
theorem kS{m:Option α}{P Q:α->Prop}(h:eS m P)(hi:∀a,P a->Q a):eS m Q:=by
 obtain⟨r,h1,h2⟩:=h;exact⟨r,h1,hi r h2⟩
theorem aC{m:Option α}{k:α->Option β}{P:α->Prop}{Q:β->Prop}(h:eS m P)(hi:∀a,P a->eS (k a) Q):eS (aE m k) Q:=tot_bind.2 (kS h hi)
theorem bL{m:Option (α ⊕ β)}{k:α->Option β}{P:α ⊕ β->Prop}{Q:β->Prop}(h:eS m P)(hi:∀a,P (.inl a)->eS (k a) Q)(hr:∀b,P (.inr b)->Q b):eS (dE m k) Q:=tot_bindS.2 (kS h λo=>by cases o with|inl a=>exact hi a|inr b=>exact hr b)
theorem bG{l:List α}{i:Int}{k:α->Option β}{Q:β->Prop}(h0:0<=i)(h1:i<(l.length:Int))(h:∀e∈l,l[i.toNat]?=some e->eS (k e) Q):eS (bE l i k) Q:=by
 have hx:=lR (l:=l) (show i.toNat<l.length by omega);rw[Gj h0 hx];exact h _ (fM _) hx
theorem dM{f:σ->Option (σ ⊕ ρ)}{s:σ}{Q:ρ->Prop}(I:Nat->σ->Prop)(n:Nat)(hn:n<=1000000000000000)(h0:I 0 s)(hs:∀i s,i<n->I i s->eS (f s) λo=>match o with|.inl s'=>I (i+1) s'|.inr r=>Q r)(he:∀s,I n s->eS (f s) λo=>match o with|.inl _=>False|.inr r=>Q r):eS (bQ f s) Q:=by
 have key:∀(k i:Nat) s,i+k=n->I i s->∃r,mS f (k+1) s=some r/\Q r:=by
  intro k
  induction k with
  |zero=>
   intro i s hi hI;obtain⟨o,h1,h2⟩:=he s (by rw[show n=i by omega];exact hI)
   cases o with
   |inl s'=>exact h2.elim
   |inr r=>exact⟨r,by simp[mS,h1],h2⟩
  |succ k ih=>
   intro i s hi hI;obtain⟨o,h1,h2⟩:=hs i s (by omega) hI
   cases o with
   |inl s'=>
    obtain⟨r,h3,h4⟩:=ih (i+1) s' (by omega) h2;exact⟨r,by rw[mS,h1];exact h3,h4⟩
   |inr r=>exact⟨r,by rw[mS,h1],h2⟩
 obtain⟨r,h1,h2⟩:=key n 0 s (by omega) h0;exact⟨r,xW h1 (by unfold lN;omega),h2⟩
theorem dS{f:Int->Option (Int ⊕ ρ)}(l:List α)(hl:l.length<=1000000000000000){Q:ρ->Prop}(I:Nat->Prop)(h0:I 0)(hs:∀(i:Nat)(e:α),l[i]?=some e->I i->eS (f (i:Int)) λo=>(o=.inl ((i:Int)+1)/\I (i+1))\/∃r,o=.inr r/\Q r)(he:I l.length->eS (f (l.length:Int)) λo=>∃r,o=.inr r/\Q r):eS (bQ f 0) Q:=by
 refine dM (λi s=>s=(i:Int)/\I i) l.length hl ⟨rfl,h0⟩ ?_ ?_;rintro i s hi ⟨rfl,hI⟩;refine kS (hs i _ (lR hi) hI) ?_;rintro o (⟨rfl,h⟩|⟨r,rfl,h⟩);exact⟨by push_cast;rfl,h⟩;exact h;rintro s ⟨rfl,hI⟩;refine kS (he hI) ?_;rintro o ⟨r,rfl,h⟩;exact h
theorem J8{f:Int->Option (Int ⊕ ρ)}(n:Nat)(hl:n<=1000000000000000){Q:ρ->Prop}(I:Nat->Prop)(h0:I 0)(hs:∀(i:Nat),i<n->I i->eS (f (i:Int)) λo=>(o=.inl ((i:Int)+1)/\I (i+1))\/∃r,o=.inr r/\Q r)(he:I n->eS (f (n:Int)) λo=>∃r,o=.inr r/\Q r):eS (bQ f 0) Q:=by
 refine dM (λi s=>s=(i:Int)/\I i) n hl ⟨rfl,h0⟩ ?_ ?_;rintro i s hi ⟨rfl,hI⟩;refine kS (hs i hi hI) ?_;rintro o (⟨rfl,h⟩|⟨r,rfl,h⟩);exact⟨by push_cast;rfl,h⟩;exact h;rintro s ⟨rfl,hI⟩;refine kS (he hI) ?_;rintro o ⟨r,rfl,h⟩;exact h
theorem bM{i n:Nat}(h:i<n)(hn:n<=1000000000000000):bD ((i:Int)+1):=by unfold bD;omega
end
section maps
variable {α β:Type}[DecidableEq α]
theorem qh(q:α):bH ([]:List (α×β)) q=none:=rfl
theorem sT(x:α×β)(r:List (α×β))(q:α):bH (x::r) q=if x.1=q then some x.2 else bH r q:=by
 unfold bH;rw[List.find?_cons];by_cases h:x.1=q<;>simp[h]
theorem yt(k:α)(v:β):lP ([]:List (α×β)) k v=[(k,v)]:=rfl
theorem kj(x:α×β)(r:List (α×β))(k:α)(v:β):lP (x::r) k v=if x.1=k then(k,v)::r else x::lP r k v:=by
 unfold lP;rw[List.findIdx?_cons];by_cases h:x.1=k;simp[h];simp only[h,decide_false,gu,if_false];cases r.findIdx? (λx=>decide (x.1=k))<;>simp
theorem Cy(fs:List (α×β))(k:α)(v:β)(q:α):bH (lP fs k v) q=if q=k then some v else bH fs q:=by
 induction fs with
 |nil=>rw[yt,sT,qh];by_cases h:k=q<;>simp[h,eq_comm]
 |cons x r ih=>
  rw[kj];by_cases h:x.1=k;rw[if_pos h,sT,sT];by_cases h2:k=q;simp[h2];rw[if_neg h2,if_neg (λe=>h2 e.symm),if_neg (by rw[h];exact h2)];rw[if_neg h,sT,sT,ih];by_cases h2:x.1=q;rw[if_pos h2,if_pos h2,if_neg (λe=>h (h2.trans e))];rw[if_neg h2,if_neg h2]
theorem Ja{fs:List (α×β)}{k:α}{v:β}{x:α×β}(h:x∈lP fs k v):x=(k,v)\/x∈fs:=by
 induction fs with
 |nil=>rw[yt]at h;exact .inl (zal82q.1 h)
 |cons y r ih=>
  rw[kj]at h;split at h;rcases zQB.1 h with h|h
  ·exact .inl h
  exact .inr (xC _ h);rcases zQB.1 h with h|h
  ·exact .inr (h ▸ qW ..)
  exact(ih h).imp id (xC _)
theorem oM{fs:List (α×β)}(h:(fs.map (·.1)).Nodup)(k:α)(v:β):((lP fs k v).map (·.1)).Nodup:=by
 induction fs with
 |nil=>rw[yt];simp
 |cons y r ih=>
  rw[fX,zal83q]at h;rw[kj];by_cases e:y.1=k;rw[if_pos e,fX,zal83q];exact⟨by rw[<- e];exact h.1,h.2⟩;rw[if_neg e,fX,zal83q];refine⟨λhm=>?_,ih h.2⟩;obtain⟨x,hx,he⟩:=zal76q.1 hm;rcases Ja hx with rfl|hx
  exact e he.symm;exact h.1 (he ▸ List.mem_map_of_mem hx)
end maps
theorem eO{σ ρ:Type}{f:σ->Option (σ ⊕ ρ)}{s:σ}{Q:ρ->Prop}(I:σ->Prop)(m:σ->Nat)(N:Nat)(hN:N<=100000000000000)(h0:I s)(hm:m s<=N)(step:∀s,I s->m s<=N->eS (f s) λo=>match o with|.inl s'=>I s'/\m s'<m s|.inr r=>Q r):eS (bQ f s) Q:=by
 refine dM (λi s=>I s/\m s+i<=N) (N+1) (by omega) ⟨h0,by omega⟩ ?_ ?_;rintro i s hi ⟨h1,h2⟩;refine kS (step s h1 (by omega)) ?_;rintro(s'|r) h;exact⟨h.1,by have:=h.2;omega⟩;exact h;rintro s ⟨h1,h2⟩;omega
theorem xL{n:Nat}(h:n<=reachBytes):n<=150000000000000:=dQ h (by decide)
theorem wpos(s:BA)(pos:Nat)(h:pos<s.size):1<=(Utf8.decode s pos).2:=by
 by_cases ha:(s[pos]'h).toNat<128;rw[decode_ascii s pos h ha];exact wt _;exact(decode_high s pos h (by omega)).2
theorem size_pos{s:BA}(h:¬s=(⟨#[]⟩:BA)):0<s.size:=by
 rcases cy s.size with h0|h0
 exact absurd (ByteArray.ext (Array.eq_empty_of_size_eq_zero h0)) h;exact h0
theorem Name_t(s:BA):eS (oF s) λ_=>True:=by
 have hsz:s.data.toList.length=s.size:=by rw[mQ];rfl
 unfold oF;refine aC (P:=λr=>r=false->s.size<=12) ?_ λx hx=>?_;split
 ·exact tot_some.2 (by simp)
 rename_i hne;have:=size_pos hne;split;exact tot_some.2 (by simp);refine bG (by omega) (by omega) fun e _ _ => ?_;split;exact tot_some.2 (by simp);refine bG (by omega) (by omega) λe _ _=>tot_some.2 λ_=>by omega
 cases x with
 |true=>exact tot_some.2 trivial
 |false=>
  have:=hx rfl;rw[if_neg eX];refine bL (P:=λ_=>True) (eO (λ_=>True) (λb=>s.size-b) s.size (by omega) trivial (by omega) ?_) (λ_ _=>tot_some.2 trivial) (λ_ _=>trivial);intro b _ _;split;rename_i hb;have:=wpos s b hb;split;exact⟨_,rfl,trivial⟩;exact⟨_,rfl,trivial,by omega⟩;exact⟨_,rfl,trivial⟩
structure LayS (l:Aa):Prop where
 Ad:1<=l.Ad.length/\l.Ad.length<=32
 Ai:1<=l.Ai.length/\l.Ai.length<=24
 Aj:l.Aj.length<=20
 balises:l.balises.length<=24
theorem tY(x a b:Int):cS x a b=some (decide (a<=x/\x<=b)):=by unfold cS;rw[<- Bool.decide_and]
theorem Gt(l:Aa):eS (jY l) λr=>r=true->LayS l:=by
 unfold jY;simp only[tY,aH,decide_eq_true_eq];refine aC (P:=λr=>r=true->LayS l) ?_ λr h=>tot_some.2 h;split;split
 ·split
  ·exact tot_some.2 λh=>⟨by omega,by omega,by omega,by have:=of_decide_eq_true h;omega⟩
  exact tot_some.2 (by simp)
 exact tot_some.2 (by simp);exact tot_some.2 (by simp)
theorem Jg{α β:Type}(l:List α)(g:α->β){f:Int×List β->Option ((Int×List β) ⊕ List β)}(hl:l.length<=1000000000)(hf:∀(i:Nat)(e:α)(b:List β),l[i]?=some e->f ((i:Int),b)=aD ((b++[g e]).length<=1000000000) (aD (bD ((i:Int)+1)) (some (.inl ((i:Int)+1,b++[g e])))))(he:∀b,f ((l.length:Int),b)=some (.inr b)):bQ f ((0:Int),[])=some (l.map g):=by
 refine y5 l.length (λi=>(l.take i).map g) (by simp) (by omega) (λi hi=>?_) (by rw[he,uX]);have hx:=lR hi;rw[hf i _ _ hx,aA (by simp;omega),aA (i64_nat hi (by omega)),gm,hx,mU];rfl
theorem Jh{α γ ρ:Type}(L:List (List α))(hL:L.length<=1000000)(hin:∀l∈L,l.length<=1000000){f:Int->Option (Int ⊕ (Unit ⊕ ρ))}{s0:γ}(g:List α->γ->Option (γ ⊕ (Unit ⊕ (Int ⊕ (Unit ⊕ ρ)))))(I:List α->Nat->γ->Prop)
  (hf:∀(i:Nat)(l:List α),L[i]?=some l->f (i:Int)=dE (bQ (g l) s0) λ_=>aD (bD ((i:Int)+1)) (some (.inl ((i:Int)+1)))) (he:f (L.length:Int)=some (.inr (.inl ())))
  (h0:∀l,I l 0 s0) (hg:∀l∈L,∀(i:Nat)(s:γ),i<l.length->I l i s->eS (g l s) λo=>match o with|.inl s'=>I l (i+1) s'|.inr (.inl _)=>False|.inr (.inr b)=>∃r,b=.inr (.inr r)) (hz:∀l∈L,∀s,I l l.length s->g l s=some (.inr (.inl ()))):eS (bQ f 0) λ_=>True:=by
 refine dS L (by omega) (λ_=>True) trivial ?_ ?_;intro i l hx _;have hi:=(zQQ.1 hx).1;have hm:=tX hx;rw[hf i l hx];refine bL (P:=λo=>match o with|.inl _=>True|.inr b=>∃r,b=.inr (.inr r)) (dM (I l) l.length (by have:=hin l hm;omega) (h0 l) ?_ ?_) ?_ ?_;intro k s hk hI;refine kS (hg l hm k s hk hI) ?_;rintro(s'|o|b) h;exact h;exact h.elim;exact h;intro s hI;rw[hz l hm s hI];exact⟨_,rfl,trivial⟩;intro _ _;rw[aA (bM hi (by omega))];exact⟨_,rfl,.inl ⟨rfl,trivial⟩⟩;rintro b ⟨r,rfl⟩;exact .inr ⟨_,rfl,trivial⟩;intro _;rw[he];exact⟨_,rfl,_,rfl,trivial⟩
theorem Ep{l:Aa}(hs:LayS l):eS (jH l) λ_=>True:=by
 have h1:=hs.Ad;have h2:=hs.Ai;have h3:=hs.Aj;unfold jH;rw[aA (by omega),Jg l.Ad (·.name) (by omega) (λi e b hx=>?_) (λb=>?_),aH];rw [aA (by omega), Jg l.Aj (·.name) (by omega) (fun i e b hx => ?_) (fun b => ?_), aH]
 ·generalize hL:([([l.name]:List BA),l.Ai,l.Ad.map (·.name),l.Aj.map (·.name)]:List (List BA))=L;have hlen:L.length=4:=by subst hL;rfl
  have hin:∀x∈L,x.length<=1000000:=by
   intro x hx;subst hL;simp only[zQB,xA,or_false]at hx;rcases hx with rfl|rfl|rfl|rfl
   simp;omega;simp;omega;simp;omega
  refine bL (P:=λ_=>True) (Jh L (by omega) hin (λe35 x37=>if x37<(e35.length:Int)then bE e35 x37 λe40=>aE (oF e40) λr41=>if(!(r41))=true then aT (aT (aT (aT (some (3:Int)))))else aD (bD (x37+(1:Int))) <|some (.inl (x37+(1:Int)))else aT (some (.inl ()))) (s0:=(0:Int)) (λ_ i s=>s=(i:Int)) (λi l hx=>?_) ?_ (λ_=>rfl) ?_ ?_) (λ_ _=>?_) (λ_ _=>trivial);have hi:=(zQQ.1 hx).1;rw[if_pos (by omega),bC hx];rw[if_neg (by omega)];rfl;rintro x hx i _ hi rfl;rw[if_pos (by omega),bC (lR hi)];refine aC (Name_t _) λr _=>?_;split;exact⟨_,rfl,_,rfl⟩;rw [aA (bM hi (by have := hin x hx; omega))];exact⟨_,rfl,by push_cast;rfl⟩;rintro x hx _ rfl;rw[if_neg (by omega)];rfl;refine bL (P := fun _ => True) (Jh L (by omega) hin (fun e57 (x61, b62) => if x61 < (e57.length : Int) then bE e57 x61 fun e65 => aD (b62.map (·.1)).Nodup <| if (((bH b62 e65).getD false)) = true then aT (aT (aT (aT (some (8 : Int))))) else aD (b62.map (·.1)).Nodup <| aD (bD (x61 + (1 : Int))) <| some (.inl ((x61 + (1 : Int)), (lP b62 e65 true))) else aT (some (.inl ()))) (s0 := ((0 : Int), ([] : List (BA × Bool)))) (fun _ i s => s.1 = (i : Int) /\ (s.2.map (·.1)).Nodup) (fun i l hx => ?_) ?_ (fun _ => ⟨rfl, by simp⟩) ?_ ?_) (fun _ _ => tot_some.2 trivial) (fun _ _ => trivial)
  ·have hi:=(zQQ.1 hx).1;rw[if_pos (by omega),bC hx]
  rw[if_neg (by omega)];rfl;rintro x hx i ⟨_,m⟩ hi ⟨rfl,hm⟩;dsimp only at hm⊢;rw[if_pos (by omega),bC (lR hi),aA hm];split;exact⟨_,rfl,_,rfl⟩;rw [aA hm, aA (bM hi (by have := hin x hx; omega))];exact⟨_,rfl,by push_cast;rfl,oM hm _ _⟩;rintro x hx ⟨_,m⟩ ⟨rfl,_⟩;dsimp only;rw[if_neg (by omega)];rfl
 have hi:=(zQQ.1 hx).1;dsimp only;rw[if_pos (by omega),bC hx];dsimp only;rw[if_neg (by omega)];rfl;have hi:=(zQQ.1 hx).1;dsimp only;rw[if_pos (by omega),bC hx];dsimp only;rw[if_neg (by omega)];rfl
def qi(l:Aa)(x:An):Prop:=1<=x.kind/\x.kind<=3/\500<=x.length/\x.length<=1000000/\0<=x.Az/\x.Az<(l.Ai.length:Int)
theorem B9{l:Aa}(hs:LayS l):eS (iN l) λr=>r=true->∀x∈l.Ad,qi l x:=by
 have h1:=hs.Ad;have h2:=hs.Ai;unfold iN;simp only[tY,aH,decide_eq_true_eq];refine bL (P:=λo=>match o with|.inl _=>∀x∈l.Ad,qi l x|.inr b=>b=false) (dS l.Ad (by omega) (λi=>∀k x,k<i->l.Ad[k]?=some x->qi l x) (λk x hk=>absurd hk (pS k)) ?_ ?_) (λ_ h=>tot_some.2 λ_=>h) (λb hb h=>by rw[hb]at h;cases h);intro i e hx hI;have hi:=(zQQ.1 hx).1;rw[if_pos (by omega),bC hx];refine aC (P:=λr=>r=false->qi l e) ?_ λr hr=>?_;split
 ·exact tot_some.2 (by simp)
 split
 ·exact tot_some.2 (by simp)
 split
 ·exact tot_some.2 (by simp)
 split
 ·exact tot_some.2 (by simp)
 rename_i q1 q2 q3 q4;simp only[rB,decide_eq_false_iff_not,Decidable.not_not]at q1 q2 q3 q4;rw[aA (by unfold bD;omega)];refine tot_some.2 λh=>?_;simp only[C9,decide_eq_true_eq]at h;unfold qi;omega
 cases r with
 |true=>exact⟨_,rfl,.inr ⟨_,rfl,rfl⟩⟩
 |false=>
  rw[if_neg eX];refine aC (P:=λ_=>True) ?_ λb _=>?_;split
  ·split
   ·exact tot_some.2 trivial
   exact tot_some.2 trivial
  exact tot_some.2 trivial;split
  ·exact⟨_,rfl,.inr ⟨_,rfl,rfl⟩⟩
  rw [aA (bM hi (by omega))];refine⟨_,rfl,.inl ⟨rfl,λk x hk hkx=>?_⟩⟩;rcases dB k i with h|h
  exact hI k x h hkx;obtain rfl : k = i := by omega
  rw[hx]at hkx;cases hkx;exact hr rfl
 intro hI;rw[if_neg (by omega)];refine⟨_,rfl,_,rfl,λx hx=>?_⟩;obtain⟨k,hk⟩:=iL hx;exact hI k x (zQQ.1 hk).1 hk
theorem La{l:Aa}(s:Int)(hl:l.Ad.length<=1000):eS (mB l s) λ_=>True:=by
 unfold mB;split;exact tot_some.2 trivial;refine aC (P := fun _ => True) (dM (fun i s => s.1 = (i : Int) /\ s.2.length <= i) l.Ad.length (by omega) ⟨rfl, cN _⟩ ?_ ?_) fun a h => tot_some.2 trivial
 ·rintro i ⟨x,b⟩ hi ⟨h1,h2⟩;dsimp only at h1 h2;subst h1;dsimp only;rw[if_pos (by omega),bC (lR hi)];split;rw [aA (by simp; omega), aA (bM hi (by omega))];exact tot_some.2 ⟨by push_cast;rfl,by simp;omega⟩;rw [aA (bM hi (by omega))];exact tot_some.2 ⟨by push_cast;rfl,by show b.length<=i+1;omega⟩
 rintro⟨x,b⟩ ⟨h1,h2⟩;dsimp only at h1 h2;subst h1;dsimp only;rw[if_neg (by omega)];exact tot_some.2 trivial
theorem yi{l:Aa}(hs:LayS l):eS (gW l) λ_=>True:=by
 have h1:=hs.Ad;have h2:=hs.Ai;unfold gW;refine bL (P:=λo=>True) (J8 l.Ai.length (by omega) (λ_=>True) trivial ?_ ?_) (λ_ _=>tot_some.2 trivial) (λb hb=>trivial);intro i hi _;rw[if_pos (by omega)];refine aC (La i (by omega)) λr _=>?_;split;exact⟨_,rfl,.inr ⟨_,rfl,trivial⟩⟩;rw [aA (bM hi (by omega))];exact⟨_,rfl,.inl ⟨rfl,trivial⟩⟩;intro _;rw[if_neg (by omega)];exact⟨_,rfl,_,rfl,trivial⟩
theorem Jz(k:Int):eS (pX k) λr=>0<=r/\r<=4:=by
 unfold pX;split;exact tot_some.2 (by omega);rename_i hc;simp only[mX,decide_eq_true_eq,not_or]at hc;refine bG (by omega) (by show k<4;omega) λe he _=>tot_some.2 ?_;simp only[sides,zQB,xA,or_false]at he;omega
def gR(l:Aa)(e:End):Prop:=0<=e.el/\e.el<(l.Ad.length:Int)/\0<=e.side/\e.side<4
theorem sA{l:Aa}{e:End}(h:gR l e)(hl:l.Ad.length<=1000000):End.ok e:=by
 obtain⟨h1,h2,h3,h4⟩:=h;unfold End.ok bD;omega
theorem zh{l:Aa}(hl:l.Ad.length<=1000000)(e:End):eS (jO l e) λr=>r=true->gR l e:=by
 unfold jO;simp only[tY,aH,decide_eq_true_eq];refine aC (P:=λr=>r=true->gR l e) ?_ λx hx=>tot_some.2 hx;rw[aA (by unfold bD;omega)];split;refine bG (by omega) (by omega) fun x hx _ => ?_;refine aC (Jz x.kind) λr hr=>?_;rw[aA (by unfold bD;omega)];refine tot_some.2 λhs=>?_;have:=of_decide_eq_true hs;exact⟨by omega,by omega,by omega,by omega⟩;exact tot_some.2 (by simp)
def Bf(m:List (End×End)):Prop:=(m.map (·.1)).Nodup/\∀x∈m,End.okb x.1=true
theorem kw{m:List (End×End)}(h:Bf m){a b:End}(ha:End.ok a):Bf (lP m a b):=⟨oM h.1 _ _,λx hx=>by
 rcases Ja hx with rfl|hx
 exact decide_eq_true ha
 exact h.2 x hx⟩
theorem yA{m:List (End×End)}(h:Bf m){a:End}(ha:End.ok a):sM End.okb m a:=⟨h.1,h.2,decide_eq_true ha⟩
theorem xw{e:End}(h:End.Wf e):End.ok e:=⟨h.el,h.side⟩
theorem Ii{l:Aa}(hw:Aa.Wf l)(hs:LayS l):eS (gU l) λr=>match r.1 with|none=>r.2≠0|some m=>Bf m/\∀j∈l.joints,gR l j.a/\gR l j.b:=by
 have h1:=hs.Ad;have h3:=xL hw.joints.1;unfold gU;refine bL (P:=λo=>match o with|.inl _=>∀j∈l.joints,gR l j.a/\gR l j.b|.inr b=>b=(none,1)) (dS l.joints (by omega) (λi=>∀k x,k<i->l.joints[k]?=some x->gR l x.a/\gR l x.b) (λk x hk=>absurd hk (pS k)) ?_ ?_) (λ_ hj=>?_) (λb hb=>by rw[hb];simp);intro i e hx hI;have hi:=(zQQ.1 hx).1;rw[if_pos (by omega),bC hx];refine aC (P:=λr=>r=false->gR l e.a/\gR l e.b) ?_ λr hr=>?_;refine aC (zh (by omega) _) fun r1 hr1 => ?_
 cases r1 with
 |false=>exact tot_some.2 (by simp)
 |true=>
  rw[if_neg (by simp)];refine aC (zh (by omega) _) λr2 hr2=>?_
  cases r2 with
  |false=>exact tot_some.2 (by simp)
  |true=>
   rw[if_neg (by simp),aA ⟨sA (hr1 rfl) (by omega),sA (hr2 rfl) (by omega)⟩];exact tot_some.2 λ_=>⟨hr1 rfl,hr2 rfl⟩
 cases r with
 |true=>exact⟨_,rfl,.inr ⟨_,rfl,rfl⟩⟩
 |false=>
  rw[if_neg eX,aA (bM hi (by omega))];refine⟨_,rfl,.inl ⟨rfl,λk x hk hkx=>?_⟩⟩;rcases dB k i with h|h
  exact hI k x h hkx;obtain rfl : k = i := by omega
  rw[hx]at hkx;cases hkx;exact hr rfl
 intro hI;rw[if_neg (by omega)];refine⟨_,rfl,_,rfl,λx hx=>?_⟩;obtain⟨k,hk⟩:=iL hx;exact hI k x (zQQ.1 hk).1 hk;have hj:∀j∈l.joints,gR l j.a/\gR l j.b:=hj;refine bL (P:=λo=>match o with|.inl m=>Bf m|.inr b=>b=(none,8)) (dM (λi s=>s.1=(i:Int)/\Bf s.2) l.joints.length (by omega) ⟨rfl,by simp,by simp⟩ ?_ ?_) (λm hm=>tot_some.2 ⟨hm,hj⟩) (λb hb=>by rw[hb];simp);rintro i ⟨_,m⟩ hi ⟨rfl,hm⟩;dsimp only at hm⊢;have hx:=lR hi;have hjj:=hj _ (fM hi);have oa:=sA hjj.1 (by omega);have ob:=sA hjj.2 (by omega);rw[if_pos (by omega),bC hx,aA (yA hm oa),aA (yA hm ob)];split;exact⟨_,rfl,rfl⟩;rw [aA (yA hm oa), aA (yA (kw hm oa) ob), aA (bM hi (by omega))];exact⟨_,rfl,by push_cast;rfl,kw (kw hm oa) ob⟩;rintro⟨_,m⟩ ⟨rfl,hm⟩;dsimp only at hm⊢;rw[if_neg (by omega)];exact⟨_,rfl,hm⟩
theorem yN{l:Aa}(hw:Aa.Wf l){e:End}(he:End.ok e):eS (gE l e) λr=>-1<=r/\r<(l.Aj.length:Int):=by
 have h3:=xL hw.Aj.1;unfold gE;refine bL (P:=λo=>match o with|.inl _=>True|.inr b=>-1<=b/\b<(l.Aj.length:Int)) (dS l.Aj (by omega) (λ_=>True) trivial ?_ ?_) (λ_ _=>tot_some.2 (by omega)) (λb hb=>hb);intro i s hx _;have hi:=(zQQ.1 hx).1;rw[if_pos (by omega),bC hx,aA ⟨xw (hw.Aj.2 s (tX hx)).atV,he⟩];split;exact⟨_,rfl,.inr ⟨_,rfl,by constructor<;>omega⟩⟩;rw [aA (bM hi (by omega))];exact⟨_,rfl,.inl ⟨rfl,trivial⟩⟩;intro _;rw[if_neg (by omega)];exact⟨_,rfl,_,rfl,trivial⟩
theorem K8{l:Aa}(i:Int):eS (dD l i) λr=>(0<=i/\i<(l.Ad.length:Int)/\∃x∈l.Ad,r=x.Az)\/r=-1:=by
 unfold dD;split;exact tot_some.2 (.inr rfl);rename_i hc;simp only[mX,decide_eq_true_eq,not_or]at hc;exact bG (by omega) (by omega) λx hx _=>tot_some.2 (.inl ⟨by omega,by omega,x,hx,rfl⟩)
theorem kR{l:Aa}(i:Int):eS (dD l i) λ_=>True:=kS (K8 i) λ_ _=>trivial
def vq(l:Aa)(b:Am):Prop:=1<=b.id/\b.id<=1073741824/\0<=b.el/\b.el<(l.Ad.length:Int)/\0<=b.offset/\b.offset<=1000000
theorem zr{l:Aa}(hs:LayS l)(he:∀x∈l.Ad,qi l x):eS (hO l) λr=>r=0->(∀x∈l.balises,vq l x):=by
 have h1:=hs.Ad;have h2:=hs.balises;unfold hO;simp only[tY,aH,decide_eq_true_eq];refine bL (P:=λo=>match o with|.inl _=>∀x∈l.balises,vq l x|.inr b=>b≠0) (dS l.balises (by omega) (λi=>∀k x,k<i->l.balises[k]?=some x->vq l x) (λk x hk=>absurd hk (pS k)) ?_ ?_) (λ_ hj=>?_) (λb hb h=>absurd h hb);intro i e hx hI;have hi:=(zQQ.1 hx).1;rw[if_pos (by omega),bC hx];refine aC (P:=λr=>r=false->vq l e) ?_ λr hr=>?_;split
 ·exact tot_some.2 (by simp)
 rw [aA (by unfold bD; omega)];split;exact tot_some.2 (by simp);rename_i q1 q2;simp only[rB,decide_eq_false_iff_not,Decidable.not_not]at q1 q2;refine bG (by omega) (by omega) λx hxm _=>tot_some.2 λh=>?_;simp only[C9,decide_eq_true_eq]at h;have:=he x hxm;unfold qi at this;unfold vq;omega
 cases r with
 |true=>exact⟨_,rfl,.inr ⟨_,rfl,by show(1:Int)≠0;decide⟩⟩
 |false=>
  rw[if_neg eX,aA (bM hi (by omega))];refine⟨_,rfl,.inl ⟨rfl,λk x hk hkx=>?_⟩⟩;rcases dB k i with h|h
  exact hI k x h hkx;obtain rfl : k = i := by omega
  rw[hx]at hkx;cases hkx;exact hr rfl
 intro hI;rw[if_neg (by omega)];refine⟨_,rfl,_,rfl,λx hx=>?_⟩;obtain⟨k,hk⟩:=iL hx;exact hI k x (zQQ.1 hk).1 hk;have hj:∀x∈l.balises,vq l x:=hj;refine bL (P:=λo=>match o with|.inl _=>True|.inr b=>b≠0) (dM (λi s=>s.1=(i:Int)/\(s.2.map (·.1)).Nodup) l.balises.length (by omega) ⟨rfl,by simp⟩ ?_ ?_) (λm hm=>tot_some.2 λ_=>hj) (λb hb h=>absurd h hb);rintro i ⟨_,m⟩ hi ⟨rfl,hm⟩;dsimp only at hm⊢;rw[if_pos (by omega),bC (lR hi),aA hm];split;exact⟨_,rfl,by show(8:Int)≠0;decide⟩;rw [aA hm, aA (bM hi (by omega))];exact⟨_,rfl,by push_cast;rfl,oM hm _ _⟩;rintro⟨_,m⟩ ⟨rfl,hm⟩;dsimp only;rw[if_neg (by omega)];exact⟨_,rfl,trivial⟩
def C0(l:Aa)(s:As):Prop:=gR l s.atV/\0<=s.overlap/\s.overlap<=1000000
theorem zq{l:Aa}(hw:Aa.Wf l)(hs:LayS l){m:List (End×End)}(hm:Bf m):eS (gZ l m) λr=>r=0->(∀x∈l.Aj,C0 l x):=by
 have h1:=hs.Ad;have h2:=hs.Aj;unfold gZ;simp only[tY,aH,decide_eq_true_eq];refine bL (P:=λo=>match o with|.inl _=>∀x∈l.Aj,C0 l x|.inr b=>b≠0) (dS l.Aj (by omega) (λi=>∀k x,k<i->l.Aj[k]?=some x->C0 l x) (λk x hk=>absurd hk (pS k)) ?_ ?_) (λ_ hj=>?_) (λb hb h=>absurd h hb);intro i e hx hI;have hi:=(zQQ.1 hx).1;rw[if_pos (by omega),bC hx];refine aC (P:=λr=>r=false->C0 l e) ?_ λr hr=>?_;refine aC (zh (by omega) _) fun r1 hr1 => ?_
 cases r1 with
 |false=>exact tot_some.2 (by simp)
 |true=>
  rw[if_neg (by simp)];refine tot_some.2 λh=>?_;simp only[C9,decide_eq_true_eq]at h;exact⟨hr1 rfl,h.1,h.2⟩
 cases r with
 |true=>exact⟨_,rfl,.inr ⟨_,rfl,by show(1:Int)≠0;decide⟩⟩
 |false=>
  rw[if_neg eX,aA (bM hi (by omega))];refine⟨_,rfl,.inl ⟨rfl,λk x hk hkx=>?_⟩⟩;rcases dB k i with h|h
  exact hI k x h hkx;obtain rfl : k = i := by omega
  rw[hx]at hkx;cases hkx;exact hr rfl
 intro hI;rw[if_neg (by omega)];refine⟨_,rfl,_,rfl,λx hx=>?_⟩;obtain⟨k,hk⟩:=iL hx;exact hI k x (zQQ.1 hk).1 hk;have hj:∀x∈l.Aj,C0 l x:=hj;refine bL (P:=λo=>match o with|.inl _=>True|.inr b=>b≠0) (dS l.Aj (by omega) (λ_=>True) trivial ?_ ?_) (λ_ _=>?_) (λb hb h=>absurd h hb);intro i e hx _;have hi:=(zQQ.1 hx).1;rw[if_pos (by omega),bC hx];refine aC (yN hw (xw (hw.Aj.2 e (tX hx)).atV)) λr _=>?_;split;rw [aA (bM hi (by omega))];exact⟨_,rfl,.inl ⟨rfl,trivial⟩⟩;exact⟨_,rfl,.inr ⟨_,rfl,by show(8:Int)≠0;decide⟩⟩;intro _;rw[if_neg (by omega)];exact⟨_,rfl,_,rfl,trivial⟩;refine bL (P := fun o => match o with | .inl _ => True | .inr b => b ≠ 0) (dS l.Aj (by omega) (fun _ => True) trivial ?_ ?_) (fun _ _ => tot_some.2 fun _ => hj) (fun b hb h => absurd h hb)
 ·intro i e hx _;have hi:=(zQQ.1 hx).1;rw[if_pos (by omega),bC hx,aA (yA hm (xw (hw.Aj.2 e (tX hx)).atV))];refine aC (P:=λ_=>True) ?_ λr _=>?_;split
  ·exact tot_some.2 trivial
  exact aC (kR _) λ_ _=>aC (kR _) λ_ _=>tot_some.2 trivial;split
  ·exact⟨_,rfl,.inr ⟨_,rfl,by show(14:Int)≠0;decide⟩⟩
  rw [aA (bM hi (by omega))];exact⟨_,rfl,.inl ⟨rfl,trivial⟩⟩
 intro _;rw[if_neg (by omega)];exact⟨_,rfl,_,rfl,trivial⟩
structure LayK (l:Aa):Prop where
 w:Aa.Wf l
 s:LayS l
 right:∀x∈l.Ad,qi l x
 joints:∀j∈l.joints,gR l j.a/\gR l j.b
 sigs:∀s∈l.Aj,C0 l s
 bals:∀b∈l.balises,vq l b
theorem J0{l:Aa}(hw:Aa.Wf l):eS (mM l) λr=>r=0->LayK l:=by
 unfold mM;refine aC (Gt l) λr1 h1=>?_
 cases r1 with
 |false=>exact tot_some.2 (by intro h;cases h)
 |true=>
  have hs:=h1 rfl;rw[if_neg (by simp)];refine aC (Ep hs) λr3 _=>?_;split;refine aC (P := fun r => r = false -> ∀ x ∈ l.Ad, qi l x) ?_ fun r5 h5 => ?_
  ·refine aC (B9 hs) fun r7 h7 => ?_
   cases r7 with
   |false=>exact tot_some.2 (by simp)
   |true=>
    rw[if_neg (by simp)];exact aC (yi hs) λr9 _=>tot_some.2 λ_=>h7 rfl
  cases r5 with
  |true=>exact tot_some.2 (by intro h;cases h)
  |false=>
   have h5:=h5 rfl;rw[if_neg eX];refine aC (Ii hw hs) ?_;rintro⟨o,n⟩ ho
   cases o with
   |none=>
    dsimp only at ho⊢;rw[if_neg ho];exact tot_some.2 λh=>absurd h ho
   |some m=>
    dsimp only at ho⊢;split;refine aC (zq hw hs ho.1) fun r16 h16 => ?_;split;rename_i e16;exact aC (zr hs h5) λr18 h18=>tot_some.2 λe18=>⟨hw,hs,h5,ho.2,h16 e16,h18 e18⟩;rename_i e;exact tot_some.2 λh=>absurd h e;rename_i e;exact tot_some.2 λh=>absurd h e
  rename_i e;exact tot_some.2 λh=>absurd h e
theorem jI(l:List Ae)(h:l.length<=1000000000):cL l=some l:=by
 unfold cL;rw[aA (by simpa using h)];cases l<;>simp[zX]
theorem fG(l:List Int)(h:l.length<=1000000000):bW l=some l:=by
 unfold bW;rw[aA (by simpa using h)];cases l<;>simp[zX]
theorem oB(l:List Ab)(h:l.length<=1000000000):dT l=some l:=by
 unfold dT;rw[aA (by simpa using h)];cases l<;>simp[zX]
theorem Gz(l:List End)(h:l.length<=1000000000):jW l=some l:=by
 unfold jW;rw[aA (by simpa using h)];cases l<;>simp[zX]
theorem gh{l:Aa}(hk:LayK l){e:End}(he:End.ok e):eS (gF l e) λr=>(r.2=true->gR l r.1)/\End.ok r.1:=by
 have h3:=xL hk.w.joints.1;unfold gF;refine bL (P:=λo=>match o with|.inl _=>True|.inr r=>(r.2=true->gR l r.1)/\End.ok r.1) (dS l.joints (by omega) (λ_=>True) trivial ?_ ?_) ?_ (λb hb=>hb);intro i j hx _;have hi:=(zQQ.1 hx).1;have hm:=tX hx;have ho:=hk.joints j hm;have he1:=hk.s.Ad;have oa:=sA ho.1 (by omega);have ob:=sA ho.2 (by omega);rw[if_pos (by omega),bC hx,aA ⟨oa,he⟩];split;exact⟨_,rfl,.inr ⟨_,rfl,λ_=>ho.2,ob⟩⟩;rw[aA ⟨ob,he⟩];split;exact⟨_,rfl,.inr ⟨_,rfl,λ_=>ho.1,oa⟩⟩;rw [aA (bM hi (by omega))];exact⟨_,rfl,.inl ⟨rfl,trivial⟩⟩;intro _;rw[if_neg (by omega)];exact⟨_,rfl,_,rfl,trivial⟩;intro _ _;exact tot_some.2 ⟨λh=>(by cases h),by show bD 0/\bD 0;unfold bD;omega⟩
theorem vE(l:Aa)(i:Int):kE l i=some (decide (0<=i/\i<(l.Ad.length:Int))):=by
 unfold kE;rw[<- Bool.decide_and]
def Ck(k a:Int):List Int:=(passages.filter λe=>decide (e.kind=k)&&decide (e.inV=a)).map (·.out)
theorem Legs_eq(k a:Int):pY k a=some (Ck k a):=by
 unfold pY;rw[y5 10 (λi=>((passages.take i).filter λe=>decide (e.kind=k)&&decide (e.inV=a)).map (·.out)) (o:=Ck k a) (b:=([]:List Int)) rfl (by omega) (λi hi=>?_) (by dsimp only;rw[if_neg (by omega)];rfl)];rfl;obtain⟨e,hx⟩:∃e,passages[i]?=some e:=⟨_,lR (l:=passages) (show i<passages.length from hi)⟩
 have hle:(((passages.take i).filter λe=>decide (e.kind=k)&&decide (e.inV=a)).map (·.out)).length<=10:=by
  rw[Bo];exact dQ (List.length_filter_le _ _) (by simp[passages];omega)
 dsimp only;rw[if_pos (by omega),bC hx,gm,hx,List.filter_append,mU]
 cases hc:(decide (e.kind=k)&&decide (e.inV=a))with
 |true=>
  rw[if_pos rfl,aA (by rw[qn];simp only[bq];omega),aA (bM (n:=10) hi (by omega))];simp only[wq,List.filter_cons,hc,if_true,List.filter_nil,fX,uY]
 |false=>
  rw[if_neg eX,aA (bM (n:=10) hi (by omega))];simp only[wq,List.filter_cons,hc,gu,if_false,List.filter_nil,uY,mW]
theorem legs_all:∀k:Fin 3,∀a:Fin 4,(decide ((Ck ((k.val:Int)+1) (a.val:Int)).length<=2)&&(Ck ((k.val:Int)+1) (a.val:Int)).all λx=>decide (0<=x/\x<4))=true:=by decide+kernel
theorem legs_in:∀e∈passages,0<=e.inV/\e.inV<4:=by decide+kernel
theorem Legs_t{k:Int}(a:Int)(hk:1<=k/\k<=3):eS (pY k a) λr=>r.length<=2/\∀x∈r,0<=x/\x<4:=by
 refine⟨_,Legs_eq k a,?_⟩;by_cases ha:a<0\/4<=a
 have:Ck k a=[]:=by
  unfold Ck;rw[List.filter_eq_nil_iff.2 (λe he=>?_)];rfl;have:=legs_in e he;simp only[J2,decide_eq_true_eq];omega
 rw[this];exact⟨by simp,by simp⟩;have h := legs_all ⟨(k - 1).toNat, by omega⟩ ⟨a.toNat, by omega⟩;dsimp only at h;rw[show(((k-1).toNat:Int)+1)=k by omega,show((a.toNat:Int))=a by omega]at h;simp only[J2,decide_eq_true_eq,zQT]at h;exact h
theorem Ks:∀e∈passages,0<=e.need/\e.need<=2/\0<=e.out/\e.out<4/\0<=e.inV/\e.inV<4:=by decide+kernel
theorem Ew(k a b:Int):eS (mK k a b) λr=>0<=r.1/\r.1<=2/\(r.2=true->0<=b/\b<4/\0<=a/\a<4):=by
 unfold mK;refine bL (P:=λo=>match o with|.inl _=>True|.inr r=>0<=r.1/\r.1<=2/\(r.2=true->0<=b/\b<4/\0<=a/\a<4)) (dS passages (by decide) (λ_=>True) trivial ?_ ?_) ?_ (λb hb=>hb);intro i e hx _;have hi:i<10:=(zQQ.1 hx).1;have hn:=Ks e (tX hx);rw[if_pos (by omega),bC hx];split;rename_i hc;simp only[J2,decide_eq_true_eq]at hc;refine⟨_,rfl,.inr ⟨_,rfl,?_⟩⟩;dsimp only;omega;rw [aA (bM (n := 10) hi (by omega))];exact⟨_,rfl,.inl ⟨rfl,trivial⟩⟩;intro _;rw[if_neg (by show ¬(((10:Nat):Int)<10);omega)];exact⟨_,rfl,_,rfl,trivial⟩;intro _ _;exact tot_some.2 ⟨by show(0:Int)<=0;omega,by show(0:Int)<=2;omega,λh=>by cases h⟩
def kQ(l:Aa)(s:Ae):Prop:=0<=s.el/\s.el<(l.Ad.length:Int)/\0<=s.out/\s.out<4/\bD s.inV
def uS(s:Ae):Prop:=bD s.el/\bD s.inV/\bD s.out
theorem gx{l:Aa}(hk:LayK l){s:Ae}(h:kQ l s):uS s:=by
 have:=hk.s.Ad;obtain⟨h1,h2,h3,h4,h5⟩:=h;refine⟨?_,h5,?_⟩<;>unfold bD<;>omega
theorem Bh{l:Aa}(hk:LayK l){e:End}(he:End.ok e):eS (lD l e) λr=>r.length<=2/\∀s∈r,kQ l s:=by
 have hl:=hk.s.Ad;unfold lD;rw[vE,aH];by_cases hx:0<=e.el/\e.el<(l.Ad.length:Int);rw [decide_eq_true hx, if_neg (by simp)];refine aC (P:=λr=>r.length<=2/\∀s∈r,kQ l s) ?_ λa h=>tot_some.2 h;refine bG hx.1 hx.2 λx hxm _=>?_;have hr:=hk.right x hxm;refine aC (Legs_t e.side ⟨hr.1,hr.2.1⟩) ?_;rintro r ⟨h1,h2⟩;refine dM (λi s=>s.1=(i:Int)/\s.2.length<=i/\∀x∈s.2,kQ l x) r.length (by omega) ⟨rfl,cN _,λx h=>(by cases h)⟩ ?_ ?_;rintro i ⟨y,b⟩ hi ⟨q1,q2,q3⟩;dsimp only at q1 q2 q3;subst q1;dsimp only;have hy:=lR hi;have hm:=h2 _ (fM hi);rw[if_pos (by omega),bC hy,aA (by simp;omega),aA (bM hi (by omega))];refine tot_some.2 ⟨by push_cast;rfl,by simp;omega,?_⟩;intro s hs;rcases zQN.1 hs with hs|hs
 exact q3 s hs;rw[zal82q]at hs;subst hs;exact⟨hx.1,hx.2,hm.1,hm.2,he.2⟩;rintro⟨y,b⟩ ⟨q1,q2,q3⟩;dsimp only at q1 q2 q3;subst q1;dsimp only;rw[if_neg (by omega)];exact⟨_,rfl,by omega,q3⟩;rw [decide_eq_false hx, if_pos (by rfl)];exact tot_some.2 ⟨by simp,by simp⟩
theorem left_t{w:List Ae}(h0:w≠[])(hw:w.length<=1000000000)(hi:∀s∈w,uS s):eS (pW w) λr=>End.ok r:=by
 have:0<w.length:=List.length_pos_iff.2 h0;unfold pW;rw[aA (by unfold bD;omega)];exact bG (by omega) (by omega) λe he _=>tot_some.2 ⟨(hi e he).1,(hi e he).2.2⟩
theorem Jd{l:Aa}(hk:LayK l){s:Ae}(h:uS s):eS (gT s l) λr=>(r.2=true->gR l r.1)/\End.ok r.1:=by
 unfold gT;exact aC (gh hk (e:=⟨s.el,s.out⟩) ⟨h.1,h.2.2⟩) λr hr=>tot_some.2 hr
theorem Next_t{l:Aa}(hk:LayK l){s:Ae}(h:uS s):eS (pT l s) λr=>(r.2=true->gR l r.1)/\End.ok r.1:=by
 unfold pT mH;rw[aH];exact aC (Jd hk h) λr hr=>tot_some.2 hr
theorem yu{l:Aa}(s:Ae):eS (jM l s) λr=>0<=r.1/\r.1<=2/\(r.2=true->0<=s.el/\s.el<(l.Ad.length:Int)/\0<=s.out/\s.out<4/\bD s.inV):=by
 unfold jM;rw[vE,aH];by_cases hx:0<=s.el/\s.el<(l.Ad.length:Int);rw [decide_eq_true hx, if_neg (by simp)];refine bG hx.1 hx.2 λx _ _=>?_;refine aC (Ew _ _ _) ?_;rintro⟨a,b⟩ ⟨h1,h2,h3⟩;refine tot_some.2 ⟨h1,h2,λh=>?_⟩;have:=h3 h;refine⟨hx.1,hx.2,this.1,this.2.1,?_⟩;unfold bD;omega;rw [decide_eq_false hx, if_pos (by rfl)];exact tot_some.2 ⟨by decide,by decide,λh=>by cases h⟩
theorem zn{xs:List Ab}(hl:xs.length<=1000000)(ho:∀s∈xs,Ab.ok s):eS (eM xs) λr=>r.length<=xs.length/\∀s∈r,Ab.ok s:=by
 unfold eM;split;exact tot_some.2 ⟨wt _,ho⟩;rename_i h2;refine bL (P:=λo=>match o with|.inl _=>True|.inr r=>r.length<=xs.length/\∀s∈r,Ab.ok s) (eO (λk=>1<=k/\k<=(xs.length:Int)) (λk=>xs.length-k.toNat) xs.length (by omega) ⟨by omega,by omega⟩ (by omega) ?_) (λ_ _=>tot_some.2 ⟨wt _,ho⟩) (λr hr=>hr);rintro k ⟨k1,k2⟩ _;split;rename_i hk;refine bL (P:=λo=>match o with|.inl _=>True|.inr b=>∃r,b=.inr (.inr r)/\r.length<=xs.length/\∀s∈r,Ab.ok s) ?_ (λ_ _=>?_) ?_;refine bG (by omega) (by omega) fun e8 h8 _ => ?_;rw[aA (by unfold bD;omega)];refine bG (by omega) (by omega) λe10 h10 _=>?_;rw[aA ⟨ho _ h8,ho _ h10⟩];split;rw [aA (by omega)];refine aC (P:=λo=>k<=o.1/\o.1<=(xs.length:Int)/\o.2.length=xs.length/\∀s∈o.2,Ab.ok s) (eO (λs=>k<=s.1/\1<=s.2.1/\s.1<=k+s.2.1-1/\s.1<=(xs.length:Int)/\s.2.2.length=xs.length/\∀x∈s.2.2,Ab.ok x) (λs=>xs.length-s.2.1.toNat) xs.length (by omega) ⟨jV _,jV _,by dsimp only;omega,by dsimp only;omega,rfl,ho⟩ (by dsimp only;omega) ?_) ?_;rintro⟨a,c,b⟩ ⟨q1,q2,q3,q4,q5,q6⟩ _;dsimp only at q1 q2 q3 q4 q5 q6⊢;split;rename_i hc;rw[aA (by omega)];refine bG (by omega) (by omega) λe28 h28 _=>?_;rw[aA (by unfold bD;omega),aA (by omega)];refine bG (by omega) (by omega) λe31 h31 _=>?_;rw[aA ⟨q6 _ h28,q6 _ h31⟩];split;rw [aA (by unfold bD; omega)];exact⟨_,rfl,⟨q1,by dsimp only;omega,by dsimp only;omega,q4,q5,q6⟩,by dsimp only;omega⟩;rw [aA (by omega)];refine bG (by omega) (by omega) λe36 h36 _=>?_;refine bG (by omega) (by omega) λe38 h38 _=>?_;rw[aA (by unfold bD;omega),aA (by unfold bD;omega)];refine⟨_,rfl,⟨by dsimp only;omega,by dsimp only;omega,by dsimp only;omega,by dsimp only;omega,by rw[zal60q];exact q5,λx hx=>?_⟩,by dsimp only;omega⟩;rcases xB hx with hx|rfl
 exact q6 x hx;exact q6 _ h36;exact⟨_,rfl,q1,q4,q5,q6⟩;rintro⟨a,b⟩ ⟨q1,q2,q3,q4⟩;dsimp only at q1 q2 q3 q4⊢;rw[aA (by omega),aA (by omega),aA (by omega),aA (by rw[gB];omega)];refine⟨_,rfl,_,rfl,by rw[gB,gB];omega,λs hs=>?_⟩;exact q4 s (xj (xj hs));exact⟨_,rfl,trivial⟩;rw [aA (by unfold bD; omega)];exact⟨_,rfl,⟨by omega,by omega⟩,by omega⟩;rintro b ⟨r,rfl,h1,h2⟩;exact⟨h1,h2⟩;exact⟨_,rfl,trivial⟩
theorem Bc{l:Aa}(hk:LayK l){w:List Ae}(hw:w.length<=1000)(hi:∀s∈w,uS s):eS (lC l w) λr=>r.length<=w.length/\∀x∈r,Ab.ok x:=by
 unfold lC;refine aC (P:=λr=>r.length<=w.length/\∀x∈r,Ab.ok x) (dM (λi s=>s.1=(i:Int)/\s.2.length<=i/\∀x∈s.2,Ab.ok x) w.length (by omega) ⟨rfl,cN _,λx h=>(by cases h)⟩ ?_ ?_) ?_;rintro i ⟨y,b⟩ hi' ⟨q1,q2,q3⟩;dsimp only at q1 q2 q3;subst q1;dsimp only;rw[if_pos (by omega),bC (lR hi')];refine aC (yu _) ?_;rintro⟨p,f⟩ ⟨h1,h2,h3⟩;dsimp only at h1 h2 h3⊢;refine aC (P:=λ_=>True) ?_ λr _=>?_
 cases f with
 |true=>have:=h3 rfl;rw[if_pos rfl];exact bG this.1 this.2.1 λ_ _ _=>tot_some.2 trivial
 |false=>rw[if_neg eX];exact tot_some.2 trivial
 split
 ·rw [aA (by simp; omega), aA (bM hi' (by omega))];refine tot_some.2 ⟨by push_cast;rfl,by simp;omega,λs hs=>?_⟩;rcases zQN.1 hs with hs|hs
  exact q3 s hs;rw[zal82q]at hs;subst hs;refine⟨(hi _ (fM hi')).1,?_⟩;show bD p;unfold bD;omega
 rw [aA (bM hi' (by omega))];exact tot_some.2 ⟨by push_cast;rfl,by show b.length<=i+1;omega,q3⟩;rintro⟨y,b⟩ ⟨q1,q2,q3⟩;dsimp only at q1 q2 q3;subst q1;dsimp only;rw[if_neg (by omega)];exact⟨_,rfl,q2,q3⟩;rintro b ⟨b1,b2⟩;have hp:=pU (m:=dA) b;have hlen:=hp.length_eq;rw[aA (by omega)];refine aC (zn (xs:=pP dA b) (by omega) λs hs=>b2 s (hp.mem_iff.1 hs)) λr hr=>tot_some.2 ⟨by omega,hr.2⟩
theorem cw{l:Aa}{w:List Ae}(hw:w.length<=100000000):eS (gD l w) λr=>r.length<=w.length:=by
 unfold gD;refine aC (P:=λr=>r.1.length<=w.length) (dM (λi s=>s.1=(i:Int)/\s.2.1.length<=i/\(s.2.2.map (·.1)).Nodup) w.length (by omega) ⟨rfl,cN _,by simp⟩ ?_ ?_) λa h=>tot_some.2 h;rintro i ⟨y,b,m⟩ hi ⟨q1,q2,q3⟩;dsimp only at q1 q2 q3;subst q1;dsimp only;rw[if_pos (by omega),bC (lR hi),vE,aH];by_cases hc:0<=w[i].el/\w[i].el<(l.Ad.length:Int);rw [decide_eq_true hc, if_neg (by simp)];refine bG hc.1 hc.2 λx _ _=>?_;rw[aA q3];split;rw [aA q3, aA (by simp; omega), aA (bM hi (by omega))];exact tot_some.2 ⟨by push_cast;rfl,by simp;omega,oM q3 _ _⟩;rw [aA (bM hi (by omega))];exact tot_some.2 ⟨by push_cast;rfl,by show b.length<=i+1;omega,q3⟩;rw [decide_eq_false hc, if_pos (by rfl), aA (bM hi (by omega))];exact tot_some.2 ⟨by push_cast;rfl,by show b.length<=i+1;omega,q3⟩;rintro⟨y,b,m⟩ ⟨q1,q2,q3⟩;dsimp only at q1 q2 q3;subst q1;dsimp only;rw[if_neg (by omega)];exact⟨_,rfl,q2⟩
theorem yP{l:Aa}(hk:LayK l){w:List Ae}(hw:w.length<=1000000):eS (iX l w) λr=>0<=r/\r<=1000000*(w.length:Int):=by
 unfold iX;refine aC (P:=λr=>0<=r/\r<=1000000*(w.length:Int)) (dM (λi s=>s.2=(i:Int)/\0<=s.1/\s.1<=1000000*(i:Int)) w.length (by omega) ⟨rfl,jV _,jV _⟩ ?_ ?_) λa h=>tot_some.2 h;rintro i ⟨a,y⟩ hi ⟨q1,q2,q3⟩;dsimp only at q1 q2 q3;subst q1;dsimp only;rw[if_pos (by omega),bC (lR hi),vE,aH];by_cases hc:0<=w[i].el/\w[i].el<(l.Ad.length:Int);rw[decide_eq_true hc,if_pos rfl];refine bG hc.1 hc.2 λx hxm _=>?_;have hr:=hk.right x hxm;unfold qi at hr;rw[aA (by unfold bD;omega),aA (bM hi (by omega))];refine tot_some.2 ⟨by push_cast;rfl,by show 0<=a+x.length;omega,by show a+x.length<=_;push_cast;omega⟩;rw [decide_eq_false hc, if_neg eX, aA (bM hi (by omega))];exact tot_some.2 ⟨by push_cast;rfl,q2,by show a<=_;push_cast;omega⟩;rintro⟨a,y⟩ ⟨q1,q2,q3⟩;dsimp only at q1 q2 q3;subst q1;dsimp only;rw[if_neg (by omega)];exact⟨_,rfl,q2,q3⟩
def gf(l:Aa)(w:List Ae):Prop:=1<=w.length/\w.length<=64/\∀s∈w,kQ l s
theorem xg{l:Aa}(hk:LayK l){w:List Ae}(h:∀s∈w,uS s):eS (lS l w) λr=>r=true->gf l w:=by
 unfold lS;split;exact tot_some.2 (by simp);rename_i hc;simp only[mX,decide_eq_true_eq,not_or]at hc;unfold mH;rw[aH];refine bL (P:=λo=>match o with|.inl _=>∀s∈w,kQ l s|.inr b=>b=false) (dS w (by omega) (λi=>∀k x,k<i->w[k]?=some x->kQ l x) (λk x hk=>absurd hk (pS k)) ?_ ?_) (λ_ hj=>tot_some.2 λ_=>⟨by omega,by omega,hj⟩) (λb hb h=>by rw[hb]at h;cases h);intro i e hx hI;have hi:=(zQQ.1 hx).1;rw[if_pos (by omega)];refine bL (P:=λo=>match o with|.inl _=>kQ l e|.inr b=>b=.inr (.inr false)) ?_ ?_ ?_;rw[bC hx];refine aC (yu e) ?_;rintro⟨a,b⟩ ⟨h1,h2,h3⟩;dsimp only at h1 h2 h3⊢
 cases b with
 |false=>exact⟨_,rfl,rfl⟩
 |true=>
  have hs:kQ l e:=h3 rfl;rw[if_neg (by simp)];refine bL (P:=λo=>match o with|.inl _=>True|.inr b=>b=.inr (.inr (.inr false))) ?_ ?_ ?_;rw [aA (by omega), xG];refine dS (w.take i) (by rw[gB];omega) (λ_=>True) trivial ?_ ?_;intro k x hxk _;have hk2:=(zQQ.1 hxk).1;have hk3:k<i:=by rw[gB]at hk2;omega
  rw[if_pos (by omega),bC hxk];split;exact⟨_,rfl,.inr ⟨_,rfl,rfl⟩⟩;rw[aA (bM hk3 (by omega))];exact⟨_,rfl,.inl ⟨rfl,trivial⟩⟩;intro _;rw[if_neg (by omega)];exact⟨_,rfl,_,rfl,trivial⟩;intro _ _;split;exact⟨_,rfl,hs⟩;rename_i hz;have hy:=lR (l:=w) (show i-1<w.length by omega);rw[aA (by unfold bD;omega),show(i:Int)-1=((i-1:Nat):Int) by omega,bC hy];refine aC (Jd hk (h _ (fM _))) ?_;rintro⟨f,j⟩ _;dsimp only;split;exact⟨_,rfl,rfl⟩;exact⟨_,rfl,hs⟩;intro b hb;rw[hb]
 intro _ hs;rw[aA (bM hi (by omega))];refine⟨_,rfl,.inl ⟨rfl,λk x hk hkx=>?_⟩⟩;rcases dB k i with h|h
 exact hI k x h hkx;obtain rfl : k = i := by omega
 rw[hx]at hkx;cases hkx;exact hs;intro b hb;rw[hb];exact .inr ⟨_,rfl,rfl⟩;intro hI;rw[if_neg (by omega)];refine⟨_,rfl,_,rfl,λx hx=>?_⟩;obtain⟨k,hk⟩:=iL hx;exact hI k x (zQQ.1 hk).1 hk
def yO(l:Aa)(w:List Ae):Prop:=1<=w.length/\w.length<=12/\∀s∈w,kQ l s
theorem H5{l:Aa}(hk:LayK l){w:List Ae}(h:∀s∈w,kQ l s):∀s∈w,uS s:=λs hs=>gx hk (h s hs)
theorem open_t{p:A0}{w:List Ae}(hw:w.length<=1000000)(i:Int):eS (jB p w i) λ_=>True:=by
 unfold jB;refine aC (kR _) λr _=>?_;refine bL (P:=λ_=>True) (dS w (by omega) (λ_=>True) trivial ?_ ?_) (λ_ _=>tot_some.2 trivial) (λ_ _=>trivial);intro k e hx _;have hi:=(zQQ.1 hx).1;rw[if_pos (by omega),bC hx];split;exact⟨_,rfl,.inr ⟨_,rfl,trivial⟩⟩;refine aC (P := fun _ => True) ?_ fun b _ => ?_
 ·split
  ·rw [aA (by unfold bD; omega)];refine bG (by omega) (by omega) λx _ _=>?_;refine aC (kR _) λr _=>?_;split;exact aC (kR _) λr _=>tot_some.2 trivial;exact tot_some.2 trivial
  exact tot_some.2 trivial
 split
 ·exact⟨_,rfl,.inr ⟨_,rfl,trivial⟩⟩
 rw [aA (bM hi (by omega))];exact⟨_,rfl,.inl ⟨rfl,trivial⟩⟩;intro _;rw[if_neg (by omega)];exact⟨_,rfl,_,rfl,trivial⟩
theorem pass_t{l:Aa}(hk:LayK l){ps:List (List Ae)}(hp:ps.length<=100000){w:List Ae}(hw:yO l w):eS (gQ ⟨l,ps⟩ w) λr=>(0<=r.1.el/\End.ok r.1/\r.2=⟨l,ps⟩)\/(r.1.el=-1/\r.2=⟨l,ps++[w]⟩):=by
 obtain⟨w1,w2,w3⟩:=hw;have hi:=H5 hk w3;have hne:w≠[]:=by intro h;subst h;simp at w1
 have he1:=hk.s.Ad;unfold gQ;refine bL (P:=λo=>match o with|.inl _=>True|.inr r=>0<=r.1.el/\End.ok r.1/\r.2=⟨l,ps⟩) ?_ (λ_ _=>?_) (λb hb=>.inl hb);refine aC (left_t hne (by omega) hi) fun e he => ?_;refine aC (yN hk.w he) λg hg=>?_;split;rw [aA (by unfold bD; omega)];refine bG (by omega) (by omega) λs hs _=>?_;refine aC (Next_t hk (hi s hs)) ?_;rintro⟨f,b⟩ ⟨h1,h2⟩;dsimp only at h1 h2⊢
 cases b with
 |true=>
  have:=h1 rfl;rw[if_pos rfl];exact⟨_,rfl,this.1,h2,rfl⟩
 |false=>rw[if_neg eX];exact⟨_,rfl,trivial⟩
 exact⟨_,rfl,trivial⟩;rw [jI w (by omega), aH, aA (by simp; omega)];exact tot_some.2 (.inr ⟨rfl,rfl⟩)
theorem I6(n:Nat):1<=2^n:=Nat.one_le_two_pow
theorem pow_mono{a b:Nat}(h:a<=b):2^a<=2^b:=Nat.pow_le_pow_right (by decide) h
theorem follow_t{l:Aa}(hk:LayK l):∀(n fu:Nat)(ps:List (List Ae)) (w:List Ae) (e:End),n<fu->w.length+n=12->(∀s∈w,kQ l s)->(∀p∈ps,yO l p)->End.ok e->ps.length+2^n<=100000->eS (eA fu ⟨l,ps⟩ w e) λr=>r.1.l=l/\(∀p∈r.1.paths,yO l p)/\r.1.paths.length<=ps.length+2^n:=by
 intro n
 induction n using Nat.strongRecOn with
 |_ n ih=>
  intro fu ps w e hfu hwn hw hps he hlen;have hn12:n<=12:=by omega
  have h2n:=I6 n
  cases fu with
  |zero=>omega
  |succ fu=>
   unfold eA;refine eO (λs=>End.ok ⟨s.1,s.2.1⟩/\s.2.2.1=ps/\w.length<=s.2.2.2.length/\s.2.2.2.length<=12/\∀x∈s.2.2.2,kQ l x) (λs=>12-s.2.2.2.length) 12 (by omega) ⟨he,rfl,wt _,by dsimp only;omega,hw⟩ (by dsimp only;omega) ?_;rintro⟨a,b,ps',v⟩ ⟨q1,q2,q3,q4,q5⟩ _;dsimp only at q1 q2 q3 q4 q5⊢;subst q2;refine aC (P:=λr=>r=false->v.length≠12) ?_ λr hr=>?_;split
   ·exact tot_some.2 (by simp)
   rename_i hv;refine aC (open_t (by omega) _) λr _=>tot_some.2 λ_ h=>hv (by rw[h];rfl)
   cases r with
   |true=>rw[if_pos rfl];exact⟨_,rfl,rfl,hps,Nat.le_add_right _ _⟩
   |false=>
    have hv:=hr rfl;have hv2:v.length<12:=by omega
    rw[if_neg eX];refine aC (Bh hk q1) ?_;rintro bs ⟨b1,b2⟩
    have hpok:∀x∈bs,yO l (v++[x]):=λx hx=>⟨by simp,by simp;omega,λs hs=>by
     rcases zQN.1 hs with hs|hs
     exact q5 s hs
     rw[zal82q]at hs;subst hs;exact b2 _ hx⟩
    have hvl:∀x:Ae,(v++[x]).length=v.length+1:=λx=>by simp
    split;refine bG (by omega) (by omega) fun x hx _ => ?_;rw[aA (by rw[hvl];omega)];refine aC (pass_t hk (ps:=ps') (by omega) (hpok x hx)) ?_;rintro⟨f,fd⟩ (⟨h1,h2,rfl⟩|⟨h1,rfl⟩);dsimp only at h1 h2⊢;rw[if_pos h1];exact⟨_,rfl,⟨h2,rfl,by rw[hvl];omega,by rw[hvl];omega,(hpok x hx).2.2⟩,by rw[hvl];omega⟩;dsimp only at h1⊢;rw[if_neg (by omega)];refine⟨_,rfl,rfl,λp hp=>?_,by simp;omega⟩;rcases zQN.1 hp with hp|hp
    exact hps p hp;rw[zal82q]at hp;subst hp;exact hpok x hx
    -- each branch gives rise to half of what is allowed
    have hnv:12-v.length<=n:=by omega
    have hhalf:2*2^(12-v.length-1)<=2^n:=by
     have h1:2^(12-v.length)<=2^n:=pow_mono hnv
     have h2:2^(12-v.length)=2*2^(12-v.length-1):=by
      rw[show 12-v.length=(12-v.length-1)+1 by omega,Nat.pow_succ,yV];rfl
     omega
    have h2h:=I6 (12-v.length-1);refine kS (P:=λo=>∃r,o=.inr r/\r.1.l=l/\(∀p∈r.1.paths,yO l p)/\r.1.paths.length<=ps'.length+2^n) (dM (λi s=>s.1=(i:Int)/\(∀p∈s.2,yO l p)/\s.2.length<=ps'.length+i*2^(12-v.length-1)) bs.length (by omega) ⟨rfl,hps,by simp⟩ ?_ ?_) ?_;rintro i ⟨_,ps2⟩ hi ⟨rfl,p1,p2⟩;dsimp only at p1 p2⊢;have hx:=lR hi;have hxm:=fM hi;have hi2:i<=1:=by omega
    have hi3:i*2^(12-v.length-1)<=1*2^(12-v.length-1):=iW _ hi2;have hsucc:(i+1)*2^(12-v.length-1)=i*2^(12-v.length-1)+2^(12-v.length-1):=rK _ _;rw[if_pos (by omega),bC hx,jI v (by omega),aH,aA (by rw[hvl];omega)];refine aC (pass_t hk (ps:=ps2) (by omega) (hpok _ hxm)) ?_;rintro⟨f,fd⟩ (⟨h1,h2,rfl⟩|⟨h1,rfl⟩);dsimp only at h1 h2⊢;rw[if_pos h1];refine aC (ih (12-v.length-1) (by omega) fu ps2 (v++[bs[i]]) f (by omega) (by rw[hvl];omega) (hpok _ hxm).2.2 p1 h2 (by omega)) ?_;rintro⟨fd2,w2⟩ ⟨r1,r2,r3⟩;dsimp only at r1 r2 r3⊢;rw[aA (bM hi (by omega))];exact tot_some.2 ⟨by push_cast;rfl,r2,by dsimp only;omega⟩;dsimp only at h1⊢;rw[if_neg (by omega),aA (bM hi (by omega))];refine tot_some.2 ⟨by push_cast;rfl,λp hp=>?_,by dsimp only;rw[qn];simp only[bq];omega⟩;rcases zQN.1 hp with hp|hp
    exact p1 p hp;rw[zal82q]at hp;subst hp;exact hpok _ hxm;rintro⟨_,ps2⟩ ⟨rfl,p1,p2⟩;dsimp only at p1 p2⊢;rw[if_neg (by omega)];have hb3:bs.length*2^(12-v.length-1)<=2*2^(12-v.length-1):=iW _ b1;exact⟨_,rfl,_,rfl,rfl,p1,by dsimp only;omega⟩;rintro o ⟨r,rfl,h⟩;exact h
structure RtOk (l:Aa) (r:Al):Prop where
 path:yO l r.path
 A4:r.A4.length<=12/\∀s∈r.A4,Ab.ok s
 Ai:r.Ai.length<=12
 exit:-1<=r.exit/\r.exit<(l.Aj.length:Int)
 length:0<=r.length/\r.length<=12000000
def vp(r:Al):Prop:=(r.over=[]/\r.Ax=[]/\r.Aw=[])/\r.A7=[]/\r.guards=[]/\r.gaps=[]
theorem build_t{l:Aa}(hk:LayK l){i:Int}(h0:0<=i)(h1:i<(l.Aj.length:Int)){w:List Ae}(hw:yO l w):eS (qO l i w) λr=>RtOk l r/\r.name.size<=300000000000000/\vp r:=by
 obtain⟨w1,w2,w3⟩:=hw;have hi:=H5 hk w3;have hne:w≠[]:=by intro h;subst h;simp at w1
 unfold qO;refine bG h0 h1 λs hs _=>?_;have hsn:=xL (hk.w.Aj.2 s hs).name;refine aC (left_t hne (by omega) hi) λe he=>?_;refine aC (yN hk.w he) λg hg=>?_;refine aC (P:=λr=>r.size<=140737488355328) ?_ λnm hnm=>?_;split
 ·exact bG (by omega) (by omega) λs hs _=>tot_some.2 (dQ (hk.w.Aj.2 s hs).name (by decide))
 exact tot_some.2 (by decide);have hd:(⟨#[45]⟩:BA).size=1:=rfl;have hsn2:s.name.size<=140737488355328:=dQ (hk.w.Aj.2 s hs).name (by decide);rw[aA (by omega),aA (by rw[C8];omega)];refine aC (Bc hk (by omega) hi) λst hst=>?_;refine aC (cw (by omega)) λsc hsc=>?_;refine aC (kR _) λap _=>?_;refine aC (yP hk (by omega)) λln hln=>?_;refine tot_some.2 ⟨⟨⟨w1,w2,w3⟩,⟨by dsimp only;omega,hst.2⟩,by dsimp only;omega,hg,by dsimp only;omega⟩,?_,⟨rfl,rfl,rfl⟩,rfl,rfl,rfl⟩;show((s.name++(⟨#[45]⟩:BA))++nm).size<=_;rw[C8,C8];omega
theorem zj:∀n:Nat,(Go.Lib.decDigits n).length<=n+1:=by
 intro n
 induction n using Nat.strongRecOn with
 |_ n ih=>
  unfold Go.Lib.decDigits;split;simp;rw[qn];have:=ih (n/10) (by omega);simp only[bq];omega
theorem Itoa_t{n:Int}(h0:0<=n)(h1:n<=1000000):eS (strconv_Itoa n) λr=>r.size<=1000002:=by
 unfold strconv_Itoa;rw[aA (by unfold bD;omega)];refine tot_some.2 ?_;show((Go.Lib.itoa n).toArray).size<=_;unfold Go.Lib.itoa;rw[if_neg (by omega)];have:=zj n.toNat;simp only[pQ];omega
theorem From_t{l:Aa}(hk:LayK l)(i:Int):eS (sI l i) λr=>r.length<=5000/\∀x∈r,RtOk l x/\vp x:=by
 unfold sI;split;exact tot_some.2 ⟨by simp,by simp⟩;rename_i hc;simp only[mX,decide_eq_true_eq,not_or]at hc;refine bG (by omega) (by omega) λs hs _=>?_;refine aC (gh hk (xw (hk.w.Aj.2 s hs).atV)) ?_;rintro⟨e,b⟩ ⟨h1,h2⟩;dsimp only at h1 h2⊢;split;exact tot_some.2 ⟨by simp,by simp⟩;unfold mZ;refine aC (follow_t hk 12 lN [] [] e (by unfold lN;omega) rfl (by simp) (by simp) h2 (by decide)) ?_;rintro⟨fd,w⟩ ⟨f1,f2,f3⟩;dsimp only at f1 f2 f3⊢;have f4:fd.paths.length<=4096:=by simpa using f3
 refine aC (P:=λr=>r.1.length<=5000/\∀x∈r.1,RtOk l x/\vp x) (dM (λi s=>s.1=(i:Int)/\(s.2.1.length=i/\∀x∈s.2.1,RtOk l x/\vp x)/\(s.2.2.map (·.1)).Nodup/\∀k,0<=(bH s.2.2 k).getD 0/\(bH s.2.2 k).getD 0<=(i:Int)) fd.paths.length (by omega) ⟨rfl,⟨rfl,by simp⟩,by simp,λk=>by rw[qh];simp⟩ ?_ ?_) λr hr=>tot_some.2 hr;rintro j ⟨_,rs,m⟩ hj ⟨rfl,⟨q1,q2⟩,q3,q4⟩;dsimp only at q1 q2 q3 q4⊢;rw[if_pos (by omega),bC (lR hj)];refine aC (build_t hk (by omega) (by omega) (f2 _ (fM hj))) ?_;rintro r ⟨r1,r2,r3⟩;have hq:=q4 r.name;have hget:∀k,bH (lP m r.name (((bH m r.name).getD 0)+1)) k=if k=r.name then some (((bH m r.name).getD 0)+1)else bH m k:=λk=>Cy m r.name _ k;have hself:(bH (lP m r.name (((bH m r.name).getD 0)+1)) r.name).getD 0=((bH m r.name).getD 0)+1:=by rw[hget,if_pos rfl];rfl
 rw[aA q3,aA (by unfold bD;omega),aA q3];refine aC (P:=λ_=>True) ?_ λnm _=>?_;rw[aA (oM q3 _ _),hself];split;refine aC (Itoa_t (by omega) (by omega)) fun d hd => ?_;have hdd:(⟨#[46]⟩:BA).size=1:=rfl;rw[aA (by omega),aA (by rw[C8];omega)];exact tot_some.2 trivial;exact tot_some.2 trivial;rw [aA (by simp; omega), aA (bM hj (by omega))];refine tot_some.2 ⟨by push_cast;rfl,⟨by simp;omega,λx hx=>?_⟩,oM q3 _ _,λk=>?_⟩;rcases zQN.1 hx with hx|hx
 ·exact q2 x hx
 rw[zal82q]at hx;subst hx;exact⟨⟨r1.path,r1.A4,r1.Ai,r1.exit,r1.length⟩,r3⟩;dsimp only;rw[hget];split;show 0<=((bH m r.name).getD 0)+1/\((bH m r.name).getD 0)+1<=_;push_cast;omega;have:=q4 k;push_cast;omega;rintro⟨_,rs,m⟩ ⟨rfl,⟨q1,q2⟩,_⟩;dsimp only at q1 q2⊢;rw[if_neg (by omega)];exact⟨_,rfl,by dsimp only;omega,q2⟩
theorem All_t{l:Aa}(hw:Aa.Wf l):eS (uG l) λr=>r.2=0->LayK l/\r.1.length<=48/\∀x∈r.1,RtOk l x/\vp x:=by
 unfold uG;refine aC (J0 hw) λr hr=>?_;split;rename_i h0;have hk:=hr h0;have hsig:=hk.s.Aj;refine aC (P:=λr=>∀x∈r,RtOk l x/\vp x) (dM (λi s=>s.1=(i:Int)/\s.2.length<=5000*i/\∀x∈s.2,RtOk l x/\vp x) l.Aj.length (by omega) ⟨rfl,cN _,by simp⟩ ?_ ?_) λrs hrs=>?_;rintro i ⟨_,b⟩ hi ⟨rfl,q1,q2⟩;dsimp only at q1 q2⊢;rw[if_pos (by omega)];refine aC (From_t hk _) λr hr=>?_;rw[aA (by rw[qn];omega),aA (bM hi (by omega))];refine tot_some.2 ⟨by push_cast;rfl,by rw[qn];omega,λx hx=>?_⟩;rcases zQN.1 hx with hx|hx
 exact q2 x hx;exact hr.2 x hx;rintro⟨_,b⟩ ⟨rfl,q1,q2⟩;dsimp only at q1 q2⊢;rw[if_neg (by omega)];exact⟨_,rfl,q2⟩;split
 ·exact tot_some.2 (by intro h;cases h)
 exact tot_some.2 λ_=>⟨hk,by dsimp only;omega,hrs⟩;rename_i h0;exact tot_some.2 λh=>absurd h h0
end Go.Proofs.YtjmpojlgegloeaaGreatDoor
