/- A part of the proof. No condition. -/
import Derived.Test.YtandcfplaooadaaGreatDoorQe
set_option linter.unusedSimpArgs false
set_option linter.unusedVariables false

set_option linter.unusedVariables false
set_option linter.unusedSimpArgs false
set_option maxHeartbeats 400000
namespace Go.Proofs.YtandcfplaooadaaGreatDoor
open Go Go.TL
variable {el n:Int}{i k:Nat}{r:Aj}{s:Av}{t:Ah}{x y:Ac}{α β:Type}
theorem zH{n:Nat}(h:i<n):((i:Int)<(n:Int))=True:=Gd
abbrev Qu(l:List α):Prop:=l.length<=9223372036854775807
theorem eq(l:List Int)(x:Int)(h:Qu l):eT l x=some (kA (cL l x)):=by unfold eT;rw[Nd l (λy=>y == x) (λi=>.inr (i:Int)) (.inl ()) h];unfold cL;cases l.findIdx? (λy=>y == x)<;>rfl;intro i e he;have hi:=gJ he;simp only[zH hi,if_true,aR he];by_cases hx:x=e;simp[hx];have:¬(e == x)=true:=(by simp;exact λq=>hx q.symm);simp[hx,this,eO hi h];simp
theorem pA(t:Ah)(x:Int)(h:Qu t.Af):gM t x=some (kA (cL t.Af x)):=by simp[gM,eq _ _ h]
theorem vF(l:List Int)(x:Int)(h:Qu l):cO l x=some (decide (x∈l)):=by simp only[cO,eq l x h,aC,jA];rw[qCC,C0]
theorem Gi(n c:Int):iH n c=some (Nl n c):=by simp[iH,Nl]
theorem yF(n:Nat)(P:Nat->Bool):((List.range n).any λi=>!P i)=!vU n P:=by simp[vU,Jr]
theorem qT(l:List α)(P:α->Bool):(l.any λi=>!P i)=!l.all P:=by simp[Jr]
theorem Xj(t:Ah)(h:Qu t.Af):uI t=some (zE t):=by unfold uI zE;by_cases e:t.A9.length=t.Af.length;rw[if_pos (by rw[e]),vM t.Af.length (λi=>!Xk t i) (.inr false) (.inl ()) h,yF];simp only[e,decide_true,pX];cases vU t.Af.length (Xk t)<;>rfl;intro i hi;obtain⟨p,hp⟩:=vp hi;obtain⟨q,hq⟩:=vp (xs:=t.Af) (i:=i-1) aB;obtain⟨hm,hh⟩:=vp (xs:=t.A9) (i:=i) aB;simp only[zH hi,if_true,aR hp,aR hh,Gi,aC];rw[Gs hp hq hh];by_cases h0:0<i;have e1:((i:Int)-1)=((i-1:Nat):Int):=aB;have e2:cI ((i-1:Nat):Int):=Q5;have e3:(0:Int)<(i:Int):=aB;simp only[e1,aK e2,aR hq,e3,if_true];simp only[qb,aC,aK (eO hi h),jG];grind [Nl];have e3:¬(0:Int)<(i:Int):=aB;simp only[e3,if_false,qb,aC,aK (eO hi h),jG];grind [Nl];simp;rw[mF];simp[e]
theorem bh(t:Ah)(l:List Ac)(ht:Qu t.Af)(h:Qu l):gO t l=some (lA t l):=by unfold gO lA;rw[vM l.length (λi=>!W3 t l i) (.inr false) (.inl ()) h,yF];cases vU l.length (W3 t l)<;>rfl;intro i hi;obtain⟨x,hx⟩:=vp hi;obtain⟨y,hy⟩:=vp (xs:=l) (i:=i-1) aB;simp only[zH hi,if_true,aR hx,pA _ _ ht,aC,idxI_neg];rw[Ei hx hy];by_cases h0:0<i;have e1:((i:Int)-1)=((i-1:Nat):Int):=aB;have e2:cI ((i-1:Nat):Int):=Q5;have e3:(0:Int)<(i:Int):=aB;simp only[e1,aK e2,aR hy,e3,if_true,qb,aC,aK (eO hi h),jG];grind;have e3:¬(0:Int)<(i:Int):=aB;simp only[e3,if_false,qb,aC,aK (eO hi h),jG];grind;simp
theorem qCX(a b:List Ac):(a.any λx=>b.any λy=>decide (x.el=y.el)&&!decide (x.pos=y.pos))=!tC a b:=by unfold tC;rw[Jr];congr 1;funext x;rw[Jr];simp
theorem Lw(a b:List Ac)(ha:Qu a)(hb:Qu b):kQ a b=some (tC a b):=by unfold kQ;rw[nH a (λx=>b.any λy=>decide (x.el=y.el)&&!decide (x.pos=y.pos)) (.inr false) (.inl ()) ha,qCX];cases tC a b<;>rfl;intro i x hx;have hi:=gJ hx;simp only[zH hi,if_true,aR hx];rw[nH b (λy=>decide (x.el=y.el)&&!decide (x.pos=y.pos)) (.inr (.inr (.inr false))) (.inl ()) hb];simp only[aK (eO hi ha)];split<;>rfl;intro j y hy;have hj:=gJ hy;simp only[zH hj,if_true,aR hy,aK (eO hj hb),jG];simp;simp
structure Short (r:Aj):Prop where
 secs:r.Aa.length+r.Ae.length<=2000000
 Af:r.Af.length<=2000000
 over:r.Am.length<=2000000
 A4:r.A4.length<=2000000
structure TOk (t:Ah):Prop where
 Ab:t.Ab.length<=2000000
 Af:t.Af.length<=2000000
 each:∀r∈t.Ab,Short r
theorem zr(xss:List (List Int))(h:xss.length<=1000/\xss.flatten.length<=1000000000):lT xss=some xss.flatten:=aK h
theorem Zy(t:Ah)(r:Aj)(hs:t.Aa<=24)(h:Short r):rU t r=some (rE t r):=by have h1:=h.secs;unfold rU;rw[zr _ iK];have hcat:([r.Aa,r.Ae]:List (List Int)).flatten=r.Aa++r.Ae:=aN;simp only[hcat,aC,Gi,qb];generalize hl:r.Aa++r.Ae=l;have hln:l.length<=2000000:=(by rw[<- hl];simp;omega);rw[Nf l.length (yU l) (λi=>!secB t l i) (.inr false) (.inl (yU l l.length)) (qIL l).symm aB,yF];unfold rE qCD H3;rw[hl];clear hcat hl;cases vU l.length (secB t l);simp only[sJ,if_true,qJ,Kz,jA];rw[zal18q];simp only[Y4,pQ,decide_eq_true_eq,lP,Nl,gH,decide_eq_false_iff_not];grind;simp only[tX,kV,if_false,iA,Kz,jA];rw[zal18q];simp only[Y4,pQ,decide_eq_true_eq,lP,Nl,gH,decide_eq_false_iff_not];grind;intro i hi _;obtain⟨x,hx⟩:=vp hi;simp only[zH hi,if_true,aR hx];rw[gx hx];by_cases hin:Nl x t.Aa=true;have hx0:0<=x/\x<24:=(by unfold Nl at hin;simp at hin;omega);have hg:=qNY l i hx0.1 hx0.2;simp only[hin,aK hx0.2,vB hx0.1 hg,aC,tX,pX,D5,fg hi,qNX hx hx0.1 hx0.2,jG];by_cases hm:x∈l.take i<;>simp[hm];have hin:Nl x t.Aa=false:=(by simpa using hin);simp[hin];intro _;simp
theorem qJV[DecidableEq α]{fs:List (α×β)}{k:α}{v:β}(h:cZ fs k=none):tK fs k v=fs++[(k,v)]:=by unfold tK;have:(fs.findIdx? λx=>decide (x.1=k))=none:=(by unfold cZ at h;rw[Be,L9]at h;rw[Ik];intro x hx;simpa using h x hx);rw[this]
theorem qKW(t:Ah)(h:t.Ab.length<=2000000)(k:List (BA×Bool)->Option Int):dZ (bK (λ(x,b)=>if x<(t.Ab.length:Int)then bL t.Ab x λe=>aH (b.map (·.1)).Nodup <|if(((cZ b e.name).getD false))=true then aX (aX (some (8:Int)))else aH (b.map (·.1)).Nodup <|aH (cI (x+(1:Int))) <|some (.inl ((x+(1:Int)),(tK b e.name true)))else aX (some (.inl b))) ((0:Int),([]:List (BA×Bool)))) k=if Ja t.Ab=true then k (oO t.Ab t.Ab.length)else some 8:=by rw[Nf t.Ab.length (oO t.Ab) (λi=>!qBO t.Ab i) (.inr 8) (.inl (oO t.Ab t.Ab.length)) (qGH _).symm aB,yF];unfold Ja;cases vU t.Ab.length (qBO t.Ab)<;>rfl;intro i hi hj;obtain⟨x,hx⟩:=vp hi;have hnd:((oO t.Ab i).map (·.1)).Nodup:=H8 λj hjj=>(by have:=hj j hjj;simpa using this);simp only[zH hi,if_true,aR hx,aK hnd,fg hi];rw[Xu hx,D5];have ha:=Z8 t.Ab i x.name;(cases hc:((t.Ab.take i).any λq=>decide (q.name=x.name))with|true=>rw[hc]at ha;have:((cZ (oO t.Ab i) x.name).getD false)=true:=(by cases e:cZ (oO t.Ab i) x.name with|none=>rw[e]at ha;simp at ha|some b=>rw[e]at ha;simp at ha;simp[ha]);simp[this]|false=>have hn:=qGI hc;simp[hn,qJV hn,Kn hx]);intro hj;simp
theorem qKV(l:List Aj)(P:Aj->Bool)(v:Int)(h:l.length<=2000000)(g:Aj->Option Bool)(hg:∀r∈l,g r=some (P r))(k:Unit->Option Int):dZ (bK (λx=>if x<(l.length:Int)then bL l x λe=>aE (g e) λr=>if(!(r))=true then aX (aX (some v))else aH (cI (x+(1:Int))) <|some (.inl (x+(1:Int)))else aX (some (.inl ()))) (0:Int)) k=if l.all P=true then k ()else some v:=by rw[nH l (λr=>!P r) (.inr v) (.inl ()) aB,qT];cases l.all P<;>rfl;intro i x hx;have hi:=gJ hx;simp only[zH hi,if_true,aR hx,hg x (kK hx),aC,fg hi,jG];simp
theorem Kq(l:List Aj)(P:Aj->Bool)(v:Int)(h:l.length<=2000000)(g:Aj->Option Bool)(hg:∀r∈l,g r=some (!P r))(k:Unit->Option Int):dZ (bK (λx=>if x<(l.length:Int)then bL l x λe=>aE (g e) λr=>if r=true then aX (aX (some v))else aH (cI (x+(1:Int))) <|some (.inl (x+(1:Int)))else aX (some (.inl ()))) (0:Int)) k=if l.all P=true then k ()else some v:=by rw[nH l (λr=>!P r) (.inr v) (.inl ()) aB,qT];cases l.all P<;>rfl;intro i x hx;have hi:=gJ hx;simp only[zH hi,if_true,aR hx,hg x (kK hx),aC,fg hi,jG];simp
theorem qUP(t:Ah)(r:Aj)(ht:Qu t.Af)(h:Short r):(aE (gO t r.Af) λa=>if(!(a))=true then some true else aE (gO t r.Am) λb=>if(!(b))=true then some true else aE (gO t r.A4) λc=>some (!(c)))=some (!xP t r):=by have h1:=h.Af;have h2:=h.over;have h3:=h.A4;rw[bh t _ ht aB,bh t _ ht aB,bh t _ ht aB];unfold xP;cases lA t r.Af<;>cases lA t r.Am<;>cases lA t r.A4<;>rfl
theorem qQX(r:Aj)(h:Short r):(aE (kQ r.Af r.Am) λa=>if(!(a))=true then some true else aE (kQ r.Af r.A4) λb=>if(!(b))=true then some true else aE (kQ r.Am r.A4) λc=>some (!(c)))=some (!cw r):=by have h1:=h.Af;have h2:=h.over;have h3:=h.A4;rw[Lw _ _ aB aB,Lw _ _ aB aB,Lw _ _ aB aB];unfold cw;cases tC r.Af r.Am<;>cases tC r.Af r.A4<;>cases tC r.Am r.A4<;>rfl
theorem qXG(l:List Aj)(p q:Aj->Bool):l.all (λr=>p r&&q r)=(l.all p&&l.all q):=by rw[zal18q];simp only[zQT,pQ];exact⟨λh=>⟨λx hx=>(h x hx).1,λx hx=>(h x hx).2⟩,λh x hx=>⟨h.1 x hx,h.2 x hx⟩⟩
theorem eu(t:Ah)(h:TOk t):oW t=some (fE t):=by have hp:=h.Af;have hr:=h.Ab;unfold oW;by_cases hl:Qj t=true;have hs:t.Aa<=24:=(by unfold Qj at hl;simp at hl;omega);have hc:(if(48:Int)<(t.Ab.length:Int)then some true else if(32:Int)<(t.Af.length:Int)then some true else aE (iH t.Aa (25:Int)) λr5=>if(!(r5))=true then some true else aE (iH t.Al (21:Int)) λr7=>some (!(r7)))=some false:=(by simp only[Gi,aC];unfold Qj at hl;simp only[decide_eq_true_eq]at hl;rw[mF,mF,if_neg (by unfold Nl;simp;omega)];simp[Nl];omega);rw[hc];simp only[aC,Xj t aB];by_cases hpb:zE t=true;simp only[hpb];simp only[tX,kV,if_false];rw[qKV t.Ab (rE t) 1 hr (rU t) (λr hm=>Zy t r hs (h.each r hm))];rw[Kq t.Ab (xP t) 1 hr _ (λr hm=>qUP t r aB (h.each r hm)),Kq t.Ab cw 10 hr _ (λr hm=>qQX r (h.each r hm)),qKW t hr];unfold fE;rw[qXG];simp only[hl,hpb];cases t.Ab.all (rE t)<;>cases t.Ab.all (xP t)<;>cases t.Ab.all cw<;>cases Ja t.Ab<;>rfl;rw[qHO hl (by simpa using hpb)];simp[hpb];rw[qWZ qf];have hc:(if(48:Int)<(t.Ab.length:Int)then some true else if(32:Int)<(t.Af.length:Int)then some true else aE (iH t.Aa (25:Int)) λr5=>if(!(r5))=true then some true else aE (iH t.Al (21:Int)) λr7=>some (!(r7)))=some true:=(by simp only[Gi,aC];unfold Qj at hl;simp only[decide_eq_true_eq]at hl;grind [Nl]);rw[hc];rfl
theorem qFC(x:Ag)(n:Int)(hn:0<=n/\n<=2000000):xC x n=some (dA x n):=by unfold xC;simp only[aK (show cI (n-1) by unfold cI;omega),qb,aC];simp only[Kz,jA];rw[zal18q];unfold dA;simp only[Y4,pQ,decide_eq_true_eq,lP,and_true,kV,and_false,or_false];rcases Decidable.em (x.state=0)with s0|s0<;>rcases Decidable.em (x.state=1)with s1|s1<;>rcases Decidable.em (x.state=2)with s2|s2<;>rcases Decidable.em (x.state=3)with s3|s3<;>rcases Decidable.em (x.state=4)with s4|s4<;>first|omega|(simp only[s0,s1,s2,s3,s4,if_true,if_false,true_and,false_and,or_false,false_or,not_true,not_false_iff,and_true,and_false,true_or,or_true];omega)
theorem qUI(t:Ah)(s:Av)(h:TOk t)(hlen:s.Ab.length=t.Ab.length)(g:Ag->Int->Option Bool)(hg:∀x n,0<=n/\n<=2000000->g x n=some (dA x n))(k:Unit->Option Bool):dZ ( bK (λx9=>if x9<(s.Ab.length:Int)then bL s.Ab x9 λe12=>bL t.Ab x9 λe13=>aE (g e12 (e13.Aa.length:Int)) λr14=>if(!(r14))=true then aX ( aX ( some false))else aH (cI (x9+(1:Int))) <|some (.inl (x9+(1:Int)))else aX ( some (.inl ()))) (0:Int)) k=if vU s.Ab.length (qH t s)=true then k ()else some false:=by have hr:=h.Ab;rw[vM s.Ab.length (λi=>!qH t s i) (.inr false) (.inl ()) aB,yF];cases vU s.Ab.length (qH t s)<;>rfl;intro i hi;obtain⟨x,hx⟩:=vp hi;obtain⟨r,hrr⟩:=vp (xs:=t.Ab) (i:=i) aB;have hs:=(h.each r (kK hrr)).secs;simp only[zH hi,if_true,aR hx,aR hrr,hg x _ (show 0<=(r.Aa.length:Int)/\(r.Aa.length:Int)<=2000000 by omega),aC,oJ hx hrr,fg hi,jG];simp
theorem liesLoop(l:List Int)(h:Qu l)(k:Unit->Option Bool):dZ ( bK (λx22=>if x22<(l.length:Int)then bL l x22 λe25=>if((!(decide (e25=(1:Int))))&&(!(decide (e25=(2:Int)))))=true then aX ( aX ( some false))else aH (cI (x22+(1:Int))) <|some (.inl (x22+(1:Int)))else aX ( some (.inl ()))) (0:Int)) k=if l.all Qk=true then k ()else some false:=by rw[nH l (λr=>!Qk r) (.inr false) (.inl ()) h,qT];cases l.all Qk<;>rfl;intro i x hx;have hi:=gJ hx;simp only[zH hi,if_true,aR hx,aK (eO hi h),jG,Qk];by_cases h1:x=1<;>by_cases h2:x=2<;>simp[h1,h2];simp
theorem qCG(t:Ah)(s:Av):(if fE t=(0:Int)then if(s.Ab.length:Int)=(t.Ab.length:Int)then some (!(decide ((s.lies.length:Int)=(t.Af.length:Int))))else some true else some true)=some (!decide (fE t=0/\s.Ab.length=t.Ab.length/\s.lies.length=t.Af.length)):=by by_cases h1:fE t=0<;>by_cases h2:s.Ab.length=t.Ab.length<;>by_cases h3:s.lies.length=t.Af.length<;>simp[h1,h2,h3]<;>omega
theorem qSY(t:Ah)(s:Av)(h:TOk t):bq t s=some (kT t s):=by have hp:=h.Af;unfold bq kT;simp only[eu t h,aC,qCG];by_cases hd:fE t=0/\s.Ab.length=t.Ab.length/\s.lies.length=t.Af.length;rw[decide_eq_true hd];simp only[tX,kV,if_false];rw[qUI t s h hd.2.1 _ (λx n hn=>qFC x n hn),liesLoop s.lies qL];cases vU s.Ab.length (qH t s)<;>cases s.lies.all Qk<;>rfl;simp[hd]
theorem fits_get(h:kT t s=true)(hi:i<t.Ab.length):∃r x,t.Ab[i]?=some r/\s.Ab[i]?=some x/\dA x r.Aa.length=true:=by obtain⟨_,h2,_,h4,_⟩:=fitsB_iff.1 h;obtain⟨r,hr⟩:=vp hi;obtain⟨x,hx⟩:=vp (xs:=s.Ab) (i:=i) aB;exact⟨r,x,hr,hx,by rw[<- oJ hx hr];exact h4 i aB⟩
theorem J8{x:Ag}{n:Nat}(h:dA x n=true):0<=x.rel/\x.rel<=n:=by unfold dA at h;split at h;simp at h;omega;split at h;simp at h;omega;split at h;simp at h;omega;cases h
theorem zx(l:List Int)(h:l.length<=1000000000):dH l=some l:=by unfold dH;rw[aK fc];cases l<;>simp[Fh]
theorem qKU(r:Aj)(x:Ag)(h:Short r)(hx:dA x r.Aa.length=true):vg r x=some (pJ r x):=by have hr:=J8 hx;have hs:=h.secs;unfold vg pJ;split;rfl;rw[aK ⟨hr.1,hr.2,tW _⟩];have e:x.rel=((x.rel.toNat:Nat):Int):=aB;rw[e,qIR];simp only[yP];rw[zx _ iK];rfl
theorem lover_eq(r:Aj)(x:Ag)(h:Short r):Cv r x=some (sF r x):=by have hs:=h.secs;unfold Cv sF;split;rfl;rw[zx _ aB];rfl
theorem qWC(t:Ah)(s:Av)(n:Int)(h:TOk t):(if n<(0:Int)then some true else if(t.Ab.length:Int)<=n then some true else aE (bq t s) λr5=>some (!(r5)))=some (!decide (0<=n/\n<t.Ab.length/\kT t s=true)):=by simp only[qSY t s h,aC];by_cases h1:n<0;rw[if_pos h1];simp;omega;by_cases h2:(t.Ab.length:Int)<=n;rw[if_neg h1,if_pos h2];simp;omega;rw[if_neg h1,if_neg h2];cases kT t s<;>simp<;>omega
theorem Path_eq(t:Ah)(s:Av)(n:Int)(h:TOk t):Cw t s n=some (Oc t s n):=by
 unfold Cw;simp only[qWC t s n h,aC];by_cases hd:0<=n/\n<t.Ab.length/\kT t s=true;obtain⟨i,rfl⟩:=yQ hd.1;obtain⟨r,x,hr,hx,hf⟩:=fits_get hd.2.2 (i:=i) aB;simp only[hd,decide_true,tX,kV,if_false,and_self,aR hr,aR hx];rw[qKU r x (h.each r (kK hr)) hf];unfold Oc;rw[qLA hd.2.2 hr hx];rfl;simp only[hd,decide_false,sJ,if_true];unfold Oc
 rw [lockI_no (by
  by_cases h1:n<0;exact .inl h1;by_cases h2:(t.Ab.length:Int)<=n
  ·exact .inr (.inl h2)
  refine .inr (.inr ?_)
  cases e:kT t s with
  |false=>rfl
  |true=>exact absurd ⟨aB,aB,e⟩ hd)]
theorem qWD(f:Aj->Ag->List Int)(hf:∀r x,(f r x).length<=r.Aa.length+r.Ae.length)(t:Ah)(s:Av)(n:Int)(h:TOk t):(X2 f t s n).length<=2000000:=by unfold X2;split;split;rename_i r x hr hx;have:=(h.each r (kK hr)).secs;have:=hf r x;omega;simp;simp
theorem qVK(t:Ah)(s:Av)(n:Int)(h:TOk t):(Oc t s n).length<=2000000:=qWD pJ (λr x=>by unfold pJ;split<;>simp<;>omega) t s n h
def qBS(x y:Ac):Bool:=decide (x.el<y.el)||(decide (x.el=y.el)&&decide (x.pos<y.pos))
theorem Kp:qBS x y=true↔x.el<y.el\/x.el=y.el/\x.pos<y.pos:=by simp[qBS]
theorem X0(x:Ac):qBS x x=false:=by simp[qBS]
theorem qBR{z:Ac}(h1:qBS x y=true)(h2:qBS y z=true):qBS x z=true:=by rw[Kp]at *; omega
theorem qVZ(h1:qBS x y=true)(h2:qBS y x=true):False:=by rw[Kp]at *; omega
theorem Yo(h1:x.el=y.el)(h2:x.pos=y.pos):x=y:=by obtain⟨a,b⟩:=x;obtain⟨c,d⟩:=y;simp_all
theorem qGL(h1:qBS x y=false)(h2:qBS y x=false):x=y:=by have h1':¬(x.el<y.el\/x.el=y.el/\x.pos<y.pos):=λh=>(by rw[<- Kp,h1]at h;cases h);have h2':¬(y.el<x.el\/y.el=x.el/\y.pos<x.pos):=λh=>(by rw[<- Kp,h2]at h;cases h);exact Yo aB aB
def Ya(x:Ac):List Ac->List Ac
 |[]=>[x]
 |y::r=>if qBS x y=true then x::y::r else if x=y then y::r else y::Ya x r
def gE:List Ac->List Ac
 |[]=>[]
 |x::r=>Ya x (gE r)
abbrev Asc(l:List Ac):Prop:=l.Pairwise (λa b=>qBS a b=true)
theorem insS_mem{s x:Ac}:∀{l},s∈Ya x l↔s=x\/s∈l
 |[]=>by simp[Ya]
 |y::r=>by
  unfold Ya;split;simp;split
  ·rename_i e;subst e;simp
  simp only[zQB,insS_mem];grind
theorem ascS_mem{s:Ac}:∀{l},s∈gE l↔s∈l
 |[]=>by simp[gE]
 |x::r=>by simp[gE,insS_mem,ascS_mem]
theorem qLR(x:Ac):∀l,Asc l->Asc (Ya x l)
 |[],_=>by simp[Ya]
 |y::r,h=>by
  have h':=zal129q.1 h;unfold Ya;split;rename_i hxy;refine zal129q.2 ⟨λb hb=>?_,h⟩;rcases zQB.1 hb with rfl|hb
  exact hxy;exact qBR hxy (h'.1 b hb);split
  ·exact h
  rename_i h1 h2;refine zal129q.2 ⟨λb hb=>?_,qLR x r h'.2⟩;rcases insS_mem.1 hb with rfl|hb
  cases h3:qBS y b with
  |true=>rfl
  |false=>exact absurd (qGL sN h3) h2
  exact h'.1 b hb
theorem qNE:∀l,Asc (gE l)
 |[]=>.nil
 |x::r=>qLR x _ (qNE r)
theorem Y9:∀{l m:List Ac},Asc l->Asc m->(∀s,s∈l↔s∈m)->l=m
 |[],[],_,_,_=>rfl
 |[],y::m,_,_,h=>absurd ((h y).2 (jI ..)) aN
 |x::l,[],_,_,h=>absurd ((h x).1 (jI ..)) aN
 |x::l,y::m,h1,h2,h=>by
  have h1':=zal129q.1 h1;have h2':=zal129q.1 h2
  have e:x=y:=by
   rcases zQB.1 ((h x).1 (jI ..))with e|hx
   exact e;rcases zQB.1 ((h y).2 (jI ..))with e|hy
   ·exact e.symm
   exact(qVZ (h2'.1 x hx) (h1'.1 y hy)).elim
  subst e
  have:=Y9 h1'.2 h2'.2 λs=>⟨λhs=>by
   rcases zQB.1 ((h s).1 (pP _ hs))with e|h3
   subst e;have:=h1'.1 s hs;rw[X0]at this;cases this
   exact h3,λhs=>by
   rcases zQB.1 ((h s).2 (pP _ hs))with e|h3
   subst e;have:=h2'.1 s hs;rw[X0]at this;cases this
   exact h3⟩
  rw[this]
theorem ascS_eq{l m:List Ac}(h:Asc m)(hm:∀s,s∈m↔s∈l):m=gE l:=Y9 h (qNE l) λs=>by rw[hm,ascS_mem]
theorem qZ(l:List Ac):(gE l).length<=l.length:=by induction l with|nil=>simp[gE]|cons x r ih=>have:∀m,(Ya x m).length<=m.length+1:=(by intro m;induction m with|nil=>simp[Ya]|cons y q ih=>unfold Ya;split<;>(try split)<;>simp<;>omega);have h:=this (gE r);simp only[gE,kM];omega
theorem qGM(x y:Ac):Dj fO x y=qBS x y:=by rw[zal18q,Kp];simp only[Dj,qn,sK,qER,decide_eq_true_eq];split<;>split<;>(try split)<;>(try split)<;>omega
def zY(L:List Ac):Nat->List Ac
 |0=>[]
 |i+1=>match L[i]? with
  |none=>zY L i
  |some e=>if i=0\/¬L[i-1]?=some e then zY L i++[e]else zY L i
theorem qCN(L:List Ac):∀i,(zY L i).length<=i
 |0=>oA _
 |i+1=>by
  have:=qCN L i;unfold zY;split;omega;split
  ·simp;omega
  omega
theorem qMG(L : List Ac)(hs : L.Pairwise (fun a b => qBS b a = false)) : ∀ i, i <= L.length -> Asc (zY L i) /\ ∀ s, s ∈ zY L i ↔ s ∈ L.take i
 |0,_=>⟨.nil,λs=>by simp[zY]⟩
 |i+1,hi=>by
  obtain⟨h1,h2⟩:=qMG L hs i aB;have he:L[i]?=some L[i]:=aN
  rw[zal130q]at hs;have htake:L.take (i+1)=L.take i++[L[i]]:=by rw[iQ,he];rfl
  unfold zY;rw[he];simp only;split;rename_i hc;refine⟨List.pairwise_append.2 ⟨h1,aN,λa ha b hb=>?_⟩,λs=>by rw[htake,zQN,zQN,h2]⟩;simp only[zal121q]at hb;subst hb;rcases hc with h0|hc
  subst h0;simp[zY]at ha;have hi0 : i ≠ 0 := fun e => by subst e; simp [zY] at ha
  obtain⟨j,hj,rfl⟩:=zal122q.1 ((h2 a).1 ha);have e1:L[i-1]?=some L[i-1]:=D6
  have hne:L[i-1]≠L[i]:=λe=>hc (by rw[e1,e])
  have hlt:qBS L[i-1] L[i]=true:=by
   cases h3:qBS L[i-1] L[i]with
   |true=>rfl
   |false=>exact absurd (qGL h3 (hs (i-1) i aB aB aB)) hne
  by_cases hj':j=i-1;subst hj';exact hlt;have h4 := hs j (i - 1) aB aB aB
  cases h5:qBS L[j] L[i-1]with
  |true=>exact qBR h5 hlt
  |false=>rw[qGL h5 h4];exact hlt
  rename_i hc;refine⟨h1,λs=>?_⟩;rw[htake,zQN,h2];have hi0:i≠0:=λe=>hc (.inl e)
  have e1:L[i-1]?=some L[i]:=by
   cases h:decide (L[i-1]?=some L[i])with
   |true=>exact of_decide_eq_true h
   |false=>exact absurd (.inr (of_decide_eq_false h)) hc
  have hm:L[i]∈L.take i:=zal122q.2 ⟨i-1,aB,by rw[Q8]at e1;exact bO e1⟩;refine⟨.inl,λh=>?_⟩;rcases h with h|h
  exact h;simp only[zal121q]at h;subst h;exact hm
abbrev cV(r:Aj):List Ac:=r.Af++r.Am++r.A4
theorem qQJ(xss:List (List Ac))(h:xss.length<=1000/\xss.flatten.length<=1000000000):uD xss=some xss.flatten:=aK h
theorem ef(r:Aj)(h:Short r)(ho:∀s∈cV r,Ac.ok s):fZ r=some (gE (cV r)):=by have hfl:[r.Af,r.Am,r.A4].flatten=cV r:=(by simp[cV]);have hlen:(cV r).length<=6000000:=(by have:=h.Af;have:=h.over;have:=h.A4;simp[cV];omega);unfold fZ;rw[qQJ _ ⟨aN,by rw[hfl];omega⟩,aC,hfl,Ny];generalize hL:tG fO (cV r)=L;have hLl:L.length=(cV r).length:=(by rw[<- hL,mV]);have hmem:∀s,s∈L↔s∈cV r:=λs=>(by rw[<- hL];exact(xN _).mem_iff);have hsort:L.Pairwise (λa b=>qBS b a=false):=(by rw[<- hL];have:=yZ yW (cV r);exact this.imp fun {a b} hab=>by rw[<- qGM];exact hab);obtain⟨h1,h2⟩:=qMG L hsort L.length (oA _);have hfin:zY L L.length=gE (cV r):=ascS_eq h1 λs=>(by rw[h2,kH,hmem]);rw[iM (b:=([]:List Ac)) (o:=gE (cV r)) L.length (zY L) rfl aB (λi hi=>?_) (by dsimp only;rw[mF,hfin];rfl)];rfl;have he:L[i]?=some L[i]:=aN;have hg:(zY L i++[L[i]]).length<=1000000000:=(by have:=qCN L i;simp;omega);dsimp only;rw[iL,aR he];have hcond:(if(i:Int)=0 then some true else aH (cI ((i:Int)-1)) (bL L ((i:Int)-1) λe17=>aH (Ac.ok L[i]/\Ac.ok e17) (some (!decide (L[i]=e17)))))=some (decide (i=0\/¬L[i-1]?=some L[i])):=(by by_cases h0:i=0;subst h0;simp;have e1:L[i-1]?=some L[i-1]:=D6;have e2:((i:Int)-1)=((i-1:Nat):Int):=aB;rw[mF,pY,e2,aR e1,aK ⟨ho _ ((hmem _).1 (fV _)),ho _ ((hmem _).1 (fV _))⟩,e1];have e3:(L[i]=L[i-1])=(L[i-1]=L[i]):=propext eq_comm;simp only[jA,h0,false_or,e3,decide_not]);rw[hcond,aC];have hstep:zY L (i+1)=if i=0\/¬L[i-1]?=some L[i]then zY L i++[L[i]]else zY L i:=(by rw[zY,he]);by_cases hc:i=0\/¬L[i-1]?=some L[i];rw[if_pos fe,aK hg,aK (eO (n:=L.length) hi aB),hstep,if_pos hc];rw[if_neg fe,aK (eO (n:=L.length) hi aB),hstep,if_neg hc]
theorem qKY{f:Int×List α->Option ((Int×List α) ⊕ List α)}(l:List α)(P:α->Bool)(hn:l.length<=1000000000)(hf:∀(i:Nat)(e:α)(b:List α),l[i]?=some e->b.length<=i->f ((i:Int),b)=some (.inl ((i:Int)+1,if P e=true then b++[e]else b)))(he:∀b,f ((l.length:Int),b)=some (.inr b)):bK f (0,[])=some (l.filter P):=by refine iM l.length (λi=>(l.take i).filter P) aN aB (λi hi=>?_) (by rw[he];simp);have e1:l[i]?=some l[i]:=aN;rw[hf i l[i] _ e1 (eR (D0 _ _) V7),iQ,e1,qDI];congr 3;split;rename_i h;simp[h];rename_i h;simp[h]
theorem qKX{f:Int×List β->Option ((Int×List β) ⊕ List β)}(l:List α)(g:α->β)(b0:List β)(hn:l.length<=1000000000)(hf:∀(i:Nat)(e:α)(b:List β),l[i]?=some e->b.length=b0.length+i->f ((i:Int),b)=some (.inl ((i:Int)+1,b++[g e])))(he:∀b,f ((l.length:Int),b)=some (.inr b)):bK f (0,b0)=some (b0++l.map g):=by refine iM l.length (λi=>b0++(l.take i).map g) aN aB (λi hi=>?_) (by rw[he];simp);have e1:l[i]?=some l[i]:=aN;rw[hf i l[i] _ e1 (by rw[xK,yt,oF,Nat.min_eq_left aB]),iQ,e1];simp only[ce,gS,iW,uH,nT]
theorem eB(h:fE t=0):Qj t=true/\zE t=true/\(∀r∈t.Ab,rE t r=true/\xP t r=true)/\(∀r∈t.Ab,cw r=true)/\Ja t.Ab=true:=by unfold fE at h;split at h;cases h;split at h;cases h;split at h;cases h;split at h;cases h;split at h;cases h;rename_i h1 h2 h3 h4 h5;simp only[Bool.not_eq_false]at h1 h2 h3 h4 h5;rw[zQT]at h3 h4;exact⟨h1,h2,λr hr=>by have:=h3 r hr;rwa [pQ]at this,h4,h5⟩
theorem kv{l:List Ac}(h:lA t l=true){s:Ac}(hs:s∈l):(cL t.Af s.el).isSome=true/\1<=s.pos/\s.pos<=2:=by obtain⟨i,hi,rfl⟩:=zal113q.1 hs;have h1:=allB_iff.1 h i hi;rw[Ei (x:=l[i]) (y:=l[i-1]) aN D6]at h1;have:=of_decide_eq_true h1;exact⟨this.1,this.2.1,this.2.2.1⟩
theorem lV(h:xP t r=true){s:Ac}(hs:s∈cV r):∃k,cL t.Af s.el=some k/\k<t.Af.length:=by unfold xP at h;rw[pQ,pQ]at h;have:(cL t.Af s.el).isSome=true:=(by simp only[cV,zQN]at hs;rcases hs with(hs|hs)|hs;exact(kv h.1.1 hs).1;exact(kv h.1.2 hs).1;exact(kv h.2 hs).1);obtain⟨k,hk⟩:=Option.isSome_iff_exists.1 this;exact⟨k,hk,by obtain⟨_,_,_,h⟩:=vP hk;exact h⟩
def SOk(t:Ah):Prop:=∀r∈t.Ab,∀s∈cV r,Ac.ok s
def br(t:Ah)(el:Int):Int:=((cL t.Af el).bind (t.A9[·]?)).getD 0
theorem qWO(h:cL t.Af el=some k){x:Int}(hx:t.A9[k]?=some x):br t el=x:=by simp[br,h,hx]
def zm(t:Ah)(r:Aj)(x:Ag)(s:Ac):Bool:=!decide (br t s.el∈r.Aa.take x.rel.toNat)
def tB(t:Ah)(r:Aj)(x:Ag):List Ac:=if x.state=0 then[]else gE (r.Af.filter (zm t r x)++r.Am++r.A4)
theorem Fv(h:fE t=0)(hk:cL t.Af el=some k):t.A9[k]?=some (br t el):=by obtain⟨_,h2,_⟩:=eB h;unfold zE at h2;rw[pQ,decide_eq_true_eq]at h2;obtain⟨_,_,_,hlt⟩:=vP hk;have:t.A9[k]?=some t.A9[k]:=D6;rw[qWO hk this,this]
theorem qGT(l:List Int)(x:Int)(h:Qu l):G3 l x=some (decide (x∈l)):=by simp[G3,vF l x h]
theorem qBZ(t:Ah)(r:Aj)(x:Ag)(h:TOk t)(ho:SOk t)(hc:fE t=0)(hr:r∈t.Ab)(hx:0<=x.rel/\x.rel<=r.Aa.length):en t r x=some (tB t r x):=by have hs:=h.each r hr;obtain⟨_,_,h3,_⟩:=eB hc;unfold en tB;by_cases h0:x.state=0;rw[if_pos h0,if_pos h0];rw[if_neg h0,if_neg h0];obtain⟨n,hn⟩:=yQ hx.1;rw[qKY r.Af (zm t r x) (by have:=hs.Af;omega) (λi e b he hb=>?_) (λb=>iD),aC];have hR:=ef (⟨⟨#[]⟩,0,0,[],r.Af.filter (zm t r x),[],0,0,[],r.Am,[],r.A4,[],[]⟩:Aj) ⟨iF _,eR (D0 _ _) hs.Af,hs.over,hs.A4⟩ (λs hm=>?_);rw[hR];rfl;refine ho r hr s ?_;simp only[cV,zQN,zal111q]at hm⊢;grind;dsimp only;have hi:i<r.Af.length:=gJ he;obtain⟨k,hk,hkl⟩:=lV (h3 r hr).2 (s:=e) (by simp[cV,kK he]);have hh:=Fv hc hk;have hsec:=hs.secs;have hp:=hs.Af;rw[iL,aR he,aK ⟨aB,hx.1,hx.2⟩,pA t e.el (by have:=h.Af;unfold Qu;omega),aC,hk];rw[show kA (some k)=(k:Int)from rfl,aR hh,hn,sub_take,qGT _ _ (by unfold Qu;rw[oF];omega),aC];have hkb:zm t r x e=!decide (br t e.el∈r.Aa.take n):=(by unfold zm;rw[hn];rfl);rw[hkb];split;rename_i h1;rw[yv,fg hi];rename_i h1;rw[fg hi]
theorem Y3(t:Ah)(r:Aj)(x:Ag)(hs:Short r):(tB t r x).length<=6000000:=by unfold tB;split;simp;have h1:=qZ (r.Af.filter (zm t r x)++r.Am++r.A4);have h2:=D0 (zm t r x) r.Af;have:=hs.Af;have:=hs.over;have:=hs.A4;simp only[xK]at h1;omega
theorem Jl{x:Ag}{e:Ac}(h:e∈tB t r x):e∈cV r:=by unfold tB at h;split at h;cases h;rw[ascS_mem]at h;simp only[cV,zQN,zal111q]at h⊢;grind
def vX(a b:List Int):Bool:=a.any λn=>decide (n∈b)
theorem Jb(a b:List Int):vX a b=vX b a:=by rw[zal18q];simp only[vX,zQU,decide_eq_true_eq];grind
def oP(a b:Aj):Bool:=decide (0<=a.exit)&&decide (b.entry=a.exit)
theorem Ye(a b:Aj):hZ a b=some (oP a b):=rfl
def sW(r:Aj)(x:Ag):List Ax:=(pJ r x).map (λn=>⟨n,0⟩)++(sF r x).map (λn=>⟨n,1⟩)
theorem M3(r:Aj)(x:Ag)(h:Short r):(pJ r x).length<=2000000:=by have:=h.secs;unfold pJ;split<;>simp<;>omega
theorem M7(r:Aj)(x:Ag)(h:Short r):(sF r x).length<=2000000:=by have:=h.secs;unfold sF;split<;>simp<;>omega
theorem Ng(r:Aj)(x:Ag)(h:Short r)(hx:dA x r.Aa.length=true):vN r x=some (sW r x):=by have h1:=M3 r x h;have h2:=M7 r x h;unfold vN sW;rw[qKU r x h hx,aC,qKX (pJ r x) (λn=>(⟨n,0⟩:Ax)) [] aB (λi e b he hb=>?_) (λb=>iD),aC];rw[lover_eq r x h,aC,qKX (sF r x) (λn=>(⟨n,1⟩:Ax)) _ aB (λi e b he hb=>?_) (λb=>iD),aC];rfl;have hi:=gJ he;dsimp only;rw[iL,aR he,aK (by simp at hb⊢;omega),fg hi];have hi:=gJ he;dsimp only;rw[iL,aR he,aK (by simp at hb⊢;omega),fg hi]
theorem has_eq(l:List Ax)(n p:Int)(h:Qu l)(ho:∀s∈l,Ax.ok s)(hx:Ax.ok ⟨n,p⟩):zj l n p=some (decide ((⟨n,p⟩:Ax)∈l)):=by unfold zj;rw[nH l (λe=>decide (e=⟨n,p⟩)) (.inr true) (.inl ()) h (λi e he=>?_) rB];have e1:(l.any λe=>decide (e=⟨n,p⟩))=decide ((⟨n,p⟩:Ax)∈l):=(by rw[zal18q];simp);rw[e1];by_cases hm:(⟨n,p⟩:Ax)∈l;rw[if_pos (by simpa using hm)];simp[hm];rw[if_neg (by simpa using hm)];simp[hm];have hi:=gJ he;rw[iL,aR he,aK ⟨ho e (kK he),hx⟩];by_cases h1:e=⟨n,p⟩;rw[if_pos h1,if_pos sN];rfl;rw[if_neg h1,if_neg sN,aK (eO hi h)]
def sZ(a b:Aj)(pa oa pb ob:List Int):Bool:=vX pa pb||(vX oa pb&&!oP a b)||(vX pa ob&&!oP b a)||(vX oa ob&&!oP a b&&!oP b a)
theorem qUB(h:cI n)(p:Int)(hp:p=0\/p=1):Ax.ok ⟨n,p⟩:=by refine⟨h,?_⟩;rcases hp with rfl|rfl<;>(simp only;unfold cI;omega)
theorem clash_eq(a b:Aj)(pa oa pb ob:List Int)(hpa:pa.length<=2000000/\∀n∈pa,cI n)(hoa:oa.length<=2000000/\∀n∈oa,cI n)(hpb:pb.length<=2000000/\∀n∈pb,cI n)(hob:ob.length<=2000000/\∀n∈ob,cI n):yG a b (pa.map (λn=>⟨n,0⟩)++oa.map (λn=>⟨n,1⟩)) (pb.map (λn=>⟨n,0⟩)++ob.map (λn=>⟨n,1⟩))=some (sZ a b pa oa pb ob):=by unfold yG;rw[Ye,aC,Ye,aC];generalize hL:(pa.map (λn=>(⟨n,0⟩:Ax))++oa.map (λn=>(⟨n,1⟩:Ax)))=la;generalize hM:(pb.map (λn=>(⟨n,0⟩:Ax))++ob.map (λn=>(⟨n,1⟩:Ax)))=lb;have hla:la.length<=4000000:=(by rw[<- hL];simp;omega);have hlb:lb.length<=4000000:=(by rw[<- hM];simp;omega);have hao:∀e∈la,cI e.a0:=(by intro e he;rw[<- hL,zQN,zal115q,zal115q]at he;rcases he with⟨n,hn,rfl⟩|⟨n,hn,rfl⟩;exact hpa.2 n hn;exact hoa.2 n hn);have hbo:∀e∈lb,Ax.ok e:=(by intro e he;rw[<- hM,zQN,zal115q,zal115q]at he;rcases he with⟨n,hn,rfl⟩|⟨n,hn,rfl⟩;exact qUB (hpb.2 n hn) 0 (.inl rfl);exact qUB (hob.2 n hn) 1 (.inr rfl));rw[nH la (λe=>(decide ((⟨e.a0,0⟩:Ax)∈lb)&&(decide (e.a1=0)||!oP a b))||(decide ((⟨e.a0,1⟩:Ax)∈lb)&&!oP b a&&(decide (e.a1=0)||!oP a b))) (.inr true) (.inl ()) aB (λi e he=>?_) rB];have e1:(la.any λe=>(decide ((⟨e.a0,0⟩:Ax)∈lb)&&(decide (e.a1=0)||!oP a b))||(decide ((⟨e.a0,1⟩:Ax)∈lb)&&!oP b a&&(decide (e.a1=0)||!oP a b)))=sZ a b pa oa pb ob:=(by rw[<- hL,<- hM,Il,D4,D4,zal18q];unfold sZ vX;simp only[lP,pQ,zQU,Function.comp,zQN,zal115q,Ax.mk.injEq,decide_eq_true_eq,gH];grind);rw[e1];cases sZ a b pa oa pb ob<;>rfl;have hi:=gJ he;have hm:=kK he;rw[iL,aR he,has_eq lb e.a0 0 qL hbo (qUB (hao e hm) 0 (.inl rfl)),aC,has_eq lb e.a0 1 qL hbo (qUB (hao e hm) 1 (.inr rfl)),aC];by_cases h1:e.a1=0<;>cases hA:oP a b<;>cases hB:oP b a<;>by_cases h2:(⟨e.a0,0⟩:Ax)∈lb<;>by_cases h3:(⟨e.a0,1⟩:Ax)∈lb<;>simp[h1,h2,h3,eO hi (show la.length<=9223372036854775807 by omega)]
def eZ(t:Ah)(i:Nat):Aj:=(t.Ab[i]?).getD default
def fF(s:Av)(i:Nat):Ag:=(s.Ab[i]?).getD default
theorem qPA(h:i<t.Ab.length):t.Ab[i]?=some (eZ t i):=by unfold eZ;rw[iG h];rfl
theorem qNS(h:i<s.Ab.length):s.Ab[i]?=some (fF s i):=by unfold fF;rw[iG h];rfl
structure FitsAt (t:Ah) (s:Av) (i:Nat):Prop where
 r:t.Ab[i]?=some (eZ t i)
 x:s.Ab[i]?=some (fF s i)
 mem:eZ t i∈t.Ab
 fits:dA (fF s i) (eZ t i).Aa.length=true
theorem iN(h:kT t s=true)(hi:i<t.Ab.length):FitsAt t s i:=by have h':=fitsB_iff.1 h;have hr:=qPA hi;have hx:=qNS (s:=s) (i:=i) aB;refine⟨hr,hx,kK hr,?_⟩;have:=h'.2.2.2.1 i aB;rwa [oJ hx hr]at this
def jE(t:Ah)(s:Av)(i:Nat):List Int:=pJ (eZ t i) (fF s i)
def lJ(t:Ah)(s:Av)(i:Nat):List Int:=sF (eZ t i) (fF s i)
def mY(t:Ah)(s:Av)(i:Nat):List Ac:=tB t (eZ t i) (fF s i)
def mM(t:Ah)(s:Av)(a b:Nat):Bool:=sZ (eZ t a) (eZ t b) (jE t s a) (lJ t s a) (jE t s b) (lJ t s b)
def wQ(t:Ah)(s:Av)(el:Int):Int:=((cL t.Af el).bind (s.lies[·]?)).getD 0
def Oo(t:Ah)(s:Av)(e:Ac):Bool:=decide (wQ t s e.el=e.pos)
def lS(t:Ah)(s:Av):Bool:=kT t s&&(vU t.Ab.length λa=>vU a λb=>!mM t s a b)&&vU t.Ab.length λa=>(mY t s a).all (Oo t s)
theorem Gy(h:kT t s=true)(hk:cL t.Af el=some k):s.lies[k]?=some (wQ t s el):=by have h':=fitsB_iff.1 h;obtain⟨_,_,_,hlt⟩:=vP hk;have:s.lies[k]?=some s.lies[k]:=D6;simp[wQ,hk,this]
theorem Xb(h:rE t r=true)(hl:Qj t=true):∀n∈r.Aa++r.Ae,0<=n/\n<t.Aa/\n<24:=by intro n hn;unfold rE at h;simp only[pQ]at h;obtain⟨i,hi,rfl⟩:=zal113q.1 hn;have h1:=allB_iff.1 h.1.1.2 i hi;rw[gx (s:=(r.Aa++r.Ae)[i]) (by rw[iG hi]),pQ]at h1;have h2:=of_decide_eq_true hl;have h3:0<=(r.Aa++r.Ae)[i]/\(r.Aa++r.Ae)[i]<t.Aa:=(by simpa[Nl]using h1.1);omega
theorem qVJ{x:Ag}(h:n∈pJ r x):n∈r.Aa:=by unfold pJ at h;split at h;cases h;exact Bn h
theorem qVM{x:Ag}(h:n∈sF r x):n∈r.Ae:=by unfold sF at h;split at h;cases h;exact h
theorem qKB(hc:fE t=0)(hr:r∈t.Ab)(h:Short r)(x:Ag):(pJ r x).length<=2000000/\∀n∈pJ r x,cI n:=by obtain⟨h1,_,h3,_⟩:=eB hc;refine⟨M3 r x h,λn hn=>?_⟩;have:=Xb (h3 r hr).1 h1 n (kI _ (qVJ hn));unfold cI;omega
theorem qKD(hc:fE t=0)(hr:r∈t.Ab)(h:Short r)(x:Ag):(sF r x).length<=2000000/\∀n∈sF r x,cI n:=by obtain⟨h1,_,h3,_⟩:=eB hc;refine⟨M7 r x h,λn hn=>?_⟩;have:=Xb (h3 r hr).1 h1 n (vI _ (qVM hn));unfold cI;omega
theorem qCO(h:TOk t)(hc:fE t=0){a b:Aj}(ha:a∈t.Ab)(hb:b∈t.Ab)(x y:Ag):yG a b (sW a x) (sW b y)=some (sZ a b (pJ a x) (sF a x) (pJ b y) (sF b y)):=clash_eq a b _ _ _ _ (qKB hc ha (h.each a ha) x) (qKD hc ha (h.each a ha) x) (qKB hc hb (h.each b hb) y) (qKD hc hb (h.each b hb) y)
theorem Zf(n:Nat)(P:Nat->Bool):((List.range n).any P)=!vU n λi=>!P i:=by simp[vU,Jr]
theorem qIW(t:Ah)(s:Av)(h:TOk t)(ho:SOk t):eo t s=some (lS t s):=by unfold eo lS;rw[qSY t s h,aC];by_cases hf:kT t s=true;have hc:=(fitsB_iff.1 hf).1;have hrl:=h.Ab;rw[hf,Dr,pX];rw[iM (b:=([]:List (List Ax))) (o:=(List.range t.Ab.length).map λi=>sW (eZ t i) (fF s i)) t.Ab.length (λi=>(List.range i).map λi=>sW (eZ t i) (fF s i)) rfl aB (λi hi=>?_) iD,aC];have hb3:∀i,i<t.Ab.length->((List.range t.Ab.length).map λi=>sW (eZ t i) (fF s i))[i]?=some (sW (eZ t i) (fF s i)):=(by intro i hi;rw[vV,ew hi];rfl);generalize ((List.range t.Ab.length).map λi=>sW (eZ t i) (fF s i))=b3 at hb3;rw[vM t.Ab.length (λa=>(List.range a).any λb=>mM t s a b) (.inr false) (.inl ()) aB (λa ha=>?_) rB];rw[Zf];have e1:(vU t.Ab.length λi=>!(List.range i).any λb=>mM t s i b)=vU t.Ab.length λa=>vU a λb=>!mM t s a b:=(by unfold vU;congr 1;funext a;rw[Zf];simp[vU]);rw[e1];cases hA:(vU t.Ab.length λa=>vU a λb=>!mM t s a b);rfl;rw[Dr,iA];rw[vM t.Ab.length (λa=>(mY t s a).any λe=>!Oo t s e) (.inr false) (.inl ()) aB (λa ha=>?_) rB];rw[Zf];have e2:(vU t.Ab.length λi=>!(mY t s i).any λe=>!Oo t s e)=vU t.Ab.length λa=>(mY t s a).all (Oo t s):=(by unfold vU;congr 1;funext a;rw[qT];simp);rw[e2];cases (vU t.Ab.length λa=>(mY t s a).all (Oo t s))<;>rfl;have H:=iN hf ha;have hbl:=Y3 t (eZ t a) (fF s a) (h.each _ H.mem);rw[iL,aR H.r,aR H.x,qBZ t _ _ h ho hc H.mem (J8 H.fits),aC];rw[nH (tB t (eZ t a) (fF s a)) (λe=>!Oo t s e) (.inr (.inr (.inr false))) (.inl ()) aB (λi e he=>?_) rB];rw[show mY t s a=tB t (eZ t a) (fF s a)from rfl];cases ((tB t (eZ t a) (fF s a)).any λe=>!Oo t s e);rw[Dr,Dr,iA,fg ha];rfl;have hi:=gJ he;obtain⟨k,hk,hkl⟩:=lV ((eB hc).2.2.1 _ H.mem).2 (Jl (kK he));have hp:=h.Af;rw[iL,aR he,pA t e.el qL,aC,hk,show kA (some k)=(k:Int)from rfl,aR (Gy hf hk)];unfold Oo;by_cases h1:wQ t s e.el=e.pos;rw[if_pos h1,if_neg sN,fg hi];rw[if_neg h1,if_pos sN];rfl;rw[iL];rw[vM a (λb=>mM t s a b) (.inr (.inr (.inr false))) (.inl ()) aB (λb hb=>?_) rB];cases ((List.range a).any λb=>mM t s a b);rw[Dr,Dr,iA,fg ha];rfl;have H:=iN hf ha;have H':=iN hf (i:=b) aB;rw[iL,aR H.r,aR H'.r,aR (hb3 a ha),aR (hb3 b aB),qCO h hc H.mem H'.mem,aC];rw[show sZ (eZ t a) (eZ t b) (pJ (eZ t a) (fF s a)) (sF (eZ t a) (fF s a)) (pJ (eZ t b) (fF s b)) (sF (eZ t b) (fF s b))=mM t s a b from rfl];have hg:cI ((b:Int)+1):=zNn hb;cases mM t s a b;simp only[kV,if_false,aK hg];rw[if_pos rfl,if_pos rfl];rfl;dsimp only;have H:=iN hf hi;rw[iL,aR H.r,aR H.x,Ng _ _ (h.each _ H.mem) H.fits,aC,yv,fg hi,oG,gS];rfl;simp only[zal22q]at hf;rw[hf];rfl
def qHY(t:Ah)(s:Av)(a b:Nat):Bool:=!(vX (jE t s a) (jE t s b)||(vX (lJ t s a) (jE t s b)&&!oP (eZ t a) (eZ t b)))&&(!vX (lJ t s a) (lJ t s b)||oP (eZ t a) (eZ t b)||oP (eZ t b) (eZ t a))
theorem Oz(t:Ah)(s:Av)(a b:Nat):(!mM t s a b)=(qHY t s a b&&qHY t s b a):=by unfold mM sZ qHY;rw[Jb (jE t s b) (jE t s a),Jb (lJ t s b) (jE t s a),Jb (lJ t s b) (lJ t s a)];cases vX (jE t s a) (jE t s b)<;>cases vX (lJ t s a) (jE t s b)<;>cases vX (jE t s a) (lJ t s b)<;>cases vX (lJ t s a) (lJ t s b)<;>cases oP (eZ t a) (eZ t b)<;>cases oP (eZ t b) (eZ t a)<;>rfl
theorem Yx(t:Ah)(s:Av)(a b:Nat):mM t s a b=mM t s b a:=by have h1:=Oz t s a b;have h2:=Oz t s b a;rw[Bool.and_comm,<- h1]at h2;simpa using h2.symm
def mL(l:List Bool)(n:Int):Bool:=if n<0 then true else if(l.length:Int)<=n then true else l.getD n.toNat false
theorem qTN(l:List Bool)(n:Int):(aE (if n<(0:Int)then some true else if(l.length:Int)<=n then some true else bL l n λe5=>some e5) λx1=>some x1)=some (mL l n):=by unfold mL;by_cases h1:n<0;rw[if_pos h1,if_pos h1];rfl;rw[if_neg h1,if_neg h1];by_cases h2:(l.length:Int)<=n;rw[if_pos h2,if_pos h2];rfl;rw[if_neg h2,if_neg h2];obtain⟨i,rfl⟩:=yQ (show 0<=n by omega);have he:l[i]?=some (l.getD i false):=(by rw[fx,Q8];rfl);rw[aR he];rfl
theorem Es(l:List Bool)(n:Int):qU l n=some (mL l n):=qTN l n
def Ej:Ag:=⟨1,0,0⟩
theorem qAV(n:Nat):dA Ej n=true:=rfl
theorem M2(r:Aj):pJ r Ej=r.Aa:=rfl
theorem M6(r:Aj):sF r Ej=r.Ae:=rfl
def uF(t:Ah)(s:Av)(i o:Nat):Bool:=!decide (o=i)&&sZ (eZ t i) (eZ t o) (eZ t i).Aa (eZ t i).Ae (jE t s o) (lJ t s o)
def lZ(t:Ah)(s:Av)(i o:Nat):Bool:=!decide (o=i)&&!tC (gE (cV (eZ t i))) (mY t s o)
def sC(t:Ah)(s:Av)(p:Au)(e:Ac):Bool:=!decide (wQ t s e.el=e.pos)&&mL p.occupied (br t e.el)
def zL(t:Ah)(s:Av)(p:Au)(n:Int):Int:=if lS t s=false\/n<0\/(t.Ab.length:Int)<=n then 1 else if ¬(fF s n.toNat).state=0 then 11 else if((eZ t n.toNat).Aa++(eZ t n.toNat).Ae).any (mL p.closed)=true then 13 else if(List.range t.Ab.length).any (uF t s n.toNat)=true then 12 else if(List.range t.Ab.length).any (lZ t s n.toNat)=true then 10 else if(gE (cV (eZ t n.toNat))).any (sC t s p)=true then 14 else 0
theorem fD(h:lS t s=true):kT t s=true:=by unfold lS at h;rw[pQ,pQ]at h;exact h.1.1
theorem headM(b:Bool)(n:Int)(L:Nat):(if(!b)=true then some true else if n<(0:Int)then some true else some (decide ((L:Int)<=n)))=some (decide (b=false\/n<0\/(L:Int)<=n)):=by cases b;simp;simp only[tX,kV,if_false,false_or];by_cases h:n<0;simp[h];simp[h]
theorem needLoop(t:Ah)(s:Av)(p:Au)(h:TOk t)(hf:kT t s=true)(l:List Ac)(hl:l.length<=6000000)(hm:∀e∈l,∃k,cL t.Af e.el=some k/\k<t.Af.length)(g:Int->Option Bool)(hg:∀n,g n=some (mL p.occupied n)):bK (λx60=>if x60<(l.length:Int)then bL l x60 λe63=>aE (gM t e63.el) λr64=>aE ( bL s.lies r64 λe67=>if e67=e63.pos then some false else bL t.A9 r64 λe69=>aE (g e69) λr70=>some r70) λx65=>if x65=true then aX ( aX ( some (14:Int)))else aH (cI (x60+(1:Int))) <|some (.inl (x60+(1:Int)))else aX ( some (.inl ()))) (0:Int)=some (if l.any (sC t s p)=true then Sum.inr (14:Int)else Sum.inl ()):=by have hc:=(fitsB_iff.1 hf).1;refine nH l (sC t s p) (Sum.inr (14:Int)) (Sum.inl ()) aB (λi e he=>?_) rB;have hi:=gJ he;obtain⟨k,hk,hkl⟩:=hm e (kK he);have hp:=h.Af;have hg1:cI ((i:Int)+1):=zNn hi;rw[iL,aR he,pA t e.el qL,aC,hk,show kA (some k)=(k:Int)from rfl,aR (Gy hf hk)];unfold sC;by_cases h1:wQ t s e.el=e.pos;rw[if_pos h1,aC];simp[h1,aK hg1];rw[if_neg h1,aR (Fv hc hk),hg,aC,aC];cases mL p.occupied (br t e.el);simp[aK hg1];simp[h1]
theorem free_eq(t:Ah)(s:Av)(p:Au)(n:Int)(h:TOk t)(ho:SOk t):Cx t s p n=some (zL t s p n):=by unfold Cx zL;rw[qIW t s h ho,aC,headM,aC];by_cases hd:lS t s=false\/n<0\/(t.Ab.length:Int)<=n;rw[if_pos (decide_eq_true hd),if_pos hd];rw[if_neg (by simpa using hd),if_neg hd];have hs:lS t s=true:=(by cases h1:lS t s with|true=>rfl|false=>exact absurd (.inl h1) hd);have hf:=fD hs;have hc:=(fitsB_iff.1 hf).1;obtain⟨i,rfl⟩:=yQ (show 0<=n from aB);have hi:i<t.Ab.length:=aB;have hrl:=h.Ab;have H:=iN hf hi;have hS:=h.each _ H.mem;have hall:(cV (eZ t i)).length<=6000000:=(by have:=hS.Af;have:=hS.over;have:=hS.A4;simp[cV];omega);have hasc:=eR (qZ (cV (eZ t i))) hall;rw[show((i:Int)).toNat=i from rfl,aR H.x];by_cases h0:(fF s i).state=0;rw[if_pos h0,if_neg (λh=>h h0),aR H.r,show(⟨1,0,0⟩:Ag)=Ej from rfl,Ng _ _ hS (qAV _),aC];have hwl:(sW (eZ t i) Ej).length<=4000000:=(by have h1:=M3 _ Ej hS;have h2:=M7 _ Ej hS;unfold sW;simp;omega);rw[nH (sW (eZ t i) Ej) (λe=>mL p.closed e.a0) (.inr 13) (.inl ()) aB (λj e he=>?_) rB];have e1:((sW (eZ t i) Ej).any λe=>mL p.closed e.a0)=((eZ t i).Aa++(eZ t i).Ae).any (mL p.closed):=(by unfold sW;rw[Il,Il,D4,D4,M2,M6];rfl);rw[e1];cases ((eZ t i).Aa++(eZ t i).Ae).any (mL p.closed);simp only[kV,if_false,iA];rw[vM t.Ab.length (uF t s i) (.inr 12) (.inl ()) aB (λo hoo=>?_) rB];cases (List.range t.Ab.length).any (uF t s i);simp only[kV,if_false,iA];rw[ef _ hS (ho _ H.mem),aC];rw[vM t.Ab.length (lZ t s i) (.inr 10) (.inl ()) aB (λo hoo=>?_) rB];cases (List.range t.Ab.length).any (lZ t s i);simp only[kV,if_false,iA];rw[needLoop t s p h hf _ hasc (λe he=>lV ((eB hc).2.2.1 _ H.mem).2 (ascS_mem.1 he)) (qU p.occupied) (Es p.occupied)];cases (gE (cV (eZ t i))).any (sC t s p)<;>rfl;simp only[if_true];rfl;have H':=iN hf hoo;have hg:cI ((o:Int)+1):=zNn hoo;have hbl:=Y3 t (eZ t o) (fF s o) (h.each _ H'.mem);rw[iL,aR H'.r];unfold lZ;by_cases hio:o=i;subst hio;simp[aK hg];rw[mF,aR H'.x,qBZ t _ _ h ho hc H'.mem (J8 H'.fits),aC,Lw _ _ qL qL,aC,aC,decide_eq_false hio];rw[show mY t s o=tB t (eZ t o) (fF s o)from rfl];cases tC (gE (cV (eZ t i))) (tB t (eZ t o) (fF s o));simp only[sJ,Bool.and_self,if_true];rfl;simp[aK hg];simp only[if_true];rfl;have H':=iN hf hoo;have hg:cI ((o:Int)+1):=zNn hoo;rw[iL,aR H'.r];unfold uF;by_cases hio:o=i;subst hio;simp[aK hg];rw[mF,aR H'.x,Ng _ _ (h.each _ H'.mem) H'.fits,aC,qCO h hc H.mem H'.mem,aC,aC,decide_eq_false hio,M2,M6];rw[show pJ (eZ t o) (fF s o)=jE t s o from rfl,show sF (eZ t o) (fF s o)=lJ t s o from rfl];cases sZ (eZ t i) (eZ t o) (eZ t i).Aa (eZ t i).Ae (jE t s o) (lJ t s o);simp[aK hg];simp only[sJ,Bool.and_self,if_true];rfl;simp only[if_true];rfl;have hj:=gJ he;rw[iL,aR he,Es,aC];cases mL p.closed e.a0;simp[aK (eO hj (show(sW (eZ t i) Ej).length<=9223372036854775807 by omega))];simp only[if_true];rfl;rw[if_neg h0,if_pos h0]
end Go.Proofs.YtandcfplaooadaaGreatDoor
set_option linter.unusedVariables false
set_option linter.unusedSimpArgs false
set_option maxHeartbeats 400000
set_option maxRecDepth 100000
namespace Go.Proofs.YtandcfplaooadaaGreatDoor
open Go Go.TL
def wh(r:Aj):Nat:=r.path.length+r.Aa.length+r.Ae.length+r.Af.length+r.Am.length+r.A4.length
def Iw(t:Ah):Bool:=t.Ab.all (λr=>decide (wh r<=200))&&decide (t.Ab.length<=100/\t.Af.length<=100)
theorem Gl{t:Ah}(h:Iw t=true):TOk t/\t.Ab.length<=100/\t.Af.length<=100/\∀r∈t.Ab,wh r<=200:=by unfold Iw at h;simp only[pQ,decide_eq_true_eq,zQT]at h;obtain⟨h1,h2⟩:=h;refine⟨⟨aB,aB,λr hr=>?_⟩,h2.1,h2.2,h1⟩;have:=h1 r hr;unfold wh at this;exact⟨aB,aB,aB,aB⟩
structure WfB (t:Ah):Prop where
 sok:SOk t
 pts:∀x∈t.Af,cI x
theorem eJ{β:Type}{f:Nat->List β}{c:Nat}(h:∀i,(f i).length=c)(n:Nat):((List.range n).flatMap f).length=c*n:=by induction n with|zero=>simp|succ n ih=>rw[oG,qe,xK,ih];simp[h,Bh]
theorem gZ{β ρ:Type}(f:Nat->List β)(pre:List β)(n:Nat){F:Int×List β->Option ((Int×List β) ⊕ ρ)}{o:ρ}(hn:n<=9223372036854775807)(hF:∀i,i<n->F ((i:Int),pre++(List.range i).flatMap f)=some (.inl ((i:Int)+1,(pre++(List.range i).flatMap f)++f i)))(he:F ((n:Int),pre++(List.range n).flatMap f)=some (.inr o)):bK F (0,pre)=some o:=by refine zI (λi=>((i:Int),pre++(List.range i).flatMap f)) n aN hn (λi hi=>?_) he;rw[hF i hi,oG,qe,nT];simp
def qSW(l:List Bool)(i:Nat)(v:Bool):Bool:=decide (l[i]?=some v)
def knI(l:List Int)(i:Nat)(v:Int):Bool:=decide (l[i]?=some v)
theorem qCA(l:List Bool)(i:Nat)(v:Bool):kX l (i:Int) v=some (qSW l i v):=by unfold kX qSW;by_cases h:i<l.length;rw[iL,aR (iG h),aC,iG h];simp[Bool.beq_eq_decide_eq];rw[mF,zLn];simp
theorem qWK(l:List Int)(i:Nat)(v:Int):qW l (i:Int) v=some (knI l i v):=by unfold qW knI;by_cases h:i<l.length;rw[iL,aR (iG h),aC,iG h];simp;rw[mF,zLn];simp
def inS(p:Au)(i:Nat):List Bool:=[qSW p.occupied i false,qSW p.closed i false]
def inP(p:Au)(i:Nat):List Bool:=[knI p.detected i 1,knI p.detected i 2]
def inR(p:Au)(i:Nat):List Bool:=[qSW p.claimed i false,qSW p.passed i true,decide ((i:Int)∈p.calls),decide ((i:Int)∈p.cancels)]
def cF(t:Ah)(p:Au):List Bool:=(List.range t.Aa.toNat).flatMap (inS p)++(List.range t.Af.length).flatMap (inP p)++(List.range t.Ab.length).flatMap (inR p)
theorem qXO(t:Ah)(p:Au)(h:TOk t)(hc:Qu p.calls)(hd:Qu p.cancels):pN t p=some (if fE t=0 then cF t p else[]):=by unfold pN;rw[eu t h,aC];by_cases hz:fE t=0;rw[if_pos hz,if_pos hz];have hlm:=of_decide_eq_true (eB hz).1;have hr:=h.Ab;have hp:=h.Af;have hs:t.Aa=((t.Aa.toNat:Nat):Int):=aB;rw[gZ (inS p) [] t.Aa.toNat aB (λi hi=>?_) iD,aC];rw[gZ (inP p) _ t.Af.length aB (λi hi=>?_) iD,aC];rw[gZ (inR p) _ t.Ab.length aB (λi hi=>?_) iD,aC];rfl;have h1:=eJ (f:=inS p) (c:=2) (λ_=>rfl) t.Aa.toNat;have h2:=eJ (f:=inP p) (c:=2) (λ_=>rfl) t.Af.length;have h3:=eJ (f:=inR p) (c:=4) (λ_=>rfl) i;dsimp only;rw[iL];simp only[qCA,aC,vF _ _ hc,vF _ _ hd];rw[aK (by simp only[xK,h1,h2,h3,kM,rA];omega),fg hi];rfl;have h1:=eJ (f:=inS p) (c:=2) (λ_=>rfl) t.Aa.toNat;have h2:=eJ (f:=inP p) (c:=2) (λ_=>rfl) i;dsimp only;rw[iL];simp only[qWK,aC];rw[aK (by simp only[xK,h1,h2,kM,rA];omega),fg hi];rfl;have h1:=eJ (f:=inS p) (c:=2) (λ_=>rfl) i;dsimp only;rw[iL];simp only[qCA,aC];rw[aK (by simp only[xK,h1,kM,rA];omega),fg hi];rfl;rw[if_neg hz,if_neg hz]
end Go.Proofs.YtandcfplaooadaaGreatDoor
set_option linter.unusedVariables false
set_option linter.unusedSimpArgs false
set_option maxHeartbeats 1000000
set_option maxRecDepth 100000
namespace Go.Proofs.YtandcfplaooadaaGreatDoor
open Go Go.TL
variable {l:Ar}{t:Ah}
theorem secs_of{L:List Int}(hn:L.Nodup)(hi:∀x∈L,0<=x/\x<t.Aa):H3 t L=true:=by unfold H3;rw[allB_iff];intro i hi';have hx:=iG hi';have hr:=hi _ (fV hi');generalize L[i]=s at hx hr;rw[gx hx];have h1:Nl s t.Aa=true:=decide_eq_true hr;have h2:s∉L.take i:=λh=>(by obtain⟨j,hj,he⟩:=zal122q.1 h;have h3:L[j]?=some s:=(by rw[<- he];exact Q8);have:=zb hn h3 hx;omega);rw[h1,decide_eq_false h2];rfl
theorem Wz(h:TabK l t){L:List Ac}(hp:∀x∈L,PtS l x)(ha:qXQ L):lA t L=true:=by unfold lA;rw[allB_iff];intro i hi;have hx:=iG hi;have hy:=iG (l:=L) (show i-1<L.length by omega);have hr:=hp _ (fV hi);rw[Ei hx hy,C0];refine decide_eq_true ⟨decide_eq_true (by rw[h.Af];exact points_mem.2 hr.1),hr.2.1,hr.2.2,λh0=>?_⟩;exact zal130q.1 ha (i-1) i aB hi aB
theorem Zg{a b:List Ac}(h:∀x∈a,∀y∈b,x.el=y.el->x.pos=y.pos):tC a b=true:=by unfold tC;rw[zQT];intro x hx;rw[zQT];intro y hy;by_cases he:x.el=y.el;rw[decide_eq_true (h x hx y hy he)];simp;rw[decide_eq_false he];rfl
theorem qUH(hk:LayK l)(h:TabK l t):fE t=0:=by have hs:=hk.s;have h1:=hs.Aa;have h2:=hs.Al;have hpl:=I2 hs;have hlen:=h.len;refine check_ok ?_ ?_ ?_ ?_ ?_;unfold Qj;rw[h.Af,h.Aa,h.Al];exact decide_eq_true aB;unfold zE;rw[pQ,decide_eq_true_eq,allB_iff];refine⟨by rw[h.Af,h.A9,yt],λi hi=>?_⟩;rw[h.Af]at hi;have hx:=iG hi;have hy:=iG (l:=qR l) (show i-1<(qR l).length by omega);have hh:((qR l).map (Iy l))[i]?=some (Iy l (qR l)[i]):=(by rw[vV,hx];rfl);have hm:=points_mem.1 (fV hi);obtain⟨e,he,_⟩:=hm;have hel:=kl he;have hin:=sec_in hk hel.2.1 hel.2.2;rw[Gs (by rw[h.Af];exact hx) (by rw[h.Af];exact hy) (by rw[h.A9];exact hh),h.Aa];exact decide_eq_true ⟨hel.2.1,λh0=>zal130q.1 (qPE l) (i-1) i aB hi aB,hin.1,hin.2⟩;rw[zQT];intro r hr;have T:=h.ok r hr;have K:=T.v.k;have V:=T.v;rw[pQ];refine⟨?_,?_⟩;unfold rE qCD;have q1:Nl r.entry t.Al=true:=(by unfold Nl;rw[h.Al];exact decide_eq_true K.entry);have q2:decide (-1<=r.exit/\r.exit<t.Al)=true:=(by rw[h.Al];exact decide_eq_true K.exit);have q3:decide (1<=r.path.length/\r.path.length<=12)=true:=decide_eq_true ⟨K.path.1,K.path.2.1⟩;have q4:decide (0<r.Aa.length)=true:=decide_eq_true (zal92q.2 K.Aa.2.1);have q5:H3 t (r.Aa++r.Ae)=true:=(by refine secs_of ?_ λx hx=>?_;rw[zal124q];exact⟨K.Aa.2.2.1,V.Ae.2.1,λa ha b hb e=>(V.Ae.2.2 b hb).2 (e ▸ ha)⟩;rw[h.Aa];rcases zQN.1 hx with hx|hx;exact K.Aa.2.2.2 x hx;exact(V.Ae.2.2 x hx).1);have q6:Nl r.A1 t.Aa=true:=(by unfold Nl;rw[h.Aa];exact decide_eq_true K.A1);have q7:decide (1<=r.length)=true:=decide_eq_true K.length.1;rw[q1,q2,q3,q4,q5,q6,q7];rfl;unfold xP;rw[Wz h (λx hx=>(K.Af.2.1 x hx).1) K.Af.2.2,Wz h (λx hx=>(V.Am.2.1 x hx).1) V.Am.2.2,Wz h T.A4.1 T.A4.2];rfl;rw[zQT];intro r hr;have T:=h.ok r hr;have K:=T.v.k;have V:=T.v;unfold cw;rw[Zg (a:=r.Af) (b:=r.Am) λx hx y hy he=>?_,Zg (a:=r.Af) (b:=r.A4) λx hx y hy he=>T.agree y hy x (.inl hx) he,Zg (a:=r.Am) (b:=r.A4) λx hx y hy he=>T.agree y hy x (.inr hx) he];rfl;obtain⟨s,hs1,hs2⟩:=(K.Af.2.1 x hx).2;obtain⟨u,hu1,hu2⟩:=(V.Am.2.1 y hy).2;have h1:=K.cover s hs1;have h2:=V.over.2.2.2 u hu1;rw[hs2,he,<- hu2]at h1;exact absurd h1 h2;unfold Ja;rw[allB_iff];intro i hi;have hx:=iG hi;rw[Xu hx,gH,zal44q];intro q hq hc;have hc:=of_decide_eq_true hc;obtain⟨j,hj,rfl⟩:=zal122q.1 hq;have h1:(t.Ab.map (·.name))[j]?=some t.Ab[j].name:=(by rw[vV,Q8];rfl);have h2:(t.Ab.map (·.name))[i]?=some t.Ab[i].name:=(by rw[vV,hx];rfl);have:=zb h.names h1 (h2.trans (by rw[hc]));omega
theorem tab_wf(hk:LayK l)(h:TabK l t):WfB t:=by refine⟨λr hr s hs=>?_,λx hx=>?_⟩;have T:=h.ok r hr;simp only[cV,zQN]at hs;rcases hs with(hs|hs)|hs;exact(T.v.k.Af.2.1 s hs).1.ok hk;exact(T.v.Am.2.1 s hs).1.ok hk;exact(T.A4.1 s hs).ok hk;rw[h.Af]at hx;obtain⟨e,he,_⟩:=points_mem.1 hx;have:=kl he;have h3:=hk.s.Ap;unfold cI;omega
theorem tabk_ok(hk:LayK l)(h:TabK l t):TOk t:=by have hpl:=I2 hk.s;have hlen:=h.len;refine⟨aB,by rw[h.Af];omega,λr hr=>?_⟩;have T:=h.ok r hr;have h1:=T.v.k.Af.1;have h2:=T.v.k.Aa.1;have h3:=T.v.Am.1;have h4:=T.v.Ae.1;have h5:=T.len;exact⟨aB,aB,aB,aB⟩
variable {a c d j k0 n o:Nat}{e:Ad}{el inp k m v:Int}{p:Au}{q r:Aj}{s:Av}{x y:Ag}{α β ρ:Type}{F:Int×List β->Option ((Int×List β) ⊕ ρ)}{f:Nat->Aj->List α}
theorem pathI_at{t:Ah}{i:Nat}(hf:kT t s=true)(H:FitsAt t s i):Oc t s (i:Int)=jE t s i:=qLA hf H.r H.x
def bI(t:Ah)(el:Int):Nat:=(cL t.Af el).getD 0
def uE(t:Ah)(l:List Ac)(b:List Int):List Int:=l.foldl (λb e=>b.set (bI t e.el) e.pos) b
theorem X4(t:Ah)(l:List Ac):∀b,(uE t l b).length=b.length:=by induction l with|nil=>intro b;rfl|cons e r ih=>intro b;unfold uE;rw[ey];exact(ih _).trans zal95q
theorem qPT(t:Ah)(l:List Ac)(P:Int->Prop)(hl:∀e∈l,P e.pos):∀b,(∀p∈b,P p)->∀p∈uE t l b,P p:=by induction l with|nil=>intro b hb p hp;exact hb p hp|cons e r ih=>intro b hb p hp;unfold uE at hp;rw[ey]at hp;refine ih (λx hx=>hl x (pP _ hx)) _ (λq hq=>?_) p hp;rcases List.mem_or_eq_of_mem_set hq with h|h;exact hb q h;rw[h];exact hl e (jI ..)
theorem qBV(t:Ah)(l:List Ac)(k:Nat)(h:∀e∈l,bI t e.el≠k):∀b,(uE t l b)[k]?=b[k]?:=by induction l with|nil=>intro b;rfl|cons e r ih=>intro b;unfold uE;rw[ey];refine(ih (λx hx=>h x (pP _ hx)) _).trans ?_;rw[tV (h e (jI ..))]
theorem Je(t:Ah)(l:List Ac)(k:Nat)(v:Int)(h:∀e∈l,bI t e.el=k->e.pos=v):∀b,k<b.length->(∃e∈l,bI t e.el=k)\/b[k]?=some v->(uE t l b)[k]?=some v:=by induction l with|nil =>(intro b hk hx;rcases hx with⟨e,he,_⟩|hx;cases he;exact hx)|cons e r ih=>intro b hk hx;unfold uE;rw[ey];refine ih (λx hx=>h x (pP _ hx)) _ (by rw[zal95q];exact hk) ?_;by_cases hp:bI t e.el=k;right;rw[hp,qd hk,h e (jI ..) hp];rcases hx with⟨x,hx,hxk⟩|hx;rcases zQB.1 hx with rfl|hx;exact absurd hxk hp;exact .inl ⟨x,hx,hxk⟩;right;rw[tV hp];exact hx
theorem qLD(t:Ah)(l:List Ac)(b:List Int){i:Nat}{e:Ac}(h:l[i]?=some e):uE t (l.take (i+1)) b=(uE t (l.take i) b).set (bI t e.el) e.pos:=by obtain⟨hi,rfl⟩:=zQQ.1 h;unfold uE;rw[Qx hi,xz];rfl
def rK(t:Ah)(s:Av)(i:Nat):Av:=⟨s.Ab.set i Ej,uE t (gE (cV (eZ t i))) s.lies⟩
theorem qFU{t:Ah}(hs:xP t r=true)(ha:cw r=true){e e':Ac}(he:e∈cV r)(he':e'∈cV r)(hel:e.el=e'.el):e.pos=e'.pos:=by have inner:∀l:List Ac,lA t l=true->∀(i j:Nat),i<j->∀(x y:Ac),l[i]?=some x->l[j]?=some y->x.el<y.el:=(by intro l hl i j;induction j with|zero=>intro h;omega|succ j ih=>intro hij x y hx hy;obtain⟨hj,rfl⟩:=zQQ.1 hy;have hj':l[j]?=some l[j]:=D6;have h1:=allB_iff.1 hl (j+1) hj;rw[Ei hy (by rw[Nat.add_sub_cancel];exact hj')]at h1;have h2:=(of_decide_eq_true h1).2.2.2 aB;rcases fU i j with hlt|hge;have:=ih hlt x _ hx hj';omega;have:i=j:=aB;subst this;rw[hx]at hj';cases hj';exact h2);have same:∀l:List Ac,lA t l=true->∀(x y:Ac),x∈l->y∈l->x.el=y.el->x.pos=y.pos:=(by intro l hl x y hx hy hxy;obtain⟨i,hi,rfl⟩:=zal113q.1 hx;obtain⟨j,hj,rfl⟩:=zal113q.1 hy;rcases Nat.lt_trichotomy i j with h|h|h;have:=inner l hl i j h _ _ (iG hi) (iG hj);omega;subst h;rfl;have:=inner l hl j i h _ _ (iG hj) (iG hi);omega);have cross:∀l m:List Ac,tC l m=true->∀(x y:Ac),x∈l->y∈m->x.el=y.el->x.pos=y.pos:=(by intro l m hl x y hx hy hxy;unfold tC at hl;rw[zQT]at hl;have:=hl x hx;rw[zQT]at this;have:=this y hy;rw[hxy]at this;simpa using this);unfold xP at hs;unfold cw at ha;simp only[pQ]at hs ha;simp only[cV,zQN]at he he';rcases he with(he|he)|he<;>rcases he' with(he'|he')|he';exact same _ hs.1.1 _ _ he he' hel;exact cross _ _ ha.1.1 _ _ he he' hel;exact cross _ _ ha.1.2 _ _ he he' hel;exact(cross _ _ ha.1.1 _ _ he' he hel.symm).symm;exact same _ hs.1.2 _ _ he he' hel;exact cross _ _ ha.2 _ _ he he' hel;exact(cross _ _ ha.1.2 _ _ he' he hel.symm).symm;exact(cross _ _ ha.2 _ _ he' he hel.symm).symm;exact same _ hs.2 _ _ he he' hel
theorem M1{t:Ah}{a b:Int}{k q:Nat}(ha:cL t.Af a=some k)(hb:cL t.Af b=some q)(h:k=q):a=b:=by subst h;obtain⟨x,hx,hxa,_⟩:=vP ha;obtain⟨y,hy,hyb,_⟩:=vP hb;rw[hx]at hy;cases hy;simp only[beq_iff_eq]at hxa hyb;omega
theorem O2{t:Ah}(hf:kT t s=true){i:Nat}(hi:i<t.Ab.length){e:Ac}(he:e∈cV (eZ t i)):wQ t (rK t s i) e.el=e.pos:=by have H:=iN hf hi;have hf':=fitsB_iff.1 hf;have hc:=eB hf'.1;obtain⟨q,hq,hql⟩:=lV (hc.2.2.1 _ H.mem).2 he;have:=Je t (gE (cV (eZ t i))) q e.pos (λx hx hxq=>by have hx:=ascS_mem.1 hx;obtain⟨q',hq',_⟩:=lV (hc.2.2.1 _ H.mem).2 hx;have:q'=q:=(by simpa[bI,hq']using hxq);exact qFU (hc.2.2.1 _ H.mem).2 (hc.2.2.2.1 _ H.mem) hx he (M1 hq' hq this)) s.lies aB (.inl ⟨e,ascS_mem.2 he,by simp[bI,hq]⟩);unfold wQ rK;rw[hq];simp only[Option.bind_some];rw[this];rfl
theorem qHU{t:Ah}(hf:kT t s=true){i:Nat}(hi:i<t.Ab.length)(he:∀e∈cV (eZ t i),e.el≠el)(hel:(cL t.Af el).isSome=true):wQ t (rK t s i) el=wQ t s el:=by have H:=iN hf hi;have hc:=eB (fitsB_iff.1 hf).1;obtain⟨q,hq⟩:=Option.isSome_iff_exists.1 hel;have:=qBV t (gE (cV (eZ t i))) q (λx hx hxq=>by have hx:=ascS_mem.1 hx;obtain⟨q',hq',_⟩:=lV (hc.2.2.1 _ H.mem).2 hx;have:q'=q:=(by simpa[bI,hq']using hxq);exact he x hx (M1 hq' hq this)) s.lies;unfold wQ rK;rw[hq];simp only[Option.bind_some];rw[this]
theorem Bv{i:Nat}{l:List Int}(hi:i<s.Ab.length):fF ⟨s.Ab.set i x,l⟩ i=x:=by simp[fF,qd hi]
theorem Bw{i:Nat}{l:List Int}(h:o≠i):fF ⟨s.Ab.set i x,l⟩ o=fF s o:=by simp[fF,tV (Ne.symm h)]
theorem fits_set{t:Ah}(hf:kT t s=true){i:Nat}(hi:i<t.Ab.length)(hx:dA x (eZ t i).Aa.length=true){l:List Int}(hl:l.length=s.lies.length)(hm:∀p∈l,Qk p=true):kT t ⟨s.Ab.set i x,l⟩=true:=by have H:=iN hf hi;have hf':=fitsB_iff.1 hf;refine fitsB_iff.2 ⟨hf'.1,by simpa using hf'.2.1,by simpa[hl]using hf'.2.2.1,λo ho=>?_,hm⟩;simp only[zal95q]at ho;by_cases e:o=i;subst e;rw[oJ (by simp only[];rw[qd ho]) H.r];exact hx;have H':=iN hf (i:=o) aB;rw[oJ (x:=fF s o) (by simp only[];rw[tV (Ne.symm e)];exact H'.x) H'.r];exact H'.fits
theorem G9{t:Ah}(h:lS t s=true){b:Nat}(ha:a<t.Ab.length)(hb:b<t.Ab.length)(hne:a≠b):mM t s a b=false:=by have h':=h;unfold lS at h';rw[pQ,pQ]at h';have key:∀a b,b<a->a<t.Ab.length->mM t s a b=false:=λa b hba ha=>(by have:=allB_iff.1 (allB_iff.1 h'.1.2 a ha) b hba;simpa using this);rcases Nat.lt_or_gt_of_ne hne with hl|hl;rw[Yx];exact key b a hl hb;exact key a b hl ha
theorem Nu{t:Ah}(h:lS t s=true)(ha:a<t.Ab.length):∀e∈mY t s a,wQ t s e.el=e.pos:=by unfold lS at h;rw[pQ]at h;intro e he;have:=zQT.1 (allB_iff.1 h.2 a ha) e he;exact of_decide_eq_true this
theorem Wy{t:Ah}(hf:kT t s=true)(h1:∀a b,a<t.Ab.length->b<t.Ab.length->a≠b->mM t s a b=false)(h2:∀a,a<t.Ab.length->∀e∈mY t s a,wQ t s e.el=e.pos):lS t s=true:=by unfold lS;rw[pQ,pQ];refine⟨⟨hf,allB_iff.2 λa ha=>allB_iff.2 λb hb=>?_⟩,allB_iff.2 λa ha=>zQT.2 λe he=>decide_eq_true (h2 a ha e he)⟩;rw[h1 a b ha aB aB];rfl
theorem G5{t:Ah}{n:Int}(h:zL t s p n=0):lS t s=true/\0<=n/\n<t.Ab.length/\(fF s n.toNat).state=0/\(∀o,o<t.Ab.length->uF t s n.toNat o=false)/\(∀o,o<t.Ab.length->lZ t s n.toNat o=false):=by
  unfold zL at h;split at h;omega;rename_i h1;split at h;omega;rename_i h2;split at h;omega;split at h
  · omega
  rename_i h4;split at h;omega;rename_i h5
  refine ⟨by cases hs : lS t s; · exact absurd (.inl hs) h1
             · rfl,by omega,by omega,by omega,λo ho=>?_,λo ho=>?_⟩
  cases hb:uF t s n.toNat o
  · rfl
  exact absurd (zQU.2 ⟨o,zal120q.2 ho,hb⟩) h4;cases hb:lZ t s n.toNat o
  · rfl
  exact absurd (zQU.2 ⟨o,zal120q.2 ho,hb⟩) h5
theorem M4{t:Ah}{i:Nat}{l:List Int}(h:o≠i):jE t ⟨s.Ab.set i x,l⟩ o=jE t s o:=by unfold jE;rw[Bw h]
theorem M8{t:Ah}{i:Nat}{l:List Int}(h:o≠i):lJ t ⟨s.Ab.set i x,l⟩ o=lJ t s o:=by unfold lJ;rw[Bw h]
theorem qQQ{t:Ah}{i:Nat}{l:List Int}(h:o≠i):mY t ⟨s.Ab.set i x,l⟩ o=mY t s o:=by unfold mY;rw[Bw h]
theorem Y2{t:Ah}{i:Nat}(h:zL t s p (i:Int)=0):lS t (rK t s i)=true:=by obtain⟨hs,_,hi,_,hb,hcn⟩:=G5 h;have hi:i<t.Ab.length:=aB;rw[yP]at hb hcn;have hf:=fD hs;have H:=iN hf hi;have hf':=fitsB_iff.1 hf;have hc:=eB hf'.1;have hn:i<s.Ab.length:=aB;have hF:kT t (rK t s i)=true:=fits_set hf hi (qAV _) (X4 ..) (λq hq=>by refine qPT t _ (λp=>Qk p=true) (λe he=>?_) s.lies hf'.2.2.2.2 q hq;have he:=ascS_mem.1 he;have hs:=(hc.2.2.1 _ H.mem).2;unfold xP at hs;simp only[pQ]at hs;have:1<=e.pos/\e.pos<=2:=(by simp only[cV,zQN]at he;rcases he with(he|he)|he;exact(kv hs.1.1 he).2;exact(kv hs.1.2 he).2;exact(kv hs.2 he).2);exact decide_eq_true aB);have key:∀o,o<t.Ab.length->o≠i->mM t (rK t s i) i o=false:=λo ho hne=>(by have h1:=hb o ho;unfold uF at h1;rw[decide_eq_false hne,sJ,pX]at h1;unfold mM;rw[show jE t (rK t s i) i=(eZ t i).Aa by unfold jE rK;rw[Bv hn,M2],show lJ t (rK t s i) i=(eZ t i).Ae by unfold lJ rK;rw[Bv hn,M6],show jE t (rK t s i) o=jE t s o from M4 hne,show lJ t (rK t s i) o=lJ t s o from M8 hne];exact h1);refine Wy hF (λa b ha hb' hne=>?_) (λa ha e he=>?_);by_cases e:a=i;subst e;exact key b hb' (Ne.symm hne);by_cases e':b=i;subst e';rw[Yx];exact key a ha e;have:=G9 hs ha hb' hne;unfold mM at this⊢;rw[show jE t (rK t s i) a=jE t s a from M4 e,show lJ t (rK t s i) a=lJ t s a from M8 e,show jE t (rK t s i) b=jE t s b from M4 e',show lJ t (rK t s i) b=lJ t s b from M8 e'];exact this;by_cases hai:a=i;subst hai;exact O2 hf hi (Jl he);rw[show mY t (rK t s i) a=mY t s a from qQQ hai]at he;have h1:=Nu hs ha e he;by_cases hx:∃e'∈cV (eZ t i),e'.el=e.el;obtain⟨e',he',hel⟩:=hx;have h2:=hcn a ha;unfold lZ at h2;rw[decide_eq_false hai,sJ,pX,qDM]at h2;unfold tC at h2;have h3:=zQT.1 (zQT.1 h2 e' (ascS_mem.2 he')) e he;have h4:=O2 hf hi he';rw[hel]at h4 h3;have h5:e'.pos=e.pos:=(by simpa using h3);omega;refine(qHU hf hi (λx hx' hxe=>hx ⟨x,hx',hxe⟩) ?_).trans h1;have H':=iN hf ha;obtain⟨q,hq,_⟩:=lV (hc.2.2.1 _ H'.mem).2 (Jl he);rw[hq];rfl
abbrev iX(p:Au)(n:Int):Bool:=mL p.occupied n
def jO(p:Au)(i:Nat):Bool:=decide (p.claimed.length<=i)||p.claimed.getD i false
def uL(p:Au)(i:Nat):Bool:=decide (i<p.passed.length)&&p.passed.getD i false
def vT(p:Au)(i:Nat):Bool:=decide ((i:Int)∈p.cancels)
def xr(t:Ah)(p:Au)(e:Ac):Bool:=decide (p.detected[bI t e.el]?=some e.pos)
def pR(t:Ah)(p:Au)(r:Aj):Bool:=!((r.Aa++r.Ae).any (iX p))&&(gE (cV r)).all (xr t p)
def tU(t:Ah)(s:Av)(p:Au)(i:Nat):Bool:=!(jE t s i).any (iX p)
def idleX:Ag:=⟨0,0,0⟩
def iI(r:Aj)(k:Int):Int:=r.Aa.getD k.toNat 0
def vA(r:Aj)(p:Au)(c q l m v:Bool)(x:Ag):Ag:=if x.state=1 then(if l=true then idleX else if v=true then⟨2,0,0⟩else⟨1,0,0⟩)else if x.state=2 then(if iX p (iI r 0)=true then⟨3,0,0⟩else if(l&&!c&&!iX p r.A1)=true then idleX else if(l||!v)=true then⟨4,0,0⟩else⟨2,0,0⟩)else if x.state=3 then(if c=true then⟨3,x.rel,0⟩else if(l&&m)=true then⟨4,x.rel,0⟩else if(!iX p (iI r x.rel))=true then(if x.rel=(r.Aa.length:Int)-1 then idleX else if(q||iX p (iI r (x.rel+1)))=true then⟨3,x.rel+1,0⟩else⟨3,x.rel,0⟩)else if x.rel<(r.Aa.length:Int)-1 then⟨3,x.rel,0⟩else if x.timer+1=4 then idleX else⟨3,x.rel,x.timer+1⟩)else if x.state=4 then(if iX p (iI r x.rel)=true then⟨3,x.rel,0⟩else if(c||!m)=true then⟨4,x.rel,0⟩else if x.timer+1=12 then idleX else⟨4,x.rel,x.timer+1⟩)else idleX
section
variable {r:Aj}{p:Au}{c q l m v:Bool}{x:Ag}
theorem Ve(h:x.state=1):vA r p c q l m v x=if l=true then idleX else if v=true then⟨2,0,0⟩else⟨1,0,0⟩:=by unfold vA;rw[if_pos h]
theorem qGF(h:x.state=2):vA r p c q l m v x=if iX p (iI r 0)=true then⟨3,0,0⟩else if(l&&!c&&!iX p r.A1)=true then idleX else if(l||!v)=true then⟨4,0,0⟩else⟨2,0,0⟩:=by unfold vA;rw[mF,if_pos h]
theorem qSN(h:x.state=3):vA r p c q l m v x=if c=true then⟨3,x.rel,0⟩else if(l&&m)=true then⟨4,x.rel,0⟩else if(!iX p (iI r x.rel))=true then(if x.rel=(r.Aa.length:Int)-1 then idleX else if(q||iX p (iI r (x.rel+1)))=true then⟨3,x.rel+1,0⟩else⟨3,x.rel,0⟩)else if x.rel<(r.Aa.length:Int)-1 then⟨3,x.rel,0⟩else if x.timer+1=4 then idleX else⟨3,x.rel,x.timer+1⟩:=by unfold vA;rw[mF,mF,if_pos h]
theorem qSM(h:x.state=4):vA r p c q l m v x=if iX p (iI r x.rel)=true then⟨3,x.rel,0⟩else if(c||!m)=true then⟨4,x.rel,0⟩else if x.timer+1=12 then idleX else⟨4,x.rel,x.timer+1⟩:=by unfold vA;rw[mF,mF,mF,if_pos h]
theorem qSO(h1:¬x.state=1)(h2:¬x.state=2)(h3:¬x.state=3)(h4:¬x.state=4):vA r p c q l m v x=idleX:=by unfold vA;rw[if_neg h1,if_neg h2,if_neg h3,if_neg h4]
end
def lK(t:Ah)(s:Av)(p:Au)(i:Nat):Ag:=vA (eZ t i) p (jO p i) (uL p i) (vT p i) (tU t s p i) (pR t p (eZ t i)) (fF s i)
def qSP(t:Ah)(s:Av)(p:Au)(n:Int):Ag:=if 0<=n/\n<t.Ab.length/\kT t s=true then lK t s p n.toNat else idleX
structure Less (n:Nat) (x y:Ag):Prop where
 fits:dA y n=true
 idle:x.state=0->y.state=0
 rel:y.state≠0->x.rel<=y.rel
theorem vu(h:dA x n=true):((x.state=0\/x.state=1\/x.state=2)/\x.rel=0/\x.timer=0)\/(x.state=3/\0<=x.rel/\x.rel<n/\(x.timer=0\/(x.rel=n-1/\0<x.timer/\x.timer<4)))\/(x.state=4/\0<=x.rel/\x.rel<n/\0<=x.timer/\x.timer<12):=by by_cases h1:x.state=0\/x.state=1\/x.state=2;rw[yg h1]at h;exact .inl ⟨h1,of_decide_eq_true h⟩;by_cases h3:x.state=3;rw[qt h3]at h;exact .inr (.inl ⟨h3,of_decide_eq_true h⟩);by_cases h4:x.state=4;rw[qu h4]at h;exact .inr (.inr ⟨h4,of_decide_eq_true h⟩);rw[qFB h1 h3 h4]at h;cases h
theorem Fz(h:y=idleX\/y=⟨1,0,0⟩\/y=⟨2,0,0⟩):dA y n=true:=by rcases h with rfl|rfl|rfl<;>rfl
theorem zp(h0:0<=k)(h1:k<n)(h2:m=0\/(k=n-1/\0<m/\m<4)):dA ⟨3,k,m⟩ n=true:=by rw[qt rfl];exact decide_eq_true ⟨h0,h1,h2⟩
theorem G6(h0:0<=k)(h1:k<n)(h2:0<=m)(h3:m<12):dA ⟨4,k,m⟩ n=true:=by rw[qu rfl];exact decide_eq_true ⟨h0,h1,h2,h3⟩
theorem qVQ{c q l m v:Bool}(hn:0<r.Aa.length)(h:dA x r.Aa.length=true):Less r.Aa.length x (vA r p c q l m v x):=by have idle:Less r.Aa.length x idleX:=⟨Fz (.inl rfl),λ_=>rfl,λh=>absurd rfl h⟩;rcases vu h with⟨h1,h2,h3⟩|⟨h1,h2,h3,h4⟩|⟨h1,h2,h3,h4,h5⟩;unfold vA;rcases h1 with h1|h1|h1;rw[mF,mF,mF,mF];exact idle;rw[if_pos h1];split;exact idle;split;exact⟨Fz (.inr (.inr rfl)),λh=>aB,λ_=>Mi⟩;exact⟨Fz (.inr (.inl rfl)),λh=>aB,λ_=>Mi⟩;rw[mF,if_pos h1];split;exact⟨zp aB aB (.inl rfl),λh=>aB,λ_=>Mi⟩;split;exact idle;split;exact⟨G6 aB aB aB aB,λh=>aB,λ_=>Mi⟩;exact⟨Fz (.inr (.inr rfl)),λh=>aB,λ_=>Mi⟩;unfold vA;rw[mF,mF,if_pos h1];have stay:Less r.Aa.length x ⟨3,x.rel,0⟩:=⟨zp h2 h3 (.inl rfl),λh=>aB,λ_=>tW _⟩;split;exact stay;split;exact⟨G6 h2 h3 aB aB,λh=>aB,λ_=>tW _⟩;split;split;exact idle;split;exact⟨zp aB aB (.inl rfl),λh=>aB,λ_=>Mi⟩;exact stay;split;exact stay;split;exact idle;exact⟨zp h2 h3 (.inr aB),λh=>aB,λ_=>tW _⟩;unfold vA;rw[mF,mF,mF,if_pos h1];split;exact⟨zp h2 h3 (.inl rfl),λh=>aB,λ_=>tW _⟩;split;exact⟨G6 h2 h3 aB aB,λh=>aB,λ_=>tW _⟩;split;exact idle;exact⟨G6 h2 h3 aB aB,λh=>aB,λ_=>tW _⟩
theorem qMC(h:Less n x y)(hx:0<=x.rel):∃d,pJ r y=(pJ r x).drop d:=by by_cases hy:y.state=0;exact⟨(pJ r x).length,by unfold pJ;rw[if_pos hy,List.drop_length]⟩;have hx0:¬x.state=0:=λe=>hy (h.idle e);have:=h.rel hy;refine⟨y.rel.toNat-x.rel.toNat,?_⟩;unfold pJ;rw[if_neg hy,if_neg hx0,qDJ];congr 1;omega
theorem qBX(h:Less n x y)(hx:0<=x.rel):∀k,k∈pJ r y->k∈pJ r x:=by obtain⟨d,hd⟩:=qMC (r:=r) h hx;intro k hk;rw[hd]at hk;exact Bn hk
theorem qWI(h:Less n x y):sF r y=[]\/sF r y=sF r x:=by by_cases hy:y.state=0;exact .inl (by unfold sF;rw[if_pos hy]);have hx0:¬x.state=0:=λe=>hy (h.idle e);exact .inr (by unfold sF;rw[if_neg hy,if_neg hx0])
theorem qPU{t:Ah}(h:Less n x y)(hx:0<=x.rel):∀e,e∈tB t r y->e∈tB t r x:=by intro e he;by_cases hy:y.state=0;unfold tB at he;rw[if_pos hy]at he;cases he;have hx0:¬x.state=0:=λe=>hy (h.idle e);have hr:=h.rel hy;unfold tB at he⊢;rw[if_neg hy]at he;rw[if_neg hx0];rw[ascS_mem]at he⊢;simp only[zQN,zal111q]at he⊢;rcases he with(he|he)|he;refine .inl (.inl ⟨he.1,?_⟩);have h2:=he.2;unfold zm at h2⊢;simp only[gH,decide_eq_false_iff_not]at h2⊢;intro hm;refine h2 ?_;have:x.rel.toNat<=y.rel.toNat:=aB;have h3:r.Aa.take x.rel.toNat=(r.Aa.take y.rel.toNat).take x.rel.toNat:=(by rw[List.take_take,Nat.min_eq_left this]);rw[h3]at hm;exact ww hm;exact .inl (.inr he);exact .inr he
theorem Cs{a b c d:List Int}(h1:∀n,n∈a->n∈c)(h2:∀n,n∈b->n∈d)(h:vX c d=false):vX a b=false:=by unfold vX at h⊢;rw[zal44q]at h⊢;intro n hn;have:=h n (h1 n hn);simp only[decide_eq_true_eq]at this⊢;exact λhb=>this (h2 n hb)
theorem qMO{a b:Aj}{pa oa pb ob pa' oa' pb' ob':List Int}(h1:∀n,n∈pa->n∈pa')(h2:∀n,n∈oa->n∈oa')(h3:∀n,n∈pb->n∈pb')(h4:∀n,n∈ob->n∈ob')(h:sZ a b pa' oa' pb' ob'=false):sZ a b pa oa pb ob=false:=by unfold sZ at h⊢;simp only[qDL]at h⊢;have imp:∀{u v w:Bool},(u=false->w=false)->(u&&v)=false->(w&&v)=false:=fun {u v w} hh hu=>(by cases v with|false=>simp|true=>simpa using hh (by simpa using hu));refine⟨⟨⟨Cs h1 h3 h.1.1.1,?_⟩,?_⟩,?_⟩;exact imp (Cs h2 h3) h.1.1.2;exact imp (Cs h1 h4) h.1.2;have h5:=h.2;rw[ez]at h5⊢;exact imp (Cs h2 h4) h5
theorem qBH(h:Less n x y):∀k,k∈sF r y->k∈sF r x:=by intro k hk;rcases qWI (r:=r) h with e|e;rw[e]at hk;cases hk;rw[e]at hk;exact hk
theorem qOH{t:Ah}{s':Av}(h:lS t s=true)(hl:s'.lies=s.lies)(hlen:s'.Ab.length=s.Ab.length)(hless:∀i,i<t.Ab.length->Less (eZ t i).Aa.length (fF s i) (fF s' i)):lS t s'=true:=by have hf:=fD h;have hf':=fitsB_iff.1 hf;have hF:kT t s'=true:=fitsB_iff.2 ⟨hf'.1,aB,by rw[hl];exact hf'.2.2.1,λi hi=>by have H:=iN hf (i:=i) aB;rw[oJ (qNS hi) H.r];exact(hless i aB).fits,by rw[hl];exact hf'.2.2.2.2⟩;have pos:∀i,i<t.Ab.length->0<=(fF s i).rel:=λi hi=>(J8 (iN hf hi).fits).1;refine Wy hF (λa b ha hb hne=>?_) (λa ha e he=>?_);exact qMO (qBX (hless a ha) (pos a ha)) (qBH (hless a ha)) (qBX (hless b hb) (pos b hb)) (qBH (hless b hb)) (G9 h ha hb hne);have:=Nu h ha e (qPU (hless a ha) (pos a ha) e he);unfold wQ at this⊢;rw[hl];exact this
theorem Ci(p:Au)(n:Int):jD p n=some (iX p n):=qTN p.occupied n
theorem Qs(l:List Int)(f:Int->Option Bool)(P:Int->Bool)(hf:∀x,f x=some (P x))(h:Qu l):kZ l f=some (l.any P):=by unfold kZ uV;rw[Nd l P (λi=>.inr (i:Int)) (.inl ()) h (λi e he=>?_) rB];have hx:l.any P=(l.findIdx? P).isSome:=(by cases hq:l.findIdx? P with|none=>rw[Ik]at hq;have:l.any P=false:=(by rw[zal44q];simpa using hq);rw[this];rfl|some i=>obtain⟨x,hx,hp,_⟩:=vP hq;exact zQU.2 ⟨x,kK hx,hp⟩);rw[hx];cases l.findIdx? P<;>simp<;>omega;have hi:=gJ he;rw[iL,aR he,hf,aC];cases P e;simp only[kV,if_false,aK (eO hi h)];simp only[if_true,jG]
theorem Gn{t:Ah}(h:rE t r=true):0<r.Aa.length:=by unfold rE at h;simp only[pQ]at h;exact of_decide_eq_true h.1.1.1.2
theorem fitsLoop(t:Ah)(s:Av)(h:TOk t)(hc:fE t=0)(hlen:s.Ab.length=t.Ab.length)(hlies:s.lies.length=t.Af.length)(f:Int->Option Bool)(hf:∀x,f x=some (!Qk x)):dZ ( bK (λx9=>if x9<(s.Ab.length:Int)then bL s.Ab x9 λe12=>bL t.Ab x9 λe13=>if((decide (e12.state<(0:Int)))||(decide ((4:Int)<e12.state)))=true then aX ( aX ( some false))else if((!(((decide (e12.state=(3:Int)))||(decide (e12.state=(4:Int))))))&&((!(decide (e12.rel=(0:Int))))||(!(decide (e12.timer=(0:Int))))))=true then aX ( aX ( some false))else if((decide (e12.rel<(0:Int)))||((decide ((e13.Aa.length:Int)<=e12.rel))||(decide (e12.timer<(0:Int)))))=true then aX ( aX ( some false))else aE ( if e12.state=(3:Int)then if(0:Int)<e12.timer then aH (cI ((e13.Aa.length:Int)-(1:Int))) <|if e12.rel=((e13.Aa.length:Int)-(1:Int))then some (decide ((4:Int)<=e12.timer))else some true else some false else some false) λx29=>if x29=true then aX ( aX ( some false))else if((decide (e12.state=(4:Int)))&&(decide ((12:Int)<=e12.timer)))=true then aX ( aX ( some false))else aH (cI (x9+(1:Int))) <|some (.inl (x9+(1:Int)))else aX ( some (.inl ()))) (0:Int)) (λ_=>aE (kZ s.lies f) λr44=>some (!(r44)))=some (vU s.Ab.length (qH t s)&&s.lies.all Qk):=by have hp:=h.Af;have hrt:=h.Ab;have hck:=eB hc;rw[vM s.Ab.length (λi=>!qH t s i) (.inr false) (.inl ()) aB (λi hi=>?_) rB,yF];(cases vU s.Ab.length (qH t s)with|false=>rfl|true=>simp only[tX,kV,if_false,iA];rw[Qs s.lies _ _ hf qL,aC,qT,D5,pX]);have hx:=qNS (s:=s) hi;have hr:=qPA (t:=t) (i:=i) aB;have hm:=kK hr;have hpos:=Gn (hck.2.2.1 _ hm).1;have hS:=(h.each _ hm).secs;have hfl:∀{X:Option (Int ⊕ (Unit ⊕ Bool))},dA (fF s i) (eZ t i).Aa.length=false->X=some (.inr (.inr false))->X=if(!qH t s i)=true then some (.inr (.inr false))else some (.inl ((i:Int)+1)):=(by intro X hq hX;rw[oJ hx hr,hq,hX];rfl);rw[iL,aR hx,aR hr];have nofit:∀(hq:¬(((fF s i).state=0\/(fF s i).state=1\/(fF s i).state=2)/\(fF s i).rel=0/\(fF s i).timer=0)) (hq2:¬((fF s i).state=3/\0<=(fF s i).rel/\(fF s i).rel<(eZ t i).Aa.length/\((fF s i).timer=0\/((fF s i).rel=(eZ t i).Aa.length-1/\0<(fF s i).timer/\(fF s i).timer<4)))) (hq3:¬((fF s i).state=4/\0<=(fF s i).rel/\(fF s i).rel<(eZ t i).Aa.length/\0<=(fF s i).timer/\(fF s i).timer<12)),dA (fF s i) (eZ t i).Aa.length=false:=(by intro h1 h2 h3;cases hq:dA (fF s i) (eZ t i).Aa.length;rfl;rcases vu hq with h|h|h;exact absurd h h1;exact absurd h h2;exact absurd h h3);by_cases c1:(fF s i).state<0\/4<(fF s i).state;rw[if_pos (by simpa using c1)];exact hfl (nofit aB aB aB) rfl;rw[if_neg (by simpa using c1)];by_cases c2:¬((fF s i).state=3\/(fF s i).state=4)/\(¬(fF s i).rel=0\/¬(fF s i).timer=0);rw[if_pos zaP52q];exact hfl (nofit aB aB aB) rfl;rw[if_neg zaP52q];by_cases c3:(fF s i).rel<0\/((eZ t i).Aa.length:Int)<=(fF s i).rel\/(fF s i).timer<0;rw[if_pos (by simpa using c3)];exact hfl (nofit aB aB aB) rfl;rw[if_neg (by simpa using c3)];have key:(if(fF s i).state=(3:Int)then if(0:Int)<(fF s i).timer then aH (cI (((eZ t i).Aa.length:Int)-(1:Int))) <|if(fF s i).rel=(((eZ t i).Aa.length:Int)-(1:Int))then some (decide ((4:Int)<=(fF s i).timer))else some true else some false else some false)=some (decide ((fF s i).state=3/\0<(fF s i).timer/\¬((fF s i).rel=((eZ t i).Aa.length:Int)-1/\(fF s i).timer<4))):=(by rw[aK Mk];by_cases d1:(fF s i).state=3;rw[if_pos d1];by_cases d2:0<(fF s i).timer;rw[if_pos d2];by_cases d3:(fF s i).rel=((eZ t i).Aa.length:Int)-1;rw[if_pos d3];congr 1;rw[decide_eq_decide];omega;rw[if_neg d3];congr 1;symm;rw[decide_eq_true_eq];omega;rw[if_neg d2];congr 1;symm;rw[decide_eq_false_iff_not];omega;rw[if_neg d1];congr 1;symm;rw[decide_eq_false_iff_not];omega);rw[key,aC];by_cases c4:(fF s i).state=3/\0<(fF s i).timer/\¬((fF s i).rel=((eZ t i).Aa.length:Int)-1/\(fF s i).timer<4);rw[if_pos (decide_eq_true c4)];exact hfl (nofit aB aB aB) rfl;rw[if_neg (by simpa using c4)];by_cases c5:(fF s i).state=4/\12<=(fF s i).timer;rw[if_pos (by simpa using c5)];exact hfl (nofit aB aB aB) rfl;rw[if_neg (by simpa using c5),fg hi,oJ hx hr];have:dA (fF s i) (eZ t i).Aa.length=true:=(by by_cases e3:(fF s i).state=3;rw[qt e3];exact decide_eq_true aB;by_cases e4:(fF s i).state=4;rw[qu e4];exact decide_eq_true aB;rw[yg aB];exact decide_eq_true aB);rw[this];rfl
theorem pfits_eq(t:Ah)(s:Av)(h:TOk t):co t s=some (kT t s):=by unfold co kT;simp only[eu t h,aC,qCG];by_cases hd:fE t=0/\s.Ab.length=t.Ab.length/\s.lies.length=t.Af.length;rw[decide_eq_true hd];simp only[tX,kV,if_false,pX];refine fitsLoop t s h hd.1 hd.2.1 hd.2.2 _ λx=>?_;unfold bk Qk;congr 1;by_cases h1:x=1<;>by_cases h2:x=2<;>simp[h1,h2];simp[hd]
theorem qKA(t:Ah)(s:Av)(p:Au)(n:Int)(h:TOk t):lB t s p n=some (!(Oc t s n).any (iX p)):=by have hl:=qVK t s n h;unfold lB;rw[Path_eq t s n h,aC,nH (Oc t s n) (iX p) (.inr false) (.inl ()) aB (λi x hx=>?_) rB];cases (Oc t s n).any (iX p)<;>rfl;have hi:=gJ hx;rw[iL,aR hx,Ci,aC,fg hi];cases iX p x<;>rfl
theorem qWW{t:Ah}{e:Ac}{q:Nat}(hq:cL t.Af e.el=some q):(if(p.detected.length:Int)<=(q:Int)then some true else bL p.detected (q:Int) λe25=>some (!(decide (e25=e.pos))))=some (!xr t p e):=by have hpl:bI t e.el=q:=(by simp[bI,hq]);unfold xr;rw[hpl];by_cases h1:(p.detected.length:Int)<=(q:Int);rw[if_pos h1,zLn];rfl;have hx:p.detected[q]?=some (p.detected[q]' aB):=D6;rw[if_neg h1,aR hx,hx];congr 2;rw[decide_eq_decide];simp
theorem qES(h:Short r):(gE (cV r)).length<=6000000:=by have:=qZ (cV r);simp only[cV,xK]at this⊢;have a:=h.Af;have b:=h.over;have c:=h.A4;omega
theorem Xi(t:Ah)(p:Au)(r:Aj)(h:TOk t)(ho:SOk t)(hc:fE t=0)(hr:r∈t.Ab):tL t p r=some (pR t p r):=by have hS:=h.each r hr;have hs:=hS.secs;have hp:=h.Af;have hlen:=qES hS;have hck:=eB hc;unfold tL pR;rw[zr _ iK,aC];have hfl:([r.Aa,r.Ae]:List (List Int)).flatten=r.Aa++r.Ae:=aN;rw[hfl,nH (r.Aa++r.Ae) (iX p) (.inr false) (.inl ()) iK (λi x hx=>?_) rB];(cases (r.Aa++r.Ae).any (iX p)with|true=>rfl|false=>simp only[kV,if_false,iA,sJ,pX];rw[ef r hS (ho r hr),aC,nH (gE (cV r)) (λe=>!xr t p e) (.inr false) (.inl ()) aB (λi e he=>?_) rB,qT];cases (gE (cV r)).all (xr t p)<;>rfl;have hi:=gJ he;obtain⟨q,hq,hql⟩:=lV (hck.2.2.1 _ hr).2 (ascS_mem.1 (kK he));rw[iL,aR he,pA t e.el qL,aC,hq,show kA (some q)=(q:Int)from rfl,qWW hq,aC,fg hi];cases xr t p e<;>rfl);have hi:=gJ hx;rw[iL,aR hx,Ci,aC,aK (eO hi (by simp at hi⊢;omega))];cases iX p x<;>rfl
theorem sec_at(h0:0<=k)(h1:k<r.Aa.length):0<=k/\r.Aa[k.toNat]?=some (iI r k):=by refine⟨h0,?_⟩;unfold iI;rw[Q8,fx,Q8];rfl
theorem K7(h0:0<=k)(h1:k<r.Aa.length)(f:Int->Option β):bL r.Aa k f=f (iI r k):=vB h0 (sec_at h0 h1).2
section view
variable {t:Ah}{p:Au}{r:Aj}{x:Ag}{c q l m:Bool}
theorem qML{y:Ag}(h:TOk t)(ho:SOk t)(hc:fE t=0)(hr:r∈t.Ab)(hx:x.state=2):rO ⟨t,p,r,y,c,q,l,m⟩=some (vA r p c q l m (pR t p r) x):=by have hpos:=Gn ((eB hc).2.2.1 _ hr).1;rw[qGF hx];unfold rO;dsimp only;rw[K7 aB aB,Ci,aC];cases iX p (iI r 0)with|true=>rfl|false=>simp only[kV,if_false,Ci,aC,Xi t p r h ho hc hr];cases l<;>cases c<;>cases iX p r.A1<;>cases pR t p r<;>rfl
theorem used_eq(hx:x.state=3)(h:Short r)(hf:dA x r.Aa.length=true)(v:Bool):sP ⟨t,p,r,x,c,q,l,m⟩=some (vA r p c q l m v x):=by have hS:=h.secs;rcases vu hf with⟨h1,_,_⟩|⟨_,h2,h3,h4⟩|⟨h1,_⟩;omega;rw[qSN hx];unfold sP;dsimp only;rw[aK Mk];(cases c with|true=>rfl|false=>simp only[kV,if_false];by_cases hlm:(l&&m)=true;rw[if_pos hlm,if_pos hlm];rw[if_neg hlm,if_neg hlm,K7 h2 aB,Ci,aC];cases iX p (iI r x.rel)with|false=>simp only[sJ,if_true];by_cases hk:x.rel=(r.Aa.length:Int)-1;rw[if_pos hk,if_pos hk];rfl;rw[if_neg hk,if_neg hk];have hg:cI (x.rel+1):=Mk;rw[aK hg,aK hg,K7 aB aB,Ci];cases q<;>cases iX p (iI r (x.rel+1))<;>rfl|true=>simp only[tX,kV,if_false];by_cases hk:x.rel<(r.Aa.length:Int)-1;rw[if_pos hk,if_pos hk];rw[if_neg hk,if_neg hk,aK Mk];by_cases ht:x.timer+1=4;rw[if_pos ht,if_pos ht];rfl;rw[if_neg ht,if_neg ht]);omega
theorem held_eq(hx:x.state=4)(h:Short r)(hf:dA x r.Aa.length=true)(v:Bool):sQ ⟨t,p,r,x,c,q,l,m⟩=some (vA r p c q l m v x):=by have hS:=h.secs;rcases vu hf with⟨h1,_,_⟩|⟨h1,_⟩|⟨_,h2,h3,h4,h5⟩;omega;omega;rw[qSM hx];unfold sQ;dsimp only;rw[K7 h2 aB,Ci,aC];cases iX p (iI r x.rel)with|true=>rfl|false=>simp only[kV,if_false];by_cases hcm:(c||!m)=true;rw[if_pos hcm,if_pos hcm];rw[if_neg hcm,if_neg hcm,aK Mk];by_cases ht:x.timer+1=12;rw[if_pos ht,if_pos ht];rfl;rw[if_neg ht,if_neg ht]
end view
theorem K8{i:Nat}(h:¬(p.claimed.length:Int)<=(i:Int))(f:Bool->Option β):bL p.claimed (i:Int) f=f (jO p i):=by have hi:i<p.claimed.length:=aB;have hx:p.claimed[i]?=some (jO p i):=(by unfold jO;rw[decide_eq_false aB,Bool.false_or,fx,iG hi];rfl);exact aR hx
theorem Ov{i:Nat}(h:(i:Int)<(p.passed.length:Int))(f:Bool->Option β):bL p.passed (i:Int) f=f (uL p i):=by have hi:i<p.passed.length:=aB;have hx:p.passed[i]?=some (uL p i):=(by unfold uL;rw[decide_eq_true hi,pX,fx,iG hi];rfl);exact aR hx
theorem O0{i:Nat}(h:(p.claimed.length:Int)<=(i:Int)):jO p i=true:=by unfold jO;rw[decide_eq_true aB];rfl
theorem Xm{i:Nat}(h:¬(i:Int)<(p.passed.length:Int)):uL p i=false:=by unfold uL;rw[decide_eq_false aB];rfl
theorem Xt{t:Ah}{n:Int}(h:¬(0<=n/\n<t.Ab.length/\kT t s=true)):qSP t s p n=idleX:=if_neg h
theorem qKM{t:Ah}{i:Nat}(hi:i<t.Ab.length)(hf:kT t s=true):qSP t s p (i:Int)=lK t s p i:=by unfold qSP;rw[if_pos ⟨aB,aB,hf⟩,yP]
theorem Next_eqU(t:Ah)(s:Av)(p:Au)(n:Int)(h:TOk t)(ho:SOk t)(hp:p.cancels.length<=5000000):cp t s p n=some (qSP t s p n):=by unfold cp;by_cases h0:n<0;rw[if_pos h0,Xt aB];rfl;by_cases h1:(t.Ab.length:Int)<=n;rw[if_neg h0,if_pos h1,Xt aB];rfl;rw[if_neg h0,if_neg h1,pfits_eq t s h,aC,aC];cases hf:kT t s with|false=>rw[Xt (by rw[hf];simp)];rfl|true=>obtain⟨i,rfl⟩:=yQ (show 0<=n by omega);have hi:i<t.Ab.length:=aB;have H:=iN hf hi;have hc:=(fitsB_iff.1 hf).1;have hS:=h.each _ H.mem;rw[qKM hi hf];simp only[tX,kV,if_false];have hE:lB t s p (i:Int)=some (tU t s p i):=(by rw[qKA t s p _ h,pathI_at hf H];rfl);have hC:cO p.cancels (i:Int)=some (vT p i):=vF _ _ qL;rw[hE,hC,aR H.r,aR H.x];have key:∀{β:Type}(f:Bool->Bool->Option β),(if(p.claimed.length:Int)<=(i:Int)then if(i:Int)<(p.passed.length:Int)then bL p.passed (i:Int) λe42=>f true e42 else f true false else bL p.claimed (i:Int) λe32=>if(i:Int)<(p.passed.length:Int)then bL p.passed (i:Int) λe36=>f e32 e36 else f e32 false)=f (jO p i) (uL p i):=(by intro β f;by_cases a1:(p.claimed.length:Int)<=(i:Int)<;>by_cases a2:(i:Int)<(p.passed.length:Int);rw[if_pos a1,if_pos a2,Ov a2,O0 a1];rw[if_pos a1,if_neg a2,O0 a1,Xm a2];rw[if_neg a1,K8 a1,if_pos a2,Ov a2];rw[if_neg a1,K8 a1,if_neg a2,Xm a2]);rw[key (λu v=>aE (some (vT p i)) λr43=>aE (some (tU t s p i)) λr44=>some ((eZ t i).name,(eZ t i).entry,(eZ t i).exit,(eZ t i).path,(eZ t i).Af,(eZ t i).Aa,(eZ t i).A1,(eZ t i).length,(eZ t i).over,(eZ t i).Am,(eZ t i).Ae,(eZ t i).A4,(eZ t i).guards,(eZ t i).gaps,(fF s i).state,(fF s i).rel,(fF s i).timer,u,v,r43,r44))];simp only[aC];have e2:∀y v q l m,(⟨t,p,⟨(eZ t i).name,(eZ t i).entry,(eZ t i).exit,(eZ t i).path,(eZ t i).Af,(eZ t i).Aa,(eZ t i).A1,(eZ t i).length,(eZ t i).over,(eZ t i).Am,(eZ t i).Ae,(eZ t i).A4,(eZ t i).guards,(eZ t i).gaps⟩,y,v,q,l,m⟩:Ph)=⟨t,p,eZ t i,y,v,q,l,m⟩:=λ_ _ _ _ _=>rfl;have e3:(⟨(fF s i).state,(fF s i).rel,(fF s i).timer⟩:Ag)=fF s i:=rfl;have e4:(⟨(eZ t i).name,(eZ t i).entry,(eZ t i).exit,(eZ t i).path,(eZ t i).Af,(eZ t i).Aa,(eZ t i).A1,(eZ t i).length,(eZ t i).over,(eZ t i).Am,(eZ t i).Ae,(eZ t i).A4,(eZ t i).guards,(eZ t i).gaps⟩:Aj)=eZ t i:=rfl;simp only[e2,e3,e4];unfold lK;have hP:=Xi t p (eZ t i) h ho hc H.mem;by_cases s1:(fF s i).state=1;rw[if_pos s1,hP,aC];rcases vu H.fits with⟨_,hr0,ht0⟩|⟨hh,_⟩|⟨hh,_⟩;have hxe:fF s i=⟨1,0,0⟩:=(by rw[<- e3,s1,hr0,ht0]);(cases hcl:vT p i with|true=>rw[Ve s1];rfl|false=>simp only[kV,if_false];cases hpv:pR t p (eZ t i)with|false=>rw[Ve s1,hxe];rfl|true=>simp only[tX,kV,if_false,iA];have hcl2:=qML (x:=⟨2,0,0⟩) (y:=fF s i) (p:=p) (c:=jO p i) (q:=uL p i) (l:=false) (m:=tU t s p i) h ho hc H.mem rfl;rw[hcl2,aC,qGF rfl,Ve s1];have hfree:iX p (iI (eZ t i) 0)=false:=(by have hpos:=Gn ((eB hc).2.2.1 _ H.mem).1;have hm:iI (eZ t i) 0∈(eZ t i).Aa++(eZ t i).Ae:=zQN.2 (.inl (kK (sec_at (r:=eZ t i) (k:=0) aB aB).2));unfold pR at hpv;rw[pQ,gH,zal44q]at hpv;have:=hpv.1 _ hm;simpa using this);rw[hfree,hpv];rfl);omega;omega;rw[if_neg s1];by_cases s2:(fF s i).state=2;rw[if_pos s2];simp only[iA];rw[qML (x:=fF s i) h ho hc H.mem s2];rfl;rw[if_neg s2];by_cases s3:(fF s i).state=3;rw[if_pos s3,used_eq s3 hS H.fits (pR t p (eZ t i))];rfl;rw[if_neg s3];by_cases s4:(fF s i).state=4;rw[if_pos s4,held_eq s4 hS H.fits (pR t p (eZ t i))];rfl;rw[if_neg s4,qSO s1 s2 s3 s4];rfl
def X9(x:Int):List Int->List Int
 |[]=>[x]
 |y::r=>if x<y then x::y::r else if x=y then y::r else y::X9 x r
def vG:List Int->List Int
 |[]=>[]
 |x::r=>X9 x (vG r)
abbrev qIC(l:List Int):Prop:=l.Pairwise (·<·)
theorem insZ_mem{s x:Int}:∀{l},s∈X9 x l↔s=x\/s∈l
 |[]=>by simp[X9]
 |y::r=>by
  unfold X9;split;simp;split
  ·rename_i e;subst e;simp
  simp only[zQB,insZ_mem];grind
theorem ascZ_mem{s:Int}:∀{l},s∈vG l↔s∈l
 |[]=>by simp[vG]
 |x::r=>by simp[vG,insZ_mem,ascZ_mem]
theorem qLQ(x:Int):∀l,qIC l->qIC (X9 x l)
 |[],_=>by simp[X9]
 |y::r,h=>by
  have h':=zal129q.1 h;unfold X9;split;rename_i hlt;refine zal129q.2 ⟨λa ha=>?_,h⟩;rcases zQB.1 ha with rfl|ha
  exact hlt;have:=h'.1 a ha;omega;split
  ·exact h
  refine zal129q.2 ⟨fun a ha => ?_, qLQ x r h'.2⟩;rcases insZ_mem.1 ha with rfl|ha
  omega;exact h'.1 a ha
theorem Za:∀l,qIC (vG l)
 |[]=>.nil
 |x::r=>qLQ x _ (Za r)
theorem O5:∀{l m:List Int},qIC l->qIC m->(∀s,s∈l↔s∈m)->l=m
 |[],[],_,_,_=>rfl
 |[],y::m,_,_,h=>absurd ((h y).2 (jI ..)) aN
 |x::l,[],_,_,h=>absurd ((h x).1 (jI ..)) aN
 |x::l,y::m,h1,h2,h=>by
  have h1':=zal129q.1 h1;have h2':=zal129q.1 h2
  have hxy:x=y:=by
   rcases zQB.1 ((h x).1 (jI ..))with e|hx
   exact e;rcases zQB.1 ((h y).2 (jI ..))with e|hy
   ·exact e.symm
   have:=h2'.1 x hx;have:=h1'.1 y hy;omega
  subst hxy
  congr 1
  refine O5 h1'.2 h2'.2 λs=>⟨λhs=>?_,λhs=>?_⟩;rcases zQB.1 ((h s).1 (pP _ hs))with e|hm
  ·have:=h1'.1 s hs;omega
  exact hm;rcases zQB.1 ((h s).2 (pP _ hs))with e|hm
  ·have:=h2'.1 s hs;omega
  exact hm
theorem ascZ_eq{l m:List Int}(h:qIC m)(hm:∀s,s∈m↔s∈l):m=vG l:=O5 h (Za l) λs=>(hm s).trans ascZ_mem.symm
theorem qLP(x:Int):∀l,(X9 x l).length<=l.length+1
 |[]=>by simp[X9]
 |y::r=>by
  unfold X9;split;simp;split
  ·simp
  have:=qLP x r;simp only[kM];omega
theorem qND:∀l,(vG l).length<=l.length
 |[]=>oA _
 |x::r=>by have h1:=qND r;have h2:=qLP x (vG r);simp only[vG,kM];omega
theorem qEP(l:List Int):(uU l).Pairwise (·<=·):=by have:=yZ qAU l;exact this.imp fun {a b} h=>by rw[Vj]at h;simpa using h
theorem qUL{s:Int}{l:List Int}:s∈uU l↔s∈l:=(xN (m:=qUO) l).mem_iff
theorem Li(L:List Int)(hs:L.Pairwise (·<=·)):∀i,i<=L.length->qIC (Go.Lib.compactUpTo L.toArray i)/\∀s,s∈Go.Lib.compactUpTo L.toArray i↔s∈L.take i
 |0,_=>⟨.nil,λs=>by simp[Go.Lib.compactUpTo]⟩
 |i+1,hi=>by
  obtain⟨h1,h2⟩:=Li L hs i aB;have hil:i<L.length:=aB
  have htake:L.take (i+1)=L.take i++[L[i]]:=Qx hil;have hget:L.toArray[i]! = L[i]:=by rw[getElem!_pos L.toArray i (by simpa using hil)];simp
  rw[Go.Lib.compactUpTo_succ,hget];have hle:=zal130q.1 hs
  cases hk:Go.Lib.keeps L.toArray i with
  |true=>
   rw[if_pos rfl];refine⟨List.pairwise_append.2 ⟨h1,aN,λa ha b hb=>?_⟩,λs=>by rw[htake,zQN,zQN,h2]⟩;simp only[zal121q]at hb;subst hb;obtain⟨j,hj,rfl⟩:=zal122q.1 ((h2 a).1 ha);have hj':j<i:=aB
   have hi0:i≠0:=aB
   have hk':=of_decide_eq_true hk;rcases hk' with h0|hne
   exact absurd h0 hi0;rw [hget, getElem!_pos L.toArray (i - 1) (by simp; omega)] at hne;simp only[List.getElem_toArray]at hne
   have a1:L[j]<=L[i-1]:=by
    rcases fU j (i-1)with h|h
    exact hle j (i-1) aB aB h;have : j = i - 1 := aB
    subst this;exact tW _
   have a2:=hle (i-1) i aB aB aB;omega
  |false=>
   rw[Dr,kU];refine⟨h1,λs=>?_⟩;have hk':=of_decide_eq_false hk;have hi0:i≠0:=λe=>hk' (.inl e)
   have he:L.toArray[i]! = L.toArray[i-1]!:=by
    by_cases h:L.toArray[i]! = L.toArray[i-1]!;exact h;exact absurd (.inr h) hk'
   rw[hget,getElem!_pos L.toArray (i-1) iK]at he;simp only[List.getElem_toArray]at he;rw[h2,htake,zQN];refine⟨.inl,λh=>?_⟩;rcases h with h|h
   exact h;simp only[zal121q]at h;rw[h,he];exact zal122q.2 ⟨i-1,aB,rfl⟩
theorem make_asc(l:List Int):Go.Lib.compact (uU l)=vG l:=by have h:=Li (uU l) (qEP l) (uU l).length (oA _);refine ascZ_eq h.1 λs=>?_;show s∈Go.Lib.compactUpTo (uU l).toArray (uU l).length↔_;rw[h.2,kH,qUL]
theorem qAB(l:List Int)(h:l.length<=1000000000):C1 l=some (vG l):=by unfold C1;rw[zx l h,aC,aK h,aK (by rw[sO];exact h),make_asc]
def ee(t:Ah)(s:Av)(i:Nat):List Bool:=(List.range t.Al.toNat).map λ(g:Nat)=>(List.range i).any λk=>decide ((fF s k).state=2)&&decide ((eZ t k).entry=(g:Int))
def qEQ(t:Ah)(s:Av):List Bool:=ee t s t.Ab.length
theorem qOK(t:Ah)(s:Av):ee t s 0=List.replicate t.Al.toNat false:=by unfold ee;apply uS;intro j;rw[vV,bc];by_cases h:j<t.Al.toNat;rw[ew h,if_pos h];rfl;rw[nB fc,if_neg h];rfl
theorem y5(t:Ah)(s:Av)(i:Nat):(ee t s i).length=t.Al.toNat:=by simp[ee]
theorem qAT(t:Ah)(s:Av)(i:Nat){g:Nat}(h:g<t.Al.toNat):(ee t s i)[g]?=some ((List.range i).any λk=>decide ((fF s k).state=2)&&decide ((eZ t k).entry=(g:Int))):=by unfold ee;rw[vV,ew h];rfl
theorem qOL{t:Ah}{i:Nat}(h:¬(fF s i).state=2):ee t s (i+1)=ee t s i:=by unfold ee;congr 1;funext g;rw[oG,Il];simp[h]
theorem qUM{t:Ah}{i:Nat}(h:(fF s i).state=2)(h0:0<=(eZ t i).entry):(ee t s i).set (eZ t i).entry.toNat true=ee t s (i+1):=by apply uS;intro g;by_cases hg:g<t.Al.toNat;rw[qAT t s (i+1) hg,oG,Il];by_cases e:(eZ t i).entry.toNat=g;subst e;rw[qd (by rw[y5];exact hg)];simp[h,Mb h0,h0];rw[tV e,qAT t s i hg];have:¬(eZ t i).entry=(g:Int):=aB;simp[this];rw[nB (by simpa[y5]using hg),nB (by simpa[y5]using hg)]
theorem entry_in{t:Ah}(h:rE t r=true):0<=r.entry/\r.entry<t.Al:=by unfold rE at h;simp only[pQ]at h;have h1:=h.1.1.1.1;unfold qCD at h1;simp only[pQ]at h1;exact of_decide_eq_true h1.1.1
def oC(t:Ah)(p:Au)(q:Av×List Int)(n:Int):Av×List Int:=if zL t q.1 p n=0 then(rK t q.1 n.toNat,q.2)else(q.1,q.2++[n])
def mH(t:Ah)(p:Au)(q:Av×List Int)(l:List Int):Av×List Int:=l.foldl (oC t p) q
theorem qMT(t:Ah)(p:Au)(q:Av×List Int){l:List Int}{i:Nat}{n:Int}(h:l[i]?=some n):mH t p q (l.take (i+1))=oC t p (mH t p q (l.take i)) n:=by obtain⟨hi,rfl⟩:=zQQ.1 h;unfold mH;rw[Qx hi,xz];rfl
theorem Y1(t:Ah)(p:Au)(P:Av->Prop)(hP:∀(s:Av)(i:Nat),zL t s p (i:Int)=0->P s->P (rK t s i)):∀(l:List Int)(q:Av×List Int),P q.1->P (mH t p q l).1
 |[],_,h=>h
 |n::r,q,h=>by
  refine Y1 t p P hP r _ ?_;unfold oC;split;rename_i hz;have h0:=(G5 hz).2.1;obtain⟨i,rfl⟩:=yQ h0;exact hP _ _ hz h;exact h
theorem Y0(t:Ah)(p:Au):∀(l:List Int)(q:Av×List Int),(mH t p q l).2.length<=q.2.length+l.length
 |[],_=>oA _
 |n::r,q=>by
  have:=Y0 t p r (oC t p q n)
  have h1:(oC t p q n).2.length<=q.2.length+1:=by
   unfold oC;split<;>simp
  show(mH t p (oC t p q n) r).2.length<=_;simp only[kM];omega
def eH(t:Ah)(s:Av)(p:Au):Av:=⟨(List.range s.Ab.length).map (lK t s p),s.lies⟩
def xV(t:Ah)(s:Av)(p:Au):Av×Pd:=if lS t s=true then((mH t p (eH t s p,[]) (vG p.calls)).1,⟨qEQ t (mH t p (eH t s p,[]) (vG p.calls)).1,(mH t p (eH t s p,[]) (vG p.calls)).1.lies,(mH t p (eH t s p,[]) (vG p.calls)).2⟩)else(s,⟨if fE t=0 then List.replicate t.Al.toNat false else[],s.lies,vG p.calls⟩)
theorem qFL{t:Ah}{i:Nat}(h:i<s.Ab.length):fF (eH t s p) i=lK t s p i:=by unfold fF eH;rw[vV,ew h];rfl
theorem Ey{t:Ah}(h:lS t s=true):lS t (eH t s p)=true:=by have hf:=fD h;have hf':=fitsB_iff.1 hf;refine qOH h rfl (by simp[eH]) λi hi=>?_;rw[qFL aB];have H:=iN hf hi;exact qVQ (Gn ((eB hf'.1).2.2.1 _ H.mem).1) H.fits
theorem callI_x{t:Ah}{i:Nat}(hi:i<s.Ab.length):fF (rK t s i) o=if o=i then Ej else fF s o:=by by_cases e:o=i;subst e;rw[if_pos rfl];exact Bv hi;rw[if_neg e];exact Bw e
theorem qXB{t:Ah}{i:Nat}(hz:zL t s p (i:Int)=0){k:Nat}(hk:k<t.Af.length):(rK t s i).lies[k]?=s.lies[k]?\/∃n,t.A9[k]?=some n/\iX p n=false:=by obtain⟨hs,_,hi,_⟩:=G5 hz;have hi:i<t.Ab.length:=aB;have hf:=fD hs;have H:=iN hf hi;have hf':=fitsB_iff.1 hf;have hc:=eB hf'.1;by_cases hex:∃e∈cV (eZ t i),bI t e.el=k/\¬wQ t s e.el=e.pos;right;obtain⟨e,he,hek,hne⟩:=hex;obtain⟨q,hq,hql⟩:=lV (hc.2.2.1 _ H.mem).2 he;have hqk:q=k:=(by rw[<- hek];simp[bI,hq]);subst hqk;refine⟨br t e.el,Fv hf'.1 hq,?_⟩;have hb:∀e∈cV (eZ t i),sC t s p e=false:=(by intro e he;unfold zL at hz;split at hz;omega;split at hz;omega;split at hz;omega;split at hz;omega;split at hz;omega;split at hz;omega;rename_i h6;rw[yP]at h6;cases hbl:sC t s p e with|false=>rfl|true=>exact absurd (zQU.2 ⟨e,ascS_mem.2 he,hbl⟩) h6);have:=hb e he;unfold sC at this;rw[decide_eq_false hne,sJ,pX]at this;exact this;left;have hall:∀e∈cV (eZ t i),bI t e.el=k->wQ t s e.el=e.pos:=λe he hek=>Classical.byContradiction λh=>hex ⟨e,he,hek,h⟩;have hkl:k<s.lies.length:=aB;have hv:s.lies[k]?=some s.lies[k]:=iG hkl;have:=Je t (gE (cV (eZ t i))) k s.lies[k] (λe he hek=>by have he:=ascS_mem.1 he;have h1:=hall e he hek;obtain⟨q,hq,hql⟩:=lV (hc.2.2.1 _ H.mem).2 he;have hqk:q=k:=(by rw[<- hek];simp[bI,hq]);subst hqk;have:=Gy hf hq;rw[hv]at this;rw[<- h1];exact(bO this).symm) s.lies hkl (.inr hv);show(uE t (gE (cV (eZ t i))) s.lies)[k]?=_;rw[this,hv]
def B7(t:Ah):Av:=if fE t=0 then⟨List.replicate t.Ab.length idleX,List.replicate t.Af.length 1⟩else⟨[],[]⟩
theorem qIU{t:Ah}(h:fE t=0):lS t (B7 t)=true:=by unfold B7;rw[if_pos h];have hx:∀i,i<t.Ab.length->fF ⟨List.replicate t.Ab.length idleX,List.replicate t.Af.length 1⟩ i=idleX:=λi hi=>(by unfold fF;rw[bc,if_pos hi];rfl);have hF:kT t ⟨List.replicate t.Ab.length idleX,List.replicate t.Af.length 1⟩=true:=(by refine fitsB_iff.2 ⟨h,aN,aN,λi hi=>?_,λp hp=>?_⟩;simp only[Vw]at hi;rw[oJ (x:=idleX) (by rw[bc,if_pos hi]) (qPA hi)];exact Fz (.inl rfl);rw[List.eq_of_mem_replicate hp];rfl);refine Wy hF (λa b ha hb hne=>?_) (λa ha e he=>?_);unfold mM jE lJ;rw[hx a ha,hx b hb];rfl;unfold mY at he;rw[hx a ha]at he;cases he
theorem qWY(l:List Ag)(h:l.length<=1000000000):nM l=some l:=by unfold nM;rw[pO,aK h];cases l<;>rfl
theorem Oy(s:Av)(h:s.Ab.length<=1000000000)(h':s.lies.length<=1000000000):tQ s=some s:=by unfold tQ;rw[qWY _ h,aC,zx _ h',aC]
theorem sigRound{t:Ah}(h:TOk t)(hf:kT t s=true){i:Nat}(hi:i<t.Ab.length):0<=(eZ t i).entry/\(ee t s i)[(eZ t i).entry.toNat]?=some ((ee t s i).getD (eZ t i).entry.toNat false):=by have H:=iN hf hi;have hc:=eB (fitsB_iff.1 hf).1;have he:=entry_in (hc.2.2.1 _ H.mem).1;refine⟨he.1,?_⟩;have hlt:(eZ t i).entry.toNat<(ee t s i).length:=(by rw[y5];omega);rw[fx,iG hlt];rfl
theorem qOJ(t:Ah)(s:Av)(h:TOk t)(hf:kT t s=true):qV t s=some (qEQ t s):=by have hf':=fitsB_iff.1 hf;have hl:=of_decide_eq_true (eB hf'.1).1;have h1:=h.Ab;unfold qV;rw[Ny];rw[iM (b:=List.replicate t.Al.toNat false) t.Ab.length (λi=>ee t s i) (o:=qEQ t s) (qOK t s).symm aB (λi hi=>?_) iD];rfl;have H:=iN hf hi;obtain⟨he,hg⟩:=sigRound h hf hi;dsimp only;rw[iL,aR H.r,aR H.x];by_cases hx:(fF s i).state=2;rw[if_pos hx,vB he hg,fg hi,qUM hx he];rw[if_neg hx,fg hi,qOL hx]
theorem qAI(t:Ah)(s:Av)(p:Au)(ref:List Int)(n:Int)(h:TOk t)(ho:SOk t)(hr:ref.length<=100000000):nI ⟨s,t,p,ref⟩ n=some ⟨(oC t p (s,ref) n).1,t,p,(oC t p (s,ref) n).2⟩:=by unfold nI oC;dsimp only;rw[free_eq t s p n h ho,aC];by_cases hz:zL t s p n=0;rw[if_pos hz,if_pos hz];obtain⟨hs,h0,hi,_⟩:=G5 hz;obtain⟨i,rfl⟩:=yQ h0;have hi:i<t.Ab.length:=aB;have hf:=fD hs;have H:=iN hf hi;have hf':=fitsB_iff.1 hf;have hc:=eB hf'.1;have h1:=h.Ab;have h2:=h.Af;have hS:=(h.each _ H.mem);have hlen:(gE (cV (eZ t i))).length<=6000000:=(by have:=qZ (cV (eZ t i));simp only[cV,xK]at this⊢;have a:=hS.Af;have b:=hS.over;have c:=hS.A4;omega);rw[aR H.x,aR H.r,ef _ hS (λe he=>ho _ H.mem e he),aC];rw[iM (b:=s.lies) (gE (cV (eZ t i))).length (λk=>uE t ((gE (cV (eZ t i))).take k) s.lies) (o:=(⟨rK t s i,t,p,ref⟩:Pf)) (by simp[uE]) aB (λk hk=>?_) ?_];rw[yP];dsimp only;rw[mF,kH];rfl;have he:(gE (cV (eZ t i)))[k]?=some (gE (cV (eZ t i)))[k]:=D6;generalize (gE (cV (eZ t i)))[k]=e at he;obtain⟨q,hq,hql⟩:=lV (hc.2.2.1 _ H.mem).2 (ascS_mem.1 (kK he));dsimp only;rw[iL,aR he,pA t e.el qL,aC,hq];have hz:(uE t ((gE (cV (eZ t i))).take k) s.lies)[q]?=some ((uE t ((gE (cV (eZ t i))).take k) s.lies).getD q 0):=(by have hlt:q<(uE t ((gE (cV (eZ t i))).take k) s.lies).length:=(by rw[X4];omega);rw[fx,iG hlt];rfl);rw[show kA (some q)=(q:Int)from rfl,aR hz,fg hk,yP,qLD t _ _ he,show bI t e.el=q by simp[bI,hq]];rw[if_neg hz,if_neg hz,yv]
theorem qQN{t:Ah}(l:List Int)(q:Av×List Int)(h:kT t q.1=true):kT t (mH t p q l).1=true:=Y1 t p (λs=>kT t s=true) (λs i hz _=>fD (Y2 hz)) l q h
theorem qVI{t:Ah}(hf:kT t s=true)(i:Nat)(hi:i<s.Ab.length)(l:List Ag)(hl:l.length=s.Ab.length):((List.range i).map (lK t s p)++l.drop i).set i (lK t s p i)=(List.range (i+1)).map (lK t s p)++l.drop (i+1):=by rw[oG,gS];rw[V2 (show i<l.length by omega)];rw[List.set_append_right _ _ aN,yt,xx,Bf,List.set_cons_zero];simp
theorem prog_at{t:Ah}(i:Nat)(l:List Ag)(hi:i<l.length):((List.range i).map (lK t s p)++l.drop i)[i]?=some l[i]:=by rw[xy aN];simp[nC,iG hi]
theorem qXP(t:Ah)(s:Av)(p:Au)(h:TOk t)(ho:SOk t)(hc:p.cancels.length<=5000000)(hk:p.calls.length<=5000000)(hs:s.Ab.length<=100)(hl:s.lies.length<=100):xG t s p=some (xV t s p):=by unfold xG xV;rw[qAB _ aB,aC,qIW t s h ho,aC];have hal:=qND p.calls;cases hS:lS t s with|false=>simp only[sJ,if_true,kV,if_false];rw[zx _ aB,aC,eu t h,aC,Oy s aB aB];by_cases hz:fE t=0;have hlm:=of_decide_eq_true (eB hz).1;rw[if_pos hz,if_pos hz,Ny];rfl;rw[if_neg hz,if_neg hz];rfl|true=>have hf:=fD hS;have hf':=fitsB_iff.1 hf;simp only[tX,kV,if_false,if_true];rw[Oy s aB aB,aC];rw[iM (b:=s.Ab) s.Ab.length (λi=>(List.range i).map (lK t s p)++s.Ab.drop i) (o:=(eH t s p).Ab) aN aB (λi hi=>?_) (by dsimp only;rw[mF];simp[eH])];rw[aC];have key:=zI (f:=λ(z:Int×List Int×List Ag×List Int)=>if z.1<((vG p.calls).length:Int)then bL (vG p.calls) z.1 λe40=>aE (nI (⟨(⟨z.2.2.1,z.2.2.2⟩:Av),t,p,z.2.1⟩:Pf) e40) λr41=>aH (cI (z.1+(1:Int))) <|some (.inl ((z.1+(1:Int)),r41.refused,r41.inter.Ab,r41.inter.lies))else aX ( some (z.2.2.1,z.2.2.2,z.2.1))) (λi:Nat=>((i:Int),(mH t p (eH t s p,[]) ((vG p.calls).take i)).2,(mH t p (eH t s p,[]) ((vG p.calls).take i)).1.Ab,(mH t p (eH t s p,[]) ((vG p.calls).take i)).1.lies)) (vG p.calls).length (o:=((mH t p (eH t s p,[]) (vG p.calls)).1.Ab,(mH t p (eH t s p,[]) (vG p.calls)).1.lies,(mH t p (eH t s p,[]) (vG p.calls)).2)) (s:=((0:Int),([]:List Int),(eH t s p).Ab,s.lies)) rfl aB (λi hi=>?_) qDW;rw[key,aC];have hfe:kT t (mH t p (eH t s p,[]) (vG p.calls)).1=true:=qQN _ _ (fD (Ey hS));have hfe':=fitsB_iff.1 hfe;have hpts:=h.Af;show aE (qV t (mH t p (eH t s p,[]) (vG p.calls)).1) _=_;have hlp:s.lies.length=t.Af.length:=hf'.2.2.1;have hle:(mH t p (eH t s p,[]) (vG p.calls)).1.lies.length=t.Af.length:=hfe'.2.2.1;rw[qOJ t _ h hfe,aC,zx _ (show(mH t p (eH t s p,[]) (vG p.calls)).1.lies.length<=1000000000 by omega),aC];have hx:(vG p.calls)[i]?=some (vG p.calls)[i]:=iG hi;have hlr:=Y0 t p ((vG p.calls).take i) (eH t s p,[]);simp only[oF,rA]at hlr;dsimp only;rw[iL,aR hx,qAI t _ p _ _ h ho aB,aC,fg hi,qMT t p _ hx];rfl;dsimp only;rw[iL,Next_eqU t s p _ h ho hc,aC,qKM aB hf,aR (prog_at i _ hi),fg hi,yP,qVI hf i hi _ rfl]
theorem Start_eq(t:Ah)(h:TOk t):xF t=some (B7 t):=by have h1:=h.Ab;have h2:=h.Af;unfold xF B7;rw[eu t h,aC];by_cases hz:fE t=0;rw[if_pos hz,if_pos hz,Ny];rw[iM (b:=[]) t.Af.length (λi=>List.replicate i (1:Int)) (o:=List.replicate t.Af.length 1) rfl aB (λi hi=>?_) iD];rw[aC,yP];rfl;dsimp only;rw[iL,yv,fg hi,List.replicate_succ'];rw[if_neg hz,if_neg hz]
def qD(t:Ah):Nat:=2*t.Aa.toNat+2*t.Af.length+4*t.Ab.length
def Wh(r:Aj):Nat:=5+r.Aa.length
def bF(t:Ah)(i:Nat):Nat:=qD t+t.Af.length+((t.Ab.take i).map Wh).sum
def v6(t:Ah)(i:Nat):List Int:=(List.range i).map λi=>(bF t i:Int)
def nZ(t:Ah):Nat:=bF t t.Ab.length
def gQ(t:Ah):Nat:=nZ t+5*t.Ab.length
structure COk (t:Ah):Prop where
 ok:TOk t
 nr:t.Ab.length<=100
 np:t.Af.length<=100
 sum:∀r∈t.Ab,wh r<=200
 chk:fE t=0
theorem COk.lim{t:Ah}(h:COk t):t.Ab.length<=48/\t.Af.length<=32/\0<=t.Aa/\t.Aa<=24/\0<=t.Al/\t.Al<=20:=of_decide_eq_true (eB h.chk).1
theorem COk.secs{t:Ah}(h:COk t)(hr:r∈t.Ab):0<r.Aa.length/\r.Aa.length<=200:=by have h1:=((eB h.chk).2.2.1 r hr).1;unfold rE at h1;simp only[pQ,decide_eq_true_eq]at h1;have h2:=h.sum r hr;unfold wh at h2;exact⟨h1.1.1.1.2,aB⟩
theorem COk.entry{t:Ah}(h:COk t){r:Aj}(hr:r∈t.Ab):0<=r.entry/\r.entry<t.Al:=by have h1:=((eB h.chk).2.2.1 r hr).1;unfold rE qCD Nl at h1;simp only[pQ,decide_eq_true_eq]at h1;exact h1.1.1.1.1.1.1
theorem v7(t:Ah):bF t 0=qD t+t.Af.length:=by unfold bF;simp
theorem ca{t:Ah}{i:Nat}(hr:t.Ab[i]?=some r):bF t (i+1)=bF t i+Wh r:=by unfold bF;rw[iQ,hr];simp[gn]
theorem qMW(t:Ah)(i:Nat):v6 t (i+1)=v6 t i++[(bF t i:Int)]:=by unfold v6;rw[oG];simp
theorem qQR(t:Ah)(i:Nat):(v6 t i).length=i:=by unfold v6;simp
theorem qCS{t:Ah}{i:Nat}(h:i<n):(v6 t n)[i]?=some (bF t i:Int):=by unfold v6;simp[h]
theorem sum_wid{l:List Aj}(h:∀r∈l,wh r<=200):(l.map Wh).sum<=205*l.length:=by induction l with|nil=>simp|cons r l ih=>have h1:=h r aN;have h2:=ih (λr hr=>h r (by simp[hr]));simp only[iW,List.sum_cons,kM];unfold wh at h1;have h3:Wh r=5+r.Aa.length:=rfl;omega
theorem COk.base{t:Ah}(h:COk t)(i:Nat):bF t i<=30000:=by have h1:=sum_wid (l:=t.Ab.take i) (λr hr=>h.sum r (ww hr));have h2:(t.Ab.take i).length<=48:=(by rw[oF];have:=h.lim;omega);have h3:=h.lim;unfold bF qD;omega
theorem Y6{t:Ah}:∀(i n:Nat),i<=n->bF t i<=bF t n:=by intro i n h;induction n with|zero=>rw[show i=0 by omega];exact oA _|succ n ih=>rcases fU n i with h1|h1;rw[show i=n+1 by omega];exact oA _;refine eR (ih h1) ?_;cases e:t.Ab[n]? with|some r=>rw[ca e];omega|none=>have:=List.getElem?_eq_none_iff.1 e;unfold bF;rw[uG aB,uG aB];exact oA _
theorem qMY{t:Ah}{i:Nat}(hr:t.Ab[i]?=some r):bF t i+Wh r<=nZ t:=by have hi:=gJ hr;rw[<- ca hr];exact Y6 _ _ aB
abbrev noT:Ah:=⟨[],[],[],0,0⟩
abbrev Xr(t:Ah):A5:=⟨t,(qD t:Int),v6 t t.Ab.length,(nZ t:Int),(gQ t:Int)⟩
theorem qBN{t:Ah}(h:TOk t)(hs:Iw t=true):sA t=some (if fE t=0 then if 2000<gQ t then(⟨noT,0,[],0,0⟩,2)else(Xr t,0)else(⟨noT,0,[],0,0⟩,fE t)):=by unfold sA;rw[eu t h,aC];by_cases hz:fE t=0;obtain⟨hT,h1,h2,h3⟩:=Gl hs;have hC:COk t:=⟨h,h1,h2,h3,hz⟩;rw[if_pos hz,if_pos hz];have hlm:=hC.lim;have hsn:t.Aa=((t.Aa.toNat:Nat):Int):=aB;have hin:((((2:Int)*t.Aa)+((2:Int)*(t.Af.length:Int)))+((4:Int)*(t.Ab.length:Int)))=(qD t:Int):=(by unfold qD;omega);rw[pY,pY,pY,pY,pY,pY,hin];have hb:=hC.base;rw[iM (b:=(((qD t:Int)+(t.Af.length:Int)),([]:List Int))) t.Ab.length (λi=>((bF t i:Int),v6 t i)) (o:=((nZ t:Int),v6 t t.Ab.length)) (by rw[v7];simp[v6]) aB (λi hi=>?_) iD,aC];dsimp only;have:=hb t.Ab.length;have he:nZ t=bF t t.Ab.length:=rfl;rw[pY,pY];have ha:(nZ t:Int)+(5:Int)*(t.Ab.length:Int)=(gQ t:Int):=(by unfold gQ;omega);rw[ha];by_cases hl:2000<gQ t;rw[iL,if_pos hl];rw[mF,if_neg hl];dsimp only;have hr:=iG hi;have hsec:=hC.secs (fV hi);have:=hb i;rw[iL,aK (by rw[xK,qQR];simp;omega)];unfold cS;dsimp only;rw[aR hr,pY,aC,pY,pY,pY,fg hi,ca hr,qMW];unfold Wh;rw[show((bF t i:Int)+((4:Int)+((t.Ab[i].Aa.length:Int)-1)+2))=((bF t i+(5+t.Ab[i].Aa.length):Nat):Int) by omega];rw[if_neg hz,if_neg hz]
def fitsN(t:Ah)(m:Machine):Bool:=decide (gQ t<=2000/\m.vars.length=gQ t/\m.counts.length=gQ t-qD t)
theorem xT(t:Ah):qD t+t.Af.length<=nZ t/\nZ t<=gQ t:=by unfold gQ nZ bF;omega
theorem nfits_eq{t:Ah}(h:COk t)(ha:gQ t<=2000)(m:Machine):oQ (Xr t) m=some (fitsN t m):=by unfold oQ fitsN;have:=xT t;dsimp only;by_cases e:m.vars.length=gQ t;rw[iL,pY,aC];congr 1;rw[zal18q];simp only[decide_eq_true_eq];omega;rw[mF,aC,decide_eq_false aB]
def vb(m:Machine)(j:Nat):Bool:=m.vars.getD j false
def cn(m:Machine)(j:Nat):Int:=m.counts.getD j 0
theorem getM_vb{m:Machine}{i:Int}{k:Bool->Option β}(hi:i=(j:Int))(h:j<m.vars.length):bL m.vars i k=k (vb m j):=by rw[hi,aR (iG h)];simp[vb,fx,iG h]
def bE(t:Ah)(i:Nat):Nat:=match t.Ab[i]? with|some r=>r.Aa.length-1|none=>0
theorem Ko(f:Nat->β)(i:Nat):(List.range (i+1)).map f=(List.range i).map f++[f i]:=by rw[oG];simp
def xW(t:Ah)(m:Machine)(i:Nat):List Bool:=(List.range t.Al.toNat).map λs:Nat=>(List.range i).any λx=>vb m (bF t x+1)&&decide (((t.Ab[x]?).map (·.entry))=some (s:Int))
theorem Yw(t:Ah)(m:Machine)(i:Nat):(xW t m i).length=t.Al.toNat:=by unfold xW;simp
theorem qMM(t:Ah)(m:Machine):xW t m 0=List.replicate t.Al.toNat false:=by unfold xW;rw[List.eq_replicate_iff];simp
theorem qMN{t:Ah}{m:Machine}{i:Nat}(hr:t.Ab[i]?=some r)(h0:0<=r.entry):xW t m (i+1)=if vb m (bF t i+1)=true then(xW t m i).set r.entry.toNat true else xW t m i:=by apply uS;intro s;have hex:(decide (((t.Ab[i]?).map (·.entry))=some (s:Int)))=decide (r.entry.toNat=s):=(by rw[hr];simp only[jB,jA];rw[zal18q];simp only[decide_eq_true_eq];omega);by_cases hs:s<t.Al.toNat;have hl:(xW t m i)[s]?=some ((List.range i).any λx=>vb m (bF t x+1)&&decide (((t.Ab[x]?).map (·.entry))=some (s:Int))):=(by unfold xW;simp[hs]);have hR:(xW t m (i+1))[s]?=some (((List.range i).any λx=>vb m (bF t x+1)&&decide (((t.Ab[x]?).map (·.entry))=some (s:Int)))||(vb m (bF t i+1)&&decide (r.entry.toNat=s))):=(by unfold xW;simp only[vV,ew hs,jB,oG,Il,pW,yO,wD,hex]);rw[hR];cases vb m (bF t i+1);rw[Dr,hl];simp;rw[if_pos rfl,iC,hl];by_cases e:r.entry.toNat=s;rw[if_pos e,if_pos qDS];simp[e];rw[if_neg e];simp[e];rw[nB qDS];split;rw[nB (by rw[zal95q,Yw];omega)];rw[nB qDS]
def qHN(t:Ah)(m:Machine):List Bool:=if fitsN t m=true/\m.halted=false then xW t m t.Ab.length else List.replicate t.Al.toNat false
theorem qXD{t:Ah}(h:TOk t)(hs:Iw t=true)(m:Machine):wU t m=some (if fE t=0 then qHN t m else[]):=by unfold wU qHN;rw[eu t h,aC];by_cases hz:fE t=0;obtain⟨hT,h1,h2,h3⟩:=Gl hs;have hC:COk t:=⟨h,h1,h2,h3,hz⟩;have hlm:=hC.lim;rw[if_pos hz,if_pos hz,Ny,qBN h hs,aC,if_pos hz];by_cases ha:2000<gQ t;rw[if_pos ha,if_neg (by intro hc;have:=of_decide_eq_true hc.1;omega)];dsimp only;rw[mF,aC,if_pos rfl];rw[if_neg ha];dsimp only;rw[if_pos rfl];(cases hh:m.halted with|true=>rw[if_pos rfl,aC,if_pos rfl,Dr]|false=>rw[Dr,nfits_eq hC aB,aC,aC];cases hf:fitsN t m with|false=>rw[if_pos aN,Dr]|true=>have hF:=of_decide_eq_true hf;rw[Dr,if_pos ⟨rfl,rfl⟩];rw[iM t.Ab.length (xW t m) (o:=xW t m t.Ab.length) (qMM t m).symm aB (λi hi=>?_) iD,aC];dsimp only;have hr:=iG hi;have hen:=hC.entry (fV hi);have hb:=qMY hr;have hw:Wh t.Ab[i]=5+t.Ab[i].Aa.length:=rfl;have hin:=xT t;unfold dJ;dsimp only;rw[iL,aR hr,aR (qCS hi),pY,aC,getM_vb (j:=bF t i+1) aB aB,qMN hr hen.1,fg hi,fg hi];cases vb m (bF t i+1);rw[Dr,Dr];rw[if_pos rfl,if_pos rfl,vB hen.1 (iG qDS)]);rw[if_neg hz,if_neg hz]
abbrev vE(x:Int):Ad:=⟨3,x,[]⟩
abbrev Hl(l:List Ad):Ad:=⟨6,0,l⟩
abbrev mZ(l:List Ad):Ad:=⟨5,0,l⟩
abbrev mS(e:Ad):Ad:=⟨4,0,[e]⟩
abbrev Lq(t:Ah)(b:List Ay):At:=⟨Xr t,b⟩
def yM(t:Ah)(i:Nat):Int:=2*t.Aa+2*(t.Af.length:Int)+4*(i:Int)
def fT(t:Ah)(i:Nat):Int:=(nZ t:Int)+5*(i:Int)
abbrev xQ(t:Ah)(i:Nat)(k:Int):Ad:=vE ((bF t i:Int)+(4+k))
abbrev nJ(s:Int):Ad:=vE (2*s)
variable {t:Ah}{b:List Ay}{i:Nat}
theorem F3(hC:COk t)(hi:i<t.Ab.length)(h0:0<=k)(h1:k<=1000):dJ (Xr t) (i:Int) k=some ((bF t i:Int)+k):=by have:=hC.base i;unfold dJ;dsimp only;rw[aR (qCS hi),pY]
theorem fq(hC:COk t)(hi:i<t.Ab.length):cS (Xr t) (i:Int)=some (bE t i:Int)/\bE t i<=200:=by have hr:=iG hi;have hsec:=hC.secs (fV hi);have hln:bE t i=t.Ab[i].Aa.length-1:=uA;refine⟨?_,aB⟩;unfold cS;dsimp only;rw[aR hr,pY,hln,show((t.Ab[i].Aa.length:Int)-1)=((t.Ab[i].Aa.length-1:Nat):Int) by omega]
theorem zQ(hC:COk t)(hi:i<t.Ab.length)(h0:0<=k)(h1:k<=1000):cT (Lq t b) (i:Int) k=some (vE ((bF t i:Int)+k)):=by unfold cT;dsimp only;rw[F3 hC hi h0 h1,aC];rfl
theorem Y7(hC:COk t)(hi:i<t.Ab.length)(h0:0<=k)(h1:k<=900):eG (Lq t b) (i:Int) k=some (xQ t i k):=by unfold eG;dsimp only;rw[pY,F3 hC hi aB aB,aC];rfl
theorem Y8(hC:COk t)(hi:i<t.Ab.length)(h0:0<=k)(h1:k<=1000):cY (Lq t b) (i:Int) k=some (vE (yM t i+k)):=by have hlm:=hC.lim;unfold cY qF yM;dsimp only;rw[pY,pY,pY,pY,pY,pY,aC];rfl
theorem b_sec{n:A5}{s:Int}(h0:0<=s)(h1:s<=1000)(hk:0<=k)(hk1:k<=10):kC n s k=some (2*s+k):=by unfold kC;rw[pY,pY]
theorem v8{B:At}{s:Int}(h0:0<=s)(h1:s<=1000):dC B s=some (nJ s):=by unfold dC;rw[b_sec h0 h1 aB aB,aC,Int.add_zero];rfl
theorem gj(hC:COk t)(hi:i<t.Ab.length)(h0:0<=k)(h1:k<=10):bQ (Xr t) (i:Int) k=some (fT t i+k):=by have hlm:=hC.lim;have:nZ t<=30000:=hC.base t.Ab.length;unfold bQ fT;dsimp only;rw[pY,pY,pY]
theorem qQT(hC:COk t)(hi:i<t.Ab.length):jW (Xr t) (i:Int)=some ((bF t i:Int)+(4+(bE t i:Int))):=by have hl:=(fq hC hi).2;unfold jW;rw[(fq hC hi).1,aC,pY,F3 hC hi aB aB,aC]
theorem qTR(hC:COk t)(hi:i<t.Ab.length):lG (Xr t) (i:Int)=some ((bF t i:Int)+(4+(bE t i:Int))+1):=by have hl:=(fq hC hi).2;have:=hC.base i;unfold lG;rw[qQT hC hi,aC,pY]
theorem COk.sec_in(hC:COk t)(hr:r∈t.Ab){s:Int}(hs:s∈r.Aa++r.Ae):0<=s/\s<t.Aa:=by have h1:=((eB hC.chk).2.2.1 r hr).1;unfold rE at h1;simp only[pQ]at h1;have h2:=h1.1.1.2;unfold H3 at h2;rw[allB_iff]at h2;obtain⟨j,hj⟩:=lO hs;have h3:=h2 j (gJ hj);rw[gx hj]at h3;unfold Nl at h3;simp only[pQ,decide_eq_true_eq]at h3;exact h3.1
theorem rY(l:List α)(f:Nat->α->β)(pre:List β){o:ρ}(hn:l.length<=9223372036854775807)(hF:∀(i:Nat)(e:α)(B:List β),l[i]?=some e->B.length=pre.length+i->F ((i:Int),B)=some (.inl ((i:Int)+1,B++[f i e])))(he:F ((l.length:Int),pre++l.mapIdx f)=some (.inr o)):bK F (0,pre)=some o:=by refine iM l.length (λi=>pre++(l.mapIdx f).take i) aN hn (λi hi=>?_) (by rw[uG aN];exact he);have hx:=iG hi;rw[hF i l[i] _ hx iK,nT];congr 4;rw[iQ];simp[bd,hx]
def xq(t:Ah)(i:Nat)(r:Aj):Ad:=mZ (r.Aa.mapIdx λx s=>if x<bE t i then Hl [xQ t i (x:Int),nJ s]else nJ s)
theorem qCU(hC:COk t)(hr:t.Ab[i]?=some r):jH (Lq t b) (i:Int)=some (xq t i r):=by have hi:=gJ hr;have hm:=kK hr;have hlm:=hC.lim;have hsec:=hC.secs hm;have hl:=fq hC hi;unfold jH;dsimp only;rw[aR hr,rY r.Aa (λx s=>if x<bE t i then Hl [xQ t i (x:Int),nJ s]else nJ s) [] aB (λx s B hx hB=>?_) iD,aC];rfl;have hx':=gJ hx;have hs:=hC.sec_in hm (kI _ (kK hx));simp only[rA,iO]at hB;dsimp only;rw[iL,aR hx,hl.1,aC];by_cases hlt:x<bE t i;rw[iL,Y7 hC hi aB aB,aC,v8 hs.1 aB,aC,if_pos hlt,show fW ([xQ t i (x:Int),nJ s])=some (Hl [xQ t i (x:Int),nJ s])from rfl,aC,yv,aK (eO hx' aB)];rw[mF,v8 hs.1 aB,aC,if_neg hlt,yv,aK (eO hx' aB)]
def qXU(t:Ah)(i:Nat):Ad:=if bE t i=0 then mZ []else xQ t i ((bE t i:Int)-1)
theorem b_at(hC:COk t)(hi:i<t.Ab.length):mB (Lq t b) (i:Int)=some (qXU t i):=by have hl:=fq hC hi;unfold mB qXU;rw[hl.1,aC];by_cases h0:bE t i=0;rw[iL,if_pos h0];rfl;rw[mF,if_neg h0,aC,pY,Y7 hC hi aB aB,aC]
def yH(t:Ah)(i:Nat)(r:Aj):Int:=r.Aa.getD (bE t i) 0
theorem qGQ(hC:COk t)(hr:t.Ab[i]?=some r):r.Aa[bE t i]?=some (yH t i r)/\0<=yH t i r/\yH t i r<t.Aa:=by have hm:=kK hr;have hsec:=hC.secs hm;have hln:bE t i=r.Aa.length-1:=uA;have h1:r.Aa[bE t i]?=some (yH t i r):=(by unfold yH;rw[fx,Q8];rfl);exact⟨h1,hC.sec_in hm (kI _ (kK h1))⟩
def rN(t:Ah)(i:Nat)(r:Aj):List Ay:=[⟨2,(bF t i:Int)+(4+(bE t i:Int)),12,mZ [vE ((bF t i:Int)+3),vE (yM t i+0),xq t i r]⟩,⟨2,(bF t i:Int)+(4+(bE t i:Int))+1,4,mZ [vE ((bF t i:Int)+2),vE (yM t i+0),qXU t i,mS (nJ (yH t i r))]⟩]
theorem b_timers(hC:COk t)(hr:t.Ab[i]?=some r)(hb:b.length<=100000):oR (Lq t b) (i:Int)=some (Lq t (b++rN t i r)):=by have hi:=gJ hr;have hlm:=hC.lim;have hl:=fq hC hi;have hs:=qGQ hC hr;unfold oR;dsimp only;rw[aR hr,qQT hC hi,aC,zQ hC hi aB aB,aC,Y8 hC hi aB aB,aC,qCU hC hr,aC];rw[show eA [vE ((bF t i:Int)+3),vE (yM t i+0),xq t i r]=some (mZ [vE ((bF t i:Int)+3),vE (yM t i+0),xq t i r])from rfl,aC,qTR hC hi,aC];rw[zQ hC hi aB aB,aC,aC,b_at hC hi,aC,hl.1,aC,aR hs.1,v8 hs.2.1 aB,aC];rw[show ∀e,eL e=some (mS e)from λ_=>rfl,aC,show ∀l,eA l=some (mZ l)from λ_=>rfl,aC,yv];rfl
theorem COk.sok(hC:COk t)(ht:WfB t){r:Aj}(hr:r∈t.Ab):fZ r=some (gE (cV r)):=ef r (hC.ok.each r hr) (ht.sok r hr)
theorem sV(f:α->β)(l:List α):l.mapIdx (λ_ s=>f s)=l.map f:=by apply uS;intro n;simp[bd]
def zS(t:Ah)(el:Int):Int:=kA (cL t.Af el)
def qFN(t:Ah)(x:Ac):Ad:=vE (2*t.Aa+2*zS t x.el+if x.pos=2 then 1 else 0)
def xd(t:Ah)(r:Aj):Ad:=mZ ((r.Aa++r.Ae).map nJ++(gE (cV r)).map (qFN t))
theorem COk.set_in(hC:COk t)(hr:r∈t.Ab){x:Ac}(hx:x∈gE (cV r)):0<=zS t x.el/\zS t x.el<(t.Af.length:Int)/\1<=x.pos/\x.pos<=2:=by have hx:=ascS_mem.1 hx;have h1:=((eB hC.chk).2.2.1 r hr).2;unfold xP at h1;simp only[pQ]at h1;have key:∀l:List Ac,lA t l=true->x∈l->0<=zS t x.el/\zS t x.el<(t.Af.length:Int)/\1<=x.pos/\x.pos<=2:=(by intro l hl hm;obtain⟨j,hj⟩:=lO hm;have hjl:=gJ hj;unfold lA at hl;rw[allB_iff]at hl;have h3:=hl j hjl;rw[Ei hj (Q8)]at h3;have h4:=of_decide_eq_true h3;have h5:=h4.1;obtain⟨k,hk⟩:=Option.isSome_iff_exists.1 h5;obtain⟨_,_,_,hkl⟩:=vP (l:=t.Af) hk;unfold zS;rw[hk];exact⟨In,by simp only[kA];omega,h4.2.1,h4.2.2.1⟩);simp only[zQN]at hx;rcases hx with(hx|hx)|hx;exact key _ h1.1.1 hx;exact key _ h1.1.2 hx;exact key _ h1.2 hx
theorem qMZ(hC:COk t)(ht:WfB t)(hr:t.Ab[i]?=some r):jX (Lq t b) (i:Int)=some (xd t r):=by have hi:=gJ hr;have hm:=kK hr;have hlm:=hC.lim;have hsum:=hC.sum r hm;unfold wh at hsum;have hal:=qZ (cV r);have hal2:(cV r).length<=200:=Ml;unfold jX;dsimp only;rw[aR hr,zr _ ⟨aN,iK⟩,aC];have hfl:[r.Aa,r.Ae].flatten=r.Aa++r.Ae:=aN;have hcl:(r.Aa++r.Ae).length<=200:=pF;rw[hfl,rY (r.Aa++r.Ae) (λ_ s=>nJ s) [] aB (λx s B hx hB=>?_) iD,aC];rw[hC.sok ht hm,aC,rY (gE (cV r)) (λ_ s=>qFN t s) _ aB (λx s B hx hB=>?_) iD,aC];unfold xd;rw[sV,sV,pO];rfl;have hx':=gJ hx;have hsi:=hC.set_in hm (kK hx);simp only[pO,List.length_mapIdx]at hB;dsimp only;rw[iL,aR hx,Kz,aC,pA t _ qL,aC];unfold rH;dsimp only;have hid:kA (cL t.Af s.el)=zS t s.el:=rfl;have hk:(if s.pos=2 then(1:Int)else 0)=0\/(if s.pos=2 then(1:Int)else 0)=1:=(by split<;>simp);rw[hid,pY,pY,pY,pY,aC,show ∀x,dO x=some (vE x)from λ_=>rfl,aC,yv,aK (eO hx' aB)];rfl;have hx':=gJ hx;have hs:=hC.sec_in hm (kK hx);simp only[rA,iO]at hB;dsimp only;rw[iL,aR hx,v8 hs.1 aB,aC,yv,aK (eO hx' aB)]
variable {t:Ah}{b:List Ay}{i:Nat}
theorem O4(l:List Ad):eA l=some (mZ l):=rfl
theorem Qt(l:List Ad):fW l=some (Hl l):=rfl
theorem Lp(e:Ad):eL e=some (mS e):=rfl
theorem gh(x:Int):dO x=some (vE x):=rfl
theorem F2{x:Int}(hb:b.length<=100000):dY (Lq t b) x e=some (Lq t (b++[⟨1,x,0,e⟩])):=by unfold dY;dsimp only;rw[yv]
def qQI(t:Ah)(i:Nat)(r:Aj):Ad:=Hl (r.Aa.mapIdx λx s=>mZ (([nJ s]++if 0<x then[xQ t i ((x:Int)-1)]else[])++if x<bE t i then[mS (xQ t i (x:Int))]else[]))
theorem qXE(hC:COk t)(hr:t.Ab[i]?=some r):lH (Lq t b) (i:Int)=some (qQI t i r):=by have hi:=gJ hr;have hm:=kK hr;have hlm:=hC.lim;have hsec:=hC.secs hm;have hl:=fq hC hi;unfold lH;dsimp only;rw[aR hr,rY r.Aa (λx s=>mZ (([nJ s]++if 0<x then[xQ t i ((x:Int)-1)]else[])++if x<bE t i then[mS (xQ t i (x:Int))]else[])) [] aB (λx s B hx hB=>?_) iD,aC];rfl;have hx':=gJ hx;have hs:=hC.sec_in hm (kI _ (kK hx));simp only[rA,iO]at hB;dsimp only;rw[iL,aR hx,v8 hs.1 aB,aC];have e1:(if(0:Int)<(x:Int)then aH (cI ((x:Int)-1)) (aE (eG (Lq t b) (i:Int) ((x:Int)-1)) λr17=>aH (([nJ s]++[r17]).length<=1000000000) (some ([nJ s]++[r17])))else some [nJ s])=some ([nJ s]++if 0<x then[xQ t i ((x:Int)-1)]else[]):=(by by_cases h0:0<x;rw[iL,pY,Y7 hC hi aB aB,aC,aK aN,if_pos h0];rw[mF,if_neg h0,kU]);rw[e1,aC];have hl0:([nJ s]++if 0<x then[xQ t i ((x:Int)-1)]else[]).length<=2:=(by split<;>simp);generalize ([nJ s]++if 0<x then[xQ t i ((x:Int)-1)]else[])=L at hl0;rw[hl.1,aC];have e2:(if(x:Int)<(bE t i:Int)then aE (eG (Lq t b) (i:Int) (x:Int)) λr23=>aE (eL r23) λr24=>aH ((L++[r24]).length<=1000000000) (some (L++[r24]))else some L)=some (L++if x<bE t i then[mS (xQ t i (x:Int))]else[]):=(by by_cases h0:x<bE t i;rw[iL,Y7 hC hi aB aB,aC,Lp,aC,yv,if_pos h0];rw[mF,if_neg h0,kU]);rw[e2,aC,O4,aC,yv,aK (eO hx' aB)]
def uP(t:Ah)(i:Nat)(r:Aj):Ad:=mZ [Hl [vE ((bF t i:Int)+0),vE ((bF t i:Int)+1)],mS (vE (yM t i+3)),xd t r]
theorem qNA(hC:COk t)(ht:WfB t)(hr:t.Ab[i]?=some r):mA (Lq t b) (i:Int)=some (uP t i r):=by have hi:=gJ hr;unfold mA;rw[zQ hC hi aB aB,aC,zQ hC hi aB aB,aC,Qt,aC,Y8 hC hi aB aB,aC,Lp,aC,qMZ hC ht hr,aC,O4,aC];rfl
theorem COk.appr(hC:COk t)(hr:r∈t.Ab):0<=r.A1/\r.A1<t.Aa:=by have h1:=((eB hC.chk).2.2.1 r hr).1;unfold rE Nl at h1;simp only[pQ,decide_eq_true_eq]at h1;exact h1.1.2
def zM(r:Aj):Int:=r.Aa.getD 0 0
theorem Yi(hC:COk t)(hr:r∈t.Ab):r.Aa[0]?=some (zM r)/\0<=zM r/\zM r<t.Aa:=by have hsec:=hC.secs hr;have h1:r.Aa[0]?=some (zM r):=(by unfold zM;rw[fx,Q8];rfl);exact⟨h1,hC.sec_in hr (kI _ (kK h1))⟩
abbrev Iv(t:Ah)(i:Nat)(k:Int):Ad:=vE ((bF t i:Int)+k)
abbrev asE(t:Ah)(i:Nat)(k:Int):Ad:=vE (yM t i+k)
abbrev Ih(t:Ah)(i:Nat)(k:Int):Ad:=vE (fT t i+k)
def waitE(t:Ah)(i:Nat):Ad:=vE ((bF t i:Int)+(4+(bE t i:Int)))
def qEN(t:Ah)(i:Nat):Ad:=vE ((bF t i:Int)+(4+(bE t i:Int))+1)
def Fs(t:Ah)(i:Nat)(r:Aj):Ad:=mZ [Iv t i 0,mS (asE t i 3),mS (xd t r)]
def Ws(t:Ah)(i:Nat)(r:Aj):Ad:=Hl [mZ [Iv t i 1,mS (nJ (zM r))],mZ [Iv t i 2,Hl [mS (asE t i 0),mZ [mS (mZ [asE t i 3,xq t i r]),mS (mZ [qXU t i,nJ (yH t i r)]),mS (qEN t i)]]],mZ [Iv t i 3,mS (qQI t i r)]]
def Fw(t:Ah)(i:Nat)(r:Aj):Ad:=Hl [mZ [Iv t i 1,nJ (zM r),mS (mZ [asE t i 3,asE t i 0,nJ r.A1]),Hl [asE t i 3,mS (xd t r)]],mZ [Iv t i 2,asE t i 0,asE t i 3,xq t i r],mZ [Iv t i 3,qQI t i r,mS (waitE t i)]]
def Zh(t:Ah)(i:Nat)(r:Aj):Ad:=Hl [Ih t i 0,uP t i r,Ih t i 1,Ih t i 2]
def qy(t:Ah)(i:Nat)(r:Aj):List Ay:=[⟨1,fT t i+0,0,Fs t i r⟩,⟨1,fT t i+1,0,Ws t i r⟩,⟨1,fT t i+2,0,Fw t i r⟩,⟨1,fT t i+3,0,Zh t i r⟩]
theorem qQU(hC:COk t)(ht:WfB t)(hr:t.Ab[i]?=some r)(hb:b.length<=90000):mX (Lq t b) (i:Int)=some (Lq t (b++qy t i r)):=by have hi:=gJ hr;have hm:=kK hr;have hlm:=hC.lim;have hl:=fq hC hi;have hs:=qGQ hC hr;have hf:=Yi hC hm;have ha:=hC.appr hm;have g0:bL r.Aa (0:Int)=λ(k:Int->Option At)=>k (zM r):=(by funext k;exact aR (i:=0) hf.1);unfold mX;dsimp only;rw[aR hr,g0,hl.1];dsimp only;rw[aC,aR hs.1];simp only[aC,gj hC hi (show(0:Int)<=0 by omega) (show(0:Int)<=10 by omega),gj hC hi (show(0:Int)<=1 by omega) (show(1:Int)<=10 by omega),gj hC hi (show(0:Int)<=2 by omega) (show(2:Int)<=10 by omega),gj hC hi (show(0:Int)<=3 by omega) (show(3:Int)<=10 by omega),zQ hC hi (show(0:Int)<=0 by omega) (show(0:Int)<=1000 by omega),zQ hC hi (show(0:Int)<=1 by omega) (show(1:Int)<=1000 by omega),zQ hC hi (show(0:Int)<=2 by omega) (show(2:Int)<=1000 by omega),zQ hC hi (show(0:Int)<=3 by omega) (show(3:Int)<=1000 by omega),Y8 hC hi (show(0:Int)<=0 by omega) (show(0:Int)<=1000 by omega),Y8 hC hi (show(0:Int)<=3 by omega) (show(3:Int)<=1000 by omega),O4,Qt,Lp,gh,qMZ hC ht hr,qCU hC hr,b_at hC hi,qXE hC hr,qNA hC ht hr,qQT hC hi,qTR hC hi,v8 hf.2.1 (show zM r<=1000 by omega),v8 hs.2.1 (show yH t i r<=1000 by omega),v8 ha.1 (show r.A1<=1000 by omega)];rw[F2 aB,aC];dsimp only;rw[F2 iK,aC];dsimp only;rw[F2 iK,aC];dsimp only;rw[F2 iK,aC];simp only[nT];rfl
variable {t:Ah}{b:List Ay}{i:Nat}
def wl(r:Aj)(k:Nat):Int:=r.Aa.getD k 0
theorem xu(hC:COk t)(hr:r∈t.Ab){k:Nat}(hk:k<r.Aa.length):r.Aa[k]?=some (wl r k)/\0<=wl r k/\wl r k<t.Aa:=by have h1:r.Aa[k]?=some (wl r k):=(by unfold wl;rw[fx,iG hk];rfl);exact⟨h1,hC.sec_in hr (kI _ (kK h1))⟩
def Qc(t:Ah)(i:Nat)(r:Aj)(k:Nat):Ad:=mZ [Hl [Ih t i 1,Ih t i 2],Hl [xQ t i (k:Int),mZ ([Iv t i 2,Ih t i 1,asE t i 0,nJ (wl r k),Hl [mS (nJ (wl r (k+1))),asE t i 1]]++if 0<k then[xQ t i ((k:Int)-1)]else[])]]
def uZ(t:Ah)(i:Nat)(r:Aj)(n:Nat):List Ay:=(List.range n).map λj=>⟨1,(bF t i:Int)+(4+((bE t i-1-j:Nat):Int)),0,Qc t i r (bE t i-1-j)⟩
theorem Mu(r:Aj)(n:Nat):(uZ t i r n).length=n:=by unfold uZ;simp
def pZ(t:Ah)(i:Nat)(r:Aj):List Ay:=uZ t i r (bE t i)++[⟨1,(bF t i:Int)+1,0,uP t i r⟩,⟨1,(bF t i:Int)+2,0,Ih t i 1⟩,⟨1,(bF t i:Int)+3,0,Ih t i 2⟩]
theorem b_state(hC:COk t)(ht:WfB t)(hr:t.Ab[i]?=some r)(hb:b.length<=90000):pT (Lq t b) (i:Int)=some (Lq t (b++pZ t i r)):=by have hi:=gJ hr;have hm:=kK hr;have hlm:=hC.lim;have hl:=fq hC hi;have hsec:=hC.secs hm;have hln:bE t i=r.Aa.length-1:=uA;unfold pT;dsimp only;rw[aR hr,hl.1,aC,pY];rw[zI (λj=>((bE t i:Int)-1-(j:Int),b++uZ t i r j)) (bE t i) (o:=b++uZ t i r (bE t i)) (by simp[uZ]) aB (λj hj=>?_) iD,aC];have hlen:(b++uZ t i r (bE t i)).length<=91000:=(by rw[xK,Mu];omega);unfold pZ;rw[<- List.append_assoc];generalize b++uZ t i r (bE t i)=B at hlen;rw[F3 hC hi aB aB,aC,qNA hC ht hr,aC,F2 aB,aC];dsimp only;rw[F3 hC hi aB aB,aC,gj hC hi aB aB,aC,gh,aC,F2 iK,aC];dsimp only;rw[F3 hC hi aB aB,aC,gj hC hi aB aB,aC,gh,aC,F2 iK,aC];simp only[nT];rfl;have hlen:(b++uZ t i r j).length<=91000:=(by rw[xK,Mu];omega);have hstep:b++uZ t i r (j+1)=(b++uZ t i r j)++[⟨1,(bF t i:Int)+(4+((bE t i-1-j:Nat):Int)),0,Qc t i r (bE t i-1-j)⟩]:=(by unfold uZ;rw[Ko,nT]);rw[hstep];generalize b++uZ t i r j=B at hlen;obtain⟨k,hk⟩:∃k:Nat,k=bE t i-1-j:=⟨_,rfl⟩;rw[<- hk];have hkI:(bE t i:Int)-1-(j:Int)=(k:Int):=aB;have hk1:=xu hC hm (k:=k) aB;have hk2:=xu hC hm (k:=k+1) aB;dsimp only;rw[hkI,iL,zQ hC hi aB aB,aC,gj hC hi aB aB,aC,gh,aC,Y8 hC hi aB aB,aC,aR hk1.1,v8 hk1.2.1 aB,aC,pY];rw[show((k:Int)+1)=((k+1:Nat):Int) by omega,aR hk2.1,v8 hk2.2.1 aB,aC,Lp,aC,Y8 hC hi aB aB,aC,Qt,aC];generalize hL:[vE ((bF t i:Int)+2),vE (fT t i+1),vE (yM t i+0),nJ (wl r k),Hl [mS (nJ (wl r (k+1))),vE (yM t i+1)]]=L;have hLl:L.length=5:=(by rw[<- hL];rfl);have e1:(if(0:Int)<(k:Int)then aH (cI ((k:Int)-1)) (aE (eG (Lq t B) (i:Int) ((k:Int)-1)) λr29=>aH ((L++[r29]).length<=1000000000) (some (L++[r29])))else some L)=some (L++if 0<k then[xQ t i ((k:Int)-1)]else[]):=(by by_cases h0:0<k;rw[iL,pY,Y7 hC hi aB aB,aC,yv,if_pos h0];rw[mF,if_neg h0,kU]);rw[e1,aC,pY,F3 hC hi aB aB,aC,gj hC hi (show(0:Int)<=2 by omega) aB,aC,gh,aC,aC,gh,aC,Qt,aC,Y7 hC hi aB aB,aC,O4,aC,Qt,aC,O4,aC,F2 aB,aC,pY];unfold Qc;rw[hL,show((k:Int)-1)=(bE t i:Int)-1-((j+1:Nat):Int) by omega]
variable {t:Ah}{b:List Ay}{i:Nat}
theorem Nc(l:List α)(f:β->α->β)(Inv:Nat->β->Prop){b0:β}{F:Int×β->Option ((Int×β) ⊕ ρ)}(o:β->ρ)(hn:l.length<=9223372036854775807)(h0:Inv 0 b0)(hs:∀(i:Nat)(e:α)(B:β),l[i]?=some e->Inv i B->Inv (i+1) (f B e)/\F ((i:Int),B)=some (.inl ((i:Int)+1,f B e)))(he:∀B,Inv l.length B->F ((l.length:Int),B)=some (.inr (o B))):bK F (0,b0)=some (o (l.foldl f b0))/\Inv l.length (l.foldl f b0):=by have hI:∀i,i<=l.length->Inv i ((l.take i).foldl f b0):=(by intro i hi;induction i with|zero=>exact h0|succ i ih=>have hx:=iG (show i<l.length by omega);rw[iQ,hx];simp only[ce,xz,ey,List.foldl_nil];exact(hs i _ _ hx (ih aB)).1);have hL:=hI l.length (oA _);rw[kH]at hL;refine⟨iM l.length (λi=>(l.take i).foldl f b0) rfl hn (λi hi=>?_) (by rw[kH];exact he _ hL),hL⟩;have hx:=iG hi;rw[(hs i _ _ hx (hI i aB)).2,iQ,hx];simp only[ce,xz,ey,List.foldl_nil]
abbrev Sh:=Bool×List Int
def yA(n:Nat)(x:Int)(s:Sh):Sh:=if x<0\/x=(n:Int)then(true,s.2)else if x∈s.2 then s else(s.1,s.2++[x])
def ShOk(n k:Nat)(s:Sh):Prop:=s.2.length<=k/\∀x∈s.2,0<=x/\x<(n:Int)
theorem ShOk.mono{k m:Nat}{s:Sh}(h:ShOk n k s)(hk:k<=m):ShOk n m s:=⟨eR h.1 hk,h.2⟩
theorem ShOk.fst{k:Nat}{s:Sh}(h:ShOk n k s)(c:Bool):ShOk n k (c,s.2):=h
theorem J0{k:Nat}{x:Int}{s:Sh}(h:ShOk n k s)(hx:x<=(n:Int)):ShOk n (k+1) (yA n x s):=by unfold yA;split;exact(h.fst true).mono aB;split;exact h.mono aB;rename_i h1 h2;refine⟨by have:=h.1;simp;omega,λy hy=>?_⟩;simp only[zQN,zal121q]at hy;rcases hy with hy|hy;exact h.2 y hy;subst hy;omega
theorem c1_eq(hC:COk t)(hj:j<t.Ab.length){x:Int}{c:Bool}{l:List Int}(hl:l.length<=1000):dK x (Lq t b) (j:Int) c l=some (yA (bE t j) x (c,l)):=by unfold dK yA;dsimp only;rw[(fq hC hj).1];by_cases h0:x<0;rw[if_pos h0,aC,if_pos rfl,if_pos (.inl h0)];rw[if_neg h0,aC,aC];by_cases h1:x=(bE t j:Int);rw[if_pos (decide_eq_true h1),if_pos (.inr h1)];rw[decide_eq_false h1,Dr,if_neg (by intro hc;rcases hc with hc|hc;exact h0 hc;exact h1 hc),vF l x qL,aC];by_cases h2:x∈l;rw[decide_eq_true h2,Dr,if_pos h2];rw[decide_eq_false h2,if_pos aN,if_neg h2,yv]
def Z3(n:Nat)(q:Aj)(f:Bool)(s:Sh)(x:Int):Sh:=
 let s1:=if 0<=kA (cL q.Aa x)then yA n (kA (cL q.Aa x)) s else s
 if s1.1=true then(true,s1.2)else if x∈q.Ae then(!f,s1.2)else(false,s1.2)
def Z2(n:Nat)(q:Aj)(f g:Bool)(s:Sh)(x:Int):Sh:=
 let s1:=if 0<=kA (cL q.Aa x)/\g=false then yA n (kA (cL q.Aa x)) s else s
 if s1.1=true then(true,s1.2)else if x∈q.Ae then if f=false then(!g,s1.2)else(false,s1.2)else(false,s1.2)
theorem K3(hC:COk t)(hq:t.Ab[j]?=some q)(x:Int):kA (cL q.Aa x)<=(bE t j:Int):=by have hln:bE t j=q.Aa.length-1:=(by unfold bE;rw[hq]);unfold cL;cases e:q.Aa.findIdx? λy=>y == x with|none=>simp only[kA];omega|some k=>obtain⟨_,_,_,hk⟩:=vP e;simp only[kA];omega
theorem oneA_ok(hC:COk t)(hq:t.Ab[j]?=some q){f:Bool}{k:Nat}{s:Sh}{x:Int}(h:ShOk (bE t j) k s):ShOk (bE t j) (k+1) (Z3 (bE t j) q f s x):=by unfold Z3;have h1:ShOk (bE t j) (k+1) (if 0<=kA (cL q.Aa x)then yA (bE t j) (kA (cL q.Aa x)) s else s):=(by split;exact J0 h (K3 hC hq x);exact h.mono aB);dsimp only;generalize (if 0<=kA (cL q.Aa x)then yA (bE t j) (kA (cL q.Aa x)) s else s)=s1 at h1;split;exact h1.fst _;split;exact h1.fst _;exact h1.fst _
theorem oneB_ok(hC:COk t)(hq:t.Ab[j]?=some q){f g:Bool}{k:Nat}{s:Sh}{x:Int}(h:ShOk (bE t j) k s):ShOk (bE t j) (k+1) (Z2 (bE t j) q f g s x):=by unfold Z2;have h1:ShOk (bE t j) (k+1) (if 0<=kA (cL q.Aa x)/\g=false then yA (bE t j) (kA (cL q.Aa x)) s else s):=(by split;exact J0 h (K3 hC hq x);exact h.mono aB);dsimp only;generalize (if 0<=kA (cL q.Aa x)/\g=false then yA (bE t j) (kA (cL q.Aa x)) s else s)=s1 at h1;split;exact h1.fst _;split;split;exact h1.fst _;exact h1.fst _;exact h1.fst _
variable {s0:Sh}
theorem shA_eq(hC:COk t)(hr:r∈t.Ab)(hq:t.Ab[j]?=some q)(f:Bool)(h0:ShOk (bE t j) k0 s0)(hk:k0<=100):bK (λ((x12:Int),(c13:Bool),(b14:List Int))=>if x12<(r.Aa.length:Int)then bL r.Aa x12 λe17=>aE ( aE (eT q.Aa e17) λr21=>if(0:Int)<=r21 then aE (dK r21 (Lq t b) (j:Int) c13 b14) λ(r24,r25)=>some (r24,r25)else some (c13,b14)) λ(c18,b19)=>if c18=true then aH (cI (x12+(1:Int))) <|some (.inl ((x12+(1:Int)),true,b19))else aE (cO q.Ae e17) λr27=>if r27=true then aH (cI (x12+(1:Int))) <|some (.inl ((x12+(1:Int)),!(f),b19))else aH (cI (x12+(1:Int))) <|some (.inl ((x12+(1:Int)),false,b19))else aX ( some (c13,b14))) ((0:Int),s0)=some (r.Aa.foldl (Z3 (bE t j) q f) s0)/\ShOk (bE t j) (k0+r.Aa.length) (r.Aa.foldl (Z3 (bE t j) q f) s0):=by have hj:=gJ hq;have hqm:=kK hq;have hsum:=hC.sum r hr;have hsumq:=hC.sum q hqm;unfold wh at hsum hsumq;refine Nc r.Aa (Z3 (bE t j) q f) (λi s=>ShOk (bE t j) (k0+i) s) (λs=>s) aB h0 (λx e s hx hs=>⟨oneA_ok hC hq hs,?_⟩) (λs _=>by obtain⟨c,l⟩:=s;dsimp only;rw[mF];rfl);obtain⟨c,l⟩:=s;have hx':=gJ hx;have hl:l.length<=1000:=(by have:=hs.1;dsimp only at this;omega);dsimp only;rw[iL,aR hx,eq _ _ qL,aC];have e1:(if(0:Int)<=kA (cL q.Aa e)then aE (dK (kA (cL q.Aa e)) (Lq t b) (j:Int) c l) λ(r24,r25)=>some (r24,r25)else some (c,l))=some (if 0<=kA (cL q.Aa e)then yA (bE t j) (kA (cL q.Aa e)) (c,l)else(c,l)):=(by split;rw[c1_eq hC hj hl,aC];rfl);rw[e1,aC];unfold Z3;dsimp only;generalize (if 0<=kA (cL q.Aa e)then yA (bE t j) (kA (cL q.Aa e)) (c,l)else(c,l))=s1;obtain⟨c1,l1⟩:=s1;dsimp only;cases c1;rw[Dr,Dr,vF _ _ qL,aC];by_cases hm:e∈q.Ae;rw[decide_eq_true hm,if_pos rfl,if_pos hm,aK (eO hx' aB)];rw[decide_eq_false hm,Dr,if_neg hm,aK (eO hx' aB)];rw[if_pos rfl,if_pos rfl,aK (eO hx' aB)]
theorem shB_eq(hC:COk t)(hr:r∈t.Ab)(hq:t.Ab[j]?=some q)(f g:Bool)(h0:ShOk (bE t j) k0 s0)(hk:k0<=400):bK (λ((x40:Int),(c41:Bool),(b42:List Int))=>if x40<(r.Ae.length:Int)then bL r.Ae x40 λe45=>aE ( aE (eT q.Aa e45) λr49=>if((decide ((0:Int)<=r49))&&(!(g)))=true then aE (dK r49 (Lq t b) (j:Int) c41 b42) λ(r53,r54)=>some (r53,r54)else some (c41,b42)) λ(c46,b47)=>if c46=true then aH (cI (x40+(1:Int))) <|some (.inl ((x40+(1:Int)),true,b47))else aE (cO q.Ae e45) λr56=>if r56=true then if(!(f))=true then aH (cI (x40+(1:Int))) <|some (.inl ((x40+(1:Int)),!(g),b47))else aH (cI (x40+(1:Int))) <|some (.inl ((x40+(1:Int)),false,b47))else aH (cI (x40+(1:Int))) <|some (.inl ((x40+(1:Int)),false,b47))else aX ( some (c41,b42))) ((0:Int),s0)=some (r.Ae.foldl (Z2 (bE t j) q f g) s0)/\ShOk (bE t j) (k0+r.Ae.length) (r.Ae.foldl (Z2 (bE t j) q f g) s0):=by have hj:=gJ hq;have hqm:=kK hq;have hsum:=hC.sum r hr;have hsumq:=hC.sum q hqm;unfold wh at hsum hsumq;refine Nc r.Ae (Z2 (bE t j) q f g) (λi s=>ShOk (bE t j) (k0+i) s) (λs=>s) aB h0 (λx e s hx hs=>⟨oneB_ok hC hq hs,?_⟩) (λs _=>by obtain⟨c,l⟩:=s;dsimp only;rw[mF];rfl);obtain⟨c,l⟩:=s;have hx':=gJ hx;have hl:l.length<=1000:=(by have:=hs.1;dsimp only at this;omega);dsimp only;rw[iL,aR hx,eq _ _ qL,aC];have e1:(if((decide ((0:Int)<=kA (cL q.Aa e)))&&(!(g)))=true then aE (dK (kA (cL q.Aa e)) (Lq t b) (j:Int) c l) λ(r24,r25)=>some (r24,r25)else some (c,l))=some (if 0<=kA (cL q.Aa e)/\g=false then yA (bE t j) (kA (cL q.Aa e)) (c,l)else(c,l)):=(by by_cases h:0<=kA (cL q.Aa e)/\g=false;rw[if_pos (by simp[h.1,h.2]),if_pos h,c1_eq hC hj hl,aC];rw[if_neg fc,if_neg h]);rw[e1,aC];unfold Z2;dsimp only;generalize (if 0<=kA (cL q.Aa e)/\g=false then yA (bE t j) (kA (cL q.Aa e)) (c,l)else(c,l))=s1;obtain⟨c1,l1⟩:=s1;dsimp only;cases c1;rw[if_neg fS,if_neg fS,vF _ _ qL,aC];by_cases hm:e∈q.Ae;rw[decide_eq_true hm,if_pos rfl,if_pos hm];cases f;simp only[sJ,if_true];rw[aK (eO hx' aB)];simp only[tX,kV,Bool.true_eq_false,if_false];rw[aK (eO hx' aB)];rw[decide_eq_false hm,if_neg fS,if_neg hm,aK (eO hx' aB)];rw[if_pos rfl,if_pos rfl,aK (eO hx' aB)]
variable {t:Ah}{b:List Ay}{i:Nat}
theorem qUT(l:List Ac)(x:Ac)(h:Qu l)(hx:Ac.ok x)(ho:∀s∈l,Ac.ok s):nF l x=some (kA (l.findIdx? λy=>decide (x=y))):=by unfold nF;rw[Nd l (λy=>decide (x=y)) (λi=>.inr (i:Int)) (.inl ()) h (λk e he=>?_) rB];cases l.findIdx? λy=>decide (x=y)<;>rfl;have hi:=gJ he;rw[iL,aR he,aK ⟨hx,ho e (kK he)⟩];by_cases hz:x=e;rw[if_pos hz,if_pos (decide_eq_true hz)];rfl;rw[if_neg hz,aK (eO hi h),if_neg (by simpa using hz)]
theorem zC(l:List Ac)(x:Ac)(h:Qu l)(hx:Ac.ok x)(ho:∀s∈l,Ac.ok s):cK l x=some (decide (x∈l)):=by unfold cK;rw[qUT l x h hx ho,aC,qCC,List.findIdx?_isSome];congr 1;rw[zal18q,zQU];simp
def zX(t:Ah)(el:Int):Int:=t.A9.getD (zS t el).toNat 0
theorem COk.home(hC:COk t)(hr:r∈t.Ab){x:Ac}(hx:x∈gE (cV r)):∃k:Nat,zS t x.el=(k:Int)/\k<t.Af.length/\t.A9[k]?=some (zX t x.el)/\0<=zX t x.el/\zX t x.el<t.Aa:=by have h1:=hC.set_in hr hx;have hp:=(eB hC.chk).2.1;unfold zE at hp;simp only[pQ,decide_eq_true_eq]at hp;obtain⟨k,hk⟩:∃k:Nat,zS t x.el=(k:Int):=⟨(zS t x.el).toNat,aB⟩;have hkl:k<t.Af.length:=aB;have h2:t.A9[k]?=some (zX t x.el):=(by unfold zX;rw[hk,fx,show((k:Int)).toNat=k by omega,Q8];rfl);have h3:=allB_iff.1 hp.2 k hkl;rw[Gs (iG hkl) (iG (show k-1<t.Af.length by omega)) h2]at h3;have h4:=of_decide_eq_true h3;exact⟨k,hk,hkl,h2,h4.2.2.1,h4.2.2.2⟩
def q8(x:Ac):Ac:=⟨x.el,3-x.pos⟩
def Z1(t:Ah)(n:Nat)(q:Aj)(s:Sh)(x:Ac):Sh:=if q8 x∈q.Am\/q8 x∈q.A4 then(true,s.2)else if q8 x∈q.Af then yA n (kA (cL q.Aa (zX t x.el))) s else s
theorem oneC_ok(hC:COk t)(hq:t.Ab[j]?=some q){k:Nat}{s:Sh}{x:Ac}(h:ShOk (bE t j) k s):ShOk (bE t j) (k+1) (Z1 t (bE t j) q s x):=by unfold Z1;split;exact(h.fst _).mono aB;split;exact J0 h (K3 hC hq _);exact h.mono aB
theorem shC_eq(hC:COk t)(ht:WfB t)(hr:r∈t.Ab)(hq:t.Ab[j]?=some q)(h0:ShOk (bE t j) k0 s0)(hk:k0<=700):bK (λ((x72:Int),(c73:Bool),(b74:List Int))=>if x72<((gE (cV r)).length:Int)then bL (gE (cV r)) x72 λe77=>aH (cI ((3:Int)-e77.pos)) <|aE ( aE (cK q.Am (⟨e77.el,((3:Int)-e77.pos)⟩:Ac)) λr81=>if r81=true then some true else aE (cK q.A4 (⟨e77.el,((3:Int)-e77.pos)⟩:Ac)) λr83=>some r83) λx79=>if x79=true then aH (cI (x72+(1:Int))) <|some (.inl ((x72+(1:Int)),true,b74))else aE (cK q.Af (⟨e77.el,((3:Int)-e77.pos)⟩:Ac)) λr86=>if r86=true then aE (gM t e77.el) λr88=>bL t.A9 r88 λe89=>aE (eT q.Aa e89) λr90=>aE (dK r90 (Lq t b) (j:Int) c73 b74) λ(r92,r93)=>aH (cI (x72+(1:Int))) <|some (.inl ((x72+(1:Int)),r92,r93))else aH (cI (x72+(1:Int))) <|some (.inl ((x72+(1:Int)),c73,b74))else aX ( some (c73,b74))) ((0:Int),s0)=some ((gE (cV r)).foldl (Z1 t (bE t j) q) s0)/\ShOk (bE t j) (k0+(gE (cV r)).length) ((gE (cV r)).foldl (Z1 t (bE t j) q) s0):=by have hj:=gJ hq;have hqm:=kK hq;have hsum:=hC.sum r hr;have hsumq:=hC.sum q hqm;unfold wh at hsum hsumq;have hal:=qZ (cV r);have hal2:(cV r).length<=200:=Ml;have hlm:=hC.lim;have hso:=ht.sok q hqm;refine Nc (gE (cV r)) (Z1 t (bE t j) q) (λi s=>ShOk (bE t j) (k0+i) s) (λs=>s) aB h0 (λx e s hx hs=>⟨oneC_ok hC hq hs,?_⟩) (λs _=>by obtain⟨c,l⟩:=s;dsimp only;rw[mF];rfl);obtain⟨c,l⟩:=s;have hx':=gJ hx;have hxm:=kK hx;have hsi:=hC.set_in hr hxm;obtain⟨k,hk1,hk2,hk3,hk4,hk5⟩:=hC.home hr hxm;have hl:l.length<=1000:=(by have:=hs.1;dsimp only at this;omega);have heo:Ac.ok e:=ht.sok r hr e (ascS_mem.1 hxm);have hoo:Ac.ok (q8 e):=⟨heo.1,by show cI (3-e.pos);unfold cI;omega⟩;have hop:(⟨e.el,(3:Int)-e.pos⟩:Ac)=q8 e:=rfl;have o1:∀s∈q.Am,Ac.ok s:=λs hs=>hso s V3;have o2:∀s∈q.A4,Ac.ok s:=λs hs=>hso s V3;have o3:∀s∈q.Af,Ac.ok s:=λs hs=>hso s V3;dsimp only;rw[iL,aR hx,pY,hop,zC _ _ qL hoo o1,aC,zC _ _ qL hoo o2,aC];unfold Z1;dsimp only;have e1:(if decide (q8 e∈q.Am)=true then some true else some (decide (q8 e∈q.A4)))=some (decide (q8 e∈q.Am\/q8 e∈q.A4)):=(by by_cases h:q8 e∈q.Am;rw[if_pos (decide_eq_true h),decide_eq_true (Or.inl h)];rw[if_neg fc];congr 1;rw[zal18q];simp[h]);rw[e1,aC];by_cases hc:q8 e∈q.Am\/q8 e∈q.A4;rw[if_pos (decide_eq_true hc),if_pos hc,aK (eO hx' aB)];rw[if_neg (by rw[decide_eq_false hc];exact fS),if_neg hc,zC _ _ qL hoo o3,aC];by_cases hd:q8 e∈q.Af;have hid:kA (cL t.Af e.el)=(k:Int):=hk1;rw[if_pos (decide_eq_true hd),if_pos hd,pA t _ qL,aC,hid,aR hk3,eq _ _ qL,aC,c1_eq hC hj hl,aC,aK (eO hx' aB)];rw[if_neg (by rw[decide_eq_false hd];exact fS),if_neg hd,aK (eO hx' aB)]
def vZ(r q:Aj):Bool:=(decide ((0:Int)<=r.exit))&&(decide (q.entry=r.exit))
def cm(t:Ah)(j:Nat)(r q:Aj):Sh:=(gE (cV r)).foldl (Z1 t (bE t j) q) (r.Ae.foldl (Z2 (bE t j) q (vZ q r) (vZ r q)) (r.Aa.foldl (Z3 (bE t j) q (vZ q r)) (false,[])))
theorem Mq(hC:COk t)(ht:WfB t)(hr:t.Ab[i]?=some r)(hq:t.Ab[j]?=some q):oT (Lq t b) (i:Int) (j:Int)=some (cm t j r q)/\ShOk (bE t j) 200 (cm t j r q):=by have hrm:=kK hr;have hsum:=hC.sum r hrm;unfold wh at hsum;have hal:=qZ (cV r);have hal2:(cV r).length=r.Af.length+r.Am.length+r.A4.length:=qDR;have hA:=shA_eq (b:=b) hC hrm hq (vZ q r) (s0:=(false,[])) (k0:=0) ⟨aN,aN⟩ aB;have hB:=shB_eq (b:=b) hC hrm hq (vZ q r) (vZ r q) hA.2 aB;have hD:=shC_eq (b:=b) hC ht hrm hq hB.2 aB;refine⟨?_,hD.2.mono aB⟩;unfold oT;dsimp only;rw[aR hr,aR hq];rw[show hZ q r=some (vZ q r)from rfl,aC,show hZ r q=some (vZ r q)from rfl,aC];rw[hA.1,aC,hB.1,aC,hC.sok ht hrm,aC,hD.1,aC];rfl
theorem qI{l:List α}:l.Nodup↔∀a c,a<c->c<l.length->l[a]?≠l[c]?:=by unfold List.Nodup;rw[zal130q];constructor;intro h a c hac hc he;rw[iG hc,iG (show a<l.length by omega)]at he;exact h a c aB hc hac (bO he);intro h a c ha hc hac he;refine h a c hac hc ?_;rw[iG hc,iG ha,he]
theorem Fe{α:Type}[DecidableEq α]:∀(V L:List α),L.Nodup->L⊆V->V.length<=L.length->V.Nodup
 |[],_,_,_,_=>List.nodup_nil
 |x::r,L,hn,hs,hl=>by
  rw[kM]at hl;rw[zal125q]
  have hx:x∉r:=by
   intro hx
   have:=qDK hn (l₂:=r) λy hy=>by
    rcases zQB.1 (hs hy)with h|h
    subst h;exact hx;exact h
   omega
  refine⟨hx,Fe r (L.erase x) (hn.erase x) (λy hy=>?_) ?_⟩;have h1:=hn.mem_erase_iff.1 hy;rcases zQB.1 (hs h1.2)with h|h
  exact absurd h h1.1;exact h;rw[List.length_erase];split<;>omega
theorem Ad.eta(e:Ad):(⟨e.op,e.var,e.args⟩:Ad)=e:=by cases e;rfl
def opB(v:List Bool)(op x:Int)(bs:List Bool):Bool:=if op=3 then decide (0<=x)&&v.getD x.toNat false else if op=4 then(match bs with|[]=>false|b::_=>!b)else if op=5 then bs.all id else if op=6 then bs.any id else decide (op=2)
mutual
def rS(v:List Bool):Ad->Bool
 |⟨op,x,l⟩=>opB v op x (evL v l)
def evL(v:List Bool):List Ad->List Bool
 |[]=>[]
 |e::r=>rS v e::evL v r
end
mutual
def Qp:Ad->Nat
 |⟨_,_,l⟩=>qMD l+1
def qMD:List Ad->Nat
 |[]=>0
 |e::r=>max (Qp e) (qMD r)
end
mutual
def yX:Ad->Nat
 |⟨_,_,l⟩=>yN l+1
def yN:List Ad->Nat
 |[]=>0
 |e::r=>yX e+yN r
end
abbrev Xy:Nat:=9223372036854775807
mutual
def qBL:Ad->Prop
 |⟨_,_,l⟩=>l.length<=Xy/\okL l
def okL:List Ad->Prop
 |[]=>True
 |e::r=>qBL e/\okL r
end
theorem qTD(v:List Bool):∀l,evL v l=l.map (rS v)
 |[]=>by simp[evL]
 |e::r=>by simp[evL,qTD v r]
theorem Yn(v:List Bool)(e:Ad):rS v e=opB v e.op e.var (e.args.map (rS v)):=by cases e with|mk a b c=>rw[rS,qTD]
theorem dpL_le{d:Nat}:∀{l:List Ad},qMD l<=d↔∀e∈l,Qp e<=d
 |[]=>by simp[qMD]
 |e::r=>by rw[qMD,Nat.max_le,dpL_le (l:=r)];simp
theorem qHE(e:Ad):Qp e=qMD e.args+1:=by cases e with|mk a b c=>rw[Qp]
theorem qRT:∀l:List Ad,yN l=(l.map yX).sum
 |[]=>by simp[yN]
 |e::r=>by simp[yN,qRT r]
theorem Ww(e:Ad):yX e=yN e.args+1:=by cases e with|mk a b c=>rw[yX]
theorem qEL(a b:List Ad):yN (a++b)=yN a+yN b:=by simp[qRT]
theorem qGA:∀{l:List Ad},okL l↔∀e∈l,qBL e
 |[]=>by simp[okL]
 |e::r=>by rw[okL,qGA (l:=r)];simp
theorem okE_iff:qBL e↔e.args.length<=Xy/\∀x∈e.args,qBL x:=by cases e with|mk a b c=>rw[qBL,qGA]
theorem node_eq(e:Ad):xp e=some ⟨if e.op=3 then 242 else if e.op=4 then(if 0<e.args.length then 243 else 291)else if e.op=5 then 244 else if e.op=6 then 245 else 291,e⟩:=by unfold xp;by_cases h3:e.op=3;rw[if_pos h3,if_pos h3];rw[if_neg h3,if_neg h3];by_cases h4:e.op=4;rw[if_pos h4,if_pos h4];by_cases h:0<e.args.length;rw[iL,if_pos h];rw[mF,if_neg h];rw[if_neg h4,if_neg h4];by_cases h5:e.op=5;rw[if_pos h5,if_pos h5];rw[if_neg h5,if_neg h5];by_cases h6:e.op=6;rw[if_pos h6,if_pos h6];rw[if_neg h6,if_neg h6]
theorem qCL(v:List Bool):∀(fu:Nat)(e:Ad),Qp e<=fu->qBL e->sG fu e v=some (rS v e)
 |0,e,h,_=>by rw[qHE]at h;omega
 |fu+1,e,h,ho=>by
  rw[qHE]at h;have hd:∀x∈e.args,Qp x<=fu:=dpL_le.1 aB;obtain⟨hl,hox⟩:=okE_iff.1 ho;unfold Xy at hl;have ih:∀x∈e.args,sG fu x v=some (rS v x):=λx hx=>qCL v fu x (hd x hx) (hox x hx);rw[Yn];unfold sG opB;rw[node_eq,aC];dsimp only;by_cases h3:e.op=3;rw[if_pos h3,if_pos rfl,if_pos h3];by_cases h0:0<=e.var;rw[if_pos h0,decide_eq_true h0,pX];by_cases h1:e.var<(v.length:Int);have hx:v[e.var.toNat]?=some v[e.var.toNat]:=Q8;rw[if_pos h1,vB h0 hx,aC,fx,hx];rfl;rw[if_neg h1,aC,fx,zLn];rfl;rw[if_neg h0,decide_eq_false h0,Bool.false_and];rfl;rw[if_neg h3,if_neg h3];by_cases h4:e.op=4;rw[if_pos h4,if_pos h4];by_cases hz:0<e.args.length;rw [if_pos hz, if_neg aP, if_pos rfl];have hx:e.args[0]?=some e.args[0]:=iG hz;rw[show(0:Int)=((0:Nat):Int)from rfl,aR hx,ih _ (fV hz),aC,jG,qJ]
  cases e with
  |mk a b c=>
   cases c with
   |nil=>simp at hz
   |cons y r=>rfl
  rw [if_neg hz, if_neg aP, if_neg aP, if_neg aP, if_neg aP, iA, decide_eq_false aB]
  cases e with
  |mk a b c=>
   cases c with
   |nil=>rfl
   |cons y r=>simp at hz
  rw[if_neg h4,if_neg h4];by_cases h5:e.op=5;rw [if_pos h5, if_pos h5, if_neg aP, if_neg aP, if_pos rfl];rw[nH e.args (λx=>!rS v x) (.inr (.inr false)) (.inl ()) hl (λi x hx=>?_) rB]
  cases ha:(e.args.map (rS v)).all id with
  |true=>
   rw[if_neg (by
    rw[zQU];rintro⟨x,hx,hc⟩;rw[zQT]at ha;have:=ha _ (wx hx);simp only[id]at this;rw[this]at hc
    cases hc)]
   rfl
  |false=>
   rw[if_pos (by
    rw[zQU];rw[List.all_eq_false]at ha;obtain⟨y,hy,hc⟩:=ha;obtain⟨x,hx,rfl⟩:=zal115q.1 hy
    exact⟨x,hx,fe⟩)]
   rfl
  have hi:=gJ hx;rw[iL,aR hx,ih x (kK hx),aC,aK (eO hi hl)];cases rS v x<;>simp;rw[if_neg h5,if_neg h5];by_cases h6:e.op=6;rw [if_pos h6, if_pos h6, if_neg aP, if_neg aP, if_neg aP, if_pos rfl];rw[nH e.args (λx=>rS v x) (.inr (.inr true)) (.inl ()) hl (λi x hx=>?_) rB];rw[D4,show(id ∘ rS v)=rS v from rfl];show dZ (dZ (some (if e.args.any (rS v)=true then Sum.inr (Sum.inr true)else Sum.inl ())) _) _=_;cases e.args.any (rS v);rw[Dr];rfl;rw[if_pos rfl];rfl;have hi:=gJ hx;rw[iL,aR hx,ih x (kK hx),aC,aK (eO hi hl)];cases rS v x<;>simp;rw[if_neg h6,if_neg h6,if_neg aP,if_neg aP,if_neg aP,if_neg aP,iA]
theorem qTZ(v:List Bool)(hd:Qp e<=oM)(ho:qBL e):zq e v=some (rS v e):=by unfold zq Ns;rw[qCL v oM e hd ho,aC]
def Fx(n:Int)(op x:Int)(k:Nat):Bool:=if op=1\/op=2 then decide (x=0/\k=0)else if op=3 then decide (0<=x/\x<n/\k=0)else if op=4 then decide (k=1/\x=0)else if op=5\/op=6 then decide (x=0)else false
mutual
def yI(n:Int):Ad->Bool
 |⟨op,x,l⟩=>Fx n op x l.length&&xj n l
def xj(n:Int):List Ad->Bool
 |[]=>true
 |e::r=>yI n e&&xj n r
end
theorem qCF{n:Int}:∀{l:List Ad},xj n l=true↔∀e∈l,yI n e=true
 |[]=>by simp[xj]
 |e::r=>by rw[xj,pQ,qCF (l:=r)];simp
theorem G4{n:Int}:yI n e=true↔Fx n e.op e.var e.args.length=true/\∀x∈e.args,yI n x=true:=by cases e with|mk a b c=>rw[yI,pQ,qCF]
def wq(n:Int)(d left:Int)(e:Ad):Prop:=yI n e=true/\d+(Qp e:Int)<=13/\(yX e:Int)<=left
instance (n d left:Int) (e:Ad):Decidable (wq n d left e):=by unfold wq;infer_instance
theorem qSR{σ:Type}{f:σ->Option (σ ⊕ ρ)}(P:ρ->Prop)(I:Nat->σ->Prop){s:σ}(n:Nat)(hn:n<=Xy)(h0:I 0 s)(hs:∀i,i<n->∀s,I i s->(∃s',f s=some (.inl s')/\I (i+1) s')\/(∃o,f s=some (.inr o)/\P o))(he:∀s,I n s->∃o,f s=some (.inr o)/\P o):∃o,bK f s=some o/\P o:=by
 suffices h:∀k i s,i+k=n->I i s->∃o,tP f (k+1) s=some o/\P o by
  obtain⟨o,h1,h2⟩:=h n 0 s aB h0;exact⟨o,zi h1 (by unfold oM Xy at *; omega),h2⟩
 intro k
 induction k with
 |zero=>
  intro i s hi hI;obtain⟨o,h1,h2⟩:=he s (by rw[show n=i by omega];exact hI);exact⟨o,by simp[tP,h1],h2⟩
 |succ k ih=>
  intro i s hi hI;rcases hs i aB s hI with⟨s',h1,h2⟩|⟨o,h1,h2⟩
  obtain ⟨o, h3, h4⟩ := ih (i + 1) s' aB h2;exact⟨o,by rw[tP,h1];exact h3,h4⟩;exact⟨o,by rw[tP,h1],h2⟩
theorem Wp(n:Int):∀(fu:Nat)(e:Ad)(d left:Int),14<=(fu:Int)+d->0<fu->1<=d->d<=13->0<=left->left<=1000000->qBL e->∃k,sY fu e n d left=some (decide (wq n d left e),k)/\0<=k/\k<=left/\(wq n d left e->k=left-(yX e:Int))
 |0,e,d,left,hfu,hp,_,_,_,_,_=>aB
 |fu+1,e,d,left,hfu,hp,hd1,hd13,h0,hm,ho=>by
  obtain⟨hl,hox⟩:=okE_iff.1 ho;have hdp:=qHE e;have hsz:=Ww e;have hgd:=G4 (n:=n) (e:=e);unfold sY;by_cases hx:12<d\/left=0;rw [if_pos yd];have hno:¬wq n d left e:=by unfold wq;omega
  exact⟨left,qEF,h0,aB,λh=>absurd h hno⟩;rw [if_neg yd, pY]
  have args (hform : Fx n e.op e.var e.args.length = true ↔ e.var = 0) (hform2 : 0 < e.args.length -> 0 < fu) : ∃ k, (if e.var = (0 : Int) then
    dZ (
     bK (λ((x27:Int),(c28:Int))=>
      if x27 < (e.args.length : Int) then
       bL e.args x27 λe31=>
       aH (cI (d+(1:Int))) <|
       aE ((sY fu) e31 n (d+(1:Int)) c28) λ(r34,r35)=>
       if (!(r34)) = true then
        aX (
         aX (
          some (false,r35)))
       else
        aH (cI (x27+(1:Int))) <|
        some (.inl ((x27+(1:Int)),r35))
      else
       aX (
        some (.inl c28))) ((0:Int),(left-(1:Int)))) λc22=>
    some (true,c22)
   else
    some (false,(left-(1:Int))))=some (decide (wq n d left e),k)/\0<=k/\k<=left/\(wq n d left e->k=left-(yX e:Int)):=by
   by_cases hv:e.var=0;rw[if_pos hv]
   have hval:wq n d left e↔(∀x∈e.args,yI n x=true)/\(∀x∈e.args,d+1+(Qp x:Int)<=13)/\(yN e.args:Int)<=left-1:=by
    unfold wq;rw[hgd,hform,hdp,hsz]
    have hdl:d+((qMD e.args+1:Nat):Int)<=13↔∀x∈e.args,d+1+(Qp x:Int)<=13:=by
     have h1:=dpL_le (l:=e.args) (d:=(12-d).toNat);constructor;intro h x hx;have:=h1.1 aB x hx;omega;intro h;have:=h1.2 (λx hx=>by have:=h x hx;omega);omega
    rw[hdl];constructor;rintro⟨⟨_,a⟩,b,c⟩;exact⟨a,b,aB⟩;rintro⟨a,b,c⟩;exact⟨⟨hv,a⟩,b,aB⟩
   obtain⟨o,ho1,ho2⟩:=qSR (f:=λ((x27:Int),(c28:Int))=>
     if x27 < (e.args.length : Int) then
      bL e.args x27 λe31=>
      aH (cI (d+(1:Int))) <|
      aE ((sY fu) e31 n (d+(1:Int)) c28) λ(r34,r35)=>
      if (!(r34)) = true then
       aX (
        aX (
         some (false,r35)))
      else
       aH (cI (x27+(1:Int))) <|
       some (.inl ((x27+(1:Int)),r35))
     else
      aX (
       some (.inl c28))) (s:=((0:Int),left-1))
    (fun (o : Int ⊕ (Bool × Int)) => match o with
     |.inl c=>wq n d left e/\c=left-(yX e:Int)
     |.inr r=>¬wq n d left e/\r.1=false/\0<=r.2/\r.2<=left)
    (fun i s => s.1 = (i : Int) /\ s.2 = left - 1 - (yN (e.args.take i) : Int) /\ 0 <= s.2 /\ ∀ x ∈ e.args.take i, wq n (d + 1) 1000000 x /\ yI n x = true /\ d + 1 + (Qp x : Int) <= 13) e.args.length hl ⟨rfl, by simp [yN], by show 0 <= left - 1; omega, aN⟩ (fun i hi s hI => by
     obtain⟨x27,c28⟩:=s;obtain⟨h1,h2,h3,h4⟩:=hI;dsimp only at h1 h2 h3;subst h1;have hxi:=iG hi;have hmem:=fV hi;dsimp only;rw[iL,aR hxi,pY];obtain⟨k,hk1,hk2,hk3,hk4⟩:=Wp n fu e.args[i] (d+1) c28 aB (hform2 aB) aB aB h3 aB (hox _ hmem);rw[hk1,aC]
     have hsplit:yN (e.args.take (i+1))=yN (e.args.take i)+yX e.args[i]:=by
      rw[iQ,hxi,qEL];simp[yN]
     by_cases hV:wq n (d+1) c28 e.args[i];left;rw[decide_eq_true hV,Dr,aK (eO hi hl)];refine⟨_,rfl,kW,?_,hk2,?_⟩;dsimp only;rw[hk4 hV,hsplit];omega;intro x hx;rw[iQ,hxi]at hx;simp only[ce,zQN,zal121q]at hx;rcases hx with hx|hx
     exact h4 x hx;subst hx;exact⟨⟨hV.1,hV.2.1,by have:=hV.2.2;omega⟩,hV.1,hV.2.1⟩;right;rw[decide_eq_false hV];simp only[sJ,if_true,jG];refine⟨_,rfl,?_,rfl,hk2,aB⟩;intro hc;rw[hval]at hc;apply hV;refine⟨hc.1 _ hmem,hc.2.1 _ hmem,?_⟩
     have h5:yN (e.args.take (i+1))<=yN e.args:=by
      conv=>rhs;rw[<- List.take_append_drop (i+1) e.args,qEL]
      omega
     have h6:=hc.2.2
     omega) (λs hI=>by
     obtain⟨x27,c28⟩:=s;obtain⟨h1,h2,h3,h4⟩:=hI;dsimp only at h1 h2 h3;subst h1;rw[kH]at h2 h4;dsimp only;rw[mF];refine⟨_,rfl,?_,by rw[hsz];omega⟩;rw[hval]
     exact⟨λx hx=>(h4 x hx).2.1,λx hx=>(h4 x hx).2.2,aB⟩)
   rw[ho1]
   cases o with
   |inl c=>
    dsimp only at ho2;rw[iA];have hsz2:(yX e:Int)<=left:=ho2.1.2.2;exact⟨c,by rw[decide_eq_true ho2.1],aB,aB,λ_=>ho2.2⟩
   |inr r=>
    obtain⟨r1,r2⟩:=r;dsimp only at ho2;obtain⟨p1,p2,p3,p4⟩:=ho2;subst p2;rw[qJ];exact⟨r2,by rw[decide_eq_false p1],p3,p4,λh=>absurd h p1⟩
   rw[if_neg hv]
   have hno:¬wq n d left e:=by
    unfold wq;rw[hgd,hform];intro h;exact hv h.1.1
   exact⟨left-1,qEF,aB,aB,λh=>absurd h hno⟩
  have leaf (b:Bool) (hform:Fx n e.op e.var e.args.length=b) (hb:b=true->e.args.length=0):∃k,(some (b,left-1):Option (Bool×Int))=some (decide (wq n d left e),k)/\0<=k/\k<=left/\(wq n d left e->k=left-(yX e:Int)):=by
   cases b with
   |true=>
    have hnil:e.args=[]:=x7 (hb rfl);have h1:Qp e=1:=by rw[hdp,hnil];rfl
    have h2:yX e=1:=by rw[hsz,hnil];rfl
    have hyes:wq n d left e:=⟨hgd.2 ⟨hform,by rw[hnil];simp⟩,aB,aB⟩;exact⟨left-1,by rw[decide_eq_true hyes],aB,aB,λ_=>aB⟩
   |false=>
    have hno:¬wq n d left e:=by
     unfold wq;rw[hgd,hform];intro h;exact absurd h.1.1 aN
    exact⟨left-1,qEF,aB,aB,λh=>absurd h hno⟩
  have hpos:0<e.args.length->0<fu:=by intro _;omega
  unfold Fx at args leaf;by_cases h12:e.op=1\/e.op=2
  have e1:(if e.op=(1:Int)then some (decide (e.op=(1:Int)))else some (decide (e.op=(2:Int))))=some true:=by
   rcases h12 with h|h<;>simp[h]
  rw[e1,aC,if_pos rfl,jG,qJ];refine leaf _ ?_ ?_;rw[if_pos h12,zal18q];simp only[decide_eq_true_eq,pQ];omega;simp only[pQ,decide_eq_true_eq];omega
  have e1:(if e.op=(1:Int)then some (decide (e.op=(1:Int)))else some (decide (e.op=(2:Int))))=some false:=by
   rw[mF,decide_eq_false aB]
  rw[e1,aC,Dr];by_cases h3:e.op=3;rw[if_pos h3,jG,qJ];refine leaf _ ?_ ?_;rw[if_neg h12,if_pos h3,zal18q];simp only[decide_eq_true_eq,pQ];omega;simp only[pQ,decide_eq_true_eq];omega;rw[if_neg h3];by_cases h4:e.op=4;rw[if_pos h4];by_cases h1:e.args.length=1;rw[iL,iA];exact args (by rw[if_neg h12,if_neg h3,if_pos h4];simp[h1]) hpos;rw[mF,jG,qJ];exact leaf false (by rw[if_neg h12,if_neg h3,if_pos h4,decide_eq_false aB]) aN;rw[if_neg h4];by_cases h5:e.op=5;rw[if_pos h5,iA];exact args (by rw[if_neg h12,if_neg h3,if_neg h4,if_pos (.inl h5)];simp) hpos;rw[if_neg h5];by_cases h6:e.op=6;rw[if_pos h6,iA];exact args (by rw[if_neg h12,if_neg h3,if_neg h4,if_pos (.inr h6)];simp) hpos;rw[if_neg h6,jG,qJ];exact leaf false (by rw[if_neg h12,if_neg h3,if_neg h4,mF]) aN
abbrev valB(n:Int)(e:Ad):Bool:=decide (wq n 1 20000 e)
theorem Valid_eq(n:Int)(ho:qBL e):vv e n=some (valB n e):=by unfold vv Ji;obtain⟨k,hk,_⟩:=Wp n oM e 1 20000 V9 V9 aB aB aB aB ho;rw[hk,aC]
variable {t:Ah}{b:List Ay}{i:Nat}
def qAL(t:Ah)(i j:Nat):Ad:=if j<i then Hl [Ih t j 3,Ih t j 4]else Ih t j 3
def wd(t:Ah)(i j:Nat)(r q:Aj):List Ad:=if(cm t j r q).1=true then[mS (qAL t i j)]else if(cm t j r q).2.length=0 then[]else[Hl ([mS (qAL t i j)]++[mZ ((cm t j r q).2.map (xQ t j))])]
theorem Zd(i j:Nat)(r q:Aj):(wd t i j r q).length<=1:=by unfold wd;split;simp;split;simp;simp
theorem b_apart(hC:COk t)(ht:WfB t)(hr:t.Ab[i]?=some r)(hq:t.Ab[j]?=some q):pU (Lq t b) (i:Int) (j:Int)=some (wd t i j r q):=by have hi:=gJ hr;have hj:=gJ hq;have hsh:=Mq (b:=b) hC ht hr hq;have hl:=(fq hC hj).2;unfold pU wd;rw[hsh.1,aC];have hk:=hsh.2;generalize cm t j r q=S at hk;obtain⟨w,l⟩:=S;dsimp only at hk⊢;rw[gj hC hj (show(0:Int)<=3 by omega) (show(3:Int)<=10 by omega),aC,gh,aC];have e1:(if(j:Int)<(i:Int)then aE (bQ (Xr t) (j:Int) (4:Int)) λr11=>aE (dO r11) λr12=>aE (fW ([vE (fT t j+3),r12]:List Ad)) λr13=>some (r13.op,r13.var,r13.args)else some ((vE (fT t j+3)).op,(vE (fT t j+3)).var,(vE (fT t j+3)).args))=some ((qAL t i j).op,(qAL t i j).var,(qAL t i j).args):=(by unfold qAL;by_cases h:j<i;rw[iL,if_pos h,gj hC hj aB aB,aC,gh,aC,Qt,aC];rw[mF,if_neg h]);rw[e1,aC];dsimp only;cases w;rw[if_neg fS,if_neg fS];by_cases h0:l.length=0;rw[iL,if_pos h0];rw[mF,if_neg h0,Lp,aC,rY l (λ_ x=>xQ t j x) [] (by have:=hk.1;dsimp only at this;omega) (λx e B hx hB=>?_) iD,aC,sV,pO,O4,aC,aK aN,Qt,aC,Ad.eta];have hx':=gJ hx;have hb:=hk.2 e (kK hx);have hk1:=hk.1;dsimp only at hk1;simp only[rA,iO]at hB;dsimp only;rw[iL,aR hx,Y7 hC hj aB aB,aC,yv,aK (eO hx' aB)];rw[if_pos rfl,if_pos rfl,Lp,aC,Ad.eta]
def Of(s:Int):Ad:=vE (2*s+1)
def Jf(t:Ah)(x:Ac):Ad:=if x.pos=1 then mS (vE ((qD t:Int)+zS t x.el))else vE ((qD t:Int)+zS t x.el)
def Wg(t:Ah)(x:Ac):Ad:=Hl [Jf t x,nJ (zX t x.el)]
def oV(t:Ah)(i:Nat)(r:Aj)(n:Nat):List Ad:=(List.range n).flatMap λj=>if j=i then[]else match t.Ab[j]? with|some q=>wd t i j r q|none=>[]
theorem F4(i:Nat)(r:Aj):∀n,(oV t i r n).length<=n
 |0=>by simp[oV]
 |n+1=>by
  unfold oV;rw[oG,qe,xK];have h:=F4 i r n;unfold oV at h
  have h2:(List.flatMap (λj=>if j=i then[]else match t.Ab[j]? with|some q=>wd t i j r q|none=>[]) [n]).length<=1:=by
   simp only[Ij,List.flatMap_nil,kU];split;simp;split
   ·exact Zd _ _ _ _
   simp
  omega
theorem qHX(i:Nat)(r:Aj)(n:Nat):oV t i r (n+1)=oV t i r n++(if n=i then[]else match t.Ab[n]? with|some q=>wd t i n r q|none=>[]):=by unfold oV;rw[oG,qe];simp
def cv(t:Ah)(i:Nat)(r:Aj):Ad:=mZ ((([asE t i 2,mS (Ih t i 3)]++(r.Aa++r.Ae).map Of)++oV t i r t.Ab.length)++(gE (cV r)).map (Wg t))
theorem b_lie(hC:COk t)(h0:0<=k)(h1:k<=100):kL (Xr t) k=some ((qD t:Int)+k):=by have hlm:=hC.lim;have h2:=(xT t).1;have h3:=hC.base t.Ab.length;have h4:nZ t=bF t t.Ab.length:=rfl;unfold kL;dsimp only;rw[pY]
theorem b_called(hC:COk t)(ht:WfB t)(hr:t.Ab[i]?=some r):oU (Lq t b) (i:Int)=some (cv t i r):=by have hi:=gJ hr;have hm:=kK hr;have hlm:=hC.lim;have hsum:=hC.sum r hm;unfold wh at hsum;have hal:=qZ (cV r);have hal2:(cV r).length<=200:=Ml;unfold oU;dsimp only;rw[aR hr,Y8 hC hi aB aB,aC,gj hC hi aB aB,aC,gh,aC,Lp,aC,zr _ ⟨aN,iK⟩,aC];have hfl:[r.Aa,r.Ae].flatten=r.Aa++r.Ae:=aN;have hcl:(r.Aa++r.Ae).length<=200:=pF;rw[hfl,rY (r.Aa++r.Ae) (λ_ s=>Of s) _ aB (λx s B hx hB=>?_) iD,aC,sV];have hP:([vE (yM t i+2),mS (vE (fT t i+3))]++(r.Aa++r.Ae).map Of).length<=300:=(by rw[xK,yt];simp only[kM,rA];omega);unfold cv;generalize ([vE (yM t i+2),mS (vE (fT t i+3))]++(r.Aa++r.Ae).map Of)=P at hP;rw[iM t.Ab.length (λn=>P++oV t i r n) (o:=P++oV t i r t.Ab.length) (by simp[oV]) aB (λn hn=>?_) iD,aC];have hP2:(P++oV t i r t.Ab.length).length<=400:=(by have:=F4 (t:=t) i r t.Ab.length;rw[xK];omega);generalize (P++oV t i r t.Ab.length)=P2 at hP2;rw[hC.sok ht hm,aC,rY (gE (cV r)) (λ_ s=>Wg t s) _ aB (λx s B hx hB=>?_) iD,aC,O4,aC,sV];have hx':=gJ hx;have hxm:=kK hx;obtain⟨k,hk1,hk2,hk3,hk4,hk5⟩:=hC.home hm hxm;have hid:kA (cL t.Af s.el)=zS t s.el:=rfl;dsimp only;rw[iL,aR hx,pA t _ qL,aC,hid,b_lie hC aB aB,aC,gh,aC];have e1:(if s.pos=(1:Int)then aE (eL (vE ((qD t:Int)+zS t s.el))) λr56=>some (r56.op,r56.var,r56.args)else some ((vE ((qD t:Int)+zS t s.el)).op,(vE ((qD t:Int)+zS t s.el)).var,(vE ((qD t:Int)+zS t s.el)).args))=some ((Jf t s).op,(Jf t s).var,(Jf t s).args):=(by unfold Jf;by_cases h:s.pos=1;rw[if_pos h,if_pos h,Lp,aC];rw[if_neg h,if_neg h]);rw[e1,aC];dsimp only;rw[hk1,aR hk3,v8 hk4 aB,aC,Qt,aC,yv,aK (eO hx' aB),Ad.eta];rfl;have hlen:(P++oV t i r n).length<=400:=(by have:=F4 (t:=t) i r n;rw[xK];omega);dsimp only;rw[qHX,<- List.append_assoc];generalize (P++oV t i r n)=B at hlen;rw[iL];by_cases hni:n=i;rw[iL,if_pos hni,fg hn,kU];have hq:=iG hn;have hal3:=Zd (t:=t) i n r t.Ab[n];rw[mF,if_neg hni,b_apart hC ht hr hq,aC,hq];dsimp only;rw[aK pF,fg hn];have hx':=gJ hx;have hs:=hC.sec_in hm (kK hx);simp only[kM,rA]at hB;dsimp only;rw[iL,aR hx,b_sec hs.1 aB aB aB,aC,gh,aC,yv,aK (eO hx' aB)];rfl
def cz(t:Ah)(el:Int)(rev:Bool)(r:Aj)(i:Nat)(l:List Ac):List Ad:=(l.filter λx=>decide (x.el=el)&&(rev == decide (x.pos=2))).map λ_=>Ih t i 4
theorem Mn(el:Int)(rev:Bool)(r:Aj)(i:Nat)(l:List Ac):(cz t el rev r i l).length<=l.length:=by unfold cz;rw[yt];exact D0 _ _
theorem Wj(el:Int)(rev:Bool)(r:Aj)(i:Nat){l:List Ac}{k:Nat}{x:Ac}(h:l[k]?=some x):cz t el rev r i (l.take (k+1))=cz t el rev r i (l.take k)++if x.el=el/\(rev=decide (x.pos=2))then[Ih t i 4]else[]:=by unfold cz;rw[iQ,h,qDI,gS];congr 1;by_cases hx:x.el=el/\(rev=decide (x.pos=2));rw[if_pos hx];simp only[ce];rw[List.filter_cons_of_pos (by simp[hx.1,hx.2]),List.filter_nil];rfl;rw[if_neg hx];simp only[ce];rw[List.filter_cons_of_neg yd,List.filter_nil];rfl
def rC(t:Ah)(el:Int)(rev:Bool)(n:Nat):List Ad:=(List.range n).flatMap λi=>match t.Ab[i]? with|some r=>cz t el rev r i (gE (cV r))|none=>[]
theorem Ec(el:Int)(rev:Bool)(hr:t.Ab[n]?=some r):rC t el rev (n+1)=rC t el rev n++cz t el rev r n (gE (cV r)):=by unfold rC;rw[oG,qe];simp[hr]
theorem By(hC:COk t)(el:Int)(rev:Bool):∀n,(rC t el rev n).length<=200*n
 |0=>by simp[rC]
 |n+1=>by
  have h:=By hC el rev n
  cases hr:t.Ab[n]? with
  |none=>
   have:rC t el rev (n+1)=rC t el rev n:=by
    unfold rC;rw[oG,qe];simp[hr]
   rw[this];omega
  |some r=>
   have h1:=Mn (t:=t) el rev r n (gE (cV r));have h2:=qZ (cV r);have hsum:=hC.sum r (kK hr);unfold wh at hsum;have hal2:(cV r).length<=200:=Ml
   rw[Ec el rev hr,xK];omega
def Kv(t:Ah)(p:Nat)(el:Int):Ad:=Hl [Hl (rC t el true t.Ab.length),mZ [vE ((qD t:Int)+(p:Int)),mS (Hl (rC t el false t.Ab.length))]]
theorem b_lies(hC:COk t)(ht:WfB t){p:Nat}(hp:t.Af[p]?=some el):qY (Lq t b) (p:Int)=some (Kv t p el):=by have hpl:=gJ hp;have hlm:=hC.lim;unfold qY;dsimp only;rw[iM t.Ab.length (λn=>(rC t el false n,rC t el true n)) (o:=(rC t el false t.Ab.length,rC t el true t.Ab.length)) (by simp[rC]) aB (λn hn=>?_) iD,aC];dsimp only;rw[Qt,aC,b_lie hC aB aB,aC,gh,aC,Qt,aC,Lp,aC,O4,aC,Qt,aC];rfl;have hr:=iG hn;have hm:=fV hn;have hsum:=hC.sum _ hm;unfold wh at hsum;have hal:=qZ (cV t.Ab[n]);have hal2:(cV t.Ab[n]).length<=200:=Ml;have hw1:=By hC el false n;have hw2:=By hC el true n;dsimp only;rw[iL,aR hr,hC.sok ht hm,aC,Ec el false hr,Ec el true hr];generalize rC t el false n=A at hw1;generalize rC t el true n=B at hw2;rw[iM (gE (cV t.Ab[n])).length (λk=>(A++cz t el false t.Ab[n] n ((gE (cV t.Ab[n])).take k),B++cz t el true t.Ab[n] n ((gE (cV t.Ab[n])).take k))) (o:=(A++cz t el false t.Ab[n] n (gE (cV t.Ab[n])),B++cz t el true t.Ab[n] n (gE (cV t.Ab[n])))) (by simp[cz]) aB (λk hk=>?_) qDW,aC];dsimp only;rw[fg hn];have hx:=iG hk;have hs:=hC.set_in hm (kK hx);have hv1:=Mn (t:=t) el false t.Ab[n] n ((gE (cV t.Ab[n])).take k);have hv2:=Mn (t:=t) el true t.Ab[n] n ((gE (cV t.Ab[n])).take k);rw[oF]at hv1 hv2;dsimp only;rw[iL,aR hx,aR hp,Wj el false _ _ hx,Wj el true _ _ hx];generalize cz t el false t.Ab[n] n ((gE (cV t.Ab[n])).take k)=A' at hv1;generalize cz t el true t.Ab[n] n ((gE (cV t.Ab[n])).take k)=B' at hv2;generalize (gE (cV t.Ab[n]))[k]=x at hs;by_cases h1:x.el=el;rw[if_pos h1];by_cases h2:x.pos=2;rw[if_pos h2,gj hC hn aB aB,aC,gh,aC,yv,fg hk,if_neg (by simp[h2]),if_pos (by simp[h1,h2]),kU,nT];rw[if_neg h2,gj hC hn aB aB,aC,gh,aC,yv,fg hk,if_pos (by simp[h1,h2]),if_neg (by simp[h2]),kU,nT];rw[if_neg h1,fg hk,if_neg x8,if_neg x8,kU,kU]
variable {t:Ah}{b:List Ay}{i:Nat}
theorem gC{f:Nat->List β}(h:∀i,(f i).length<=c)(n:Nat):((List.range n).flatMap f).length<=c*n:=by induction n with|zero=>simp|succ n ih=>rw[oG,qe,xK];have:=h n;simp only[Ij,List.flatMap_nil,kU,Bh,Bg];omega
theorem nO(f:Nat->List β)(n:Nat):(List.range (n+1)).flatMap f=(List.range n).flatMap f++f n:=by rw[oG,qe];simp
def rt(t:Ah)(f:Nat->Aj->List α)(i:Nat):List α:=match t.Ab[i]? with|some r=>f i r|none=>[]
theorem xa(hr:t.Ab[i]?=some r):rt t f i=f i r:=by unfold rt;rw[hr]
def pt(t:Ah)(f:Nat->Int->List α)(i:Nat):List α:=match t.Af[i]? with|some r=>f i r|none=>[]
theorem qSD{f:Nat->Int->List α}{r:Int}(hr:t.Af[i]?=some r):pt t f i=f i r:=by unfold pt;rw[hr]
theorem COk.sec24(hC:COk t)(hr:r∈t.Ab):r.Aa.length<=24:=by have h1:=((eB hC.chk).2.2.1 r hr).1;unfold rE at h1;simp only[pQ]at h1;have h2:=h1.1.1.2;have hlm:=hC.lim;unfold H3 at h2;rw[allB_iff]at h2;have hn:(r.Aa++r.Ae).Nodup:=(by rw[qI];intro a c hac hcl;have h3:=h2 c hcl;rw[gx (iG hcl)]at h3;simp only[pQ,gH,decide_eq_false_iff_not]at h3;rw[iG hcl,iG (show a<_ by omega)];intro he;have he2:=bO he;exact h3.2 (by rw[<- he2];exact zal122q.2 ⟨a,aB,rfl⟩));have hsub:(r.Aa++r.Ae).map Int.toNat⊆List.range 24:=(by intro x hx;obtain⟨s,hs,rfl⟩:=zal115q.1 hx;have:=hC.sec_in hr hs;rw[zal120q];omega);have hn2:((r.Aa++r.Ae).map Int.toNat).Nodup:=(by rw[qI];intro a c hac hcl;rw[yt]at hcl;rw[vV,vV,iG hcl,iG (show a<_ by omega)];simp only[jB];intro he;have he2:=bO he;have ha:=hC.sec_in hr (fV (show a<_ by omega));have hb:=hC.sec_in hr (fV hcl);have h4:(r.Aa++r.Ae)[a]' aB=(r.Aa++r.Ae)[c]:=aB;rw[qI]at hn;exact hn a c hac hcl (by rw[iG hcl,iG (show a<_ by omega),h4]));have h5:=qDK hn2 hsub;simp only[yt,xK,xx]at h5;omega
theorem COk.last24(hC:COk t)(i:Nat):bE t i<=23:=by unfold bE;cases hr:t.Ab[i]? with|none=>simp|some r=>have:=hC.sec24 (kK hr);simp only;omega
def Yp:BA:=⟨#[46]⟩
def Hn(w:BA)(i:Nat):BA:=(w++Yp)++ep i
theorem G1:∀i,i<100->(ep i).size<=2:=bg
theorem qGR(hi:i<100):strconv_Itoa (i:Int)=some (ep i):=by unfold strconv_Itoa qLN Go.Lib.itoa;rw[pY,mF,show((i:Int)).toNat=i by omega];rfl
theorem ek(hi:i<100)(ws:List BA)(hw:∀w∈ws,w.size<=1000)(hl:ws.length<=10){B:List BA}(hB:B.length<=100000):dB (i:Int) ws B=some (B++ws.map (Hn · i)):=by unfold dB;rw[rY ws (λ_ w=>Hn w i) B aB (λx w B' hx hB'=>?_) iD,sV];have hx':=gJ hx;have h1:=hw w (kK hx);have h2:=G1 i hi;have h3:(⟨#[46]⟩:BA).size=1:=rfl;dsimp only;rw[iL,aR hx,Ny,qGR hi,aC,aK Q7,yv,aK (eO hx' aB)];rfl
def qIK:BA:=⟨#[102,114,101,101]⟩
def wOpen:BA:=⟨#[111,112,101,110]⟩
def Gj:BA:=⟨#[110,111,114,109,97,108]⟩
def yx:BA:=⟨#[114,101,118,101,114,115,101]⟩
def Wl:BA:=⟨#[117,110,99,108,97,105,109,101,100]⟩
def qRP:BA:=⟨#[112,97,115,115,101,100]⟩
def wCall:BA:=⟨#[99,97,108,108]⟩
def qRQ:BA:=⟨#[99,97,110,99,101,108]⟩
def qIJ:BA:=⟨#[108,105,101]⟩
def O9:BA:=⟨#[115,101,116]⟩
def yT:BA:=⟨#[99,108,101,97,114]⟩
def Dc:BA:=⟨#[117,115,101,100]⟩
def Dd:BA:=⟨#[104,101,108,100]⟩
def wRelD:BA:=⟨#[114,101,108,46]⟩
def qRO:BA:=⟨#[119,97,105,116]⟩
def qEJ:BA:=⟨#[115,116,97,110,100]⟩
def wKeep:BA:=⟨#[107,101,101,112]⟩
def wUse:BA:=⟨#[117,115,101]⟩
def wHold:BA:=⟨#[104,111,108,100]⟩
def wAct:BA:=⟨#[97,99,116]⟩
def qRR:BA:=⟨#[99,97,108,108,101,100]⟩
def qSJ(i:Nat):List BA:=[qIK,wOpen].map (Hn · i)
def qSI(i:Nat):List BA:=[Gj,yx].map (Hn · i)
def nm3(i:Nat):List BA:=[Wl,qRP,wCall,qRQ].map (Hn · i)
def qXT(i:Nat):List BA:=[qIJ].map (Hn · i)
def J7(i n:Nat):List BA:=(List.range n).flatMap λk=>[wRelD++ep i].map (Hn · k)
def qKL(t:Ah)(i:Nat):List BA:=([O9,yT,Dc,Dd].map (Hn · i)++J7 i (bE t i))++[qRO,qEJ].map (Hn · i)
def nm6(i:Nat):List BA:=[wKeep,wUse,wHold,wAct,qRR].map (Hn · i)
def rW(t:Ah):List BA:=(((((List.range t.Aa.toNat).flatMap qSJ++(List.range t.Af.length).flatMap qSI)++(List.range t.Ab.length).flatMap nm3)++(List.range t.Af.length).flatMap qXT)++(List.range t.Ab.length).flatMap (qKL t))++(List.range t.Ab.length).flatMap nm6
theorem nm5_len(t:Ah)(i:Nat):(qKL t i).length=6+bE t i:=by unfold qKL J7;rw[xK,xK,eJ (c:=1) (λ_=>rfl)];simp;omega
theorem Ff(hC:COk t):∀n,n<=t.Ab.length->qD t+t.Af.length+((List.range n).flatMap (qKL t)).length=bF t n
 |0,_=>by rw[v7];simp
 |n+1,h=>by
  have hr:=iG (show n<t.Ab.length by omega);have h1:=Ff hC n aB;have hsec:=hC.secs (fV (show n<t.Ab.length by omega));have hln:bE t n=t.Ab[n].Aa.length-1:=uA
  have hw:Wh t.Ab[n]=5+t.Ab[n].Aa.length:=rfl;rw[nO,xK,ca hr,nm5_len];omega
theorem va(hC:COk t):(rW t).length=gQ t:=by have h1:=eJ (f:=qSJ) (c:=2) (λ_=>rfl) t.Aa.toNat;have h2:=eJ (f:=qSI) (c:=2) (λ_=>rfl) t.Af.length;have h3:=eJ (f:=nm3) (c:=4) (λ_=>rfl) t.Ab.length;have h4:=eJ (f:=qXT) (c:=1) (λ_=>rfl) t.Af.length;have h5:=Ff hC t.Ab.length (oA _);have h6:=eJ (f:=nm6) (c:=5) (λ_=>rfl) t.Ab.length;unfold rW;simp only[xK,h1,h2,h3,h4,h6];have ha:gQ t=nZ t+5*t.Ab.length:=rfl;have he:nZ t=bF t t.Ab.length:=rfl;unfold qD at *;omega
theorem sz4{ws:List BA}(h:ws.all (λw=>decide (w.size<=1000))=true):∀w∈ws,w.size<=1000:=by intro w hw;rw[zQT]at h;exact of_decide_eq_true (h w hw)
theorem names_eq(hC:COk t):nQ (Xr t)=some (rW t):=by have hlm:=hC.lim;have hs:t.Aa=((t.Aa.toNat:Nat):Int):=aB;have h1:=eJ (f:=qSJ) (c:=2) (λ_=>rfl);have h2:=eJ (f:=qSI) (c:=2) (λ_=>rfl);have h3:=eJ (f:=nm3) (c:=4) (λ_=>rfl);have h4:=eJ (f:=qXT) (c:=1) (λ_=>rfl);have h6:=eJ (f:=nm6) (c:=5) (λ_=>rfl);unfold nQ;dsimp only;rw[gZ qSJ [] t.Aa.toNat aB (λi hi=>?_) iD,aC,pO];rw[gZ qSI _ t.Af.length aB (λi hi=>?_) iD,aC];rw[gZ nm3 _ t.Ab.length aB (λi hi=>?_) iD,aC];rw[gZ qXT _ t.Af.length aB (λi hi=>?_) iD,aC];have hpl:((((List.range t.Aa.toNat).flatMap qSJ++(List.range t.Af.length).flatMap qSI)++(List.range t.Ab.length).flatMap nm3)++(List.range t.Af.length).flatMap qXT).length=qD t+t.Af.length:=(by simp only[xK,h1,h2,h3,h4];unfold qD;omega);unfold rW;generalize ((((List.range t.Aa.toNat).flatMap qSJ++(List.range t.Af.length).flatMap qSI)++(List.range t.Ab.length).flatMap nm3)++(List.range t.Af.length).flatMap qXT)=P at hpl;rw[gZ (qKL t) _ t.Ab.length aB (λi hi=>?_) iD,aC];have hP2:(P++(List.range t.Ab.length).flatMap (qKL t)).length<=30000:=(by have:=Ff hC t.Ab.length (oA _);have:=hC.base t.Ab.length;rw[xK];omega);generalize P++(List.range t.Ab.length).flatMap (qKL t)=P2 at hP2;rw[gZ nm6 _ t.Ab.length aB (λi hi=>?_) iD,aC];dsimp only;rw[iL,ek aB _ (sz4 aP) aN (by rw[xK,h6];omega),aC,fg hi];rfl;have hlen:(P++(List.range i).flatMap (qKL t)).length<=30000:=(by have:=Ff hC i aB;have:=hC.base i;rw[xK];omega);generalize P++(List.range i).flatMap (qKL t)=B at hlen;have hl:=fq hC hi;have hl2:=hC.last24 i;dsimp only;rw[iL,ek aB _ (sz4 aP) aN aB,aC,hl.1,aC];have hB2:(B++[O9,yT,Dc,Dd].map (Hn · i)).length<=30004:=iK;rw[show B++qKL t i=(B++[O9,yT,Dc,Dd].map (Hn · i))++J7 i (bE t i)++[qRO,qEJ].map (Hn · i) by unfold qKL;simp only[nT]];rw[show([(⟨#[115,101,116]⟩:BA),(⟨#[99,108,101,97,114]⟩:BA),(⟨#[117,115,101,100]⟩:BA),(⟨#[104,101,108,100]⟩:BA)]:List BA)=[O9,yT,Dc,Dd]from rfl];generalize B++[O9,yT,Dc,Dd].map (Hn · i)=B2 at hB2;rw[gZ (λk=>[wRelD++ep i].map (Hn · k)) B2 (bE t i) aB (λk hk=>?_) iD,aC];have hB3:(B2++J7 i (bE t i)).length<=30100:=(by unfold J7;rw[xK,eJ (c:=1) (λ_=>rfl)];omega);unfold J7 at hB3⊢;generalize (B2++(List.range (bE t i)).flatMap λk=>[wRelD++ep i].map (Hn · k))=B3 at hB3;rw[ek aB _ (sz4 aP) aN aB,aC,aC,fg hi];rfl;have hsz:=G1 i aB;have hlen3:(B2++(List.range k).flatMap λk=>[wRelD++ep i].map (Hn · k)).length<=30100:=(by rw[xK,eJ (c:=1) (λ_=>rfl)];omega);dsimp only;rw[iL,qGR aB,aC];rw[show(⟨#[114,101,108,46]⟩:BA)=wRelD from rfl];have hrs:wRelD.size=4:=rfl;rw[Ny,ek aB _ (by intro w hw;simp only[zal121q]at hw;subst hw;rw[Mc];omega) aN aB,aC,fg hk];dsimp only;rw[iL,ek aB _ (sz4 aP) aN (by simp only[xK,h1,h2,h3,h4];omega),aC,fg hi];rfl;dsimp only;rw[iL,ek aB _ (sz4 aP) aN (by simp only[xK,h1,h2,h3];omega),aC,fg hi];rfl;dsimp only;rw[iL,ek aB _ (sz4 aP) aN (by simp only[xK,h1,h2];omega),aC,fg hi];rfl;dsimp only;rw[iL,pO,ek aB _ (sz4 aP) aN (by simp only[h1];omega),aC,fg hi];rfl
def tA(t:Ah)(i:Nat)(r:Aj):List Ay:=[⟨1,fT t i+4,0,cv t i r⟩]
def Dk(t:Ah)(p:Nat)(el:Int):List Ay:=[⟨1,(qD t:Int)+(p:Int),0,Kv t p el⟩]
def Qa(t:Ah)(i:Nat):List Ay:=[⟨1,(bF t i:Int)+0,0,Hl [Ih t i 0,Ih t i 4]⟩]
def qO(t:Ah):List Ay:=(List.range t.Ab.length).flatMap (rt t (rN t))
def uY(t:Ah):List Ay:=(List.range t.Ab.length).flatMap (rt t (qy t))
def rV(t:Ah):List Ay:=(List.range t.Ab.length).flatMap (rt t (pZ t))
def vW(t:Ah):List Ay:=(List.range t.Ab.length).flatMap (rt t (tA t))
def zD(t:Ah):List Ay:=(List.range t.Af.length).flatMap (pt t (Dk t))
def sE(t:Ah):List Ay:=(List.range t.Ab.length).flatMap (Qa t)
def qC(t:Ah):List Ay:=((((qO t++uY t)++rV t)++vW t)++zD t)++sE t
abbrev qz(t:Ah):Program:=⟨rW t,(qD t:Int),qC t⟩
theorem qJI(h:∀(i:Nat)(r:Aj),t.Ab[i]?=some r->(f i r).length<=c)(i:Nat):(rt t f i).length<=c:=by unfold rt;cases hr:t.Ab[i]? with|none=>simp|some r=>exact h i r hr
theorem Iu(r:Aj):(pZ t i r).length=bE t i+3:=by unfold pZ;rw[xK,Mu];rfl
theorem Gv(f:Nat->Aj->List Ay){F:Int×List Ay->Option ((Int×List Ay) ⊕ List Ay)}(pre:List Ay)(hn:t.Ab.length<=1000)(hc:c<=1000)(hp:pre.length<=10000)(hf:∀(i:Nat)(r:Aj),t.Ab[i]?=some r->(f i r).length<=c)(hnn:t.Ab.length<=48)(hF:∀(i:Nat)(r:Aj)(B:List Ay),t.Ab[i]?=some r->B.length<=90000->F ((i:Int),B)=some (.inl ((i:Int)+1,B++f i r)))(he:∀B,F ((t.Ab.length:Int),B)=some (.inr B)):bK F (0,pre)=some (pre++(List.range t.Ab.length).flatMap (rt t f)):=by refine gZ (rt t f) pre t.Ab.length aB (λi hi=>?_) (he _);have hr:=iG hi;have h1:((List.range i).flatMap (rt t f)).length<=48000:=(by refine eR (gC (qJI hf) i) ?_;have:c*i<=1000*48:=gm hc aB;omega);rw[hF i _ _ hr pF,xa hr]
theorem qRA(h:TOk t)(ht:WfB t)(hs:Iw t=true):mD t=some (if fE t=0 then if 2000<gQ t then(⟨[],0,[]⟩,2)else(qz t,0)else(⟨[],0,[]⟩,fE t)):=by unfold mD;rw[qBN h hs,aC];by_cases hz:fE t=0;obtain⟨hT,h1,h2,h3⟩:=Gl hs;have hC:COk t:=⟨h,h1,h2,h3,hz⟩;rw[if_pos hz,if_pos hz];by_cases ha:2000<gQ t;rw[if_pos ha,if_pos ha];rfl;rw[if_neg ha,if_neg ha];have hlm:=hC.lim;dsimp only;rw[if_pos rfl];have l1:(qO t).length<=2*t.Ab.length:=gC (qJI λ_ _ _=>by simp[rN]) _;have l2:(uY t).length<=4*t.Ab.length:=gC (qJI λ_ _ _=>yb) _;have l3:(rV t).length<=30*t.Ab.length:=gC (qJI λi _ _=>by rw[Iu];have:=hC.last24 i;omega) _;have l4:(vW t).length<=1*t.Ab.length:=gC (qJI λ_ _ _=>by simp[tA]) _;have l5:(zD t).length<=1*t.Af.length:=gC (λi=>by unfold pt;split<;>simp[Dk]) _;rw[Gv (t:=t) (rN t) [] (c:=2) aB aB aN (λ_ _ _=>by simp[rN]) aB (λi r B hr hB=>?_) (λB=>iD),aC,pO];rw[Gv (t:=t) (qy t) _ (c:=4) aB aB (by unfold qO at l1;omega) (λ_ _ _=>yb) aB (λi r B hr hB=>?_) (λB=>iD),aC];rw[Gv (t:=t) (pZ t) _ (c:=30) aB aB (by rw[xK];unfold qO at l1;unfold uY at l2;omega) (λi _ _=>by rw[Iu];have:=hC.last24 i;omega) aB (λi r B hr hB=>?_) (λB=>iD),aC];rw[Gv (t:=t) (tA t) _ (c:=1) aB aB (by simp only[xK];unfold qO at l1;unfold uY at l2;unfold rV at l3;omega) (λ_ _ _=>by simp[tA]) aB (λi r B hr hB=>?_) (λB=>iD),aC];rw[gZ (pt t (Dk t)) _ t.Af.length aB (λp hp=>?_) iD,aC];rw[gZ (Qa t) _ t.Ab.length aB (λi hi=>?_) iD,aC,names_eq hC,aC];rfl;have l6:((List.range i).flatMap (Qa t)).length<=1*i:=gC (λ_=>by simp[Qa]) _;have hai:=hC.base t.Ab.length;dsimp only;rw[iL,F3 hC hi aB aB,aC,gj hC hi aB aB,aC,gh,aC,gj hC hi aB aB,aC,gh,aC,Qt,aC,F2 (by simp only[xK];unfold qO at l1;unfold uY at l2;unfold rV at l3;unfold vW at l4;unfold zD at l5;omega),aC,fg hi];rfl;have l6:((List.range p).flatMap (pt t (Dk t))).length<=1*p:=gC (λi=>by unfold pt;split<;>simp[Dk]) _;have hq:=iG hp;dsimp only;rw[iL,b_lie hC aB aB,aC,b_lies hC ht hq,aC,F2 (by simp only[xK];unfold qO at l1;unfold uY at l2;unfold rV at l3;unfold vW at l4;omega),aC,fg hp,qSD hq];rfl;have hi:=gJ hr;dsimp only;rw[iL,gj hC hi aB aB,aC,b_called hC ht hr,aC,F2 aB,aC,fg hi];rfl;have hi:=gJ hr;dsimp only;rw[iL,b_state hC ht hr aB,aC,fg hi];have hi:=gJ hr;dsimp only;rw[iL,qQU hC ht hr aB,aC,fg hi];have hi:=gJ hr;dsimp only;rw[iL,b_timers hC hr aB,aC,fg hi];rw[if_neg hz,if_neg hz];dsimp only;rw[if_neg hz]
def eh(n inp:Int)(r:Ay):Bool:=(decide (r.kind=1/\r.Fn=0)||decide (r.kind=2/\1<=r.Fn/\r.Fn<=1073741824))&&(decide (inp<=r.var/\r.var<n)&&valB n r.expr)
theorem qEX(p:Go.Proofs.YtandcfplaooadaaGreatDoor.Program){r:Ay}(ho:qBL r.expr):cq p r=some (eh (p.names.length:Int) p.inputs r):=by
 unfold cq eh
 have tail:aE (
  if p.inputs<=r.var then
   if r.var<(p.names.length:Int)then
    aE (vv r.expr (p.names.length:Int)) λr14=>
    some r14
   else
    some false
  else
   some false) (λx10=>
 some x10)=some (decide (p.inputs<=r.var/\r.var<(p.names.length:Int))&&valB (p.names.length:Int) r.expr):=by
  by_cases h1:p.inputs<=r.var;rw[if_pos h1];by_cases h2:r.var<(p.names.length:Int);rw[if_pos h2,Valid_eq _ ho,aC,aC,decide_eq_true ⟨h1,h2⟩,pX];rw[if_neg h2,aC,decide_eq_false (λh=>h2 h.2),Bool.false_and];rw[if_neg h1,aC,decide_eq_false (λh=>h1 h.1),Bool.false_and]
 by_cases h1:r.kind=1;rw[if_pos h1];by_cases h0:r.Fn=0;rw[if_pos h0,iA,tail,decide_eq_true (⟨h1,h0⟩:r.kind=1/\r.Fn=0),Bool.true_or,pX];rw [if_neg h0, jG, qJ, decide_eq_false aB, decide_eq_false aB];rfl;rw[if_neg h1];by_cases h2:r.kind=2;rw[if_pos h2];by_cases h0:r.Fn<1\/1073741824<r.Fn;rw [if_pos (by simpa using h0), jG, qJ, decide_eq_false aB, decide_eq_false aB];rfl;rw[if_neg (by simpa using h0),iA,tail,decide_eq_true (show r.kind=2/\1<=r.Fn/\r.Fn<=1073741824 by omega),Bool.or_true,pX];rw [if_neg h2, jG, qJ, decide_eq_false aB, decide_eq_false aB];rfl
def bz(p:Go.Proofs.YtandcfplaooadaaGreatDoor.Program):Int:=if 2000<p.names.length then 2 else if p.inputs<0\/(p.names.length:Int)<p.inputs then 1 else if p.Ao.all (eh (p.names.length:Int) p.inputs)=false then 1 else if(p.Ao.map (·.var)).Nodup then 0 else 8
def H9(n:Nat)(l:List Int):List Bool:=(List.range n).map λ(j:Nat)=>decide ((j:Int)∈l)
theorem qVV(n:Nat)(l:List Int):(H9 n l).length=n:=by simp[H9]
theorem Xz{l:List Int}{x:Int}(h0:0<=x)(h1:x<(n:Int)):(H9 n l)[x.toNat]?=some (decide (x∈l)):=by unfold H9;rw[vV,ew aB];simp only[jB];rw[show((x.toNat:Nat):Int)=x by omega]
theorem qVU{l:List Int}{x:Int}(h0:0<=x)(h1:x<(n:Int)):(H9 n l).set x.toNat true=H9 n (l++[x]):=by apply uS;intro j;rw[iC,qVV];by_cases hj:x.toNat=j;subst hj;rw[if_pos rfl,iL,Xz h0 h1];simp;rw[if_neg hj];unfold H9;rw[vV,vV];cases hr:(List.range n)[j]? with|none=>rfl|some k=>have hk:k=j:=(by rw[zQQ]at hr;obtain⟨hr1,hr2⟩:=hr;rw[List.getElem_range]at hr2;exact hr2.symm);subst hk;simp only[jB,zQN,zal121q];congr 1;rw[zal18q];simp only[decide_eq_true_eq];constructor;intro h;exact .inl h;rintro(h|h);exact h;omega
theorem nodup_take{l:List Int}:l.Nodup↔∀(i:Nat)(x:Int),l[i]?=some x->x∉l.take i:=by constructor;intro h i x hx hm;have hi:=gJ hx;obtain⟨j,hj,he⟩:=zal122q.1 hm;rw[qI]at h;refine h j i aB hi ?_;rw[hx,Q8,he];intro h;rw[qI];intro a c hac hc he;have hx:=iG hc;rw[hx]at he;refine h c _ hx (zal122q.2 ⟨a,aB,?_⟩);exact(zQQ.1 he).2
structure POk (p:Go.Proofs.YtandcfplaooadaaGreatDoor.Program):Prop where
 Ao:p.Ao.length<=1000000000
 names:p.names.length<=9000000000000000000
 exprs:∀r∈p.Ao,qBL r.expr
theorem qBG{p:Go.Proofs.YtandcfplaooadaaGreatDoor.Program}(h:POk p):y8 p=some (bz p):=by have hr:=h.Ao;unfold y8 bz;by_cases h1:2000<p.names.length;rw[iL,if_pos h1];rw[mF,if_neg h1];by_cases h2:p.inputs<0\/(p.names.length:Int)<p.inputs;rw[if_pos yc,if_pos h2];rw[if_neg yc,if_neg h2,nH p.Ao (λr=>!eh (p.names.length:Int) p.inputs r) (.inr 1) (.inl ()) aB (λi r hx=>?_) rB];rw[qT];(cases ha:p.Ao.all (eh (p.names.length:Int) p.inputs)with|false=>rw[sJ,if_pos rfl,qJ,if_pos rfl]|true=>rw[tX,if_neg fS,iA,Dr,Ny];rw[zQT]at ha;have hv:∀r∈p.Ao,0<=r.var/\r.var<(p.names.length:Int):=(by intro r hr;have:=ha r hr;unfold eh at this;simp only[pQ,decide_eq_true_eq]at this;omega);have hn:((p.names.length:Int)).toNat=p.names.length:=aB;rw[hn,Nf p.Ao.length (λi=>H9 p.names.length ((p.Ao.map (·.var)).take i)) (λi=>match p.Ao[i]? with|some r=>decide (r.var∈(p.Ao.map (·.var)).take i)|none=>false) (.inr 8) (.inl (H9 p.names.length (p.Ao.map (·.var)))) (by simp[H9,List.map_const']) aB (λi hi _=>?_) (λ_=>by dsimp only;rw[mF,uG aN];rfl)];by_cases hd:(p.Ao.map (·.var)).Nodup;rw[if_pos hd,if_neg ?_,iA];rw[zQU];rintro⟨i,hi,hc⟩;rw[zal120q]at hi;rw[iG hi]at hc;exact nodup_take.1 hd i p.Ao[i].var xI (of_decide_eq_true hc);rw[if_neg hd,if_pos ?_,qJ];rw[zQU];rw[nodup_take]at hd;simp only[Classical.not_forall,Classical.not_not]at hd;obtain⟨i,x,hx,hm⟩:=hd;have hi:=gJ hx;rw[yt]at hi;refine⟨i,zal120q.2 hi,?_⟩;rw[vV,iG hi]at hx;simp only[jB,jA]at hx;rw[iG hi];subst hx;exact decide_eq_true hm;have hx:=iG hi;have hvi:=hv _ (fV hi);dsimp only;rw[iL,aR hx,vB hvi.1 (Xz hvi.1 hvi.2),hx];dsimp only;by_cases hm:p.Ao[i].var∈(p.Ao.map (·.var)).take i;simp only[decide_eq_true hm];rfl;simp only[decide_eq_false hm,kV,if_false];rw[vB hvi.1 (Xz hvi.1 hvi.2),fg hi,qVU hvi.1 hvi.2];rw[iQ (l:=p.Ao.map (·.var)),vV,hx];rfl);have hi:=gJ hx;rw[iL,aR hx,qEX p (h.exprs r (kK hx)),aC,fg hi];rfl
theorem zP{p:Go.Proofs.YtandcfplaooadaaGreatDoor.Program}(h:bz p=0):p.names.length<=2000/\0<=p.inputs/\p.inputs<=(p.names.length:Int)/\(∀r∈p.Ao,eh (p.names.length:Int) p.inputs r=true)/\(p.Ao.map (·.var)).Nodup:=by unfold bz at h;split at h;cases h;split at h;cases h;split at h;cases h;split at h;rename_i h1 h2 h3 h4;refine⟨aB,aB,aB,?_,h4⟩;rw[<- zQT];simpa using h3;cases h
def fi(p:Go.Proofs.YtandcfplaooadaaGreatDoor.Program):Machine:=if bz p=0 then⟨List.replicate p.names.length false,List.replicate p.Ao.length 0,false⟩else⟨[],[],true⟩
def haltP(p:Go.Proofs.YtandcfplaooadaaGreatDoor.Program):Machine:=⟨(fi p).vars,(fi p).counts,true⟩
theorem qBF{p:Go.Proofs.YtandcfplaooadaaGreatDoor.Program}(h:POk p):bl p=some (fi p):=by unfold bl fi;rw[qBG h,aC];by_cases hz:bz p=0;have:=zP hz;have:=h.Ao;rw[if_pos hz,if_pos hz,Ny,Ny,show((p.names.length:Int)).toNat=p.names.length by omega,show((p.Ao.length:Int)).toNat=p.Ao.length by omega];rw[if_neg hz,if_neg hz]
theorem pHalt_eq{p:Go.Proofs.YtandcfplaooadaaGreatDoor.Program}(h:POk p):Ki p=some (haltP p):=by unfold Ki;rw[qBF h,aC];rfl
def qMJ(r:Ay)(c:Int):Bool:=decide (0<=c/\c<=r.Fn)
def gf(p:Go.Proofs.YtandcfplaooadaaGreatDoor.Program)(m:Machine):Bool:=decide (bz p=0/\m.vars.length=p.names.length/\m.counts.length=p.Ao.length)&&(List.zip p.Ao m.counts).all λx=>qMJ x.1 x.2
theorem pFits_eq{p:Go.Proofs.YtandcfplaooadaaGreatDoor.Program}(h:POk p)(m:Machine):Ez p m=some (gf p m):=by have hr:=h.Ao;unfold Ez gf;rw[qBG h,aC];by_cases hh:bz p=0/\m.vars.length=p.names.length/\m.counts.length=p.Ao.length;obtain⟨h1,h2,h3⟩:=hh;have hzl:(List.zip p.Ao m.counts).length=p.Ao.length:=qDU;rw[if_pos h1,iL,aC,decide_eq_true (show(m.counts.length:Int)=(p.Ao.length:Int) by omega),Dr,decide_eq_true ⟨h1,h2,h3⟩,pX];rw[nH (List.zip p.Ao m.counts) (λx=>!qMJ x.1 x.2) (.inr false) (.inl ()) aB (λi x hx=>?_) rB,qT];cases (List.zip p.Ao m.counts).all (λx=>qMJ x.1 x.2)<;>rfl;have hi:=gJ hx;obtain⟨r,c⟩:=x;rw[zal84q]at hx;obtain⟨hx1,hx2⟩:=hx;dsimp only at hx1 hx2⊢;rw[iL,aR hx1,aR hx2,aR hx2,fg hi];unfold qMJ;by_cases hc:c<0;rw[if_pos hc,aC,if_pos rfl,if_pos (by rw[decide_eq_false aB];rfl)];rfl;rw[if_neg hc,aC];by_cases hd:r.Fn<c;rw[decide_eq_true hd,if_pos rfl,if_pos (by rw[decide_eq_false aB];rfl)];rfl;rw[decide_eq_false hd,Dr,if_neg (by rw[decide_eq_true aB];simp)];rw[decide_eq_false hh,Bool.false_and];have e1:(if bz p=(0:Int)then if(m.vars.length:Int)=(p.names.length:Int)then some (!(decide ((m.counts.length:Int)=(p.Ao.length:Int))))else some true else some true)=some true:=(by by_cases h1:bz p=0;rw[if_pos h1];by_cases h2:m.vars.length=p.names.length;rw[iL,decide_eq_false aB];rfl;rw[mF];rw[if_neg h1]);rw[e1,aC,if_pos rfl]
def Dz(r:Ay)(v:Bool)(c:Int):Int×Bool:=if r.kind=2 then(if v=true then(if c<r.Fn then(c+1,decide (c+1=r.Fn))else(c,decide (c=r.Fn)))else(0,false))else(c,v)
def De(V:List Bool)(x:Ay×Int):List Bool:=V.set x.1.var.toNat (Dz x.1 (rS V x.1.expr) x.2).2
def yL(l:List (Ay×Int))(V:List Bool):List Bool:=l.foldl De V
theorem Mp(V:List Bool)(x:Ay×Int):(De V x).length=V.length:=by unfold De;rw[zal95q]
theorem J5:∀(l:List (Ay×Int)) (V:List Bool),(yL l V).length=V.length
 |[],V=>rfl
 |x::l,V=>by
  show(yL l (De V x)).length=V.length;rw[J5 l,Mp]
theorem qJH(a b:List (Ay×Int))(V:List Bool):yL (a++b) V=yL b (yL a V):=by unfold yL;rw[xz]
def zw(l:List (Ay×Int))(V:List Bool):List Int:=l.mapIdx λi x=>(Dz x.1 (rS (yL (l.take i) V) x.1.expr) x.2).1
theorem Lj(l:List (Ay×Int))(V:List Bool):(zw l V).length=l.length:=by simp[zw]
def inV(n:Nat)(I V:List Bool):List Bool:=(List.range n).map (λi=>I.getD i false)++V.drop n
theorem Vl{I V:List Bool}(h:n<=V.length):(inV n I V).length=V.length:=by unfold inV;simp;omega
def yB(p:Go.Proofs.YtandcfplaooadaaGreatDoor.Program)(m:Machine)(I:List Bool):Machine:=if m.halted=true\/gf p m=false then haltP p else⟨yL (List.zip p.Ao m.counts) (inV p.inputs.toNat I m.vars),zw (List.zip p.Ao m.counts) (inV p.inputs.toNat I m.vars),false⟩
theorem qWU(r:Ay)(c:Int)(v:Bool)(hp:r.Fn<=1073741824)(h0:0<=c)(k:Int->Bool->Option β):aE (g7 r) (λr38=>match r38.act with
     |.c128=>aE (xA c v) λ(r43,r44)=>k r43 r44
     |.c129 u48=>aE (tM c v u48) λ(r50,r51)=>k r50 r51)=k (Dz r v c).1 (Dz r v c).2:=by
 unfold g7 Dz;by_cases h2:r.kind=2;rw[if_pos h2,aC,if_pos h2];dsimp only;unfold tM
 cases v with
 |false=>rw[sJ,if_pos rfl,aC,if_neg fS]
 |true=>
  rw[tX,if_neg fS,if_pos rfl];by_cases hl:c<r.Fn;rw[if_pos hl,pY,aC,if_pos hl];rw[if_neg hl,aC,if_neg hl]
 rw[if_neg h2,aC,if_neg h2];rfl
theorem pScan_eq{p:Go.Proofs.YtandcfplaooadaaGreatDoor.Program}(h:POk p)(m:Machine)(I:List Bool)(hd:∀r∈p.Ao,Qp r.expr<=oM)(hv:m.vars.length<=1000000000)(hcn:m.counts.length<=1000000000):q0 p m I=some (yB p m I):=by have hr:=h.Ao;unfold q0 yB;have e1:(if(m.halted)=true then some true else aE (Ez p m) λr4=>some (!(r4)))=some (decide (m.halted=true\/gf p m=false)):=(by cases hm:m.halted with|true=>rw[if_pos rfl];simp|false=>rw[if_neg fS,pFits_eq h,aC];cases gf p m<;>rfl);rw[e1,aC];by_cases hx:m.halted=true\/gf p m=false;rw[if_pos (decide_eq_true hx),if_pos hx,pHalt_eq h,aC];rw[if_neg (by rw[decide_eq_false hx];exact fS),if_neg hx];have hfit:gf p m=true:=(by cases hf:gf p m with|true=>rfl|false=>exact absurd (.inr hf) hx);unfold gf at hfit;simp only[pQ,decide_eq_true_eq,zQT]at hfit;obtain⟨⟨hz,hvl,hcl⟩,hcnt⟩:=hfit;obtain⟨hn1,hn2,hn3,hn4,hn5⟩:=zP hz;have hcb:uJ m.vars=some m.vars:=(by unfold uJ;cases hmv:m.vars with|nil=>rfl|cons a l=>rw[<- hmv];simp only[Fh,hmv];rw[aK (by rw[<- hmv];simpa using hv)];rfl);have hci:dH m.counts=some m.counts:=(by unfold dH;cases hmv:m.counts with|nil=>rfl|cons a l=>rw[<- hmv];simp only[Fh,hmv];rw[aK (by rw[<- hmv];simpa using hcn)];rfl);rw[hcb,aC,hci,aC];have hin:p.inputs=((p.inputs.toNat:Nat):Int):=aB;have hib:p.inputs.toNat<=m.vars.length:=aB;rw[hin];have hsetin (k:Nat) (hk:k<m.vars.length):(inV k I m.vars).set k (I.getD k false)=inV (k+1) I m.vars:=(by unfold inV;rw[List.set_append_right _ _ aN,oG,gS];simp only[yt,xx,Bf,iW,uH,nT];rw[V2 hk];rfl);rw[iM p.inputs.toNat (λk=>inV k I m.vars) (o:=inV p.inputs.toNat I m.vars) (by simp[inV]) aB (λk hk=>?_) iD,aC];have hV0:(inV p.inputs.toNat I m.vars).length=p.names.length:=(by rw[Vl hib,hvl]);rw[show((p.inputs.toNat:Int)).toNat=p.inputs.toNat by omega];generalize inV p.inputs.toNat I m.vars=V0 at hV0;have hzl:(List.zip p.Ao m.counts).length=p.Ao.length:=qDU;rw[iM p.Ao.length (λk=>(yL ((List.zip p.Ao m.counts).take k) V0,(zw (List.zip p.Ao m.counts) V0).take k++m.counts.drop k)) (o:=(yL (List.zip p.Ao m.counts) V0,zw (List.zip p.Ao m.counts) V0)) (by simp[yL]) aB (λk hk=>?_) (by dsimp only;rw[mF,uG aB,uG (by rw[Lj];omega),List.drop_of_length_le aB,kU];rfl),aC];have hrk:=iG hk;obtain⟨c,hck⟩:∃c,m.counts[k]?=some c:=⟨_,Q8⟩;have hrm:=fV hk;have hrb:=hn4 _ hrm;generalize p.Ao[k]=r at hrk hrm hrb;have hzk:(List.zip p.Ao m.counts)[k]?=some (r,c):=zal84q.2 ⟨hrk,hck⟩;have hcb2:=hcnt _ (kK hzk);unfold eh at hrb;simp only[pQ,lP,decide_eq_true_eq]at hrb;dsimp only at hcb2;unfold qMJ at hcb2;have hcb3:=of_decide_eq_true hcb2;have hVk:(yL ((List.zip p.Ao m.counts).take k) V0).length=p.names.length:=(by rw[J5,hV0]);have hcg:((zw (List.zip p.Ao m.counts) V0).take k++m.counts.drop k)[k]?=some c:=(by rw[xy V7,oF,Lj,hzl,show k-min k p.Ao.length=0 by omega,nC];exact hck);have hvk:0<=r.var/\r.var.toNat<p.names.length:=aB;have hnext:yL ((List.zip p.Ao m.counts).take (k+1)) V0=De (yL ((List.zip p.Ao m.counts).take k) V0) (r,c):=(by rw[iQ,hzk,qJH];rfl);have hcnx:(zw (List.zip p.Ao m.counts) V0)[k]?=some (Dz r (rS (yL ((List.zip p.Ao m.counts).take k) V0) r.expr) c).1:=(by unfold zw;rw[bd,hzk];rfl);have hcset (x:Int) (hx:(zw (List.zip p.Ao m.counts) V0)[k]?=some x):((zw (List.zip p.Ao m.counts) V0).take k++m.counts.drop k).set k x=(zw (List.zip p.Ao m.counts) V0).take (k+1)++m.counts.drop (k+1):=(by have hlt:((zw (List.zip p.Ao m.counts) V0).take k).length=k:=(by rw[oF,Lj];omega);rw[List.set_append_right _ _ aB,hlt,Bf,iQ,hx,V2 aB,List.set_cons_zero,nT];rfl);rw[hnext,<- hcset _ hcnx];unfold De;dsimp only;rw[iL,aR hrk];generalize (zw (List.zip p.Ao m.counts) V0).take k++m.counts.drop k=T at hcg;generalize yL ((List.zip p.Ao m.counts).take k) V0=U at hVk;obtain⟨old,hvg⟩:∃b,U[r.var.toNat]?=some b:=⟨_,Q8⟩;rw[show((k:Int)).toNat=k by omega];have hef:=qWU r c (rS U r.expr) aB aB (β:=(Int×List Bool×List Int) ⊕ (List Bool×List Int)) (λa b=>some (.inl ((k:Int)+1,U.set r.var.toNat b,T.set k a)));rw[<- hef];have hg64:cI ((k:Int)+1):=zNn hk;congr 1;funext r38;rw[aR hcg,qTZ U (hd _ hrm) (h.exprs _ hrm),aC];(cases r38.act with|c128=>dsimp only;congr 1;funext x;obtain⟨a,d⟩:=x;dsimp only;rw[aR hcg,vB hvk.1 hvg,aK hg64]|c129 u=>dsimp only;congr 1;funext x;obtain⟨a,d⟩:=x;dsimp only;rw[aR hcg,vB hvk.1 hvg,aK hg64]);have hlk:(inV k I m.vars).length=m.vars.length:=Vl aB;have hgk:(inV k I m.vars)[k]?=some ((inV k I m.vars)[k]' aB):=Q8;dsimp only;rw[iL,show((k:Int)).toNat=k by omega,<- hsetin k aB];by_cases hki:k<I.length;rw[iL,aR (iG hki),aR hgk,pY,fx,iG hki];rfl;rw[mF,aR hgk,pY,fx,zLn];rfl
variable {t:Ah}{b:List Ay}{i:Nat}
def Nice(n:Int)(d s:Nat)(e:Ad):Prop:=yI n e=true/\Qp e<=d/\yX e<=s/\qBL e
def NiceL(n:Int)(d s:Nat)(l:List Ad):Prop:=(∀e∈l,yI n e=true/\Qp e<=d/\qBL e)/\yN l<=s
theorem szE_pos(e:Ad):1<=yX e:=Q4
theorem qRU:∀l:List Ad,l.length<=yN l
 |[]=>aN
 |e::r=>by
  have:=qRU r;have:=szE_pos e;rw[yN,kM];omega
section nice
variable {n:Int}{d d' s s':Nat}{e:Ad}{l m:List Ad}
theorem Nice.mono(h:Nice n d s e)(hd:d<=d')(hs:s<=s'):Nice n d' s' e:=⟨h.1,eR h.2.1 hd,eR h.2.2.1 hs,h.2.2.2⟩
theorem NiceL.mono(h:NiceL n d s l)(hd:d<=d')(hs:s<=s'):NiceL n d' s' l:=⟨λe he=>⟨(h.1 e he).1,eR (h.1 e he).2.1 hd,(h.1 e he).2.2⟩,eR h.2 hs⟩
theorem Fg(n:Int)(d:Nat):NiceL n d 0 []:=⟨aN,by simp[yN]⟩
theorem dN(h:Nice n d s e)(h2:NiceL n d s' l):NiceL n d (s+s') (e::l):=by refine⟨λx hx=>?_,by rw[yN];have:=h.2.2.1;have:=h2.2;omega⟩;rcases zQB.1 hx with hx|hx;subst hx;exact⟨h.1,h.2.1,h.2.2.2⟩;exact h2.1 x hx
theorem gX(h:Nice n d s e):NiceL n d s [e]:=(dN h (Fg n d)).mono (oA _) aB
theorem Cp(h:NiceL n d s l)(h2:NiceL n d s' m):NiceL n d (s+s') (l++m):=by refine⟨λx hx=>?_,by rw[qEL];have:=h.2;have:=h2.2;omega⟩;rcases zQN.1 hx with hx|hx;exact h.1 x hx;exact h2.1 x hx
theorem szL_le(h:∀x∈l,yX x<=s):yN l<=s*l.length:=by induction l with|nil=>simp[yN]|cons x r ih=>have h1:=h x aN;have h2:=ih λy hy=>h y ya;rw[yN,kM,Bh];omega
variable {k:Nat}
theorem qGE(h:∀x∈l,Nice n d s x)(hk:l.length<=k):NiceL n d (s*k) l:=⟨λx hx=>⟨(h x hx).1,(h x hx).2.1,(h x hx).2.2.2⟩,eR (szL_le λx hx=>(h x hx).2.2.1) (gm (oA _) hk)⟩
theorem Xs{α:Type}{f:α->Ad}{xs:List α}(h:∀x∈xs,Nice n d s (f x))(hk:xs.length<=k):NiceL n d (s*k) (xs.map f):=qGE (λy hy=>by obtain⟨x,hx,rfl⟩:=zal115q.1 hy;exact h x hx) (by rw[yt];exact hk)
theorem qSK{α:Type}{f:Nat->α->Ad}{xs:List α}(h:∀i x,xs[i]?=some x->Nice n d s (f i x))(hk:xs.length<=k):NiceL n d (s*k) (xs.mapIdx f):=qGE (λy hy=>by obtain⟨i,hi⟩:=lO hy;rw[bd]at hi;cases hx:xs[i]? with|none=>rw[hx]at hi;cases hi|some x=>rw[hx]at hi;cases hi;exact h i x hx) (by rw[List.length_mapIdx];exact hk)
theorem nl_flat{f:Nat->List Ad}(k:Nat)(h:∀i,i<k->NiceL n d s (f i)):NiceL n d (s*k) ((List.range k).flatMap f):=by induction k with|zero=>simpa using Fg n d|succ k ih=>rw[nO];exact(Cp (ih λi hi=>h i aB) (h k aB)).mono (oA _) (by rw[Bh,Bg];exact oA _)
theorem Nb{x:Int}(h0:0<=x)(h1:x<n):Nice n 1 1 (vE x):=by refine⟨?_,by simp[Qp,qMD],by simp[yX,yN],by simp[qBL,okL]⟩;rw[G4];exact⟨by simp[Fx,h0,h1],aN⟩
theorem qSL(h:NiceL n d s l)(op:Int)(hop:op=5\/op=6)(hs:s<=Xy):Nice n (d+1) (s+1) ⟨op,0,l⟩:=by refine⟨?_,?_,?_,?_⟩;rw[G4];refine⟨?_,λx hx=>(h.1 x hx).1⟩;rcases hop with hop|hop<;>subst hop<;>rfl;rw[Qp];have:=dpL_le.2 λx hx=>(h.1 x hx).2.1;omega;rw[yX];have:=h.2;omega;rw[qBL,qGA];exact⟨eR (qRU l) (eR h.2 hs),λx hx=>(h.1 x hx).2.2⟩
theorem jN(h:NiceL n d s l)(hs:s<=100000):Nice n (d+1) (s+1) (mZ l):=qSL h 5 (.inl rfl) qDO
theorem oN(h:NiceL n d s l)(hs:s<=100000):Nice n (d+1) (s+1) (Hl l):=qSL h 6 (.inr rfl) qDO
theorem lD(h:Nice n d s e):Nice n (d+1) (s+1) (mS e):=by refine⟨?_,?_,?_,?_⟩;rw[G4];exact⟨rfl,by intro x hx;simp only[zal121q]at hx;subst hx;exact h.1⟩;rw[Qp,qMD,qMD];have:=h.2.1;omega;rw[yX,yN,yN];have:=h.2.2.1;omega;rw[qBL,okL,okL];exact⟨by simp[Xy],h.2.2.2,trivial⟩
theorem Nice.val(h:Nice n d s e)(hd:d<=12)(hs:s<=20000):valB n e=true:=by apply decide_eq_true;have h1:=h.2.1;have h2:=h.2.2.1;exact⟨h.1,aB,aB⟩
end nice
theorem qNW(hC:COk t)(hi:i<t.Ab.length)(h0:0<=k)(h1:k<=5+(bE t i:Int)):qD t+t.Af.length<=bF t i/\(bF t i:Int)+k<(nZ t:Int):=by have hr:=iG hi;have hsec:=hC.secs (fV hi);have hb:=qMY hr;have hw:Wh t.Ab[i]=5+t.Ab[i].Aa.length:=rfl;have hln:bE t i=t.Ab[i].Aa.length-1:=uA;have hm:=Y6 (t:=t) 0 i aB;rw[v7]at hm;omega
theorem qAO(t:Ah):gQ t=nZ t+5*t.Ab.length:=rfl
section vars
variable (hC:COk t)(hi:i<t.Ab.length)
include hC hi
variable {k:Int}
theorem xR(h0:0<=k)(h1:k<=5+(bE t i:Int)):Nice (gQ t:Int) 1 1 (vE ((bF t i:Int)+k)):=by have h:=qNW hC hi h0 h1;have ha:=qAO t;exact Nb aB aB
theorem Xv(h0:0<=k)(h1:k<=1+(bE t i:Int)):Nice (gQ t:Int) 1 1 (xQ t i k):=xR hC hi aB aB
theorem Fi(h0:0<=k)(h1:k<=3):Nice (gQ t:Int) 1 1 (vE (yM t i+k)):=by have hlm:=hC.lim;have:=xT t;have hin:qD t=2*t.Aa.toNat+2*t.Af.length+4*t.Ab.length:=rfl;exact Nb (by unfold yM;omega) (by unfold yM;omega)
end vars
theorem zW(_:COk t)(hi:i<t.Ab.length)(h0:0<=k)(h1:k<=4):Nice (gQ t:Int) 1 1 (vE (fT t i+k)):=by have ha:=qAO t;exact Nb (by unfold fT;omega) (by unfold fT;omega)
theorem n_sec(hC:COk t){s:Int}(h0:0<=s)(h1:s<t.Aa)(hk:0<=k)(hk1:k<=1):Nice (gQ t:Int) 1 1 (vE (2*s+k)):=by have:=xT t;have hin:qD t=2*t.Aa.toNat+2*t.Af.length+4*t.Ab.length:=rfl;exact Nb aB aB
theorem fk(hC:COk t){s:Int}(h0:0<=s)(h1:s<t.Aa):Nice (gQ t:Int) 1 1 (nJ s):=by have:=n_sec hC h0 h1 (tW 0) aB;rwa [Int.add_zero]at this
theorem n_pnt(hC:COk t)(hr:r∈t.Ab){x:Ac}(hx:x∈gE (cV r)):Nice (gQ t:Int) 1 1 (qFN t x):=by have h1:=hC.set_in hr hx;have hlm:=hC.lim;have:=xT t;have hin:qD t=2*t.Aa.toNat+2*t.Af.length+4*t.Ab.length:=rfl;unfold qFN;have hk:(if x.pos=2 then(1:Int)else 0)=0\/(if x.pos=2 then(1:Int)else 0)=1:=(by split<;>simp);exact Nb aB aB
theorem qPN(hC:COk t)(h0:0<=k)(h1:k<(t.Af.length:Int)):Nice (gQ t:Int) 1 1 (vE ((qD t:Int)+k)):=by have:=xT t;exact Nb aB aB
section exprs
variable (hC:COk t){r:Aj}(hr:t.Ab[i]?=some r)
include hC hr
theorem qPO:Nice (gQ t:Int) 3 73 (xq t i r):=by have hi:=gJ hr;have hm:=kK hr;have h24:=hC.sec24 hm;unfold xq;refine(jN (qSK (d:=2) (s:=3) (k:=24) (λx s hx=>?_) h24) aB).mono aB aB;have hs:=hC.sec_in hm (kI _ (kK hx));split;exact(oN (dN (Xv hC hi aB aB) (gX (fk hC hs.1 hs.2))) aB).mono aB aB;exact(fk hC hs.1 hs.2).mono aB aB
theorem n_at:Nice (gQ t:Int) 1 1 (qXU t i):=by have hi:=gJ hr;unfold qXU;split;exact(jN (Fg _ 0) aB).mono aB aB;exact Xv hC hi aB aB
theorem n_cur:Nice (gQ t:Int) 4 145 (qQI t i r):=by have hi:=gJ hr;have hm:=kK hr;have h24:=hC.sec24 hm;unfold qQI;refine(oN (qSK (d:=3) (s:=6) (k:=24) (λx s hx=>?_) h24) aB).mono aB aB;have hx':=gJ hx;have hs:=hC.sec_in hm (kI _ (kK hx));have hln:bE t i=r.Aa.length-1:=uA;refine(jN (d:=2) (s:=1+1+2) (Cp (Cp ((gX (fk hC hs.1 hs.2)).mono aB (oA _)) ?_) ?_) aB).mono aB aB;split;exact(gX (Xv hC hi aB aB)).mono aB (oA _);exact(Fg _ _).mono (oA _) aB;split;exact gX (lD (Xv hC hi aB aB));exact(Fg _ _).mono (oA _) aB
theorem qPM:Nice (gQ t:Int) 2 201 (xd t r):=by have hm:=kK hr;have hsum:=hC.sum r hm;unfold wh at hsum;have hal:=qZ (cV r);have hal2:(cV r).length=r.Af.length+r.Am.length+r.A4.length:=qDR;unfold xd;refine(jN (Cp (Xs (d:=1) (s:=1) (k:=(r.Aa++r.Ae).length) (λs hs=>?_) (oA _)) (Xs (s:=1) (k:=(gE (cV r)).length) (λx hx=>n_pnt hC hm hx) (oA _))) qEE).mono aB qEE;have:=hC.sec_in hm hs;exact fk hC this.1 this.2
theorem Xw:Nice (gQ t:Int) 3 210 (uP t i r):=by have hi:=gJ hr;have hm:=kK hr;unfold uP;refine(jN (d:=2) (dN (oN (dN (xR hC hi aB aB) (gX (xR hC hi aB aB))) aB) (dN (lD (Fi hC hi aB aB)) (gX (qPM hC hr)))) aB).mono aB aB
theorem n_keep:Nice (gQ t:Int) 4 210 (Fs t i r):=by have hi:=gJ hr;have hm:=kK hr;unfold Fs;exact(jN (d:=3) (dN ((xR hC hi aB aB).mono aB (oA _)) (dN ((lD (Fi hC hi aB aB)).mono aB (oA _)) (gX (lD (qPM hC hr))))) aB).mono aB aB
theorem Vg:0<=zM r/\zM r<t.Aa:=(Yi hC (kK hr)).2
theorem Vf:0<=yH t i r/\yH t i r<t.Aa:=(qGQ hC hr).2
theorem n_wait:Nice (gQ t:Int) 1 1 (waitE t i):=xR hC (gJ hr) aB aB
theorem n_stand:Nice (gQ t:Int) 1 1 (qEN t i):=by have:=xR hC (gJ hr) (k:=4+(bE t i:Int)+1) aB aB;unfold qEN;rwa [show(bF t i:Int)+(4+(bE t i:Int))+1=(bF t i:Int)+(4+(bE t i:Int)+1) by omega]
theorem n_use:Nice (gQ t:Int) 9 600 (Ws t i r):=by have hi:=gJ hr;have hf:=Vg hC hr;have hl:=Vf hC hr;have s0:=xR hC hi (k:=1) aB aB;have s2:=xR hC hi (k:=2) aB aB;have s3:=xR hC hi (k:=3) aB aB;have a0:=Fi hC hi (k:=0) aB aB;have a3:=Fi hC hi (k:=3) aB aB;have ff:=fk hC hf.1 hf.2;have fl:=fk hC hl.1 hl.2;have em:=qPO hC hr;have x1:=lD (jN (d:=3) (dN (a3.mono aB (oA _)) (gX em)) aB);have x2:=lD (jN (d:=1) (dN (n_at hC hr) (gX fl)) aB);have x3:=lD (n_stand hC hr);have y:=jN (d:=5) (dN (x1.mono aB (oA _)) (dN (x2.mono aB (oA _)) (gX (x3.mono aB (oA _))))) aB;have z:=oN (d:=6) (dN ((lD a0).mono aB (oA _)) (gX (y.mono aB (oA _)))) aB;have w2:=jN (d:=7) (dN (s2.mono aB (oA _)) (gX z)) aB;have w1:=jN (d:=2) (dN (s0.mono aB (oA _)) (gX (lD ff))) aB;have w3:=jN (d:=5) (dN (s3.mono aB (oA _)) (gX (lD (n_cur hC hr)))) aB;unfold Ws;exact(oN (d:=8) (dN (w1.mono aB (oA _)) (dN (w2.mono aB (oA _)) (gX (w3.mono aB (oA _))))) aB).mono aB aB
theorem n_hold:Nice (gQ t:Int) 9 900 (Fw t i r):=by have hi:=gJ hr;have hm:=kK hr;have hf:=Vg hC hr;have ha:=hC.appr hm;have s0:=xR hC hi (k:=1) aB aB;have s2:=xR hC hi (k:=2) aB aB;have s3:=xR hC hi (k:=3) aB aB;have a0:=Fi hC hi (k:=0) aB aB;have a3:=Fi hC hi (k:=3) aB aB;have ff:=fk hC hf.1 hf.2;have fa:=fk hC ha.1 ha.2;have em:=qPO hC hr;have pr:=lD (qPM hC hr);have x1:=lD (jN (d:=1) (dN a3 (dN a0 (gX fa))) aB);have x2:=oN (d:=3) (dN (a3.mono aB (oA _)) (gX pr)) aB;have w1:=jN (d:=4) (dN (s0.mono aB (oA _)) (dN (ff.mono aB (oA _)) (dN (x1.mono aB (oA _)) (gX (x2.mono aB (oA _)))))) aB;have w2:=jN (d:=3) (dN (s2.mono aB (oA _)) (dN (a0.mono aB (oA _)) (dN (a3.mono aB (oA _)) (gX em)))) aB;have w3:=jN (d:=4) (dN (s3.mono aB (oA _)) (dN (n_cur hC hr) (gX ((lD (n_wait hC hr)).mono aB (oA _))))) aB;unfold Fw;exact(oN (d:=5) (dN w1 (dN (w2.mono aB (oA _)) (gX w3))) aB).mono aB aB
theorem n_act:Nice (gQ t:Int) 9 900 (Zh t i r):=by have hi:=gJ hr;unfold Zh;exact(oN (d:=3) (dN ((zW hC hi aB aB).mono aB (oA _)) (dN (Xw hC hr) (dN ((zW hC hi aB aB).mono aB (oA _)) (gX ((zW hC hi aB aB).mono aB (oA _)))))) aB).mono aB aB
theorem n_relX{k:Nat}(hk:k<bE t i):Nice (gQ t:Int) 9 100 (Qc t i r k):=by
 have hi:=gJ hr;have hm:=kK hr;have hln:bE t i=r.Aa.length-1:=uA
 have k1:=(xu hC hm (k:=k) aB).2;have k2:=(xu hC hm (k:=k+1) aB).2;have u1:=zW hC hi (k:=1) aB aB;have u2:=zW hC hi (k:=2) aB aB;have s2:=xR hC hi (k:=2) aB aB;have a0:=Fi hC hi (k:=0) aB aB;have a1:=Fi hC hi (k:=1) aB aB;have o1:=oN (d:=1) (dN u1 (gX u2)) aB;have o2:=oN (d:=2) (dN (lD (fk hC k2.1 k2.2)) (gX (a1.mono aB (oA _)))) aB
 have L:=Cp (d:=3) (dN (s2.mono aB (oA _)) (dN (u1.mono aB (oA _)) (dN (a0.mono aB (oA _)) (dN ((fk hC k1.1 k1.2).mono aB (oA _)) (gX o2))))) (show NiceL (gQ t:Int) 3 1 (if 0<k then[xQ t i ((k:Int)-1)]else[]) by
  split;exact gX ((Xv hC hi aB aB).mono aB (oA _))
  exact(Fg _ _).mono (oA _) aB)
 have x:=jN L aB;have y:=oN (d:=4) (dN ((Xv hC hi (k:=(k:Int)) aB aB).mono aB (oA _)) (gX x)) aB;unfold Qc;exact(jN (d:=5) (dN (o1.mono aB (oA _)) (gX y)) aB).mono aB aB
end exprs
theorem n_apart(hC:COk t)(ht:WfB t)(hr:t.Ab[i]?=some r)(hq:t.Ab[j]?=some q):NiceL (gQ t:Int) 9 300 (wd t i j r q):=by have hi:=gJ hr;have hj:=gJ hq;have hsh:=(Mq (b:=[]) hC ht hr hq).2;have ha:Nice (gQ t:Int) 2 3 (qAL t i j):=(by unfold qAL;split;exact(oN (dN (zW hC hj aB aB) (gX (zW hC hj aB aB))) aB).mono aB aB;exact(zW hC hj aB aB).mono aB aB);unfold wd;split;exact(gX (lD ha)).mono aB aB;split;exact(Fg _ _).mono (oA _) aB;have h1:=jN (Xs (d:=1) (s:=1) (k:=200) (f:=xQ t j) (xs:=(cm t j r q).2) (λx hx=>by have:=hsh.2 x hx;exact Xv hC hj aB aB) hsh.1) aB;exact(gX (oN (Cp (d:=3) (gX (lD ha)) (gX (h1.mono aB (oA _)))) aB)).mono aB aB
theorem qKO(hC:COk t)(ht:WfB t)(hr:t.Ab[i]?=some r):Nice (gQ t:Int) 10 16000 (cv t i r):=by have hi:=gJ hr;have hm:=kK hr;have hlm:=hC.lim;have hsum:=hC.sum r hm;unfold wh at hsum;have hal:=qZ (cV r);have hal2:(cV r).length=r.Af.length+r.Am.length+r.A4.length:=qDR;have hA:NiceL (gQ t:Int) 9 (300*t.Ab.length) (oV t i r t.Ab.length):=(by unfold oV;refine nl_flat _ λj hj=>?_;split;exact(Fg _ _).mono (oA _) aB;rw[iG hj];exact n_apart hC ht hr (iG hj));have hW:=Xs (n:=(gQ t:Int)) (d:=9) (s:=4) (k:=200) (f:=Wg t) (xs:=gE (cV r)) (λx hx=>by have h1:=hC.set_in hm hx;obtain⟨k,hk1,hk2,hk3,hk4,hk5⟩:=hC.home hm hx;unfold Wg;have hl:Nice (gQ t:Int) 2 2 (Jf t x):=(by unfold Jf;split;exact lD (qPN hC h1.1 h1.2.1);exact(qPN hC h1.1 h1.2.1).mono aB aB);exact(oN (dN hl (gX ((fk hC hk4 hk5).mono aB (oA _)))) aB).mono aB aB) aB;have hO:=Xs (n:=(gQ t:Int)) (d:=9) (s:=1) (k:=200) (f:=Of) (xs:=r.Aa++r.Ae) (λs hs=>by have:=hC.sec_in hm hs;exact(n_sec hC this.1 this.2 aB aB).mono aB aB) qEE;have h0:=dN (d:=9) ((Fi hC hi (k:=2) aB aB).mono aB (oA _)) (gX ((lD (zW hC hi (k:=3) aB aB)).mono aB (oA _)));unfold cv;exact(jN (Cp (Cp (Cp h0 hO) hA) hW) aB).mono aB aB
theorem n_lies(hC:COk t){p:Nat}(hp:t.Af[p]?=some el):Nice (gQ t:Int) 5 19900 (Kv t p el):=by have hpl:=gJ hp;have hlm:=hC.lim;have hw (rev:Bool):NiceL (gQ t:Int) 1 9600 (rC t el rev t.Ab.length):=(by have hl:=By hC el rev t.Ab.length;refine(qGE (d:=1) (s:=1) (k:=9600) (λx hx=>?_) aB).mono aB aB;unfold rC at hx;obtain⟨j,hj,hx⟩:=zal112q.1 hx;rw[zal120q]at hj;rw[iG hj]at hx;unfold cz at hx;obtain⟨y,_,rfl⟩:=zal115q.1 hx;exact zW hC hj aB aB);have n1:=oN (hw true) aB;have n2:=lD (oN (hw false) aB);have n3:=jN (d:=3) (dN ((qPN hC (k:=(p:Int)) aB aB).mono aB (oA _)) (gX n2)) aB;unfold Kv;exact(oN (d:=4) (dN (n1.mono aB (oA _)) (gX n3)) aB).mono aB aB
variable {t:Ah}{b:List Ay}{i:Nat}
theorem rt_mem{x:α}:x∈(List.range n).flatMap (rt t f)↔∃i r,i<n/\t.Ab[i]?=some r/\x∈f i r:=by rw[zal112q];constructor;rintro⟨i,hi,hx⟩;unfold rt at hx;(cases hr:t.Ab[i]? with|none=>rw[hr]at hx;cases hx|some r=>rw[hr]at hx;exact⟨i,r,zal120q.1 hi,hr,hx⟩);rintro⟨i,r,hi,hr,hx⟩;exact⟨i,zal120q.2 hi,by rw[xa hr];exact hx⟩
theorem pt_mem{f:Nat->Int->List α}{x:α}:x∈(List.range n).flatMap (pt t f)↔∃i r,i<n/\t.Af[i]?=some r/\x∈f i r:=by rw[zal112q];constructor;rintro⟨i,hi,hx⟩;unfold pt at hx;(cases hr:t.Af[i]? with|none=>rw[hr]at hx;cases hx|some r=>rw[hr]at hx;exact⟨i,r,zal120q.1 hi,hr,hx⟩);rintro⟨i,r,hi,hr,hx⟩;exact⟨i,zal120q.2 hi,by rw[qSD hr];exact hx⟩
theorem rel_mem{x:Ay}:x∈uZ t i r n↔∃j,j<n/\x=⟨1,(bF t i:Int)+(4+((bE t i-1-j:Nat):Int)),0,Qc t i r (bE t i-1-j)⟩:=by unfold uZ;rw[zal115q];constructor;rintro⟨j,hj,rfl⟩;exact⟨j,zal120q.1 hj,rfl⟩;rintro⟨j,hj,rfl⟩;exact⟨j,zal120q.2 hj,rfl⟩
theorem uX{n:Int}{s:Nat}(h0:inp<=v)(h1:v<n)(h:Nice n d s e)(hd:d<=12)(hs:s<=20000):eh n inp ⟨1,v,0,e⟩=true:=by unfold eh;dsimp only;rw[h.val hd hs,decide_eq_true (⟨h0,h1⟩:inp<=v/\v<n)];rfl
theorem W7{n p:Int}{s:Nat}(h0:inp<=v)(h1:v<n)(hp:1<=p)(hp1:p<=1000)(h:Nice n d s e)(hd:d<=12)(hs:s<=20000):eh n inp ⟨2,v,p,e⟩=true:=by unfold eh;dsimp only;rw[h.val hd hs,decide_eq_true (⟨h0,h1⟩:inp<=v/\v<n),decide_eq_true (show(2:Int)=2/\1<=p/\p<=1073741824 by omega)];rfl
theorem Cg(hC:COk t)(hi:i<t.Ab.length)(h0:0<=k)(h1:k<=5+(bE t i:Int)):(qD t:Int)<=(bF t i:Int)+k/\(bF t i:Int)+k<(gQ t:Int):=by have h:=qNW hC hi h0 h1;have ha:=qAO t;omega
theorem Xg(hi:i<t.Ab.length)(h0:0<=k)(h1:k<=4):(qD t:Int)<=fT t i+k/\fT t i+k<(gQ t:Int):=by have ha:=qAO t;have:=xT t;unfold fT;omega
theorem N4(hC:COk t)(hr:t.Ab[i]?=some r):Nice (gQ t:Int) 9 900 (mZ [vE ((bF t i:Int)+3),vE (yM t i+0),xq t i r]):=by have hi:=gJ hr;exact(jN (d:=3) (dN ((xR hC hi aB aB).mono aB (oA _)) (dN ((Fi hC hi aB aB).mono aB (oA _)) (gX (qPO hC hr)))) aB).mono aB aB
theorem N3(hC:COk t)(hr:t.Ab[i]?=some r):Nice (gQ t:Int) 9 900 (mZ [vE ((bF t i:Int)+2),vE (yM t i+0),qXU t i,mS (nJ (yH t i r))]):=by have hi:=gJ hr;have hl:=Vf hC hr;exact(jN (d:=2) (dN ((xR hC hi aB aB).mono aB (oA _)) (dN ((Fi hC hi aB aB).mono aB (oA _)) (dN ((n_at hC hr).mono aB (oA _)) (gX (lD (fk hC hl.1 hl.2)))))) aB).mono aB aB
theorem En(hC:COk t)(ht:WfB t):∀x∈qC t,eh (gQ t:Int) (qD t:Int) x=true:=by intro x hx;have hlm:=hC.lim;have hN:=xT t;unfold qC at hx;simp only[zQN]at hx;rcases hx with((((hx|hx)|hx)|hx)|hx)|hx;obtain⟨i,r,hi,hr,hx⟩:=rt_mem.1 hx;unfold rN at hx;simp only[zQB,eE,or_false]at hx;rcases hx with rfl|rfl;have hb:=Cg hC hi (k:=4+(bE t i:Int)) aB aB;exact W7 hb.1 hb.2 aB aB (N4 hC hr) aB aB;have hb:=Cg hC hi (k:=4+(bE t i:Int)+1) aB aB;exact W7 aB aB aB aB (N3 hC hr) aB aB;obtain⟨i,r,hi,hr,hx⟩:=rt_mem.1 hx;unfold qy at hx;simp only[zQB,eE,or_false]at hx;rcases hx with rfl|rfl|rfl|rfl;have hb:=Xg (t:=t) hi (k:=0) aB aB;exact uX hb.1 hb.2 (n_keep hC hr) aB aB;have hb:=Xg (t:=t) hi (k:=1) aB aB;exact uX hb.1 hb.2 (n_use hC hr) aB aB;have hb:=Xg (t:=t) hi (k:=2) aB aB;exact uX hb.1 hb.2 (n_hold hC hr) aB aB;have hb:=Xg (t:=t) hi (k:=3) aB aB;exact uX hb.1 hb.2 (n_act hC hr) aB aB;obtain⟨i,r,hi,hr,hx⟩:=rt_mem.1 hx;unfold pZ at hx;simp only[zQN,zQB,eE,or_false]at hx;rcases hx with hx|rfl|rfl|rfl;obtain⟨j,hj,rfl⟩:=rel_mem.1 hx;have hb:=Cg hC hi (k:=4+((bE t i-1-j:Nat):Int)) aB aB;exact uX hb.1 hb.2 (n_relX hC hr aB) aB aB;have hb:=Cg hC hi (k:=1) aB aB;exact uX hb.1 hb.2 (Xw hC hr) aB aB;have hb:=Cg hC hi (k:=2) aB aB;exact uX hb.1 hb.2 (zW hC hi aB aB) aB aB;have hb:=Cg hC hi (k:=3) aB aB;exact uX hb.1 hb.2 (zW hC hi aB aB) aB aB;obtain⟨i,r,hi,hr,hx⟩:=rt_mem.1 hx;unfold tA at hx;simp only[zQB,eE,or_false]at hx;subst hx;have hb:=Xg (t:=t) hi (k:=4) aB aB;exact uX hb.1 hb.2 (qKO hC ht hr) aB aB;obtain⟨i,r,hi,hr,hx⟩:=pt_mem.1 hx;unfold Dk at hx;simp only[zQB,eE,or_false]at hx;subst hx;exact uX aB aB (n_lies hC hr) aB aB;rw[show sE t=(List.range t.Ab.length).flatMap (Qa t)from rfl,zal112q]at hx;obtain⟨i,hi,hx⟩:=hx;have hi:=zal120q.1 hi;unfold Qa at hx;simp only[zQB,eE,or_false]at hx;subst hx;have hb:=Cg hC hi (k:=0) aB aB;exact uX hb.1 hb.2 (oN (dN (zW hC hi aB aB) (gX (zW hC hi aB aB))) aB) aB aB
theorem rungB_ok{n:Int}{x:Ay}(h:eh n inp x=true):valB n x.expr=true:=by unfold eh at h;simp only[pQ]at h;exact h.2.2
theorem W5(hC:COk t)(ht:WfB t):∀x∈qC t,qBL x.expr/\Qp x.expr<=12:=by intro x hx;refine⟨?_,by have:=of_decide_eq_true (rungB_ok (En hC ht x hx));have:=this.2.1;omega⟩;unfold qC at hx;simp only[zQN]at hx;rcases hx with((((hx|hx)|hx)|hx)|hx)|hx;obtain⟨i,r,hi,hr,hx⟩:=rt_mem.1 hx;unfold rN at hx;simp only[zQB,eE,or_false]at hx;rcases hx with rfl|rfl;exact(N4 hC hr).2.2.2;exact(N3 hC hr).2.2.2;obtain⟨i,r,hi,hr,hx⟩:=rt_mem.1 hx;unfold qy at hx;simp only[zQB,eE,or_false]at hx;rcases hx with rfl|rfl|rfl|rfl;exact(n_keep hC hr).2.2.2;exact(n_use hC hr).2.2.2;exact(n_hold hC hr).2.2.2;exact(n_act hC hr).2.2.2;obtain⟨i,r,hi,hr,hx⟩:=rt_mem.1 hx;unfold pZ at hx;simp only[zQN,zQB,eE,or_false]at hx;rcases hx with hx|rfl|rfl|rfl;obtain⟨j,hj,rfl⟩:=rel_mem.1 hx;exact(n_relX hC hr aB).2.2.2;exact(Xw hC hr).2.2.2;exact(zW hC hi aB aB).2.2.2;exact(zW hC hi aB aB).2.2.2;obtain⟨i,r,hi,hr,hx⟩:=rt_mem.1 hx;unfold tA at hx;simp only[zQB,eE,or_false]at hx;subst hx;exact(qKO hC ht hr).2.2.2;obtain⟨i,r,hi,hr,hx⟩:=pt_mem.1 hx;unfold Dk at hx;simp only[zQB,eE,or_false]at hx;subst hx;exact(n_lies hC hr).2.2.2;rw[show sE t=(List.range t.Ab.length).flatMap (Qa t)from rfl,zal112q]at hx;obtain⟨i,hi,hx⟩:=hx;have hi:=zal120q.1 hi;unfold Qa at hx;simp only[zQB,eE,or_false]at hx;subst hx;exact(oN (dN (zW hC hi (k:=0) aB aB) (gX (zW hC hi (k:=4) aB aB))) aB).2.2.2
theorem qAW(hC:COk t):∀n,n<=t.Ab.length->qD t+t.Af.length+3*n+((List.range n).flatMap (rt t (pZ t))).length=bF t n
 |0,_=>by rw[v7];simp
 |n+1,h=>by
  have hr:=iG (show n<t.Ab.length by omega);have h1:=qAW hC n aB;have hsec:=hC.secs (fV (show n<t.Ab.length by omega));have hln:bE t n=t.Ab[n].Aa.length-1:=uA
  have hw:Wh t.Ab[n]=5+t.Ab[n].Aa.length:=rfl;rw[nO,xK,ca hr,xa hr,Iu];omega
theorem Xa{α:Type}{f:Nat->Aj->List α}{c:Nat}(hf:∀i r,t.Ab[i]?=some r->(f i r).length=c):∀n,n<=t.Ab.length->((List.range n).flatMap (rt t f)).length=c*n
 |0,_=>aN
 |n+1,h=>by
  have hr:=iG (show n<t.Ab.length by omega);rw[nO,xK,Xa hf n aB,xa hr,hf n _ hr,Bh,Bg]
theorem pt_len{α:Type}{f:Nat->Int->List α}{c:Nat}(hf:∀i r,t.Af[i]?=some r->(f i r).length=c):∀n,n<=t.Af.length->((List.range n).flatMap (pt t f)).length=c*n
 |0,_=>aN
 |n+1,h=>by
  have hr:=iG (show n<t.Af.length by omega);rw[nO,xK,pt_len hf n aB,qSD hr,hf n _ hr,Bh,Bg]
theorem qUU:(qO t).length=2*t.Ab.length:=Xa (f:=rN t) (c:=2) (λ_ _ _=>rfl) _ (oA _)
theorem y6(hC:COk t):(qC t).length=gQ t-qD t:=by have h1:=qUU (t:=t);have h2:(uY t).length=4*t.Ab.length:=Xa (f:=qy t) (c:=4) (λ_ _ _=>rfl) _ (oA _);have h3:=qAW hC t.Ab.length (oA _);have h4:(vW t).length=1*t.Ab.length:=Xa (f:=tA t) (c:=1) (λ_ _ _=>rfl) _ (oA _);have h5:(zD t).length=1*t.Af.length:=pt_len (f:=Dk t) (c:=1) (λ_ _ _=>rfl) _ (oA _);have h6:(sE t).length=1*t.Ab.length:=eJ (f:=Qa t) (c:=1) (λ_=>rfl) _;have ha:=qAO t;have he:nZ t=bF t t.Ab.length:=rfl;unfold qC;simp only[xK];unfold rV;omega
theorem qCT{j:Nat}:∀n,bF t 0<=j->j<bF t n->∃i,i<n/\bF t i<=j/\j<bF t (i+1)
 |0,h0,h1=>aB
 |n+1,h0,h1=>by
  by_cases h:j<bF t n;obtain⟨i,hi,h2⟩:=qCT n h0 h;exact⟨i,aB,h2⟩;exact⟨n,aB,aB,h1⟩
theorem qNV(hC:COk t)(h0:qD t<=j)(h1:j<gQ t):(j:Int)∈(qC t).map (·.var):=by have ha:=qAO t;rw[zal115q];unfold qC;by_cases hp:j<qD t+t.Af.length;have hr:=iG (show j-qD t<t.Af.length by omega);refine⟨⟨1,(qD t:Int)+((j-qD t:Nat):Int),0,Kv t (j-qD t) (t.Af[j-qD t]' aB)⟩,?_,by show(qD t:Int)+((j-qD t:Nat):Int)=(j:Int);omega⟩;simp only[zQN];exact .inl (.inr (pt_mem.2 ⟨j-qD t,_,aB,hr,by simp[Dk]⟩));by_cases hx:j<nZ t;obtain⟨i,hi,hb1,hb2⟩:=qCT (t:=t) (j:=j) t.Ab.length (by rw[v7];omega) hx;have hr:=iG hi;have hsec:=hC.secs (fV hi);have hln:bE t i=t.Ab[i].Aa.length-1:=uA;have hw:Wh t.Ab[i]=5+t.Ab[i].Aa.length:=rfl;rw[ca hr]at hb2;generalize t.Ab[i]=r at hr hsec hln hw hb2;by_cases o0:j=bF t i;refine⟨⟨1,(bF t i:Int)+0,0,_⟩,vI _ (zal112q.2 ⟨i,zal120q.2 hi,zal121q.2 rfl⟩),by show(bF t i:Int)+0=(j:Int);omega⟩;by_cases o3:j<bF t i+4;have h3:∀x∈pZ t i r,x∈((((qO t++uY t)++rV t)++vW t)++zD t)++sE t:=λx hx=>(by simp only[zQN];exact .inl (.inl (.inl (.inr (rt_mem.2 ⟨i,r,hi,hr,hx⟩)))));rcases (by omega:j=bF t i+1\/j=bF t i+2\/j=bF t i+3)with h|h|h;exact⟨⟨1,(bF t i:Int)+1,0,uP t i r⟩,h3 _ Mf,by show(bF t i:Int)+1=(j:Int);omega⟩;exact⟨⟨1,(bF t i:Int)+2,0,Ih t i 1⟩,h3 _ Mf,by show(bF t i:Int)+2=(j:Int);omega⟩;exact⟨⟨1,(bF t i:Int)+3,0,Ih t i 2⟩,h3 _ Mf,by show(bF t i:Int)+3=(j:Int);omega⟩;by_cases o4:j<bF t i+4+bE t i;obtain⟨k,hk⟩:∃k:Nat,k=bE t i-1-(j-bF t i-4):=⟨_,rfl⟩;refine⟨⟨1,(bF t i:Int)+(4+((bE t i-1-k:Nat):Int)),0,Qc t i r (bE t i-1-k)⟩,?_,?_⟩;simp only[zQN];exact .inl (.inl (.inl (.inr (rt_mem.2 ⟨i,r,hi,hr,by unfold pZ;exact kI _ (rel_mem.2 ⟨k,aB,rfl⟩)⟩))));show(bF t i:Int)+(4+((bE t i-1-k:Nat):Int))=(j:Int);omega;have h1:∀x∈rN t i r,x∈((((qO t++uY t)++rV t)++vW t)++zD t)++sE t:=λx hx=>(by simp only[zQN];exact .inl (.inl (.inl (.inl (.inl (rt_mem.2 ⟨i,r,hi,hr,hx⟩))))));rcases (by omega:j=bF t i+4+bE t i\/j=bF t i+4+bE t i+1)with h|h;exact⟨_,h1 _ (jI),by show(bF t i:Int)+(4+(bE t i:Int))=(j:Int);omega⟩;exact⟨_,h1 _ (pP _ jI),by show(bF t i:Int)+(4+(bE t i:Int))+1=(j:Int);omega⟩;obtain⟨i,hi⟩:∃i,i=(j-nZ t)/5:=⟨_,rfl⟩;have hil:i<t.Ab.length:=aB;have hr:=iG hil;have h2:∀x∈qy t i t.Ab[i],x∈((((qO t++uY t)++rV t)++vW t)++zD t)++sE t:=λx hx=>(by simp only[zQN];exact .inl (.inl (.inl (.inl (.inr (rt_mem.2 ⟨i,_,hil,hr,hx⟩))))));have h4:∀x∈tA t i t.Ab[i],x∈((((qO t++uY t)++rV t)++vW t)++zD t)++sE t:=λx hx=>(by simp only[zQN];exact .inl (.inl (.inr (rt_mem.2 ⟨i,_,hil,hr,hx⟩))));have hav:fT t i=(nZ t:Int)+5*(i:Int):=rfl;rcases (by omega:j=nZ t+5*i\/j=nZ t+5*i+1\/j=nZ t+5*i+2\/j=nZ t+5*i+3\/j=nZ t+5*i+4)with h|h|h|h|h;exact⟨⟨1,fT t i+0,0,Fs t i t.Ab[i]⟩,h2 _ yb,by show fT t i+0=(j:Int);omega⟩;exact⟨⟨1,fT t i+1,0,Ws t i t.Ab[i]⟩,h2 _ yb,by show fT t i+1=(j:Int);omega⟩;exact⟨⟨1,fT t i+2,0,Fw t i t.Ab[i]⟩,h2 _ yb,by show fT t i+2=(j:Int);omega⟩;exact⟨⟨1,fT t i+3,0,Zh t i t.Ab[i]⟩,h2 _ yb,by show fT t i+3=(j:Int);omega⟩;exact⟨⟨1,fT t i+4,0,cv t i t.Ab[i]⟩,h4 _ (by simp[tA]),by show fT t i+4=(j:Int);omega⟩
theorem Wn(hC:COk t):((qC t).map (·.var)).Nodup:=by have hin:=xT t;obtain⟨L,hL⟩:∃L:List Int,L=(List.range (gQ t-qD t)).map λk=>((qD t+k:Nat):Int):=⟨_,rfl⟩;have hn:L.Nodup:=(by rw[hL,qI];intro a c hac hc he;rw[yt,xx]at hc;rw[vV,vV,ew aB,ew aB]at he;simp only[jB,jA]at he;omega);have hs:L⊆(qC t).map (·.var):=(by intro x hx;rw[hL]at hx;obtain⟨k,hk,rfl⟩:=zal115q.1 hx;rw[zal120q]at hk;exact qNV hC aB aB);exact Fe _ L hn hs (by rw[yt,y6 hC,hL,yt,xx];exact oA _)
theorem prg_ok(hC:COk t)(ht:WfB t)(ha:gQ t<=2000):POk (qz t):=⟨by show(qC t).length<=_;rw[y6 hC];omega,by show(rW t).length<=_;rw[va hC];omega,λx hx=>(W5 hC ht x hx).1⟩
theorem qBC(hC:COk t)(ht:WfB t)(ha:gQ t<=2000):bz (qz t)=0:=by have hin:=xT t;unfold bz;dsimp only;rw[va hC,mF,mF,if_neg ?_,if_pos (Wn hC)];rw[zQT.2 (En hC ht)];simp
theorem qOG(hC:COk t)(ht:WfB t)(ha:gQ t<=2000):fi (qz t)=⟨List.replicate (gQ t) false,List.replicate (gQ t-qD t) 0,false⟩:=by unfold fi;rw[if_pos (qBC hC ht ha),va hC,y6 hC]
theorem Wm{C:List Int}{h:Bool}(j:Nat):vb ⟨List.replicate n false,C,h⟩ j=false:=by unfold vb;rw[fx,bc];split<;>rfl
variable {t:Ah}{b:List Ay}{i:Nat}
theorem qWA(n:Nat)(f:Nat->β)(pre:List β){o:ρ}(hn:n<=9223372036854775807)(hF:∀(i:Nat)(B:List β),i<n->B.length=pre.length+i->F ((i:Int),B)=some (.inl ((i:Int)+1,B++[f i])))(he:F ((n:Int),pre++(List.range n).map f)=some (.inr o)):bK F (0,pre)=some o:=by refine iM n (λi=>pre++(List.range i).map f) aN hn (λi hi=>?_) he;rw[hF i _ hi aN,Ko,nT]
variable {t:Ah}{b:List Ay}{i:Nat}
def qEK:BA:=⟨#[114,101,108]⟩
variable {t:Ah}{b:List Ay}{i:Nat}
end Go.Proofs.YtandcfplaooadaaGreatDoor
set_option linter.unusedVariables false
set_option linter.unusedSimpArgs false
set_option linter.unusedSectionVars false
set_option maxHeartbeats 1000000
set_option maxRecDepth 100000
namespace Go.Proofs.YtandcfplaooadaaGreatDoor
open Go Go.TL
variable {t:Ah}{ρ:Nat}
end Go.Proofs.YtandcfplaooadaaGreatDoor
namespace Go.TL
open Go.ChangeShapes Go.WideShapes Go.RowKit Go.Deep Go.ChangeAt
mutual
def D.bulk:D->Nat
  |.str s=>s.size+1
  |.agg cs=>D.bulks cs+1
  |.sl _ es=>D.bulks es+1
  |_=>1
def D.bulks:List D->Nat
  |[]=>0
  |d::r=>d.bulk+D.bulks r
end
mutual
def qMV{H:Type}:DataW H->Nat
  |.lit (.string bytes)=>bytes.length+1
  |.lit _=>1
  |.nil=>1
  |.ptr d=>qMV d+1
  |.slice elems spare=>qHV elems+qHV spare+1
  |.agg parts=>qHV parts+1
  |.iface _ d=>qMV d+1
  |.map entries=>bulkWe entries+1
  |.held _=>1
def qHV{H:Type}:List (DataW H)->Nat
  |[]=>0
  |d::r=>qMV d+qHV r
def bulkWe{H:Type}:List (Lit×DataW H)->Nat
  |[]=>0
  |x::r=>bulkWx x+bulkWe r
def bulkWx{H:Type}:Lit×DataW H->Nat
  |(.string bytes,d)=>bytes.length+qMV d+1
  |(_,d)=>qMV d+1
end
variable {P:Program}{H:Type}{enc:TypeId×Value->H}{w:World}{base:Nat}{spare:Nat->Bool}{held:Bool}
end Go.TL
set_option linter.unusedVariables false
set_option linter.unusedSimpArgs false
set_option maxHeartbeats 400000
set_option maxRecDepth 100000
namespace Go.Proofs.YtandcfplaooadaaGreatDoor
open Go Go.TL
mutual
theorem sz_bulk:∀e:Ad,yX e<=e.A0.bulk
 |⟨a,b,c⟩=>by
  have:=qIQ c;simp only[yX,Ad.A0,D.bulk,D.bulks];omega
theorem qIQ:∀l:List Ad,yN l<=D.bulks (Ad.Pi l)
 |[]=>by simp[yN]
 |e::r=>by
  have:=sz_bulk e;have:=qIQ r;simp only[yN,Ad.Pi,D.bulks];omega
end
mutual
theorem dp_sz:∀e:Ad,Qp e<=yX e
 |⟨a,b,c⟩=>by
  have:=dps_sz c;simp only[yX,Qp];omega
theorem dps_sz:∀l:List Ad,qMD l<=yN l
 |[]=>by simp[yN,qMD]
 |e::r=>by
  have:=dp_sz e;have:=dps_sz r;simp only[yN,qMD];omega
end
theorem sz_pos(e:Ad):1<=yX e:=Q4
end Go.Proofs.YtandcfplaooadaaGreatDoor
