/- A part of the proof. No condition. -/
import Derived.Test.YtldaknhjmhlefaaGreatDoorQe
set_option linter.unusedSimpArgs false
set_option linter.unusedVariables false

set_option linter.unusedSimpArgs false
set_option linter.unusedVariables false
namespace Go.Proofs.YtldaknhjmhlefaaGreatDoor
open Go Go.TL
theorem asc_lt{D:List Ad}(h:Asc D){i j:Nat}(hi:i<D.length)(hj:j<D.length):y1 D[i] D[j]=true↔i<j:=by
  rw[Asc,List.pairwise_iff_getElem]at h;constructor;intro hl;rcases Nat.lt_trichotomy i j with h1|h1|h1
  exact h1;subst h1;rw[zF]at hl;cases hl;exact(Lh hl (h j i hj hi h1)).elim;exact λhl=>h i j hi hj hl
def qt(out:List Ad)(e:Ad):Bool:=out.isEmpty||(out.getLast?).any λl=>y1 l e
def mA(A out:List Ad):Nat->Int
  |0=>-1
  |i+1=>match A[i]? with
    |none=>mA A out i
    |some e=>if qt out e=true/\(mA A out i<0\/(A[(mA A out i).toNat]?).any (λb=>y1 e b)=true)then(i:Int)else mA A out i
theorem Ev(A out:List Ad):∀i,i<=A.length->(mA A out i=-1/\∀j,j<i->(A[j]?).any (qt out)=false)\/
    ∃b:Nat,mA A out i=(b:Int)/\b<i/\∃e,A[b]?=some e/\qt out e=true/\∀j e',j<i->A[j]?=some e'->qt out e'=true->y1 e' e=false
  |0,_=>.inl ⟨rfl,λj hj=>absurd hj (mQ j)⟩
  |i+1,hi=>by
    have he:A[i]?=some A[i]:=by simp
    have ih:=Ev A out i (by omega);unfold mA;rw[he];simp only;by_cases hc:qt out A[i]=true;rcases ih with⟨h1,h2⟩|⟨b,h1,h2,e,h3,h4,h5⟩
    · rw [if_pos ⟨hc, .inl (by omega)⟩]
      refine .inr ⟨i,rfl,by omega,A[i],he,hc,λj e' hj hj' hc'=>?_⟩;rcases gM j i with h|h
      have:=h2 j h;rw[hj']at this;simp[hc']at this;have : j = i := by omega
      subst this;rw[he]at hj';cases hj';exact zF _
    rw[h1];have e1:A[((b:Int)).toNat]?=some e:=by simpa using h3
    rw[e1];by_cases hl:y1 A[i] e=true;rw [if_pos ⟨hc, .inr (by simpa using hl)⟩];refine .inr ⟨i,rfl,by omega,A[i],he,hc,λj e' hj hj' hc'=>?_⟩;rcases gM j i with h|h
    cases h6:y1 e' A[i]with
    |false=>rfl
    |true=>have h7:=h5 j e' h hj' hc';rw[Ef h6 hl]at h7;cases h7
    have : j = i := by omega
    subst this;rw[he]at hj';cases hj';exact zF _
    rw [if_neg (by rintro ⟨_, h | h⟩; · omega
                   · exact hl (by simpa using h))]
    refine .inr ⟨b,rfl,by omega,e,h3,h4,λj e' hj hj' hc'=>?_⟩;rcases gM j i with h|h
    exact h5 j e' h hj' hc';have : j = i := by omega
    subst this;rw[he]at hj';cases hj';simpa using hl;rw [if_neg (fun h => hc h.1)];rcases ih with⟨h1,h2⟩|⟨b,h1,h2,e,h3,h4,h5⟩
    refine .inl ⟨h1, fun j hj => ?_⟩;rcases gM j i with h|h
    exact h2 j h;have : j = i := by omega
    subst this;rw[he];simpa using hc;refine .inr ⟨b, h1, by omega, e, h3, h4, fun j e' hj hj' hc' => ?_⟩;rcases gM j i with h|h
    exact h5 j e' h hj' hc';have : j = i := by omega
    subst this;rw[he]at hj';cases hj';exact absurd hc' hc
theorem qAE(A:List Ad){k:Nat}(hk:k<=(fM A).length):
    (k=(fM A).length->mA A ((fM A).take k) A.length=-1)/\
    ∀hlt:k<(fM A).length,∃b:Nat,mA A ((fM A).take k) A.length=(b:Int)/\A[b]?=some (fM A)[k]:=by
  have hasc:=Je A
  have hcand:∀j (hj:j<(fM A).length),qt ((fM A).take k) (fM A)[j]=decide (k<=j):=by
    intro j hj;unfold qt;by_cases h0:k=0;subst h0;simp
    have hl:((fM A).take k).getLast?=some (fM A)[k-1]:=by
      rw[List.getLast?_eq_getElem?,kO,Nat.min_eq_left hk,List.getElem?_take_of_lt (by omega),gN (by omega)]
    have he:((fM A).take k).isEmpty=false:=by
      cases h:(fM A).take k with
      |nil=>rw[h]at hl;cases hl
      |cons=>rfl
    rw[hl,he,nF];simp only[Bool.false_or,xe,asc_lt hasc (show k-1<_ by omega) hj,decide_eq_true_eq];omega
  have hin:∀(j:Nat)(e:Ad),A[j]?=some e->∃i,∃hi:i<(fM A).length,e=(fM A)[i]:=by
    intro j e he;obtain⟨i,hi,h⟩:=zal95q.1 (ascS_mem.2 (lG he));exact⟨i,hi,h.symm⟩
  rcases Ev A ((fM A).take k) A.length (Ks _)with⟨h1,h2⟩|⟨b,h1,h2,e,h3,h4,h5⟩
  refine ⟨fun _ => h1, fun hlt => ?_⟩;obtain⟨j,hj,h⟩:=zal95q.1 (ascS_mem.1 (fH hlt));have:=h2 j hj;rw[gN hj,h,xe,hcand k hlt]at this;simp at this;obtain⟨i,hi,rfl⟩:=hin b e h3;rw[hcand i hi]at h4;have h4':=of_decide_eq_true h4;refine⟨λh=>by omega,λhlt=>⟨b,h1,?_⟩⟩;obtain⟨j,hj,h⟩:=zal95q.1 (ascS_mem.1 (fH hlt));have h6:=h5 j (fM A)[k] hj (by rw[gN hj,h]) (by rw[hcand k hlt];simp);have h7:¬k<i:=λhc=>by rw[(asc_lt hasc hlt hi).2 hc]at h6;cases h6
  have:i=k:=by omega
  subst this;exact h3
theorem Zs(x y:Ad):lE x y=some (y1 x y):=rfl
theorem Zd(A out : List Ad)(hA : A.length <= 6000000)(ho : out.length <= 6000000) : bB (fun (found11, x12) =>
        if x12 < (A.length : Int) then
          bC A x12 λe15=>
          aD (
            if (out.length : Int) = (0 : Int) then
              if found11<(0:Int)then
                some true
              else
                bC A found11 λe27=>
                aD (lE e15 e27) λr28=>
                some r28
            else
              aE (bH ((out.length:Int)-(1:Int))) <|
              bC out ((out.length:Int)-(1:Int)) λe20=>
              aD (lE e20 e15) λr21=>
              if r21=true then
                if found11<(0:Int)then
                  some true
                else
                  bC A found11 λe24=>
                  aD (lE e15 e24) λr25=>
                  some r25
              else
                some false) λx16=>
          if x16=true then
            aE (bH (x12+(1:Int))) <|
            some (.inl (x12,(x12+(1:Int))))
          else
            aE (bH (x12+(1:Int))) <|
            some (.inl (found11,(x12+(1:Int))))
        else
          aT (
            some found11)) ((-1:Int),(0:Int))=some (mA A out A.length):=by
  refine oG (λi=>(mA A out i,(i:Int))) A.length rfl (by omega) (λi hi=>?_) (by dsimp only;rw[if_neg (by omega)];rfl);dsimp only;have he:A[i]?=some A[i]:=by simp
  have hstep:mA A out (i+1)=if qt out A[i]=true/\(mA A out i<0\/(A[(mA A out i).toNat]?).any (λb=>y1 A[i] b)=true)then(i:Int)else mA A out i:=by rw[mA,he]
  have hinner:∀f:Int,f=mA A out i->(if f<(0:Int)then some true else bC A f λe27=>aD (lE A[i] e27) λr28=>some r28)=some (decide (mA A out i<0\/(A[(mA A out i).toNat]?).any (λb=>y1 A[i] b)=true)):=by
    rintro f rfl;rcases Ev A out i (by omega)with⟨h1,_⟩|⟨b,h1,h2,e,h3,_,_⟩
    rw[h1];simp;rw [h1, if_neg (by omega), aJ h3, Zs, aA];have h3':A[((b:Int)).toNat]?=some e:=by simpa using h3
    rw[h3']
    congr 1
    rw[nF,decide_eq_true_eq];simp only[xe];constructor;exact .inr;rintro(h|h)
    · omega
    exact h
  have hcond:(if(out.length:Int)=(0:Int)then
              (if mA A out i<(0:Int)then some true else bC A (mA A out i) λe27=>aD (lE A[i] e27) λr28=>some r28)
            else
              aE (bH ((out.length:Int)-(1:Int))) <|
              bC out ((out.length:Int)-(1:Int)) λe20=>
              aD (lE e20 A[i]) λr21=>
              if r21=true then(if mA A out i<(0:Int)then some true else bC A (mA A out i) λe24=>aD (lE A[i] e24) λr25=>some r25)
              else some false)=some (decide (qt out A[i]=true/\(mA A out i<0\/(A[(mA A out i).toNat]?).any (λb=>y1 A[i] b)=true))):=by
    rw[hinner _ rfl];by_cases h0:out=[];subst h0;simp[qt];have hl:0<out.length:=zal77q.2 h0;have h1:out[out.length-1]?=some (out[out.length-1]):=by rw[gN]
    have e2:((out.length:Int)-1)=((out.length-1:Nat):Int):=by omega
    rw[if_neg (by omega),aB (by unfold bH;omega),e2,aJ h1,Zs,aA]
    have hcb:qt out A[i]=y1 out[out.length-1] A[i]:=by
      unfold qt;rw[List.getLast?_eq_getElem?,h1,xe]
      cases out with
      |nil=>exact absurd rfl h0
      |cons=>rfl
    rw[hcb];cases y1 out[out.length-1] A[i]<;>simp
  rw[if_pos (by omega),aJ he,hcond,aA,hstep];split;rename_i h;rw[if_pos (of_decide_eq_true h),aB (bG (n:=A.length) hi (by omega))];rfl;rename_i h;rw[if_neg (λh'=>h (decide_eq_true h')),aB (bG (n:=A.length) hi (by omega))];rfl
theorem sC(r:Ak)(h:Short r):kF r=some (fM (dI r)):=by
  have hlen:(dI r).length<=6000000:=by have:=h.Ag;have:=h.over;have:=h.Ax;simp[dI];omega
  have hl1:(r.Ag++r.An).length<=6000000:=by have:=h.Ag;have:=h.over;simp;omega
  have hl2:r.Ag.length<=6000000:=by have:=h.Ag;omega
  unfold kF;simp only[gE];rw[aB (by omega),aB (by omega),aB (show(dI r).length<=1000000000 by omega)];have hDl:=nR (dI r);refine oG (λk=>(fM (dI r)).take k) (fM (dI r)).length (by simp) (by omega) (λk hk=>?_) ?_;rw [Zd (dI r) _ hlen (by rw [kO]; omega), aA];obtain⟨b,h1,h2⟩:=(qAE (dI r) (Nat.le_of_lt hk)).2 hk;rw[h1,if_neg (by omega),aJ h2,aB (by rw[kU,kO];simp only[jF,jO];omega),mF,gN hk];rfl;rw [Zd (dI r) _ hlen (by rw [kO]; omega), aA, (qAE (dI r) (Ks _)).1 rfl, oD];rfl
theorem pR{t:Al}(h:iK t=0):Fw t=true/\vH t=true/\(∀r∈t.Ac,qI t r=true/\tQ t r=true)/\(∀r∈t.Ac,sI r=true)/\wg t.Ac=true:=by
 unfold iK at h;split at h;cases h;split at h;cases h;split at h;cases h;split at h;cases h;split at h;cases h;rename_i h1 h2 h3 h4 h5;simp only[Bool.not_eq_false]at h1 h2 h3 h4 h5;rw[zQT]at h3 h4;exact⟨h1,h2,λr hr=>by have:=h3 r hr;rwa [wP]at this,h4,h5⟩
def SOk(t:Al):Prop:=∀r∈t.Ac,∀s∈dI r,Ad.ok s
end Go.Proofs.YtldaknhjmhlefaaGreatDoor
set_option linter.unusedVariables false
set_option linter.unusedSimpArgs false
set_option maxHeartbeats 400000
set_option maxRecDepth 100000
namespace Go.Proofs.YtldaknhjmhlefaaGreatDoor
open Go Go.TL
def xC(r:Ak):Nat:=r.path.length+r.Aa.length+r.Ae.length+r.Ag.length+r.An.length+r.Ax.length
def zn(t:Al):Bool:=t.Ac.all (λr=>decide (xC r<=200))&&decide (t.Ac.length<=100/\t.Ag.length<=100)
theorem xk{t:Al}(h:zn t=true):TOk t/\t.Ac.length<=100/\t.Ag.length<=100/\∀r∈t.Ac,xC r<=200:=by
 unfold zn at h;simp only[wP,decide_eq_true_eq,zQT]at h;obtain⟨h1,h2⟩:=h;refine⟨⟨by omega,by omega,λr hr=>?_⟩,h2.1,h2.2,h1⟩;have:=h1 r hr;unfold xC at this;exact⟨by omega,by omega,by omega,by omega⟩
structure WfB (t:Al):Prop where
 sok:SOk t
 pts:∀x∈t.Ag,bH x
theorem eY{β:Type}{f:Nat->List β}{c:Nat}(h:∀i,(f i).length=c)(n:Nat):((List.range n).flatMap f).length=c*n:=by
 induction n with
 |zero=>simp
 |succ n ih=>rw[qY,yA,kU,ih];simp[h,Nat.mul_add]
theorem eI{β ρ:Type}(f:Nat->List β)(pre:List β)(n:Nat){F:Int×List β->Option ((Int×List β) ⊕ ρ)}{o:ρ}(hn:n<=9223372036854775807)(hF:∀i,i<n->F ((i:Int),pre++(List.range i).flatMap f)=some (.inl ((i:Int)+1,(pre++(List.range i).flatMap f)++f i)))
  (he:F ((n:Int),pre++(List.range n).flatMap f)=some (.inr o)):bB F (0,pre)=some o:=by
 refine oG (λi=>((i:Int),pre++(List.range i).flatMap f)) n (by simp) hn (λi hi=>?_) he;rw[hF i hi,qY,yA,lM];simp
def knB(l:List Bool)(i:Nat)(v:Bool):Bool:=decide (l[i]?=some v)
def knI(l:List Int)(i:Nat)(v:Int):Bool:=decide (l[i]?=some v)
def inS(p:A8)(i:Nat):List Bool:=[knB p.occupied i false,knB p.closed i false]
def inP(p:A8)(i:Nat):List Bool:=[knI p.detected i 1,knI p.detected i 2]
def inR(p:A8)(i:Nat):List Bool:=[knB p.claimed i false,knB p.passed i true,decide ((i:Int)∈p.calls),decide ((i:Int)∈p.cancels)]
def Zx(t:Al)(p:A8):List Bool:=(List.range t.Aa.toNat).flatMap (inS p)++(List.range t.Ag.length).flatMap (inP p)++(List.range t.Ac.length).flatMap (inR p)
theorem stepB(l:List Bool)(b:List Bool)(i:Nat)(hb:b.length+1<=1000000000){ρ:Type}(k:List Bool->Option ρ):aD (
      if(i:Int)<(l.length:Int)then
       bC l (i:Int) λe16=>
       aE ((b++([!(e16)]:List Bool)).length<=1000000000) <|
       some (b++([!(e16)]:List Bool))
      else
       aE ((b++([false]:List Bool)).length<=1000000000) <|
       some (b++([false]:List Bool))) k=k (b++[knB l i false]):=by
 unfold knB;by_cases h:i<l.length;rw [if_pos (by omega), aJ (gN h), aB (by simp; omega), aA, gN h];cases l[i]<;>simp;rw[if_neg (by omega),aB (by simp;omega),aA,lB (by omega)];simp
theorem stepT(l:List Bool)(b:List Bool)(i:Nat)(hb:b.length+1<=1000000000){ρ:Type}(k:List Bool->Option ρ):aD (
      if(i:Int)<(l.length:Int)then
       bC l (i:Int) λe16=>
       aE ((b++([e16]:List Bool)).length<=1000000000) <|
       some (b++([e16]:List Bool))
      else
       aE ((b++([false]:List Bool)).length<=1000000000) <|
       some (b++([false]:List Bool))) k=k (b++[knB l i true]):=by
 unfold knB;by_cases h:i<l.length;rw [if_pos (by omega), aJ (gN h), aB (by simp; omega), aA, gN h];cases l[i]<;>simp;rw[if_neg (by omega),aB (by simp;omega),aA,lB (by omega)];simp
theorem stepI(l:List Int)(v:Int)(b:List Bool)(i:Nat)(hb:b.length+1<=1000000000){ρ:Type}(k:List Bool->Option ρ):aD (
      if(i:Int)<(l.length:Int)then
       bC l (i:Int) λe38=>
       aE ((b++([decide (e38=v)]:List Bool)).length<=1000000000) <|
       some (b++([decide (e38=v)]:List Bool))
      else
       aE ((b++([false]:List Bool)).length<=1000000000) <|
       some (b++([false]:List Bool))) k=k (b++[knI l i v]):=by
 unfold knI;by_cases h:i<l.length;rw [if_pos (by omega), aJ (gN h), aB (by simp; omega), aA, gN h];simp;rw[if_neg (by omega),aB (by simp;omega),aA,lB (by omega)];simp
theorem Yr(t:Al)(p:A8)(h:TOk t)(hc:rQ p.calls)(hd:rQ p.cancels):tT t p=some (if iK t=0 then Zx t p else[]):=by
 unfold tT;rw[Bd t h,aA];by_cases hz:iK t=0;rw[if_pos hz,if_pos hz];have hlm:=of_decide_eq_true (pR hz).1;have hr:=h.Ac;have hp:=h.Ag;have hs:t.Aa=((t.Aa.toNat:Nat):Int):=by omega
 rw[eI (inS p) [] t.Aa.toNat (by omega) (λi hi=>?_) (by dsimp only;rw[if_neg (by omega)];rfl),aA];rw [eI (inP p) _ t.Ag.length (by omega) (fun i hi => ?_) (by dsimp only; rw [if_neg (by omega)]; rfl), aA]
 ·rw [eI (inR p) _ t.Ac.length (by omega) (fun i hi => ?_) (by dsimp only; rw [if_neg (by omega)]; rfl), aA]
  ·rfl
  have h1 := eY (f := inS p) (c := 2) (fun _ => rfl) t.Aa.toNat;have h2:=eY (f:=inP p) (c:=2) (λ_=>rfl) t.Ag.length;have h3:=eY (f:=inR p) (c:=4) (λ_=>rfl) i;dsimp only;rw[if_pos (by omega)];generalize hB:([]++List.flatMap (inS p) (List.range t.Aa.toNat)++List.flatMap (inP p) (List.range t.Ag.length)++List.flatMap (inR p) (List.range i))=B;have hBl:B.length<=1000:=by rw[<- hB];simp only[gE,kU,h1,h2,h3];omega
  rw[stepB _ _ _ (by omega),stepT _ _ _ (by simp;omega),Is _ _ hc,aA,aB (by simp;omega),Is _ _ hd,aA,aB (by simp;omega),aB (bG hi (by omega))];simp[inR,lM]
 have h1 := eY (f := inS p) (c := 2) (fun _ => rfl) t.Aa.toNat;have h2:=eY (f:=inP p) (c:=2) (λ_=>rfl) i;dsimp only;rw[if_pos (by omega)];generalize hB:([]++List.flatMap (inS p) (List.range t.Aa.toNat)++List.flatMap (inP p) (List.range i))=B;have hBl:B.length<=1000:=by rw[<- hB];simp only[gE,kU,h1,h2];omega
 rw[stepI _ _ _ _ (by omega)];unfold inP knI;by_cases hx:i<p.detected.length;rw [if_pos (by omega), aJ (gN hx), aB (by simp; omega), aB (bG hi (by omega)), gN hx];simp;rw [if_neg (by omega), aB (by simp; omega), aB (bG hi (by omega)), lB (by omega)];simp;have h1 := eY (f := inS p) (c := 2) (fun _ => rfl) i;dsimp only;rw[if_pos (by omega)];generalize hB:([]++List.flatMap (inS p) (List.range i))=B;have hBl:B.length<=1000:=by rw[<- hB];simp only[gE,h1];omega
 rw[stepB _ _ _ (by omega)];unfold inS;generalize knB p.occupied i false=o;unfold knB;by_cases hx:i<p.closed.length;rw [if_pos (by omega), aJ (gN hx), aB (by simp; omega), aB (bG hi (by omega)), gN hx];cases p.closed[i]<;>simp;rw [if_neg (by omega), aB (by simp; omega), aB (bG hi (by omega)), lB (by omega)];simp;rw[if_neg hz,if_neg hz]
def cE(t:Al)(el:Int):Nat:=(dU t.Ag el).getD 0
theorem one_pos{t:Al}{r:Ak}(hs:tQ t r=true)(ha:sI r=true){e e':Ad}(he:e∈dI r)(he':e'∈dI r)(hel:e.el=e'.el):e.pos=e'.pos:=by
 have inner:∀l:List Ad,iN t l=true->∀(i j:Nat),i<j->∀(x y:Ad),l[i]?=some x->l[j]?=some y->x.el<y.el:=by
  intro l hl i j
  induction j with
  |zero=>intro h;omega
  |succ j ih=>
   intro hij x y hx hy;obtain⟨hj,rfl⟩:=zQQ.1 hy;have hj':l[j]?=some l[j]:=by rw[gN]
   have h1:=allB_iff.1 hl (j+1) hj;rw[By hy (by rw[Nat.add_sub_cancel];exact hj')]at h1;have h2:=(of_decide_eq_true h1).2.2.2 (by omega);rcases gM i j with hlt|hge
   have:=ih hlt x _ hx hj';omega;have : i = j := by omega
   subst this;rw[hx]at hj';cases hj';exact h2
 have same:∀l:List Ad,iN t l=true->∀(x y:Ad),x∈l->y∈l->x.el=y.el->x.pos=y.pos:=by
  intro l hl x y hx hy hxy;obtain⟨i,hi,rfl⟩:=zal95q.1 hx;obtain⟨j,hj,rfl⟩:=zal95q.1 hy;rcases Nat.lt_trichotomy i j with h|h|h
  have:=inner l hl i j h _ _ (gN hi) (gN hj);omega;subst h;rfl;have:=inner l hl j i h _ _ (gN hj) (gN hi);omega
 have cross:∀l m:List Ad,qW l m=true->∀(x y:Ad),x∈l->y∈m->x.el=y.el->x.pos=y.pos:=by
  intro l m hl x y hx hy hxy;unfold qW at hl;rw[zQT]at hl;have:=hl x hx;rw[zQT]at this;have:=this y hy;rw[hxy]at this;simpa using this
 unfold tQ at hs;unfold sI at ha;simp only[wP]at hs ha;simp only[dI,zQN]at he he';rcases he with(he|he)|he<;>rcases he' with(he'|he')|he'
 exact same _ hs.1.1 _ _ he he' hel;exact cross _ _ ha.1.1 _ _ he he' hel;exact cross _ _ ha.1.2 _ _ he he' hel;exact(cross _ _ ha.1.1 _ _ he' he hel.symm).symm;exact same _ hs.1.2 _ _ he he' hel;exact cross _ _ ha.2 _ _ he he' hel;exact(cross _ _ ha.1.2 _ _ he' he hel.symm).symm;exact(cross _ _ ha.2 _ _ he' he hel.symm).symm;exact same _ hs.2 _ _ he he' hel
section
variable {r:Ak}{p:A8}{c q l m v:Bool}{x:Id}
end
section view
variable {t:Al}{p:A8}{r:Ak}{x:Id}{c q l m:Bool}
end view
def tE(t:Al):Nat:=2*t.Aa.toNat+2*t.Ag.length+4*t.Ac.length
def W1(r:Ak):Nat:=5+r.Aa.length
def cD(t:Al)(i:Nat):Nat:=tE t+t.Ag.length+((t.Ac.take i).map W1).sum
def rO(t:Al)(i:Nat):List Int:=(List.range i).map λi=>(cD t i:Int)
def mZ(t:Al):Nat:=cD t t.Ac.length
def uL(t:Al):Nat:=mZ t+5*t.Ac.length
structure COk (t:Al):Prop where
 ok:TOk t
 nr:t.Ac.length<=100
 np:t.Ag.length<=100
 sum:∀r∈t.Ac,xC r<=200
 chk:iK t=0
theorem COk.lim{t:Al}(h:COk t):t.Ac.length<=48/\t.Ag.length<=32/\0<=t.Aa/\t.Aa<=24/\0<=t.Au/\t.Au<=20:=of_decide_eq_true (pR h.chk).1
theorem COk.secs{t:Al}(h:COk t){r:Ak}(hr:r∈t.Ac):0<r.Aa.length/\r.Aa.length<=200:=by
 have h1:=((pR h.chk).2.2.1 r hr).1;unfold qI at h1;simp only[wP,decide_eq_true_eq]at h1;have h2:=h.sum r hr;unfold xC at h2;exact⟨h1.1.1.1.2,by omega⟩
theorem Bf(t:Al):cD t 0=tE t+t.Ag.length:=by unfold cD;simp
theorem Bg{t:Al}{i:Nat}{r:Ak}(hr:t.Ac[i]?=some r):cD t (i+1)=cD t i+W1 r:=by
 unfold cD;rw[mF,hr];simp[xB]
theorem Fg(t:Al)(i:Nat):rO t (i+1)=rO t i++[(cD t i:Int)]:=by
 unfold rO;rw[qY];simp
theorem I9(t:Al)(i:Nat):(rO t i).length=i:=by unfold rO;simp
theorem x8{t:Al}{n i:Nat}(h:i<n):(rO t n)[i]?=some (cD t i:Int):=by unfold rO;simp[h]
theorem sum_wid{l:List Ak}(h:∀r∈l,xC r<=200):(l.map W1).sum<=205*l.length:=by
 induction l with
 |nil=>simp
 |cons r l ih=>
  have h1:=h r (by simp);have h2:=ih (λr hr=>h r (by simp[hr]));simp only[nE,List.sum_cons,jF];unfold xC at h1;have h3:W1 r=5+r.Aa.length:=rfl;omega
theorem COk.base{t:Al}(h:COk t)(i:Nat):cD t i<=30000:=by
 have h1:=sum_wid (l:=t.Ac.take i) (λr hr=>h.sum r (Bw hr));have h2:(t.Ac.take i).length<=48:=by rw[kO];have:=h.lim;omega
 have h3:=h.lim;unfold cD tE;omega
abbrev noT:Al:=⟨[],[],[],0,0⟩
abbrev Kj(t:Al):Ay:=⟨t,(tE t:Int),rO t t.Ac.length,(mZ t:Int),(uL t:Int)⟩
theorem qBJ{t:Al}(h:TOk t)(hs:zn t=true):oS t=some (if iK t=0 then if 2000<uL t then(⟨noT,0,[],0,0⟩,2)else(Kj t,0)else(⟨noT,0,[],0,0⟩,iK t)):=by
 unfold oS;rw[Wa t h,aA];by_cases hz:iK t=0;obtain⟨hT,h1,h2,h3⟩:=xk hs;have hC:COk t:=⟨h,h1,h2,h3,hz⟩;rw[if_pos hz,if_pos hz];have hlm:=hC.lim;have hsn:t.Aa=((t.Aa.toNat:Nat):Int):=by omega
 have hin:((((2:Int)*t.Aa)+((2:Int)*(t.Ag.length:Int)))+((4:Int)*(t.Ac.length:Int)))=(tE t:Int):=by unfold tE;omega
 rw[aB (by unfold bH;omega),aB (by unfold bH;omega),aB (by unfold bH;omega),aB (by unfold bH;omega),aB (by unfold bH;omega),aB (by unfold bH;omega),hin];have hb:=hC.base;rw[lR (b:=(((tE t:Int)+(t.Ag.length:Int)),([]:List Int))) t.Ac.length (λi=>((cD t i:Int),rO t i)) (o:=((mZ t:Int),rO t t.Ac.length)) (by rw[Bf];simp[rO]) (by omega) (λi hi=>?_) (by dsimp only;rw[if_neg (by omega)];rfl),aA];dsimp only;have:=hb t.Ac.length;have he:mZ t=cD t t.Ac.length:=rfl;rw[aB (by unfold bH;omega),aB (by unfold bH;omega)];have ha:(mZ t:Int)+(5:Int)*(t.Ac.length:Int)=(uL t:Int):=by unfold uL;omega
 rw[ha];by_cases hl:2000<uL t;rw[if_pos (by omega),if_pos hl];rw[if_neg (by omega),if_neg hl];dsimp only;have hr:=gN hi;have hsec:=hC.secs (fH hi);have:=hb i;rw[if_pos (by omega),aB (by rw[kU,I9];simp;omega)];unfold cM;dsimp only;rw[aJ hr,aB (by unfold bH;omega),aA,aB (by unfold bH;omega),aB (by unfold bH;omega),aB (by unfold bH;omega),aB (bG hi (by omega)),Bg hr,Fg];unfold W1;rw[show((cD t i:Int)+((4:Int)+((t.Ac[i].Aa.length:Int)-1)+2))=((cD t i+(5+t.Ac[i].Aa.length):Nat):Int) by omega];rw[if_neg hz,if_neg hz]
theorem qBD{t:Al}(h:COk t):qJ t=some ⟨2*t.Aa,2*t.Aa+2*(t.Ag.length:Int),(tE t:Int),(mZ t:Int),(uL t:Int),rO t t.Ac.length⟩:=by
 unfold qJ;have hlm:=h.lim;have hin:((((2:Int)*t.Aa)+((2:Int)*(t.Ag.length:Int)))+((4:Int)*(t.Ac.length:Int)))=(tE t:Int):=by unfold tE;omega
 rw[aB (by unfold bH;omega),aB (by unfold bH;omega),aB (by unfold bH;omega),aB (by unfold bH;omega),aB (by unfold bH;omega),aB (by unfold bH;omega),hin];have hb:=h.base;rw[oG (λi=>((cD t i:Int),((i:Int),rO t i))) (o:=((mZ t:Int),rO t t.Ac.length)) t.Ac.length (by rw[Bf];simp[rO]) (by omega) (λi hi=>?_) (by dsimp only;rw[if_neg (by omega)];rfl),aA];dsimp only;have:=hb t.Ac.length;have he:mZ t=cD t t.Ac.length:=rfl;rw[aB (by unfold bH;omega),aB (by unfold bH;omega)];have ha:(mZ t:Int)+(5:Int)*(t.Ac.length:Int)=(uL t:Int):=by unfold uL;omega
 rw[ha];dsimp only;have hr:=gN hi;have hsec:=h.secs (fH hi);have:=hb i;have hm:max (0:Int) ((t.Ac[i].Aa.length:Int)-1)=(t.Ac[i].Aa.length:Int)-1:=by omega
 rw[if_pos (by omega),aB (by rw[kU,I9];simp;omega),aB (by unfold bH;omega),aJ hr,aB (by unfold bH;omega),hm,aB (by unfold bH;omega),aB (bG hi (by omega)),Bg hr,Fg];unfold W1;rw[show((cD t i:Int)+6+((t.Ac[i].Aa.length:Int)-1))=((cD t i+(5+t.Ac[i].Aa.length):Nat):Int) by omega];rfl
theorem Ip(t:Al):tE t+t.Ag.length<=mZ t/\mZ t<=uL t:=by
 unfold uL mZ cD;omega
def bA(t:Al)(i:Nat):Nat:=match t.Ac[i]? with|some r=>r.Aa.length-1|none=>0
theorem Ic{β:Type}(f:Nat->β)(i:Nat):(List.range (i+1)).map f=(List.range i).map f++[f i]:=by rw[qY];simp
abbrev vE(x:Int):Ab:=⟨3,x,[]⟩
abbrev qX(l:List Ab):Ab:=⟨6,0,l⟩
abbrev fX(l:List Ab):Ab:=⟨5,0,l⟩
abbrev fS(e:Ab):Ab:=⟨4,0,[e]⟩
abbrev Da(t:Al)(b:List Ap):At:=⟨Kj t,b⟩
def uI(t:Al)(i:Nat):Int:=2*t.Aa+2*(t.Ag.length:Int)+4*(i:Int)
def gR(t:Al)(i:Nat):Int:=(mZ t:Int)+5*(i:Int)
abbrev nM(t:Al)(i:Nat)(k:Int):Ab:=vE ((cD t i:Int)+(4+k))
abbrev gG(s:Int):Ab:=vE (2*s)
variable {t:Al}{b:List Ap}{i:Nat}
theorem w7(hC:COk t)(hi:i<t.Ac.length){k:Int}(h0:0<=k)(h1:k<=1000):dW (Kj t) (i:Int) k=some ((cD t i:Int)+k):=by
 have:=hC.base i;unfold dW;dsimp only;rw[aJ (x8 hi),aB (by unfold bH;omega)]
theorem wO(hC:COk t)(hi:i<t.Ac.length):cM (Kj t) (i:Int)=some (bA t i:Int)/\bA t i<=200:=by
 have hr:=gN hi;have hsec:=hC.secs (fH hi);have hln:bA t i=t.Ac[i].Aa.length-1:=by unfold bA;rw[hr]
 refine⟨?_,by omega⟩;unfold cM;dsimp only;rw[aJ hr,aB (by unfold bH;omega),hln,show((t.Ac[i].Aa.length:Int)-1)=((t.Ac[i].Aa.length-1:Nat):Int) by omega]
theorem uH(hC:COk t)(hi:i<t.Ac.length){k:Int}(h0:0<=k)(h1:k<=1000):cN (Da t b) (i:Int) k=some (vE ((cD t i:Int)+k)):=by
 unfold cN;dsimp only;rw[w7 hC hi h0 h1,aA];rfl
theorem Ja(hC:COk t)(hi:i<t.Ac.length){k:Int}(h0:0<=k)(h1:k<=900):dZ (Da t b) (i:Int) k=some (nM t i k):=by
 unfold dZ;dsimp only;rw[aB (by unfold bH;omega),w7 hC hi (by omega) (by omega),aA];rfl
theorem Jb(hC:COk t)(hi:i<t.Ac.length){k:Int}(h0:0<=k)(h1:k<=1000):cU (Da t b) (i:Int) k=some (vE (uI t i+k)):=by
 have hlm:=hC.lim;unfold cU kT uI;dsimp only;rw[aB (by unfold bH;omega),aB (by unfold bH;omega),aB (by unfold bH;omega),aB (by unfold bH;omega),aB (by unfold bH;omega),aB (by unfold bH;omega),aA];rfl
theorem b_sec{n:Ay}{s k:Int}(h0:0<=s)(h1:s<=1000)(hk:0<=k)(hk1:k<=10):gK n s k=some (2*s+k):=by
 unfold gK;rw[aB (by unfold bH;omega),aB (by unfold bH;omega)]
theorem zP{B:At}{s:Int}(h0:0<=s)(h1:s<=1000):cZ B s=some (gG s):=by
 unfold cZ;rw[b_sec h0 h1 (by omega) (by omega),aA,Int.add_zero];rfl
theorem wY(hC:COk t)(hi:i<t.Ac.length){k:Int}(h0:0<=k)(h1:k<=10):bQ (Kj t) (i:Int) k=some (gR t i+k):=by
 have hlm:=hC.lim;have:mZ t<=30000:=hC.base t.Ac.length;unfold bQ gR;dsimp only;rw[aB (by unfold bH;omega),aB (by unfold bH;omega),aB (by unfold bH;omega)]
theorem Yl(hC:COk t)(hi:i<t.Ac.length):gP (Kj t) (i:Int)=some ((cD t i:Int)+(4+(bA t i:Int))):=by
 have hl:=(wO hC hi).2;unfold gP;rw[(wO hC hi).1,aA,aB (by unfold bH;omega),w7 hC hi (by omega) (by omega),aA]
theorem qAF(hC:COk t)(hi:i<t.Ac.length):iC (Kj t) (i:Int)=some ((cD t i:Int)+(4+(bA t i:Int))+1):=by
 have hl:=(wO hC hi).2;have:=hC.base i;unfold iC;rw[Yl hC hi,aA,aB (by unfold bH;omega)]
theorem COk.sec_in(hC:COk t){r:Ak}(hr:r∈t.Ac){s:Int}(hs:s∈r.Aa++r.Ae):0<=s/\s<t.Aa:=by
 have h1:=((pR hC.chk).2.2.1 r hr).1;unfold qI at h1;simp only[wP]at h1;have h2:=h1.1.1.2;unfold E0 at h2;rw[allB_iff]at h2;obtain⟨j,hj⟩:=nS hs;have h3:=h2 j (zQQ.1 hj).1;rw[gx hj]at h3;unfold Fx at h3;simp only[wP,decide_eq_true_eq]at h3;exact h3.1
theorem jW{α β ρ:Type}(l:List α)(f:Nat->α->β)(pre:List β){F:Int×List β->Option ((Int×List β) ⊕ ρ)}{o:ρ}(hn:l.length<=9223372036854775807)(hF:∀(i:Nat)(e:α)(B:List β),l[i]?=some e->B.length=pre.length+i->F ((i:Int),B)=some (.inl ((i:Int)+1,B++[f i e])))
  (he:F ((l.length:Int),pre++l.mapIdx f)=some (.inr o)):bB F (0,pre)=some o:=by
 refine lR l.length (λi=>pre++(l.mapIdx f).take i) (by simp) hn (λi hi=>?_) (by rw[bc (by simp)];exact he);have hx:=gN hi;rw[hF i l[i] _ hx (by simp;omega),lM]
 congr 4
 rw[mF];simp[va,hx]
def fk(t:Al)(i:Nat)(r:Ak):Ab:=fX (r.Aa.mapIdx λx s=>if x<bA t i then qX [nM t i (x:Int),gG s]else gG s)
theorem L6(hC:COk t){r:Ak}(hr:t.Ac[i]?=some r):gD (Da t b) (i:Int)=some (fk t i r):=by
 have hi:=(zQQ.1 hr).1;have hm:=lG hr;have hlm:=hC.lim;have hsec:=hC.secs hm;have hl:=wO hC hi;unfold gD;dsimp only;rw[aJ hr,jW r.Aa (λx s=>if x<bA t i then qX [nM t i (x:Int),gG s]else gG s) [] (by omega) (λx s B hx hB=>?_) (by dsimp only;rw[if_neg (by omega)];rfl),aA];rfl;have hx':=(zQQ.1 hx).1;have hs:=hC.sec_in hm (sJ _ (lG hx));simp only[jO,fV]at hB;dsimp only;rw[if_pos (by omega),aJ hx,hl.1,aA];by_cases hlt:x<bA t i;rw[if_pos (by omega),Ja hC hi (by omega) (by omega),aA,zP hs.1 (by omega),aA,if_pos hlt,show fN ([nM t i (x:Int),gG s])=some (qX [nM t i (x:Int),gG s])from rfl,aA,aB (by simp;omega),aB (bG hx' (by omega))];rw[if_neg (by omega),zP hs.1 (by omega),aA,if_neg hlt,aB (by simp;omega),aB (bG hx' (by omega))]
def atE(t:Al)(i:Nat):Ab:=if bA t i=0 then fX []else nM t i ((bA t i:Int)-1)
theorem b_at(hC:COk t)(hi:i<t.Ac.length):iV (Da t b) (i:Int)=some (atE t i):=by
 have hl:=wO hC hi;unfold iV atE;rw[hl.1,aA];by_cases h0:bA t i=0;rw[if_pos (by omega),if_pos h0];rfl;rw[if_neg (by omega),if_neg h0,aA,aB (by unfold bH;omega),Ja hC hi (by omega) (by omega),aA]
def ff(t:Al)(i:Nat)(r:Ak):Int:=r.Aa.getD (bA t i) 0
theorem Cq(hC:COk t){r:Ak}(hr:t.Ac[i]?=some r):r.Aa[bA t i]?=some (ff t i r)/\0<=ff t i r/\ff t i r<t.Aa:=by
 have hm:=lG hr;have hsec:=hC.secs hm;have hln:bA t i=r.Aa.length-1:=by unfold bA;rw[hr]
 have h1:r.Aa[bA t i]?=some (ff t i r):=by
  unfold ff;rw[qv,gN (by omega)];rfl
 exact⟨h1,hC.sec_in hm (sJ _ (lG h1))⟩
def Bx(t:Al)(i:Nat)(r:Ak):List Ap:=[⟨2,(cD t i:Int)+(4+(bA t i:Int)),12,fX [vE ((cD t i:Int)+3),vE (uI t i+0),fk t i r]⟩,
 ⟨2,(cD t i:Int)+(4+(bA t i:Int))+1,4,fX [vE ((cD t i:Int)+2),vE (uI t i+0),atE t i,fS (gG (ff t i r))]⟩]
theorem b_timers(hC:COk t){r:Ak}(hr:t.Ac[i]?=some r)(hb:b.length<=100000):kI (Da t b) (i:Int)=some (Da t (b++Bx t i r)):=by
 have hi:=(zQQ.1 hr).1;have hlm:=hC.lim;have hl:=wO hC hi;have hs:=Cq hC hr;unfold kI;dsimp only;rw[aJ hr,Yl hC hi,aA,uH hC hi (by omega) (by omega),aA,Jb hC hi (by omega) (by omega),aA,L6 hC hr,aA];rw[show dT [vE ((cD t i:Int)+3),vE (uI t i+0),fk t i r]=some (fX [vE ((cD t i:Int)+3),vE (uI t i+0),fk t i r])from rfl,aA,qAF hC hi,aA];rw[uH hC hi (by omega) (by omega),aA,aA,b_at hC hi,aA,hl.1,aA,aJ hs.1,zP hs.2.1 (by omega),aA];rw[show ∀e,eG e=some (fS e)from λ_=>rfl,aA,show ∀l,dT l=some (fX l)from λ_=>rfl,aA,aB (by simp;omega)];rfl
theorem COk.sok(hC:COk t)(ht:WfB t){r:Ak}(hr:r∈t.Ac):iF r=some (fM (dI r)):=O8 r (hC.ok.each r hr) (ht.sok r hr)
theorem jQ{α β:Type}(f:α->β)(l:List α):l.mapIdx (λ_ s=>f s)=l.map f:=by
 apply tH;intro n;simp[va]
def qU(t:Al)(el:Int):Int:=kA (dU t.Ag el)
def Xq(t:Al)(x:Ad):Ab:=vE (2*t.Aa+2*qU t x.el+if x.pos=2 then 1 else 0)
def qR(t:Al)(r:Ak):Ab:=fX ((r.Aa++r.Ae).map gG++(fM (dI r)).map (Xq t))
theorem COk.set_in(hC:COk t){r:Ak}(hr:r∈t.Ac){x:Ad}(hx:x∈fM (dI r)):0<=qU t x.el/\qU t x.el<(t.Ag.length:Int)/\1<=x.pos/\x.pos<=2:=by
 have hx:=ascS_mem.1 hx;have h1:=((pR hC.chk).2.2.1 r hr).2;unfold tQ at h1;simp only[wP]at h1
 have key:∀l:List Ad,iN t l=true->x∈l->0<=qU t x.el/\qU t x.el<(t.Ag.length:Int)/\1<=x.pos/\x.pos<=2:=by
  intro l hl hm;obtain⟨j,hj⟩:=nS hm;have hjl:=(zQQ.1 hj).1;unfold iN at hl;rw[allB_iff]at hl;have h3:=hl j hjl;rw[By hj (gN (by omega))]at h3;have h4:=of_decide_eq_true h3;have h5:=h4.1;obtain⟨k,hk⟩:=Option.isSome_iff_exists.1 h5;obtain⟨_,_,_,hkl⟩:=bx (l:=t.Ag) hk;unfold qU;rw[hk];exact⟨by simp[kA],by simp only[kA];omega,h4.2.1,h4.2.2.1⟩
 simp only[zQN]at hx;rcases hx with(hx|hx)|hx
 exact key _ h1.1.1 hx;exact key _ h1.1.2 hx;exact key _ h1.2 hx
theorem Wk(hC:COk t)(ht:WfB t){r:Ak}(hr:t.Ac[i]?=some r):gQ (Da t b) (i:Int)=some (qR t r):=by
 have hi:=(zQQ.1 hr).1;have hm:=lG hr;have hlm:=hC.lim;have hsum:=hC.sum r hm;unfold xC at hsum;have hal:=nR (dI r);have hal2:(dI r).length<=200:=by simp only[dI,kU];omega
 unfold gQ;dsimp only;rw[aJ hr,xx _ ⟨by simp,by simp;omega⟩,aA];have hfl:[r.Aa,r.Ae].flatten=r.Aa++r.Ae:=by simp
 have hcl:(r.Aa++r.Ae).length<=200:=by rw[kU];omega
 rw[hfl,jW (r.Aa++r.Ae) (λ_ s=>gG s) [] (by omega) (λx s B hx hB=>?_) (by dsimp only;rw[if_neg (by omega)];rfl),aA];rw [hC.sok ht hm, aA, jW (fM (dI r)) (fun _ s => Xq t s) _ (by omega) (fun x s B hx hB => ?_) (by dsimp only; rw [if_neg (by omega)]; rfl), aA]
 ·unfold qR;rw[jQ,jQ,gE];rfl
 have hx':=(zQQ.1 hx).1;have hsi:=hC.set_in hm (lG hx);simp only[gE,List.length_mapIdx]at hB;dsimp only;rw[if_pos (by omega),aJ hx,Im,aA,sT t _ (by unfold rQ;omega),aA];unfold lK;dsimp only;have hid:kA (dU t.Ag s.el)=qU t s.el:=rfl;have hk:(if s.pos=2 then(1:Int)else 0)=0\/(if s.pos=2 then(1:Int)else 0)=1:=by split<;>simp
 rw[hid,aB (by unfold bH;omega),aB (by unfold bH;omega),aB (by unfold bH;omega),aB (by unfold bH;omega),aA,show ∀x,dH x=some (vE x)from λ_=>rfl,aA,aB (by simp;omega),aB (bG hx' (by omega))];rfl;have hx':=(zQQ.1 hx).1;have hs:=hC.sec_in hm (lG hx);simp only[jO,fV]at hB;dsimp only;rw[if_pos (by omega),aJ hx,zP hs.1 (by omega),aA,aB (by simp;omega),aB (bG hx' (by omega))]
variable {t:Al}{b:List Ap}{i:Nat}
theorem Ff(l:List Ab):dT l=some (fX l):=rfl
theorem F1(l:List Ab):fN l=some (qX l):=rfl
theorem C8(e:Ab):eG e=some (fS e):=rfl
theorem wV(x:Int):dH x=some (vE x):=rfl
theorem wy{x:Int}{e:Ab}(hb:b.length<=100000):dL (Da t b) x e=some (Da t (b++[⟨1,x,0,e⟩])):=by
 unfold dL;dsimp only;rw[aB (by simp;omega)]
def curE(t:Al)(i:Nat)(r:Ak):Ab:=qX (r.Aa.mapIdx λx s=>fX (([gG s]++if 0<x then[nM t i ((x:Int)-1)]else[])++if x<bA t i then[fS (nM t i (x:Int))]else[]))
theorem qCE(hC:COk t){r:Ak}(hr:t.Ac[i]?=some r):iD (Da t b) (i:Int)=some (curE t i r):=by
 have hi:=(zQQ.1 hr).1;have hm:=lG hr;have hlm:=hC.lim;have hsec:=hC.secs hm;have hl:=wO hC hi;unfold iD;dsimp only;rw[aJ hr,jW r.Aa (λx s=>fX (([gG s]++if 0<x then[nM t i ((x:Int)-1)]else[])++if x<bA t i then[fS (nM t i (x:Int))]else[])) [] (by omega) (λx s B hx hB=>?_) (by dsimp only;rw[if_neg (by omega)];rfl),aA];rfl;have hx':=(zQQ.1 hx).1;have hs:=hC.sec_in hm (sJ _ (lG hx));simp only[jO,fV]at hB;dsimp only;rw[if_pos (by omega),aJ hx,zP hs.1 (by omega),aA]
 have e1:(if(0:Int)<(x:Int)then aE (bH ((x:Int)-1)) (aD (dZ (Da t b) (i:Int) ((x:Int)-1)) λr17=>aE (([gG s]++[r17]).length<=1000000000) (some ([gG s]++[r17])))else some [gG s])=some ([gG s]++if 0<x then[nM t i ((x:Int)-1)]else[]):=by
  by_cases h0:0<x;rw[if_pos (by omega),aB (by unfold bH;omega),Ja hC hi (by omega) (by omega),aA,aB (by simp),if_pos h0];rw[if_neg (by omega),if_neg h0,lL]
 rw[e1,aA];have hl0:([gG s]++if 0<x then[nM t i ((x:Int)-1)]else[]).length<=2:=by split<;>simp
 generalize ([gG s]++if 0<x then[nM t i ((x:Int)-1)]else[])=L at hl0;rw[hl.1,aA]
 have e2:(if(x:Int)<(bA t i:Int)then aD (dZ (Da t b) (i:Int) (x:Int)) λr23=>aD (eG r23) λr24=>aE ((L++[r24]).length<=1000000000) (some (L++[r24]))else some L)=some (L++if x<bA t i then[fS (nM t i (x:Int))]else[]):=by
  by_cases h0:x<bA t i;rw[if_pos (by omega),Ja hC hi (by omega) (by omega),aA,C8,aA,aB (by simp;omega),if_pos h0];rw[if_neg (by omega),if_neg h0,lL]
 rw[e2,aA,Ff,aA,aB (by simp;omega),aB (bG hx' (by omega))]
def nC(t:Al)(i:Nat)(r:Ak):Ab:=fX [qX [vE ((cD t i:Int)+0),vE ((cD t i:Int)+1)],fS (vE (uI t i+3)),qR t r]
theorem Wl(hC:COk t)(ht:WfB t){r:Ak}(hr:t.Ac[i]?=some r):iU (Da t b) (i:Int)=some (nC t i r):=by
 have hi:=(zQQ.1 hr).1;unfold iU;rw[uH hC hi (by omega) (by omega),aA,uH hC hi (by omega) (by omega),aA,F1,aA,Jb hC hi (by omega) (by omega),aA,C8,aA,Wk hC ht hr,aA,Ff,aA];rfl
theorem COk.appr(hC:COk t){r:Ak}(hr:r∈t.Ac):0<=r.A5/\r.A5<t.Aa:=by
 have h1:=((pR hC.chk).2.2.1 r hr).1;unfold qI Fx at h1;simp only[wP,decide_eq_true_eq]at h1;exact h1.1.2
def nZ(r:Ak):Int:=r.Aa.getD 0 0
theorem wo(hC:COk t){r:Ak}(hr:r∈t.Ac):r.Aa[0]?=some (nZ r)/\0<=nZ r/\nZ r<t.Aa:=by
 have hsec:=hC.secs hr
 have h1:r.Aa[0]?=some (nZ r):=by
  unfold nZ;rw[qv,gN (by omega)];rfl
 exact⟨h1,hC.sec_in hr (sJ _ (lG h1))⟩
abbrev qE(t:Al)(i:Nat)(k:Int):Ab:=vE ((cD t i:Int)+k)
abbrev Fh(t:Al)(i:Nat)(k:Int):Ab:=vE (uI t i+k)
abbrev oU(t:Al)(i:Nat)(k:Int):Ab:=vE (gR t i+k)
def waitE(t:Al)(i:Nat):Ab:=vE ((cD t i:Int)+(4+(bA t i:Int)))
def standE(t:Al)(i:Nat):Ab:=vE ((cD t i:Int)+(4+(bA t i:Int))+1)
def bw(t:Al)(i:Nat)(r:Ak):Ab:=fX [qE t i 0,fS (Fh t i 3),fS (qR t r)]
def useE(t:Al)(i:Nat)(r:Ak):Ab:=qX [fX [qE t i 1,fS (gG (nZ r))],fX [qE t i 2,qX [fS (Fh t i 0),fX [fS (fX [Fh t i 3,fk t i r]),fS (fX [atE t i,gG (ff t i r)]),fS (standE t i)]]],fX [qE t i 3,fS (curE t i r)]]
def holdE(t:Al)(i:Nat)(r:Ak):Ab:=qX [fX [qE t i 1,gG (nZ r),fS (fX [Fh t i 3,Fh t i 0,gG r.A5]),qX [Fh t i 3,fS (qR t r)]],fX [qE t i 2,Fh t i 0,Fh t i 3,fk t i r],fX [qE t i 3,curE t i r,fS (waitE t i)]]
def actE(t:Al)(i:Nat)(r:Ak):Ab:=qX [oU t i 0,nC t i r,oU t i 1,oU t i 2]
def Q2(t:Al)(i:Nat)(r:Ak):List Ap:=[⟨1,gR t i+0,0,bw t i r⟩,⟨1,gR t i+1,0,useE t i r⟩,⟨1,gR t i+2,0,holdE t i r⟩,⟨1,gR t i+3,0,actE t i r⟩]
theorem Ym(hC:COk t)(ht:WfB t){r:Ak}(hr:t.Ac[i]?=some r)(hb:b.length<=90000):jK (Da t b) (i:Int)=some (Da t (b++Q2 t i r)):=by
 have hi:=(zQQ.1 hr).1;have hm:=lG hr;have hlm:=hC.lim;have hl:=wO hC hi;have hs:=Cq hC hr;have hf:=wo hC hm;have ha:=hC.appr hm;have g0:bC r.Aa (0:Int)=λ(k:Int->Option At)=>k (nZ r):=by funext k;exact aJ (i:=0) hf.1
 unfold jK;dsimp only;rw[aJ hr,g0,hl.1];dsimp only;rw[aA,aJ hs.1]
 simp only [aA, wY hC hi (show (0 : Int) <= 0 by omega) (show (0 : Int) <= 10 by omega), wY hC hi (show (0 : Int) <= 1 by omega) (show (1 : Int) <= 10 by omega), wY hC hi (show (0 : Int) <= 2 by omega) (show (2 : Int) <= 10 by omega), wY hC hi (show (0 : Int) <= 3 by omega) (show (3 : Int) <= 10 by omega),
  uH hC hi (show(0:Int)<=0 by omega) (show(0:Int)<=1000 by omega),uH hC hi (show(0:Int)<=1 by omega) (show(1:Int)<=1000 by omega),uH hC hi (show(0:Int)<=2 by omega) (show(2:Int)<=1000 by omega),uH hC hi (show(0:Int)<=3 by omega) (show(3:Int)<=1000 by omega),
  Jb hC hi (show(0:Int)<=0 by omega) (show(0:Int)<=1000 by omega),Jb hC hi (show(0:Int)<=3 by omega) (show(3:Int)<=1000 by omega),Ff,F1,C8,wV,Wk hC ht hr,L6 hC hr,b_at hC hi,qCE hC hr,Wl hC ht hr,Yl hC hi,qAF hC hi,
  zP hf.2.1 (show nZ r<=1000 by omega),zP hs.2.1 (show ff t i r<=1000 by omega),zP ha.1 (show r.A5<=1000 by omega)]
 rw[wy (by omega),aA];dsimp only;rw[wy (by simp;omega),aA];dsimp only;rw[wy (by simp;omega),aA];dsimp only;rw[wy (by simp;omega),aA];simp only[lM];rfl
variable {t:Al}{b:List Ap}{i:Nat}
def wJ(r:Ak)(k:Nat):Int:=r.Aa.getD k 0
theorem xN(hC:COk t){r:Ak}(hr:r∈t.Ac){k:Nat}(hk:k<r.Aa.length):r.Aa[k]?=some (wJ r k)/\0<=wJ r k/\wJ r k<t.Aa:=by
 have h1:r.Aa[k]?=some (wJ r k):=by
  unfold wJ;rw[qv,gN hk];rfl
 exact⟨h1,hC.sec_in hr (sJ _ (lG h1))⟩
def relX(t:Al)(i:Nat)(r:Ak)(k:Nat):Ab:=fX [qX [oU t i 1,oU t i 2],qX [nM t i (k:Int),fX ([qE t i 2,oU t i 1,Fh t i 0,gG (wJ r k),qX [fS (gG (wJ r (k+1))),Fh t i 1]]++if 0<k then[nM t i ((k:Int)-1)]else[])]]
def eo(t:Al)(i:Nat)(r:Ak)(n:Nat):List Ap:=(List.range n).map λj=>⟨1,(cD t i:Int)+(4+((bA t i-1-j:Nat):Int)),0,relX t i r (bA t i-1-j)⟩
theorem Dx(r:Ak)(n:Nat):(eo t i r n).length=n:=by unfold eo;simp
def Dr(t:Al)(i:Nat)(r:Ak):List Ap:=eo t i r (bA t i)++[⟨1,(cD t i:Int)+1,0,nC t i r⟩,⟨1,(cD t i:Int)+2,0,oU t i 1⟩,⟨1,(cD t i:Int)+3,0,oU t i 2⟩]
theorem b_state(hC:COk t)(ht:WfB t){r:Ak}(hr:t.Ac[i]?=some r)(hb:b.length<=90000):kY (Da t b) (i:Int)=some (Da t (b++Dr t i r)):=by
 have hi:=(zQQ.1 hr).1;have hm:=lG hr;have hlm:=hC.lim;have hl:=wO hC hi;have hsec:=hC.secs hm;have hln:bA t i=r.Aa.length-1:=by unfold bA;rw[hr]
 unfold kY;dsimp only;rw[aJ hr,hl.1,aA,aB (by unfold bH;omega)];rw[oG (λj=>((bA t i:Int)-1-(j:Int),b++eo t i r j)) (bA t i) (o:=b++eo t i r (bA t i)) (by simp[eo]) (by omega) (λj hj=>?_) (by dsimp only;rw[if_neg (by omega)];rfl),aA];have hlen : (b ++ eo t i r (bA t i)).length <= 91000 := by rw [kU, Dx]; omega
 unfold Dr;rw[<- List.append_assoc];generalize b++eo t i r (bA t i)=B at hlen;rw[w7 hC hi (by omega) (by omega),aA,Wl hC ht hr,aA,wy (by omega),aA];dsimp only;rw[w7 hC hi (by omega) (by omega),aA,wY hC hi (by omega) (by omega),aA,wV,aA,wy (by simp;omega),aA];dsimp only;rw[w7 hC hi (by omega) (by omega),aA,wY hC hi (by omega) (by omega),aA,wV,aA,wy (by simp;omega),aA];simp only[lM];rfl;have hlen : (b ++ eo t i r j).length <= 91000 := by rw [kU, Dx]; omega
 have hstep:b++eo t i r (j+1)=(b++eo t i r j)++[⟨1,(cD t i:Int)+(4+((bA t i-1-j:Nat):Int)),0,relX t i r (bA t i-1-j)⟩]:=by
  unfold eo;rw[Ic,lM]
 rw[hstep];generalize b++eo t i r j=B at hlen;obtain⟨k,hk⟩:∃k:Nat,k=bA t i-1-j:=⟨_,rfl⟩;rw[<- hk];have hkI:(bA t i:Int)-1-(j:Int)=(k:Int):=by omega
 have hk1:=xN hC hm (k:=k) (by omega);have hk2:=xN hC hm (k:=k+1) (by omega);dsimp only;rw[hkI,if_pos (by omega),uH hC hi (by omega) (by omega),aA,wY hC hi (by omega) (by omega),aA,wV,aA,Jb hC hi (by omega) (by omega),aA,aJ hk1.1,zP hk1.2.1 (by omega),aA,aB (by unfold bH;omega)];rw[show((k:Int)+1)=((k+1:Nat):Int) by omega,aJ hk2.1,zP hk2.2.1 (by omega),aA,C8,aA,Jb hC hi (by omega) (by omega),aA,F1,aA];generalize hL:[vE ((cD t i:Int)+2),vE (gR t i+1),vE (uI t i+0),gG (wJ r k),qX [fS (gG (wJ r (k+1))),vE (uI t i+1)]]=L;have hLl:L.length=5:=by rw[<- hL];rfl
 have e1:(if(0:Int)<(k:Int)then aE (bH ((k:Int)-1)) (aD (dZ (Da t B) (i:Int) ((k:Int)-1)) λr29=>aE ((L++[r29]).length<=1000000000) (some (L++[r29])))else some L)=some (L++if 0<k then[nM t i ((k:Int)-1)]else[]):=by
  by_cases h0:0<k;rw[if_pos (by omega),aB (by unfold bH;omega),Ja hC hi (by omega) (by omega),aA,aB (by simp;omega),if_pos h0];rw[if_neg (by omega),if_neg h0,lL]
 rw[e1,aA,aB (by unfold bH;omega),w7 hC hi (by omega) (by omega),aA,wY hC hi (show(0:Int)<=2 by omega) (by omega),aA,wV,aA,aA,wV,aA,F1,aA,Ja hC hi (by omega) (by omega),aA,Ff,aA,F1,aA,Ff,aA,wy (by omega),aA,aB (by unfold bH;omega)];unfold relX;rw[hL,show((k:Int)-1)=(bA t i:Int)-1-((j+1:Nat):Int) by omega]
variable {t:Al}{b:List Ap}{i:Nat}
theorem Eh{α β ρ:Type}(l:List α)(f:β->α->β)(Inv:Nat->β->Prop){b0:β}{F:Int×β->Option ((Int×β) ⊕ ρ)}(o:β->ρ)(hn:l.length<=9223372036854775807)(h0:Inv 0 b0)
  (hs:∀(i:Nat)(e:α)(B:β),l[i]?=some e->Inv i B->Inv (i+1) (f B e)/\F ((i:Int),B)=some (.inl ((i:Int)+1,f B e))) (he:∀B,Inv l.length B->F ((l.length:Int),B)=some (.inr (o B))):
  bB F (0,b0)=some (o (l.foldl f b0))/\Inv l.length (l.foldl f b0):=by
 have hI:∀i,i<=l.length->Inv i ((l.take i).foldl f b0):=by
  intro i hi
  induction i with
  |zero=>exact h0
  |succ i ih=>
   have hx:=gN (show i<l.length by omega);rw[mF,hx];simp only[F4,Ha,y9,List.foldl_nil];exact(hs i _ _ hx (ih (by omega))).1
 have hL:=hI l.length (Ks _);rw[oD]at hL;refine⟨lR l.length (λi=>(l.take i).foldl f b0) rfl hn (λi hi=>?_) (by rw[oD];exact he _ hL),hL⟩;have hx:=gN hi;rw[(hs i _ _ hx (hI i (by omega))).2,mF,hx];simp only[F4,Ha,y9,List.foldl_nil]
abbrev Sh:=Bool×List Int
def yK(n:Nat)(x:Int)(s:Sh):Sh:=if x<0\/x=(n:Int)then(true,s.2)else if x∈s.2 then s else(s.1,s.2++[x])
def ShOk(n k:Nat)(s:Sh):Prop:=s.2.length<=k/\∀x∈s.2,0<=x/\x<(n:Int)
theorem ShOk.mono{n k m:Nat}{s:Sh}(h:ShOk n k s)(hk:k<=m):ShOk n m s:=⟨jL h.1 hk,h.2⟩
theorem ShOk.fst{n k:Nat}{s:Sh}(h:ShOk n k s)(c:Bool):ShOk n k (c,s.2):=h
theorem Hl{n k:Nat}{x:Int}{s:Sh}(h:ShOk n k s)(hx:x<=(n:Int)):ShOk n (k+1) (yK n x s):=by
 unfold yK;split;exact(h.fst true).mono (by omega);split;exact h.mono (by omega);rename_i h1 h2;refine⟨by have:=h.1;simp;omega,λy hy=>?_⟩;simp only[zQN,zal102q]at hy;rcases hy with hy|hy
 exact h.2 y hy;subst hy;omega
theorem c1_eq(hC:COk t){j:Nat}(hj:j<t.Ac.length){x:Int}{c:Bool}{l:List Int}(hl:l.length<=1000):dA x (Da t b) (j:Int) c l=some (yK (bA t j) x (c,l)):=by
 unfold dA yK;dsimp only;rw[(wO hC hj).1];by_cases h0:x<0;rw[if_pos h0,aA,if_pos rfl,if_pos (.inl h0)];rw[if_neg h0,aA,aA];by_cases h1:x=(bA t j:Int);rw[if_pos (decide_eq_true h1),if_pos (.inr h1)];rw [decide_eq_false h1, if_neg (by simp), if_neg (by intro hc; rcases hc with hc | hc; exact h0 hc; exact h1 hc), wv l x (by unfold rQ; omega), aA];by_cases h2:x∈l;rw[decide_eq_true h2,if_neg (by simp),if_pos h2];rw[decide_eq_false h2,if_pos (by simp),if_neg h2,aB (by simp;omega)]
def Xv(n:Nat)(q:Ak)(f:Bool)(s:Sh)(x:Int):Sh:=
 let s1:=if 0<=kA (dU q.Aa x)then yK n (kA (dU q.Aa x)) s else s
 if s1.1=true then(true,s1.2)else if x∈q.Ae then(!f,s1.2)else(false,s1.2)
def Xu(n:Nat)(q:Ak)(f g:Bool)(s:Sh)(x:Int):Sh:=
 let s1:=if 0<=kA (dU q.Aa x)/\g=false then yK n (kA (dU q.Aa x)) s else s
 if s1.1=true then(true,s1.2)else if x∈q.Ae then if f=false then(!g,s1.2)else(false,s1.2)else(false,s1.2)
theorem Iq(hC:COk t){j:Nat}{q:Ak}(hq:t.Ac[j]?=some q)(x:Int):kA (dU q.Aa x)<=(bA t j:Int):=by
 have hln:bA t j=q.Aa.length-1:=by unfold bA;rw[hq]
 unfold dU
 cases e:q.Aa.findIdx? λy=>y == x with
 |none=>simp only[kA];omega
 |some k=>obtain⟨_,_,_,hk⟩:=bx e;simp only[kA];omega
theorem oneA_ok(hC:COk t){j:Nat}{q:Ak}(hq:t.Ac[j]?=some q){f:Bool}{k:Nat}{s:Sh}{x:Int}(h:ShOk (bA t j) k s):ShOk (bA t j) (k+1) (Xv (bA t j) q f s x):=by
 unfold Xv
 have h1:ShOk (bA t j) (k+1) (if 0<=kA (dU q.Aa x)then yK (bA t j) (kA (dU q.Aa x)) s else s):=by
  split;exact Hl h (Iq hC hq x);exact h.mono (by omega)
 dsimp only;generalize (if 0<=kA (dU q.Aa x)then yK (bA t j) (kA (dU q.Aa x)) s else s)=s1 at h1;split;exact h1.fst _;split;exact h1.fst _;exact h1.fst _
theorem oneB_ok(hC:COk t){j:Nat}{q:Ak}(hq:t.Ac[j]?=some q){f g:Bool}{k:Nat}{s:Sh}{x:Int}(h:ShOk (bA t j) k s):ShOk (bA t j) (k+1) (Xu (bA t j) q f g s x):=by
 unfold Xu
 have h1:ShOk (bA t j) (k+1) (if 0<=kA (dU q.Aa x)/\g=false then yK (bA t j) (kA (dU q.Aa x)) s else s):=by
  split;exact Hl h (Iq hC hq x);exact h.mono (by omega)
 dsimp only;generalize (if 0<=kA (dU q.Aa x)/\g=false then yK (bA t j) (kA (dU q.Aa x)) s else s)=s1 at h1;split;exact h1.fst _;split;split
 ·exact h1.fst _
 exact h1.fst _;exact h1.fst _
theorem shA_eq(hC:COk t){j:Nat}{r q:Ak}(hr:r∈t.Ac)(hq:t.Ac[j]?=some q)(f:Bool){s0:Sh}{k0:Nat}(h0:ShOk (bA t j) k0 s0)(hk:k0<=100):bB (λ((x12:Int),(c13:Bool),(b14:List Int))=>
   if x12 < (r.Aa.length : Int) then
    bC r.Aa x12 λe17=>
    aD (
     aD (eQ q.Aa e17) λr21=>
     if(0:Int)<=r21 then
      aD (dA r21 (Da t b) (j:Int) c13 b14) λ(r24,r25)=>
      some (r24,r25)
     else
      some (c13,b14)) λ(c18,b19)=>
    if c18=true then
     aE (bH (x12+(1:Int))) <|
     some (.inl ((x12+(1:Int)),true,b19))
    else
     aD (fZ q.Ae e17) λr27=>
     if r27=true then
      aE (bH (x12+(1:Int))) <|
      some (.inl ((x12+(1:Int)),!(f),b19))
     else
      aE (bH (x12+(1:Int))) <|
      some (.inl ((x12+(1:Int)),false,b19))
   else
    aT (
     some (c13,b14))) ((0:Int),s0)=some (r.Aa.foldl (Xv (bA t j) q f) s0)/\ShOk (bA t j) (k0+r.Aa.length) (r.Aa.foldl (Xv (bA t j) q f) s0):=by
 have hj:=(zQQ.1 hq).1;have hqm:=lG hq;have hsum:=hC.sum r hr;have hsumq:=hC.sum q hqm;unfold xC at hsum hsumq;refine Eh r.Aa (Xv (bA t j) q f) (λi s=>ShOk (bA t j) (k0+i) s) (λs=>s) (by omega) h0 (λx e s hx hs=>⟨oneA_ok hC hq hs,?_⟩) (λs _=>by obtain⟨c,l⟩:=s;dsimp only;rw[if_neg (by omega)];rfl);obtain⟨c,l⟩:=s;have hx':=(zQQ.1 hx).1;have hl:l.length<=1000:=by have:=hs.1;dsimp only at this;omega
 dsimp only;rw[if_pos (by omega),aJ hx,wA _ _ (by unfold rQ;omega),aA]
 have e1:(if(0:Int)<=kA (dU q.Aa e)then aD (dA (kA (dU q.Aa e)) (Da t b) (j:Int) c l) λ(r24,r25)=>some (r24,r25)else some (c,l))=some (if 0<=kA (dU q.Aa e)then yK (bA t j) (kA (dU q.Aa e)) (c,l)else(c,l)):=by
  split;rw[c1_eq hC hj hl,aA];rfl
 rw[e1,aA];unfold Xv;dsimp only;generalize (if 0<=kA (dU q.Aa e)then yK (bA t j) (kA (dU q.Aa e)) (c,l)else(c,l))=s1;obtain⟨c1,l1⟩:=s1;dsimp only;cases c1;rw [if_neg (by simp), if_neg (by simp), wv _ _ (by unfold rQ; omega), aA];by_cases hm:e∈q.Ae;rw[decide_eq_true hm,if_pos rfl,if_pos hm,aB (bG hx' (by omega))];rw[decide_eq_false hm,if_neg (by simp),if_neg hm,aB (bG hx' (by omega))];rw[if_pos rfl,if_pos rfl,aB (bG hx' (by omega))]
theorem shB_eq(hC:COk t){j:Nat}{r q:Ak}(hr:r∈t.Ac)(hq:t.Ac[j]?=some q)(f g:Bool){s0:Sh}{k0:Nat}(h0:ShOk (bA t j) k0 s0)(hk:k0<=400):bB (λ((x40:Int),(c41:Bool),(b42:List Int))=>
   if x40 < (r.Ae.length : Int) then
    bC r.Ae x40 λe45=>
    aD (
     aD (eQ q.Aa e45) λr49=>
     if((decide ((0:Int)<=r49))&&(!(g)))=true then
      aD (dA r49 (Da t b) (j:Int) c41 b42) λ(r53,r54)=>
      some (r53,r54)
     else
      some (c41,b42)) λ(c46,b47)=>
    if c46=true then
     aE (bH (x40+(1:Int))) <|
     some (.inl ((x40+(1:Int)),true,b47))
    else
     aD (fZ q.Ae e45) λr56=>
     if r56=true then
      if(!(f))=true then
       aE (bH (x40+(1:Int))) <|
       some (.inl ((x40+(1:Int)),!(g),b47))
      else
       aE (bH (x40+(1:Int))) <|
       some (.inl ((x40+(1:Int)),false,b47))
     else
      aE (bH (x40+(1:Int))) <|
      some (.inl ((x40+(1:Int)),false,b47))
   else
    aT (
     some (c41,b42))) ((0:Int),s0)=some (r.Ae.foldl (Xu (bA t j) q f g) s0)/\ShOk (bA t j) (k0+r.Ae.length) (r.Ae.foldl (Xu (bA t j) q f g) s0):=by
 have hj:=(zQQ.1 hq).1;have hqm:=lG hq;have hsum:=hC.sum r hr;have hsumq:=hC.sum q hqm;unfold xC at hsum hsumq;refine Eh r.Ae (Xu (bA t j) q f g) (λi s=>ShOk (bA t j) (k0+i) s) (λs=>s) (by omega) h0 (λx e s hx hs=>⟨oneB_ok hC hq hs,?_⟩) (λs _=>by obtain⟨c,l⟩:=s;dsimp only;rw[if_neg (by omega)];rfl);obtain⟨c,l⟩:=s;have hx':=(zQQ.1 hx).1;have hl:l.length<=1000:=by have:=hs.1;dsimp only at this;omega
 dsimp only;rw[if_pos (by omega),aJ hx,wA _ _ (by unfold rQ;omega),aA]
 have e1:(if((decide ((0:Int)<=kA (dU q.Aa e)))&&(!(g)))=true then aD (dA (kA (dU q.Aa e)) (Da t b) (j:Int) c l) λ(r24,r25)=>some (r24,r25)else some (c,l))=some (if 0<=kA (dU q.Aa e)/\g=false then yK (bA t j) (kA (dU q.Aa e)) (c,l)else(c,l)):=by
  by_cases h:0<=kA (dU q.Aa e)/\g=false;rw[if_pos (by simp[h.1,h.2]),if_pos h,c1_eq hC hj hl,aA];rw[if_neg (by simpa using h),if_neg h]
 rw[e1,aA];unfold Xu;dsimp only;generalize (if 0<=kA (dU q.Aa e)/\g=false then yK (bA t j) (kA (dU q.Aa e)) (c,l)else(c,l))=s1;obtain⟨c1,l1⟩:=s1;dsimp only;cases c1;rw [if_neg gB, if_neg gB, wv _ _ (by unfold rQ; omega), aA];by_cases hm:e∈q.Ae;rw[decide_eq_true hm,if_pos rfl,if_pos hm];cases f;simp only[Hd,if_true];rw[aB (bG hx' (by omega))];simp only[vf,gk,Bool.true_eq_false,if_false];rw[aB (bG hx' (by omega))];rw[decide_eq_false hm,if_neg gB,if_neg hm,aB (bG hx' (by omega))];rw[if_pos rfl,if_pos rfl,aB (bG hx' (by omega))]
variable {t:Al}{b:List Ap}{i:Nat}
theorem qAV(l:List Ad)(x:Ad)(h:rQ l)(hx:Ad.ok x)(ho:∀s∈l,Ad.ok s):lO l x=some (kA (l.findIdx? λy=>decide (x=y))):=by
 unfold lO;rw[xp l (λy=>decide (x=y)) (λi=>.inr (i:Int)) (.inl ()) h (λk e he=>?_) (by rw[if_neg (by omega)];rfl)];cases l.findIdx? λy=>decide (x=y)<;>rfl;have hi:=(zQQ.1 he).1;rw[if_pos (by omega),aJ he,aB ⟨hx,ho e (lG he)⟩];by_cases hz:x=e;rw[if_pos hz,if_pos (decide_eq_true hz)];rfl;rw[if_neg hz,aB (bG hi h),if_neg (by simpa using hz)]
theorem tR(l:List Ad)(x:Ad)(h:rQ l)(hx:Ad.ok x)(ho:∀s∈l,Ad.ok s):dK l x=some (decide (x∈l)):=by
 unfold dK;rw[qAV l x h hx ho,aA,Lq,List.findIdx?_isSome]
 congr 1
 rw[nF,zQU];simp
def mY(t:Al)(el:Int):Int:=t.A7.getD (qU t el).toNat 0
theorem COk.home(hC:COk t){r:Ak}(hr:r∈t.Ac){x:Ad}(hx:x∈fM (dI r)):∃k:Nat,qU t x.el=(k:Int)/\k<t.Ag.length/\t.A7[k]?=some (mY t x.el)/\0<=mY t x.el/\mY t x.el<t.Aa:=by
 have h1:=hC.set_in hr hx;have hp:=(pR hC.chk).2.1;unfold vH at hp;simp only[wP,decide_eq_true_eq]at hp;obtain⟨k,hk⟩:∃k:Nat,qU t x.el=(k:Int):=⟨(qU t x.el).toNat,by omega⟩;have hkl:k<t.Ag.length:=by omega
 have h2:t.A7[k]?=some (mY t x.el):=by
  unfold mY;rw[hk,qv,show((k:Int)).toNat=k by omega,gN (by omega)];rfl
 have h3:=allB_iff.1 hp.2 k hkl;rw[D7 (gN hkl) (gN (show k-1<t.Ag.length by omega)) h2]at h3;have h4:=of_decide_eq_true h3;exact⟨k,hk,hkl,h2,h4.2.2.1,h4.2.2.2⟩
def D9(x:Ad):Ad:=⟨x.el,3-x.pos⟩
def Xt(t:Al)(n:Nat)(q:Ak)(s:Sh)(x:Ad):Sh:=
 if D9 x∈q.An\/D9 x∈q.Ax then(true,s.2)else if D9 x∈q.Ag then yK n (kA (dU q.Aa (mY t x.el))) s else s
theorem oneC_ok(hC:COk t){j:Nat}{q:Ak}(hq:t.Ac[j]?=some q){k:Nat}{s:Sh}{x:Ad}(h:ShOk (bA t j) k s):ShOk (bA t j) (k+1) (Xt t (bA t j) q s x):=by
 unfold Xt;split;exact(h.fst _).mono (by omega);split;exact Hl h (Iq hC hq _);exact h.mono (by omega)
theorem shC_eq(hC:COk t)(ht:WfB t){j:Nat}{r q:Ak}(hr:r∈t.Ac)(hq:t.Ac[j]?=some q){s0:Sh}{k0:Nat}(h0:ShOk (bA t j) k0 s0)(hk:k0<=700):bB (λ((x72:Int),(c73:Bool),(b74:List Int))=>
   if x72 < ((fM (dI r)).length : Int) then
    bC (fM (dI r)) x72 λe77=>
    aE (bH ((3:Int)-e77.pos)) <|
    aD (
     aD (dK q.An (⟨e77.el,((3:Int)-e77.pos)⟩:Ad)) λr81=>
     if r81=true then
      some true
     else
      aD (dK q.Ax (⟨e77.el,((3:Int)-e77.pos)⟩:Ad)) λr83=>
      some r83) λx79=>
    if x79=true then
     aE (bH (x72+(1:Int))) <|
     some (.inl ((x72+(1:Int)),true,b74))
    else
     aD (dK q.Ag (⟨e77.el,((3:Int)-e77.pos)⟩:Ad)) λr86=>
     if r86=true then
      aD (jR t e77.el) λr88=>
      bC t.A7 r88 λe89=>
      aD (eQ q.Aa e89) λr90=>
      aD (dA r90 (Da t b) (j:Int) c73 b74) λ(r92,r93)=>
      aE (bH (x72+(1:Int))) <|
      some (.inl ((x72+(1:Int)),r92,r93))
     else
      aE (bH (x72+(1:Int))) <|
      some (.inl ((x72+(1:Int)),c73,b74))
   else
    aT (
     some (c73,b74))) ((0:Int),s0)=some ((fM (dI r)).foldl (Xt t (bA t j) q) s0)/\ShOk (bA t j) (k0+(fM (dI r)).length) ((fM (dI r)).foldl (Xt t (bA t j) q) s0):=by
 have hj:=(zQQ.1 hq).1;have hqm:=lG hq;have hsum:=hC.sum r hr;have hsumq:=hC.sum q hqm;unfold xC at hsum hsumq;have hal:=nR (dI r);have hal2:(dI r).length<=200:=by simp only[dI,kU];omega
 have hlm:=hC.lim;have hso:=ht.sok q hqm;refine Eh (fM (dI r)) (Xt t (bA t j) q) (λi s=>ShOk (bA t j) (k0+i) s) (λs=>s) (by omega) h0 (λx e s hx hs=>⟨oneC_ok hC hq hs,?_⟩) (λs _=>by obtain⟨c,l⟩:=s;dsimp only;rw[if_neg (by omega)];rfl);obtain⟨c,l⟩:=s;have hx':=(zQQ.1 hx).1;have hxm:=lG hx;have hsi:=hC.set_in hr hxm;obtain⟨k,hk1,hk2,hk3,hk4,hk5⟩:=hC.home hr hxm;have hl:l.length<=1000:=by have:=hs.1;dsimp only at this;omega
 have heo:Ad.ok e:=ht.sok r hr e (ascS_mem.1 hxm);have hoo:Ad.ok (D9 e):=⟨heo.1,by show bH (3-e.pos);unfold bH;omega⟩;have hop:(⟨e.el,(3:Int)-e.pos⟩:Ad)=D9 e:=rfl;have o1:∀s∈q.An,Ad.ok s:=λs hs=>hso s (by simp[dI,hs]);have o2:∀s∈q.Ax,Ad.ok s:=λs hs=>hso s (by simp[dI,hs]);have o3:∀s∈q.Ag,Ad.ok s:=λs hs=>hso s (by simp[dI,hs]);dsimp only;rw[if_pos (by omega),aJ hx,aB (by unfold bH;omega),hop,tR _ _ (by unfold rQ;omega) hoo o1,aA,tR _ _ (by unfold rQ;omega) hoo o2,aA];unfold Xt;dsimp only
 have e1:(if decide (D9 e∈q.An)=true then some true else some (decide (D9 e∈q.Ax)))=some (decide (D9 e∈q.An\/D9 e∈q.Ax)):=by
  by_cases h:D9 e∈q.An;rw[if_pos (decide_eq_true h),decide_eq_true (Or.inl h)];rw [if_neg (by simpa using h)]
  congr 1
  rw[nF];simp[h]
 rw[e1,aA];by_cases hc:D9 e∈q.An\/D9 e∈q.Ax;rw[if_pos (decide_eq_true hc),if_pos hc,aB (bG hx' (by omega))];rw [if_neg (by rw [decide_eq_false hc]; exact gB), if_neg hc, tR _ _ (by unfold rQ; omega) hoo o3, aA];by_cases hd:D9 e∈q.Ag;have hid:kA (dU t.Ag e.el)=(k:Int):=hk1;rw[if_pos (decide_eq_true hd),if_pos hd,sT t _ (by unfold rQ;omega),aA,hid,aJ hk3,wA _ _ (by unfold rQ;omega),aA,c1_eq hC hj hl,aA,aB (bG hx' (by omega))];rw[if_neg (by rw[decide_eq_false hd];exact gB),if_neg hd,aB (bG hx' (by omega))]
def mO(r q:Ak):Bool:=(decide ((0:Int)<=r.exit))&&(decide (q.entry=r.exit))
def xl(t:Al)(j:Nat)(r q:Ak):Sh:=
 (fM (dI r)).foldl (Xt t (bA t j) q) (r.Ae.foldl (Xu (bA t j) q (mO q r) (mO r q)) (r.Aa.foldl (Xv (bA t j) q (mO q r)) (false,[])))
theorem qAS(hC:COk t)(ht:WfB t){j:Nat}{r q:Ak}(hr:t.Ac[i]?=some r)(hq:t.Ac[j]?=some q):kJ (Da t b) (i:Int) (j:Int)=some (xl t j r q)/\ShOk (bA t j) 200 (xl t j r q):=by
 have hrm:=lG hr;have hsum:=hC.sum r hrm;unfold xC at hsum;have hal:=nR (dI r);have hal2:(dI r).length=r.Ag.length+r.An.length+r.Ax.length:=by simp only[dI,kU]
 have hA:=shA_eq (b:=b) hC hrm hq (mO q r) (s0:=(false,[])) (k0:=0) ⟨by simp,by simp⟩ (by omega);have hB:=shB_eq (b:=b) hC hrm hq (mO q r) (mO r q) hA.2 (by omega);have hD:=shC_eq (b:=b) hC ht hrm hq hB.2 (by omega);refine⟨?_,hD.2.mono (by omega)⟩;unfold kJ;dsimp only;rw[aJ hr,aJ hq];rw[show iT q r=some (mO q r)from rfl,aA,show iT r q=some (mO r q)from rfl,aA];rw[hA.1,aA,hB.1,aA,hC.sok ht hrm,aA,hD.1,aA];rfl
theorem rF{α:Type}{l:List α}:l.Nodup↔∀a c,a<c->c<l.length->l[a]?≠l[c]?:=by
 unfold List.Nodup;rw[List.pairwise_iff_getElem];constructor;intro h a c hac hc he;rw[gN hc,gN (show a<l.length by omega)]at he;exact h a c (by omega) hc hac (cC he);intro h a c ha hc hac he;refine h a c hac hc ?_;rw[gN hc,gN ha,he]
theorem Ab.eta(e:Ab):(⟨e.op,e.var,e.args⟩:Ab)=e:=by cases e;rfl
def opB(v:List Bool)(op x:Int)(bs:List Bool):Bool:=
 if op=3 then decide (0<=x)&&v.getD x.toNat false
 else if op=4 then(match bs with|[]=>false|b::_=>!b)
 else if op=5 then bs.all id
 else if op=6 then bs.any id
 else decide (op=2)
mutual
def lA(v:List Bool):Ab->Bool
 |⟨op,x,l⟩=>opB v op x (evL v l)
def evL(v:List Bool):List Ab->List Bool
 |[]=>[]
 |e::r=>lA v e::evL v r
end
mutual
def I1:Ab->Nat
 |⟨_,_,l⟩=>Gw l+1
def Gw:List Ab->Nat
 |[]=>0
 |e::r=>max (I1 e) (Gw r)
end
mutual
def nU:Ab->Nat
 |⟨_,_,l⟩=>qD l+1
def qD:List Ab->Nat
 |[]=>0
 |e::r=>nU e+qD r
end
abbrev ye:Nat:=9223372036854775807
mutual
def okE:Ab->Prop
 |⟨_,_,l⟩=>l.length<=ye/\okL l
def okL:List Ab->Prop
 |[]=>True
 |e::r=>okE e/\okL r
end
theorem Z4(v:List Bool):∀l,evL v l=l.map (lA v)
 |[]=>by simp[evL]
 |e::r=>by simp[evL,Z4 v r]
theorem Es(v:List Bool)(e:Ab):lA v e=opB v e.op e.var (e.args.map (lA v)):=by
 cases e with
 |mk a b c=>rw[lA,Z4]
theorem dpL_le{d:Nat}:∀{l:List Ab},Gw l<=d↔∀e∈l,I1 e<=d
 |[]=>by simp[Gw]
 |e::r=>by rw[Gw,Nat.max_le,dpL_le (l:=r)];simp
theorem wL(e:Ab):I1 e=Gw e.args+1:=by
 cases e with
 |mk a b c=>rw[I1]
theorem Za:∀l:List Ab,qD l=(l.map nU).sum
 |[]=>by simp[qD]
 |e::r=>by simp[qD,Za r]
theorem cg(e:Ab):nU e=qD e.args+1:=by
 cases e with
 |mk a b c=>rw[nU]
theorem Zb(a b:List Ab):qD (a++b)=qD a+qD b:=by simp[Za]
theorem Zo:∀{l:List Ab},okL l↔∀e∈l,okE e
 |[]=>by simp[okL]
 |e::r=>by rw[okL,Zo (l:=r)];simp
theorem okE_iff{e:Ab}:okE e↔e.args.length<=ye/\∀x∈e.args,okE x:=by
 cases e with
 |mk a b c=>rw[okE,Zo]
theorem node_eq(e:Ab):wD e=some ⟨if e.op=3 then 200 else if e.op=4 then(if 0<e.args.length then 201 else 232)else if e.op=5 then 202 else if e.op=6 then 203 else 232,e⟩:=by
 unfold wD;by_cases h3:e.op=3;rw[if_pos h3,if_pos h3];rw[if_neg h3,if_neg h3];by_cases h4:e.op=4;rw[if_pos h4,if_pos h4];by_cases h:0<e.args.length;rw[if_pos (by omega),if_pos h];rw[if_neg (by omega),if_neg h];rw[if_neg h4,if_neg h4];by_cases h5:e.op=5;rw[if_pos h5,if_pos h5];rw[if_neg h5,if_neg h5];by_cases h6:e.op=6;rw[if_pos h6,if_pos h6];rw[if_neg h6,if_neg h6]
theorem Lu(v:List Bool):∀(fu:Nat)(e:Ab),I1 e<=fu->okE e->mP fu e v=some (lA v e)
 |0,e,h,_=>by rw[wL]at h;omega
 |fu+1,e,h,ho=>by
  rw[wL]at h;have hd:∀x∈e.args,I1 x<=fu:=dpL_le.1 (by omega);obtain⟨hl,hox⟩:=okE_iff.1 ho;unfold ye at hl;have ih:∀x∈e.args,mP fu x v=some (lA v x):=λx hx=>Lu v fu x (hd x hx) (hox x hx);rw[Es];unfold mP opB;rw[node_eq,aA];dsimp only;by_cases h3:e.op=3;rw[if_pos h3,if_pos rfl,if_pos h3];by_cases h0:0<=e.var;rw[if_pos h0,decide_eq_true h0,yB];by_cases h1:e.var<(v.length:Int);have hx : v[e.var.toNat]? = some v[e.var.toNat] := gN (by omega);rw[if_pos h1,wC h0 hx,aA,qv,hx];rfl;rw [if_neg h1, aA, qv, lB (by omega)];rfl;rw[if_neg h0,decide_eq_false h0,Dn];rfl;rw[if_neg h3,if_neg h3];by_cases h4:e.op=4;rw[if_pos h4,if_pos h4];by_cases hz:0<e.args.length;rw [if_pos hz, if_neg (by decide), if_pos rfl];have hx:e.args[0]?=some e.args[0]:=gN hz;rw[show(0:Int)=((0:Nat):Int)from rfl,aJ hx,ih _ (fH hz),aA,fJ,kN]
  cases e with
  |mk a b c=>
   cases c with
   |nil=>simp at hz
   |cons y r=>rfl
  rw [if_neg hz, if_neg (by decide), if_neg (by decide), if_neg (by decide), if_neg (by decide), oT, decide_eq_false (by omega)]
  cases e with
  |mk a b c=>
   cases c with
   |nil=>rfl
   |cons y r=>simp at hz
  rw[if_neg h4,if_neg h4];by_cases h5:e.op=5;rw [if_pos h5, if_pos h5, if_neg (by decide), if_neg (by decide), if_pos rfl];rw[mE e.args (λx=>!lA v x) (.inr (.inr false)) (.inl ()) hl (λi x hx=>?_) (by rw[if_neg (by omega)];rfl)]
  cases ha:(e.args.map (lA v)).all id with
  |true=>
   rw[if_neg (by
    rw[zQU];rintro⟨x,hx,hc⟩;rw[zQT]at ha;have:=ha _ (y8 hx);simp only[id]at this;rw[this]at hc
    cases hc)]
   rfl
  |false=>
   rw[if_pos (by
    rw[zQU];rw[List.all_eq_false]at ha;obtain⟨y,hy,hc⟩:=ha;obtain⟨x,hx,rfl⟩:=zal96q.1 hy
    exact⟨x,hx,by simpa using hc⟩)]
   rfl
  have hi:=(zQQ.1 hx).1;rw[if_pos (by omega),aJ hx,ih x (lG hx),aA,aB (bG hi hl)];cases lA v x<;>simp;rw[if_neg h5,if_neg h5];by_cases h6:e.op=6;rw [if_pos h6, if_pos h6, if_neg (by decide), if_neg (by decide), if_neg (by decide), if_pos rfl];rw[mE e.args (λx=>lA v x) (.inr (.inr true)) (.inl ()) hl (λi x hx=>?_) (by rw[if_neg (by omega)];rfl)];rw[List.any_map,show(id ∘ lA v)=lA v from rfl];show dS (dS (some (if e.args.any (lA v)=true then Sum.inr (Sum.inr true)else Sum.inl ())) _) _=_;cases e.args.any (lA v);rw[if_neg (by simp)];rfl;rw[if_pos rfl];rfl;have hi:=(zQQ.1 hx).1;rw[if_pos (by omega),aJ hx,ih x (lG hx),aA,aB (bG hi hl)];cases lA v x<;>simp;rw[if_neg h6,if_neg h6,if_neg (by decide),if_neg (by decide),if_neg (by decide),if_neg (by decide),oT]
theorem Eval_eq{e:Ab}(v:List Bool)(hd:I1 e<=eO)(ho:okE e):fh e v=some (lA v e):=by
 unfold fh En;rw[Lu v eO e hd ho,aA]
def tF(n:Int)(op x:Int)(k:Nat):Bool:=
 if op=1\/op=2 then decide (x=0/\k=0)
 else if op=3 then decide (0<=x/\x<n/\k=0)
 else if op=4 then decide (k=1/\x=0)
 else if op=5\/op=6 then decide (x=0)
 else false
mutual
def oZ(n:Int):Ab->Bool
 |⟨op,x,l⟩=>tF n op x l.length&&wU n l
def wU(n:Int):List Ab->Bool
 |[]=>true
 |e::r=>oZ n e&&wU n r
end
theorem Lr{n:Int}:∀{l:List Ab},wU n l=true↔∀e∈l,oZ n e=true
 |[]=>by simp[wU]
 |e::r=>by rw[wU,wP,Lr (l:=r)];simp
def Yo(n:Int)(d left:Int)(e:Ab):Prop:=oZ n e=true/\d+(I1 e:Int)<=13/\(nU e:Int)<=left
instance (n d left:Int) (e:Ab):Decidable (Yo n d left e):=by unfold Yo;infer_instance
theorem Zq{σ ρ:Type}{f:σ->Option (σ ⊕ ρ)}(P:ρ->Prop)(I:Nat->σ->Prop){s:σ}(n:Nat)(hn:n<=ye)(h0:I 0 s)(hs:∀i,i<n->∀s,I i s->(∃s',f s=some (.inl s')/\I (i+1) s')\/(∃o,f s=some (.inr o)/\P o))(he:∀s,I n s->∃o,f s=some (.inr o)/\P o):∃o,bB f s=some o/\P o:=by
 suffices h:∀k i s,i+k=n->I i s->∃o,pN f (k+1) s=some o/\P o by
  obtain⟨o,h1,h2⟩:=h n 0 s (by omega) h0;exact⟨o,zG h1 (by unfold eO ye at *; omega),h2⟩
 intro k
 induction k with
 |zero=>
  intro i s hi hI;obtain⟨o,h1,h2⟩:=he s (by rw[show n=i by omega];exact hI);exact⟨o,by simp[pN,h1],h2⟩
 |succ k ih=>
  intro i s hi hI;rcases hs i (by omega) s hI with⟨s',h1,h2⟩|⟨o,h1,h2⟩
  obtain ⟨o, h3, h4⟩ := ih (i + 1) s' (by omega) h2;exact⟨o,by rw[pN,h1];exact h3,h4⟩;exact⟨o,by rw[pN,h1],h2⟩
abbrev valB(n:Int)(e:Ab):Bool:=decide (Yo n 1 20000 e)
variable {t:Al}{b:List Ap}{i:Nat}
def qCK(t:Al)(i j:Nat):Ab:=if j<i then qX [oU t j 3,oU t j 4]else oU t j 3
def Bh(t:Al)(i j:Nat)(r q:Ak):List Ab:=
 if(xl t j r q).1=true then[fS (qCK t i j)]else if(xl t j r q).2.length=0 then[]else[qX ([fS (qCK t i j)]++[fX ((xl t j r q).2.map (nM t j))])]
theorem Jg(i j:Nat)(r q:Ak):(Bh t i j r q).length<=1:=by
 unfold Bh;split;simp;split;simp;simp
theorem b_apart(hC:COk t)(ht:WfB t){j:Nat}{r q:Ak}(hr:t.Ac[i]?=some r)(hq:t.Ac[j]?=some q):kZ (Da t b) (i:Int) (j:Int)=some (Bh t i j r q):=by
 have hi:=(zQQ.1 hr).1;have hj:=(zQQ.1 hq).1;have hsh:=qAS (b:=b) hC ht hr hq;have hl:=(wO hC hj).2;unfold kZ Bh;rw[hsh.1,aA];have hk:=hsh.2;generalize xl t j r q=S at hk;obtain⟨w,l⟩:=S;dsimp only at hk⊢;rw[wY hC hj (show(0:Int)<=3 by omega) (show(3:Int)<=10 by omega),aA,wV,aA]
 have e1:(if(j:Int)<(i:Int)then aD (bQ (Kj t) (j:Int) (4:Int)) λr11=>aD (dH r11) λr12=>aD (fN ([vE (gR t j+3),r12]:List Ab)) λr13=>some (r13.op,r13.var,r13.args)else some ((vE (gR t j+3)).op,(vE (gR t j+3)).var,(vE (gR t j+3)).args))=some ((qCK t i j).op,(qCK t i j).var,(qCK t i j).args):=by
  unfold qCK;by_cases h:j<i;rw[if_pos (by omega),if_pos h,wY hC hj (by omega) (by omega),aA,wV,aA,F1,aA];rw[if_neg (by omega),if_neg h]
 rw[e1,aA];dsimp only;cases w;rw[if_neg gB,if_neg gB];by_cases h0:l.length=0;rw[if_pos (by omega),if_pos h0];rw [if_neg (by omega), if_neg h0, C8, aA, jW l (fun _ x => nM t j x) [] (by have := hk.1; dsimp only at this; omega) (fun x e B hx hB => ?_) (by dsimp only; rw [if_neg (by omega)]; rfl), aA, jQ, gE, Ff, aA, aB (by simp), F1, aA, Ab.eta];have hx':=(zQQ.1 hx).1;have hb:=hk.2 e (lG hx);have hk1:=hk.1;dsimp only at hk1;simp only[jO,fV]at hB;dsimp only;rw[if_pos (by omega),aJ hx,Ja hC hj (by omega) (by omega),aA,aB (by simp;omega),aB (bG hx' (by omega))];rw[if_pos rfl,if_pos rfl,C8,aA,Ab.eta]
def qp(s:Int):Ab:=vE (2*s+1)
def yf(t:Al)(x:Ad):Ab:=if x.pos=1 then fS (vE ((tE t:Int)+qU t x.el))else vE ((tE t:Int)+qU t x.el)
def Ot(t:Al)(x:Ad):Ab:=qX [yf t x,gG (mY t x.el)]
def pK(t:Al)(i:Nat)(r:Ak)(n:Nat):List Ab:=(List.range n).flatMap λj=>if j=i then[]else match t.Ac[j]? with|some q=>Bh t i j r q|none=>[]
theorem xa(i:Nat)(r:Ak):∀n,(pK t i r n).length<=n
 |0=>by simp[pK]
 |n+1=>by
  unfold pK;rw[qY,yA,kU];have h:=xa i r n;unfold pK at h
  have h2:(List.flatMap (λj=>if j=i then[]else match t.Ac[j]? with|some q=>Bh t i j r q|none=>[]) [n]).length<=1:=by
   simp only[List.flatMap_cons,List.flatMap_nil,lL];split;simp;split
   ·exact Jg _ _ _ _
   simp
  omega
theorem Oj(i:Nat)(r:Ak)(n:Nat):pK t i r (n+1)=pK t i r n++(if n=i then[]else match t.Ac[n]? with|some q=>Bh t i n r q|none=>[]):=by
 unfold pK;rw[qY,yA];simp
def Oh(t:Al)(i:Nat)(r:Ak):Ab:=fX ((([Fh t i 2,fS (oU t i 3)]++(r.Aa++r.Ae).map qp)++pK t i r t.Ac.length)++(fM (dI r)).map (Ot t))
theorem b_lie(hC:COk t){k:Int}(h0:0<=k)(h1:k<=100):gY (Kj t) k=some ((tE t:Int)+k):=by
 have hlm:=hC.lim;have h2:=(Ip t).1;have h3:=hC.base t.Ac.length;have h4:mZ t=cD t t.Ac.length:=rfl;unfold gY;dsimp only;rw[aB (by unfold bH;omega)]
theorem b_called(hC:COk t)(ht:WfB t){r:Ak}(hr:t.Ac[i]?=some r):kK (Da t b) (i:Int)=some (Oh t i r):=by
 have hi:=(zQQ.1 hr).1;have hm:=lG hr;have hlm:=hC.lim;have hsum:=hC.sum r hm;unfold xC at hsum;have hal:=nR (dI r);have hal2:(dI r).length<=200:=by simp only[dI,kU];omega
 unfold kK;dsimp only;rw[aJ hr,Jb hC hi (by omega) (by omega),aA,wY hC hi (by omega) (by omega),aA,wV,aA,C8,aA,xx _ ⟨by simp,by simp;omega⟩,aA];have hfl:[r.Aa,r.Ae].flatten=r.Aa++r.Ae:=by simp
 have hcl:(r.Aa++r.Ae).length<=200:=by rw[kU];omega
 rw[hfl,jW (r.Aa++r.Ae) (λ_ s=>qp s) _ (by omega) (λx s B hx hB=>?_) (by dsimp only;rw[if_neg (by omega)];rfl),aA,jQ];have hP : ([vE (uI t i + 2), fS (vE (gR t i + 3))] ++ (r.Aa ++ r.Ae).map qp).length <= 300 := by rw [kU, vg]; simp only [jF, jO]; omega
 unfold Oh;generalize ([vE (uI t i+2),fS (vE (gR t i+3))]++(r.Aa++r.Ae).map qp)=P at hP;rw[lR t.Ac.length (λn=>P++pK t i r n) (o:=P++pK t i r t.Ac.length) (by simp[pK]) (by omega) (λn hn=>?_) (by dsimp only;rw[if_neg (by omega)];rfl),aA];have hP2 : (P ++ pK t i r t.Ac.length).length <= 400 := by have := xa (t := t) i r t.Ac.length; rw [kU]; omega
 generalize (P++pK t i r t.Ac.length)=P2 at hP2;rw[hC.sok ht hm,aA,jW (fM (dI r)) (λ_ s=>Ot t s) _ (by omega) (λx s B hx hB=>?_) (by dsimp only;rw[if_neg (by omega)];rfl),aA,Ff,aA,jQ];have hx':=(zQQ.1 hx).1;have hxm:=lG hx;obtain⟨k,hk1,hk2,hk3,hk4,hk5⟩:=hC.home hm hxm;have hid:kA (dU t.Ag s.el)=qU t s.el:=rfl;dsimp only;rw[if_pos (by omega),aJ hx,sT t _ (by unfold rQ;omega),aA,hid,b_lie hC (by omega) (by omega),aA,wV,aA]
 have e1:(if s.pos=(1:Int)then aD (eG (vE ((tE t:Int)+qU t s.el))) λr56=>some (r56.op,r56.var,r56.args)else some ((vE ((tE t:Int)+qU t s.el)).op,(vE ((tE t:Int)+qU t s.el)).var,(vE ((tE t:Int)+qU t s.el)).args))=some ((yf t s).op,(yf t s).var,(yf t s).args):=by
  unfold yf;by_cases h:s.pos=1;rw[if_pos h,if_pos h,C8,aA];rw[if_neg h,if_neg h]
 rw[e1,aA];dsimp only;rw[hk1,aJ hk3,zP hk4 (by omega),aA,F1,aA,aB (by simp;omega),aB (bG hx' (by omega)),Ab.eta];rfl;have hlen : (P ++ pK t i r n).length <= 400 := by have := xa (t := t) i r n; rw [kU]; omega
 dsimp only;rw[Oj,<- List.append_assoc];generalize (P++pK t i r n)=B at hlen;rw[if_pos (by omega)];by_cases hni:n=i;rw[if_pos (by omega),if_pos hni,aB (bG hn (by omega)),lL];have hq:=gN hn;have hal3:=Jg (t:=t) i n r t.Ac[n];rw[if_neg (by omega),if_neg hni,b_apart hC ht hr hq,aA,hq];dsimp only;rw[aB (by rw[kU];omega),aB (bG hn (by omega))];have hx':=(zQQ.1 hx).1;have hs:=hC.sec_in hm (lG hx);simp only[jF,jO]at hB;dsimp only;rw[if_pos (by omega),aJ hx,b_sec hs.1 (by omega) (by omega) (by omega),aA,wV,aA,aB (by simp;omega),aB (bG hx' (by omega))];rfl
def bd(t:Al)(el:Int)(rev:Bool)(r:Ak)(i:Nat)(l:List Ad):List Ab:=(l.filter λx=>decide (x.el=el)&&(rev == decide (x.pos=2))).map λ_=>oU t i 4
theorem Dp(el:Int)(rev:Bool)(r:Ak)(i:Nat)(l:List Ad):(bd t el rev r i l).length<=l.length:=by
 unfold bd;rw[vg];exact List.length_filter_le _ _
theorem Hf(el:Int)(rev:Bool)(r:Ak)(i:Nat){l:List Ad}{k:Nat}{x:Ad}(h:l[k]?=some x):bd t el rev r i (l.take (k+1))=bd t el rev r i (l.take k)++if x.el=el/\(rev=decide (x.pos=2))then[oU t i 4]else[]:=by
 unfold bd;rw[mF,h,List.filter_append,mU]
 congr 1
 by_cases hx:x.el=el/\(rev=decide (x.pos=2));rw[if_pos hx];simp only[F4];rw[List.filter_cons_of_pos (by simp[hx.1,hx.2]),List.filter_nil];rfl;rw[if_neg hx];simp only[F4];rw[List.filter_cons_of_neg (by simpa using hx),List.filter_nil];rfl
def qH(t:Al)(el:Int)(rev:Bool)(n:Nat):List Ab:=(List.range n).flatMap λi=>match t.Ac[i]? with|some r=>bd t el rev r i (fM (dI r))|none=>[]
theorem vh(el:Int)(rev:Bool){n:Nat}{r:Ak}(hr:t.Ac[n]?=some r):qH t el rev (n+1)=qH t el rev n++bd t el rev r n (fM (dI r)):=by
 unfold qH;rw[qY,yA];simp[hr]
theorem zi(hC:COk t)(el:Int)(rev:Bool):∀n,(qH t el rev n).length<=200*n
 |0=>by simp[qH]
 |n+1=>by
  have h:=zi hC el rev n
  cases hr:t.Ac[n]? with
  |none=>
   have:qH t el rev (n+1)=qH t el rev n:=by
    unfold qH;rw[qY,yA];simp[hr]
   rw[this];omega
  |some r=>
   have h1:=Dp (t:=t) el rev r n (fM (dI r));have h2:=nR (dI r);have hsum:=hC.sum r (lG hr);unfold xC at hsum;have hal2:(dI r).length<=200:=by simp only[dI,kU];omega
   rw[vh el rev hr,kU];omega
def liesE(t:Al)(p:Nat)(el:Int):Ab:=qX [qX (qH t el true t.Ac.length),fX [vE ((tE t:Int)+(p:Int)),fS (qX (qH t el false t.Ac.length))]]
theorem b_lies(hC:COk t)(ht:WfB t){p:Nat}{el:Int}(hp:t.Ag[p]?=some el):lS (Da t b) (p:Int)=some (liesE t p el):=by
 have hpl:=(zQQ.1 hp).1;have hlm:=hC.lim;unfold lS;dsimp only;rw[lR t.Ac.length (λn=>(qH t el false n,qH t el true n)) (o:=(qH t el false t.Ac.length,qH t el true t.Ac.length)) (by simp[qH]) (by omega) (λn hn=>?_) (by dsimp only;rw[if_neg (by omega)];rfl),aA];dsimp only;rw[F1,aA,b_lie hC (by omega) (by omega),aA,wV,aA,F1,aA,C8,aA,Ff,aA,F1,aA];rfl;have hr:=gN hn;have hm:=fH hn;have hsum:=hC.sum _ hm;unfold xC at hsum;have hal:=nR (dI t.Ac[n]);have hal2:(dI t.Ac[n]).length<=200:=by simp only[dI,kU];omega
 have hw1:=zi hC el false n;have hw2:=zi hC el true n;dsimp only;rw[if_pos (by omega),aJ hr,hC.sok ht hm,aA,vh el false hr,vh el true hr];generalize qH t el false n=A at hw1;generalize qH t el true n=B at hw2;rw[lR (fM (dI t.Ac[n])).length (λk=>(A++bd t el false t.Ac[n] n ((fM (dI t.Ac[n])).take k),B++bd t el true t.Ac[n] n ((fM (dI t.Ac[n])).take k))) (o:=(A++bd t el false t.Ac[n] n (fM (dI t.Ac[n])),B++bd t el true t.Ac[n] n (fM (dI t.Ac[n])))) (by simp[bd]) (by omega) (λk hk=>?_) (by dsimp only;rw[if_neg (by omega),oD];rfl),aA];dsimp only;rw[aB (bG hn (by omega))];have hx:=gN hk;have hs:=hC.set_in hm (lG hx);have hv1:=Dp (t:=t) el false t.Ac[n] n ((fM (dI t.Ac[n])).take k);have hv2:=Dp (t:=t) el true t.Ac[n] n ((fM (dI t.Ac[n])).take k);rw[kO]at hv1 hv2;dsimp only;rw[if_pos (by omega),aJ hx,aJ hp,Hf el false _ _ hx,Hf el true _ _ hx];generalize bd t el false t.Ac[n] n ((fM (dI t.Ac[n])).take k)=A' at hv1;generalize bd t el true t.Ac[n] n ((fM (dI t.Ac[n])).take k)=B' at hv2;generalize (fM (dI t.Ac[n]))[k]=x at hs;by_cases h1:x.el=el;rw[if_pos h1];by_cases h2:x.pos=2;rw[if_pos h2,wY hC hn (by omega) (by omega),aA,wV,aA,aB (by simp;omega),aB (bG hk (by omega)),if_neg (by simp[h2]),if_pos (by simp[h1,h2]),lL,lM];rw[if_neg h2,wY hC hn (by omega) (by omega),aA,wV,aA,aB (by simp;omega),aB (bG hk (by omega)),if_pos (by simp[h1,h2]),if_neg (by simp[h2]),lL,lM];rw[if_neg h1,aB (bG hk (by omega)),if_neg (by simp[h1]),if_neg (by simp[h1]),lL,lL]
variable {t:Al}{b:List Ap}{i:Nat}
theorem dV{β:Type}{f:Nat->List β}{c:Nat}(h:∀i,(f i).length<=c)(n:Nat):((List.range n).flatMap f).length<=c*n:=by
 induction n with
 |zero=>simp
 |succ n ih=>
  rw[qY,yA,kU];have:=h n;simp only[List.flatMap_cons,List.flatMap_nil,lL,Nat.mul_add,Nat.mul_one];omega
theorem mT{β:Type}(f:Nat->List β)(n:Nat):(List.range (n+1)).flatMap f=(List.range n).flatMap f++f n:=by
 rw[qY,yA];simp
def rt{α:Type}(t:Al)(f:Nat->Ak->List α)(i:Nat):List α:=match t.Ac[i]? with|some r=>f i r|none=>[]
theorem em{α:Type}{f:Nat->Ak->List α}{r:Ak}(hr:t.Ac[i]?=some r):rt t f i=f i r:=by unfold rt;rw[hr]
def pt{α:Type}(t:Al)(f:Nat->Int->List α)(i:Nat):List α:=match t.Ag[i]? with|some r=>f i r|none=>[]
theorem Zk{α:Type}{f:Nat->Int->List α}{r:Int}(hr:t.Ag[i]?=some r):pt t f i=f i r:=by unfold pt;rw[hr]
theorem COk.sec24(hC:COk t){r:Ak}(hr:r∈t.Ac):r.Aa.length<=24:=by
 have h1:=((pR hC.chk).2.2.1 r hr).1;unfold qI at h1;simp only[wP]at h1;have h2:=h1.1.1.2;have hlm:=hC.lim;unfold E0 at h2;rw[allB_iff]at h2
 have hn:(r.Aa++r.Ae).Nodup:=by
  rw[rF];intro a c hac hcl;have h3:=h2 c hcl;rw[gx (gN hcl)]at h3;simp only[wP,lW,decide_eq_false_iff_not]at h3;rw[gN hcl,gN (show a<_ by omega)];intro he;have he2:=cC he;exact h3.2 (by rw[<- he2];exact zal103q.2 ⟨a,by omega,rfl⟩)
 have hsub:(r.Aa++r.Ae).map Int.toNat⊆List.range 24:=by
  intro x hx;obtain⟨s,hs,rfl⟩:=zal96q.1 hx;have:=hC.sec_in hr hs;rw[zal101q];omega
 have hn2:((r.Aa++r.Ae).map Int.toNat).Nodup:=by
  rw[rF];intro a c hac hcl;rw[vg]at hcl;rw[gm,gm,gN hcl,gN (show a<_ by omega)];simp only[kP];intro he;have he2:=cC he;have ha:=hC.sec_in hr (fH (show a<_ by omega));have hb:=hC.sec_in hr (fH hcl);have h4:(r.Aa++r.Ae)[a]'(by omega)=(r.Aa++r.Ae)[c]:=by omega
  rw[rF]at hn;exact hn a c hac hcl (by rw[gN hcl,gN (show a<_ by omega),h4])
 have h5:=List.Nodup.length_le_of_subset hn2 hsub;simp only[vg,kU,q8]at h5;omega
theorem COk.last24(hC:COk t)(i:Nat):bA t i<=23:=by
 unfold bA
 cases hr:t.Ac[i]? with
 |none=>simp
 |some r=>have:=hC.sec24 (lG hr);simp only;omega
def Fz:BA:=⟨#[46]⟩
def sN(w:BA)(i:Nat):BA:=(w++Fz)++qT i
theorem xU:∀i,i<100->(qT i).size<=2:=by decide+kernel
theorem Nw(hi:i<100):nL (i:Int)=some (qT i):=by
 unfold nL;rw[aB (by omega),show((i:Int)).toNat=i by omega]
theorem vY(hi:i<100)(ws:List BA)(hw:∀w∈ws,w.size<=1000)(hl:ws.length<=10){B:List BA}(hB:B.length<=100000):cX (i:Int) ws B=some (B++ws.map (sN · i)):=by
 unfold cX;rw[jW ws (λ_ w=>sN w i) B (by omega) (λx w B' hx hB'=>?_) (by dsimp only;rw[if_neg (by omega)];rfl),jQ];have hx':=(zQQ.1 hx).1;have h1:=hw w (lG hx);have h2:=xU i hi;have h3:(⟨#[46]⟩:BA).size=1:=rfl;dsimp only;rw[if_pos (by omega),aJ hx,aB (by omega),Nw hi,aA,aB (by rw[ve];omega),aB (by simp;omega),aB (bG hx' (by omega))];rfl
def Ox:BA:=⟨#[102,114,101,101]⟩
def wOpen:BA:=⟨#[111,112,101,110]⟩
def xi:BA:=⟨#[110,111,114,109,97,108]⟩
def ed:BA:=⟨#[114,101,118,101,114,115,101]⟩
def Hg:BA:=⟨#[117,110,99,108,97,105,109,101,100]⟩
def Y7:BA:=⟨#[112,97,115,115,101,100]⟩
def wCall:BA:=⟨#[99,97,108,108]⟩
def Y8:BA:=⟨#[99,97,110,99,101,108]⟩
def Ow:BA:=⟨#[108,105,101]⟩
def yb:BA:=⟨#[115,101,116]⟩
def pV:BA:=⟨#[99,108,101,97,114]⟩
def wR:BA:=⟨#[117,115,101,100]⟩
def wS:BA:=⟨#[104,101,108,100]⟩
def wRelD:BA:=⟨#[114,101,108,46]⟩
def Ov:BA:=⟨#[119,97,105,116]⟩
def Hh:BA:=⟨#[115,116,97,110,100]⟩
def wKeep:BA:=⟨#[107,101,101,112]⟩
def wUse:BA:=⟨#[117,115,101]⟩
def wHold:BA:=⟨#[104,111,108,100]⟩
def wAct:BA:=⟨#[97,99,116]⟩
def Y9:BA:=⟨#[99,97,108,108,101,100]⟩
def Fv(i:Nat):List BA:=[Ox,wOpen].map (sN · i)
def Gj(i:Nat):List BA:=[xi,ed].map (sN · i)
def Oo(i:Nat):List BA:=[Hg,Y7,wCall,Y8].map (sN · i)
def Wt(i:Nat):List BA:=[Ow].map (sN · i)
def ep(i n:Nat):List BA:=(List.range n).flatMap λk=>[wRelD++qT i].map (sN · k)
def Gi(t:Al)(i:Nat):List BA:=([yb,pV,wR,wS].map (sN · i)++ep i (bA t i))++[Ov,Hh].map (sN · i)
def nm6(i:Nat):List BA:=[wKeep,wUse,wHold,wAct,Y9].map (sN · i)
def mI(t:Al):List BA:=(((((List.range t.Aa.toNat).flatMap Fv++(List.range t.Ag.length).flatMap Gj)++(List.range t.Ac.length).flatMap Oo)++(List.range t.Ag.length).flatMap Wt)++(List.range t.Ac.length).flatMap (Gi t))++(List.range t.Ac.length).flatMap nm6
theorem nm5_len(t:Al)(i:Nat):(Gi t i).length=6+bA t i:=by
 unfold Gi ep;rw[kU,kU,eY (c:=1) (λ_=>rfl)];simp;omega
theorem zC(hC:COk t):∀n,n<=t.Ac.length->tE t+t.Ag.length+((List.range n).flatMap (Gi t)).length=cD t n
 |0,_=>by rw[Bf];simp
 |n+1,h=>by
  have hr:=gN (show n<t.Ac.length by omega);have h1:=zC hC n (by omega);have hsec:=hC.secs (fH (show n<t.Ac.length by omega));have hln:bA t n=t.Ac[n].Aa.length-1:=by unfold bA;rw[hr]
  have hw:W1 t.Ac[n]=5+t.Ac[n].Aa.length:=rfl;rw[mT,kU,Bg hr,nm5_len];omega
theorem ku(hC:COk t):(mI t).length=uL t:=by
 have h1:=eY (f:=Fv) (c:=2) (λ_=>rfl) t.Aa.toNat;have h2:=eY (f:=Gj) (c:=2) (λ_=>rfl) t.Ag.length;have h3:=eY (f:=Oo) (c:=4) (λ_=>rfl) t.Ac.length;have h4:=eY (f:=Wt) (c:=1) (λ_=>rfl) t.Ag.length;have h5:=zC hC t.Ac.length (Ks _);have h6:=eY (f:=nm6) (c:=5) (λ_=>rfl) t.Ac.length;unfold mI;simp only[kU,h1,h2,h3,h4,h6];have ha:uL t=mZ t+5*t.Ac.length:=rfl;have he:mZ t=cD t t.Ac.length:=rfl;unfold tE at *;omega
theorem sz4{ws:List BA}(h:ws.all (λw=>decide (w.size<=1000))=true):∀w∈ws,w.size<=1000:=by
 intro w hw;rw[zQT]at h;exact of_decide_eq_true (h w hw)
theorem names_eq(hC:COk t):jX (Kj t)=some (mI t):=by
 have hlm:=hC.lim;have hs:t.Aa=((t.Aa.toNat:Nat):Int):=by omega
 have h1:=eY (f:=Fv) (c:=2) (λ_=>rfl);have h2:=eY (f:=Gj) (c:=2) (λ_=>rfl);have h3:=eY (f:=Oo) (c:=4) (λ_=>rfl);have h4:=eY (f:=Wt) (c:=1) (λ_=>rfl);have h6:=eY (f:=nm6) (c:=5) (λ_=>rfl);unfold jX;dsimp only;rw[eI Fv [] t.Aa.toNat (by omega) (λi hi=>?_) (by dsimp only;rw[if_neg (by omega)];rfl),aA,gE];rw [eI Gj _ t.Ag.length (by omega) (fun i hi => ?_) (by dsimp only; rw [if_neg (by omega)]; rfl), aA]
 ·rw [eI Oo _ t.Ac.length (by omega) (fun i hi => ?_) (by dsimp only; rw [if_neg (by omega)]; rfl), aA]
  ·rw [eI Wt _ t.Ag.length (by omega) (fun i hi => ?_) (by dsimp only; rw [if_neg (by omega)]; rfl), aA]
   ·have hpl:((((List.range t.Aa.toNat).flatMap Fv++(List.range t.Ag.length).flatMap Gj)++(List.range t.Ac.length).flatMap Oo)++(List.range t.Ag.length).flatMap Wt).length=tE t+t.Ag.length:=by
     simp only[kU,h1,h2,h3,h4];unfold tE;omega
    unfold mI;generalize ((((List.range t.Aa.toNat).flatMap Fv++(List.range t.Ag.length).flatMap Gj)++(List.range t.Ac.length).flatMap Oo)++(List.range t.Ag.length).flatMap Wt)=P at hpl;rw[eI (Gi t) _ t.Ac.length (by omega) (λi hi=>?_) (by dsimp only;rw[if_neg (by omega)];rfl),aA]
    have hP2:(P++(List.range t.Ac.length).flatMap (Gi t)).length<=30000:=by
     have:=zC hC t.Ac.length (Ks _);have:=hC.base t.Ac.length;rw[kU];omega
    generalize P++(List.range t.Ac.length).flatMap (Gi t)=P2 at hP2;rw[eI nm6 _ t.Ac.length (by omega) (λi hi=>?_) (by dsimp only;rw[if_neg (by omega)];rfl),aA];dsimp only;rw[if_pos (by omega),vY (by omega) _ (sz4 (by decide)) (by simp) (by rw[kU,h6];omega),aA,aB (bG hi (by omega))];rfl
    have hlen:(P++(List.range i).flatMap (Gi t)).length<=30000:=by
     have:=zC hC i (by omega);have:=hC.base i;rw[kU];omega
    generalize P++(List.range i).flatMap (Gi t)=B at hlen;have hl:=wO hC hi;have hl2:=hC.last24 i;dsimp only;rw[if_pos (by omega),vY (by omega) _ (sz4 (by decide)) (by simp) (by omega),aA,hl.1,aA];have hB2:(B++[yb,pV,wR,wS].map (sN · i)).length<=30004:=by simp;omega
    rw[show B++Gi t i=(B++[yb,pV,wR,wS].map (sN · i))++ep i (bA t i)++[Ov,Hh].map (sN · i) by unfold Gi;simp only[lM]];rw[show([(⟨#[115,101,116]⟩:BA),(⟨#[99,108,101,97,114]⟩:BA),(⟨#[117,115,101,100]⟩:BA),(⟨#[104,101,108,100]⟩:BA)]:List BA)=[yb,pV,wR,wS]from rfl];generalize B++[yb,pV,wR,wS].map (sN · i)=B2 at hB2;rw[eI (λk=>[wRelD++qT i].map (sN · k)) B2 (bA t i) (by omega) (λk hk=>?_) (by dsimp only;rw[if_neg (by omega)];rfl),aA]
    have hB3:(B2++ep i (bA t i)).length<=30100:=by
     unfold ep;rw[kU,eY (c:=1) (λ_=>rfl)];omega
    unfold ep at hB3⊢;generalize (B2++(List.range (bA t i)).flatMap λk=>[wRelD++qT i].map (sN · k))=B3 at hB3;rw[vY (by omega) _ (sz4 (by decide)) (by simp) (by omega),aA,aA,aB (bG hi (by omega))];rfl;have hsz := xU i (by omega)
    have hlen3:(B2++(List.range k).flatMap λk=>[wRelD++qT i].map (sN · k)).length<=30100:=by
     rw[kU,eY (c:=1) (λ_=>rfl)];omega
    dsimp only;rw[if_pos (by omega),Nw (by omega),aA];rw[show(⟨#[114,101,108,46]⟩:BA)=wRelD from rfl];have hrs:wRelD.size=4:=rfl;rw[aB (by omega),vY (by omega) _ (by intro w hw;simp only[zal102q]at hw;subst hw;rw[ve];omega) (by simp) (by omega),aA,aB (bG hk (by omega))]
   dsimp only;rw[if_pos (by omega),vY (by omega) _ (sz4 (by decide)) (by simp) (by simp only[kU,h1,h2,h3,h4];omega),aA,aB (bG hi (by omega))];rfl
  dsimp only;rw[if_pos (by omega),vY (by omega) _ (sz4 (by decide)) (by simp) (by simp only[kU,h1,h2,h3];omega),aA,aB (bG hi (by omega))];rfl
 dsimp only;rw[if_pos (by omega),vY (by omega) _ (sz4 (by decide)) (by simp) (by simp only[kU,h1,h2];omega),aA,aB (bG hi (by omega))];rfl;dsimp only;rw[if_pos (by omega),gE,vY (by omega) _ (sz4 (by decide)) (by simp) (by simp only[h1];omega),aA,aB (bG hi (by omega))];rfl
def Gz(t:Al)(i:Nat)(r:Ak):List Ap:=[⟨1,gR t i+4,0,Oh t i r⟩]
def Vi(t:Al)(p:Nat)(el:Int):List Ap:=[⟨1,(tE t:Int)+(p:Int),0,liesE t p el⟩]
def B5(t:Al)(i:Nat):List Ap:=[⟨1,(cD t i:Int)+0,0,qX [oU t i 0,oU t i 4]⟩]
def Hq(t:Al):List Ap:=(List.range t.Ac.length).flatMap (rt t (Bx t))
def K0(t:Al):List Ap:=(List.range t.Ac.length).flatMap (rt t (Q2 t))
def Qe(t:Al):List Ap:=(List.range t.Ac.length).flatMap (rt t (Dr t))
def Zf(t:Al):List Ap:=(List.range t.Ac.length).flatMap (rt t (Gz t))
def rung5(t:Al):List Ap:=(List.range t.Ag.length).flatMap (pt t (Vi t))
def qk(t:Al):List Ap:=(List.range t.Ac.length).flatMap (B5 t)
def rungsT(t:Al):List Ap:=((((Hq t++K0 t)++Qe t)++Zf t)++rung5 t)++qk t
abbrev prgT(t:Al):Program:=⟨mI t,(tE t:Int),rungsT t⟩
theorem bi{α:Type}{f:Nat->Ak->List α}{c:Nat}(h:∀(i:Nat)(r:Ak),t.Ac[i]?=some r->(f i r).length<=c)(i:Nat):(rt t f i).length<=c:=by
 unfold rt
 cases hr:t.Ac[i]? with
 |none=>simp
 |some r=>exact h i r hr
theorem Hm(r:Ak):(Dr t i r).length=bA t i+3:=by unfold Dr;rw[kU,Dx];rfl
theorem uZ(f:Nat->Ak->List Ap){F:Int×List Ap->Option ((Int×List Ap) ⊕ List Ap)}(pre:List Ap)(hn:t.Ac.length<=1000){c:Nat}(hc:c<=1000)(hp:pre.length<=10000)(hf:∀(i:Nat)(r:Ak),t.Ac[i]?=some r->(f i r).length<=c)(hnn:t.Ac.length<=48)
  (hF:∀(i:Nat)(r:Ak)(B:List Ap),t.Ac[i]?=some r->B.length<=90000->F ((i:Int),B)=some (.inl ((i:Int)+1,B++f i r)))
  (he:∀B,F ((t.Ac.length:Int),B)=some (.inr B)):bB F (0,pre)=some (pre++(List.range t.Ac.length).flatMap (rt t f)):=by
 refine eI (rt t f) pre t.Ac.length (by omega) (λi hi=>?_) (he _);have hr:=gN hi
 have h1:((List.range i).flatMap (rt t f)).length<=48000:=by
  refine jL (dV (bi hf) i) ?_;have:c*i<=1000*48:=Bs hc (by omega);omega
 rw[hF i _ _ hr (by rw[kU];omega),em hr]
theorem Yw(h:TOk t)(ht:WfB t)(hs:zn t=true):lZ t=some (if iK t=0 then if 2000<uL t then(⟨[],0,[]⟩,2)else(prgT t,0)else(⟨[],0,[]⟩,iK t)):=by
 unfold lZ;rw[qBJ h hs,aA];by_cases hz:iK t=0;obtain⟨hT,h1,h2,h3⟩:=xk hs;have hC:COk t:=⟨h,h1,h2,h3,hz⟩;rw[if_pos hz,if_pos hz];by_cases ha:2000<uL t;rw[if_pos ha,if_pos ha];rfl;rw[if_neg ha,if_neg ha];have hlm:=hC.lim;dsimp only;rw[if_pos rfl];have l1:(Hq t).length<=2*t.Ac.length:=dV (bi λ_ _ _=>by simp[Bx]) _;have l2:(K0 t).length<=4*t.Ac.length:=dV (bi λ_ _ _=>by simp[Q2]) _;have l3:(Qe t).length<=30*t.Ac.length:=dV (bi λi _ _=>by rw[Hm];have:=hC.last24 i;omega) _;have l4:(Zf t).length<=1*t.Ac.length:=dV (bi λ_ _ _=>by simp[Gz]) _;have l5:(rung5 t).length<=1*t.Ag.length:=dV (λi=>by unfold pt;split<;>simp[Vi]) _;rw[uZ (t:=t) (Bx t) [] (c:=2) (by omega) (by omega) (by simp) (λ_ _ _=>by simp[Bx]) (by omega) (λi r B hr hB=>?_) (λB=>by dsimp only;rw[if_neg (by omega)];rfl),aA,gE];rw [uZ (t := t) (Q2 t) _ (c := 4) (by omega) (by omega) (by unfold Hq at l1; omega) (fun _ _ _ => by simp [Q2]) (by omega) (fun i r B hr hB => ?_) (fun B => by dsimp only; rw [if_neg (by omega)]; rfl), aA]
 ·rw [uZ (t := t) (Dr t) _ (c := 30) (by omega) (by omega) (by rw [kU]; unfold Hq at l1; unfold K0 at l2; omega) (fun i _ _ => by rw [Hm]; have := hC.last24 i; omega) (by omega) (fun i r B hr hB => ?_) (fun B => by dsimp only; rw [if_neg (by omega)]; rfl), aA]
  ·rw [uZ (t := t) (Gz t) _ (c := 1) (by omega) (by omega) (by simp only [kU]; unfold Hq at l1; unfold K0 at l2; unfold Qe at l3; omega) (fun _ _ _ => by simp [Gz]) (by omega) (fun i r B hr hB => ?_) (fun B => by dsimp only; rw [if_neg (by omega)]; rfl), aA]
   ·rw [eI (pt t (Vi t)) _ t.Ag.length (by omega) (fun p hp => ?_) (by dsimp only; rw [if_neg (by omega)]; rfl), aA]
    ·rw [eI (B5 t) _ t.Ac.length (by omega) (fun i hi => ?_) (by dsimp only; rw [if_neg (by omega)]; rfl), aA, names_eq hC, aA]
     ·rfl
     have l6 : ((List.range i).flatMap (B5 t)).length <= 1 * i := dV (fun _ => by simp [B5]) _;have hai:=hC.base t.Ac.length;dsimp only
     rw[if_pos (by omega),w7 hC hi (by omega) (by omega),aA,wY hC hi (by omega) (by omega),aA,wV,aA,wY hC hi (by omega) (by omega),aA,wV,aA,F1,aA,wy (by
      simp only[kU];unfold Hq at l1;unfold K0 at l2;unfold Qe at l3;unfold Zf at l4;unfold rung5 at l5;omega),aA,aB (bG hi (by omega))]
     rfl
    have l6 : ((List.range p).flatMap (pt t (Vi t))).length <= 1 * p := dV (fun i => by unfold pt; split <;> simp [Vi]) _;have hq:=gN hp;dsimp only
    rw[if_pos (by omega),b_lie hC (by omega) (by omega),aA,b_lies hC ht hq,aA,wy (by
      simp only[kU];unfold Hq at l1;unfold K0 at l2;unfold Qe at l3;unfold Zf at l4;omega),aA,aB (bG hp (by omega)),Zk hq]
    rfl
   have hi:=(zQQ.1 hr).1;dsimp only;rw[if_pos (by omega),wY hC hi (by omega) (by omega),aA,b_called hC ht hr,aA,wy (by omega),aA,aB (bG hi (by omega))];rfl
  have hi:=(zQQ.1 hr).1;dsimp only;rw[if_pos (by omega),b_state hC ht hr (by omega),aA,aB (bG hi (by omega))]
 have hi:=(zQQ.1 hr).1;dsimp only;rw[if_pos (by omega),Ym hC ht hr (by omega),aA,aB (bG hi (by omega))];have hi:=(zQQ.1 hr).1;dsimp only;rw[if_pos (by omega),b_timers hC hr (by omega),aA,aB (bG hi (by omega))];rw[if_neg hz,if_neg hz];dsimp only;rw[if_neg hz]
def E4(n inp:Int)(r:Ap):Bool:=(decide (r.kind=1/\r.A1=0)||decide (r.kind=2/\1<=r.A1/\r.A1<=1073741824))&&(decide (inp<=r.var/\r.var<n)&&valB n r.expr)
def wN(p:Go.Proofs.YtldaknhjmhlefaaGreatDoor.Program):Int:=
 if 2000<p.names.length then 2
 else if p.inputs<0\/(p.names.length:Int)<p.inputs then 1
 else if p.Ai.all (E4 (p.names.length:Int) p.inputs)=false then 1
 else if(p.Ai.map (·.var)).Nodup then 0 else 8
theorem nodup_take{l:List Int}:l.Nodup↔∀(i:Nat)(x:Int),l[i]?=some x->x∉l.take i:=by
 constructor;intro h i x hx hm;have hi:=(zQQ.1 hx).1;obtain⟨j,hj,he⟩:=zal103q.1 hm;rw[rF]at h;refine h j i (by omega) hi ?_;rw[hx,gN (by omega),he];intro h;rw[rF];intro a c hac hc he;have hx:=gN hc;rw[hx]at he;refine h c _ hx (zal103q.2 ⟨a,by omega,?_⟩);exact(zQQ.1 he).2
structure POk (p:Go.Proofs.YtldaknhjmhlefaaGreatDoor.Program):Prop where
 Ai:p.Ai.length<=1000000000
 names:p.names.length<=9000000000000000000
 exprs:∀r∈p.Ai,okE r.expr
theorem zO{p:Go.Proofs.YtldaknhjmhlefaaGreatDoor.Program}(h:wN p=0):p.names.length<=2000/\0<=p.inputs/\p.inputs<=(p.names.length:Int)/\(∀r∈p.Ai,E4 (p.names.length:Int) p.inputs r=true)/\(p.Ai.map (·.var)).Nodup:=by
 unfold wN at h;split at h;cases h;split at h
 ·cases h
 split at h
 ·cases h
 split at h
 ·rename_i h1 h2 h3 h4;refine⟨by omega,by omega,by omega,?_,h4⟩;rw[<- zQT];simpa using h3
 cases h
def vm(p:Go.Proofs.YtldaknhjmhlefaaGreatDoor.Program):Machine:=if wN p=0 then⟨List.replicate p.names.length false,List.replicate p.Ai.length 0,false⟩else⟨[],[],true⟩
def haltP(p:Go.Proofs.YtldaknhjmhlefaaGreatDoor.Program):Machine:=⟨(vm p).vars,(vm p).counts,true⟩
def cntB(r:Ap)(c:Int):Bool:=decide (0<=c/\c<=r.A1)
def qr(p:Go.Proofs.YtldaknhjmhlefaaGreatDoor.Program)(m:Machine):Bool:=decide (wN p=0/\m.vars.length=p.names.length/\m.counts.length=p.Ai.length)&&(List.zip p.Ai m.counts).all λx=>cntB x.1 x.2
def Ol(r:Ap)(v:Bool)(c:Int):Int×Bool:=if r.kind=2 then(if v=true then(if c<r.A1 then(c+1,decide (c+1=r.A1))else(c,decide (c=r.A1)))else(0,false))else(c,v)
def qj(V:List Bool)(x:Ap×Int):List Bool:=V.set x.1.var.toNat (Ol x.1 (lA V x.1.expr) x.2).2
def tG(l:List (Ap×Int))(V:List Bool):List Bool:=l.foldl qj V
theorem Dq(V:List Bool)(x:Ap×Int):(qj V x).length=V.length:=by unfold qj;rw[zal79q]
theorem Hs:∀(l:List (Ap×Int)) (V:List Bool),(tG l V).length=V.length
 |[],V=>rfl
 |x::l,V=>by
  show(tG l (qj V x)).length=V.length;rw[Hs l,Dq]
theorem Qh(a b:List (Ap×Int))(V:List Bool):tG (a++b) V=tG b (tG a V):=by unfold tG;rw[Ha]
def ww(l:List (Ap×Int))(V:List Bool):List Int:=l.mapIdx λi x=>(Ol x.1 (lA (tG (l.take i) V) x.1.expr) x.2).1
theorem I4(l:List (Ap×Int))(V:List Bool):(ww l V).length=l.length:=by simp[ww]
def inV(n:Nat)(I V:List Bool):List Bool:=(List.range n).map (λi=>I.getD i false)++V.drop n
theorem Nx{n:Nat}{I V:List Bool}(h:n<=V.length):(inV n I V).length=V.length:=by unfold inV;simp;omega
def E1(p:Go.Proofs.YtldaknhjmhlefaaGreatDoor.Program)(m:Machine)(I:List Bool):Machine:=
 if m.halted=true\/qr p m=false then haltP p
 else⟨tG (List.zip p.Ai m.counts) (inV p.inputs.toNat I m.vars),ww (List.zip p.Ai m.counts) (inV p.inputs.toNat I m.vars),false⟩
variable {t:Al}{b:List Ap}{i:Nat}
section nice
variable {n:Int}{d d' s s':Nat}{e:Ab}{l m:List Ab}
end nice
section vars
variable (hC:COk t)(hi:i<t.Ac.length)
include hC hi
end vars
section exprs
variable (hC:COk t){r:Ak}(hr:t.Ac[i]?=some r)
include hC hr
end exprs
variable {t:Al}{b:List Ap}{i:Nat}
theorem rt_mem{α:Type}{f:Nat->Ak->List α}{x:α}{n:Nat}:x∈(List.range n).flatMap (rt t f)↔∃i r,i<n/\t.Ac[i]?=some r/\x∈f i r:=by
 rw[zal94q];constructor;rintro⟨i,hi,hx⟩;unfold rt at hx
 cases hr:t.Ac[i]? with
 |none=>rw[hr]at hx;cases hx
 |some r=>rw[hr]at hx;exact⟨i,r,zal101q.1 hi,hr,hx⟩
 rintro⟨i,r,hi,hr,hx⟩;exact⟨i,zal101q.2 hi,by rw[em hr];exact hx⟩
theorem pt_mem{α:Type}{f:Nat->Int->List α}{x:α}{n:Nat}:x∈(List.range n).flatMap (pt t f)↔∃i r,i<n/\t.Ag[i]?=some r/\x∈f i r:=by
 rw[zal94q];constructor;rintro⟨i,hi,hx⟩;unfold pt at hx
 cases hr:t.Ag[i]? with
 |none=>rw[hr]at hx;cases hx
 |some r=>rw[hr]at hx;exact⟨i,r,zal101q.1 hi,hr,hx⟩
 rintro⟨i,r,hi,hr,hx⟩;exact⟨i,zal101q.2 hi,by rw[Zk hr];exact hx⟩
variable {t:Al}{b:List Ap}{i:Nat}
abbrev plT(t:Al):Pd:=⟨2*t.Aa,2*t.Aa+2*(t.Ag.length:Int),(tE t:Int),(mZ t:Int),(uL t:Int),rO t t.Ac.length⟩
abbrev kj(t:Al)(b:List Ap):Ao:=⟨t,plT t,b⟩
theorem v7(x:Int):fU x=some (vE x):=rfl
theorem qB(l:List Ab):fI l=some (fX l):=rfl
theorem wa(l:List Ab):jH l=some (qX l):=rfl
theorem tB(e:Ab):fP e=some (fS e):=rfl
theorem D5(hC:COk t)(hi:i<t.Ac.length):fR (kj t b) (i:Int)=some (bA t i:Int)/\bA t i<=200:=by
 have hr:=gN hi;have hsec:=hC.secs (fH hi);have hln:bA t i=t.Ac[i].Aa.length-1:=by unfold bA;rw[hr]
 refine⟨?_,by omega⟩;unfold fR;dsimp only;rw[aJ hr,aB (by unfold bH;omega),hln,show((t.Ac[i].Aa.length:Int)-1)=((t.Ac[i].Aa.length-1:Nat):Int) by omega]
theorem wK{s:Int}(h0:0<=s)(h1:s<=1000):dB (kj t b) s=some (gG s):=by
 unfold dB;rw[aB (by unfold bH;omega),v7,aA]
theorem kl(hC:COk t)(hi:i<t.Ac.length){k:Int}(h0:0<=k)(h1:k<=1000):bP (kj t b) (i:Int) k=some (qE t i k):=by
 have:=hC.base i;unfold bP;dsimp only;rw[aJ (x8 hi),aB (by unfold bH;omega),v7,aA]
theorem xn(hC:COk t)(hi:i<t.Ac.length){k:Int}(h0:0<=k)(h1:k<=1000):dM (kj t b) (i:Int) k=some (Fh t i k):=by
 have hlm:=hC.lim;unfold dM;dsimp only;rw[aB (by unfold bH;omega),aB (by unfold bH;omega),aB (by unfold bH;omega),v7,aA];rfl
theorem Qy(hC:COk t)(hi:i<t.Ac.length){k:Int}(h0:0<=k)(h1:k<=900):eZ (kj t b) (i:Int) k=some (nM t i k):=by
 have:=hC.base i;unfold eZ;dsimp only;rw[aJ (x8 hi),aB (by unfold bH;omega),aB (by unfold bH;omega),v7,aA,Int.add_assoc]
theorem qo(hC:COk t)(hi:i<t.Ac.length){k:Int}(h0:0<=k)(h1:k<=10):bW (kj t b) (i:Int) k=some (oU t i k):=by
 have hlm:=hC.lim;have:mZ t<=30000:=hC.base t.Ac.length;unfold bW;dsimp only;rw[aB (by unfold bH;omega),aB (by unfold bH;omega),aB (by unfold bH;omega),v7,aA];rfl
theorem Ge(hC:COk t)(hi:i<t.Ac.length){k:Int}(h0:0<=k)(h1:k<=10):fF (kj t b) (i:Int) k=some (vE ((cD t i:Int)+4+(bA t i:Int)+k)):=by
 have:=hC.base i;have hl:=D5 (b:=b) hC hi;unfold fF;dsimp only;rw[aJ (x8 hi),aB (by unfold bH;omega),hl.1,aA,aB (by unfold bH;omega),aB (by unfold bH;omega),v7,aA]
theorem v8{x:Int}{e:Ab}(hb:b.length<=100000):dY (kj t b) (vE x) e=some (kj t (b++[⟨1,x,0,e⟩])):=by
 unfold dY;dsimp only;rw[aB (by simp;omega)]
theorem Eg{β ρ:Type}(n:Nat)(f:Nat->β)(pre:List β){F:Int×List β->Option ((Int×List β) ⊕ ρ)}{o:ρ}(hn:n<=9223372036854775807)(hF:∀(i:Nat)(B:List β),i<n->B.length=pre.length+i->F ((i:Int),B)=some (.inl ((i:Int)+1,B++[f i])))
  (he:F ((n:Int),pre++(List.range n).map f)=some (.inr o)):bB F (0,pre)=some o:=by
 refine lR n (λi=>pre++(List.range i).map f) (by simp) hn (λi hi=>?_) he;rw[hF i _ hi (by simp),Ic,lM]
theorem qCA{r:Ak}(hr:t.Ac[i]?=some r)(hs:0<r.Aa.length):(r.Aa.mapIdx λx s=>if x<bA t i then qX [nM t i (x:Int),gG s]else gG s)=(List.range (bA t i)).map (λ(k:Nat)=>qX [nM t i (k:Int),gG (wJ r k)])++[gG (ff t i r)]:=by
 have hln:bA t i=r.Aa.length-1:=by unfold bA;rw[hr]
 apply tH;intro k;rw[va];by_cases hk:k<bA t i;rw [G9 (by simpa using hk), gm, Mh hk, gN (show k < r.Aa.length by omega)];simp only[kP];rw[if_pos hk];unfold wJ;rw[qv,gN (show k<r.Aa.length by omega)];rfl;rw [Dm (by simpa using hk)];simp only[vg,q8];by_cases he:k=bA t i;subst he;rw[gl,gN (show bA t i<r.Aa.length by omega)];simp only[kP,G8];rw[if_neg (by omega)];unfold ff;rw[qv,gN (show bA t i<r.Aa.length by omega)];rfl;rw [lB (show r.Aa.length <= k by omega), lB (by simp; omega)];rfl
theorem r_empt(hC:COk t){r:Ak}(hr:t.Ac[i]?=some r):iO (kj t b) (i:Int)=some (fk t i r):=by
 have hi:=(zQQ.1 hr).1;have hm:=lG hr;have hlm:=hC.lim;have hsec:=hC.secs hm;have hln:bA t i=r.Aa.length-1:=by unfold bA;rw[hr]
 have hs:=Cq hC hr;have hll:((r.Aa.length:Int)-1)=(bA t i:Int):=by omega
 unfold iO;dsimp only;rw[aJ hr,Eg (bA t i) (λ(k:Nat)=>qX [nM t i (k:Int),gG (wJ r k)]) [] (by omega) (λk B hk hB=>?_) (by dsimp only;rw[aB (by unfold bH;omega),if_neg (by omega)];rfl),aA];rw [aB (by unfold bH; omega), hll, aJ hs.1, wK hs.2.1 (by omega), aA, aB (by simp; omega), qB, aA];unfold fk;rw[qCA hr hsec.1,gE];have hk1 := xN hC hm (k := k) (by omega);simp only[jO,fV]at hB;dsimp only;rw[aB (by unfold bH;omega),if_pos (by omega),Qy hC hi (by omega) (by omega),aA,aJ hk1.1,wK hk1.2.1 (by omega),aA,wa,aA,aB (by simp;omega),aB (by unfold bH;omega)]
def qCU(t:Al)(i k:Nat):Ab:=fX ((if 0<k then[nM t i ((k:Int)-1)]else[])++if k<bA t i then[fS (nM t i (k:Int))]else[])
theorem r_at(hC:COk t)(hi:i<t.Ac.length){k:Nat}(hk:k<=500):jA (kj t b) (i:Int) (k:Int)=some (qCU t i k):=by
 have hl:=D5 (b:=b) hC hi;unfold jA qCU
 have e1:(if(0:Int)<(k:Int)then aE (bH ((k:Int)-1)) (aD (eZ (kj t b) (i:Int) ((k:Int)-1)) λr5=>aE ((([]:List Ab)++([r5]:List Ab)).length<=1000000000) (some (([]:List Ab)++([r5]:List Ab))))else some [])=some (if 0<k then[nM t i ((k:Int)-1)]else[]):=by
  by_cases h0:0<k;rw[if_pos (by omega),aB (by unfold bH;omega),Qy hC hi (by omega) (by omega),aA,aB (by simp),if_pos h0];rfl;rw[if_neg (by omega),if_neg h0]
 rw[e1,aA,hl.1,aA];have hl0:(if 0<k then[nM t i ((k:Int)-1)]else[]).length<=2:=by split<;>simp
 generalize (if 0<k then[nM t i ((k:Int)-1)]else[])=L at hl0;by_cases h0:k<bA t i;rw[if_pos (by omega),Qy hC hi (by omega) (by omega),aA,tB,aA,aB (by simp;omega),aA,qB,aA,if_pos h0];rw[if_neg (by omega),aA,qB,aA,if_neg h0,lL]
def tmX(t:Al)(i:Nat)(k:Int):Int:=(cD t i:Int)+4+(bA t i:Int)+k
def gq(t:Al)(i:Nat)(r:Ak):List Ap:=[⟨2,tmX t i 0,12,fX [qE t i 3,Fh t i 0,fk t i r]⟩,⟨2,tmX t i 1,4,fX [qE t i 2,qCU t i (bA t i),Fh t i 0,fS (gG (ff t i r))]⟩]
theorem r_timers(hC:COk t){r:Ak}(hr:t.Ac[i]?=some r)(hb:b.length<=90000):kV (kj t b) (i:Int)=some (kj t (b++gq t i r)):=by
 have hi:=(zQQ.1 hr).1;have hm:=lG hr;have hlm:=hC.lim;have hl:=D5 (b:=b) hC hi;have hs:=Cq hC hr;unfold kV;dsimp only;rw[hl.1,aA,aJ hr,aJ hs.1,wK hs.2.1 (by omega),aA,kl hC hi (by omega) (by omega),aA,xn hC hi (by omega) (by omega),aA,r_empt hC hr,aA,qB,aA,kl hC hi (by omega) (by omega),aA,r_at hC hi (by omega),aA,aA,tB,aA,qB,aA,Ge hC hi (by omega) (by omega),aA];dsimp only;rw[aB (by simp;omega),Ge hC hi (by omega) (by omega),aA,aB (by simp;omega)];simp only[lM];rfl
theorem Xo(hC:COk t)(ht:WfB t){r:Ak}(hr:t.Ac[i]?=some r):gW (kj t b) (i:Int)=some (qR t r):=by
 have hi:=(zQQ.1 hr).1;have hm:=lG hr;have hlm:=hC.lim;have hsum:=hC.sum r hm;unfold xC at hsum;have hal:=nR (dI r);have hal2:(dI r).length<=200:=by simp only[dI,kU];omega
 unfold gW;dsimp only;rw[aJ hr,jW r.Aa (λ_ s=>gG s) [] (by omega) (λx s B hx hB=>?_) (by dsimp only;rw[if_neg (by omega)];rfl),aA,jQ,gE];rw [jW r.Ae (fun _ s => gG s) _ (by omega) (fun x s B hx hB => ?_) (by dsimp only; rw [if_neg (by omega)]; rfl), aA, jQ, <- List.map_append]
 ·rw[sC r (hC.ok.each r hm),aA];have hP:((r.Aa++r.Ae).map gG).length<=200:=by simp only[vg,kU];omega
  unfold qR;generalize (r.Aa++r.Ae).map gG=P at hP;rw[jW (fM (dI r)) (λ_ s=>Xq t s) _ (by omega) (λx s B hx hB=>?_) (by dsimp only;rw[if_neg (by omega)];rfl),aA,jQ,qB,aA];have hx':=(zQQ.1 hx).1;have hsi:=hC.set_in hm (lG hx);have hid:kA (dU t.Ag s.el)=qU t s.el:=rfl;dsimp only;rw[if_pos (by omega),aJ hx,kz t _ (by unfold rQ;omega),aA,hid,aB (by unfold bH;omega),aB (by unfold bH;omega),aJ hx,aB (by unfold bH;omega),aB (by unfold bH;omega),v7,aA,aB (by simp;omega),aB (bG hx' (by omega))];unfold Xq;have hk:s.pos-1=(if s.pos=2 then(1:Int)else 0):=by split<;>omega
  rw[<- hk,show 2*t.Aa+2*qU t s.el+s.pos-1=2*t.Aa+2*qU t s.el+(s.pos-1) by omega]
 have hx':=(zQQ.1 hx).1;have hs:=hC.sec_in hm (G4 _ (lG hx));simp only[vg]at hB;dsimp only;rw[if_pos (by omega),aJ hx,wK hs.1 (by omega),aA,aB (by simp;omega),aB (bG hx' (by omega))];have hx':=(zQQ.1 hx).1;have hs:=hC.sec_in hm (sJ _ (lG hx));simp only[jO,fV]at hB;dsimp only;rw[if_pos (by omega),aJ hx,wK hs.1 (by omega),aA,aB (by simp;omega),aB (bG hx' (by omega))]
def Cu(t:Al)(i:Nat)(r:Ak):Ab:=fX [Fh t i 3,fk t i r]
theorem r_giv(hC:COk t){r:Ak}(hr:t.Ac[i]?=some r):iI (kj t b) (i:Int)=some (Cu t i r):=by
 have hi:=(zQQ.1 hr).1;unfold iI;rw[xn hC hi (by omega) (by omega),aA,r_empt hC hr,aA,qB,aA];rfl
def wm(t:Al)(i:Nat)(r:Ak):Ab:=qX ((List.range (bA t i+1)).map λk=>fX [qCU t i k,gG (wJ r k)])
theorem r_here(hC:COk t){r:Ak}(hr:t.Ac[i]?=some r):kM (kj t b) (i:Int)=some (wm t i r):=by
 have hi:=(zQQ.1 hr).1;have hm:=lG hr;have hlm:=hC.lim;have hl:=D5 (b:=b) hC hi;have hsec:=hC.secs hm;have hln:bA t i=r.Aa.length-1:=by unfold bA;rw[hr]
 unfold kM;rw[Eg (bA t i+1) (λk=>fX [qCU t i k,gG (wJ r k)]) [] (by omega) (λk B hk hB=>?_) (by dsimp only;rw[hl.1,aA,if_neg (by omega)];rfl),aA,wa,aA,gE];rfl;have hk1 := xN hC hm (k := k) (by omega);simp only[jO,fV]at hB;dsimp only;rw[hl.1,aA,if_pos (by omega),r_at hC hi (by omega),aA,aJ hr,aJ hk1.1,wK hk1.2.1 (by omega),aA,qB,aA,aB (by simp;omega),aB (by unfold bH;omega)]
def zk(t:Al)(i:Nat)(r:Ak):Ab:=qX [fX [qE t i 1,fS (gG (nZ r))],fX [qE t i 3,fS (wm t i r)],fX [qE t i 2,qX [fS (Fh t i 0),fX [fS (Cu t i r),fS (fX [qCU t i (bA t i),gG (ff t i r)]),fS (vE (tmX t i 1))]]]]
def zI(t:Al)(i:Nat)(r:Ak):Ab:=qX [fX [qE t i 1,gG (nZ r),qX [Fh t i 3,fS (qR t r)],fS (fX [Fh t i 3,Fh t i 0,gG r.A5])],fX [qE t i 2,Fh t i 0,Cu t i r],fX [qE t i 3,wm t i r,fS (vE (tmX t i 0))]]
def Mr(t:Al)(i:Nat)(r:Ak)(k:Nat):Ab:=fX [qX [oU t i 1,oU t i 2],qX [nM t i (k:Int),fX [qE t i 2,Fh t i 0,fS (Cu t i r),qCU t i k,gG (wJ r k),qX [fS (gG (wJ r (k+1))),Fh t i 1]]]]
def qA(t:Al)(i:Nat)(r:Ak)(n:Nat):List Ap:=(List.range n).map λj=>⟨1,(cD t i:Int)+(4+((bA t i-1-j:Nat):Int)),0,Mr t i r (bA t i-1-j)⟩
theorem Dw(r:Ak)(n:Nat):(qA t i r n).length=n:=by unfold qA;simp
def vW(t:Al)(i:Nat)(r:Ak):List Ap:=([⟨1,gR t i+0,0,bw t i r⟩,⟨1,gR t i+1,0,zk t i r⟩,⟨1,gR t i+2,0,zI t i r⟩,⟨1,(cD t i:Int)+1,0,nC t i r⟩]++qA t i r (bA t i))++[⟨1,(cD t i:Int)+2,0,oU t i 1⟩,⟨1,(cD t i:Int)+3,0,oU t i 2⟩,⟨1,gR t i+3,0,qX [oU t i 0,qE t i 1,qE t i 2,qE t i 3]⟩]
theorem D6(r:Ak):(vW t i r).length=bA t i+7:=by unfold vW;rw[kU,kU,Dw];simp;omega
theorem Xp(hC:COk t)(ht:WfB t){r:Ak}(hr:t.Ac[i]?=some r)(hb:b.length<=90000):jU (kj t b) (i:Int)=some (kj t (b++vW t i r)):=by
 have hi:=(zQQ.1 hr).1;have hm:=lG hr;have hlm:=hC.lim;have hl (b:List Ap):=D5 (b:=b) hC hi;have hl2:=(hl b).2;have hs:=Cq hC hr;have hf:=wo hC hm;have ha:=hC.appr hm;have hsec:=hC.secs hm;have hln:bA t i=r.Aa.length-1:=by unfold bA;rw[hr]
 have g0:bC r.Aa (0:Int)=λ(k:Int->Option Ao)=>k (nZ r):=by funext k;exact aJ (i:=0) hf.1
 have rr:∀(b:List Ap),dM (kj t b) (i:Int) 0=some (Fh t i 0)/\dM (kj t b) (i:Int) 3=some (Fh t i 3)/\dM (kj t b) (i:Int) 1=some (Fh t i 1):=λb=>⟨xn hC hi (by omega) (by omega),xn hC hi (by omega) (by omega),xn hC hi (by omega) (by omega)⟩;have st:∀(b:List Ap),bP (kj t b) (i:Int) 0=some (qE t i 0)/\bP (kj t b) (i:Int) 1=some (qE t i 1)/\bP (kj t b) (i:Int) 2=some (qE t i 2)/\bP (kj t b) (i:Int) 3=some (qE t i 3):=λb=>⟨kl hC hi (by omega) (by omega),kl hC hi (by omega) (by omega),kl hC hi (by omega) (by omega),kl hC hi (by omega) (by omega)⟩;have au:∀(b:List Ap),bW (kj t b) (i:Int) 0=some (oU t i 0)/\bW (kj t b) (i:Int) 1=some (oU t i 1)/\bW (kj t b) (i:Int) 2=some (oU t i 2)/\bW (kj t b) (i:Int) 3=some (oU t i 3):=λb=>⟨qo hC hi (by omega) (by omega),qo hC hi (by omega) (by omega),qo hC hi (by omega) (by omega),qo hC hi (by omega) (by omega)⟩;have tm:∀(b:List Ap),fF (kj t b) (i:Int) 0=some (vE (tmX t i 0))/\fF (kj t b) (i:Int) 1=some (vE (tmX t i 1)):=λb=>⟨Ge hC hi (by omega) (by omega),Ge hC hi (by omega) (by omega)⟩;unfold jU;dsimp only;rw[aJ hr,(hl b).1,aA,(rr b).1,aA,(rr b).2.1,aA,g0];dsimp only;rw[wK hf.2.1 (by omega),aA,aJ hs.1,wK hs.2.1 (by omega),aA,(au b).1,aA,(st b).1,aA,tB,aA,Xo hC ht hr,aA,tB,aA,qB,aA,v8 (by omega),aA];dsimp only;generalize hb1:b++[⟨1,gR t i+0,0,fX [vE ((cD t i:Int)+0),fS (vE (uI t i+3)),fS (qR t r)]⟩]=b1;have hl1:b1.length=b.length+1:=by rw[<- hb1];simp
 rw[tB,aA,r_giv hC hr,aA,tB,aA,r_at hC hi (by omega),aA,qB,aA,tB,aA,(tm b1).2,aA,tB,aA,qB,aA,wa,aA,(au b1).2.1,aA,(st b1).2.1,aA,tB,aA,qB,aA,(st b1).2.2.2,aA,r_here hC hr,aA,tB,aA,qB,aA,(st b1).2.2.1,aA,qB,aA,wa,aA,v8 (by omega),aA];dsimp only;rw[show qX [fX [vE ((cD t i:Int)+1),fS (gG (nZ r))],fX [vE ((cD t i:Int)+3),fS (wm t i r)],fX [vE ((cD t i:Int)+2),qX [fS (vE (uI t i+0)),fX [fS (Cu t i r),fS (fX [qCU t i (bA t i),gG (ff t i r)]),fS (vE (tmX t i 1))]]]]=zk t i r from rfl];generalize hb2:b1++[⟨1,gR t i+1,0,zk t i r⟩]=b2;have hl2':b2.length=b.length+2:=by rw[<- hb2];simp;omega
 rw[wK ha.1 (by omega),aA,qB,aA,(au b2).2.2.1,aA,(st b2).2.1,aA,Xo hC ht hr,aA,tB,aA,wa,aA,tB,aA,qB,aA,(st b2).2.2.1,aA,r_giv hC hr,aA,qB,aA,(st b2).2.2.2,aA,r_here hC hr,aA,(tm b2).1,aA,tB,aA,qB,aA,wa,aA,v8 (by omega),aA];dsimp only;rw[show qX [fX [vE ((cD t i:Int)+1),gG (nZ r),qX [vE (uI t i+3),fS (qR t r)],fS (fX [vE (uI t i+3),vE (uI t i+0),gG r.A5])],fX [vE ((cD t i:Int)+2),vE (uI t i+0),Cu t i r],fX [vE ((cD t i:Int)+3),wm t i r,fS (vE (tmX t i 0))]]=zI t i r from rfl];generalize hb3:b2++[⟨1,gR t i+2,0,zI t i r⟩]=b3;have hl3:b3.length=b.length+3:=by rw[<- hb3];simp;omega
 rw[(st b3).2.1,aA,(st b3).1,aA,aA,wa,aA,aA,Xo hC ht hr,aA,qB,aA,v8 (by omega),aA];dsimp only;generalize hb4:b3++[⟨1,(cD t i:Int)+1,0,fX [qX [vE ((cD t i:Int)+0),vE ((cD t i:Int)+1)],fS (vE (uI t i+3)),qR t r]⟩]=b4;have hl4:b4.length=b.length+4:=by rw[<- hb4];simp;omega
 rw[aB (by unfold bH;omega),oG (λj=>((bA t i:Int)-1-(j:Int),b4++qA t i r j)) (bA t i) (o:=b4++qA t i r (bA t i)) (by simp[qA]) (by omega) (λj hj=>?_) (by dsimp only;rw[if_neg (by omega)];rfl),aA];have hlen : (b4 ++ qA t i r (bA t i)).length <= 91000 := by rw [kU, Dw]; omega
 generalize hb5:b4++qA t i r (bA t i)=b5 at hlen;rw[(st b5).2.2.1,aA,(au b5).2.1,aA,v8 (by omega),aA];dsimp only;rw[(st _).2.2.2,aA,(au _).2.2.1,aA,v8 (by simp;omega),aA];dsimp only;rw[(au _).2.2.2,aA,(au _).1,aA,(st _).2.1,aA,(st _).2.2.1,aA,(st _).2.2.2,aA,wa,aA,v8 (by simp;omega),aA];dsimp only;rw[<- hb5,<- hb4,<- hb3,<- hb2,<- hb1];unfold vW;simp only[lM,zb,gE];rfl;have hlen : (b4 ++ qA t i r j).length <= 91000 := by rw [kU, Dw]; omega
 have hstep:b4++qA t i r (j+1)=(b4++qA t i r j)++[⟨1,(cD t i:Int)+(4+((bA t i-1-j:Nat):Int)),0,Mr t i r (bA t i-1-j)⟩]:=by
  unfold qA;rw[Ic,lM]
 rw[hstep];generalize b4++qA t i r j=B at hlen;obtain⟨k,hk⟩:∃k:Nat,k=bA t i-1-j:=⟨_,rfl⟩;rw[<- hk];have hkI:(bA t i:Int)-1-(j:Int)=(k:Int):=by omega
 have hk1:=xN hC hm (k:=k) (by omega);have hk2:=xN hC hm (k:=k+1) (by omega);dsimp only;rw[hkI,if_pos (by omega),aB (by unfold bH;omega),show((k:Int)+1)=((k+1:Nat):Int) by omega,aJ hk2.1,wK hk2.2.1 (by omega),aA,tB,aA,(rr B).2.2,aA,wa,aA,(st B).2.2.1,aA,r_giv hC hr,aA,tB,aA,r_at hC hi (by omega),aA,aJ hk1.1,wK hk1.2.1 (by omega),aA,qB,aA,Qy hC hi (by omega) (by omega),aA,(au B).2.1,aA,(au B).2.2.1,aA,wa,aA,aA,wa,aA,qB,aA,v8 (by omega),aA,aB (by unfold bH;omega)];unfold Mr;rw[show((k:Int)-1)=(bA t i:Int)-1-((j+1:Nat):Int) by omega]
variable {t:Al}{b:List Ap}{i:Nat}
theorem qBU:∀i:Nat,i<100->xH (i:Int)=some (qT i):=by decide+kernel
theorem kR(hi:i<100){w:BA}(hw:w.size<=1000):eS w (i:Int)=some (sN w i):=by
 have h2:=xU i hi;have h3:(⟨#[46]⟩:BA).size=1:=rfl;unfold eS;rw[aB (by omega),qBU i hi,aA,aB (by rw[ve];omega)];rfl
def Fi:BA:=⟨#[114,101,108]⟩
theorem relD(i:Nat):sN Fi i=wRelD++qT i:=by
 unfold sN;rw[show Fi++Fz=wRelD from rfl]
theorem Names_eq(hC:COk t):vN t=some (mI t,(tE t:Int)):=by
 have hlm:=hC.lim;have hs:t.Aa=((t.Aa.toNat:Nat):Int):=by omega
 have h1:=eY (f:=Fv) (c:=2) (λ_=>rfl);have h2:=eY (f:=Gj) (c:=2) (λ_=>rfl);have h3:=eY (f:=Oo) (c:=4) (λ_=>rfl);have h4:=eY (f:=Wt) (c:=1) (λ_=>rfl);have h6:=eY (f:=nm6) (c:=5) (λ_=>rfl);unfold vN;dsimp only;rw[eI Fv [] t.Aa.toNat (by omega) (λi hi=>?_) (by dsimp only;rw[if_neg (by omega)];rfl),aA,gE];rw [eI Gj _ t.Ag.length (by omega) (fun i hi => ?_) (by dsimp only; rw [if_neg (by omega)]; rfl), aA]
 ·rw [eI Oo _ t.Ac.length (by omega) (fun i hi => ?_) (by dsimp only; rw [if_neg (by omega)]; rfl), aA]
  ·have hpi:(((List.range t.Aa.toNat).flatMap Fv++(List.range t.Ag.length).flatMap Gj)++(List.range t.Ac.length).flatMap Oo).length=tE t:=by
    simp only[kU,h1,h2,h3];unfold tE;omega
   rw[hpi];rw[eI Wt _ t.Ag.length (by omega) (λi hi=>?_) (by dsimp only;rw[if_neg (by omega)];rfl),aA]
   have hpl:((((List.range t.Aa.toNat).flatMap Fv++(List.range t.Ag.length).flatMap Gj)++(List.range t.Ac.length).flatMap Oo)++(List.range t.Ag.length).flatMap Wt).length=tE t+t.Ag.length:=by
    rw[kU,hpi,h4];omega
   unfold mI;generalize ((((List.range t.Aa.toNat).flatMap Fv++(List.range t.Ag.length).flatMap Gj)++(List.range t.Ac.length).flatMap Oo)++(List.range t.Ag.length).flatMap Wt)=P at hpl;rw[eI (Gi t) _ t.Ac.length (by omega) (λi hi=>?_) (by dsimp only;rw[if_neg (by omega)];rfl),aA]
   have hP2:(P++(List.range t.Ac.length).flatMap (Gi t)).length<=30000:=by
    have:=zC hC t.Ac.length (Ks _);have:=hC.base t.Ac.length;rw[kU];omega
   generalize P++(List.range t.Ac.length).flatMap (Gi t)=P2 at hP2;rw[eI nm6 _ t.Ac.length (by omega) (λi hi=>?_) (by dsimp only;rw[if_neg (by omega)];rfl),aA];have hlen:(P2++(List.range i).flatMap nm6).length<=30300:=by rw[kU,h6];omega
   generalize P2++(List.range i).flatMap nm6=B at hlen;dsimp only;rw[if_pos (by omega),kR (by omega) (show(⟨#[107,101,101,112]⟩:BA).size<=1000 by decide),aA,aB (by simp;omega),kR (by omega) (show(⟨#[117,115,101]⟩:BA).size<=1000 by decide),aA,aB (by simp;omega),kR (by omega) (show(⟨#[104,111,108,100]⟩:BA).size<=1000 by decide),aA,aB (by simp;omega),kR (by omega) (show(⟨#[97,99,116]⟩:BA).size<=1000 by decide),aA,aB (by simp;omega),kR (by omega) (show(⟨#[99,97,108,108,101,100]⟩:BA).size<=1000 by decide),aA,aB (by simp;omega),aB (bG hi (by omega))];simp only[lM];rfl
   have hlen:(P++(List.range i).flatMap (Gi t)).length<=30000:=by
    have:=zC hC i (by omega);have:=hC.base i;rw[kU];omega
   generalize P++(List.range i).flatMap (Gi t)=B at hlen;have hr:=gN hi;have hsec:=hC.secs (fH hi);have hln:bA t i=t.Ac[i].Aa.length-1:=by unfold bA;rw[hr]
   have hl2:=hC.last24 i;generalize t.Ac[i]=r at hr hsec hln;dsimp only;rw[if_pos (by omega),kR (by omega) (show(⟨#[115,101,116]⟩:BA).size<=1000 by decide),aA,aB (by simp;omega),kR (by omega) (show(⟨#[99,108,101,97,114]⟩:BA).size<=1000 by decide),aA,aB (by simp;omega),kR (by omega) (show(⟨#[117,115,101,100]⟩:BA).size<=1000 by decide),aA,aB (by simp;omega),kR (by omega) (show(⟨#[104,101,108,100]⟩:BA).size<=1000 by decide),aA,aB (by simp;omega)];have hB2:((((B++[sN yb i])++[sN pV i])++[sN wR i])++[sN wS i]).length<=30004:=by simp;omega
   rw[show B++Gi t i=((((((B++[sN yb i])++[sN pV i])++[sN wR i])++[sN wS i])++ep i (bA t i))++[sN Ov i])++[sN Hh i] by unfold Gi;simp only[lM,nE,q7,zb,gE]];rw[show(sN (⟨#[115,101,116]⟩:BA) i)=sN yb i from rfl,show(sN (⟨#[99,108,101,97,114]⟩:BA) i)=sN pV i from rfl,show(sN (⟨#[117,115,101,100]⟩:BA) i)=sN wR i from rfl,show(sN (⟨#[104,101,108,100]⟩:BA) i)=sN wS i from rfl];generalize ((((B++[sN yb i])++[sN pV i])++[sN wR i])++[sN wS i])=B2 at hB2;rw[eI (λk=>[wRelD++qT i].map (sN · k)) B2 (bA t i) (by omega) (λk hk=>?_) (by dsimp only;rw[aJ hr,aB (by unfold bH;omega),if_neg (by omega)];rfl),aA]
   have hB3:(B2++ep i (bA t i)).length<=30100:=by
    unfold ep;rw[kU,eY (c:=1) (λ_=>rfl)];omega
   unfold ep at hB3⊢;generalize (B2++(List.range (bA t i)).flatMap λk=>[wRelD++qT i].map (sN · k))=B3 at hB3;rw[kR (by omega) (show(⟨#[119,97,105,116]⟩:BA).size<=1000 by decide),aA,aB (by simp;omega),kR (by omega) (show(⟨#[115,116,97,110,100]⟩:BA).size<=1000 by decide),aA,aB (by simp;omega),aA,aB (bG hi (by omega))];rfl;have hsz := xU i (by omega);have hrs:wRelD.size=4:=rfl
   have hlen3:(B2++(List.range k).flatMap λk=>[wRelD++qT i].map (sN · k)).length<=30100:=by
    rw[kU,eY (c:=1) (λ_=>rfl)];omega
   dsimp only;rw[aJ hr,aB (by unfold bH;omega),if_pos (by omega),kR (by omega) (show(⟨#[114,101,108]⟩:BA).size<=1000 by decide),aA,show(sN (⟨#[114,101,108]⟩:BA) i)=sN Fi i from rfl,relD,kR (by omega) (by rw[ve];omega),aA,aB (by rw[kU];simp only[jF,jO];omega),aB (bG hk (by omega))];rfl;dsimp only;rw[if_pos (by omega),kR (by omega) (show(⟨#[108,105,101]⟩:BA).size<=1000 by decide),aA,aB (by rw[kU,kU,hpi,h4];simp only[jF,jO];have:=hC.base t.Ac.length;have:=Ip t;have he:mZ t=cD t t.Ac.length:=rfl;omega),aB (bG hi (by omega))];rfl
  have hlen : ((((List.range t.Aa.toNat).flatMap Fv ++ (List.range t.Ag.length).flatMap Gj)) ++ (List.range i).flatMap Oo).length <= 1000 := by simp only [kU, h1, h2, h3]; omega
  generalize ((((List.range t.Aa.toNat).flatMap Fv++(List.range t.Ag.length).flatMap Gj))++(List.range i).flatMap Oo)=B at hlen;dsimp only;rw[if_pos (by omega),kR (by omega) (show(⟨#[117,110,99,108,97,105,109,101,100]⟩:BA).size<=1000 by decide),aA,aB (by simp;omega),kR (by omega) (show(⟨#[112,97,115,115,101,100]⟩:BA).size<=1000 by decide),aA,aB (by simp;omega),kR (by omega) (show(⟨#[99,97,108,108]⟩:BA).size<=1000 by decide),aA,aB (by simp;omega),kR (by omega) (show(⟨#[99,97,110,99,101,108]⟩:BA).size<=1000 by decide),aA,aB (by simp;omega),aB (bG hi (by omega))];simp only[lM];rfl
 have hlen : ((List.range t.Aa.toNat).flatMap Fv ++ (List.range i).flatMap Gj).length <= 1000 := by simp only [kU, h1, h2]; omega
 generalize ((List.range t.Aa.toNat).flatMap Fv++(List.range i).flatMap Gj)=B at hlen;dsimp only;rw[if_pos (by omega),kR (by omega) (show(⟨#[110,111,114,109,97,108]⟩:BA).size<=1000 by decide),aA,aB (by simp;omega),kR (by omega) (show(⟨#[114,101,118,101,114,115,101]⟩:BA).size<=1000 by decide),aA,aB (by simp;omega),aB (bG hi (by omega))];simp only[lM];rfl;have hlen : ([] ++ (List.range i).flatMap Fv).length <= 1000 := by simp only [gE, h1]; omega
 generalize ([]++(List.range i).flatMap Fv)=B at hlen;dsimp only;rw[if_pos (by omega),kR (by omega) (show(⟨#[102,114,101,101]⟩:BA).size<=1000 by decide),aA,aB (by simp;omega),kR (by omega) (show(⟨#[111,112,101,110]⟩:BA).size<=1000 by decide),aA,aB (by simp;omega),aB (bG hi (by omega))];simp only[lM];rfl
theorem Bb{α β:Type}{g:β->α->Option β}{Inv:β->Prop}:∀{l:List α}{b:β},(∀e∈l,∀b b',Inv b->g b e=some b'->Inv b')->Inv b->∀b',l.foldlM g b=some b'->Inv b'
 |[],b,_,h,b',hb=>by cases hb;exact h
 |e::r,b,hg,h,b',hb=>by
  rw[List.foldlM_cons]at hb
  cases hx:g b e with
  |none=>rw[hx]at hb;cases hb
  |some c=>
   rw[hx]at hb;exact Bb (l:=r) (λe he=>hg e (gg _ he)) (hg e rL b c h hx) b' hb
theorem Vf{σ ρ β α:Type}{f:σ->Option (σ ⊕ ρ)}(l:List α)(st:β->Nat->σ)(g:β->α->Option β)(Inv:β->Prop)(v:ρ)(o:β->ρ){b0:β}{s:σ}(hs0:s=st b0 0)(hn:l.length<=ye)(hg:∀e∈l,∀b b',Inv b->g b e=some b'->Inv b')(h0:Inv b0)(hs:∀i e b,l[i]?=some e->Inv b->f (st b i)=match g b e with
  |some b'=>some (.inl (st b' (i+1)))
  |none=>some (.inr v)) (he:∀b,Inv b->f (st b l.length)=some (.inr (o b))):
  bB f s=some (match l.foldlM g b0 with|some b=>o b|none=>v):=by
 subst hs0
 have key:∀(m:List α)(k:Nat)(b:β),l.drop k=m->k+m.length=l.length->Inv b->pN f (m.length+1) (st b k)=some (match m.foldlM g b with|some b=>o b|none=>v):=by
  intro m
  induction m with
  |nil=>
   intro k b hd hk hb;have hk2:k=l.length:=by simpa using hk
   subst hk2;simp[pN,he b hb]
  |cons e m ih=>
   intro k b hd hk hb;rw[jF]at hk
   have hx:l[k]?=some e:=by
    have:(l.drop k)[0]?=some e:=by rw[hd];rfl
    rw[pB]at this;simpa using this
   have hd2:l.drop (k+1)=m:=by rw[<- List.tail_drop,hd];rfl
   have h1:=hs k e b hx hb;rw[jF,pN,h1,List.foldlM_cons]
   cases hc:g b e with
   |none=>rfl
   |some b'=>exact ih (k+1) b' hd2 (by omega) (hg e (lG hx) b b' hb hc)
 have:=key l 0 b0 rfl (by omega) h0;exact zG this (by unfold eO ye at *; omega)
variable {t:Al}{b:List Ap}{i:Nat}
def uA(p:Nat->Bool):Nat->Int
  |0=>-1
  |n+1=>if p n=true then(n:Int)else uA p n
theorem Ln(p:Nat->Bool):∀n,-1<=uA p n/\uA p n<(n:Int)
  |0=>by simp[uA]
  |n+1=>by
    have:=Ln p n;unfold uA;split<;>omega
theorem Lp{p:Nat->Bool}:∀{n k:Nat},uA p n=(k:Int)->p k=true
  |0,k,h=>by unfold uA at h;omega
  |n+1,k,h=>by
    unfold uA at h;split at h;rename_i hp;rw[show k=n by omega];exact hp;exact Lp h
theorem Lo{p:Nat->Bool}:∀{n k:Nat},k<n->p k=true->(k:Int)<=uA p n
  |0,k,h,_=>by omega
  |n+1,k,h,hp=>by
    unfold uA;split;omega;rename_i hn;have:k≠n:=by intro e;subst e;exact hn hp
    exact Lo (by omega) hp
def oP(l m:List Int):Int:=uA (λk=>decide (l.getD k 0∈m)) l.length
theorem Cm(l m:List Int)(hl:rQ l)(hm:rQ m):nV l m=some (oP l m):=by
  unfold nV oP;unfold rQ at hl;rw[oG (λk=>(uA (λk=>decide (l.getD k 0∈m)) k,(k:Int))) (o:=uA (λk=>decide (l.getD k 0∈m)) l.length) l.length (by rfl) hl (λk hk=>?_) (by dsimp only;rw[if_neg (by omega)];rfl),aA];have hx:=gN hk;have hg:l.getD k 0=l[k]:=by rw[qv,hx];rfl
  dsimp only;rw[if_pos (by omega),aJ hx,Is _ _ hm,aA,aB (bG hk hl),aB (bG hk hl),uA,hg];by_cases h:l[k]∈m;rw[if_pos (decide_eq_true h),if_pos (decide_eq_true h)];rfl;rw[if_neg (by simpa using h),if_neg (by simpa using h)];rfl
theorem Ct(l:List Ad)(x:Ad)(h:rQ l)(hx:Ad.ok x)(ho:∀s∈l,Ad.ok s):sU l x=some (decide (x∈l)):=by
  unfold sU;unfold rQ at h;rw[mE l (λy=>decide (y=x)) (.inr true) (.inl ()) h (λk e he=>?_) (by rw[if_neg (by omega)];rfl)]
  have:(l.any λy=>decide (y=x))=decide (x∈l):=by
    rw[nF,zQU];simp
  rw[this];cases decide (x∈l)<;>rfl;have hi:=(zQQ.1 he).1;rw[if_pos (by omega),aJ he,aB ⟨ho e (lG he),hx⟩];by_cases hz:e=x;rw[if_pos hz,if_pos (decide_eq_true hz)];rfl;rw[if_neg hz,aB (bG hi h),if_neg (by simpa using hz)]
def qd(t:Al)(a:Ak)(s1:Ad)(out:Int)(s2:Ad):Option Int:=
  if s1.el=s2.el/\¬s1.pos=s2.pos then
    (if oP a.Aa [mY t s1.el]<0\/s1∈a.An\/s1∈a.Ax then none else some (max out (oP a.Aa [mY t s1.el])))
  else some out
def qe(t:Al)(a x:Ak)(out:Int)(s1:Ad):Option Int:=(fM (dI x)).foldlM (qd t a s1) out
def F2(a x:Ak):Int:=if mO x a=false then max (oP a.Aa x.Aa) (oP a.Aa x.Ae)else oP a.Aa x.Aa
def Yj(a x:Ak):Bool:=(!mO a x&&decide (0<=oP a.Ae x.Aa))||(!mO a x&&(!mO x a&&decide (0<=oP a.Ae x.Ae)))
def nI(t:Al)(a x:Ak):Int:=
  if Yj a x=true then(a.Aa.length:Int)-1
  else match (fM (dI a)).foldlM (qe t a x) (F2 a x)with
    |some out=>out
    |none=>(a.Aa.length:Int)-1
theorem Cn(l m:List Int):-1<=oP l m/\oP l m<(l.length:Int):=Ln _ _
abbrev Yu(a:Ak)(out:Int):Prop:=-1<=out/\out<(a.Aa.length:Int)
theorem Lx{a:Ak}{s1 s2:Ad}{out o:Int}(h:Yu a out)(ho:qd t a s1 out s2=some o):Yu a o:=by
  have hm:=Cn a.Aa [mY t s1.el];unfold qd at ho;unfold Yu at *;split at ho;split at ho
  · cases ho
  have:=cC ho;omega;have:=cC ho;omega
theorem Lz{a x:Ak}{s1:Ad}{out o:Int}(h:Yu a out)(ho:qe t a x out s1=some o):Yu a o:=by
  unfold qe at ho;exact Bb (Inv:=Yu a) (λe _ b b' hb hh=>Lx hb hh) h o ho
theorem qAD(a x:Ak):Yu a (F2 a x):=by
  have b1:=Cn a.Aa x.Aa;have b2:=Cn a.Aa x.Ae;unfold F2 Yu;split<;>omega
theorem blkI_in{a x:Ak}(h:0<a.Aa.length):Yu a (nI t a x):=by
  unfold nI;split;unfold Yu;omega;split
  · rename_i out ho
    exact Bb (Inv:=Yu a) (λe _ b b' hb hh=>Lz hb hh) (qAD a x) out ho
  unfold Yu;omega
theorem qCD(hC:COk t)(ht:WfB t){o i:Nat}{a x:Ak}(ha:t.Ac[o]?=some a)(hx:t.Ac[i]?=some x):tS t (o:Int) (i:Int)=some (nI t a x):=by
  have hlm:=hC.lim;have ham:=lG ha;have hxm:=lG hx;have hsa:=hC.sum a ham;have hsx:=hC.sum x hxm;have hseca:=hC.secs ham;unfold xC at hsa hsx;have hala:=nR (dI a);have hala2:(dI a).length<=200:=by simp only[dI,kU];omega
  have halx:=nR (dI x);have halx2:(dI x).length<=200:=by simp only[dI,kU];omega
  have hsoa:=ht.sok a ham;have m1:=Cm a.Aa x.Aa (by unfold rQ;omega) (by unfold rQ;omega);have m2:=Cm a.Aa x.Ae (by unfold rQ;omega) (by unfold rQ;omega);have m3:=Cm a.Ae x.Aa (by unfold rQ;omega) (by unfold rQ;omega);have m4:=Cm a.Ae x.Ae (by unfold rQ;omega) (by unfold rQ;omega);unfold tS;rw[aJ ha,aJ hx,aB (by unfold bH;omega)];rw[show pP a x=some (mO a x)from rfl,aA,show pP x a=some (mO x a)from rfl,aA,m1,aA,m2,aA,m3,m4]
  have e1:(if(!mO x a)=true then some (max (oP a.Aa x.Aa) (oP a.Aa x.Ae))else some (oP a.Aa x.Aa))=some (F2 a x):=by
    unfold F2;cases mO x a<;>rfl
  rw[e1,aA]
  have e2 : (if (!mO a x) = true then aD (some (oP a.Ae x.Aa)) fun r17 => if (0 : Int) <= r17 then some true else if (!mO a x) = true then (if (!mO x a) = true then aD (some (oP a.Ae x.Ae)) fun r21 => some (decide ((0 : Int) <= r21)) else some false) else some false
      else if(!mO a x)=true then(if(!mO x a)=true then aD (some (oP a.Ae x.Ae)) λr16=>some (decide ((0:Int)<=r16))else some false)else some false)=some (Yj a x):=by
    unfold Yj;cases mO a x<;>cases mO x a<;>simp only[vf,Hd,if_true,gk,if_false,aA,yB,Dn,ce];by_cases h:0<=oP a.Ae x.Aa
    · rw[if_pos h,decide_eq_true h,Bool.true_or]
    rw[if_neg h,decide_eq_false h,Bool.false_or];by_cases h:0<=oP a.Ae x.Aa
    · rw[if_pos h,decide_eq_true h]
    rw[if_neg h,decide_eq_false h]
  rw[e2,aA];unfold nI
  cases hW:Yj a x with
  |true=>rw[if_pos rfl,if_pos rfl]
  |false=>
    rw[if_neg gB,if_neg gB,sC a (hC.ok.each a ham),aA,sC x (hC.ok.each x hxm),aA];rw[Vf (fM (dI a)) (λb k=>(b,(k:Int))) (qe t a x) (Yu a) (.inr ((a.Aa.length:Int)-1)) (λb=>.inl b) (b0:=F2 a x) (by rfl) (by unfold ye;omega) (λe _ b b' hb hh=>Lz hb hh) (qAD a x) (λk s1 out hs1 hout=>?_) (λout _=>by dsimp only;rw[if_neg (by omega)];rfl)];cases (fM (dI a)).foldlM (qe t a x) (F2 a x)<;>rfl;have hk:=(zQQ.1 hs1).1;have hs1m:=lG hs1;have hok1:Ad.ok s1:=hsoa s1 (ascS_mem.1 hs1m);obtain⟨p,hp1,hp2,hp3,hp4,hp5⟩:=hC.home ham hs1m;dsimp only;rw[if_pos (by omega)];rw[Vf (fM (dI x)) (λb k=>(b,(k:Int))) (qd t a s1) (Yu a) (.inr (.inr (.inr ((a.Aa.length:Int)-1)))) (λb=>.inl b) (b0:=out) (by rfl) (by unfold ye;omega) (λe _ b b' hb hh=>Lx hb hh) hout (λq s2 b hs2 hb=>?_) (λout _=>by dsimp only;rw[if_neg (by omega)];rfl)];unfold qe
    cases (fM (dI x)).foldlM (qd t a s1) out with
    |none=>rfl
    |some b=>rw[oT,aB (bG hk (by omega))];rfl
    have hq:=(zQQ.1 hs2).1;have hid:kA (dU t.Ag s1.el)=(p:Int):=hp1;dsimp only;rw[if_pos (by omega)];simp only[aJ hs1,aJ hs2];unfold qd;by_cases h1:s1.el=s2.el;rw[if_pos h1,aA];by_cases h2:s1.pos=s2.pos;rw [if_pos (decide_eq_true h2), aB (bG hq (by omega)), if_neg (fun h => h.2 h2)];rfl;rw [if_neg (by rw [decide_eq_false h2]; exact gB), if_pos ⟨h1, h2⟩, kz t _ (by unfold rQ; omega), aA, hid, aJ hp3, Cm a.Aa [mY t s1.el] (by unfold rQ; omega) (by simp), aA, Ct a.An s1 (by unfold rQ; omega) hok1 (fun s hs => hsoa s (by simp [dI, hs])), aA, Ct a.Ax s1 (by unfold rQ; omega) hok1 (fun s hs => hsoa s (by simp [dI, hs])), aA]
    have e3:(if oP a.Aa [mY t s1.el]<0 then some true else if decide (s1∈a.An)=true then some true else some (decide (s1∈a.Ax)))=some (decide (oP a.Aa [mY t s1.el]<0\/s1∈a.An\/s1∈a.Ax)):=by
      by_cases g1:oP a.Aa [mY t s1.el]<0;rw[if_pos g1,decide_eq_true (.inl g1)];rw[if_neg g1];by_cases g2:s1∈a.An;rw[if_pos (decide_eq_true g2),decide_eq_true (.inr (.inl g2))];rw [if_neg (by simpa using g2)]
      congr 1
      rw[nF];simp[g1,g2]
    rw[e3,aA];by_cases g:oP a.Aa [mY t s1.el]<0\/s1∈a.An\/s1∈a.Ax;rw[if_pos (decide_eq_true g),if_pos g];rfl;rw [if_neg (by rw [decide_eq_false g]; exact gB), if_neg g, aB (bG hq (by omega))];rfl;rw [if_neg h1, aA, if_pos rfl, aB (bG hq (by omega)), if_neg (fun h => h1 h.1)];rfl
def qAK(t:Al)(i o:Nat)(x a:Ak):List Ab:=
  if o=i\/nI t a x<0 then[]
  else
    let A:=if nI t a x<(bA t o:Int)then fX [oU t o 3,fS (nM t o (nI t a x))]else oU t o 3
    [fS (if o<i then qX [A,oU t o 4]else A)]
theorem Ok(i o:Nat)(x a:Ak):(qAK t i o x a).length<=1:=by
  unfold qAK;split<;>simp
def apsX(t:Al)(i:Nat)(x:Ak)(n:Nat):List Ab:=(List.range n).flatMap (rt t λo a=>qAK t i o x a)
def qg(t:Al)(i:Nat)(r:Ak):Ab:=fX ((([Fh t i 2,fS (oU t i 3)]++(r.Aa++r.Ae).map qp)++apsX t i r t.Ac.length)++(fM (dI r)).map (Ot t))
theorem r_called(hC:COk t)(ht:WfB t){r:Ak}(hr:t.Ac[i]?=some r)(hb:b.length<=90000):kW (kj t b) (i:Int)=some (kj t (b++[⟨1,gR t i+4,0,qg t i r⟩])):=by
  have hi:=(zQQ.1 hr).1;have hm:=lG hr;have hlm:=hC.lim;have hsum:=hC.sum r hm;unfold xC at hsum;have hal:=nR (dI r);have hal2:(dI r).length<=200:=by simp only[dI,kU];omega
  unfold kW;dsimp only;rw[aJ hr,xn hC hi (by omega) (by omega),aA,qo hC hi (by omega) (by omega),aA,tB,aA,jW r.Aa (λ_ s=>qp s) _ (by omega) (λx s B hx hB=>?_) (by dsimp only;rw[if_neg (by omega)];rfl),aA,jQ];rw [jW r.Ae (fun _ s => qp s) _ (by omega) (fun x s B hx hB => ?_) (by dsimp only; rw [if_neg (by omega)]; rfl), aA, jQ]
  · have hP : (([vE (uI t i + 2), fS (vE (gR t i + 3))] ++ r.Aa.map qp) ++ r.Ae.map qp).length <= 300 := by simp only [kU, vg, jF, jO]; omega
    unfold qg;rw[mU,<- List.append_assoc];generalize ([vE (uI t i+2),fS (vE (gR t i+3))]++r.Aa.map qp)++r.Ae.map qp=P at hP;rw[eI (rt t λo a=>qAK t i o r a) P t.Ac.length (by omega) (λo ho=>?_) (by dsimp only;rw[if_neg (by omega)];rfl),aA]
    have hP2:(P++(List.range t.Ac.length).flatMap (rt t λo a=>qAK t i o r a)).length<=400:=by
      have:=dV (bi (t:=t) (f:=λo a=>qAK t i o r a) (c:=1) λ_ _ _=>Ok _ _ _ _) t.Ac.length;rw[kU];omega
    unfold apsX;generalize P++(List.range t.Ac.length).flatMap (rt t λo a=>qAK t i o r a)=P2 at hP2;rw[sC r (hC.ok.each r hm),aA,jW (fM (dI r)) (λ_ s=>Ot t s) _ (by omega) (λx s B hx hB=>?_) (by dsimp only;rw[if_neg (by omega)];rfl),aA,qo hC hi (by omega) (by omega),aA,qB,aA,v8 (by omega),aA,jQ];have hx':=(zQQ.1 hx).1;have hxm:=lG hx;obtain⟨k,hk1,hk2,hk3,hk4,hk5⟩:=hC.home hm hxm;have hid:kA (dU t.Ag s.el)=qU t s.el:=rfl;have h3:=hC.base t.Ac.length;have h4:mZ t=cD t t.Ac.length:=rfl;have h2:=(Ip t).1;dsimp only;rw[if_pos (by omega),aJ hx,kz t _ (by unfold rQ;omega),aA,hid,aB (by unfold bH;omega),v7,aA,aJ hx]
    have e1:(if s.pos=(1:Int)then aD (fP (vE ((tE t:Int)+qU t s.el))) λr91=>some (r91.op,r91.var,r91.args)else some ((vE ((tE t:Int)+qU t s.el)).op,(vE ((tE t:Int)+qU t s.el)).var,(vE ((tE t:Int)+qU t s.el)).args))=some ((yf t s).op,(yf t s).var,(yf t s).args):=by
      unfold yf;by_cases h:s.pos=1;rw[if_pos h,if_pos h,tB,aA];rw[if_neg h,if_neg h]
    rw[e1,aA];dsimp only;rw[hk1,aJ hk3,wK hk4 (by omega),aA,wa,aA,aB (by simp;omega),aB (bG hx' (by omega)),Ab.eta];rfl
    have hlen:(P++(List.range o).flatMap (rt t λo a=>qAK t i o r a)).length<=400:=by
      have:=dV (bi (t:=t) (f:=λo a=>qAK t i o r a) (c:=1) λ_ _ _=>Ok _ _ _ _) o;rw[kU];omega
    generalize (P++(List.range o).flatMap (rt t λo a=>qAK t i o r a))=B at hlen;have hq:=gN ho;have hsq:=hC.secs (fH ho);have hln:bA t o=t.Ac[o].Aa.length-1:=by unfold bA;rw[hq]
    generalize t.Ac[o]=a at hq hsq hln;have hbi:=blkI_in (t:=t) (x:=r) hsq.1;unfold Yu at hbi;dsimp only;rw[if_pos (by omega),qCD hC ht hq hr,aA,em hq];unfold qAK;by_cases hno:o=i\/nI t a r<0
    rw [if_pos (by rcases hno with h | h; · rw [decide_eq_true (show (o : Int) = (i : Int) by omega)]; rfl
                   · rw[decide_eq_true h,Bool.or_true]),if_pos hno,aB (bG ho (by omega)),lL]
    rw [if_neg (by rw [decide_eq_false (show ¬ (o : Int) = (i : Int) by omega), decide_eq_false (by omega)]; simp), if_neg hno, qo hC ho (by omega) (by omega), aA, (D5 hC ho).1, aA];dsimp only
    have e1:(if nI t a r<(bA t o:Int)then aD (eZ (kj t b) (o:Int) (nI t a r)) λr57=>aD (fP r57) λr58=>aD (fI ([vE (gR t o+3),r58]:List Ab)) λr59=>some (r59.op,r59.var,r59.args)else some ((vE (gR t o+3)).op,(vE (gR t o+3)).var,(vE (gR t o+3)).args))=some ((if nI t a r<(bA t o:Int)then fX [oU t o 3,fS (nM t o (nI t a r))]else oU t o 3).op,(if nI t a r<(bA t o:Int)then fX [oU t o 3,fS (nM t o (nI t a r))]else oU t o 3).var,(if nI t a r<(bA t o:Int)then fX [oU t o 3,fS (nM t o (nI t a r))]else oU t o 3).args):=by
      by_cases h:nI t a r<(bA t o:Int);rw[if_pos h,if_pos h,Qy hC ho (by omega) (by omega),aA,tB,aA,qB,aA];rw[if_neg h,if_neg h]
    rw[e1,aA];dsimp only;rw[Ab.eta];generalize (if nI t a r<(bA t o:Int)then fX [oU t o 3,fS (nM t o (nI t a r))]else oU t o 3)=A
    have e2:(if(o:Int)<(i:Int)then aD (bW (kj t b) (o:Int) 4) λr65=>aD (jH ([A,r65]:List Ab)) λr66=>some (r66.op,r66.var,r66.args)else some (A.op,A.var,A.args))=some ((if o<i then qX [A,oU t o 4]else A).op,(if o<i then qX [A,oU t o 4]else A).var,(if o<i then qX [A,oU t o 4]else A).args):=by
      by_cases h:o<i;rw[if_pos (by omega),if_pos h,qo hC ho (by omega) (by omega),aA,wa,aA];rw[if_neg (by omega),if_neg h]
    rw[e2,aA];dsimp only;rw[tB,aA,aB (by simp;omega),aB (bG ho (by omega)),Ab.eta]
  have hx':=(zQQ.1 hx).1;have hs:=hC.sec_in hm (G4 _ (lG hx));simp only[kU,vg,jF,jO]at hB;dsimp only;rw[if_pos (by omega),aJ hx,aB (by unfold bH;omega),aB (by unfold bH;omega),v7,aA,aB (by simp;omega),aB (bG hx' (by omega))];rfl;have hx':=(zQQ.1 hx).1;have hs:=hC.sec_in hm (sJ _ (lG hx));simp only[jF,jO]at hB;dsimp only;rw[if_pos (by omega),aJ hx,aB (by unfold bH;omega),aB (by unfold bH;omega),v7,aA,aB (by simp;omega),aB (bG hx' (by omega))];rfl
def vi(t:Al)(el pos:Int)(i:Nat)(r:Ak):List Ab:=if(⟨el,pos⟩:Ad)∈fM (dI r)then[oU t i 4]else[]
theorem qAO(el pos:Int)(i:Nat)(r:Ak):(vi t el pos i r).length<=1:=by unfold vi;split<;>simp
def oH(t:Al)(el pos:Int)(n:Nat):List Ab:=(List.range n).flatMap (rt t (vi t el pos))
theorem zh(el pos:Int)(n:Nat):(oH t el pos n).length<=1*n:=dV (bi λ_ _ _=>qAO _ _ _ _) _
def Ll(t:Al)(p:Nat)(el:Int):Ab:=qX [qX (oH t el 2 t.Ac.length),fX [vE ((tE t:Int)+(p:Int)),fS (qX (oH t el 1 t.Ac.length))]]
theorem r_lies(hC:COk t)(ht:WfB t){p:Nat}{el:Int}(hp:t.Ag[p]?=some el)(hel:bH el)(hb:b.length<=80000):mC (kj t b) (p:Int)=some (kj t (b++[⟨1,(tE t:Int)+(p:Int),0,Ll t p el⟩])):=by
  have hpl:=(zQQ.1 hp).1;have hlm:=hC.lim;have h3:=hC.base t.Ac.length;have h4:mZ t=cD t t.Ac.length:=rfl;have h2:=(Ip t).1;unfold mC;dsimp only;rw[lR t.Ac.length (λn=>(oH t el 1 n,oH t el 2 n)) (o:=(oH t el 1 t.Ac.length,oH t el 2 t.Ac.length)) (by simp[oH]) (by omega) (λn hn=>?_) (by dsimp only;rw[if_neg (by omega)];rfl),aA];dsimp only;rw[aB (by unfold bH;omega),v7,aA,wa,aA,wa,aA,tB,aA,qB,aA,wa,aA,v8 (by omega),aA];rfl;have hr:=gN hn;have hm:=fH hn;have w1:=zh (t:=t) el 1 n;have w2:=zh (t:=t) el 2 n;have hsum:=hC.sum _ hm;unfold xC at hsum;have hso:=ht.sok _ hm;generalize t.Ac[n]=r at hr hm hsum hso;have hal:=nR (dI r);have hal2:(dI r).length<=200:=by simp only[dI,kU];omega
  have hok (k:Int) (h0:0<=k) (h1:k<=5):Ad.ok (⟨el,k⟩:Ad):=⟨hel,by show bH k;unfold bH;omega⟩;have ho:∀s∈fM (dI r),Ad.ok s:=λs hs=>hso s (ascS_mem.1 hs);have e1:oH t el 1 (n+1)=oH t el 1 n++vi t el 1 n r:=by unfold oH;rw[mT,em hr]
  have e2:oH t el 2 (n+1)=oH t el 2 n++vi t el 2 n r:=by unfold oH;rw[mT,em hr]
  dsimp only;rw[e1,e2];generalize oH t el 1 n=A at w1;generalize oH t el 2 n=B at w2;rw[if_pos (by omega),aJ hr,sC r (hC.ok.each r hm),aA,aJ hp,Ct _ _ (by unfold rQ;omega) (hok 1 (by omega) (by omega)) ho,aA]
  have f1:(if decide ((⟨el,1⟩:Ad)∈fM (dI r))=true then aD (bW (kj t b) (n:Int) 4) λr20=>aE ((A++[r20]).length<=1000000000) (some (A++[r20]))else some A)=some (A++vi t el 1 n r):=by
    unfold vi;by_cases h:(⟨el,1⟩:Ad)∈fM (dI r);rw[if_pos (decide_eq_true h),qo hC hn (by omega) (by omega),aA,aB (by simp;omega),if_pos h];rw[if_neg (by simpa using h),if_neg h,lL]
  rw[f1,aA,aJ hp,Ct _ _ (by unfold rQ;omega) (hok 2 (by omega) (by omega)) ho,aA];unfold vi;by_cases h:(⟨el,2⟩:Ad)∈fM (dI r);rw[if_pos (decide_eq_true h),qo hC hn (by omega) (by omega),aA,aB (by simp;omega),aB (bG hn (by omega)),if_pos h];rw[if_neg (by simpa using h),if_neg h,lL,aB (bG hn (by omega))]
def wx(t:Al)(i:Nat)(r:Ak):List Ap:=[⟨1,gR t i+4,0,qg t i r⟩]
def Nu(t:Al)(p:Nat)(el:Int):List Ap:=[⟨1,(tE t:Int)+(p:Int),0,Ll t p el⟩]
def yN(t:Al):List Ap:=(List.range t.Ac.length).flatMap (rt t (gq t))
def rN(t:Al):List Ap:=(List.range t.Ac.length).flatMap (rt t (vW t))
def yM(t:Al):List Ap:=(List.range t.Ac.length).flatMap (rt t (wx t))
def Dv(t:Al):List Ap:=(List.range t.Ag.length).flatMap (pt t (Nu t))
def oI(t:Al):List Ap:=(((yN t++rN t)++yM t)++qk t)++Dv t
abbrev Kf(t:Al):Program:=⟨mI t,(tE t:Int),oI t⟩
theorem Ws(h:TOk t)(ht:WfB t)(hs:zn t=true):nW t=some (if iK t=0 then if 2000<uL t then(⟨[],0,[]⟩,2)else(Kf t,0)else(⟨[],0,[]⟩,iK t)):=by
  unfold nW;rw[Bd t h,aA];by_cases hz:iK t=0;obtain⟨hT,h1,h2,h3⟩:=xk hs;have hC:COk t:=⟨h,h1,h2,h3,hz⟩;rw[if_pos hz,if_pos hz,qBD hC,aA];dsimp only;by_cases ha:2000<uL t;rw[if_pos (by omega),if_pos ha];rw [if_neg (by omega), if_neg ha];have hlm:=hC.lim;have l1:(yN t).length<=2*t.Ac.length:=dV (bi λ_ _ _=>by simp[gq]) _;have l2:(rN t).length<=30*t.Ac.length:=dV (bi λi _ _=>by rw[D6];have:=hC.last24 i;omega) _;have l3:(yM t).length<=1*t.Ac.length:=dV (bi λ_ _ _=>by simp[wx]) _;have l4:(qk t).length<=1*t.Ac.length:=dV (λ_=>by simp[B5]) _;have hai:=hC.base t.Ac.length;rw[uZ (t:=t) (gq t) [] (c:=2) (by omega) (by omega) (by simp) (λ_ _ _=>by simp[gq]) (by omega) (λi r B hr hB=>?_) (λB=>by dsimp only;rw[if_neg (by omega)];rfl),aA,gE];rw [uZ (t := t) (vW t) _ (c := 30) (by omega) (by omega) (by unfold yN at l1; omega) (fun i _ _ => by rw [D6]; have := hC.last24 i; omega) (by omega) (fun i r B hr hB => ?_) (fun B => by dsimp only; rw [if_neg (by omega)]; rfl), aA]
  · rw [uZ (t := t) (wx t) _ (c := 1) (by omega) (by omega) (by rw [kU]; unfold yN at l1; unfold rN at l2; omega) (fun _ _ _ => by simp [wx]) (by omega) (fun i r B hr hB => ?_) (fun B => by dsimp only; rw [if_neg (by omega)]; rfl), aA]
    · rw [eI (B5 t) _ t.Ac.length (by omega) (fun i hi => ?_) (by dsimp only; rw [if_neg (by omega)]; rfl), aA]
      · rw [eI (pt t (Nu t)) _ t.Ag.length (by omega) (fun p hp => ?_) (by dsimp only; rw [if_neg (by omega)]; rfl), aA, Names_eq hC, aA]
        · rfl
        have l6 : ((List.range p).flatMap (pt t (Nu t))).length <= 1 * p := dV (fun i => by unfold pt; split <;> simp [Nu]) _;have hq:=gN hp;have hel:bH t.Ag[p]:=ht.pts _ (fH hp);dsimp only
        rw[if_pos (by omega),r_lies hC ht hq hel (by
          simp only[kU];unfold yN at l1;unfold rN at l2;unfold yM at l3;unfold qk at l4;omega),aA,aB (bG hp (by omega)),Zk hq]
        rfl
      have l6 : ((List.range i).flatMap (B5 t)).length <= 1 * i := dV (fun _ => by simp [B5]) _;dsimp only
      rw[if_pos (by omega),kl hC hi (by omega) (by omega),aA,qo hC hi (by omega) (by omega),aA,qo hC hi (by omega) (by omega),aA,wa,aA,v8 (by
          simp only[kU];unfold yN at l1;unfold rN at l2;unfold yM at l3;omega),aA,aB (bG hi (by omega))]
      rfl
    have hi:=(zQQ.1 hr).1;dsimp only;rw[if_pos (by omega),r_called hC ht hr (by omega),aA,aB (bG hi (by omega))];rfl
  have hi:=(zQQ.1 hr).1;dsimp only;rw[if_pos (by omega),Xp hC ht hr (by omega),aA,aB (bG hi (by omega))];have hi:=(zQQ.1 hr).1;dsimp only;rw[if_pos (by omega),r_timers hC hr (by omega),aA,aB (bG hi (by omega))];rw[if_neg hz,if_neg hz]
end Go.Proofs.YtldaknhjmhlefaaGreatDoor
set_option linter.unusedVariables false
set_option linter.unusedSimpArgs false
set_option linter.unusedSectionVars false
set_option maxHeartbeats 1000000
set_option maxRecDepth 100000
namespace Go.Proofs.YtldaknhjmhlefaaGreatDoor
open Go Go.TL
variable {t:Al}{ρ:Nat}
theorem Gm{l m:List Int}{k:Nat}{s:Int}(h:l[k]?=some s)(hm:s∈m):(k:Int)<=oP l m:=
 Lo (zQQ.1 h).1 (decide_eq_true (by rw[qv,h];exact hm))
def LKo(ρ:Nat):Option Int->Prop
 |none=>True
 |some v=>(ρ:Int)<=v
theorem Gt{α:Type}{f:Int->α->Option Int}(h1:∀out x,(ρ:Int)<=out->LKo ρ (f out x)):∀(l:List α)(out:Int),(ρ:Int)<=out->LKo ρ (l.foldlM f out)
 |[],out,h=>h
 |x::r,out,h=>by
  have h2:=h1 out x h;rw[List.foldlM_cons]
  cases hf:f out x with
  |none=>trivial
  |some v=>rw[hf]at h2;exact Gt h1 r v h2
theorem Iu{α:Type}{f:Int->α->Option Int}(h1:∀out x,(ρ:Int)<=out->LKo ρ (f out x)){y:α}(hE:∀out,LKo ρ (f out y)):∀(l:List α),y∈l->∀out,LKo ρ (l.foldlM f out)
 |x::r,hy,out=>by
  rw[List.foldlM_cons]
  cases hf:f out x with
  |none=>trivial
  |some v=>
   rcases zQB.1 hy with rfl|hy
   have:=hE out;rw[hf]at this;exact Gt h1 r v this;exact Iu h1 hE r hy v
theorem Lw{a:Ak}{s1 s2:Ad}(out:Int)(h:(ρ:Int)<=out):LKo ρ (qd t a s1 out s2):=by
 unfold qd;split;split
 ·trivial
 show(ρ:Int)<=max out _;omega;exact h
theorem Ly{a x:Ak}(out:Int)(s1:Ad)(h:(ρ:Int)<=out):LKo ρ (qe t a x out s1):=Gt (λout s2=>Lw out) _ _ h
theorem Yi{a x:Ak}(hρ:ρ<a.Aa.length)(h:Yj a x=true\/(ρ:Int)<=F2 a x\/∃s1∈fM (dI a),∃s2∈fM (dI x),s1.el=s2.el/\¬s1.pos=s2.pos/\(s1∈a.An\/s1∈a.Ax\/mY t s1.el∉a.Aa\/a.Aa[ρ]?=some (mY t s1.el))):(ρ:Int)<=nI t a x:=by
 unfold nI;split;omega;rename_i hw
 have key:LKo ρ ((fM (dI a)).foldlM (qe t a x) (F2 a x)):=by
  rcases h with h|h|⟨s1,h1,s2,h2,h3,h4,h5⟩
  exact absurd h hw;exact Gt Ly _ _ h;refine Iu Ly (y := s1) (fun out => Iu (fun out s2 => Lw out) (y := s2) (fun out => ?_) _ h2 _) _ h1 _;unfold qd;rw[if_pos ⟨h3,h4⟩];split;trivial;rename_i h6;simp only[not_or]at h6;show(ρ:Int)<=max out _
  have hm:(ρ:Int)<=oP a.Aa [mY t s1.el]:=by
   rcases h5 with h5|h5|h5|h5
   exact absurd h5 h6.2.1;exact absurd h5 h6.2.2;have:=Cn a.Aa [mY t s1.el];obtain⟨q,hq⟩:∃q:Nat,oP a.Aa [mY t s1.el]=(q:Int):=⟨(oP a.Aa [mY t s1.el]).toNat,by omega⟩;have hp:=of_decide_eq_true (Lp (n:=a.Aa.length) (p:=λk=>decide (a.Aa.getD k 0∈[mY t s1.el])) hq);have hql:q<a.Aa.length:=by omega
   rw[qv,gN hql,zal102q]at hp;exact absurd (by rw[<- hp];exact fH hql) h5;exact Gm h5 (zal102q.2 rfl)
  omega
 revert key
 cases (fM (dI a)).foldlM (qe t a x) (F2 a x)with
 |none=>intro _;dsimp only;omega
 |some v=>exact id
theorem Wj{a x:Ak}{k:Nat}{s:Int}(hs:a.Aa[k]?=some s)(hx:s∈x.Aa):(k:Int)<=nI t a x:=by
 refine Yi (zQQ.1 hs).1 (.inr (.inl ?_));have:=Gm hs hx;unfold F2;split<;>omega
theorem blk_over{a x:Ak}{k:Nat}{s:Int}(hf:mO x a=false)(hs:a.Aa[k]?=some s)(hx:s∈x.Ae):(k:Int)<=nI t a x:=by
 refine Yi (zQQ.1 hs).1 (.inr (.inl ?_));have:=Gm hs hx;unfold F2;rw[if_pos hf];omega
theorem blk_all{a x:Ak}{s:Int}(hf:mO a x=false)(hs:s∈a.Ae)(hx:s∈x.Aa):nI t a x=(a.Aa.length:Int)-1:=by
 obtain⟨k,hk⟩:=nS hs
 have hw:Yj a x=true:=by
  unfold Yj;rw[hf,decide_eq_true (by have:=Gm hk hx;omega)];rfl
 unfold nI;rw[if_pos hw]
mutual
theorem sz_bulk:∀e:Ab,nU e<=e.As.bulk
 |⟨a,b,c⟩=>by
  have:=O2 c;simp only[nU,Ab.As,D.bulk,D.bulks];omega
theorem O2:∀l:List Ab,qD l<=D.bulks (Ab.Pe l)
 |[]=>by simp[qD]
 |e::r=>by
  have:=sz_bulk e;have:=O2 r;simp only[qD,Ab.Pe,D.bulks];omega
end
mutual
theorem I0:∀e:Ab,I1 e<=nU e
 |⟨a,b,c⟩=>by
  have:=dps_sz c;simp only[nU,I1];omega
theorem dps_sz:∀l:List Ab,Gw l<=qD l
 |[]=>by simp[qD,Gw]
 |e::r=>by
  have:=I0 e;have:=dps_sz r;simp only[qD,Gw];omega
end
theorem sz_pos(e:Ab):1<=nU e:=by rw[cg];omega
theorem Ih:∀l:List Ab,l.length<=qD l
 |[]=>by simp[qD]
 |e::r=>by have:=sz_pos e;have:=Ih r;simp only[qD,jF];omega
theorem Ee:∀{l:List Ab}{x:Ab},x∈l->nU x<=qD l
 |e::r,x,h=>by
  rcases zQB.1 h with rfl|h
  simp only[qD];omega;have:=Ee h;simp only[qD];omega
theorem Ia{l:List Ab}{x:Ab}(h:x∈l):I1 x<=Gw l:=(dpL_le.1 (Ks _)) x h
theorem Ky:∀(fu:Nat)(e:Ab),I1 e<=fu->nU e<=1000000000->pD fu e=some (nU e:Int)
 |0,e,h,_=>by rw[wL]at h;omega
 |fu+1,e,h,hs=>by
  rw[wL]at h;have hse:=cg e;have hl:=Ih e.args;unfold pD;rw[oG (s:=((1:Int),(0:Int))) (λi=>((1:Int)+(qD (e.args.take i):Int),(i:Int))) e.args.length (o:=(1:Int)+(qD e.args:Int)) rfl (by omega) ?_ ?_];rw[aA]
  congr 1
  omega;intro i hi;have hm:=fH hi;have h1:=Ia hm;have h2:=Ee hm;have hq:e.args.take (i+1)=e.args.take i++[e.args[i]]:=by rw[mF,gN hi];rfl
  have hn:qD (e.args.take (i+1))=qD (e.args.take i)+nU e.args[i]:=by rw[hq,Zb];simp[qD]
  have hle:qD (e.args.take (i+1))<=qD e.args:=by
   have:=Zb (e.args.take (i+1)) (e.args.drop (i+1));rw[Bt]at this;omega
  dsimp only;rw[if_pos (by omega),aJ (gN hi),Ky fu e.args[i] (by omega) (by omega),aA,aB (by unfold bH;omega),aB (by unfold bH;omega)]
  congr 3
  omega;dsimp only;rw[if_neg (by omega),oD];rfl
theorem size_eq{e:Ab}(hs:nU e<=1000000000):gz e=some (nU e:Int):=by
 unfold gz;exact Ky eO e (by have:=I0 e;unfold eO;omega) hs
theorem dpL_app(a b:List Ab):Gw (a++b)=max (Gw a) (Gw b):=by
 induction a with
 |nil=>simp[Gw]
 |cons x r ih=>simp only[zb,Gw,ih];omega
theorem I2:∀(fu:Nat)(e:Ab),I1 e<=fu->nU e<=1000000000->nX fu e=some (I1 e:Int)
 |0,e,h,_=>by rw[wL]at h;omega
 |fu+1,e,h,hs=>by
  rw[wL]at h;have hse:=cg e;have hde:=wL e;have hds:=I0 e;have hl:=Ih e.args;unfold nX;rw[oG (s:=((0:Int),(0:Int))) (λi=>((Gw (e.args.take i):Int),(i:Int))) e.args.length (o:=(Gw e.args:Int)) rfl (by omega) ?_ ?_];rw [aA, aB (by unfold bH; omega)]
  congr 1
  omega;intro i hi;have hm:=fH hi;have h1:=Ia hm;have h2:=Ee hm;have hq:e.args.take (i+1)=e.args.take i++[e.args[i]]:=by rw[mF,gN hi];rfl
  have hn:Gw (e.args.take (i+1))=max (Gw (e.args.take i)) (I1 e.args[i]):=by rw[hq,dpL_app];simp[Gw]
  dsimp only;rw[if_pos (by omega),aJ (gN hi),I2 fu e.args[i] (by omega) (by omega),aA,aB (by unfold bH;omega)]
  congr 3
  omega;dsimp only;rw[if_neg (by omega),oD];rfl
theorem depth_eq{e:Ab}(hs:nU e<=1000000000):bl e=some (I1 e:Int):=by
 unfold bl;exact I2 eO e (by have:=I0 e;unfold eO;omega) hs
theorem Lt(n:Int):∀(fu:Nat)(e:Ab),I1 e<=fu->nU e<=1000000000->nN fu e n=some (oZ n e)
 |0,e,h,_=>by rw[wL]at h;omega
 |fu+1,e,h,hs=>by
  rw[wL]at h;have hse:=cg e;have hl:=Ih e.args;have hg:oZ n e=(tF n e.op e.var e.args.length&&wU n e.args):=by cases e;rw[oZ]
  have hgl:wU n e.args=!(e.args.any λx=>!oZ n x):=by
   rw[nF,Lr];simp
  have hloop : bB (ρ := Unit ⊕ Bool) (fun i20 =>
    if i20 < (e.args.length : Int) then
     bC e.args i20 λe23=>
     aD ((nN fu) e23 n) λr24=>
     if (!(r24)) = true then
      aT (
       aT (
        some false))
     else
      aE (bH (i20+(1:Int))) <|
      some (.inl (i20+(1:Int)))
    else
     aT (
      some (.inl ()))) (0:Int)=some (if(e.args.any λx=>!oZ n x)=true then(.inr false:Unit ⊕ Bool)else .inl ()):=by
   refine mE (ρ:=Unit ⊕ Bool) e.args (λx=>!oZ n x) (Sum.inr false) (Sum.inl ()) (by omega) ?_ ?_;intro i x hx;have hi:=(zQQ.1 hx).1;have hm:=lG hx;have h1:=Ia hm;have h2:=Ee hm;rw[if_pos (by omega),aJ hx,Lt n fu x (by omega) (by omega),aA,aB (by unfold bH;omega)];cases oZ n x<;>rfl;rw [if_neg (by omega)];rfl
  unfold nN;rw[hloop,hg,hgl]
  have leaf:e.op=1\/e.op=2->some ((decide (e.var=0))&&(decide ((e.args.length:Int)=0)))=some (tF n e.op e.var e.args.length&&!(e.args.any λx=>!oZ n x)):=λh=>by
   have hf:tF n e.op e.var e.args.length=decide (e.var=0/\e.args.length=0):=by unfold tF;rw[if_pos h]
   rw[hf];by_cases hk:e.var=0/\e.args.length=0;have ha:e.args=[]:=zal74q.1 hk.2;simp[hk.1,ha];rw[decide_eq_false hk,Dn]
   congr 1
   rw[Bool.and_eq_false_iff,decide_eq_false_iff_not,decide_eq_false_iff_not];omega
  by_cases h1:e.op=1;rw[if_pos h1,aA,decide_eq_true h1,if_pos rfl,fJ,kN];exact leaf (.inl h1);rw[if_neg h1,aA];by_cases h2:e.op=2;rw[decide_eq_true h2,if_pos rfl,fJ,kN];exact leaf (.inr h2);have h12 : ¬ (e.op = 1 \/ e.op = 2) := by omega
  rw[decide_eq_false h2,if_neg gB];by_cases h3:e.op=3;have hf : tF n e.op e.var e.args.length = decide (0 <= e.var /\ e.var < n /\ e.args.length = 0) := by unfold tF; rw [if_neg h12, if_pos h3]
  rw[if_pos h3,fJ,kN,hf];by_cases hk:0<=e.var/\e.var<n/\e.args.length=0;have ha:e.args=[]:=zal74q.1 hk.2.2;simp[hk.1,hk.2.1,ha];rw[decide_eq_false hk,Dn]
  congr 1
  rw[Bool.and_eq_false_iff,Bool.and_eq_false_iff,decide_eq_false_iff_not,decide_eq_false_iff_not,decide_eq_false_iff_not];omega;rw[if_neg h3];by_cases h4:e.op=4;have hf : tF n e.op e.var e.args.length = decide (e.args.length = 1 /\ e.var = 0) := by unfold tF; rw [if_neg h12, if_neg h3, if_pos h4]
  rw[if_pos h4,hf];by_cases hk:e.args.length=1;rw [if_pos (by omega), oT];cases e.args.any λx=>!oZ n x<;>simp[hk];rw [if_neg (by omega), fJ, kN];simp[hk];rw[if_neg h4];by_cases h5:e.op=5;have hf : tF n e.op e.var e.args.length = decide (e.var = 0) := by unfold tF; rw [if_neg h12, if_neg h3, if_neg h4, if_pos (.inl h5)]
  rw[if_pos h5,oT,hf];cases e.args.any λx=>!oZ n x<;>simp;rw[if_neg h5];by_cases h6:e.op=6;have hf : tF n e.op e.var e.args.length = decide (e.var = 0) := by unfold tF; rw [if_neg h12, if_neg h3, if_neg h4, if_pos (.inr h6)]
  rw[if_pos h6,oT,hf];cases e.args.any λx=>!oZ n x<;>simp;have hf : tF n e.op e.var e.args.length = false := by unfold tF; rw [if_neg h12, if_neg h3, if_neg h4, if_neg (by omega)]
  rw[if_neg h6,fJ,kN,hf];rfl
theorem form_eq(n:Int){e:Ab}(hs:nU e<=1000000000):gy e n=some (oZ n e):=by
 unfold gy;exact Lt n eO e (by have:=I0 e;unfold eO;omega) hs
theorem Yq(n:Int){e:Ab}(hs:nU e<=1000000000):vO e n=some (valB n e):=by
 unfold vO;rw[size_eq hs,aA];by_cases h1:(nU e:Int)<=20000;rw[if_pos h1,depth_eq hs,aA];by_cases h2:(I1 e:Int)<=12;rw[if_pos h2,form_eq n hs,aA,aA]
 congr 1
 cases hg:oZ n e with
 |false=>exact(decide_eq_false (show ¬Yo n 1 20000 e from λh=>by rw[h.1]at hg;cases hg)).symm
 |true=>exact(decide_eq_true (show Yo n 1 20000 e from⟨hg,by omega,h1⟩)).symm
 rw[if_neg h2,aA]
 congr 1
 exact(decide_eq_false (show ¬Yo n 1 20000 e from λh=>by have:=h.2.1;omega)).symm;rw[if_neg h1,aA]
 congr 1
 exact(decide_eq_false (show ¬Yo n 1 20000 e from λh=>by have:=h.2.2;omega)).symm
theorem zp(v:List Bool):∀(fu:Nat)(e:Ab),I1 e<=fu->nU e<=1000000000->mG fu e v=some (lA v e)
 |0,e,h,_=>by rw[wL]at h;omega
 |fu+1,e,h,hs=>by
  rw[wL]at h;have hse:=cg e;have hl:=Ih e.args;rw[Es];unfold mG opB;by_cases h2:e.op=2;rw[if_pos h2,fJ,kN,if_neg (by omega),if_neg (by omega),if_neg (by omega),if_neg (by omega),decide_eq_true h2];rw[if_neg h2];by_cases h3:e.op=3;rw[if_pos h3,if_pos h3];by_cases h0:0<=e.var;rw[if_pos h0];by_cases hv:e.var<(v.length:Int)
  have hget:v[e.var.toNat]?=some (v.getD e.var.toNat false):=by
   rw[qv,gN (by omega)];rfl
  rw[if_pos hv,wC h0 hget,aA,fJ,kN,decide_eq_true h0,yB];rw [if_neg hv, aA, fJ, kN, qv, lB (by omega)];simp;rw[if_neg h0,aA,fJ,kN,decide_eq_false h0,Dn];rw[if_neg h3,if_neg h3];by_cases h4:e.op=4;rw[if_pos h4,if_pos h4]
  cases ha:e.args with
  |nil=>
   rw[if_neg (by simp),aA,fJ,kN];rfl
  |cons x r=>
   have hm:x∈e.args:=by rw[ha];exact rL ..
   have q1:=Ia hm;have q2:=Ee hm;rw[if_pos (by simp),wC (by omega) (by rfl),zp v fu x (by omega) (by omega),aA,aA,fJ,kN];rfl
  rw[if_neg h4,if_neg h4]
  have hloop : ∀ c : Bool, bB (ρ := Unit ⊕ (Unit ⊕ Bool)) (fun i24 =>
      if i24 < (e.args.length : Int) then
       bC e.args i24 λe27=>
       aD ((mG fu) e27 v) λr28=>
       if ((r28 == c)) = true then
        aT (
         aT (
          aT (
           some c)))
       else
        aE (bH (i24+(1:Int))) <|
        some (.inl (i24+(1:Int)))
      else
       aT (
        some (.inl ()))) (0:Int)=some (if(e.args.any λx=>lA v x == c)=true then .inr (.inr c)else .inl ()):=λc=>by
   refine mE (ρ:=Unit ⊕ (Unit ⊕ Bool)) e.args (λx=>lA v x == c) (Sum.inr (Sum.inr c)) (Sum.inl ()) (by omega) ?_ ?_;intro i x hx;have hi:=(zQQ.1 hx).1;have hm:=lG hx;have q1:=Ia hm;have q2:=Ee hm;rw[if_pos (by omega),aJ hx,zp v fu x (by omega) (by omega),aA,aB (by unfold bH;omega)];cases lA v x == c<;>rfl;rw [if_neg (by omega)];rfl
  by_cases h5:e.op=5;have h6 : ¬ e.op = 6 := by omega
  rw[if_pos h5,if_pos h5,aA,decide_eq_true h5,if_pos rfl,decide_eq_false h6,hloop false]
  have:(e.args.map (lA v)).all id=!(e.args.any λx=>lA v x == false):=by
   rw[List.all_map,List.all_eq_not_any_not]
   congr 2
   funext x
   show(!(lA v x))=(lA v x == false);cases lA v x<;>rfl
  rw[this];cases (e.args.any λx=>lA v x == false)<;>rfl;rw[if_neg h5,if_neg h5,aA];by_cases h6:e.op=6;rw[if_pos h6,decide_eq_true h6,if_pos rfl,decide_eq_false h5,hloop true]
  have:(e.args.map (lA v)).any id=(e.args.any λx=>lA v x == true):=by
   rw[List.any_map]
   congr 1
   funext x
   show lA v x=(lA v x == true);cases lA v x<;>rfl
  rw[this];cases (e.args.any λx=>lA v x == true)<;>rfl;rw[if_neg h6,decide_eq_false h6,if_neg (by simp),oT,decide_eq_false h2]
theorem REval_eq(v:List Bool){e:Ab}(hs:nU e<=1000000000):ka e v=some (lA v e):=by
 unfold ka;exact zp v eO e (by have:=I0 e;unfold eO;omega) hs
theorem alive25:qS=some true:=by decide+kernel
theorem Vw{e:Am}(m:Machine)(ho:okE e.expr)(hs:nU e.expr<=1000000000):pM e m=some (!(lA m.vars e.expr)):=by
 unfold pM;rw[Eval_eq m.vars (by have:=I0 e.expr;unfold eO;omega) ho,aA]
def X6(l:List Am)(m:Machine):Int:=if(l.findIdx λe=>!(lA m.vars e.expr))<l.length then(l.findIdx λe=>!(lA m.vars e.expr):Nat)else -1
theorem qBX{l:List Am}(m:Machine)(hl:l.length<=ye)(g:Am->Option Bool)(hg:∀e∈l,g e=some (!(lA m.vars e.expr))):bB (ρ:=Unit ⊕ Int) (λx3=>
   if x3 < (l.length : Int) then
    bC l x3 λe6=>
    aD (g e6) λr7=>
    if r7 = true then
     aT (
      aT (
       some x3))
    else
     aE (bH (x3+(1:Int))) <|
     some (.inl (x3+(1:Int)))
   else
    aT (
     some (.inl ()))) (0:Int)=some (if(l.findIdx λe=>!(lA m.vars e.expr))<l.length then .inr (l.findIdx λe=>!(lA m.vars e.expr):Nat)else .inl ()):=by
 obtain⟨o,h1,h2⟩:=Zq (f:=λ(x3:Int)=>
   if x3 < (l.length : Int) then
    bC l x3 λe6=>
    aD (g e6) λr7=>
    if r7 = true then
     aT (
      aT (
       some x3))
    else
     aE (bH (x3+(1:Int))) <|
     some (.inl (x3+(1:Int)))
   else
    aT (
     some (.inl ()))) (s:=(0:Int))
  (λ(o:Unit ⊕ Int)=>o=if(l.findIdx λe=>!(lA m.vars e.expr))<l.length then .inr (l.findIdx λe=>!(lA m.vars e.expr):Nat)else .inl ())
  (fun i s => s = (i : Int) /\ i <= l.findIdx fun e => !(lA m.vars e.expr)) l.length hl ⟨rfl, gS _⟩ (fun i hi s hI => by
   obtain⟨rfl,h2⟩:=hI;rw[if_pos (by omega),aJ (gN hi),hg _ (fH hi),aA]
   cases hb:!(lA m.vars l[i].expr)with
   | true =>
    right
    have hf:(l.findIdx λe=>!(lA m.vars e.expr))=i:=by
     refine Nat.le_antisymm ?_ h2;by_cases h:(l.findIdx λe=>!(lA m.vars e.expr))<=i;exact h;exact absurd hb (by simpa using List.not_of_lt_findIdx (Nat.lt_of_not_le h))
    refine⟨_,rfl,?_⟩;rw[hf,if_pos hi]
   | false =>
    left;rw[if_neg (by simp),aB (bG hi hl)];refine⟨_,rfl,by push_cast;rfl,?_⟩;rcases gM i (l.findIdx λe=>!(lA m.vars e.expr))with h|h
    omega;have h3 : (l.findIdx fun e => !(lA m.vars e.expr)) = i := Nat.le_antisymm h h2;have h4:(l.findIdx λe=>!(lA m.vars e.expr))<l.length:=by omega
    have h5:=List.findIdx_getElem (w:=h4);simp only[h3]at h5;rw[hb]at h5
    cases h5) (λs hI=>by
   obtain⟨rfl,h2⟩:=hI;rw[if_neg (by omega)];refine⟨_,rfl,?_⟩
   rw[if_neg (by omega)])
 rw[h1,h2]
theorem Holds_eq{l:List Am}(m:Machine)(hl:l.length<=ye)(h:∀e∈l,okE e.expr/\nU e.expr<=1000000000):nQ l m=some (X6 l m):=by
 unfold nQ jZ X6;rw[qBX m hl _ λe he=>Vw m (h e he).1 (h e he).2];split<;>rfl
mutual
def Jy(x:Int)(b:Ab):Ab->Ab
 |⟨op,v,l⟩=>if op=3/\v=x then b else⟨op,v,qx x b l⟩
def qx(x:Int)(b:Ab):List Ab->List Ab
 |[]=>[]
 |e::r=>Jy x b e::qx x b r
end
mutual
def cntE(x:Int):Ab->Nat
 |⟨op,v,l⟩=>(if op=3/\v=x then 1 else 0)+Yd x l
def Yd(x:Int):List Ab->Nat
 |[]=>0
 |e::r=>cntE x e+Yd x r
end
theorem Qk(x:Int)(b:Ab):∀l,qx x b l=l.map (Jy x b)
 |[]=>by simp[qx]
 |e::r=>by simp[qx,Qk x b r]
mutual
theorem cnt_sz(x:Int):∀e,cntE x e<=nU e
 |⟨o,v,l⟩=>by
  have:=qAA x l;simp only[cntE,nU];split<;>omega
theorem qAA(x:Int):∀l,Yd x l<=qD l
 |[]=>by simp[Yd,qD]
 |e::r=>by
  have:=cnt_sz x e;have:=qAA x r;simp only[Yd,qD];omega
end
mutual
theorem rep_sz(x:Int)(b:Ab):∀e,nU (Jy x b e)<=nU e+cntE x e*(nU b-1)
 |⟨o,v,l⟩=>by
  have h1:=Zg x b l;have h2:=sz_pos b;simp only[cntE,nU,Jy];split;rw[nA];omega;simp only[nU,fV];omega
theorem Zg(x:Int)(b:Ab):∀l,qD (qx x b l)<=qD l+Yd x l*(nU b-1)
 |[]=>by simp[qx,qD]
 |e::r=>by
  have h1:=rep_sz x b e;have h2:=Zg x b r;simp only[Yd,qD,qx];rw[nA];omega
end
theorem qBV{n m op x:Int}{k:Nat}(h:n<=m)(hf:tF n op x k=true):tF m op x k=true:=by
 unfold tF at *;by_cases h1:op=1\/op=2;rw[if_pos h1]at *; exact hf;rw[if_neg h1]at *;by_cases h3:op=3;rw[if_pos h3]at *;simp only[decide_eq_true_eq]at *;omega;rw[if_neg h3]at *;exact hf
mutual
theorem rep_good{n m:Int}(x:Int){b:Ab}(hnm:n<=m)(hb:oZ m b=true):∀e,oZ n e=true->oZ m (Jy x b e)=true
 |⟨o,v,l⟩,h=>by
  simp only[oZ,wP]at h;have h1:=K4 x hnm hb l h.2;simp only[Jy];split;exact hb;simp only[oZ,wP];have hl:(qx x b l).length=l.length:=by rw[Qk,vg]
  rw[hl];exact⟨qBV hnm h.1,h1⟩
theorem K4{n m:Int}(x:Int){b:Ab}(hnm:n<=m)(hb:oZ m b=true):∀l,wU n l=true->wU m (qx x b l)=true
 |[],_=>by simp[qx,wU]
 |e::r,h=>by
  simp only[wU,wP]at h;simp only[qx,wU,wP];exact⟨rep_good x hnm hb e h.1,K4 x hnm hb r h.2⟩
end
mutual
theorem rep_dp{n:Int}(x:Int)(b:Ab):∀e,oZ n e=true->I1 e<=I1 (Jy x b e)
 |⟨o,v,l⟩,h=>by
  simp only[oZ,wP]at h;have h1:=Zh x b l h.2;simp only[Jy];split;rename_i hc;have hf:=h.1;unfold tF at hf;rw[if_neg (by omega),if_pos hc.1,decide_eq_true_eq]at hf;have:l=[]:=zal74q.1 hf.2.2;subst this;have:=wL b;simp only[I1,Gw];omega;simp only[I1];omega
theorem Zh{n:Int}(x:Int)(b:Ab):∀l,wU n l=true->Gw l<=Gw (qx x b l)
 |[],_=>by simp[qx]
 |e::r,h=>by
  simp only[wU,wP]at h;have h1:=rep_dp x b e h.1;have h2:=Zh x b r h.2;simp only[qx,Gw];omega
end
mutual
theorem rep_none{n x:Int}(b:Ab)(hx:x<0\/n<=x):∀e,oZ n e=true->Jy x b e=e
 |⟨o,v,l⟩,h=>by
  simp only[oZ,wP]at h;have h1:=K3 b hx l h.2;simp only[Jy];split;rename_i hc;have hf:=h.1;unfold tF at hf;rw[if_neg (by omega),if_pos hc.1,decide_eq_true_eq]at hf;omega;rw[h1]
theorem K3{n x:Int}(b:Ab)(hx:x<0\/n<=x):∀l,wU n l=true->qx x b l=l
 |[],_=>by simp[qx]
 |e::r,h=>by
  simp only[wU,wP]at h;simp only[qx,rep_none b hx e h.1,K3 b hx r h.2]
end
theorem rrung_eq(p:Go.Proofs.YtldaknhjmhlefaaGreatDoor.Program){r:Ap}(hs:nU r.expr<=1000000000):yQ p r=some (E4 (p.names.length:Int) p.inputs r):=by
 unfold yQ E4;rw[Yq _ hs,aA];by_cases h1:r.kind=1;have h2 : ¬ r.kind = 2 := by omega
 by_cases hv:p.inputs<=r.var/\r.var<(p.names.length:Int);have hv1 : ¬ r.var < p.inputs := by omega
 have hv2:¬(p.names.length:Int)<=r.var:=by omega
 by_cases hp:r.A1=0<;>simp[h1,hv,hv1,hv2,hp];by_cases hv1:r.var<p.inputs
 ·simp[h1,hv1,Int.not_le.2 hv1]
 have hv2 : (p.names.length : Int) <= r.var := by omega
 simp[h1,hv2,Int.not_lt.2 hv2];by_cases h2:r.kind=2
 ·by_cases hv:p.inputs<=r.var/\r.var<(p.names.length:Int)
  ·have hv1 : ¬ r.var < p.inputs := by omega
   have hv2:¬(p.names.length:Int)<=r.var:=by omega
   by_cases hp:r.A1<1\/1073741824<r.A1;have hp2 : ¬ (1 <= r.A1 /\ r.A1 <= 1073741824) := by omega
   simp[h2,hv,hv1,hv2,hp,hp2];have hp2 : 1 <= r.A1 /\ r.A1 <= 1073741824 := by omega
   simp[h2,hv,hv1,hv2,hp,hp2]
  by_cases hv1:r.var<p.inputs
  ·simp[h2,hv1,Int.not_le.2 hv1]
  have hv2 : (p.names.length : Int) <= r.var := by omega
  simp[h2,hv2,Int.not_lt.2 hv2]
 simp[h1,h2]
structure Slim (p:Go.Proofs.YtldaknhjmhlefaaGreatDoor.Program):Prop where
 ok:POk p
 Ai:p.Ai.length<=2000000
 size:∀r∈p.Ai,nU r.expr<=2000000
theorem K7{p:Go.Proofs.YtldaknhjmhlefaaGreatDoor.Program}(h:Slim p):sW p=some (wN p):=by
 have hr:=h.Ai;unfold sW wN;by_cases h1:2000<p.names.length;rw[if_pos (by omega),if_pos h1];rw [if_neg (by omega), if_neg h1];by_cases h2:p.inputs<0\/(p.names.length:Int)<p.inputs;rw[if_pos (by simpa using h2),if_pos h2];rw [if_neg (by simpa using h2), if_neg h2, mE p.Ai (fun r => !E4 (p.names.length : Int) p.inputs r) (.inr 1) (.inl ()) (by omega) (fun i r hx => ?_) (by rw [if_neg (by omega)]; rfl)]
 ·rw[xJ]
  cases ha:p.Ai.all (E4 (p.names.length:Int) p.inputs)with
  |false=>rw[Hd,if_pos rfl,kN,if_pos rfl]
  |true=>
   rw[vf,if_neg gB,oT,if_neg (by simp)];rw[tD p.Ai.length (λi=>match p.Ai[i]? with|some r=>decide (r.var∈(p.Ai.map (·.var)).take i)|none=>false) (.inr 8) (.inl ()) (by omega) (λi hi=>?_) (by rw[if_neg (by omega)];rfl)];by_cases hd:(p.Ai.map (·.var)).Nodup
   ·rw[if_pos hd,if_neg ?_,oT];rw[zQU];rintro⟨i,hi,hc⟩;rw[zal101q]at hi;rw[gN hi]at hc;exact nodup_take.1 hd i p.Ai[i].var (by simp[hi]) (of_decide_eq_true hc)
   rw[if_neg hd,if_pos ?_,kN];rw[zQU];rw[nodup_take]at hd;simp only[Classical.not_forall,Classical.not_not]at hd;obtain⟨i,x,hx,hm⟩:=hd;have hi:=(zQQ.1 hx).1;rw[vg]at hi;refine⟨i,zal101q.2 hi,?_⟩;rw[gm,gN hi]at hx;simp only[kP,lV]at hx;rw[gN hi];subst hx;exact decide_eq_true hm;have hx:=gN hi;have hlen:(p.Ai.take i).length=i:=by rw[kO];omega
   rw[if_pos (by omega),hx,mE (ρ:=Unit ⊕ (Int ⊕ (Unit ⊕ Int))) (p.Ai.take i) (λr=>decide (r.var=p.Ai[i].var)) (.inr (.inr (.inr 8))) (.inl ()) (by omega) (λk r hk=>?_) (by rw[hlen,if_neg (by omega)];rfl)]
   have he:((p.Ai.take i).any λr=>decide (r.var=p.Ai[i].var))=decide (p.Ai[i].var∈(p.Ai.map (·.var)).take i):=by
    rw[nF,zQU,decide_eq_true_eq,<- List.map_take,zal96q];exact⟨λ⟨x,h1,h2⟩=>⟨x,h1,of_decide_eq_true h2⟩,λ⟨x,h1,h2⟩=>⟨x,h1,decide_eq_true h2⟩⟩
   rw[he];dsimp only;by_cases hm:p.Ai[i].var∈(p.Ai.map (·.var)).take i;rw[if_pos (decide_eq_true hm),if_pos (decide_eq_true hm),kN];rw[if_neg (λh=>hm (of_decide_eq_true h)),if_neg (λh=>hm (of_decide_eq_true h)),oT,aB (bG hi (by omega))];have hk2:=(zQQ.1 hk).1
   have hkr:p.Ai[k]?=some r:=by
    rw[qG]at hk;split at hk;exact hk;cases hk
   rw[if_pos (by omega),aJ hkr,aJ hx,aB (by unfold bH;omega)];by_cases hv:r.var=p.Ai[i].var;rw[if_pos hv,decide_eq_true hv];rfl;rw[if_neg hv,decide_eq_false hv];rfl
 have hi:=(zQQ.1 hx).1;rw[if_pos (by omega),aJ hx,rrung_eq p (by have:=h.size r (lG hx);omega),aA,aB (bG hi (by omega))];rfl
def keyWords:List (List UInt8):=[Ox,wOpen,xi,ed,Hg,Y7,wCall,Y8,Ow,yb,pV,wR,wS,Fi,Ov,Hh,wKeep,wUse,wHold,wAct,Y9].map (·.data.toList)
def keyStep(s:Nat×List UInt8×Nat×Nat)(c:UInt8):Nat×List UInt8×Nat×Nat:=
 if c=46 then(s.1+1,s.2)else if s.1=0 then(s.1,s.2.1++[c],s.2.2)else if s.1=1 then(s.1,s.2.1,s.2.2.1*10+(c.toNat-48),s.2.2.2)else(s.1,s.2.1,s.2.2.1,s.2.2.2*10+(c.toNat-48))
def wi(b:BA):Nat:=(b.data.toList.foldl keyStep (0,[],0,0)) |> λs=>keyWords.findIdx (· == s.2.1)*10000+s.2.2.1*100+s.2.2.2
theorem key1:∀i,i<48->(Fv i).map wi=[i*100,10000+i*100]:=by decide+kernel
theorem key2:∀i,i<48->(Gj i).map wi=[20000+i*100,30000+i*100]:=by decide+kernel
theorem key3:∀i,i<48->(Oo i).map wi=[40000+i*100,50000+i*100,60000+i*100,70000+i*100]:=by decide+kernel
theorem key4:∀i,i<48->(Wt i).map wi=[80000+i*100]:=by decide+kernel
theorem key5:∀i,i<48->([yb,pV,wR,wS].map (sN · i)).map wi=[90000+i*100,100000+i*100,110000+i*100,120000+i*100]:=by decide+kernel
theorem keyR:∀i,i<48->∀k,k<24->wi (sN (wRelD++qT i) k)=130000+i*100+k:=by decide+kernel
theorem key7:∀i,i<48->([Ov,Hh].map (sN · i)).map wi=[140000+i*100,150000+i*100]:=by decide+kernel
theorem key6:∀i,i<48->(nm6 i).map wi=[160000+i*100,170000+i*100,180000+i*100,190000+i*100,200000+i*100]:=by decide+kernel
theorem zE{α β:Type}(f:Nat->List α)(g:α->β)(h:Nat->List β)(n:Nat)(hh:∀i,i<n->(f i).map g=h i):((List.range n).flatMap f).map g=(List.range n).flatMap h:=by
 rw[List.map_flatMap]
 induction n with
 |zero=>rfl
 |succ n ih=>rw[qY,yA,yA,ih λi hi=>hh i (by omega)];simp[hh n (by omega)]
theorem Cx{α β:Type}(f:α->β)(l:List α):l.flatMap (λx=>[f x])=l.map f:=by
 induction l with
 |nil=>rfl
 |cons x r ih=>rw[List.flatMap_cons,ih];rfl
theorem zD{β:Type}{h:Nat->List β}{n:Nat}{x:β}(hx:x∈(List.range n).flatMap h):∃i,i<n/\x∈h i:=by
 obtain⟨i,hi,hm⟩:=zal94q.1 hx;exact⟨i,zal101q.1 hi,hm⟩
theorem uY{h:Nat->List Nat}{n:Nat}(h1:∀i,i<n->(h i).Nodup)(h2:∀a b,a<b->b<n->∀x∈h a,∀y∈h b,x≠y):((List.range n).flatMap h).Nodup:=by
 induction n with
 |zero=>simp
 |succ n ih=>
  rw[mT,zal106q];refine⟨ih (λi hi=>h1 i (by omega)) λa b hab hb=>h2 a b hab (by omega),h1 n (by omega),λx hx y hy=>?_⟩;obtain⟨i,hi,hm⟩:=zD hx;exact h2 i n hi (by omega) x hm y hy
theorem Nn{α β:Type}{f:α->β}{l:List α}(h:(l.map f).Nodup):l.Nodup:=by
 unfold List.Nodup at *;rw[List.pairwise_map]at h;exact h.imp λhab he=>hab (by rw[he])
def kb1(i:Nat):List Nat:=[i*100,10000+i*100]
def kb2(i:Nat):List Nat:=[20000+i*100,30000+i*100]
def kb3(i:Nat):List Nat:=[40000+i*100,50000+i*100,60000+i*100,70000+i*100]
def kb4(i:Nat):List Nat:=[80000+i*100]
def kb5(t:Al)(i:Nat):List Nat:=([90000+i*100,100000+i*100,110000+i*100,120000+i*100]++(List.range (bA t i)).map (130000+i*100+·))++[140000+i*100,150000+i*100]
def kb6(i:Nat):List Nat:=[160000+i*100,170000+i*100,180000+i*100,190000+i*100,200000+i*100]
theorem in1{i x:Nat}(h:x∈kb1 i):x=i*100\/x=10000+i*100:=by simpa[kb1]using h
theorem in2{i x:Nat}(h:x∈kb2 i):x=20000+i*100\/x=30000+i*100:=by simpa[kb2]using h
theorem in3{i x:Nat}(h:x∈kb3 i):x=40000+i*100\/x=50000+i*100\/x=60000+i*100\/x=70000+i*100:=by simpa[kb3]using h
theorem in4{i x:Nat}(h:x∈kb4 i):x=80000+i*100:=by simpa[kb4]using h
theorem in5{t:Al}{i x:Nat}(hl:bA t i<=23)(h:x∈kb5 t i):x=90000+i*100\/x=100000+i*100\/x=110000+i*100\/x=120000+i*100\/(∃k,k<24/\x=130000+i*100+k)\/x=140000+i*100\/x=150000+i*100:=by
 unfold kb5 at h;simp only[zQN,zQB,qZ,or_false,zal96q,zal101q]at h;rcases h with((h|h|h|h)|⟨k,hk,rfl⟩)|h|h
 exact .inl h;exact .inr (.inl h);exact .inr (.inr (.inl h));exact .inr (.inr (.inr (.inl h)));exact .inr (.inr (.inr (.inr (.inl ⟨k,by omega,rfl⟩))));exact .inr (.inr (.inr (.inr (.inr (.inl h)))));exact .inr (.inr (.inr (.inr (.inr (.inr h)))))
theorem in6{i x:Nat}(h:x∈kb6 i):x=160000+i*100\/x=170000+i*100\/x=180000+i*100\/x=190000+i*100\/x=200000+i*100:=by simpa[kb6]using h
theorem qBR(t:Al){i:Nat}(hl:bA t i<=23):(kb5 t i).Nodup:=by
 unfold kb5;rw[zal106q,zal106q];refine⟨⟨by simp,?_,λx hx y hy=>?_⟩,by simp,λx hx y hy=>?_⟩;unfold List.Nodup;rw[List.pairwise_map];exact List.pairwise_lt_range.imp λh=>by omega
 obtain⟨k,hk,rfl⟩:=zal96q.1 hy;rw[zal101q]at hk;simp only[zQB,qZ,or_false]at hx;omega;simp only[zQN,zQB,qZ,or_false,zal96q,zal101q]at hx hy;rcases hx with hx|⟨k,hk,rfl⟩<;>omega
variable {t:Al}
theorem kq(hC:COk t):(mI t).Nodup:=by
 have hlm:=hC.lim;have hl:=hC.last24;apply Nn (f:=wi);unfold mI;simp only[mU];rw[zE Fv wi kb1 _ λi hi=>key1 i (by omega),zE Gj wi kb2 _ λi hi=>key2 i (by omega),zE Oo wi kb3 _ λi hi=>key3 i (by omega),zE Wt wi kb4 _ λi hi=>key4 i (by omega),zE (Gi t) wi (kb5 t) _ ?_,zE nm6 wi kb6 _ λi hi=>key6 i (by omega)];have n1 : ((List.range t.Aa.toNat).flatMap kb1).Nodup := uY (fun i hi => by simp [kb1]) fun a b hab hb x hx y hy => by have := in1 hx; have := in1 hy; omega
 have n2:((List.range t.Ag.length).flatMap kb2).Nodup:=uY (λi hi=>by simp[kb2]) λa b hab hb x hx y hy=>by have:=in2 hx;have:=in2 hy;omega
 have n3:((List.range t.Ac.length).flatMap kb3).Nodup:=uY (λi hi=>by simp[kb3]) λa b hab hb x hx y hy=>by have:=in3 hx;have:=in3 hy;omega
 have n4:((List.range t.Ag.length).flatMap kb4).Nodup:=uY (λi hi=>by simp[kb4]) λa b hab hb x hx y hy=>by have:=in4 hx;have:=in4 hy;omega
 have n5:((List.range t.Ac.length).flatMap (kb5 t)).Nodup:=uY (λi hi=>qBR t (hl i)) λa b hab hb x hx y hy=>by
  have h1:=in5 (hl a) hx;have h2:=in5 (hl b) hy;rcases h1 with h1|h1|h1|h1|⟨k,hk,h1⟩|h1|h1<;>rcases h2 with h2|h2|h2|h2|⟨k2,hk2,h2⟩|h2|h2<;>omega
 have n6:((List.range t.Ac.length).flatMap kb6).Nodup:=uY (λi hi=>by simp[kb6]) λa b hab hb x hx y hy=>by have:=in6 hx;have:=in6 hy;omega
 have b1:∀x∈(List.range t.Aa.toNat).flatMap kb1,x<20000:=λx hx=>by obtain⟨i,hi,hm⟩:=zD hx;have:=in1 hm;omega
 have b2:∀x∈(List.range t.Ag.length).flatMap kb2,20000<=x/\x<40000:=λx hx=>by obtain⟨i,hi,hm⟩:=zD hx;have:=in2 hm;omega
 have b3:∀x∈(List.range t.Ac.length).flatMap kb3,40000<=x/\x<80000:=λx hx=>by obtain⟨i,hi,hm⟩:=zD hx;have:=in3 hm;omega
 have b4:∀x∈(List.range t.Ag.length).flatMap kb4,80000<=x/\x<90000:=λx hx=>by obtain⟨i,hi,hm⟩:=zD hx;have:=in4 hm;omega
 have b5:∀x∈(List.range t.Ac.length).flatMap (kb5 t),90000<=x/\x<160000:=λx hx=>by
  obtain⟨i,hi,hm⟩:=zD hx;have h1:=in5 (hl i) hm;rcases h1 with h1|h1|h1|h1|⟨k,hk,h1⟩|h1|h1<;>omega
 have b6:∀x∈(List.range t.Ac.length).flatMap kb6,160000<=x:=λx hx=>by obtain⟨i,hi,hm⟩:=zD hx;have:=in6 hm;omega
 have c2:∀x∈(List.range t.Aa.toNat).flatMap kb1++(List.range t.Ag.length).flatMap kb2,x<40000:=λx hx=>by
  rcases zQN.1 hx with h|h
  have:=b1 x h;omega;have:=b2 x h;omega
 have m2:((List.range t.Aa.toNat).flatMap kb1++(List.range t.Ag.length).flatMap kb2).Nodup:=zal106q.2 ⟨n1,n2,λx hx y hy=>by have:=b1 x hx;have:=b2 y hy;omega⟩;generalize (List.range t.Aa.toNat).flatMap kb1++(List.range t.Ag.length).flatMap kb2=L2 at c2 m2
 have c3:∀x∈L2++(List.range t.Ac.length).flatMap kb3,x<80000:=λx hx=>by
  rcases zQN.1 hx with h|h
  have:=c2 x h;omega;have:=b3 x h;omega
 have m3:(L2++(List.range t.Ac.length).flatMap kb3).Nodup:=zal106q.2 ⟨m2,n3,λx hx y hy=>by have:=c2 x hx;have:=b3 y hy;omega⟩;generalize L2++(List.range t.Ac.length).flatMap kb3=L3 at c3 m3
 have c4:∀x∈L3++(List.range t.Ag.length).flatMap kb4,x<90000:=λx hx=>by
  rcases zQN.1 hx with h|h
  have:=c3 x h;omega;have:=b4 x h;omega
 have m4:(L3++(List.range t.Ag.length).flatMap kb4).Nodup:=zal106q.2 ⟨m3,n4,λx hx y hy=>by have:=c3 x hx;have:=b4 y hy;omega⟩;generalize L3++(List.range t.Ag.length).flatMap kb4=L4 at c4 m4
 have c5:∀x∈L4++(List.range t.Ac.length).flatMap (kb5 t),x<160000:=λx hx=>by
  rcases zQN.1 hx with h|h
  have:=c4 x h;omega;have:=b5 x h;omega
 have m5:(L4++(List.range t.Ac.length).flatMap (kb5 t)).Nodup:=zal106q.2 ⟨m4,n5,λx hx y hy=>by have:=c4 x hx;have:=b5 y hy;omega⟩;generalize L4++(List.range t.Ac.length).flatMap (kb5 t)=L5 at c5 m5;exact zal106q.2 ⟨m5,n6,λx hx y hy=>by have:=c5 x hx;have:=b6 y hy;omega⟩;intro i hi
 have h1:(ep i (bA t i)).map wi=(List.range (bA t i)).map (130000+i*100+·):=by
  unfold ep
  rw[zE _ wi (λk=>[130000+i*100+k]) _ (λk hk=>by
   have:=hl i
   rw[nE,nE,q7,q7,keyR i (by omega) k (by omega)]),Cx]
 unfold Gi kb5;rw[mU,mU,key5 i (by omega),key7 i (by omega),h1]
def fd(L:List BA):List (BA×Int):=L.mapIdx λi x=>(x,(i:Int))
theorem Vd{L:List BA}{j:Nat}{s:BA}{v:Int}(h:(fd L)[j]?=some (s,v)):L[j]?=some s/\v=(j:Int):=by
 unfold fd at h;rw[va]at h
 cases e:L[j]? with
 |none=>rw[e]at h;cases h
 |some x=>
  rw[e]at h;simp only[kP,lV,tI]at h;exact⟨by rw[h.1],h.2.symm⟩
theorem Lg(L:List BA):(fd L).map (·.1)=L:=by
 unfold fd;apply tH;intro i;rw[gm,va];cases L[i]?<;>rfl
theorem qBL(L:List BA)(x:BA):fd (L++[x])=fd L++[(x,(L.length:Int))]:=by
 unfold fd;rw[List.mapIdx_append];simp
theorem mapL_at{L:List BA}(hn:L.Nodup){j:Nat}{s:BA}(h:L[j]?=some s):lF (fd L) s=some (j:Int):=by
 have hm:(fd L)[j]?=some (s,(j:Int)):=by unfold fd;rw[va,h];rfl
 cases e:lF (fd L) s with
 |none=>exact absurd rfl (w9 e _ (lG hm))
 |some b=>
  obtain⟨k,hk⟩:=w8 e;obtain⟨h1,h2⟩:=Vd hk;rw[h2]
  congr 2
  rw[rF]at hn;have hj:=(zQQ.1 h).1;have hkl:=(zQQ.1 h1).1;rcases Nat.lt_trichotomy k j with hlt|heq|hgt
  exact absurd (by rw[h,h1]) (hn k j hlt hj);exact heq;exact absurd (by rw[h,h1]) (hn j k hgt hkl)
theorem qBM{L:List BA}{s:BA}(h:s∉L):lF (fd L) s=none:=by
 cases e:lF (fd L) s with
 |none=>rfl
 |some b=>
  obtain⟨k,hk⟩:=w8 e;exact absurd (lG (Vd hk).1) h
theorem qBK{L:List BA}(hn:L.Nodup)(hl:L.length<=1000000):bB (ρ:=List (BA×Int)) (λ(x10,b11)=>
    if x10<(L.length:Int)then
     bC L x10 λe14=>
     aE (b11.map (·.1)).Nodup <|
     aE (bH (x10+(1:Int))) <|
     some (.inl ((x10+(1:Int)),(Nh b11 e14 x10)))
    else
     aT (
      some b11)) ((0:Int),([]:List (BA×Int)))=some (fd L):=by
 rw[lR L.length (λk=>fd (L.take k)) (o:=fd L) (by simp[fd]) (by omega) (λk hk=>?_) (by dsimp only;rw[if_neg (by omega),oD];rfl)];have hx:=gN hk;have hnt:(L.take k).Nodup:=hn.sublist (List.take_sublist k L)
 have hni:L[k]∉L.take k:=λhm=>by
  obtain⟨j,hj,he⟩:=zal103q.1 hm;rw[rF]at hn;exact hn j k (by omega) hk (by rw[hx,gN (by omega),he])
 dsimp only;rw[if_pos (by omega),aJ hx,aB (by rw[Lg];exact hnt),aB (by unfold bH;omega),Q0 (qBM hni),mF,hx];show some (Sum.inl ((k:Int)+1,fd (L.take k)++[(L[k],(k:Int))]))=some (Sum.inl ((k:Int)+1,fd (L.take k++[L[k]])));rw[qBL,kO,Nat.min_eq_left (by omega)]
variable {t:Al}{b:List Am}{i:Nat}
theorem Gu{β:Type}{f:Nat->List β}{n i j:Nat}{x:β}(hi:i<n)(h:(f i)[j]?=some x):((List.range n).flatMap f)[((List.range i).flatMap f).length+j]?=some x:=by
 induction n with
 |zero=>omega
 |succ n ih=>
  rw[mT];by_cases hin:i<n;have h1:=ih hin;rw[G9 (zQQ.1 h1).1,h1];have : i = n := by omega
  subst this;rw[Dm (by omega),Nat.add_sub_cancel_left,h]
theorem zQ{β:Type}{a c:List β}{j:Nat}{x:β}(h:a[j]?=some x):(a++c)[j]?=some x:=by
 rw[G9 (zQQ.1 h).1,h]
theorem qAJ{β:Type}{a c:List β}{j k:Nat}{x:β}(hk:k=a.length+j)(h:c[j]?=some x):(a++c)[k]?=some x:=by
 rw[Dm (by omega),hk,Nat.add_sub_cancel_left,h]
theorem p_free{s:Nat}(hs:s<t.Aa.toNat):(mI t)[2*s]?=some (sN Ox s):=by
 unfold mI;have h1:=eY (f:=Fv) (c:=2) (λ_=>rfl) s;have:=Gu (f:=Fv) (j:=0) (x:=sN Ox s) hs rfl;rw[h1]at this;exact zQ (zQ (zQ (zQ (zQ (by simpa using this)))))
theorem p_pnt{p j:Nat}{w:BA}(hp:p<t.Ag.length)(hw:([xi,ed])[j]?=some w):(mI t)[2*t.Aa.toNat+2*p+j]?=some (sN w p):=by
 unfold mI;have h1:=eY (f:=Fv) (c:=2) (λ_=>rfl) t.Aa.toNat;have h2:=eY (f:=Gj) (c:=2) (λ_=>rfl) p;have:=Gu (f:=Gj) (j:=j) (x:=sN w p) hp (by unfold Gj;rw[gm,hw];rfl);rw[h2]at this;exact zQ (zQ (zQ (zQ (qAJ (j:=2*p+j) (by rw[h1];omega) this))))
theorem len3(t:Al):((((List.range t.Aa.toNat).flatMap Fv++(List.range t.Ag.length).flatMap Gj)++(List.range t.Ac.length).flatMap Oo)).length=tE t:=by
 have h1:=eY (f:=Fv) (c:=2) (λ_=>rfl) t.Aa.toNat;have h2:=eY (f:=Gj) (c:=2) (λ_=>rfl) t.Ag.length;have h3:=eY (f:=Oo) (c:=4) (λ_=>rfl) t.Ac.length;simp only[kU,h1,h2,h3];unfold tE;omega
theorem len4(t:Al):((((List.range t.Aa.toNat).flatMap Fv++(List.range t.Ag.length).flatMap Gj)++(List.range t.Ac.length).flatMap Oo)++(List.range t.Ag.length).flatMap Wt).length=tE t+t.Ag.length:=by
 have h4:=eY (f:=Wt) (c:=1) (λ_=>rfl) t.Ag.length;rw[kU,len3,h4];omega
theorem p_lie{p:Nat}(hp:p<t.Ag.length):(mI t)[tE t+p]?=some (sN Ow p):=by
 unfold mI;have h4:=eY (f:=Wt) (c:=1) (λ_=>rfl) p;have:=Gu (f:=Wt) (j:=0) (x:=sN Ow p) hp rfl;rw[h4]at this;exact zQ (zQ (qAJ (j:=1*p+0) (by rw[len3];omega) this))
theorem p_nm5(hC:COk t)(hi:i<t.Ac.length){j:Nat}{x:BA}(h:(Gi t i)[j]?=some x):(mI t)[cD t i+j]?=some x:=by
 unfold mI;have h5:=zC hC i (by omega);have:=Gu hi h;exact zQ (qAJ (j:=((List.range i).flatMap (Gi t)).length+j) (by rw[len4];omega) this)
theorem p_state(hC:COk t)(hi:i<t.Ac.length){k:Nat}{w:BA}(hw:([yb,pV,wR,wS])[k]?=some w):(mI t)[cD t i+k]?=some (sN w i):=
 p_nm5 hC hi (by unfold Gi;exact zQ (zQ (by rw[gm,hw];rfl)))
theorem p_rel(hC:COk t)(hi:i<t.Ac.length){k:Nat}(hk:k<bA t i):(mI t)[cD t i+(4+k)]?=some (sN (wRelD++qT i) k):=
 p_nm5 hC hi (by
  have h1:ep i (bA t i)=(List.range (bA t i)).map λk=>sN (wRelD++qT i) k:=Cx _ _;unfold Gi;rw[h1]
  exact zQ (qAJ (j:=k) (by simp) (by rw[gm,Mh hk];rfl)))
def wI(w sep:BA)(xs:List Int):BA:=xs.foldl (λb x=>b++(sep++qT x.toNat)) w
def qAR:BA:=⟨#[32]⟩
abbrev Low(xs:List Int):Prop:=∀x∈xs,0<=x/\x<100
theorem Kv(w sep:BA)(xs:List Int)(x:Int):wI w sep (xs++[x])=wI w sep xs++(sep++qT x.toNat):=by
 unfold wI;rw[Ha];rfl
theorem Kw{w sep:BA}(hw:w.size<=100)(hs:sep.size<=10):∀(k:Nat){xs:List Int},xs.length=k->Low xs->(wI w sep xs).size<=100+20*k
 |0,xs,hk,h=>by
  have:=zal74q.1 hk;subst this;exact jL hw (by omega)
 |k+1,xs,hk,h=>by
  have hne:xs≠[]:=λhe=>by subst he;simp at hk
  have hx:=List.dropLast_concat_getLast hne;rw[<- hx]at h⊢;have hl:=h (xs.getLast hne) (by simp);have h1:=Kw hw hs k (xs:=xs.dropLast) (by simp;omega) (λx hm=>h x (by simp[hm]));have h2:=xU (xs.getLast hne).toNat (by omega);rw[Kv,ve,ve];omega
theorem W6{w sep:BA}{xs:List Int}(hw:w.size<=100)(hs:sep.size<=10)(hl:xs.length<=100)(hx:Low xs)(F:Int->Option BA)(hF:∀i:Nat,i<100->F (i:Int)=some (qT i)):bB (ρ:=BA) (λ(word5,x6)=>
   if x6<(xs.length:Int)then
    bC xs x6 λe9=>
    aD (F e9) λr10=>
    aE (sep.size+r10.size<=9223372036854775807) <|
    aE (word5.size+(sep++r10).size<=9223372036854775807) <|
    aE (bH (x6+(1:Int))) <|
    some (.inl ((word5++(sep++r10)),(x6+(1:Int))))
   else
    aT (
     some word5)) (w,(0:Int))=some (wI w sep xs):=by
 rw[oG (s:=(w,(0:Int))) (λi=>(wI w sep (xs.take i),(i:Int))) xs.length (o:=wI w sep xs) rfl (by omega) ?_ ?_];intro i hi;have hg:=gN hi;have hm:=hx _ (fH hi);generalize xs[i]=x at hg hm;have hF:=hF x.toNat (by omega);rw[show((x.toNat:Nat):Int)=x by omega]at hF;have h1:=Kw hw hs i (xs:=xs.take i) (by simp;omega) (λy hy=>hx y (Bw hy));have h2:=xU x.toNat (by omega);dsimp only;rw[if_pos (by omega),aJ hg,hF,aA,aB (by omega),aB (by rw[ve];omega),aB (by unfold bH;omega),mF,hg];show _=some (Sum.inl (wI w sep (xs.take i++[x]),((i+1:Nat):Int)));rw[Kv];rfl;dsimp only;rw[if_neg (by omega),oD];rfl
theorem O1{w sep:BA}{xs:List Int}(hw:w.size<=100)(hs:sep.size<=10)(hl:xs.length<=100)(hx:Low xs):rE w sep xs=some (wI w sep xs):=by
 unfold rE;rw[W6 hw hs hl hx nL (λi hi=>Nw hi),aA]
abbrev cl(t:Al)(b:List Am):Av:=⟨t,fd (mI t),b⟩
theorem Hi(hC:COk t){w:BA}{xs:List Int}{pos:Nat}(hw:w.size<=100)(hl:xs.length<=100)(hx:Low xs)(hp:(mI t)[pos]?=some (wI w Fz xs)):bS (cl t b) w xs=some (vE (pos:Int)):=by
 unfold bS;have h1:=O1 (w:=w) (sep:=Fz) hw (by decide) hl hx;unfold Fz at h1;rw[h1,aA,aB (by rw[Lg];exact kq hC)];have h2:=mapL_at (kq hC) hp;unfold Fz at h2;rw[h2];rfl
theorem tit1(w:BA)(i:Nat):wI w Fz [(i:Int)]=sN w i:=by
 unfold wI sN;show w++(Fz++qT i)=_;rw[ByteArray.append_assoc]
theorem tit2(i k:Nat):wI Fi Fz [(i:Int),(k:Int)]=sN (wRelD++qT i) k:=by
 unfold wI sN;show(Fi++(Fz++qT i))++(Fz++qT k)=_;rw[show wRelD=Fi++Fz from rfl];simp only[ByteArray.append_assoc]
theorem X1{x:Int}(h:0<=x/\x<100):Low [x]:=λy hy=>by
 rw[zal102q]at hy;subst hy;exact h
theorem low2{x y:Int}(h:0<=x/\x<100)(h2:0<=y/\y<100):Low [x,y]:=λz hz=>by
 simp only[zQB,qZ,or_false]at hz;rcases hz with rfl|rfl
 exact h;exact h2
theorem low3{x y z:Int}(h:0<=x/\x<100)(h2:0<=y/\y<100)(h3:0<=z/\z<100):Low [x,y,z]:=λu hu=>by
 simp only[zQB,qZ,or_false]at hu;rcases hu with rfl|rfl|rfl
 exact h;exact h2;exact h3
theorem v_free(hC:COk t){s:Int}(h0:0<=s)(h1:s<t.Aa):bS (cl t b) ⟨#[102,114,101,101]⟩ [s]=some (gG s):=by
 have hlm:=hC.lim
 have h2:=Hi (b:=b) hC (w:=Ox) (xs:=[s]) (pos:=2*s.toNat) (by decide) (by simp) (X1 (by omega)) (by
  rw[show([s]:List Int)=[((s.toNat:Nat):Int)] by rw[show((s.toNat:Nat):Int)=s by omega],tit1]
  exact p_free (by omega))
 rw[show((2*s.toNat:Nat):Int)=2*s by omega]at h2;exact h2
theorem v_pnt(hC:COk t){p:Nat}{j:Nat}{w:BA}(hp:p<t.Ag.length)(hw:([xi,ed])[j]?=some w)(hsz:w.size<=100):bS (cl t b) w [(p:Int)]=some (vE (2*t.Aa+2*(p:Int)+(j:Int))):=by
 have hlm:=hC.lim;have h2:=Hi (b:=b) hC (w:=w) (xs:=[(p:Int)]) hsz (by simp) (X1 (by omega)) (by rw[tit1];exact p_pnt hp hw);rw[show((2*t.Aa.toNat+2*p+j:Nat):Int)=2*t.Aa+2*(p:Int)+(j:Int) by omega]at h2;exact h2
theorem v_lie(hC:COk t){p:Nat}(hp:p<t.Ag.length):bS (cl t b) ⟨#[108,105,101]⟩ [(p:Int)]=some (vE ((tE t:Int)+(p:Int))):=by
 have hlm:=hC.lim;have h2:=Hi (b:=b) hC (w:=Ow) (xs:=[(p:Int)]) (by decide) (by simp) (X1 (by omega)) (by rw[tit1];exact p_lie hp);rw[show((tE t+p:Nat):Int)=(tE t:Int)+(p:Int) by omega]at h2;exact h2
theorem gn(hC:COk t)(hi:i<t.Ac.length){k:Nat}{w:BA}(hw:([yb,pV,wR,wS])[k]?=some w)(hsz:w.size<=100):bS (cl t b) w [(i:Int)]=some (qE t i (k:Int)):=by
 have hlm:=hC.lim;have h2:=Hi (b:=b) hC (w:=w) (xs:=[(i:Int)]) hsz (by simp) (X1 (by omega)) (by rw[tit1];exact p_state hC hi hw);rw[show((cD t i+k:Nat):Int)=(cD t i:Int)+(k:Int) by omega]at h2;exact h2
theorem v_rel(hC:COk t)(hi:i<t.Ac.length){k:Nat}(hk:k<bA t i):bS (cl t b) ⟨#[114,101,108]⟩ [(i:Int),(k:Int)]=some (nM t i (k:Int)):=by
 have hlm:=hC.lim;have h24:=hC.last24 i;have h2:=Hi (b:=b) hC (w:=Fi) (xs:=[(i:Int),(k:Int)]) (by decide) (by simp) (low2 (by omega) (by omega)) (by rw[tit2];exact p_rel hC hi hk);rw[show((cD t i+(4+k):Nat):Int)=(cD t i:Int)+(4+(k:Int)) by omega]at h2;exact h2
def zH(t:Al)(i:Nat):Ab:=qX [qE t i 0,qE t i 1,qE t i 2,qE t i 3]
def rI(t:Al)(i k:Nat):Ab:=if k=bA t i then zH t i else fX [zH t i,fS (nM t i (k:Int))]
theorem fx(hC:COk t)(hi:i<t.Ac.length):eB (cl t b) (i:Int)=some (zH t i):=by
 unfold eB;have h0:=gn (b:=b) hC hi (k:=0) (w:=yb) rfl (by decide);have h1:=gn (b:=b) hC hi (k:=1) (w:=pV) rfl (by decide);have h2:=gn (b:=b) hC hi (k:=2) (w:=wR) rfl (by decide);have h3:=gn (b:=b) hC hi (k:=3) (w:=wS) rfl (by decide);unfold yb at h0;unfold pV at h1;unfold wR at h2;unfold wS at h3;rw[h0,aA,h1,aA,h2,aA,h3,aA];rfl
theorem G0(hC:COk t){r:Ak}(hr:t.Ac[i]?=some r){k:Nat}(hk:k<r.Aa.length):eH (cl t b) (i:Int) (k:Int)=some (rI t i k):=by
 have hi:=(zQQ.1 hr).1;have hs:=hC.secs (lG hr);have hln:bA t i=r.Aa.length-1:=by unfold bA;rw[hr]
 unfold eH rI;dsimp only;rw[aJ hr,aB (by unfold bH;omega)];by_cases hl:k=bA t i;rw [if_pos (by omega), if_pos hl, fx hC hi];rfl;rw [if_neg (by omega), if_neg hl, fx hC hi, aA, v_rel hC hi (by omega), aA];rfl
theorem L1{e:Ab}{w:BA}{xs:List Int}(hw:w.size<=100)(hl:xs.length<=100)(hx:Low xs)(hb:b.length<=1000000):eV (cl t b) e w xs=some (cl t (b++[⟨wI w qAR xs,e⟩])):=by
 unfold eV;have h1:=O1 (w:=w) (sep:=qAR) hw (by decide) hl hx;unfold qAR at h1⊢;rw[h1,aA,aB (by simp;omega)]
variable {t:Al}{b:List Am}{i:Nat}
theorem If{β ρ:Type}(f:Nat->List β)(pre:List β)(s0 n:Nat){F:Int×List β->Option ((Int×List β) ⊕ ρ)}{o:ρ}(hn:n<=9223372036854775807)(hF:∀j,j<n->F (((s0+j:Nat):Int),pre++(List.range j).flatMap f)=some (.inl (((s0+j+1:Nat):Int),(pre++(List.range j).flatMap f)++f j)))
  (he:F (((s0+n:Nat):Int),pre++(List.range n).flatMap f)=some (.inr o)):bB F ((s0:Int),pre)=some o:=by
 refine oG (λi=>(((s0+i:Nat):Int),pre++(List.range i).flatMap f)) n (by simp) hn (λi hi=>?_) he;rw[hF i hi,qY,yA,lM];simp[xB]
def wPath:BA:=⟨#[112,97,116,104]⟩
def wOver:BA:=⟨#[111,118,101,114]⟩
def wc(t:Al)(a c:Nat)(q:Ak)(s:Int)(x:Nat):List Am:=match dU q.Aa s with
 |some k=>[⟨wI wPath qAR [(a:Int),(c:Int),s],fS (fX [rI t a x,rI t c k])⟩]
 |none=>[]
def yu(t:Al)(a c:Nat):List Am:=rt t (λ_ r=>rt t (λ_ q=>(List.range r.Aa.length).flatMap λx=>wc t a c q (wJ r x) x) c) a
def E8(t:Al)(a:Nat):List Am:=(List.range (t.Ac.length-(a+1))).flatMap λj=>yu t a (a+1+j)
def km(t:Al):List Am:=(List.range t.Ac.length).flatMap (E8 t)
def wd(t:Al)(a c:Nat)(q:Ak)(s:Int):List Am:=match dU q.Aa s with
 |some k=>[⟨wI wOver qAR [(a:Int),(c:Int),s],fS (fX [zH t a,rI t c k])⟩]
 |none=>[]
def wT(t:Al)(a c:Nat):List Am:=rt t (λ_ r=>rt t (λ_ q=>if a=c\/mO r q=true then[]else(List.range r.Ae.length).flatMap λx=>wd t a c q (r.Ae.getD x 0)) c) a
def zv(t:Al):List Am:=(List.range t.Ac.length).flatMap λa=>(List.range t.Ac.length).flatMap (wT t a)
theorem La(a c:Nat)(q:Ak)(s:Int)(x:Nat):(wc t a c q s x).length<=1:=by unfold wc;split<;>simp
theorem Lc(a c:Nat)(q:Ak)(s:Int):(wd t a c q s).length<=1:=by unfold wd;split<;>simp
theorem zo{α:Type}{f:Nat->Ak->List α}{c:Nat}(h:∀(i:Nat)(r:Ak),t.Ac[i]?=some r->(f i r).length<=c)(i:Nat):(rt t f i).length<=c:=by
 unfold rt
 cases e:t.Ac[i]? with
 |none=>simp
 |some r=>exact h i r e
theorem K9(hC:COk t)(a c:Nat):(yu t a c).length<=24:=by
 unfold yu;refine zo (λi r hr=>zo (λj q hq=>?_) c) a;have h1:=hC.sec24 (lG hr);have:=dV (f:=λx=>wc t a c q (wJ r x) x) (c:=1) (λx=>La _ _ _ _ _) r.Aa.length;omega
theorem over24(hC:COk t){r:Ak}(hr:r∈t.Ac):r.Ae.length<=200:=by
 have:=hC.sum r hr;unfold xC at this;omega
theorem Lb(hC:COk t)(a c:Nat):(wT t a c).length<=200:=by
 unfold wT;refine zo (λi r hr=>zo (λj q hq=>?_) c) a;have h1:=over24 hC (lG hr);split;simp;have := dV (f := fun x => wd t a c q (r.Ae.getD x 0)) (c := 1) (fun x => Lc _ _ _ _) r.Ae.length;omega
theorem qBE(hC:COk t)(a:Nat):(E8 t a).length<=24*48:=by
 have hlm:=hC.lim;unfold E8;have:=dV (f:=λj=>yu t a (a+1+j)) (c:=24) (λj=>K9 hC _ _) (t.Ac.length-(a+1));have h2:24*(t.Ac.length-(a+1))<=24*48:=xf _ (by omega);omega
theorem qBF(hC:COk t)(a:Nat):((List.range t.Ac.length).flatMap (wT t a)).length<=200*48:=by
 have hlm:=hC.lim;have:=dV (f:=wT t a) (c:=200) (λj=>Lb hC _ _) t.Ac.length;omega
theorem zt(hC:COk t)(n:Nat)(hn:n<=48):((List.range n).flatMap (E8 t)).length<=60000:=by
 have:=dV (f:=E8 t) (c:=24*48) (λj=>qBE hC _) n;have h2:24*48*n<=24*48*48:=xf _ hn;omega
theorem zu(hC:COk t)(n:Nat)(hn:n<=48):((List.range n).flatMap λa=>(List.range t.Ac.length).flatMap (wT t a)).length<=500000:=by
 have:=dV (f:=λa=>(List.range t.Ac.length).flatMap (wT t a)) (c:=200*48) (λj=>qBF hC _) n;have h2:200*48*n<=200*48*48:=xf _ hn;omega
theorem Zn(hC:COk t){r:Ak}(hr:r∈t.Ac){k:Nat}(hk:k<r.Ae.length):r.Ae[k]?=some (r.Ae.getD k 0)/\0<=r.Ae.getD k 0/\r.Ae.getD k 0<t.Aa:=by
 have h1:r.Ae.getD k 0=r.Ae[k]:=by rw[qv,gN hk];rfl
 have h2:=hC.sec_in hr (s:=r.Ae[k]) (G4 _ (fH hk));rw[h1];exact⟨gN hk,h2⟩
theorem N8(hC:COk t){r:Ak}(hr:r∈t.Ac):rQ r.Aa:=by
 have:=hC.sec24 hr;unfold rQ;omega
theorem c_paths(hC:COk t)(hb:b.length<=100000):iP (cl t b)=some (cl t (b++km t)):=by
 have hlm:=hC.lim;unfold iP;dsimp only;rw[eI (E8 t) b t.Ac.length (by omega) (λa ha=>?_) (by dsimp only;rw[if_neg (by omega)];rfl)];rfl;have hB := zt hC a (by omega);have hBl:(b++(List.range a).flatMap (E8 t)).length<=160000:=by rw[kU];omega
 generalize b++(List.range a).flatMap (E8 t)=B at hBl;have hra:=gN ha;have hrm:=fH ha;generalize hr:t.Ac[a]=r at hra hrm;dsimp only;rw[if_pos (by omega),aB (by unfold bH;omega),show((a:Int)+1)=((a+1:Nat):Int) by omega];rw[If (λj=>yu t a (a+1+j)) B (a+1) (t.Ac.length-(a+1)) (by omega) (λj hj=>?_) (by dsimp only;rw[if_neg (by omega)];rfl),aA];rw [aB (by unfold bH; omega)];rfl;have hB2 := dV (f := fun j => yu t a (a + 1 + j)) (c := 24) (fun j => K9 hC _ _) j;have h24:24*j<=24*48:=xf _ (by omega);have hB3:(B++(List.range j).flatMap λj=>yu t a (a+1+j)).length<=170000:=by rw[kU];omega
 generalize (B++(List.range j).flatMap λj=>yu t a (a+1+j))=B2 at hB3;obtain⟨c,hc⟩:∃c,c=a+1+j:=⟨_,rfl⟩;have hcl:c<t.Ac.length:=by omega
 rw[<- hc];have hqc:=gN hcl;have hqm:=fH hcl;generalize t.Ac[c]=q at hqc hqm;dsimp only;have hs24:=hC.sec24 hrm;rw[if_pos (by omega),aJ hra,eI (λx=>wc t a c q (wJ r x) x) B2 r.Aa.length (by omega) (λx hx=>?_) (by dsimp only;rw[if_neg (by omega)];rfl),aA,aB (by unfold bH;omega)]
 have hp2:yu t a c=(List.range r.Aa.length).flatMap λx=>wc t a c q (wJ r x) x:=by
  unfold yu;rw[em hra,em hqc]
 rw[hp2];rfl;have hB4 := dV (f := fun x => wc t a c q (wJ r x) x) (c := 1) (fun x => La _ _ _ _ _) x;have hB5:(B2++(List.range x).flatMap λx=>wc t a c q (wJ r x) x).length<=180000:=by rw[kU];omega
 generalize (B2++(List.range x).flatMap λx=>wc t a c q (wJ r x) x)=B6 at hB5;obtain⟨hsx,hs0,hs1⟩:=xN hC hrm hx;generalize hsd:wJ r x=s at hsx hs0 hs1;dsimp only;rw[if_pos (by omega),aJ hsx,aJ hqc,wA _ _ (N8 hC hqm),aA];unfold wc
 cases hk:dU q.Aa s with
 |none=>
  rw[if_neg (by simp[kA]),aB (by unfold bH;omega),lL]
 |some k=>
  obtain⟨_,_,_,hkl⟩:=bx hk;have h1:=G0 (b:=B6) hC hra hx;have h2:=G0 (b:=B6) hC hqc hkl;rw[if_pos (by simp[kA]),h1,aA];show aD (eH (cl t B6) (c:Int) (k:Int)) _=_;have h3:=L1 (t:=t) (b:=B6) (e:=fS (fX [rI t a x,rI t c k])) (w:=wPath) (xs:=[(a:Int),(c:Int),s]) (by decide) (by simp) (low3 (by omega) (by omega) (by omega)) (by omega);unfold wPath at h3;rw[h2,aA];show aD (some (fX [rI t a x,rI t c k])) _=_;rw[aA];show aD (some (fS (fX [rI t a x,rI t c k]))) _=_;rw[aA,h3,aA,aB (by unfold bH;omega)];rfl
theorem c_overs(hC:COk t)(hb:b.length<=200000):gJ (cl t b)=some (cl t (b++zv t)):=by
 have hlm:=hC.lim;unfold gJ;dsimp only;rw[eI (λa=>(List.range t.Ac.length).flatMap (wT t a)) b t.Ac.length (by omega) (λa ha=>?_) (by dsimp only;rw[if_neg (by omega)];rfl)];rfl;have hB := zu hC a (by omega);have hBl:(b++(List.range a).flatMap λa=>(List.range t.Ac.length).flatMap (wT t a)).length<=700000:=by rw[kU];omega
 generalize (b++(List.range a).flatMap λa=>(List.range t.Ac.length).flatMap (wT t a))=B at hBl;have hra:=gN ha;have hrm:=fH ha;generalize hr:t.Ac[a]=r at hra hrm;have ho24:=over24 hC hrm;dsimp only;rw[if_pos (by omega),aJ hra,eI (wT t a) B t.Ac.length (by omega) (λc hcl=>?_) (by dsimp only;rw[if_neg (by omega)];rfl),aA,aB (by unfold bH;omega)];have hB2:=dV (f:=wT t a) (c:=200) (λj=>Lb hC _ _) c;have hB3:(B++(List.range c).flatMap (wT t a)).length<=710000:=by rw[kU];omega
 generalize (B++(List.range c).flatMap (wT t a))=B2 at hB3;have hqc:=gN hcl;have hqm:=fH hcl;generalize t.Ac[c]=q at hqc hqm;dsimp only
 have hp2:wT t a c=if a=c\/mO r q=true then[]else(List.range r.Ae.length).flatMap λx=>wd t a c q (r.Ae.getD x 0):=by
  unfold wT;rw[em hra,em hqc]
 rw[hp2,if_pos (by omega),aJ hqc]
 have hsk:(if((a:Int))=(c:Int)then some true else aD (iT r q) λr24=>some r24)=some (decide (a=c\/mO r q=true)):=by
  by_cases hac:a=c;rw[if_pos (by omega),decide_eq_true (.inl hac)];rw [if_neg (by omega), show iT r q = some (mO r q) from rfl, aA]
  congr 1
  rw[nF,decide_eq_true_eq];exact⟨.inr,λh=>h.resolve_left hac⟩
 rw[hsk,aA];by_cases hh:a=c\/mO r q=true;rw[if_pos (decide_eq_true hh),if_pos hh,aA,aB (by unfold bH;omega),lL];rw [if_neg (by simpa using hh), if_neg hh, eI (fun x => wd t a c q (r.Ae.getD x 0)) B2 r.Ae.length (by omega) (fun x hx => ?_) (by dsimp only; rw [if_neg (by omega)]; rfl), aA, aB (by unfold bH; omega)];have hB4:=dV (f:=λx=>wd t a c q (r.Ae.getD x 0)) (c:=1) (λx=>Lc _ _ _ _) x;have hB5:(B2++(List.range x).flatMap λx=>wd t a c q (r.Ae.getD x 0)).length<=720000:=by rw[kU];omega
 generalize (B2++(List.range x).flatMap λx=>wd t a c q (r.Ae.getD x 0))=B6 at hB5;obtain⟨hsx,hs0,hs1⟩:=Zn hC hrm hx;generalize hsd:r.Ae.getD x 0=s at hsx hs0 hs1;dsimp only;rw[if_pos (by omega),aJ hsx,wA _ _ (N8 hC hqm),aA];unfold wd
 cases hk:dU q.Aa s with
 |none=>
  rw[if_neg (by simp[kA]),aB (by unfold bH;omega),lL]
 |some k=>
  obtain⟨_,_,_,hkl⟩:=bx hk;have h1:=fx (b:=B6) hC ha;have h2:=G0 (b:=B6) hC hqc hkl;rw[if_pos (by simp[kA]),h1,aA];show aD (eH (cl t B6) (c:Int) (k:Int)) _=_;have h3:=L1 (t:=t) (b:=B6) (e:=fS (fX [zH t a,rI t c k])) (w:=wOver) (xs:=[(a:Int),(c:Int),s]) (by decide) (by simp) (low3 (by omega) (by omega) (by omega)) (by omega);unfold wOver at h3;rw[h2,aA];show aD (some (fX [zH t a,rI t c k])) _=_;rw[aA];show aD (some (fS (fX [zH t a,rI t c k]))) _=_;rw[aA,h3,aA,aB (by unfold bH;omega)];rfl
variable {t:Al}{b:List Am}{i:Nat}
def Kq(t:Al)(i:Nat)(r:Ak)(x:Ad):Ab:=if x∈r.An\/x∈r.Ax then zH t i else match dU r.Aa (mY t x.el)with
 |some k=>rI t i k
 |none=>zH t i
def lieO(t:Al)(i:Nat)(r:Ak)(x:Ad):Am:=⟨wI Ow qAR [(i:Int),qU t x.el],qX [fS (Kq t i r x),yf t x]⟩
def wh(t:Al)(i:Nat):List Am:=rt t (λi r=>(fM (dI r)).map (lieO t i r)) i
def Lm(t:Al):List Am:=(List.range t.Ac.length).flatMap (wh t)
theorem set_ok(ht:WfB t){r:Ak}(hr:r∈t.Ac):(∀s∈r.An,Ad.ok s)/\(∀s∈r.Ax,Ad.ok s)/\(∀s∈fM (dI r),Ad.ok s):=by
 have h:=ht.sok r hr;refine⟨λs hs=>h s (by simp[dI,hs]),λs hs=>h s (by simp[dI,hs]),λs hs=>h s ?_⟩;have:=ascS_mem.1 hs;simpa[dI]using this
theorem cnts(hC:COk t){r:Ak}(hr:r∈t.Ac):rQ r.An/\rQ r.Ax/\(fM (dI r)).length<=200:=by
 have hsum:=hC.sum r hr;unfold xC at hsum;have hal:=nR (dI r);have hal2:(dI r).length<=200:=by simp only[dI,kU];omega
 unfold rQ;omega
theorem qBQ(hC:COk t)(i:Nat):(wh t i).length<=200:=by
 unfold wh;refine zo (λi r hr=>?_) i;rw[vg];exact(cnts hC (lG hr)).2.2
theorem c_binds(hC:COk t)(ht:WfB t){r:Ak}(hr:t.Ac[i]?=some r){x:Ad}(hx:x∈fM (dI r)):iQ (cl t b) (i:Int) x=some (Kq t i r x):=by
 have hi:=(zQQ.1 hr).1;have hm:=lG hr;have hlm:=hC.lim;obtain⟨o1,o2,o3⟩:=set_ok ht hm;obtain⟨n1,n2,n3⟩:=cnts hC hm;obtain⟨p,hp1,hp2,hp3,hp4,hp5⟩:=hC.home hm hx;unfold iQ Kq;dsimp only;rw[aJ hr,sT t _ (by unfold rQ;omega),aA,show kA (dU t.Ag x.el)=(p:Int)from hp1,aJ hp3,wA _ _ (N8 hC hm),aA,tR _ _ n1 (o3 x hx) o1,aA,tR _ _ n2 (o3 x hx) o2]
 cases hk:dU r.Aa (mY t x.el)with
 |none=>
  rw[if_pos (by simp[kA]),aA,if_pos rfl];show aD (eB (cl t b) (i:Int)) _=_;rw[fx hC hi,aA];split<;>rfl
 |some k=>
  obtain⟨_,_,_,hkl⟩:=bx hk;rw[if_neg (by simp[kA])];by_cases h1:x∈r.An;rw[if_pos (decide_eq_true h1),aA,if_pos rfl];show aD (eB (cl t b) (i:Int)) _=_;rw[fx hC hi,aA,if_pos (.inl h1)];rw [if_neg (by simpa using h1), aA, aA];by_cases h2:x∈r.Ax;rw[if_pos (decide_eq_true h2)];show aD (eB (cl t b) (i:Int)) _=_;rw[fx hC hi,aA,if_pos (.inr h2)];rw [if_neg (by simpa using h2)];show aD (eH (cl t b) (i:Int) (k:Int)) _=_;rw[G0 hC hr hkl,aA,if_neg (by simp[h1,h2])]
theorem c_lies(hC:COk t)(ht:WfB t){r:Ak}(hr:t.Ac[i]?=some r)(hb:b.length<=900000):jE (cl t b) (i:Int)=some (cl t (b++wh t i)):=by
 have hi:=(zQQ.1 hr).1;have hm:=lG hr;have hlm:=hC.lim;obtain⟨n1,n2,n3⟩:=cnts hC hm;unfold jE wh;dsimp only;rw[em hr,aJ hr,hC.sok ht hm,aA,jW (fM (dI r)) (λ_ x=>lieO t i r x) b (by omega) (λx s B hx hB=>?_) (by dsimp only;rw[if_neg (by omega)];rfl),jQ];have hx':=(zQQ.1 hx).1;have hmem:=lG hx;obtain⟨p,hp1,hp2,hp3,hp4,hp5⟩:=hC.home hm hmem;dsimp only;rw[if_pos (by omega),aJ hx,sT t _ (by unfold rQ;omega),aA,show kA (dU t.Ag s.el)=(p:Int)from hp1];show aD (bS (cl t B) ⟨#[108,105,101]⟩ [(p:Int)]) _=_;rw[v_lie hC hp2,aA,<- hp1];have h3 (e:Ab):=L1 (t:=t) (b:=B) (e:=e) (w:=Ow) (xs:=[(i:Int),qU t s.el]) (by decide) (by simp) (low2 (by omega) (by omega)) (by omega);unfold Ow at h3
 have tail (e:Ab):(aD (iQ (cl t B) (i:Int) s) λr19=>aD (kH r19) λr20=>aD (tC [r20,e]) λr21=>aD (eV (cl t B) r21 ⟨#[108,105,101]⟩ [(i:Int),qU t s.el]) λr22=>aE (bH ((x:Int)+1)) <|(some (.inl ((x:Int)+1,r22.list)):Option ((Int×List Am) ⊕ Av)))=some (.inl ((x:Int)+1,B++[⟨wI ⟨#[108,105,101]⟩ qAR [(i:Int),qU t s.el],qX [fS (Kq t i r s),e]⟩])):=by
  rw[c_binds hC ht hr hmem,aA,show ∀e,kH e=some (fS e)from λ_=>rfl,aA,show ∀l,tC l=some (qX l)from λ_=>rfl,aA,h3,aA,aB (bG hx' (by omega))]
 unfold lieO yf;by_cases h1:s.pos=1;rw [if_pos h1, if_pos h1, show ∀ e, kH e = some (fS e) from fun _ => rfl, aA, aA];exact tail _;rw[if_neg h1,if_neg h1,aA];exact tail _
theorem Ei(hC:COk t)(n:Nat)(hn:n<=48):((List.range n).flatMap (wh t)).length<=9600:=by
 have:=dV (f:=wh t) (c:=200) (λj=>qBQ hC _) n;have h2:200*n<=200*48:=xf _ hn;omega
def F9:BA:=⟨#[112,114,111,118,101,100]⟩
def prE(t:Al)(i:Nat)(r:Ak):Ab:=qX [fS (qE t i 1),qR t r]
theorem c_proved(hC:COk t)(ht:WfB t){r:Ak}(hr:t.Ac[i]?=some r)(hb:b.length<=900000):iA (cl t b) (i:Int)=some (cl t (b++[⟨wI F9 qAR [(i:Int)],prE t i r⟩])):=by
 have hi:=(zQQ.1 hr).1;have hm:=lG hr;have hlm:=hC.lim;have hsum:=hC.sum r hm;unfold xC at hsum;obtain⟨n1,n2,n3⟩:=cnts hC hm;unfold iA;dsimp only;rw[aJ hr,xx _ ⟨by simp,by simp;omega⟩,aA];have hfl:[r.Aa,r.Ae].flatten=r.Aa++r.Ae:=by simp
 have hcl:(r.Aa++r.Ae).length<=200:=by rw[kU];omega
 rw[hfl,jW (r.Aa++r.Ae) (λ_ s=>gG s) [] (by omega) (λx s B hx hB=>?_) (by dsimp only;rw[if_neg (by omega)];rfl),aA];rw [hC.sok ht hm, aA, jW (fM (dI r)) (fun _ s => Xq t s) _ (by omega) (fun x s B hx hB => ?_) (by dsimp only; rw [if_neg (by omega)]; rfl), aA]
 ·rw[jQ,jQ,gE];have h1:=gn (b:=b) hC hi (k:=1) (w:=pV) rfl (by decide);unfold pV at h1;have h3:=L1 (t:=t) (b:=b) (e:=prE t i r) (w:=F9) (xs:=[(i:Int)]) (by decide) (by simp) (X1 (by omega)) (by omega);unfold F9 at h3;rw[h1,aA];show aD (some (fS (qE t i 1))) _=_;rw[aA];show aD (some (qR t r)) _=_;rw[aA];show aD (some (prE t i r)) _=_;rw[aA,h3,aA];rfl
 have hx':=(zQQ.1 hx).1;have hmem:=lG hx;have hsi:=hC.set_in hm hmem;obtain⟨p,hp1,hp2,hp3,hp4,hp5⟩:=hC.home hm hmem;simp only[gE,List.length_mapIdx]at hB;dsimp only;rw[if_pos (by omega),aJ hx];unfold Xq;by_cases h2:s.pos=2;rw [if_pos h2, aA, sT t _ (by unfold rQ; omega), aA, show kA (dU t.Ag s.el) = (p : Int) from hp1, if_pos h2];have h4:=v_pnt (b:=b) hC (p:=p) (j:=1) (w:=ed) hp2 rfl (by decide);unfold ed at h4;rw[h4,aA,aB (by simp;omega),aB (bG hx' (by omega)),hp1];rfl;rw [if_neg h2, aA, sT t _ (by unfold rQ; omega), aA, show kA (dU t.Ag s.el) = (p : Int) from hp1, if_neg h2];have h4:=v_pnt (b:=b) hC (p:=p) (j:=0) (w:=xi) hp2 rfl (by decide);unfold xi at h4;rw[h4,aA,aB (by simp;omega),aB (bG hx' (by omega)),hp1];rfl;have hx':=(zQQ.1 hx).1;have hs:=hC.sec_in hm (lG hx);simp only[jO,fV]at hB;dsimp only;rw[if_pos (by omega),aJ hx,v_free (b:=b) hC hs.1 hs.2,aA,aB (by simp;omega),aB (bG hx' (by omega))]
def wOne:BA:=⟨#[111,110,101]⟩
def E9(t:Al)(i a:Nat):List Ab:=(List.range a).map λ(c:Nat)=>fS (fX [qE t i (a:Int),qE t i (c:Int)])
def Ld(t:Al)(i:Nat):Ab:=fX ((List.range 4).flatMap (E9 t i))
def stW:List BA:=[yb,pV,wR,wS]
theorem stW_sz:∀w∈stW,w.size<=100:=by decide
theorem stW_at{a:Nat}(ha:a<4):∃w,stW[a]?=some w/\w.size<=100:=by
 have h:stW[a]?=some (stW[a]'(by exact ha)):=gN _;exact⟨_,h,stW_sz _ (fH _)⟩
theorem Q6(t:Al)(i a:Nat)(ha:a<=4):((List.range a).flatMap (E9 t i)).length<=100:=by
 induction a with
 |zero=>simp
 |succ a ih=>
  suffices h:∀k,k<=4->((List.range k).flatMap (E9 t i)).length<=10*k by have:=h (a+1) ha;omega
  intro k
  induction k with
  |zero=>intro _;simp
  |succ k ihk=>
   intro hk;have:=ihk (by omega);rw[mT,kU];have:(E9 t i k).length=k:=by unfold E9;simp
   omega
theorem c_one(hC:COk t)(hi:i<t.Ac.length)(hb:b.length<=900000):jV (cl t b) (i:Int)=some (cl t (b++[⟨wI wOne qAR [(i:Int)],Ld t i⟩])):=by
 have hlm:=hC.lim;unfold jV;dsimp only;rw[eI (E9 t i) [] 4 (by omega) (λa ha=>?_) (by dsimp only;rw[if_neg (by omega)];rfl),aA,gE];show aD (some (Ld t i)) _=_;have h3:=L1 (t:=t) (b:=b) (e:=Ld t i) (w:=wOne) (xs:=[(i:Int)]) (by decide) (by simp) (X1 (by omega)) (by omega);unfold wOne at h3;rw[aA,h3,aA];rfl;have hB := Q6 t i a (by omega);have hBl:(([]:List Ab)++(List.range a).flatMap (E9 t i)).length<=100:=by rw[gE];omega
 generalize ([]:List Ab)++(List.range a).flatMap (E9 t i)=B at hBl;obtain⟨w,hw,hwz⟩:=stW_at ha;have hsub:sub stW 0 (a:Int)=stW.take a:=by unfold sub;simp
 have hsl:(stW.take a).length=a:=by rw[kO];show min a 4=a;omega
 dsimp only;rw[if_pos (by omega)]
 show aD (bC stW (a : Int) fun e12 => aE (0 <= (0 : Int) /\ (0 : Int) <= (a : Int) /\ (a : Int) <= 4) <|
    bB (λ(x17,b18)=>
     if x17<((sub stW (0:Int) (a:Int)).length:Int)then
      bC (sub stW (0:Int) (a:Int)) x17 λe21=>
      aD (bS (cl t b) e12 ([(i:Int)]:List Int)) λr22=>
      aD (bS (cl t b) e21 ([(i:Int)]:List Int)) λr23=>
      aD (nY ([r22,r23]:List Ab)) λr24=>
      aD (kH r24) λr25=>
      aE ((b18++([r25]:List Ab)).length<=1000000000) <|
      aE (bH (x17+(1:Int))) <|
      some (.inl ((x17+(1:Int)),(b18++([r25]:List Ab))))
     else
      aT (
       some b18)) ((0:Int),B)) _=_
 rw[aJ hw,aB (by omega),hsub,hsl,Eg a (λ(c:Nat)=>fS (fX [qE t i (a:Int),qE t i (c:Int)])) B (by omega) (λc B2 hc hB2=>?_) (by dsimp only;rw[if_neg (by omega)];rfl),aA,aB (by unfold bH;omega)];rfl;obtain ⟨w2, hw2, hw2z⟩ := stW_at (a := c) (by omega);have hw3:(stW.take a)[c]?=some w2:=by rw[List.getElem?_take_of_lt hc,hw2]
 dsimp only;rw[if_pos (by omega),aJ hw3,gn (b:=b) hC hi hw hwz,aA,gn (b:=b) hC hi hw2 hw2z,aA];show aD (some (fX [qE t i (a:Int),qE t i (c:Int)])) _=_;rw[aA];show aD (some (fS (fX [qE t i (a:Int),qE t i (c:Int)]))) _=_;rw[aA,aB (by simp;omega),aB (by unfold bH;omega)]
def yn(t:Al)(i:Nat)(j:Nat):List Ab:=[qX [fS (nM t i ((1+j:Nat):Int)),nM t i (j:Int)]]
def K5(t:Al)(i:Nat):Ab:=fX ((List.range (bA t i-1)).flatMap (yn t i))
theorem c_rels(hC:COk t){r:Ak}(hr:t.Ac[i]?=some r)(hb:b.length<=900000):jD (cl t b) (i:Int)=some (cl t (b++[⟨wI Fi qAR [(i:Int)],K5 t i⟩])):=by
 have hi:=(zQQ.1 hr).1;have hlm:=hC.lim;have hs:=hC.secs (lG hr);have hln:bA t i=r.Aa.length-1:=by unfold bA;rw[hr]
 have h24:=hC.last24 i;unfold jD;dsimp only;rw[show(1:Int)=((1:Nat):Int)from rfl,If (yn t i) [] 1 (bA t i-1) (by omega) (λj hj=>?_) (by dsimp only;rw[aJ hr,aB (by unfold bH;omega),if_neg (by omega)];rfl),aA,gE];show aD (some (K5 t i)) _=_;have h3:=L1 (t:=t) (b:=b) (e:=K5 t i) (w:=Fi) (xs:=[(i:Int)]) (by decide) (by simp) (X1 (by omega)) (by omega);unfold Fi at h3;rw[aA,h3,aA];rfl;have hB := dV (f := yn t i) (c := 1) (fun _ => by simp [yn]) j;have hBl:(([]:List Ab)++(List.range j).flatMap (yn t i)).length<=100:=by rw[gE];omega
 generalize ([]:List Ab)++(List.range j).flatMap (yn t i)=B at hBl;dsimp only;rw[aJ hr,aB (by unfold bH;omega),if_pos (by omega)];rw[v_rel (b:=b) hC hi (k:=1+j) (by omega),aA];show aD (some (fS (nM t i ((1+j:Nat):Int)))) _=_;rw[aA,aB (by unfold bH;omega),show(((1+j:Nat):Int)-((1:Nat):Int))=(j:Int) by omega,v_rel (b:=b) hC hi (k:=j) (by omega),aA];show aD (some (qX [fS (nM t i ((1+j:Nat):Int)),nM t i (j:Int)])) _=_;rw[aA,aB (by simp;omega),aB (by unfold bH;omega)];rfl
variable {t:Al}
theorem Ho{l:List Ad}(h:iN t l=true):l.length<=t.Ag.length:=by
 unfold iN at h;rw[allB_iff]at h
 have h1:∀c a,a<c->c<l.length->(l.getD a ⟨0,0⟩).el<(l.getD c ⟨0,0⟩).el:=by
  intro c
  induction c with
  |zero=>intro a ha;omega
  |succ c ih=>
   intro a hac hc;have h2:=h (c+1) hc;unfold B4 at h2;have h3:=(of_decide_eq_true h2).2.2.2 (by omega);rw[Nat.add_sub_cancel]at h3;by_cases hh:a=c;rw[hh];exact h3;have:=ih a (by omega) (by omega);omega
 have hn:(l.map (·.el)).Nodup:=by
  rw[rF];intro a c hac hc he;rw[vg]at hc;have:=h1 c a hac hc;rw[gm,gm]at he;rw[qv,qv,gN hc,gN (show a<l.length by omega)]at this;rw[gN hc,gN (show a<l.length by omega)]at he;simp only[kP,lV]at he;simp only[vC]at this;omega
 have hsub:l.map (·.el)⊆t.Ag:=λx hx=>by
  obtain⟨s,hs,rfl⟩:=zal96q.1 hx;obtain⟨i,hi⟩:=nS hs;have hil:=(zQQ.1 hi).1;have h2:=h i hil;unfold B4 at h2;have h3:=(of_decide_eq_true h2).1;rw[qv,hi,vC,z8]at h3;exact of_decide_eq_true h3
 have:=List.Nodup.length_le_of_subset hn hsub
 rwa [vg]at this
theorem secs_len{l:List Int}(h:E0 t l=true)(hs:t.Aa<=24):l.length<=24:=by
 unfold E0 at h;rw[allB_iff]at h
 have hn:(l.map Int.toNat).Nodup:=by
  rw[rF];intro a c hac hcl;rw[vg]at hcl;have h3:=h c hcl;have h4:=h a (by omega);rw[gx (gN hcl)]at h3;rw[gx (gN (show a<l.length by omega))]at h4;unfold Fx at h3 h4;simp only[wP,lW,decide_eq_false_iff_not,decide_eq_true_eq]at h3 h4;rw[gm,gm,gN hcl,gN (show a<l.length by omega)];simp only[kP];intro he;have he2:=cC he;have:l[a]=l[c]:=by omega
  exact h3.2 (by rw[<- this];exact zal103q.2 ⟨a,by omega,rfl⟩)
 have hsub:l.map Int.toNat⊆List.range 24:=by
  intro x hx;obtain⟨s,hs2,rfl⟩:=zal96q.1 hx;obtain⟨i,hi⟩:=nS hs2;have h3:=h i (zQQ.1 hi).1;rw[gx hi]at h3;unfold Fx at h3;simp only[wP,decide_eq_true_eq]at h3;rw[zal101q];omega
 have h5:=List.Nodup.length_le_of_subset hn hsub;simp only[vg,q8]at h5;exact h5
theorem vq(h:iK t=0):zn t=true:=by
 obtain⟨h1,h2,h3,h4,h5⟩:=pR h;unfold Fw at h1;have h1:=of_decide_eq_true h1;unfold zn;rw[wP,zQT];refine⟨λr hr=>?_,decide_eq_true (by omega)⟩;obtain⟨hR,hS⟩:=h3 r hr;unfold qI Zz at hR;unfold tQ at hS;simp only[wP,decide_eq_true_eq]at hR hS;have e1:=Ho hS.1.1;have e2:=Ho hS.1.2;have e3:=Ho hS.2;have e4:=secs_len hR.1.1.2 (by omega);rw[kU]at e4;apply decide_eq_true;unfold xC;omega
theorem Qi(h:TOk t)(hz:iK t=0):COk t:=by
 obtain⟨hT,h1,h2,h3⟩:=xk (vq hz);exact⟨h,h1,h2,h3,hz⟩
theorem comp_eq(h:TOk t)(ht:WfB t):lZ t=some (if iK t=0 then if 2000<uL t then(⟨[],0,[]⟩,2)else(prgT t,0)else(⟨[],0,[]⟩,iK t)):=by
 by_cases hz:iK t=0;exact Yw h ht (vq hz);unfold lZ oS;rw[Wa t h,aA,if_neg hz,aA,if_neg hz];dsimp only;rw[if_neg hz]
theorem rcomp_eq(h:TOk t)(ht:WfB t):nW t=some (if iK t=0 then if 2000<uL t then(⟨[],0,[]⟩,2)else(Kf t,0)else(⟨[],0,[]⟩,iK t)):=by
 by_cases hz:iK t=0;exact Ws h ht (vq hz);unfold nW;rw[Bd t h,aA,if_neg hz,if_neg hz]
def yZ(t:Al)(i:Nat):List Am:=rt t (λi r=>[⟨wI F9 qAR [(i:Int)],prE t i r⟩]) i
def Ea(t:Al)(i:Nat):List Am:=[⟨wI wOne qAR [(i:Int)],Ld t i⟩]
def Ms(t:Al)(i:Nat):List Am:=[⟨wI Fi qAR [(i:Int)],K5 t i⟩]
def Nm(t:Al):List Am:=(((km t++zv t++Lm t)++(List.range t.Ac.length).flatMap (yZ t))++(List.range t.Ac.length).flatMap (Ea t))++(List.range t.Ac.length).flatMap (Ms t)
theorem zr(i:Nat):(yZ t i).length<=1:=zo (λ_ _ _=>by simp) i
theorem All_eq(h:TOk t)(ht:WfB t):uX t=some (if iK t=0 then if 2000<uL t then([],2)else(Nm t,0)else([],iK t)):=by
 unfold uX;rw[comp_eq h ht,aA];by_cases hz:iK t=0;have hC:=Qi h hz;have hlm:=hC.lim;rw[if_pos hz,if_pos hz];by_cases ha:2000<uL t;rw[if_pos ha,if_pos ha];rfl;rw[if_neg ha,if_neg ha];dsimp only;have hnl:=ku hC;rw[if_pos rfl,qBK (kq hC) (by omega),aA];show aD (iP (cl t [])) _=_;rw[c_paths hC (by simp),aA,gE];have hPl:=zt hC t.Ac.length (by omega);have hOl:=zu hC t.Ac.length (by omega);have hLl:=Ei hC t.Ac.length (by omega);show aD (gJ (cl t (km t))) _=_;rw[c_overs hC (by unfold km;omega),aA];have h1:(km t++zv t).length<=560000:=by unfold km zv;rw[kU];omega
 unfold Nm;have hlie:(km t++zv t++Lm t).length<=570000:=by unfold Lm;rw[kU];omega
 dsimp only;generalize km t++zv t=A at h1 hlie;rw[eI (wh t) A t.Ac.length (by omega) (λi hi=>?_) (by dsimp only;rw[if_neg (by omega)];rfl),aA];rw[show(List.range t.Ac.length).flatMap (wh t)=Lm t from rfl];generalize A++Lm t=A at hlie;rw[eI (yZ t) A t.Ac.length (by omega) (λi hi=>?_) (by dsimp only;rw[if_neg (by omega)];rfl),aA];have hpl:=dV (f:=yZ t) (c:=1) zr t.Ac.length;have h2:(A++(List.range t.Ac.length).flatMap (yZ t)).length<=571000:=by rw[kU];omega
 generalize A++(List.range t.Ac.length).flatMap (yZ t)=A2 at h2;rw[eI (Ea t) A2 t.Ac.length (by omega) (λi hi=>?_) (by dsimp only;rw[if_neg (by omega)];rfl),aA];have hpl2 := dV (f := Ea t) (c := 1) (fun _ => by simp [Ea]) t.Ac.length;have h3:(A2++(List.range t.Ac.length).flatMap (Ea t)).length<=572000:=by rw[kU];omega
 generalize A2++(List.range t.Ac.length).flatMap (Ea t)=A3 at h3;rw[eI (Ms t) A3 t.Ac.length (by omega) (λi hi=>?_) (by dsimp only;rw[if_neg (by omega)];rfl),aA];have hpl3:=dV (f:=Ms t) (c:=1) (λ_=>by simp[Ms]) i;have h4:(A3++(List.range i).flatMap (Ms t)).length<=573000:=by rw[kU];omega
 generalize A3++(List.range i).flatMap (Ms t)=B at h4;dsimp only;rw[if_pos (by omega)];show aD (jD (cl t B) (i:Int)) _=_;rw[c_rels hC (gN hi) (by omega),aA,aB (by unfold bH;omega)];rfl;have hpl3 := dV (f := Ea t) (c := 1) (fun _ => by simp [Ea]) i;have h4:(A2++(List.range i).flatMap (Ea t)).length<=573000:=by rw[kU];omega
 generalize A2++(List.range i).flatMap (Ea t)=B at h4;dsimp only;rw[if_pos (by omega)];show aD (jV (cl t B) (i:Int)) _=_;rw[c_one hC hi (by omega),aA,aB (by unfold bH;omega)];rfl;have hpl3:=dV (f:=yZ t) (c:=1) zr i;have h4:(A++(List.range i).flatMap (yZ t)).length<=573000:=by rw[kU];omega
 generalize A++(List.range i).flatMap (yZ t)=B at h4;dsimp only;rw[if_pos (by omega)];show aD (iA (cl t B) (i:Int)) _=_;have hr:=gN hi;rw[c_proved hC ht hr (by omega),aA,aB (by unfold bH;omega)];unfold yZ;rw[em hr];have hpl3 := Ei hC i (by omega);have h4:(A++(List.range i).flatMap (wh t)).length<=573000:=by rw[kU];omega
 generalize A++(List.range i).flatMap (wh t)=B at h4;dsimp only;rw[if_pos (by omega)];show aD (jE (cl t B) (i:Int)) _=_;have hr:=gN hi;rw[c_lies hC ht hr (by omega),aA,aB (by unfold bH;omega)];rw[if_neg hz,if_neg hz];dsimp only;rw[if_neg hz]
variable {t:Al}{i:Nat}
theorem Hk(e:Ab)(l:List Ab):qD (e::l)=nU e+qD l:=by simp[qD]
theorem szL_up{s:Nat}:∀{l:List Ab},(∀e∈l,nU e<=s)->qD l<=s*l.length
  |[],_=>by simp[qD]
  |e::l,h=>by
    have h1:=h e rL;have h2:=szL_up (l:=l) λx hx=>h x (gg _ hx);rw[Hk,jF,Nat.mul_succ];omega
theorem zm{op:Int}{l:List Ab}{s k n:Nat}(h:∀e∈l,nU e<=s)(hl:l.length<=k)(hn:s*k+1<=n):nU ⟨op,0,l⟩<=n:=by
  have h1:=szL_up h;have h2:s*l.length<=s*k:=xf _ hl;rw[cg];dsimp only;omega
theorem sz_mem{l:List Ab}{x:Ab}(h:x∈l):nU x<=qD l/\l.length<=qD l:=by
  induction l with
  |nil=>cases h
  |cons e l ih=>
    have he:1<=nU e:=by rw[cg];omega
    rw[Hk,jF]
    have hl:∀l:List Ab,l.length<=qD l:=λl=>by
      induction l with
      |nil=>exact gS _
      | cons e l ih => have he : 1 <= nU e := by rw [cg]; omega
                       rw[Hk,jF];omega
    have:=hl l;rcases zQB.1 h with rfl|h
    omega;have:=ih h;omega
theorem ok_sz:∀(n:Nat)(e:Ab),nU e<=n->n<=ye->okE e
  |0,e,h,_=>by rw[cg]at h;omega
  |n+1,e,h,hn=>by
    rw[cg]at h;rw[okE_iff];refine⟨?_,λx hx=>ok_sz n x (by have:=(sz_mem hx).1;omega) (by omega)⟩
    cases hl:e.args with
    |nil=>simp
    |cons y l=>rw[<- hl];have:=(sz_mem (l:=e.args) (x:=y) (by rw[hl];exact rL)).2;omega
section
variable (hC:COk t){r:Ak}(hr:t.Ac[i]?=some r)
include hC hr
theorem Wy:r.Aa.length+r.Ae.length<=200/\(fM (dI r)).length<=200:=by
  have hs:=hC.sum r (lG hr);have ha:=nR (dI r);have hl:(dI r).length=r.Ag.length+r.An.length+r.Ax.length:=by simp only[dI,kU]
  unfold xC at hs;omega
theorem z_prov:nU (qR t r)<=500:=by
  have hz:=Wy hC hr;refine zm (s:=1) (k:=400) (λe he=>?_) (by simp only[kU,vg];omega) (by omega);rcases zQN.1 he with he|he
  obtain⟨x,_,rfl⟩:=zal96q.1 he;simp[nU,qD];obtain⟨x,_,rfl⟩:=zal96q.1 he;simp[nU,qD,Xq]
theorem z_at(k:Nat):nU (qCU t i k)<=4:=by
  unfold qCU;split<;>split<;>simp[nU,qD]
theorem z_empt:nU (fk t i r)<=700:=by
  have hz:=Wy hC hr;refine zm (s:=3) (k:=200) (λe he=>?_) (by rw[List.length_mapIdx];omega) (by omega);obtain⟨k,hk,rfl⟩:=List.mem_mapIdx.1 he;split<;>simp[nU,qD]
theorem z_here:nU (wm t i r)<=200:=by
  have h24:=hC.last24 i;refine zm (s:=6) (k:=24) (λe he=>?_) (by rw[vg,q8];omega) (by omega);obtain⟨k,_,rfl⟩:=zal96q.1 he;have:=z_at hC hr k;simp only[nU,qD];omega
theorem z_call:nU (qg t i r)<=100000:=by
  have hz:=Wy hC hr;have hlm:=hC.lim;have hA:(apsX t i r t.Ac.length).length<=48:=jL (dV (f:=rt t λo a=>qAK t i o r a) (c:=1) (zo λo a _=>Ok i o r a) _) (by omega);refine zm (s:=20) (k:=1000) (λe he=>?_) (by simp only[kU,vg,jF,jO];omega) (by omega);simp only[zQN]at he;rcases he with((he|he)|he)|he
  simp only[zQB,qZ,or_false]at he;rcases he with rfl|rfl<;>simp[nU,qD]
  obtain⟨x,_,rfl⟩:=zal96q.1 he;simp[nU,qD,qp];unfold apsX at he;obtain⟨o,a,_,_,he⟩:=rt_mem.1 he;unfold qAK at he;split at he;cases he;rw[zal102q]at he;subst he;split<;>split<;>simp[nU,qD];obtain⟨x,_,rfl⟩:=zal96q.1 he;unfold Ot yf;split<;>simp[nU,qD]
end
theorem relsX_mem{r:Ak}{n:Nat}{x:Ap}:x∈qA t i r n↔∃j,j<n/\x=⟨1,(cD t i:Int)+(4+((bA t i-1-j:Nat):Int)),0,Mr t i r (bA t i-1-j)⟩:=by
  unfold qA;rw[zal96q];constructor;rintro⟨j,hj,rfl⟩;exact⟨j,zal101q.1 hj,rfl⟩;rintro⟨j,hj,rfl⟩;exact⟨j,zal101q.2 hj,rfl⟩
theorem E3(hC:COk t):∀x∈oI t,nU x.expr<=100000:=by
  intro x hx;have hlm:=hC.lim;unfold oI at hx;simp only[zQN]at hx;rcases hx with(((hx|hx)|hx)|hx)|hx
  obtain⟨i,r,hi,hr,hx⟩:=rt_mem.1 hx;have h1:=z_empt hC hr;have h2:=z_at hC hr (bA t i);unfold gq at hx;simp only[zQB,qZ,or_false]at hx;rcases hx with rfl|rfl<;>simp only[nU,qD]<;>omega
  obtain⟨i,r,hi,hr,hx⟩:=rt_mem.1 hx;have h1:=z_empt hC hr;have h2:=z_at hC hr (bA t i);have h3:=z_prov hC hr;have h4:=z_here hC hr;unfold vW at hx;simp only[zQN,zQB,qZ,or_false]at hx;rcases hx with((rfl|rfl|rfl|rfl)|hx)|rfl|rfl|rfl
  simp only[bw,nU,qD];omega;simp only[zk,Cu,nU,qD];omega;simp only[zI,Cu,nU,qD];omega;simp only[nC,nU,qD];omega;obtain⟨j,hj,rfl⟩:=relsX_mem.1 hx;have h5:=z_at hC hr (bA t i-1-j);simp only[Mr,Cu,nU,qD];omega;simp[nU,qD];simp[nU,qD];simp[nU,qD];obtain⟨i,r,hi,hr,hx⟩:=rt_mem.1 hx;unfold wx at hx;rw[zal102q]at hx;subst hx;exact z_call hC hr;rw[show qk t=(List.range t.Ac.length).flatMap (B5 t)from rfl,zal94q]at hx;obtain⟨i,hi,hx⟩:=hx;unfold B5 at hx;rw[zal102q]at hx;subst hx;simp[nU,qD];obtain⟨p,el,hp,hel,hx⟩:=pt_mem.1 hx;unfold Nu at hx;rw[zal102q]at hx;subst hx
  have hw (pos:Int):nU (qX (oH t el pos t.Ac.length))<=100:=by
    refine zm (s:=1) (k:=48) (λe he=>?_) (by have:=zh (t:=t) el pos t.Ac.length;omega) (by omega);unfold oH at he;obtain⟨j,q,_,_,he⟩:=rt_mem.1 he;unfold vi at he;split at he;rw[zal102q]at he;subst he;simp[nU,qD];cases he
  have h1:=hw 1;have h2:=hw 2;simp only[Ll,nU,qD]at h1 h2⊢;omega
theorem Xc(hC:COk t):(oI t).length<=100000:=by
  have hlm:=hC.lim;have l1:(yN t).length<=2*t.Ac.length:=dV (bi λ_ _ _=>by simp[gq]) _;have l2:(rN t).length<=30*t.Ac.length:=dV (bi λi _ _=>by rw[D6];have:=hC.last24 i;omega) _;have l3:(yM t).length<=1*t.Ac.length:=dV (bi λ_ _ _=>by simp[wx]) _;have l4:(qk t).length<=1*t.Ac.length:=dV (λ_=>by simp[B5]) _;have l5:(Dv t).length<=1*t.Ag.length:=dV (λi=>by unfold pt;split<;>simp[Nu]) _;unfold oI;simp only[kU];omega
theorem slimX(hC:COk t):Slim (Kf t):=by
  have h1:=Xc hC;have hb:=hC.base t.Ac.length;have hlm:=hC.lim
  have hn:(mI t).length<=100000:=by
    rw[ku hC];unfold uL mZ;omega
  exact⟨⟨by show(oI t).length<=_;omega,by show(mI t).length<=_;omega,λr hr=>ok_sz 100000 _ (E3 hC r hr) (by unfold ye;omega)⟩,by show(oI t).length<=_;omega,λr hr=>by have:=E3 hC r hr;omega⟩
variable {t:Al}{i:Nat}
def gV(V:List Bool)(y:Int):Bool:=decide (0<=y)&&V.getD y.toNat false
theorem gV_nat(V:List Bool)(y:Nat):gV V (y:Int)=V.getD y false:=by unfold gV;rw[decide_eq_true (by omega),yB,show((y:Int)).toNat=y by omega]
theorem X7{V:List Bool}{x y:Int}{b:Bool}(h0:0<=x)(h1:x<(V.length:Int)):gV (V.set x.toNat b) y=if y=x then b else gV V y:=by
 unfold gV;by_cases hy:0<=y;rw[decide_eq_true hy,yB,yB,qv,qv,hZ];by_cases hxy:y=x;subst hxy;rw[if_pos rfl,if_pos rfl,if_pos (by omega)];rfl;rw[if_neg hxy,if_neg (by omega)];rw [decide_eq_false hy, if_neg (by omega)];rfl
theorem uF(V:List Bool)(x:Int):lA V (vE x)=gV V x:=by rw[Es];rfl
theorem pI(V:List Bool)(l:List Ab):lA V (fX l)=l.all (lA V):=by
 rw[Es];unfold opB;simp[List.all_map]
theorem uN(V:List Bool)(l:List Ab):lA V (qX l)=l.any (lA V):=by
 rw[Es];unfold opB;simp[List.any_map]
theorem pY(V:List Bool)(e:Ab):lA V (fS e)=!lA V e:=by
 rw[Es];rfl
def InR(n:Nat)(l:List (Ap×Int)):Prop:=∀x∈l,0<=x.1.var/\x.1.var<(n:Int)
abbrev vs(l:List Ap):List Int:=l.map (·.var)
theorem B7{n:Nat}{y:Int}:∀(l:List (Ap×Int)) (V:List Bool),InR n l->V.length=n->(∀x∈l,x.1.var≠y)->gV (tG l V) y=gV V y
 |[],V,_,_,_=>rfl
 |x::l,V,hn,hV,hy=>by
  show gV (tG l (qj V x)) y=gV V y;have hx:=hn x (by simp);rw[B7 l _ (λz hz=>hn z (by simp[hz])) (by rw[Dq];exact hV) (λz hz=>hy z (by simp[hz]))];unfold qj;rw[X7 hx.1 (by omega),if_neg (λh=>hy x (by simp) h.symm)]
theorem Oq{A:List Ap}{C:List Int}(h:A.length=C.length){y:Int}:(∃x∈List.zip A C,x.1.var=y)↔y∈vs A:=by
 rw[zal96q];constructor;rintro⟨x,hx,rfl⟩;obtain⟨a,c⟩:=x;exact⟨a,(Bu hx).1,rfl⟩;rintro⟨a,ha,rfl⟩;obtain⟨k,hk⟩:=nS ha;have hkl:=(zQQ.1 hk).1;exact⟨(a,C[k]'(by omega)),lG (List.getElem?_zip_eq_some.2 ⟨hk,gN (by omega)⟩),rfl⟩
theorem Xa{n:Nat}{A B:List Ap}{x:Ap}{C:List Int}{V:List Bool}(hC:C.length=(A++x::B).length)(hV:V.length=n)(hr:∀z∈A++x::B,0<=z.var/\z.var<(n:Int))(hnd:(vs (A++x::B)).Nodup):
  ∃W:List Bool,(∀y∈vs A,gV W y=gV (tG (List.zip (A++x::B) C) V) y)/\(∀y,y∉vs A->gV W y=gV V y)
   /\ gV (tG (List.zip (A++x::B) C) V) x.var=(Ol x (lA W x.expr) (C.getD A.length 0)).2
   /\ (ww (List.zip (A++x::B) C) V)[A.length]?=some (Ol x (lA W x.expr) (C.getD A.length 0)).1:=by
 have hal:A.length<C.length:=by rw[hC];simp
 have hCs:C=C.take A.length++(C[A.length]::C.drop (A.length+1)):=by rw[<- List.drop_eq_getElem_cons hal,Bt]
 have hCg:C.getD A.length 0=C[A.length]:=by rw[qv,gN hal];rfl
 rw[hCg];generalize C[A.length]=c at hCs hCg;have hl1:A.length=(C.take A.length).length:=by rw[kO];omega
 have hl2:B.length=(C.drop (A.length+1)).length:=by rw[xZ,hC];simp;omega
 have hz:List.zip (A++x::B) C=List.zip A (C.take A.length)++(x,c)::List.zip B (C.drop (A.length+1)):=by
  conv=>lhs;rw[hCs]
  rw[List.zip_append hl1];rfl
 have hzl:(List.zip A (C.take A.length)).length=A.length:=by rw[List.length_zip];omega
 have hzA:InR n (List.zip A (C.take A.length)):=λz hz=>hr z.1 (sJ _ (Bu (show(z.1,z.2)∈_ from hz)).1);have hzB:InR n (List.zip B (C.drop (A.length+1))):=λz hz=>hr z.1 (G4 _ (gg _ (Bu (show(z.1,z.2)∈_ from hz)).1));have hx:=hr x (G4 _ rL);rw[hz];generalize hAz:List.zip A (C.take A.length)=Az at hzl hzA;generalize hBz:List.zip B (C.drop (A.length+1))=Bz at hzB;have hWl:(tG Az V).length=n:=by rw[Hs,hV]
 unfold vs at hnd;rw[mU,nE,zal106q]at hnd;obtain⟨n1,n2,n3⟩:=hnd;rw[zal107q]at n2
 have hBv:∀y,y∉vs B->∀z∈Bz,z.1.var≠y:=λy hy z hz he=>hy (by
  rw[<- hBz]at hz
  exact(Oq hl2).1 ⟨z,hz,he⟩)
 have hAv:∀y,y∉vs A->∀z∈Az,z.1.var≠y:=λy hy z hz he=>hy (by
  rw[<- hAz]at hz
  exact(Oq hl1).1 ⟨z,hz,he⟩)
 have hs:tG (Az++(x,c)::Bz) V=tG Bz (qj (tG Az V) (x,c)):=by rw[Qh];rfl
 have hsl:(qj (tG Az V) (x,c)).length=n:=by rw[Dq,hWl]
 refine⟨tG Az V,λy hy=>?_,λy hy=>B7 Az V hzA hV (hAv y hy),?_,?_⟩;rw [hs, B7 Bz _ hzB hsl (hBv y fun hb => n3 y hy y (gg _ hb) rfl)];unfold qj;rw[X7 hx.1 (by rw[hWl];exact hx.2),if_neg];intro he;exact n3 y hy x.var rL he;rw[hs,B7 Bz _ hzB hsl (hBv _ n2.1)];unfold qj;rw[X7 hx.1 (by rw[hWl];exact hx.2),if_pos rfl];unfold ww;rw[va,Dm (by omega),hzl,gl];simp only[G8,kP];rw[xg (by omega),bc (by omega)]
section
variable {m:Machine}{I:List Bool}
end
theorem zJ{α:Type}(f:Nat->List α){i:Nat}:∀{n:Nat},i<n->∃R,(List.range n).flatMap f=(List.range i).flatMap f++(f i++R)
 |0,h=>by omega
 |n+1,h=>by
  by_cases he:i=n;subst he;exact⟨[],by rw[mT,lL]⟩;obtain ⟨R, hR⟩ := zJ f (n := n) (i := i) (by omega);exact⟨R++f n,by rw[mT,hR];simp only[lM]⟩
end Go.Proofs.YtldaknhjmhlefaaGreatDoor
