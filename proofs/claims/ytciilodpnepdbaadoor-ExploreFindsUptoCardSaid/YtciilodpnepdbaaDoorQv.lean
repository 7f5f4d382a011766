/- Texts of this proof, joined, without what it does not use. No condition. -/
import Derived.Test.YtciilodpnepdbaaDoorQu

set_option linter.unusedVariables false
set_option linter.unusedSimpArgs false
set_option maxHeartbeats 400000
set_option maxRecDepth 100000
namespace Go.Proofs.YtciilodpnepdbaaDoor
open Go Go.TL
def dA (n:Nat) (t:List Int):Nat:=t.foldl (λc x=>c * n+(x.toNat+1)) 0
theorem gF (n:Nat) (t:List Int) (k:Int):dA n (t++[k])=dA n t * n+(k.toNat+1):=by simp [dA,List.foldl_append]
def digs (n:Nat) (t:List Int):Prop:=∀ x∈t,0<=x/\x < (n:Int)
theorem digs_snoc {n:Nat} {t:List Int} {k:Int}:digs n (t++[k])↔digs n t/\0<=k/\k < (n:Int):=by
 unfold digs;simp only [zQN,List.mem_singleton];constructor
 ·intro h;exact⟨λx hx=>h x (.inl hx),h k (.inr rfl)⟩
 rintro⟨h1,h2⟩ x (hx|rfl)
 ·exact h1 x hx
 exact h2
theorem zV {a b n:Nat} (h:a < b):a * n+n<=b * n:=by
 have:=Nat.mul_le_mul_right n (show a+1<=b from h);rw [Nat.add_mul,Nat.one_mul] at this;exact this
theorem wU {P:List Int->Prop} (h0:P []) (hs:∀ t k,P t->P (t++[k])):∀ t,P t:=by
 have key:∀ (n:Nat) (t:List Int),t.length=n->P t:=by
  intro n
  induction n with
  | zero=>intro t ht;rw [List.eq_nil_of_length_eq_zero ht];exact h0
  | succ n ih=>
   intro t ht;have hne:t≠[]:=by intro e;rw [e] at ht;cases ht
   rw [<- List.dropLast_concat_getLast hne];exact hs _ _ (ih _ (by rw [List.length_dropLast];omega))
 exact λt=>key _ t rfl
def loT (n:Nat):Nat->Nat
 | 0=>0
 | L+1=>loT n L * n+1
theorem qGH (n:Nat):∀ L,loT n L<=loT n (L+1)
 | 0=>Nat.zero_le _
 | L+1=>by
  show loT n L * n+1<=loT n (L+1) * n+1;have:=Nat.mul_le_mul_right n (qGH n L);omega
theorem qGG (n:Nat) {a b:Nat} (h:a<=b):loT n a<=loT n b:=by
 induction h with
 | refl=>exact zQW _
 | step _ ih=>exact Nat.le_trans ih (qGH n _)
theorem pZ (n:Nat):∀ t,digs n t->loT n t.length<=dA n t/\dA n t < loT n (t.length+1):=by
 refine wU ?_ ?_
 ·intro _;exact⟨zQW _,by show 0 < 0 * n+1;omega⟩
 intro t k ih h;obtain⟨h1,h2,h3⟩:=digs_snoc.1 h;obtain⟨ha,hb⟩:=ih h1;rw [gF,zQL];show loT n t.length * n+1<=_/\_ < loT n (t.length+1) * n+1;have h4:=Nat.mul_le_mul_right n ha;have h5:=zV (n:=n) hb;omega
theorem uT {n:Nat} {a b:List Int} (ha:digs n a) (hb:digs n b) (h:dA n a<=dA n b):a.length<=b.length:=by
 apply Classical.byContradiction;intro hc;have h1:=(pZ n a ha).1;have h2:=(pZ n b hb).2;have h3:=qGG n (show b.length+1<=a.length by omega);omega
inductive Res26 where
 | cont (W:List Visit')
 | fail
 | found (W:List Visit')
section defs
variable (p:Go.Proofs.YtciilodpnepdbaaDoor.Program) (I:List (List Bool)) (d:Int) (viol:Machine->Bool)
def gD (W:List Visit') (m:Machine):Bool:=W.any λv=>decide (v.m=m)
def mY (W:List Visit') (w:Visit') (k:Nat) (a:List Bool):Res26:=
 if gD W (bZ p w.m a)=true then .cont W
 else if 500<=W.length then .fail
 else if viol (bZ p w.m a)=true then .found (W++[⟨bZ p w.m a,w.trace++[(k:Int)]⟩])
 else .cont (W++[⟨bZ p w.m a,w.trace++[(k:Int)]⟩])
def inW (w:Visit'):List (List Bool)->Nat->List Visit'->Res26
 | [],_,W=>.cont W
 | a :: r,k,W=>match mY p viol W w k a with
  | .cont W'=>inW w r (k+1) W'
  | .fail=>.fail
  | .found W'=>.found W'
def kZ:Nat->Nat->List Visit'->Res26
 | 0,_,W=>.cont W
 | fu+1,i,W=>match W[i]? with
  | none=>.cont W
  | some w=>if (w.trace.length:Int) < d then
    match inW p viol w I 0 W with
    | .cont W'=>kZ fu (i+1) W'
    | .fail=>.fail
    | .found W'=>.found W'
   else kZ fu (i+1) W
def bfs:Res26:=if viol (bF p)=true then .found [⟨bF p,[]⟩] else kZ p I d viol 501 0 [⟨bF p,[]⟩]
structure Inv26 (W:List Visit'):Prop where
 head:∃ W',W=⟨bF p,[]⟩ :: W'
 fits:∀ w∈W,cR p w.m=true/\w.m.halted=false/\(∀ c∈w.m.counts,c<=(w.trace.length:Int))/\(w.trace.length:Int)<=d
 rep:∀ w∈W,w.m=rO p I w.trace/\digs I.length w.trace
 inc:∀ (a b:Nat) w v,a < b->W[a]?=some w->W[b]?=some v->dA I.length w.trace < dA I.length v.trace
 len:W.length<=500
 nd:∀ (a b:Nat) w v,a < b->W[a]?=some w->W[b]?=some v->w.m≠v.m
 nov:∀ w∈W,viol w.m=false
structure At26 (W:List Visit') (i k:Nat):Prop where
 inv:Inv26 p I d viol W
 bnd:∀ w,W[i]?=some w->∀ v∈W,dA I.length v.trace < dA I.length w.trace * I.length+(k+1)
 cov:∀ (j:Nat) w (k':Nat),W[j]?=some w->(j < i\/(j=i/\k' < k))->k' < I.length->(w.trace.length:Int) < d->∃ v∈W,v.m=bZ p w.m (I.getD k' [])/\dA I.length v.trace<=dA I.length w.trace * I.length+(k'+1)
structure Done26 (W:List Visit'):Prop where
 inv:Inv26 p I d viol W
 cov:∀ (j:Nat) w (k':Nat),W[j]?=some w->k' < I.length->(w.trace.length:Int) < d->∃ v∈W,v.m=bZ p w.m (I.getD k' [])/\dA I.length v.trace<=dA I.length w.trace * I.length+(k'+1)
def qHW (W:List Visit'):Prop:=∃ W0 i w k,At26 p I d viol W0 i k/\W0[i]?=some w/\k < I.length/\(w.trace.length:Int) < d/\W=W0++[⟨bZ p w.m (I.getD k []),w.trace++[(k:Int)]⟩]/\viol (bZ p w.m (I.getD k []))=true
end defs
section
variable {p:Go.Proofs.YtciilodpnepdbaaDoor.Program} {I:List (List Bool)} {d:Int} {viol:Machine->Bool}
theorem qU {α:Type} {W:List α} {x w:α} {j:Nat} (h:W[j]?=some w):(W++[x])[j]?=some w:=by
 have:=(zQQ.1 h).1;rw [List.getElem?_append_left this];exact h
theorem gJ {α:Type} {W:List α} {x w:α} {j:Nat} (h:(W++[x])[j]?=some w):W[j]?=some w\/(j=W.length/\w=x):=by
 by_cases hj:j < W.length
 ·rw [List.getElem?_append_left hj] at h;exact .inl h
 rw [List.getElem?_append_right (by omega)] at h;by_cases hz:j - W.length=0
 ·rw [hz] at h;exact .inr ⟨by omega,(Option.some.inj h).symm⟩
 rw [List.getElem?_eq_none (by simp;omega)] at h;cases h
theorem known_iff {W:List Visit'} {m:Machine}:gD W m=true↔∃ v∈W,v.m=m:=by
 unfold gD;rw [zQU];exact⟨λ⟨v,h1,h2⟩=>⟨v,h1,of_decide_eq_true h2⟩,λ⟨v,h1,h2⟩=>⟨v,h1,decide_eq_true h2⟩⟩
theorem uH {w:Visit'} {k:Nat} (hk:k < I.length) (h:w.m=rO p I w.trace):rO p I (w.trace++[(k:Int)])=bZ p w.m (I.getD k []):=by
 rw [uG,<- h];unfold qAX;rw [if_pos ⟨by omega,by omega⟩];rfl
theorem qJD {W:List Visit'} {i k:Nat} {w:Visit'} (h:At26 p I d viol W i k) (hw:W[i]?=some w) (hk:k < I.length) (hd:(w.trace.length:Int) < d) (hn:¬ gD W (bZ p w.m (I.getD k []))=true) (hl:¬ 500<=W.length):
  (∃ W',W++[⟨bZ p w.m (I.getD k []),w.trace++[(k:Int)]⟩]=⟨bF p,[]⟩ :: W')/\
  (∀ v∈W++[⟨bZ p w.m (I.getD k []),w.trace++[(k:Int)]⟩],cR p v.m=true/\v.m.halted=false/\(∀ c∈v.m.counts,c<=(v.trace.length:Int))/\(v.trace.length:Int)<=d)/\
  (∀ v∈W++[⟨bZ p w.m (I.getD k []),w.trace++[(k:Int)]⟩],v.m=rO p I v.trace/\digs I.length v.trace)/\
  (∀ (a b:Nat) x v,a < b->(W++[⟨bZ p w.m (I.getD k []),w.trace++[(k:Int)]⟩])[a]?=some x->(W++[⟨bZ p w.m (I.getD k []),w.trace++[(k:Int)]⟩])[b]?=some v->dA I.length x.trace < dA I.length v.trace)/\
  (∀ (a b:Nat) x v,a < b->(W++[⟨bZ p w.m (I.getD k []),w.trace++[(k:Int)]⟩])[a]?=some x->(W++[⟨bZ p w.m (I.getD k []),w.trace++[(k:Int)]⟩])[b]?=some v->x.m≠v.m):=by
 have hwm:=zQM hw;obtain⟨f1,f2,f3,f4⟩:=h.inv.fits w hwm;obtain⟨r1,r2⟩:=h.inv.rep w hwm;obtain⟨s1,s2⟩:=lG (I.getD k []) f1 f2;refine⟨?_,?_,?_,?_,?_⟩
 ·obtain⟨W',e⟩:=h.inv.head;exact⟨W'++[⟨bZ p w.m (I.getD k []),w.trace++[(k:Int)]⟩],by rw [e];rfl⟩
 ·intro v hv;rcases zQN.1 hv with hv|hv
  ·exact h.inv.fits v hv
  rw [List.mem_singleton] at hv;subst hv;refine⟨s1,s2,?_,?_⟩
  ·intro c hc;have:=qBA (I.getD k []) f1 f2 f3 c hc;simp only [zQL,List.length_cons,List.length_nil];omega
  simp only [zQL,List.length_cons,List.length_nil];omega
 ·intro v hv;rcases zQN.1 hv with hv|hv
  ·exact h.inv.rep v hv
  rw [List.mem_singleton] at hv;subst hv;exact⟨(uH hk r1).symm,digs_snoc.2 ⟨r2,by omega,by omega⟩⟩
 ·intro a b x v hab hx hv;rcases gJ hv with hv|⟨hb,hv⟩
  ·rcases gJ hx with hx|⟨ha,hx⟩
   ·exact h.inv.inc a b x v hab hx hv
   have:=(zQQ.1 hv).1;omega
  rcases gJ hx with hx|⟨ha,hx⟩
  ·subst hv;rw [gF];have:=h.bnd w hw x (zQM hx);omega
  omega
 intro a b x v hab hx hv;rcases gJ hv with hv|⟨hb,hv⟩
 ·rcases gJ hx with hx|⟨ha,hx⟩
  ·exact h.inv.nd a b x v hab hx hv
  have:=(zQQ.1 hv).1;omega
 rcases gJ hx with hx|⟨ha,hx⟩
 ·subst hv;intro he;exact hn (known_iff.2 ⟨x,zQM hx,he⟩)
 omega
def qKR (p:Go.Proofs.YtciilodpnepdbaaDoor.Program) (I:List (List Bool)) (d:Int) (viol:Machine->Bool) (i k:Nat) (w:Visit'):Res26->Prop
 | .cont W=>At26 p I d viol W i k/\W[i]?=some w
 | .fail=>True
 | .found W=>qHW p I d viol W
theorem qM {W:List Visit'} {i k:Nat} {w:Visit'} (h:At26 p I d viol W i k) (hw:W[i]?=some w) (hk:k < I.length) (hd:(w.trace.length:Int) < d):qKR p I d viol i (k+1) w (mY p viol W w k (I.getD k [])):=by
 have hwm:=zQM hw;unfold mY;by_cases hn:gD W (bZ p w.m (I.getD k []))=true
 ·rw [if_pos hn];refine⟨⟨h.inv,?_,?_⟩,hw⟩
  ·intro w' hw' v hv;have:=h.bnd w' hw' v hv;omega
  intro j x k' hx hc hk' hx';by_cases he:j < i\/(j=i/\k' < k)
  ·exact h.cov j x k' hx he hk' hx'
  have hj : j = i /\ k' = k := by omega
  obtain⟨rfl,rfl⟩:=hj;have:x=w:=Option.some.inj (hx.symm.trans hw);subst this;obtain⟨v,hv,hvm⟩:=known_iff.1 hn;exact⟨v,hv,hvm,by have:=h.bnd x hw v hv;omega⟩
 rw [if_neg hn];by_cases hl:500<=W.length
 ·rw [if_pos hl];trivial
 rw [if_neg hl];by_cases hv:viol (bZ p w.m (I.getD k []))=true
 ·rw [if_pos hv];exact⟨W,i,w,k,h,hw,hk,hd,rfl,hv⟩
 rw [if_neg hv];obtain⟨a1,a2,a3,a4,a5⟩:=qJD h hw hk hd hn hl;refine⟨⟨⟨a1,a2,a3,a4,by rw [zQL];simp;omega,a5,?_⟩,?_,?_⟩,qU hw⟩
 ·intro v hv';rcases zQN.1 hv' with hv'|hv'
  ·exact h.inv.nov v hv'
  rw [List.mem_singleton] at hv';subst hv';simpa using hv
 ·intro w' hw' v hv';have:w'=w:=Option.some.inj (hw'.symm.trans (qU hw));subst this;rcases zQN.1 hv' with hv'|hv'
  ·have:=h.bnd w' hw v hv';omega
  rw [List.mem_singleton] at hv';subst hv';rw [gF];omega
 intro j x k' hx hc hk' hx'
 have hxW:W[j]?=some x:=by
  rcases gJ hx with hx|⟨hj,_⟩
  ·exact hx
  have:=(zQQ.1 hw).1;omega
 by_cases he:j < i\/(j=i/\k' < k)
 ·obtain⟨v,q1,q2,q3⟩:=h.cov j x k' hxW he hk' hx';exact⟨v,List.mem_append_left _ q1,q2,q3⟩
 have hj : j = i /\ k' = k := by omega
 obtain⟨rfl,rfl⟩:=hj;have:x=w:=Option.some.inj (hxW.symm.trans hw);subst this;exact⟨_,List.mem_append_right _ (List.mem_singleton.2 rfl),rfl,by rw [gF];omega⟩
theorem qGO {i:Nat} {w:Visit'} (hd:(w.trace.length:Int) < d):∀ (l:List (List Bool)) (k:Nat) (W:List Visit'),I.drop k=l->k<=I.length->At26 p I d viol W i k->W[i]?=some w->qKR p I d viol i I.length w (inW p viol w l k W)
 | [],k,W,hl,hk,h,hw=>by
  have:k=I.length:=by
   have:=congrArg List.length hl;rw [List.length_drop] at this;simp at this;omega
  subst this;exact⟨h,hw⟩
 | a :: r,k,W,hl,hk,h,hw=>by
  have hk':k < I.length:=by
   have:=congrArg List.length hl;rw [List.length_drop] at this;simp at this;omega
  have ha:I.getD k []=a:=by
   rw [zQD,<- List.head?_drop,hl];rfl
  have hr:I.drop (k+1)=r:=by rw [<- List.tail_drop,hl];rfl
  have:=qM h hw hk' hd;rw [ha] at this;unfold inW
  cases hs:mY p viol W w k a with
  | cont W'=>
   rw [hs] at this;exact qGO hd r (k+1) W' hr hk' this.1 this.2
  | fail=>trivial
  | found W'=>
   rw [hs] at this;exact this
theorem oM {W:List Visit'} {i k:Nat} {w:Visit'} (h:At26 p I d viol W i k) (hw:W[i]?=some w) (hk:k=I.length\/(k=0/\¬ (w.trace.length:Int) < d)):At26 p I d viol W (i+1) 0:=by
 refine⟨h.inv,?_,?_⟩
 ·intro w' hw' v hv;have h1:=h.bnd w hw v hv;have h2:=zV (n:=I.length) (h.inv.inc i (i+1) w w' (by omega) hw hw');omega
 intro j x k' hx hc hk' hx';by_cases hj:j < i
 ·exact h.cov j x k' hx (.inl hj) hk' hx'
 have : j = i := by omega
 subst this;have:x=w:=Option.some.inj (hx.symm.trans hw);subst this;rcases hk with hk|⟨_,hk⟩
 ·exact h.cov j x k' hx (.inr ⟨rfl,by omega⟩) hk' hx'
 exact absurd hx' hk
def End26 (p:Go.Proofs.YtciilodpnepdbaaDoor.Program) (I:List (List Bool)) (d:Int) (viol:Machine->Bool):Res26->Prop
 | .cont W=>Done26 p I d viol W
 | .fail=>True
 | .found W=>qHW p I d viol W
theorem qBW {W:List Visit'} {i:Nat} (h:At26 p I d viol W i 0) (hi:W.length<=i):Done26 p I d viol W:=
 ⟨h.inv,λj w k' hx hk' hd=>h.cov j w k' hx (.inl (by have:=(zQQ.1 hx).1;omega)) hk' hd⟩
theorem rZ:∀ (fu i:Nat) (W:List Visit'),501<=fu+i->At26 p I d viol W i 0->End26 p I d viol (kZ p I d viol fu i W)
 | 0,i,W,hf,h=>qBW h (by have:=h.inv.len;omega)
 | fu+1,i,W,hf,h=>by
  unfold kZ
  cases hw:W[i]? with
  | none=>exact qBW h (List.getElem?_eq_none_iff.1 hw)
  | some w=>
   dsimp only;by_cases hd:(w.trace.length:Int) < d
   ·rw [if_pos hd];have:=qGO (i:=i) hd I 0 W rfl (Nat.zero_le _) h hw
    cases hs:inW p viol w I 0 W with
    | cont W'=>
     rw [hs] at this;exact rZ fu (i+1) W' (by omega) (oM this.1 this.2 (.inl rfl))
    | fail=>trivial
    | found W'=>rw [hs] at this;exact this
   rw [if_neg hd];exact rZ fu (i+1) W (by omega) (oM h hw (.inr ⟨rfl,hd⟩))
theorem lD (hc:bU p=0) (hd:0<=d) (hv:viol (bF p)=false):At26 p I d viol [⟨bF p,[]⟩] 0 0:=by
 obtain⟨f1,f2,f3⟩:=nW hc
 have one:∀ (a:Nat) w,([⟨bF p,[]⟩]:List Visit')[a]?=some w->a=0:=λa w h=>by
  have:=(zQQ.1 h).1;simp at this;exact this
 refine⟨⟨⟨[],rfl⟩,?_,?_,?_,by simp,?_,?_⟩,?_,?_⟩
 ·intro w hw;rw [List.mem_singleton] at hw;subst hw;exact⟨f1,f2,λc hc=>by rw [f3 c hc];simp,by simpa using hd⟩
 ·intro w hw;rw [List.mem_singleton] at hw;subst hw;exact⟨rfl,λx hx=>by cases hx⟩
 ·intro a b w v hab h1 h2;have:=one a w h1;have:=one b v h2;omega
 ·intro a b w v hab h1 h2;have:=one a w h1;have:=one b v h2;omega
 ·intro w hw;rw [List.mem_singleton] at hw;subst hw;exact hv
 ·intro w hw v hv;rw [List.mem_singleton] at hv;subst hv;show 0 < _;omega
 intro j w k' h1 h2;omega
theorem reach {W:List Visit'} (inv:Inv26 p I d viol W) (C:Nat->Nat->Prop) (cov:∀ (j:Nat) w (k':Nat),W[j]?=some w->C j k'->k' < I.length->(w.trace.length:Int) < d->∃ v∈W,v.m=bZ p w.m (I.getD k' [])/\dA I.length v.trace<=dA I.length w.trace * I.length+(k'+1))
  (D:Nat->Prop) (hD:∀ a b,a<=b->D b->D a) (hC:∀ (j:Nat) w (k':Nat),W[j]?=some w->k' < I.length->D (dA I.length w.trace * I.length+(k'+1))->C j k'):∀ t,digs I.length t->(t.length:Int)<=d->D (dA I.length t)->∃ v∈W,v.m=rO p I t/\dA I.length v.trace<=dA I.length t:=by
 refine wU ?_ ?_
 ·intro _ _ _;obtain⟨W',e⟩:=inv.head;exact⟨⟨bF p,[]⟩,by rw [e];simp,rfl,zQW _⟩
 intro t k ih hg hl hc;obtain⟨g1,g2,g3⟩:=digs_snoc.1 hg;rw [zQL,List.length_cons,List.length_nil] at hl;rw [gF] at hc ⊢;have hn:0 < I.length:=by omega
 have hle:dA I.length t<=dA I.length t * I.length:=Nat.le_mul_of_pos_right _ hn;obtain⟨v,v1,v2,v3⟩:=ih g1 (by omega) (hD _ _ (by omega) hc);obtain⟨j,hj⟩:=List.getElem?_of_mem v1;have hmul:=Nat.mul_le_mul_right I.length v3;have hvl:=uT (inv.rep v v1).2 g1 v3;obtain⟨u,u1,u2,u3⟩:=cov j v k.toNat hj (hC j v k.toNat hj (by omega) (hD _ _ (by omega) hc)) (by omega) (by omega);refine⟨u,u1,?_,by omega⟩;rw [u2,uG,<- v2];unfold qAX;rw [if_pos ⟨g2,g3⟩]
theorem qHJ {W:List Visit'} {i k:Nat} {w:Visit'} (h:At26 p I d viol W i k) (hw:W[i]?=some w) (hk:k < I.length) {t:List Int} (hg:digs I.length t) (hl:(t.length:Int)<=d) (hc:dA I.length t < dA I.length w.trace * I.length+(k+1)):viol (rO p I t)=false:=by
 obtain ⟨v, v1, v2, _⟩ := reach h.inv (fun j k' => j < i \/ (j = i /\ k' < k)) h.cov (fun c => c < dA I.length w.trace * I.length + (k + 1)) (fun a b hab hb => by omega) (fun j x k' hx hk' hlt => by
  rcases Nat.lt_trichotomy j i with hj | hj | hj
  ·exact .inl hj
  ·subst hj;have : x = w := Option.some.inj (hx.symm.trans hw);subst this;exact .inr ⟨rfl, by omega⟩
  have := zV (n := I.length) (h.inv.inc i j w x hj hw hx)
  omega) t hg hl hc
 rw [<- v2];exact h.inv.nov v v1
structure Least26 (p:Go.Proofs.YtciilodpnepdbaaDoor.Program) (I:List (List Bool)) (d:Int) (viol:Machine->Bool) (T:Visit'):Prop where
 rep:T.m=rO p I T.trace
 digs:digs I.length T.trace
 len:(T.trace.length:Int)<=d
 bad:viol T.m=true
 least:∀ t,Go.Proofs.YtciilodpnepdbaaDoor.digs I.length t->(t.length:Int)<=d->dA I.length t < dA I.length T.trace->viol (rO p I t)=false
theorem qDI {W:List Visit'} (h:qHW p I d viol W):∃ W0 T,W=W0++[T]/\Least26 p I d viol T:=by
 obtain⟨W0,i,w,k,h1,h2,h3,h4,h5,h6⟩:=h;have hwm:=zQM h2;obtain⟨r1,r2⟩:=h1.inv.rep w hwm;refine⟨W0,_,h5,(uH h3 r1).symm,digs_snoc.2 ⟨r2,by omega,by omega⟩,by simp only [zQL,List.length_cons,List.length_nil];omega,h6,?_⟩;intro t t1 t2 t3;rw [gF] at t3;exact qHJ h1 h2 h3 t1 t2 (by omega)
theorem uU {W:List Visit'} (hc:bU p=0) (hd:0<=d) (h:bfs p I d viol=.found W):∃ W0 T,W=W0++[T]/\Least26 p I d viol T:=by
 unfold bfs at h;by_cases hv:viol (bF p)=true
 ·rw [if_pos hv] at h;cases h;refine⟨[],⟨bF p,[]⟩,rfl,⟨rfl,λx hx=>(by cases hx),by simpa using hd,hv,λt _ _ ht=>?_⟩⟩;have h0:dA I.length ([]:List Int)=0:=rfl;rw [h0] at ht;omega
 rw [if_neg hv] at h;have:=rZ 501 0 _ (by omega) (lD (I:=I) hc hd (by simpa using hv));rw [h] at this;exact qDI this
theorem yU {W:List Visit'} (hc:bU p=0) (hd:0<=d) (h:bfs p I d viol=.cont W):Done26 p I d viol W:=by
 unfold bfs at h;by_cases hv:viol (bF p)=true
 ·rw [if_pos hv] at h;cases h
 rw [if_neg hv] at h;have:=rZ 501 0 _ (by omega) (lD (I:=I) hc hd (by simpa using hv));rw [h] at this;exact this
end
theorem lT {σ ρ:Type} {f:σ->Option (σ ⊕ ρ)} {P:ρ->Prop} (I:Nat->σ->Prop) (hs:∀ n s,I n s->(∃ o,f s=some (.inr o)/\P o)\/(∃ s',f s=some (.inl s')/\∃ n',n' < n/\I n' s')) {n:Nat} {s:σ} (hn:n<=1000000) (h:I n s):∃ o,bE f s=some o/\P o:=by
 suffices key:∀ n,∀ m,m<=n->∀ s,I m s->∃ o,fF f (n+1) s=some o/\P o by
  obtain⟨o,h1,h2⟩:=key n n (zQW _) s h;exact⟨o,lU h1 (by unfold aU;omega),h2⟩
 intro n
 induction n with
 | zero=>
  intro m hm s hI;rcases hs m s hI with ⟨o,h1,h2⟩|⟨s',h1,n',h2,h3⟩
  ·exact⟨o,by simp [fF,h1],h2⟩
  omega
 | succ n ih=>
  intro m hm s hI;rcases hs m s hI with ⟨o,h1,h2⟩|⟨s',h1,n',h2,h3⟩
  ·exact⟨o,by rw [fF,h1],h2⟩
  obtain ⟨o, h4, h5⟩ := ih n' (by omega) s' h3;exact⟨o,by rw [fF,h1];exact h4,h5⟩
theorem qHI {α β:Type} {m:Option α} {P:α->Prop} {k:α->Option β} {Q:β->Prop} (h:∃ o,m=some o/\P o) (h2:∀ o,P o->∃ r,k o=some r/\Q r):∃ r,aC m k=some r/\Q r:=by
 obtain⟨o,rfl,h3⟩:=h;exact h2 o h3
structure VR (vs:List Ad) (W:List Visit'):Prop where
 len:vs.length=W.length
 ent:∀ (j:Nat) v w,vs[j]?=some v->W[j]?=some w->v.machine=w.m/\v.scan=(w.trace.length:Int)/\((v.before < 0/\w.trace=[])\/∃ (b:Nat) (w':Visit'),v.before=(b:Int)/\W[b]?=some w'/\w.trace=w'.trace++[v.input])
theorem VR.at {vs:List Ad} {W:List Visit'} (h:VR vs W) {j:Nat} {w:Visit'} (hw:W[j]?=some w):∃ v,vs[j]?=some v/\v.machine=w.m/\v.scan=(w.trace.length:Int)/\((v.before < 0/\w.trace=[])\/∃ (b:Nat) (w':Visit'),v.before=(b:Int)/\W[b]?=some w'/\w.trace=w'.trace++[v.input]):=by
 have hj:=(zQQ.1 hw).1;have hv:vs[j]?=some (vs[j]'(by rw [h.len];exact hj)):=zQR _;exact⟨_,hv,h.ent j _ w hv hw⟩
theorem VR.app {vs:List Ad} {W:List Visit'} (h:VR vs W) {i k:Nat} {w:Visit'} (hw:W[i]?=some w) (m:Machine):VR (vs++[⟨m,(i:Int),(k:Int),(w.trace.length:Int)+1⟩]) (W++[⟨m,w.trace++[(k:Int)]⟩]):=by
 refine⟨by simp [h.len],?_⟩;intro j v u hv hu;rcases gJ hv with hv|⟨hj,rfl⟩
 ·rcases gJ hu with hu|⟨hj,rfl⟩
  ·obtain⟨a,b,c⟩:=h.ent j v u hv hu;refine⟨a,b,?_⟩;rcases c with c|⟨b',w',c1,c2,c3⟩
   ·exact .inl c
   exact .inr ⟨b',w',c1,qU c2,c3⟩
  have:=(zQQ.1 hv).1;have:=h.len;omega
 rcases gJ hu with hu|⟨hj',rfl⟩
 ·have:=(zQQ.1 hu).1;have:=h.len;omega
 exact⟨rfl,by simp,.inr ⟨i,w,rfl,qU hw,rfl⟩⟩
theorem VR.one (m:Machine):VR [⟨m,-1,0,0⟩] [⟨m,[]⟩]:=by
 refine⟨rfl,?_⟩;intro j v w hv hw;have hj:=(zQQ.1 hv).1;simp at hj;subst hj;cases hv;cases hw;exact⟨rfl,rfl,.inl ⟨by show (-1:Int) < 0;omega,rfl⟩⟩
theorem qHR {vs:List Ad} {W:List Visit'} (h:VR vs W) {j:Nat} {w:Visit'} (hw:W[j]?=some w) (hl:w.trace.length<=100) (S:Ah) (hS:S.visits=vs):cC S (j:Int)=some w.trace:=by
 have key:∃ r,cC S (j:Int)=some r/\r=w.trace:=by
  unfold cC;rw [hS];refine qHI (P:=λo=>o=w.trace.reverse) (lT (λn s=>∃ (q:Nat) (u:Visit'),s.1=(q:Int)/\W[q]?=some u/\n=u.trace.length/\s.2++u.trace.reverse=w.trace.reverse/\n<=100) ?_ (n:=w.trace.length) (by omega) ⟨j,w,rfl,hw,rfl,rfl,hl⟩) ?_
  ·rintro n ⟨s1,s2⟩ ⟨q,u,h1,h2,h3,h4,h5⟩;dsimp only at h1 h4;subst h1;obtain⟨v,v1,v2,v3,v4⟩:=h.at h2;dsimp only;rw [aL v1];rcases v4 with ⟨v4,v5⟩|⟨b,w',v4,v5,v6⟩
   ·left;rw [if_neg (by omega)];refine⟨_,rfl,?_⟩;rw [v5] at h4;simpa using h4
   right
   have hlen:s2.length<=100:=by
    have:=congrArg List.length h4;simp only [zQL,List.length_reverse] at this;omega
   rw [if_pos (by omega),aL v1,aB (by simp;omega),aL v1,v4];refine⟨_,rfl,w'.trace.length,?_,b,w',rfl,v5,rfl,?_,?_⟩
   ·rw [h3,v6];simp
   ·rw [v6] at h4;simpa using h4
   have:=congrArg List.length v6;simp only [zQL,List.length_cons,List.length_nil] at this;omega
  intro o ho;subst ho;rw [aB (by simp;omega)];refine⟨_,rfl,?_⟩;unfold xE;rw [List.reverse_reverse]
 obtain⟨r,h1,rfl⟩:=key;exact h1
def eK (W:List Visit'):List (BA×Bool):=W.map λw=>(nO w.m,true)
theorem nS (s : BA) : ∀ W : List Visit', dP (eK W) s = if (W.any fun v => decide (nO v.m = s)) = true then some true else none
 | []=>rfl
 | w :: r=>by
  have ih:=nS s r;unfold eK dP at *;rw [List.map_cons,List.find?_cons,List.any_cons];by_cases h:nO w.m=s
  ·simp [h]
  simp only [h,decide_false,Bool.false_or];exact ih
section
variable {p:Go.Proofs.YtciilodpnepdbaaDoor.Program} {I:List (List Bool)} {d:Int} {viol:Machine->Bool}
theorem sD (hs:Slim p) {m:Machine} {k:Int} (hf:cR p m=true) (hc:∀ c∈m.counts,c<=k) (hk:k<=16):MSm m:=by
 obtain⟨hz,hvl,hcl,hcnt⟩:=gU hf;have:=cJ hz;have:=hs.Ab;exact⟨by omega,by omega,λc hm=>⟨qAE hf c hm,by have:=hc c hm;omega⟩⟩
theorem qBM (hs:Slim p) (hd:d<=16) {W:List Visit'} (h:Inv26 p I d viol W) {w:Visit'} (hw:w∈W):MSm w.m:=by
 obtain⟨f1,f2,f3,f4⟩:=h.fits w hw;exact sD hs f1 f3 (by omega)
theorem qDK {m m':Machine} (h:cR p m=true) (h':cR p m'=true):m.vars.length=m'.vars.length:=by
 have h1:=gU h;have h2:=gU h';omega
theorem sI (hs:Slim p) (hd:d<=16) {W:List Visit'} (h:Inv26 p I d viol W) {w:Visit'} (hw:w∈W) {m:Machine} (hm:MSm m) (hf:cR p m=true) (hh:m.halted=false):nO w.m=nO m↔w.m=m:=by
 obtain⟨f1,f2,f3,f4⟩:=h.fits w hw;exact⟨λhe=>qJC (qBM hs hd h hw) hm (by rw [f2,hh]) (qDK f1 hf) he,λhe=>by rw [he]⟩
theorem wW (hs:Slim p) (hd:d<=16) {W:List Visit'} (h:Inv26 p I d viol W) {m:Machine} (hm:MSm m) (hf:cR p m=true) (hh:m.halted=false):(dP (eK W) (nO m)).getD false=gD W m:=by
 rw [nS]
 have:(W.any λv=>decide (nO v.m=nO m))=gD W m:=by
  unfold gD;rw [Bool.eq_iff_iff,zQU,zQU];constructor
  ·rintro⟨v,h1,h2⟩;exact⟨v,h1,decide_eq_true ((sI hs hd h h1 hm hf hh).1 (of_decide_eq_true h2))⟩
  rintro⟨v,h1,h2⟩;exact⟨v,h1,decide_eq_true ((sI hs hd h h1 hm hf hh).2 (of_decide_eq_true h2))⟩
 rw [this];cases gD W m<;>rfl
theorem rG (hs:Slim p) (hd:d<=16) {W:List Visit'} (h:Inv26 p I d viol W):((eK W).map (·.1)).Nodup:=by
 rw [pG];intro a b hab hb he;unfold eK at hb he;simp only [zQC] at hb;simp only [zQP] at he;have h1:=zQR (l:=W) (show a < W.length by omega);have h2:=zQR hb;rw [h1,h2] at he;simp only [Option.map_some,Option.some.injEq] at he;obtain⟨f1,f2,f3,f4⟩:=h.fits _ (List.getElem_mem hb);exact h.nd a b _ _ hab h1 h2 ((sI hs hd h (List.getElem_mem _) (qBM hs hd h (List.getElem_mem hb)) f1 f2).1 he)
theorem qHX {W:List Visit'} {vs:List Ad} {m:Machine} (hm:MSm m) (hn:((eK W).map (·.1)).Nodup) (hk:(dP (eK W) (nO m)).getD false=false) (hl:vs.length<=1000) (q:Go.Proofs.YtciilodpnepdbaaDoor.Program) (b k s:Int) (t:List Int):bK ⟨q,I,d,vs,eK W⟩ m b k s=some ⟨q,I,d,vs++[⟨m,b,k,s⟩],eK (W++[⟨m,t⟩])⟩:=by
 unfold bK;rw [qHU hm,aA];dsimp only;rw [aB hn,aB (by simp;omega)]
 have:dP (eK W) (nO m)=none:=by
  rw [nS] at hk ⊢;split
  ·rename_i h;rw [if_pos h] at hk;cases hk
  rfl
 rw [qFQ this];simp [eK]
theorem qAN (hs:Slim p) (I:List (List Bool)) (d:Int):cY p I d=some (if bU p=0/\I.length<=16/\0<=d/\d<=16 then (some ⟨p,I,d,[],[]⟩,0) else (none,1)):=by
 unfold cY;rw [pF hs.ok,aA];by_cases h1:bU p=0
 ·rw [if_pos h1];by_cases h2:I.length<=16
  ·rw [if_neg (by omega)];by_cases h3:d < 0
   ·rw [if_pos h3,aA,if_pos rfl,if_neg (by omega)]
   rw [if_neg h3,aA];by_cases h4:16 < d
   ·rw [decide_eq_true h4,if_pos rfl,if_neg (by omega)]
   rw [decide_eq_false h4,if_neg (by simp),if_pos ⟨h1,h2,by omega,by omega⟩]
  rw [if_pos (by omega),aA,if_pos rfl,if_neg (by omega)]
 rw [if_neg h1,aA,if_pos rfl,if_neg (λh=>h1 h.1)]
theorem xQ (hs:Slim p) (I:List (List Bool)) (d:Int):gO p I d=some (!decide (bU p=0/\I.length<=16/\0<=d/\d<=16)):=by
 unfold gO;rw [pE hs,aA];by_cases h1:bU p=0
 ·rw [if_pos h1];by_cases h2:I.length<=16
  ·rw [if_neg (by omega)];by_cases h3:d < 0
   ·rw [if_pos h3,aA,decide_eq_false (by omega)];rfl
   rw [if_neg h3,aA];by_cases h4:16 < d
   ·rw [decide_eq_true h4,decide_eq_false (by omega)];rfl
   rw [decide_eq_false h4,decide_eq_true ⟨h1,h2,by omega,by omega⟩];rfl
  rw [if_pos (by omega),aA,decide_eq_false (by omega)];rfl
 rw [if_neg h1,aA,decide_eq_false (λh=>h1 h.1)];rfl
end
end Go.Proofs.YtciilodpnepdbaaDoor
set_option linter.unusedVariables false
set_option linter.unusedSimpArgs false
set_option maxHeartbeats 1000000
set_option maxRecDepth 100000
namespace Go.Proofs.YtciilodpnepdbaaDoor
open Go Go.TL
theorem sY {α σ ρ:Type} {m:Option (α ⊕ (σ ⊕ ρ))} {k:α->Option (σ ⊕ ρ)} {A:ρ->Prop} {B:σ->Prop} {P:α ⊕ (σ ⊕ ρ)->Prop} (h:∃ o,m=some o/\P o) (hl:∀ a,P (.inl a)->(∃ o,k a=some (.inr o)/\A o)\/(∃ s',k a=some (.inl s')/\B s')) (hr:∀ b,P (.inr b)->(∃ o,b=.inr o/\A o)\/(∃ s',b=.inl s'/\B s')):(∃ o,cD m k=some (.inr o)/\A o)\/(∃ s',cD m k=some (.inl s')/\B s'):=by
 obtain⟨o,rfl,ho⟩:=h
 cases o with
 | inl a=>exact hl a ho
 | inr b=>
  rcases hr b ho with ⟨o,rfl,h2⟩|⟨s',rfl,h2⟩
  ·exact .inl ⟨_,rfl,h2⟩
  exact .inr ⟨_,rfl,h2⟩
theorem yC {p:Go.Proofs.YtciilodpnepdbaaDoor.Program} {I:List (List Bool)} {viol:Machine->Bool} {w:Visit'} {W:List Visit'} {k:Nat} (hk:k < I.length):inW p viol w (I.drop k) k W=match mY p viol W w k (I.getD k []) with
  | .cont W'=>inW p viol w (I.drop (k+1)) (k+1) W'
  | .fail=>.fail
  | .found W'=>.found W':=by
 rw [List.drop_eq_getElem_cons hk,inW,zQD,zQR hk];rfl
theorem qBN {p:Go.Proofs.YtciilodpnepdbaaDoor.Program} {I:List (List Bool)} {viol:Machine->Bool} {w:Visit'} {W:List Visit'} {k:Nat} (hk:I.length<=k):inW p viol w (I.drop k) k W=.cont W:=by
 rw [List.drop_eq_nil_of_le hk];rfl
theorem rY {p:Go.Proofs.YtciilodpnepdbaaDoor.Program} {I:List (List Bool)} {d:Int} {viol:Machine->Bool} {W:List Visit'} {i:Nat} {w:Visit'} (h:Inv26 p I d viol W) (hw:W[i]?=some w) {d':Int} (hd:d'<=(w.trace.length:Int)):∀ (n j:Nat),i<=j->kZ p I d' viol n j W=.cont W:=by
 intro n
 induction n with
 | zero=>intro j _;rfl
 | succ n ih=>
  intro j hj;unfold kZ
  cases hx:W[j]? with
  | none=>rfl
  | some x=>
   have hc2:(w.trace.length:Nat)<=x.trace.length:=by
    rcases Nat.eq_or_lt_of_le hj with e|e
    ·subst e;rw [hw] at hx;cases hx;exact zQW _
    exact uT (h.rep w (zQM hw)).2 (h.rep x (zQM hx)).2 (Nat.le_of_lt (h.inc i j w x e hw hx))
   dsimp only;rw [if_neg (by omega)];exact ih (j+1) (by omega)
theorem xT {p:Go.Proofs.YtciilodpnepdbaaDoor.Program} {I:List (List Bool)} {d:Int} {viol:Machine->Bool} {W:List Visit'} {n i:Nat} {w:Visit'} (hw:W[i]?=some w) (hd:(w.trace.length:Int) < d):kZ p I d viol (n+1) i W=match inW p viol w I 0 W with
  | .cont W'=>kZ p I d viol n (i+1) W'
  | .fail=>.fail
  | .found W'=>.found W':=by
 rw [kZ,hw];dsimp only;refine (if_pos hd).trans ?_;cases inW p viol w I 0 W<;>rfl
abbrev FSt:=List Aa×List Int×Bool×Int×List BA×Int×List Af×List (List Bool)×Int×List (BA×Bool)×List Ad
def stF (p:Go.Proofs.YtciilodpnepdbaaDoor.Program) (l:List Aa) (I:List (List Bool)) (d:Int) (W:List Visit') (vs:List Ad):FSt:=(l,[],false,0,p.names,p.inputs,p.Ab,I,d,eK W,vs)
def qHT (r:Bool×FSt):Res26->Prop
 | .cont W=>r.1=true
 | .fail=>r.1=false/\r.2.2.1=[]/\r.2.2.2.1=false/\r.2.2.2.2.1=16
 | .found W=>∃ W0 T,W=W0++[T]/\r.1=false/\r.2.2.1=T.trace/\r.2.2.2.1=true/\r.2.2.2.2.1=0
section
variable {p:Go.Proofs.YtciilodpnepdbaaDoor.Program} {l:List Aa} {I:List (List Bool)} {d:Int}
theorem zI (s0:List Aa) (s1:List Int) (s2:Bool) (s3:Int) (s4:List BA) (s5:Int) (s6:List Af) (s7:List (List Bool)) (s8:Int) (s9:List (BA×Bool)) (s10:List Ad):cB s0 s1 s2 s3 s4 s5 s6 s7 s8 s9 s10 (-1) 16=some (false,s0,[],false,16,s4,s5,s6,s7,s8,s9,s10):=rfl
theorem uC (h:Ok26 p l I) {W:List Visit'} {vs:List Ad} (hv:VR vs W) {j:Nat} {w:Visit'} (hw:W[j]?=some w) (hl:w.trace.length<=100) (s1:List Int) (s2:Bool) (s3:Int) (s4:List BA) (s5:Int) (s6:List Af) (s7:List (List Bool)) (s8:Int) (s9:List (BA×Bool)) {z:Int} (hz:z=(j:Int)):
  cB l s1 s2 s3 s4 s5 s6 s7 s8 s9 vs z 0=some (if bP l w.m=true then (false,l,w.trace,true,0,s4,s5,s6,s7,s8,s9,vs) else (true,l,s1,s2,s3,s4,s5,s6,s7,s8,s9,vs)):=by
 subst hz;obtain⟨v,v1,v2,v3,v4⟩:=hv.at hw;unfold cB;rw [if_pos rfl,aL v1,v2,qHV w.m h.len h.obs,aA];have hh:=qAA l w.m;by_cases hb:bP l w.m=true
 ·rw [hb] at hh;rw [if_pos (of_decide_eq_true hh),if_pos hb,qHR hv hw hl _ rfl,aA]
 rw [Bool.not_eq_true] at hb;rw [hb] at hh;rw [if_neg (of_decide_eq_false hh),if_neg (by rw [hb];simp)]
def PostI (p:Go.Proofs.YtciilodpnepdbaaDoor.Program) (l:List Aa) (I:List (List Bool)) (d:Int) (i:Nat) (w:Visit') (o:FSt ⊕ ((Int×FSt) ⊕ (Bool×FSt))):Res26->Prop
 | .cont W=>∃ vs,o=.inl (stF p l I d W vs)/\VR vs W/\At26 p I d (bP l) W i I.length/\W[i]?=some w
 | .fail=>∃ r,o=.inr (.inr r)/\qHT r .fail
 | .found W=>∃ r,o=.inr (.inr r)/\qHT r (.found W)
theorem wM (h:Ok26 p l I) (hc:bU p=0) (hI:I.length<=16) (h0:0<=d) (h16:d<=16):∃ r,dJ cB l [] false 0 p.names p.inputs p.Ab I d [] []=some r/\qHT r (bfs p I d (bP l)):=by
 have hs:=h.slim;obtain⟨f1,f2,f3⟩:=nW hc;have hm0:MSm (bF p):=sD hs (k:=0) f1 (λc hc=>by rw [f3 c hc];omega) (by omega);have hadd0:bK ⟨p,I,d,[],eK []⟩ (bF p) (-1) 0 0=some ⟨p,I,d,[⟨bF p,-1,0,0⟩],eK [⟨bF p,[]⟩]⟩:=qHX (I:=I) (d:=d) (W:=[]) (vs:=[]) hm0 (by simp [eK]) rfl (by simp) p (-1) 0 0 [];have eta:(⟨p.names,p.inputs,p.Ab⟩:Go.Proofs.YtciilodpnepdbaaDoor.Program)=p:=rfl;unfold dJ;rw [eta,uJ hs.ok,aA,show ([]:List (BA×Bool))=eK [] from rfl,hadd0,aA];rw [uC h (VR.one (bF p)) (j:=0) (w:=⟨bF p,[]⟩) rfl (by simp) _ _ _ _ _ _ _ _ _ (z:=0) rfl,aA];unfold bfs;by_cases hv:bP l (bF p)=true
 ·rw [if_pos hv,if_pos hv];exact⟨_,rfl,[],⟨bF p,[]⟩,rfl,rfl,rfl,rfl,rfl⟩
 rw [if_neg hv,if_neg hv];dsimp only;rw [if_pos rfl];have hat:=lD (I:=I) (viol:=bP l) hc h0 (by simpa using hv);refine lT (λn s=>∃ (i:Nat) (W:List Visit') (vs:List Ad),s=((i:Int),stF p l I d W vs)/\VR vs W/\At26 p I d (bP l) W i 0/\n+i=501/\kZ p I d (bP l) n i W=kZ p I d (bP l) 501 0 [⟨bF p,[]⟩]) ?_ (n:=501) (by omega) ⟨0,_,_,rfl,VR.one _,hat,rfl,rfl⟩;generalize kZ p I d (bP l) 501 0 [⟨bF p,[]⟩]=R;rintro n _ ⟨i,W,vs,rfl,hvr,ha,hn,hR⟩;unfold stF;dsimp only
 cases hw:W[i]? with
 | none=>
  left;have hle:=List.getElem?_eq_none_iff.1 hw;rw [if_neg (by rw [hvr.len];omega)];refine⟨_,rfl,?_⟩
  cases n with
  | zero=>rw [<- hR];rfl
  | succ n=>rw [<- hR];unfold kZ;rw [hw];rfl
 | some w=>
  have hlt:=(zQQ.1 hw).1;have hlen:=ha.inv.len;obtain⟨v,v1,v2,v3,v4⟩:=hvr.at hw;rw [if_pos (by rw [hvr.len];omega),aL v1,v2,v3];obtain⟨n,rfl⟩:∃ n',n=n'+1:=⟨n - 1,by omega⟩;by_cases hd:d<=(w.trace.length:Int)
  ·left;rw [if_pos hd];refine⟨_,rfl,?_⟩;rw [<- hR,rY ha.inv hw hd _ _ (zQW _)];rfl
  rw [if_neg hd];have hd':(w.trace.length:Int) < d:=by omega
  rw [xT hw hd'] at hR;obtain⟨g1,g2,g3,g4⟩:=ha.inv.fits w (zQM hw);refine sY (P:=λo=>PostI p l I d i w o (inW p (bP l) w I 0 W)) (lT (λm s=>∃ (k:Nat) (W':List Visit') (vs':List Ad),s=((k:Int),stF p l I d W' vs')/\VR vs' W'/\At26 p I d (bP l) W' i k/\W'[i]?=some w/\m+k=I.length/\inW p (bP l) w (I.drop k) k W'=inW p (bP l) w I 0 W) ?_ (n:=I.length) (by omega) ⟨0,W,vs,rfl,hvr,ha,hw,rfl,rfl⟩) ?_ ?_
  ·generalize inW p (bP l) w I 0 W=T;rintro m _ ⟨k,W',vs',rfl,hvr',ha',hw',hk,hT⟩;unfold stF;dsimp only;by_cases hkI:k < I.length
   ·have hx:=zQR hkI;have hgd:I.getD k []=I[k]:=by rw [zQD,hx];rfl
    obtain⟨s1,s2⟩:=lG (I.getD k []) g1 g2;have hm:MSm (bZ p w.m (I.getD k [])):=sD hs (k:=(w.trace.length:Int)+1) s1 (qBA _ g1 g2 g3) (by omega);have hlen':=ha'.inv.len;rw [if_pos (by omega),aL hx,eta,Scan26 hs (qBP hs g1),aA,<- hgd,qHU hm,aA,aB (rG hs h16 ha'.inv),wW hs h16 ha'.inv hm s1 s2];rw [yC hkI] at hT;unfold mY at hT;by_cases hn:gD W' (bZ p w.m (I.getD k []))=true
    ·rw [if_pos hn] at hT;rw [if_pos hn,aB (bJ hkI (by omega))];right;have:=qM ha' hw' hkI hd';unfold mY at this;rw [if_pos hn] at this;exact⟨_,rfl,m - 1,by omega,k+1,W',vs',by push_cast;rfl,hvr',this.1,hw',by omega,hT⟩
    rw [if_neg hn] at hT ⊢;have hvl:=hvr'.len;by_cases hf:500<=W'.length
    ·rw [if_pos hf] at hT;rw [if_pos (by omega),zI,aA];left;rw [<- hT];exact⟨_,rfl,_,rfl,rfl,rfl,rfl,rfl⟩
    rw [if_neg hf] at hT
    have hb1:(dP (eK W') (nO (bZ p w.m (I.getD k [])))).getD false=false:=by
     rw [wW hs h16 ha'.inv hm s1 s2];simpa using hn
    rw [if_neg (by omega),aB (by unfold I64;omega),qHX (I:=I) (d:=d) hm (rG hs h16 ha'.inv) hb1 (by omega) p (i:Int) (k:Int) ((w.trace.length:Int)+1) (w.trace++[(k:Int)]),aA];have hv2:=hvr'.app (k:=k) hw' (bZ p w.m (I.getD k []));have hgl:(W'++[(⟨bZ p w.m (I.getD k []),w.trace++[(k:Int)]⟩:Visit')])[W'.length]?=some ⟨bZ p w.m (I.getD k []),w.trace++[(k:Int)]⟩:=by simp
    dsimp only;rw [aB (by unfold I64;simp only [zQL,List.length_cons,List.length_nil];omega),uC h hv2 hgl (by simp only [zQL,List.length_cons,List.length_nil];omega) _ _ _ _ _ _ _ _ _ (by simp only [zQL,List.length_cons,List.length_nil];omega),aA];have hst:=qM ha' hw' hkI hd';unfold mY at hst;rw [if_neg hn,if_neg hf] at hst;dsimp only at hT hst ⊢;by_cases hb:bP l (bZ p w.m (I.getD k []))=true
    ·rw [if_pos hb] at hT;rw [if_pos hb];left;rw [<- hT];exact⟨_,rfl,_,rfl,_,_,rfl,rfl,rfl,rfl,rfl⟩
    rw [if_neg hb] at hT hst;rw [if_neg hb];dsimp only;rw [if_pos rfl,aB (bJ hkI (by omega))];right;exact⟨_,rfl,m - 1,by omega,k+1,_,_,by push_cast;rfl,hv2,hst.1,hst.2,by omega,hT⟩
   left;rw [if_neg (by omega)];rw [qBN (by omega)] at hT;have:k=I.length:=by omega
   subst this;rw [<- hT];exact⟨_,rfl,vs',rfl,hvr',ha',hw'⟩
  ·rintro a ha2;have hin:=qGO (i:=i) hd' I 0 W rfl (Nat.zero_le _) ha hw
   cases hT:inW p (bP l) w I 0 W with
   | cont W'=>
    rw [hT] at ha2 hR;obtain⟨vs',e,hv2,ha',hw'⟩:=ha2;cases e;right;unfold stF;dsimp only;rw [aB (bJ hlt (by omega))];exact⟨_,rfl,n,by omega,i+1,W',vs',by push_cast;rfl,hv2,oM ha' hw' (.inl rfl),by omega,hR⟩
   | fail=>rw [hT] at ha2;obtain⟨r,e,_⟩:=ha2;cases e
   | found W'=>rw [hT] at ha2;obtain⟨r,e,_⟩:=ha2;cases e
  rintro b hb2
  cases hT:inW p (bP l) w I 0 W with
  | cont W'=>rw [hT] at hb2;obtain⟨vs',e,_⟩:=hb2;cases e
  | fail=>
   rw [hT] at hb2 hR;obtain⟨r,e,h5⟩:=hb2;cases e;exact .inl ⟨_,rfl,by rw [<- hR];exact h5⟩
  | found W'=>
   rw [hT] at hb2 hR;obtain⟨r,e,h5⟩:=hb2;cases e;exact .inl ⟨_,rfl,by rw [<- hR];exact h5⟩
def rC (W:List Visit'):List Int:=(W.getLast?.map λw=>w.trace).getD []
def oQ (p:Go.Proofs.YtciilodpnepdbaaDoor.Program) (I:List (List Bool)) (d:Int) (viol:Machine->Bool):List Int×Bool×Int:=
 if bU p=0/\I.length<=16/\0<=d/\d<=16 then
  match bfs p I d viol with
  | .cont _=>([],false,0)
  | .fail=>([],false,16)
  | .found W=>(rC W,true,0)
 else ([],false,1)
theorem qKB (h:Ok26 p l I):cU p l I d=some (oQ p I d (bP l)):=by
 unfold cU oQ;rw [qAN h.slim,aA];by_cases hc:bU p=0/\I.length<=16/\0<=d/\d<=16
 ·rw [if_pos hc,if_pos hc];obtain⟨r,h1,h2⟩:=wM (d:=d) h hc.1 hc.2.1 hc.2.2.1 hc.2.2.2;dsimp only;rw [if_pos rfl,h1,aA];obtain⟨r0,r1,r2,r3,r4,r5,r6,r7,r8,r9,r10,r11⟩:=r
  cases hb:bfs p I d (bP l) with
  | cont W=>
   rw [hb] at h2;have h3:r0=true:=h2;subst h3;rfl
  | fail=>
   rw [hb] at h2;obtain⟨e1,e2,e3,e4⟩:=h2;dsimp only at e1 e2 e3 e4;subst e1 e2 e3 e4;rfl
  | found W=>
   rw [hb] at h2;obtain⟨W0,T,e0,e1,e2,e3,e4⟩:=h2;dsimp only at e1 e2 e3 e4;subst e0 e1 e2 e3 e4;dsimp only;rw [if_neg Bool.false_ne_true];unfold rC;rw [List.getLast?_concat];rfl
 rw [if_neg hc,if_neg hc];rfl
end
def qKQ (o:List Visit' ⊕ (List Visit'×Bool)):Res26->Prop
 | .cont W=>o=.inl W
 | .fail=>o=.inr ([],false)
 | .found W=>o=.inl W\/o=.inr (W,true)
def PostT (p:Go.Proofs.YtciilodpnepdbaaDoor.Program) (l:List Aa) (I:List (List Bool)) (d:Int) (i:Nat) (w:Visit') (o:List Visit' ⊕ ((Int×List Visit') ⊕ (List Visit' ⊕ (List Visit'×Bool)))):Res26->Prop
 | .cont W=>o=.inl W/\At26 p I d (bP l) W i I.length/\W[i]?=some w
 | .fail=>o=.inr (.inr (.inr ([],false)))
 | .found W=>o=.inr (.inr (.inr (W,true)))
section
variable {p:Go.Proofs.YtciilodpnepdbaaDoor.Program} {l:List Aa} {I:List (List Bool)} {d:Int}
theorem qJU {viol:Machine->Bool} {W:List Visit'} (hc:bU p=0) (hd:0<=d) (h:bfs p I d viol=.found W):W.length<=501:=by
 unfold bfs at h;by_cases hv:viol (bF p)=true
 ·rw [if_pos hv] at h;cases h;simp
 rw [if_neg hv] at h;have:=rZ 501 0 _ (by omega) (lD (I:=I) hc hd (by simpa using hv));rw [h] at this;obtain⟨W0,i,w,k,h1,h2,h3,h4,h5,h6⟩:=this;have:=h1.inv.len;rw [h5,zQL,List.length_cons,List.length_nil];omega
theorem qGK {W:List Visit'} (m:Machine) (hl:W.length<=500) (h:∀ w∈W,MOk w.m):eO W m=some (gD W m):=by
 unfold eO gD;rw [dS W (λe=>decide (e.m=m)) (.inr true) (.inl ()) (by omega) (λi e hx=>?_) (by rw [if_neg (by omega)];rfl)]
 ·cases W.any fun e => decide (e.m = m)
  ·rw [if_neg (by simp)];rfl
  rw [if_pos rfl];rfl
 have hi:=(zQQ.1 hx).1;rw [if_pos (by omega),aL hx,same20 (h e (zQM hx)),aA,aB (bJ hi (by omega))];rfl
theorem qCP (h:Ok26 p l I) (hc:bU p=0) (hI:I.length<=16) (h0:0<=d) (h16:d<=16):∃ r,eX p l I d=some r/\qKQ (if r.2=true then .inl r.1 else .inr r) (match bfs p I d (bP l) with|.cont W=>.cont W|.fail=>.fail|.found W=>.cont W):=by
 have hs:=h.slim;have hob:∀ e∈l,szE e.expr<=1000000000:=λe he=>(h.obs e he).2;unfold eX;rw [xR hs,aA]
 have key : ∃ o, bE (fun (i7, b8) =>
   aC (
    if i7 < (b8.length : Int) then
     aD (I64 ((b8.length : Int) - (1 : Int))) <|
     aW b8 ((b8.length : Int) - (1 : Int)) fun e14 =>
     aC (bX l e14.m) fun r15 =>
     some (!(r15))
    else
     some false) fun x10 =>
   if x10 = true then
    cD (
     bE (fun (k22, b23) =>
      aC (
       if k22 < (I.length : Int) then
        aW b23 i7 fun e28 =>
        some (decide ((e28.trace.length : Int) < d))
       else
        some false) fun x25 =>
      if x25 = true then
       aW b23 i7 fun e30 =>
       aW I k22 fun e31 =>
       aC (dL p e30.m e31) fun r32 =>
       aC (eO b23 r32) fun r33 =>
       if r33 = true then
        aD (I64 (k22 + (1 : Int))) <|
        some (.inl ((k22 + (1 : Int)), b23))
       else
        if (500 : Int) <= (b23.length : Int) then
         aH (
          aH (
           aH (
            aH (
             some (([] : List Visit'), false)))))
        else
         aW b23 i7 fun e41 =>
         aD ((([] : List Int) ++ e41.trace).length <= 1000000000) <|
         aD (((([] : List Int) ++ e41.trace) ++ ([k22] : List Int)).length <= 1000000000) <|
         aD ((b23 ++ ([(⟨r32, ((([] : List Int) ++ e41.trace) ++ ([k22] : List Int))⟩ : Visit')] : List Visit')).length <= 1000000000) <|
         aC (bX l r32) fun r45 =>
         if r45 = true then
          aH (
           aH (
            aH (
             aH (
              some ((b23 ++ ([(⟨r32, ((([] : List Int) ++ e41.trace) ++ ([k22] : List Int))⟩ : Visit')] : List Visit')), true)))))
         else
          aD (I64 (k22 + (1 : Int))) <|
          some (.inl ((k22 + (1 : Int)), (b23 ++ ([(⟨r32, ((([] : List Int) ++ e41.trace) ++ ([k22] : List Int))⟩ : Visit')] : List Visit'))))
      else
       aH (
        some (.inl b23))) ((0 : Int), b8)) fun b17 =>
    aD (I64 (i7 + (1 : Int))) <|
    some (.inl ((i7 + (1 : Int)), b17))
   else
    aH (
     some (.inl b8))) ((0 : Int), ([(⟨bF p, ([] : List Int)⟩ : Visit')] : List Visit')) = some o /\ qKQ o (bfs p I d (bP l)) := by
  unfold bfs;by_cases hv:bP l (bF p)=true
  ·rw [if_pos hv];refine⟨_,lU (n:=1) (r:=.inl [⟨bF p,[]⟩]) ?_ (by unfold aU;omega),.inl rfl⟩;simp only [fF];rw [if_pos (by simp),aB (by unfold I64;simp),show (([(⟨bF p,[]⟩:Visit')].length:Int) - 1)=((0:Nat):Int) by simp,aL (e:=⟨bF p,[]⟩) rfl,oW _ h.len hob,aA,aA];dsimp only;rw [hv];rfl
  rw [if_neg hv];have hat:=lD (I:=I) (viol:=bP l) hc h0 (by simpa using hv);refine lT (λn s=>∃ (i:Nat) (W:List Visit'),s=((i:Int),W)/\At26 p I d (bP l) W i 0/\n+i=501/\kZ p I d (bP l) n i W=kZ p I d (bP l) 501 0 [⟨bF p,[]⟩]) ?_ (n:=501) (by omega) ⟨0,_,rfl,hat,rfl,rfl⟩;generalize kZ p I d (bP l) 501 0 [⟨bF p,[]⟩]=R;rintro n _ ⟨i,W,rfl,ha,hn,hR⟩;dsimp only;have hlen:=ha.inv.len;have hWl:∃ n,W.length=n+1:=by obtain⟨W',e⟩:=ha.inv.head;exact⟨W'.length,by rw [e];rfl⟩
  obtain⟨q,hq⟩:=hWl
  cases hw:W[i]? with
  | none=>
   left;have hle:=List.getElem?_eq_none_iff.1 hw;rw [if_neg (by omega),aA,if_neg Bool.false_ne_true];refine⟨_,rfl,?_⟩
   cases n with
   | zero=>rw [<- hR];rfl
   | succ n=>rw [<- hR];unfold kZ;rw [hw];rfl
  | some w=>
   have hlt:=(zQQ.1 hw).1;have hlast:=zQR (l:=W) (show q < W.length by omega);have hnv:=ha.inv.nov _ (List.getElem_mem (show q < W.length by omega));obtain⟨n,rfl⟩:∃ n',n=n'+1:=⟨n - 1,by omega⟩;obtain⟨g1,g2,g3,g4⟩:=ha.inv.fits w (zQM hw);rw [if_pos (by omega),aB (by unfold I64;omega),show ((W.length:Int) - 1)=(q:Int) by omega,aL hlast,oW _ h.len hob,aA,hnv,aA,if_pos (by rfl)];by_cases hd:d<=(w.trace.length:Int)
   ·right;rw [rY ha.inv hw hd _ _ (zQW _)] at hR
    have hin : bE (fun (x : Int × List Visit') => match x with
     | (k22, b23) =>
      aC (
       if k22 < (I.length : Int) then
        aW b23 (i : Int) fun e28 =>
        some (decide ((e28.trace.length : Int) < d))
       else
        some false) fun x25 =>
      if x25 = true then
       aW b23 (i : Int) fun e30 =>
       aW I k22 fun e31 =>
       aC (dL p e30.m e31) fun r32 =>
       aC (eO b23 r32) fun r33 =>
       if r33 = true then
        aD (I64 (k22 + (1 : Int))) <|
        some (.inl ((k22 + (1 : Int)), b23))
       else
        if (500 : Int) <= (b23.length : Int) then
         aH (
          aH (
           aH (
            aH (
             some (([] : List Visit'), false)))))
        else
         aW b23 (i : Int) fun e41 =>
         aD ((([] : List Int) ++ e41.trace).length <= 1000000000) <|
         aD (((([] : List Int) ++ e41.trace) ++ ([k22] : List Int)).length <= 1000000000) <|
         aD ((b23 ++ ([(⟨r32, ((([] : List Int) ++ e41.trace) ++ ([k22] : List Int))⟩ : Visit')] : List Visit')).length <= 1000000000) <|
         aC (bX l r32) fun r45 =>
         if r45 = true then
          aH (
           aH (
            aH (
             aH (
              some ((b23 ++ ([(⟨r32, ((([] : List Int) ++ e41.trace) ++ ([k22] : List Int))⟩ : Visit')] : List Visit')), true)))))
         else
          aD (I64 (k22 + (1 : Int))) <|
          some (.inl ((k22 + (1 : Int)), (b23 ++ ([(⟨r32, ((([] : List Int) ++ e41.trace) ++ ([k22] : List Int))⟩ : Visit')] : List Visit'))))
      else
       aH (
        some (.inl b23))) ((0 : Int), W) = some (.inl W : List Visit' ⊕ ((Int × List Visit') ⊕ (List Visit' ⊕ (List Visit' × Bool)))) := by
     refine lU (n:=1) ?_ (by unfold aU;omega);simp only [fF];by_cases hz:0 < I.length
     ·rw [if_pos (by omega),aL hw,aA,if_neg (by rw [decide_eq_false (by omega)];exact Bool.false_ne_true)];rfl
     rw [if_neg (by omega),aA,if_neg Bool.false_ne_true];rfl
    rw [hin,bN,aB (bJ hlt (by omega))];refine⟨_,rfl,n,by omega,i+1,W,by push_cast;rfl,oM ha hw (.inr ⟨rfl,by omega⟩),by omega,?_⟩;rw [<- hR];exact rY ha.inv hw hd _ _ (by omega)
   have hd' : (w.trace.length : Int) < d := by omega
   rw [xT hw hd'] at hR;refine sY (P:=λo=>PostT p l I d i w o (inW p (bP l) w I 0 W)) (lT (λm s=>∃ (k:Nat) (W':List Visit'),s=((k:Int),W')/\At26 p I d (bP l) W' i k/\W'[i]?=some w/\m+k=I.length/\inW p (bP l) w (I.drop k) k W'=inW p (bP l) w I 0 W) ?_ (n:=I.length) (by omega) ⟨0,W,rfl,ha,hw,rfl,rfl⟩) ?_ ?_
   ·generalize inW p (bP l) w I 0 W=T;rintro m _ ⟨k,W',rfl,ha',hw',hk,hT⟩;dsimp only;by_cases hkI:k < I.length
    ·have hx:=zQR hkI;have hgd:I.getD k []=I[k]:=by rw [zQD,hx];rfl
     obtain⟨s1,s2⟩:=lG (I.getD k []) g1 g2;have hlen':=ha'.inv.len;rw [if_pos (by omega),aL hw',aA,decide_eq_true hd',if_pos rfl,aL hw',aL hx,qIP hs,aA,<- hgd,qGK _ hlen' (λx hx=>qBP hs (ha'.inv.fits x hx).1),aA];rw [yC hkI] at hT;unfold mY at hT;have hst:=qM ha' hw' hkI hd';unfold mY at hst;by_cases hn:gD W' (bZ p w.m (I.getD k []))=true
     ·rw [if_pos hn] at hT hst;rw [if_pos hn,aB (bJ hkI (by omega))];right;exact⟨_,rfl,m - 1,by omega,k+1,W',by push_cast;rfl,hst.1,hw',by omega,hT⟩
     rw [if_neg hn] at hT hst;rw [if_neg hn];by_cases hf:500<=W'.length
     ·rw [if_pos hf] at hT;rw [if_pos (by omega)];left;rw [<- hT];exact⟨_,rfl,rfl⟩
     rw [if_neg hf] at hT hst;rw [if_neg (by omega),aL hw',List.nil_append,aB (by omega),aB (by simp only [zQL,List.length_cons,List.length_nil];omega),aB (by simp only [zQL,List.length_cons,List.length_nil];omega),oW _ h.len hob,aA];by_cases hb:bP l (bZ p w.m (I.getD k []))=true
     ·rw [if_pos hb] at hT;rw [if_pos hb];left;rw [<- hT];exact⟨_,rfl,rfl⟩
     rw [if_neg hb] at hT hst;rw [if_neg hb,aB (bJ hkI (by omega))];right;exact⟨_,rfl,m - 1,by omega,k+1,_,by push_cast;rfl,hst.1,hst.2,by omega,hT⟩
    left;rw [if_neg (by omega),aA,if_neg Bool.false_ne_true];rw [qBN (by omega)] at hT;have:k=I.length:=by omega
    subst this;rw [<- hT];exact⟨_,rfl,rfl,ha',hw'⟩
   ·rintro a ha2
    cases hT:inW p (bP l) w I 0 W with
    | cont W'=>
     rw [hT] at ha2 hR;obtain⟨e,ha',hw'⟩:=ha2;cases e;right;rw [aB (bJ hlt (by omega))];exact⟨_,rfl,n,by omega,i+1,_,by push_cast;rfl,oM ha' hw' (.inl rfl),by omega,hR⟩
    | fail=>rw [hT] at ha2;cases ha2
    | found W'=>rw [hT] at ha2;cases ha2
   rintro b hb2
   cases hT:inW p (bP l) w I 0 W with
   | cont W'=>rw [hT] at hb2;cases hb2.1
   | fail=>
    rw [hT] at hb2 hR;cases hb2;exact .inl ⟨_,rfl,by rw [<- hR];rfl⟩
   | found W'=>
    rw [hT] at hb2 hR;cases hb2;exact .inl ⟨_,rfl,by rw [<- hR];exact .inr rfl⟩
 obtain⟨o,h1,h2⟩:=key;rw [h1]
 cases hb:bfs p I d (bP l) with
 | cont W=>
  rw [hb] at h2;have e:o=.inl W:=h2;subst e;exact⟨_,rfl,rfl⟩
 | fail=>
  rw [hb] at h2;have e:o=.inr ([],false):=h2;subst e;exact⟨_,rfl,rfl⟩
 | found W=>
  rw [hb] at h2;have e:o=.inl W\/o=.inr (W,true):=h2;rcases e with e|e
  ·subst e;exact⟨_,rfl,rfl⟩
  subst e;exact⟨_,rfl,rfl⟩
theorem qET (h:Ok26 p l I) (hc:bU p=0) (hI:I.length<=16) (h0:0<=d) (h16:d<=16):eX p l I d=some (match bfs p I d (bP l) with|.cont W=>(W,true)|.fail=>([],false)|.found W=>(W,true)):=by
 obtain⟨⟨r1,r2⟩,h1,h2⟩:=qCP h hc hI h0 h16;rw [h1]
 cases hb:bfs p I d (bP l) with
 | cont W=>
  rw [hb] at h2
  cases r2 with
  | true=>cases h2;rfl
  | false=>cases h2
 | fail=>
  rw [hb] at h2
  cases r2 with
  | true=>cases h2
  | false=>cases h2;rfl
 | found W=>
  rw [hb] at h2
  cases r2 with
  | true=>cases h2;rfl
  | false=>cases h2
theorem qFP (h:Ok26 p l I):iK p l I d=some (oQ p I d (bP l)):=by
 have hob:∀ e∈l,szE e.expr<=1000000000:=λe he=>(h.obs e he).2;unfold iK oQ;rw [xQ h.slim,aA];by_cases hc:bU p=0/\I.length<=16/\0<=d/\d<=16
 ·rw [decide_eq_true hc, if_neg (by simp), if_pos hc, qET h hc.1 hc.2.1 hc.2.2.1 hc.2.2.2, aA]
  cases hb:bfs p I d (bP l) with
  | cont W=>
   have hdn:=yU hc.1 hc.2.2.1 hb;have hlen:=hdn.inv.len;obtain⟨W',e⟩:=hdn.inv.head;obtain⟨q,hq⟩:∃ n,W.length=n+1:=⟨W'.length,by rw [e];rfl⟩;have hlast:=zQR (l:=W) (show q < W.length by omega);have hnv:=hdn.inv.nov _ (List.getElem_mem (show q < W.length by omega));dsimp only;rw [if_neg (by simp),aB (by unfold I64;omega),show ((W.length:Int) - 1)=(q:Int) by omega,aL hlast,oW _ h.len hob,aA,hnv];rfl
  | fail=>rfl
  | found W=>
   obtain⟨W0,T,e,hl⟩:=uU hc.1 hc.2.2.1 hb;have hlw:=qJU hc.1 hc.2.2.1 hb;dsimp only;subst e;have hlast:(W0++[T])[W0.length]?=some T:=by simp
   rw [if_neg (by simp),aB ?_,show (((W0++[T]).length:Int) - 1)=(W0.length:Int) by simp,aL hlast,oW _ h.len hob,aA,hl.bad]
   ·unfold rC;rw [List.getLast?_concat];rfl
   simp only [zQL,List.length_cons,List.length_nil] at hlw ⊢;unfold I64;omega
 rw [decide_eq_false hc,if_pos (by rfl),if_neg hc]
end
abbrev CSt:=Int×Int×List BA×Int×List Af×List (List Bool)×Int×List (BA×Bool)×List Ad
def stC (p:Go.Proofs.YtciilodpnepdbaaDoor.Program) (I:List (List Bool)) (d:Int) (W:List Visit') (vs:List Ad):CSt:=(0,0,p.names,p.inputs,p.Ab,I,d,eK W,vs)
section
variable {p:Go.Proofs.YtciilodpnepdbaaDoor.Program} {I:List (List Bool)} {d:Int}
end
section
variable {p:Go.Proofs.YtciilodpnepdbaaDoor.Program} {l:List Aa} {I:List (List Bool)} {d:Int} {viol:Machine->Bool}
inductive Ends26 (p:Go.Proofs.YtciilodpnepdbaaDoor.Program) (I:List (List Bool)) (d:Int) (viol:Machine->Bool):List Int×Bool×Int->Prop where
 | bad:Ends26 p I d viol ([],false,1)
 | full:Ends26 p I d viol ([],false,16)
 | none (W:List Visit') (h:Done26 p I d viol W) (h0:0<=d) (h16:d<=16):Ends26 p I d viol ([],false,0)
 | found (T:Visit') (h:Least26 p I d viol T) (h0:0<=d) (h16:d<=16):Ends26 p I d viol (T.trace,true,0)
theorem wR (W:List Visit') (T:Visit'):rC (W++[T])=T.trace:=by
 unfold rC;rw [List.getLast?_concat];rfl
theorem qDM:Ends26 p I d viol (oQ p I d viol):=by
 unfold oQ;by_cases hc:bU p=0/\I.length<=16/\0<=d/\d<=16
 ·rw [if_pos hc]
  cases hb:bfs p I d viol with
  | cont W=>exact .none W (yU hc.1 hc.2.2.1 hb) hc.2.2.1 hc.2.2.2
  | fail=>exact .full
  | found W=>
   obtain⟨W0,T,e,hl⟩:=uU hc.1 hc.2.2.1 hb;subst e;dsimp only;rw [wR];exact .found T hl hc.2.2.1 hc.2.2.2
 rw [if_neg hc];exact .bad
theorem qGV:(oQ p I d viol).1.length<=16:=by
 have h:=qDM (p:=p) (I:=I) (d:=d) (viol:=viol);generalize oQ p I d viol=r at h
 cases h with
 | bad=>simp
 | full=>simp
 | none=>simp
 | found T h h0 h16=>have:=h.len;show T.trace.length<=16;omega
end
theorem qIT {p0:Go.Proofs.YtciilodpnepdbaaDoor.Program} {p1:List Aa} {p2:List (List Bool)} (w0:Go.Proofs.YtciilodpnepdbaaDoor.Program.Wf p0) (w1:p1.length<=reachBytes/\∀ y∈p1,Aa.Wf y) (w2:p2.length<=reachBytes/\∀ y∈p2,y.length<=reachBytes/\∀ z∈y,True) {k1:Nat} {r:List D} (hb:D.bulks (p0.enc :: .sl k1 (p1.map Aa.enc) :: r)<=1048576):Ok26 p0 p1 p2:=by
 obtain⟨h1,h2⟩:=sW (b:=.bool true) hb;obtain⟨h3,h4⟩:=sW (b:=.bool true) h2;obtain⟨h5,h6⟩:=obs26 w1 h3;exact⟨qCO w0 h1,h5,h6,by have:=zY w2.1;unfold iQ;omega⟩
theorem yH {p0:Go.Proofs.YtciilodpnepdbaaDoor.Program} {p1:List Aa} {p2:List (List Bool)} {p3:Int} (w0:Go.Proofs.YtciilodpnepdbaaDoor.Program.Wf p0) (w1:p1.length<=reachBytes/\∀ y∈p1,Aa.Wf y) (w2:p2.length<=reachBytes/\∀ y∈p2,y.length<=reachBytes/\∀ z∈y,True) (w3:I64 p3) {k1:Nat} {r:List D} (hb:D.bulks (p0.enc :: .sl k1 (p1.map Aa.enc) :: r)<=1048576):dX p0 p1 p2 p3=some true:=by
 have h:=qIT w0 w1 w2 hb;obtain⟨b,hf⟩:=few26 h;unfold dX;rw [hf,aA,qJX]
 cases b with
 | false=>rfl
 | true=>
  rw [if_neg (by simp),qKB h,qFP h,aA];have hl:=qGV (p:=p0) (I:=p2) (d:=p3) (viol:=bP p1);generalize oQ p0 p2 p3 (bP p1)=r at hl;obtain⟨r1,r2,r3⟩:=r;dsimp only at hl ⊢;rw [aA];dsimp only;rw [same02 (by unfold iQ;omega),aA,decide_eq_true rfl,if_pos rfl,if_pos (by simp),if_pos rfl];rfl
end Go.Proofs.YtciilodpnepdbaaDoor
