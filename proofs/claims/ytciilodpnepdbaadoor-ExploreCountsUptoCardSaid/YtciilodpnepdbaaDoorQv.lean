/- Texts of this proof, joined, without what it does not use. No condition. -/
import Derived.Test.YtciilodpnepdbaaDoorQu

set_option linter.unusedVariables false
set_option linter.unusedSimpArgs false
set_option maxHeartbeats 400000
set_option maxRecDepth 100000
namespace Go.Proofs.YtciilodpnepdbaaDoor
open Go Go.TL
def dA (n:Nat) (t:List Int):Nat:=t.foldl (λc x=>c * n+(x.toNat+1)) 0
theorem gD (n:Nat) (t:List Int) (k:Int):dA n (t++[k])=dA n t * n+(k.toNat+1):=by simp [dA,List.foldl_append]
def digs (n:Nat) (t:List Int):Prop:=∀ x∈t,0<=x/\x < (n:Int)
theorem digs_snoc {n:Nat} {t:List Int} {k:Int}:digs n (t++[k])↔digs n t/\0<=k/\k < (n:Int):=by
 unfold digs;simp only [zQN,List.mem_singleton];constructor
 ·intro h;exact⟨λx hx=>h x (.inl hx),h k (.inr rfl)⟩
 rintro⟨h1,h2⟩ x (hx|rfl)
 ·exact h1 x hx
 exact h2
theorem zS {a b n:Nat} (h:a < b):a * n+n<=b * n:=by
 have:=Nat.mul_le_mul_right n (show a+1<=b from h);rw [Nat.add_mul,Nat.one_mul] at this;exact this
theorem wS {P:List Int->Prop} (h0:P []) (hs:∀ t k,P t->P (t++[k])):∀ t,P t:=by
 have key:∀ (n:Nat) (t:List Int),t.length=n->P t:=by
  intro n
  induction n with
  | zero=>intro t ht;rw [List.eq_nil_of_length_eq_zero ht];exact h0
  | succ n ih=>
   intro t ht;have hne:t≠[]:=by intro e;rw [e] at ht;cases ht
   rw [<- List.dropLast_concat_getLast hne];exact hs _ _ (ih _ (by rw [List.length_dropLast];omega))
 exact λt=>key _ t rfl
def loT (n:Nat):Nat->Nat
 | 0=>0
 | L+1=>loT n L * n+1
theorem qGD (n:Nat):∀ L,loT n L<=loT n (L+1)
 | 0=>Nat.zero_le _
 | L+1=>by
  show loT n L * n+1<=loT n (L+1) * n+1;have:=Nat.mul_le_mul_right n (qGD n L);omega
theorem qGC (n:Nat) {a b:Nat} (h:a<=b):loT n a<=loT n b:=by
 induction h with
 | refl=>exact zQW _
 | step _ ih=>exact Nat.le_trans ih (qGD n _)
theorem pZ (n:Nat):∀ t,digs n t->loT n t.length<=dA n t/\dA n t < loT n (t.length+1):=by
 refine wS ?_ ?_
 ·intro _;exact⟨zQW _,by show 0 < 0 * n+1;omega⟩
 intro t k ih h;obtain⟨h1,h2,h3⟩:=digs_snoc.1 h;obtain⟨ha,hb⟩:=ih h1;rw [gD,zQL];show loT n t.length * n+1<=_/\_ < loT n (t.length+1) * n+1;have h4:=Nat.mul_le_mul_right n ha;have h5:=zS (n:=n) hb;omega
theorem uR {n:Nat} {a b:List Int} (ha:digs n a) (hb:digs n b) (h:dA n a<=dA n b):a.length<=b.length:=by
 apply Classical.byContradiction;intro hc;have h1:=(pZ n a ha).1;have h2:=(pZ n b hb).2;have h3:=qGC n (show b.length+1<=a.length by omega);omega
inductive Res26 where
 | cont (W:List Visit')
 | fail
 | found (W:List Visit')
section defs
variable (p:Go.Proofs.YtciilodpnepdbaaDoor.Program) (I:List (List Bool)) (d:Int) (viol:Machine->Bool)
def gB (W:List Visit') (m:Machine):Bool:=W.any λv=>decide (v.m=m)
def kQ (W:List Visit') (w:Visit') (k:Nat) (a:List Bool):Res26:=
 if gB W (cD p w.m a)=true then .cont W
 else if 500<=W.length then .fail
 else if viol (cD p w.m a)=true then .found (W++[⟨cD p w.m a,w.trace++[(k:Int)]⟩])
 else .cont (W++[⟨cD p w.m a,w.trace++[(k:Int)]⟩])
def inW (w:Visit'):List (List Bool)->Nat->List Visit'->Res26
 | [],_,W=>.cont W
 | a :: r,k,W=>match kQ p viol W w k a with
  | .cont W'=>inW w r (k+1) W'
  | .fail=>.fail
  | .found W'=>.found W'
def iO:Nat->Nat->List Visit'->Res26
 | 0,_,W=>.cont W
 | fu+1,i,W=>match W[i]? with
  | none=>.cont W
  | some w=>if (w.trace.length:Int) < d then
    match inW p viol w I 0 W with
    | .cont W'=>iO fu (i+1) W'
    | .fail=>.fail
    | .found W'=>.found W'
   else iO fu (i+1) W
def bfs:Res26:=if viol (bK p)=true then .found [⟨bK p,[]⟩] else iO p I d viol 501 0 [⟨bK p,[]⟩]
structure Inv26 (W:List Visit'):Prop where
 head:∃ W',W=⟨bK p,[]⟩ :: W'
 fits:∀ w∈W,cP p w.m=true/\w.m.halted=false/\(∀ c∈w.m.counts,c<=(w.trace.length:Int))/\(w.trace.length:Int)<=d
 rep:∀ w∈W,w.m=rM p I w.trace/\digs I.length w.trace
 inc:∀ (a b:Nat) w v,a < b->W[a]?=some w->W[b]?=some v->dA I.length w.trace < dA I.length v.trace
 len:W.length<=500
 nd:∀ (a b:Nat) w v,a < b->W[a]?=some w->W[b]?=some v->w.m≠v.m
 nov:∀ w∈W,viol w.m=false
structure At26 (W:List Visit') (i k:Nat):Prop where
 inv:Inv26 p I d viol W
 bnd:∀ w,W[i]?=some w->∀ v∈W,dA I.length v.trace < dA I.length w.trace * I.length+(k+1)
 cov:∀ (j:Nat) w (k':Nat),W[j]?=some w->(j < i\/(j=i/\k' < k))->k' < I.length->(w.trace.length:Int) < d->∃ v∈W,v.m=cD p w.m (I.getD k' [])/\dA I.length v.trace<=dA I.length w.trace * I.length+(k'+1)
structure Done26 (W:List Visit'):Prop where
 inv:Inv26 p I d viol W
 cov:∀ (j:Nat) w (k':Nat),W[j]?=some w->k' < I.length->(w.trace.length:Int) < d->∃ v∈W,v.m=cD p w.m (I.getD k' [])/\dA I.length v.trace<=dA I.length w.trace * I.length+(k'+1)
def qHO (W:List Visit'):Prop:=∃ W0 i w k,At26 p I d viol W0 i k/\W0[i]?=some w/\k < I.length/\(w.trace.length:Int) < d/\W=W0++[⟨cD p w.m (I.getD k []),w.trace++[(k:Int)]⟩]/\viol (cD p w.m (I.getD k []))=true
end defs
section
variable {p:Go.Proofs.YtciilodpnepdbaaDoor.Program} {I:List (List Bool)} {d:Int} {viol:Machine->Bool}
theorem qS {α:Type} {W:List α} {x w:α} {j:Nat} (h:W[j]?=some w):(W++[x])[j]?=some w:=by
 have:=(zQQ.1 h).1;rw [List.getElem?_append_left this];exact h
theorem gG {α:Type} {W:List α} {x w:α} {j:Nat} (h:(W++[x])[j]?=some w):W[j]?=some w\/(j=W.length/\w=x):=by
 by_cases hj:j < W.length
 ·rw [List.getElem?_append_left hj] at h;exact .inl h
 rw [List.getElem?_append_right (by omega)] at h;by_cases hz:j - W.length=0
 ·rw [hz] at h;exact .inr ⟨by omega,(Option.some.inj h).symm⟩
 rw [List.getElem?_eq_none (by simp;omega)] at h;cases h
theorem known_iff {W:List Visit'} {m:Machine}:gB W m=true↔∃ v∈W,v.m=m:=by
 unfold gB;rw [zQU];exact⟨λ⟨v,h1,h2⟩=>⟨v,h1,of_decide_eq_true h2⟩,λ⟨v,h1,h2⟩=>⟨v,h1,decide_eq_true h2⟩⟩
theorem uF {w:Visit'} {k:Nat} (hk:k < I.length) (h:w.m=rM p I w.trace):rM p I (w.trace++[(k:Int)])=cD p w.m (I.getD k []):=by
 rw [uE,<- h];unfold qAU;rw [if_pos ⟨by omega,by omega⟩];rfl
theorem qIS {W:List Visit'} {i k:Nat} {w:Visit'} (h:At26 p I d viol W i k) (hw:W[i]?=some w) (hk:k < I.length) (hd:(w.trace.length:Int) < d) (hn:¬ gB W (cD p w.m (I.getD k []))=true) (hl:¬ 500<=W.length):
  (∃ W',W++[⟨cD p w.m (I.getD k []),w.trace++[(k:Int)]⟩]=⟨bK p,[]⟩ :: W')/\
  (∀ v∈W++[⟨cD p w.m (I.getD k []),w.trace++[(k:Int)]⟩],cP p v.m=true/\v.m.halted=false/\(∀ c∈v.m.counts,c<=(v.trace.length:Int))/\(v.trace.length:Int)<=d)/\
  (∀ v∈W++[⟨cD p w.m (I.getD k []),w.trace++[(k:Int)]⟩],v.m=rM p I v.trace/\digs I.length v.trace)/\
  (∀ (a b:Nat) x v,a < b->(W++[⟨cD p w.m (I.getD k []),w.trace++[(k:Int)]⟩])[a]?=some x->(W++[⟨cD p w.m (I.getD k []),w.trace++[(k:Int)]⟩])[b]?=some v->dA I.length x.trace < dA I.length v.trace)/\
  (∀ (a b:Nat) x v,a < b->(W++[⟨cD p w.m (I.getD k []),w.trace++[(k:Int)]⟩])[a]?=some x->(W++[⟨cD p w.m (I.getD k []),w.trace++[(k:Int)]⟩])[b]?=some v->x.m≠v.m):=by
 have hwm:=zQM hw;obtain⟨f1,f2,f3,f4⟩:=h.inv.fits w hwm;obtain⟨r1,r2⟩:=h.inv.rep w hwm;obtain⟨s1,s2⟩:=lJ (I.getD k []) f1 f2;refine⟨?_,?_,?_,?_,?_⟩
 ·obtain⟨W',e⟩:=h.inv.head;exact⟨W'++[⟨cD p w.m (I.getD k []),w.trace++[(k:Int)]⟩],by rw [e];rfl⟩
 ·intro v hv;rcases zQN.1 hv with hv|hv
  ·exact h.inv.fits v hv
  rw [List.mem_singleton] at hv;subst hv;refine⟨s1,s2,?_,?_⟩
  ·intro c hc;have:=qAX (I.getD k []) f1 f2 f3 c hc;simp only [zQL,List.length_cons,List.length_nil];omega
  simp only [zQL,List.length_cons,List.length_nil];omega
 ·intro v hv;rcases zQN.1 hv with hv|hv
  ·exact h.inv.rep v hv
  rw [List.mem_singleton] at hv;subst hv;exact⟨(uF hk r1).symm,digs_snoc.2 ⟨r2,by omega,by omega⟩⟩
 ·intro a b x v hab hx hv;rcases gG hv with hv|⟨hb,hv⟩
  ·rcases gG hx with hx|⟨ha,hx⟩
   ·exact h.inv.inc a b x v hab hx hv
   have:=(zQQ.1 hv).1;omega
  rcases gG hx with hx|⟨ha,hx⟩
  ·subst hv;rw [gD];have:=h.bnd w hw x (zQM hx);omega
  omega
 intro a b x v hab hx hv;rcases gG hv with hv|⟨hb,hv⟩
 ·rcases gG hx with hx|⟨ha,hx⟩
  ·exact h.inv.nd a b x v hab hx hv
  have:=(zQQ.1 hv).1;omega
 rcases gG hx with hx|⟨ha,hx⟩
 ·subst hv;intro he;exact hn (known_iff.2 ⟨x,zQM hx,he⟩)
 omega
def qKE (p:Go.Proofs.YtciilodpnepdbaaDoor.Program) (I:List (List Bool)) (d:Int) (viol:Machine->Bool) (i k:Nat) (w:Visit'):Res26->Prop
 | .cont W=>At26 p I d viol W i k/\W[i]?=some w
 | .fail=>True
 | .found W=>qHO p I d viol W
theorem qL {W:List Visit'} {i k:Nat} {w:Visit'} (h:At26 p I d viol W i k) (hw:W[i]?=some w) (hk:k < I.length) (hd:(w.trace.length:Int) < d):qKE p I d viol i (k+1) w (kQ p viol W w k (I.getD k [])):=by
 have hwm:=zQM hw;unfold kQ;by_cases hn:gB W (cD p w.m (I.getD k []))=true
 ·rw [if_pos hn];refine⟨⟨h.inv,?_,?_⟩,hw⟩
  ·intro w' hw' v hv;have:=h.bnd w' hw' v hv;omega
  intro j x k' hx hc hk' hx';by_cases he:j < i\/(j=i/\k' < k)
  ·exact h.cov j x k' hx he hk' hx'
  have hj : j = i /\ k' = k := by omega
  obtain⟨rfl,rfl⟩:=hj;have:x=w:=Option.some.inj (hx.symm.trans hw);subst this;obtain⟨v,hv,hvm⟩:=known_iff.1 hn;exact⟨v,hv,hvm,by have:=h.bnd x hw v hv;omega⟩
 rw [if_neg hn];by_cases hl:500<=W.length
 ·rw [if_pos hl];trivial
 rw [if_neg hl];by_cases hv:viol (cD p w.m (I.getD k []))=true
 ·rw [if_pos hv];exact⟨W,i,w,k,h,hw,hk,hd,rfl,hv⟩
 rw [if_neg hv];obtain⟨a1,a2,a3,a4,a5⟩:=qIS h hw hk hd hn hl;refine⟨⟨⟨a1,a2,a3,a4,by rw [zQL];simp;omega,a5,?_⟩,?_,?_⟩,qS hw⟩
 ·intro v hv';rcases zQN.1 hv' with hv'|hv'
  ·exact h.inv.nov v hv'
  rw [List.mem_singleton] at hv';subst hv';simpa using hv
 ·intro w' hw' v hv';have:w'=w:=Option.some.inj (hw'.symm.trans (qS hw));subst this;rcases zQN.1 hv' with hv'|hv'
  ·have:=h.bnd w' hw v hv';omega
  rw [List.mem_singleton] at hv';subst hv';rw [gD];omega
 intro j x k' hx hc hk' hx'
 have hxW:W[j]?=some x:=by
  rcases gG hx with hx|⟨hj,_⟩
  ·exact hx
  have:=(zQQ.1 hw).1;omega
 by_cases he:j < i\/(j=i/\k' < k)
 ·obtain⟨v,q1,q2,q3⟩:=h.cov j x k' hxW he hk' hx';exact⟨v,List.mem_append_left _ q1,q2,q3⟩
 have hj : j = i /\ k' = k := by omega
 obtain⟨rfl,rfl⟩:=hj;have:x=w:=Option.some.inj (hxW.symm.trans hw);subst this;exact⟨_,List.mem_append_right _ (List.mem_singleton.2 rfl),rfl,by rw [gD];omega⟩
theorem qBK {i:Nat} {w:Visit'} (hd:(w.trace.length:Int) < d):∀ (l:List (List Bool)) (k:Nat) (W:List Visit'),I.drop k=l->k<=I.length->At26 p I d viol W i k->W[i]?=some w->qKE p I d viol i I.length w (inW p viol w l k W)
 | [],k,W,hl,hk,h,hw=>by
  have:k=I.length:=by
   have:=congrArg List.length hl;rw [List.length_drop] at this;simp at this;omega
  subst this;exact⟨h,hw⟩
 | a :: r,k,W,hl,hk,h,hw=>by
  have hk':k < I.length:=by
   have:=congrArg List.length hl;rw [List.length_drop] at this;simp at this;omega
  have ha:I.getD k []=a:=by
   rw [zQD,<- List.head?_drop,hl];rfl
  have hr:I.drop (k+1)=r:=by rw [<- List.tail_drop,hl];rfl
  have:=qL h hw hk' hd;rw [ha] at this;unfold inW
  cases hs:kQ p viol W w k a with
  | cont W'=>
   rw [hs] at this;exact qBK hd r (k+1) W' hr hk' this.1 this.2
  | fail=>trivial
  | found W'=>
   rw [hs] at this;exact this
theorem mK {W:List Visit'} {i k:Nat} {w:Visit'} (h:At26 p I d viol W i k) (hw:W[i]?=some w) (hk:k=I.length\/(k=0/\¬ (w.trace.length:Int) < d)):At26 p I d viol W (i+1) 0:=by
 refine⟨h.inv,?_,?_⟩
 ·intro w' hw' v hv;have h1:=h.bnd w hw v hv;have h2:=zS (n:=I.length) (h.inv.inc i (i+1) w w' (by omega) hw hw');omega
 intro j x k' hx hc hk' hx';by_cases hj:j < i
 ·exact h.cov j x k' hx (.inl hj) hk' hx'
 have : j = i := by omega
 subst this;have:x=w:=Option.some.inj (hx.symm.trans hw);subst this;rcases hk with hk|⟨_,hk⟩
 ·exact h.cov j x k' hx (.inr ⟨rfl,by omega⟩) hk' hx'
 exact absurd hx' hk
def End26 (p:Go.Proofs.YtciilodpnepdbaaDoor.Program) (I:List (List Bool)) (d:Int) (viol:Machine->Bool):Res26->Prop
 | .cont W=>Done26 p I d viol W
 | .fail=>True
 | .found W=>qHO p I d viol W
theorem qBU {W:List Visit'} {i:Nat} (h:At26 p I d viol W i 0) (hi:W.length<=i):Done26 p I d viol W:=
 ⟨h.inv,λj w k' hx hk' hd=>h.cov j w k' hx (.inl (by have:=(zQQ.1 hx).1;omega)) hk' hd⟩
theorem vQ:∀ (fu i:Nat) (W:List Visit'),501<=fu+i->At26 p I d viol W i 0->End26 p I d viol (iO p I d viol fu i W)
 | 0,i,W,hf,h=>qBU h (by have:=h.inv.len;omega)
 | fu+1,i,W,hf,h=>by
  unfold iO
  cases hw:W[i]? with
  | none=>exact qBU h (List.getElem?_eq_none_iff.1 hw)
  | some w=>
   dsimp only;by_cases hd:(w.trace.length:Int) < d
   ·rw [if_pos hd];have:=qBK (i:=i) hd I 0 W rfl (Nat.zero_le _) h hw
    cases hs:inW p viol w I 0 W with
    | cont W'=>
     rw [hs] at this;exact vQ fu (i+1) W' (by omega) (mK this.1 this.2 (.inl rfl))
    | fail=>trivial
    | found W'=>rw [hs] at this;exact this
   rw [if_neg hd];exact vQ fu (i+1) W (by omega) (mK h hw (.inr ⟨rfl,hd⟩))
theorem lG (hc:bT p=0) (hd:0<=d) (hv:viol (bK p)=false):At26 p I d viol [⟨bK p,[]⟩] 0 0:=by
 obtain⟨f1,f2,f3⟩:=nY hc
 have one:∀ (a:Nat) w,([⟨bK p,[]⟩]:List Visit')[a]?=some w->a=0:=λa w h=>by
  have:=(zQQ.1 h).1;simp at this;exact this
 refine⟨⟨⟨[],rfl⟩,?_,?_,?_,by simp,?_,?_⟩,?_,?_⟩
 ·intro w hw;rw [List.mem_singleton] at hw;subst hw;exact⟨f1,f2,λc hc=>by rw [f3 c hc];simp,by simpa using hd⟩
 ·intro w hw;rw [List.mem_singleton] at hw;subst hw;exact⟨rfl,λx hx=>by cases hx⟩
 ·intro a b w v hab h1 h2;have:=one a w h1;have:=one b v h2;omega
 ·intro a b w v hab h1 h2;have:=one a w h1;have:=one b v h2;omega
 ·intro w hw;rw [List.mem_singleton] at hw;subst hw;exact hv
 ·intro w hw v hv;rw [List.mem_singleton] at hv;subst hv;show 0 < _;omega
 intro j w k' h1 h2;omega
theorem reach {W:List Visit'} (inv:Inv26 p I d viol W) (C:Nat->Nat->Prop) (cov:∀ (j:Nat) w (k':Nat),W[j]?=some w->C j k'->k' < I.length->(w.trace.length:Int) < d->∃ v∈W,v.m=cD p w.m (I.getD k' [])/\dA I.length v.trace<=dA I.length w.trace * I.length+(k'+1))
  (D:Nat->Prop) (hD:∀ a b,a<=b->D b->D a) (hC:∀ (j:Nat) w (k':Nat),W[j]?=some w->k' < I.length->D (dA I.length w.trace * I.length+(k'+1))->C j k'):∀ t,digs I.length t->(t.length:Int)<=d->D (dA I.length t)->∃ v∈W,v.m=rM p I t/\dA I.length v.trace<=dA I.length t:=by
 refine wS ?_ ?_
 ·intro _ _ _;obtain⟨W',e⟩:=inv.head;exact⟨⟨bK p,[]⟩,by rw [e];simp,rfl,zQW _⟩
 intro t k ih hg hl hc;obtain⟨g1,g2,g3⟩:=digs_snoc.1 hg;rw [zQL,List.length_cons,List.length_nil] at hl;rw [gD] at hc ⊢;have hn:0 < I.length:=by omega
 have hle:dA I.length t<=dA I.length t * I.length:=Nat.le_mul_of_pos_right _ hn;obtain⟨v,v1,v2,v3⟩:=ih g1 (by omega) (hD _ _ (by omega) hc);obtain⟨j,hj⟩:=List.getElem?_of_mem v1;have hmul:=Nat.mul_le_mul_right I.length v3;have hvl:=uR (inv.rep v v1).2 g1 v3;obtain⟨u,u1,u2,u3⟩:=cov j v k.toNat hj (hC j v k.toNat hj (by omega) (hD _ _ (by omega) hc)) (by omega) (by omega);refine⟨u,u1,?_,by omega⟩;rw [u2,uE,<- v2];unfold qAU;rw [if_pos ⟨g2,g3⟩]
theorem qHE {W:List Visit'} {i k:Nat} {w:Visit'} (h:At26 p I d viol W i k) (hw:W[i]?=some w) (hk:k < I.length) {t:List Int} (hg:digs I.length t) (hl:(t.length:Int)<=d) (hc:dA I.length t < dA I.length w.trace * I.length+(k+1)):viol (rM p I t)=false:=by
 obtain ⟨v, v1, v2, _⟩ := reach h.inv (fun j k' => j < i \/ (j = i /\ k' < k)) h.cov (fun c => c < dA I.length w.trace * I.length + (k + 1)) (fun a b hab hb => by omega) (fun j x k' hx hk' hlt => by
  rcases Nat.lt_trichotomy j i with hj | hj | hj
  ·exact .inl hj
  ·subst hj;have : x = w := Option.some.inj (hx.symm.trans hw);subst this;exact .inr ⟨rfl, by omega⟩
  have := zS (n := I.length) (h.inv.inc i j w x hj hw hx)
  omega) t hg hl hc
 rw [<- v2];exact h.inv.nov v v1
structure Least26 (p:Go.Proofs.YtciilodpnepdbaaDoor.Program) (I:List (List Bool)) (d:Int) (viol:Machine->Bool) (T:Visit'):Prop where
 rep:T.m=rM p I T.trace
 digs:digs I.length T.trace
 len:(T.trace.length:Int)<=d
 bad:viol T.m=true
 least:∀ t,Go.Proofs.YtciilodpnepdbaaDoor.digs I.length t->(t.length:Int)<=d->dA I.length t < dA I.length T.trace->viol (rM p I t)=false
theorem qDG {W:List Visit'} (h:qHO p I d viol W):∃ W0 T,W=W0++[T]/\Least26 p I d viol T:=by
 obtain⟨W0,i,w,k,h1,h2,h3,h4,h5,h6⟩:=h;have hwm:=zQM h2;obtain⟨r1,r2⟩:=h1.inv.rep w hwm;refine⟨W0,_,h5,(uF h3 r1).symm,digs_snoc.2 ⟨r2,by omega,by omega⟩,by simp only [zQL,List.length_cons,List.length_nil];omega,h6,?_⟩;intro t t1 t2 t3;rw [gD] at t3;exact qHE h1 h2 h3 t1 t2 (by omega)
theorem qDO {W:List Visit'} (hc:bT p=0) (hd:0<=d) (h:bfs p I d viol=.found W):∃ W0 T,W=W0++[T]/\Least26 p I d viol T:=by
 unfold bfs at h;by_cases hv:viol (bK p)=true
 ·rw [if_pos hv] at h;cases h;refine⟨[],⟨bK p,[]⟩,rfl,⟨rfl,λx hx=>(by cases hx),by simpa using hd,hv,λt _ _ ht=>?_⟩⟩;have h0:dA I.length ([]:List Int)=0:=rfl;rw [h0] at ht;omega
 rw [if_neg hv] at h;have:=vQ 501 0 _ (by omega) (lG (I:=I) hc hd (by simpa using hv));rw [h] at this;exact qDG this
theorem qHD {W:List Visit'} (hc:bT p=0) (hd:0<=d) (h:bfs p I d viol=.cont W):Done26 p I d viol W:=by
 unfold bfs at h;by_cases hv:viol (bK p)=true
 ·rw [if_pos hv] at h;cases h
 rw [if_neg hv] at h;have:=vQ 501 0 _ (by omega) (lG (I:=I) hc hd (by simpa using hv));rw [h] at this;exact this
end
theorem oQ {σ ρ:Type} {f:σ->Option (σ ⊕ ρ)} {P:ρ->Prop} (I:Nat->σ->Prop) (hs:∀ n s,I n s->(∃ o,f s=some (.inr o)/\P o)\/(∃ s',f s=some (.inl s')/\∃ n',n' < n/\I n' s')) {n:Nat} {s:σ} (hn:n<=1000000) (h:I n s):∃ o,bE f s=some o/\P o:=by
 suffices key:∀ n,∀ m,m<=n->∀ s,I m s->∃ o,fE f (n+1) s=some o/\P o by
  obtain⟨o,h1,h2⟩:=key n n (zQW _) s h;exact⟨o,lW h1 (by unfold aX;omega),h2⟩
 intro n
 induction n with
 | zero=>
  intro m hm s hI;rcases hs m s hI with ⟨o,h1,h2⟩|⟨s',h1,n',h2,h3⟩
  ·exact⟨o,by simp [fE,h1],h2⟩
  omega
 | succ n ih=>
  intro m hm s hI;rcases hs m s hI with ⟨o,h1,h2⟩|⟨s',h1,n',h2,h3⟩
  ·exact⟨o,by rw [fE,h1],h2⟩
  obtain ⟨o, h4, h5⟩ := ih n' (by omega) s' h3;exact⟨o,by rw [fE,h1];exact h4,h5⟩
structure VR (vs:List Ae) (W:List Visit'):Prop where
 len:vs.length=W.length
 ent:∀ (j:Nat) v w,vs[j]?=some v->W[j]?=some w->v.machine=w.m/\v.scan=(w.trace.length:Int)/\((v.before < 0/\w.trace=[])\/∃ (b:Nat) (w':Visit'),v.before=(b:Int)/\W[b]?=some w'/\w.trace=w'.trace++[v.input])
theorem VR.at {vs:List Ae} {W:List Visit'} (h:VR vs W) {j:Nat} {w:Visit'} (hw:W[j]?=some w):∃ v,vs[j]?=some v/\v.machine=w.m/\v.scan=(w.trace.length:Int)/\((v.before < 0/\w.trace=[])\/∃ (b:Nat) (w':Visit'),v.before=(b:Int)/\W[b]?=some w'/\w.trace=w'.trace++[v.input]):=by
 have hj:=(zQQ.1 hw).1;have hv:vs[j]?=some (vs[j]'(by rw [h.len];exact hj)):=zQR _;exact⟨_,hv,h.ent j _ w hv hw⟩
theorem VR.app {vs:List Ae} {W:List Visit'} (h:VR vs W) {i k:Nat} {w:Visit'} (hw:W[i]?=some w) (m:Machine):VR (vs++[⟨m,(i:Int),(k:Int),(w.trace.length:Int)+1⟩]) (W++[⟨m,w.trace++[(k:Int)]⟩]):=by
 refine⟨by simp [h.len],?_⟩;intro j v u hv hu;rcases gG hv with hv|⟨hj,rfl⟩
 ·rcases gG hu with hu|⟨hj,rfl⟩
  ·obtain⟨a,b,c⟩:=h.ent j v u hv hu;refine⟨a,b,?_⟩;rcases c with c|⟨b',w',c1,c2,c3⟩
   ·exact .inl c
   exact .inr ⟨b',w',c1,qS c2,c3⟩
  have:=(zQQ.1 hv).1;have:=h.len;omega
 rcases gG hu with hu|⟨hj',rfl⟩
 ·have:=(zQQ.1 hu).1;have:=h.len;omega
 exact⟨rfl,by simp,.inr ⟨i,w,rfl,qS hw,rfl⟩⟩
theorem VR.one (m:Machine):VR [⟨m,-1,0,0⟩] [⟨m,[]⟩]:=by
 refine⟨rfl,?_⟩;intro j v w hv hw;have hj:=(zQQ.1 hv).1;simp at hj;subst hj;cases hv;cases hw;exact⟨rfl,rfl,.inl ⟨by show (-1:Int) < 0;omega,rfl⟩⟩
def eL (W:List Visit'):List (BA×Bool):=W.map λw=>(nQ w.m,true)
theorem nU (s : BA) : ∀ W : List Visit', dO (eL W) s = if (W.any fun v => decide (nQ v.m = s)) = true then some true else none
 | []=>rfl
 | w :: r=>by
  have ih:=nU s r;unfold eL dO at *;rw [List.map_cons,List.find?_cons,List.any_cons];by_cases h:nQ w.m=s
  ·simp [h]
  simp only [h,decide_false,Bool.false_or];exact ih
section
variable {p:Go.Proofs.YtciilodpnepdbaaDoor.Program} {I:List (List Bool)} {d:Int} {viol:Machine->Bool}
theorem rZ (hs:Slim p) {m:Machine} {k:Int} (hf:cP p m=true) (hc:∀ c∈m.counts,c<=k) (hk:k<=16):MSm m:=by
 obtain⟨hz,hvl,hcl,hcnt⟩:=gQ hf;have:=cG hz;have:=hs.Aa;exact⟨by omega,by omega,λc hm=>⟨zZ hf c hm,by have:=hc c hm;omega⟩⟩
theorem qBJ (hs:Slim p) (hd:d<=16) {W:List Visit'} (h:Inv26 p I d viol W) {w:Visit'} (hw:w∈W):MSm w.m:=by
 obtain⟨f1,f2,f3,f4⟩:=h.fits w hw;exact rZ hs f1 f3 (by omega)
theorem qDI {m m':Machine} (h:cP p m=true) (h':cP p m'=true):m.vars.length=m'.vars.length:=by
 have h1:=gQ h;have h2:=gQ h';omega
theorem sE (hs:Slim p) (hd:d<=16) {W:List Visit'} (h:Inv26 p I d viol W) {w:Visit'} (hw:w∈W) {m:Machine} (hm:MSm m) (hf:cP p m=true) (hh:m.halted=false):nQ w.m=nQ m↔w.m=m:=by
 obtain⟨f1,f2,f3,f4⟩:=h.fits w hw;exact⟨λhe=>qIR (qBJ hs hd h hw) hm (by rw [f2,hh]) (qDI f1 hf) he,λhe=>by rw [he]⟩
theorem wU (hs:Slim p) (hd:d<=16) {W:List Visit'} (h:Inv26 p I d viol W) {m:Machine} (hm:MSm m) (hf:cP p m=true) (hh:m.halted=false):(dO (eL W) (nQ m)).getD false=gB W m:=by
 rw [nU]
 have:(W.any λv=>decide (nQ v.m=nQ m))=gB W m:=by
  unfold gB;rw [Bool.eq_iff_iff,zQU,zQU];constructor
  ·rintro⟨v,h1,h2⟩;exact⟨v,h1,decide_eq_true ((sE hs hd h h1 hm hf hh).1 (of_decide_eq_true h2))⟩
  rintro⟨v,h1,h2⟩;exact⟨v,h1,decide_eq_true ((sE hs hd h h1 hm hf hh).2 (of_decide_eq_true h2))⟩
 rw [this];cases gB W m<;>rfl
theorem rE (hs:Slim p) (hd:d<=16) {W:List Visit'} (h:Inv26 p I d viol W):((eL W).map (·.1)).Nodup:=by
 rw [pG];intro a b hab hb he;unfold eL at hb he;simp only [zQC] at hb;simp only [zQP] at he;have h1:=zQR (l:=W) (show a < W.length by omega);have h2:=zQR hb;rw [h1,h2] at he;simp only [Option.map_some,Option.some.injEq] at he;obtain⟨f1,f2,f3,f4⟩:=h.fits _ (List.getElem_mem hb);exact h.nd a b _ _ hab h1 h2 ((sE hs hd h (List.getElem_mem _) (qBJ hs hd h (List.getElem_mem hb)) f1 f2).1 he)
theorem qHP {W:List Visit'} {vs:List Ae} {m:Machine} (hm:MSm m) (hn:((eL W).map (·.1)).Nodup) (hk:(dO (eL W) (nQ m)).getD false=false) (hl:vs.length<=1000) (q:Go.Proofs.YtciilodpnepdbaaDoor.Program) (b k s:Int) (t:List Int):bI ⟨q,I,d,vs,eL W⟩ m b k s=some ⟨q,I,d,vs++[⟨m,b,k,s⟩],eL (W++[⟨m,t⟩])⟩:=by
 unfold bI;rw [qHN hm,aA];dsimp only;rw [aB hn,aB (by simp;omega)]
 have:dO (eL W) (nQ m)=none:=by
  rw [nU] at hk ⊢;split
  ·rename_i h;rw [if_pos h] at hk;cases hk
  rfl
 rw [qFM this];simp [eL]
theorem qAJ (hs:Slim p) (I:List (List Bool)) (d:Int):cW p I d=some (if bT p=0/\I.length<=16/\0<=d/\d<=16 then (some ⟨p,I,d,[],[]⟩,0) else (none,1)):=by
 unfold cW;rw [pE hs.ok,aA];by_cases h1:bT p=0
 ·rw [if_pos h1];by_cases h2:I.length<=16
  ·rw [if_neg (by omega)];by_cases h3:d < 0
   ·rw [if_pos h3,aA,if_pos rfl,if_neg (by omega)]
   rw [if_neg h3,aA];by_cases h4:16 < d
   ·rw [decide_eq_true h4,if_pos rfl,if_neg (by omega)]
   rw [decide_eq_false h4,if_neg (by simp),if_pos ⟨h1,h2,by omega,by omega⟩]
  rw [if_pos (by omega),aA,if_pos rfl,if_neg (by omega)]
 rw [if_neg h1,aA,if_pos rfl,if_neg (λh=>h1 h.1)]
theorem xN (hs:Slim p) (I:List (List Bool)) (d:Int):gL p I d=some (!decide (bT p=0/\I.length<=16/\0<=d/\d<=16)):=by
 unfold gL;rw [pD hs,aA];by_cases h1:bT p=0
 ·rw [if_pos h1];by_cases h2:I.length<=16
  ·rw [if_neg (by omega)];by_cases h3:d < 0
   ·rw [if_pos h3,aA,decide_eq_false (by omega)];rfl
   rw [if_neg h3,aA];by_cases h4:16 < d
   ·rw [decide_eq_true h4,decide_eq_false (by omega)];rfl
   rw [decide_eq_false h4,decide_eq_true ⟨h1,h2,by omega,by omega⟩];rfl
  rw [if_pos (by omega),aA,decide_eq_false (by omega)];rfl
 rw [if_neg h1,aA,decide_eq_false (λh=>h1 h.1)];rfl
end
end Go.Proofs.YtciilodpnepdbaaDoor
set_option linter.unusedVariables false
set_option linter.unusedSimpArgs false
set_option maxHeartbeats 1000000
set_option maxRecDepth 100000
namespace Go.Proofs.YtciilodpnepdbaaDoor
open Go Go.TL
theorem sT {α σ ρ:Type} {m:Option (α ⊕ (σ ⊕ ρ))} {k:α->Option (σ ⊕ ρ)} {A:ρ->Prop} {B:σ->Prop} {P:α ⊕ (σ ⊕ ρ)->Prop} (h:∃ o,m=some o/\P o) (hl:∀ a,P (.inl a)->(∃ o,k a=some (.inr o)/\A o)\/(∃ s',k a=some (.inl s')/\B s')) (hr:∀ b,P (.inr b)->(∃ o,b=.inr o/\A o)\/(∃ s',b=.inl s'/\B s')):(∃ o,cA m k=some (.inr o)/\A o)\/(∃ s',cA m k=some (.inl s')/\B s'):=by
 obtain⟨o,rfl,ho⟩:=h
 cases o with
 | inl a=>exact hl a ho
 | inr b=>
  rcases hr b ho with ⟨o,rfl,h2⟩|⟨s',rfl,h2⟩
  ·exact .inl ⟨_,rfl,h2⟩
  exact .inr ⟨_,rfl,h2⟩
theorem xZ {p:Go.Proofs.YtciilodpnepdbaaDoor.Program} {I:List (List Bool)} {viol:Machine->Bool} {w:Visit'} {W:List Visit'} {k:Nat} (hk:k < I.length):inW p viol w (I.drop k) k W=match kQ p viol W w k (I.getD k []) with
  | .cont W'=>inW p viol w (I.drop (k+1)) (k+1) W'
  | .fail=>.fail
  | .found W'=>.found W':=by
 rw [List.drop_eq_getElem_cons hk,inW,zQD,zQR hk];rfl
theorem qBL {p:Go.Proofs.YtciilodpnepdbaaDoor.Program} {I:List (List Bool)} {viol:Machine->Bool} {w:Visit'} {W:List Visit'} {k:Nat} (hk:I.length<=k):inW p viol w (I.drop k) k W=.cont W:=by
 rw [List.drop_eq_nil_of_le hk];rfl
theorem oN {p:Go.Proofs.YtciilodpnepdbaaDoor.Program} {I:List (List Bool)} {d:Int} {viol:Machine->Bool} {W:List Visit'} {i:Nat} {w:Visit'} (h:Inv26 p I d viol W) (hw:W[i]?=some w) {d':Int} (hd:d'<=(w.trace.length:Int)):∀ (n j:Nat),i<=j->iO p I d' viol n j W=.cont W:=by
 intro n
 induction n with
 | zero=>intro j _;rfl
 | succ n ih=>
  intro j hj;unfold iO
  cases hx:W[j]? with
  | none=>rfl
  | some x=>
   have hc2:(w.trace.length:Nat)<=x.trace.length:=by
    rcases Nat.eq_or_lt_of_le hj with e|e
    ·subst e;rw [hw] at hx;cases hx;exact zQW _
    exact uR (h.rep w (zQM hw)).2 (h.rep x (zQM hx)).2 (Nat.le_of_lt (h.inc i j w x e hw hx))
   dsimp only;rw [if_neg (by omega)];exact ih (j+1) (by omega)
theorem oM {p:Go.Proofs.YtciilodpnepdbaaDoor.Program} {I:List (List Bool)} {d:Int} {viol:Machine->Bool} {W:List Visit'} {n i:Nat} {w:Visit'} (hw:W[i]?=some w) (hd:(w.trace.length:Int) < d):iO p I d viol (n+1) i W=match inW p viol w I 0 W with
  | .cont W'=>iO p I d viol n (i+1) W'
  | .fail=>.fail
  | .found W'=>.found W':=by
 rw [iO,hw];dsimp only;refine (if_pos hd).trans ?_;cases inW p viol w I 0 W<;>rfl
section
variable {p:Go.Proofs.YtciilodpnepdbaaDoor.Program} {l:List Ab} {I:List (List Bool)} {d:Int}
end
def qKC (o:List Visit' ⊕ (List Visit'×Bool)):Res26->Prop
 | .cont W=>o=.inl W
 | .fail=>o=.inr ([],false)
 | .found W=>o=.inl W\/o=.inr (W,true)
def PostT (p:Go.Proofs.YtciilodpnepdbaaDoor.Program) (l:List Ab) (I:List (List Bool)) (d:Int) (i:Nat) (w:Visit') (o:List Visit' ⊕ ((Int×List Visit') ⊕ (List Visit' ⊕ (List Visit'×Bool)))):Res26->Prop
 | .cont W=>o=.inl W/\At26 p I d (bW l) W i I.length/\W[i]?=some w
 | .fail=>o=.inr (.inr (.inr ([],false)))
 | .found W=>o=.inr (.inr (.inr (W,true)))
section
variable {p:Go.Proofs.YtciilodpnepdbaaDoor.Program} {l:List Ab} {I:List (List Bool)} {d:Int}
theorem qGH {W:List Visit'} (m:Machine) (hl:W.length<=500) (h:∀ w∈W,MOk w.m):eM W m=some (gB W m):=by
 unfold eM gB;rw [dS W (λe=>decide (e.m=m)) (.inr true) (.inl ()) (by omega) (λi e hx=>?_) (by rw [if_neg (by omega)];rfl)]
 ·cases W.any fun e => decide (e.m = m)
  ·rw [if_neg (by simp)];rfl
  rw [if_pos rfl];rfl
 have hi:=(zQQ.1 hx).1;rw [if_pos (by omega),aN hx,same20 (h e (zQM hx)),aA,aB (bN hi (by omega))];rfl
theorem qCL (h:Ok26 p l I) (hc:bT p=0) (hI:I.length<=16) (h0:0<=d) (h16:d<=16):∃ r,eW p l I d=some r/\qKC (if r.2=true then .inl r.1 else .inr r) (match bfs p I d (bW l) with|.cont W=>.cont W|.fail=>.fail|.found W=>.cont W):=by
 have hs:=h.slim;have hob:∀ e∈l,szE e.expr<=1000000000:=λe he=>(h.obs e he).2;unfold eW;rw [xO hs,aA]
 have key : ∃ o, bE (fun (i7, b8) =>
   aC (
    if i7 < (b8.length : Int) then
     aD (I64 ((b8.length : Int) - (1 : Int))) <|
     aY b8 ((b8.length : Int) - (1 : Int)) fun e14 =>
     aC (cE l e14.m) fun r15 =>
     some (!(r15))
    else
     some false) fun x10 =>
   if x10 = true then
    cA (
     bE (fun (k22, b23) =>
      aC (
       if k22 < (I.length : Int) then
        aY b23 i7 fun e28 =>
        some (decide ((e28.trace.length : Int) < d))
       else
        some false) fun x25 =>
      if x25 = true then
       aY b23 i7 fun e30 =>
       aY I k22 fun e31 =>
       aC (dK p e30.m e31) fun r32 =>
       aC (eM b23 r32) fun r33 =>
       if r33 = true then
        aD (I64 (k22 + (1 : Int))) <|
        some (.inl ((k22 + (1 : Int)), b23))
       else
        if (500 : Int) <= (b23.length : Int) then
         aH (
          aH (
           aH (
            aH (
             some (([] : List Visit'), false)))))
        else
         aY b23 i7 fun e41 =>
         aD ((([] : List Int) ++ e41.trace).length <= 1000000000) <|
         aD (((([] : List Int) ++ e41.trace) ++ ([k22] : List Int)).length <= 1000000000) <|
         aD ((b23 ++ ([(⟨r32, ((([] : List Int) ++ e41.trace) ++ ([k22] : List Int))⟩ : Visit')] : List Visit')).length <= 1000000000) <|
         aC (cE l r32) fun r45 =>
         if r45 = true then
          aH (
           aH (
            aH (
             aH (
              some ((b23 ++ ([(⟨r32, ((([] : List Int) ++ e41.trace) ++ ([k22] : List Int))⟩ : Visit')] : List Visit')), true)))))
         else
          aD (I64 (k22 + (1 : Int))) <|
          some (.inl ((k22 + (1 : Int)), (b23 ++ ([(⟨r32, ((([] : List Int) ++ e41.trace) ++ ([k22] : List Int))⟩ : Visit')] : List Visit'))))
      else
       aH (
        some (.inl b23))) ((0 : Int), b8)) fun b17 =>
    aD (I64 (i7 + (1 : Int))) <|
    some (.inl ((i7 + (1 : Int)), b17))
   else
    aH (
     some (.inl b8))) ((0 : Int), ([(⟨bK p, ([] : List Int)⟩ : Visit')] : List Visit')) = some o /\ qKC o (bfs p I d (bW l)) := by
  unfold bfs;by_cases hv:bW l (bK p)=true
  ·rw [if_pos hv];refine⟨_,lW (n:=1) (r:=.inl [⟨bK p,[]⟩]) ?_ (by unfold aX;omega),.inl rfl⟩;simp only [fE];rw [if_pos (by simp),aB (by unfold I64;simp),show (([(⟨bK p,[]⟩:Visit')].length:Int) - 1)=((0:Nat):Int) by simp,aN (e:=⟨bK p,[]⟩) rfl,wL _ h.len hob,aA,aA];dsimp only;rw [hv];rfl
  rw [if_neg hv];have hat:=lG (I:=I) (viol:=bW l) hc h0 (by simpa using hv);refine oQ (λn s=>∃ (i:Nat) (W:List Visit'),s=((i:Int),W)/\At26 p I d (bW l) W i 0/\n+i=501/\iO p I d (bW l) n i W=iO p I d (bW l) 501 0 [⟨bK p,[]⟩]) ?_ (n:=501) (by omega) ⟨0,_,rfl,hat,rfl,rfl⟩;generalize iO p I d (bW l) 501 0 [⟨bK p,[]⟩]=R;rintro n _ ⟨i,W,rfl,ha,hn,hR⟩;dsimp only;have hlen:=ha.inv.len;have hWl:∃ n,W.length=n+1:=by obtain⟨W',e⟩:=ha.inv.head;exact⟨W'.length,by rw [e];rfl⟩
  obtain⟨q,hq⟩:=hWl
  cases hw:W[i]? with
  | none=>
   left;have hle:=List.getElem?_eq_none_iff.1 hw;rw [if_neg (by omega),aA,if_neg Bool.false_ne_true];refine⟨_,rfl,?_⟩
   cases n with
   | zero=>rw [<- hR];rfl
   | succ n=>rw [<- hR];unfold iO;rw [hw];rfl
  | some w=>
   have hlt:=(zQQ.1 hw).1;have hlast:=zQR (l:=W) (show q < W.length by omega);have hnv:=ha.inv.nov _ (List.getElem_mem (show q < W.length by omega));obtain⟨n,rfl⟩:∃ n',n=n'+1:=⟨n - 1,by omega⟩;obtain⟨g1,g2,g3,g4⟩:=ha.inv.fits w (zQM hw);rw [if_pos (by omega),aB (by unfold I64;omega),show ((W.length:Int) - 1)=(q:Int) by omega,aN hlast,wL _ h.len hob,aA,hnv,aA,if_pos (by rfl)];by_cases hd:d<=(w.trace.length:Int)
   ·right;rw [oN ha.inv hw hd _ _ (zQW _)] at hR
    have hin : bE (fun (x : Int × List Visit') => match x with
     | (k22, b23) =>
      aC (
       if k22 < (I.length : Int) then
        aY b23 (i : Int) fun e28 =>
        some (decide ((e28.trace.length : Int) < d))
       else
        some false) fun x25 =>
      if x25 = true then
       aY b23 (i : Int) fun e30 =>
       aY I k22 fun e31 =>
       aC (dK p e30.m e31) fun r32 =>
       aC (eM b23 r32) fun r33 =>
       if r33 = true then
        aD (I64 (k22 + (1 : Int))) <|
        some (.inl ((k22 + (1 : Int)), b23))
       else
        if (500 : Int) <= (b23.length : Int) then
         aH (
          aH (
           aH (
            aH (
             some (([] : List Visit'), false)))))
        else
         aY b23 (i : Int) fun e41 =>
         aD ((([] : List Int) ++ e41.trace).length <= 1000000000) <|
         aD (((([] : List Int) ++ e41.trace) ++ ([k22] : List Int)).length <= 1000000000) <|
         aD ((b23 ++ ([(⟨r32, ((([] : List Int) ++ e41.trace) ++ ([k22] : List Int))⟩ : Visit')] : List Visit')).length <= 1000000000) <|
         aC (cE l r32) fun r45 =>
         if r45 = true then
          aH (
           aH (
            aH (
             aH (
              some ((b23 ++ ([(⟨r32, ((([] : List Int) ++ e41.trace) ++ ([k22] : List Int))⟩ : Visit')] : List Visit')), true)))))
         else
          aD (I64 (k22 + (1 : Int))) <|
          some (.inl ((k22 + (1 : Int)), (b23 ++ ([(⟨r32, ((([] : List Int) ++ e41.trace) ++ ([k22] : List Int))⟩ : Visit')] : List Visit'))))
      else
       aH (
        some (.inl b23))) ((0 : Int), W) = some (.inl W : List Visit' ⊕ ((Int × List Visit') ⊕ (List Visit' ⊕ (List Visit' × Bool)))) := by
     refine lW (n:=1) ?_ (by unfold aX;omega);simp only [fE];by_cases hz:0 < I.length
     ·rw [if_pos (by omega),aN hw,aA,if_neg (by rw [decide_eq_false (by omega)];exact Bool.false_ne_true)];rfl
     rw [if_neg (by omega),aA,if_neg Bool.false_ne_true];rfl
    rw [hin,bM,aB (bN hlt (by omega))];refine⟨_,rfl,n,by omega,i+1,W,by push_cast;rfl,mK ha hw (.inr ⟨rfl,by omega⟩),by omega,?_⟩;rw [<- hR];exact oN ha.inv hw hd _ _ (by omega)
   have hd' : (w.trace.length : Int) < d := by omega
   rw [oM hw hd'] at hR;refine sT (P:=λo=>PostT p l I d i w o (inW p (bW l) w I 0 W)) (oQ (λm s=>∃ (k:Nat) (W':List Visit'),s=((k:Int),W')/\At26 p I d (bW l) W' i k/\W'[i]?=some w/\m+k=I.length/\inW p (bW l) w (I.drop k) k W'=inW p (bW l) w I 0 W) ?_ (n:=I.length) (by omega) ⟨0,W,rfl,ha,hw,rfl,rfl⟩) ?_ ?_
   ·generalize inW p (bW l) w I 0 W=T;rintro m _ ⟨k,W',rfl,ha',hw',hk,hT⟩;dsimp only;by_cases hkI:k < I.length
    ·have hx:=zQR hkI;have hgd:I.getD k []=I[k]:=by rw [zQD,hx];rfl
     obtain⟨s1,s2⟩:=lJ (I.getD k []) g1 g2;have hlen':=ha'.inv.len;rw [if_pos (by omega),aN hw',aA,decide_eq_true hd',if_pos rfl,aN hw',aN hx,qIH hs,aA,<- hgd,qGH _ hlen' (λx hx=>qBN hs (ha'.inv.fits x hx).1),aA];rw [xZ hkI] at hT;unfold kQ at hT;have hst:=qL ha' hw' hkI hd';unfold kQ at hst;by_cases hn:gB W' (cD p w.m (I.getD k []))=true
     ·rw [if_pos hn] at hT hst;rw [if_pos hn,aB (bN hkI (by omega))];right;exact⟨_,rfl,m - 1,by omega,k+1,W',by push_cast;rfl,hst.1,hw',by omega,hT⟩
     rw [if_neg hn] at hT hst;rw [if_neg hn];by_cases hf:500<=W'.length
     ·rw [if_pos hf] at hT;rw [if_pos (by omega)];left;rw [<- hT];exact⟨_,rfl,rfl⟩
     rw [if_neg hf] at hT hst;rw [if_neg (by omega),aN hw',List.nil_append,aB (by omega),aB (by simp only [zQL,List.length_cons,List.length_nil];omega),aB (by simp only [zQL,List.length_cons,List.length_nil];omega),wL _ h.len hob,aA];by_cases hb:bW l (cD p w.m (I.getD k []))=true
     ·rw [if_pos hb] at hT;rw [if_pos hb];left;rw [<- hT];exact⟨_,rfl,rfl⟩
     rw [if_neg hb] at hT hst;rw [if_neg hb,aB (bN hkI (by omega))];right;exact⟨_,rfl,m - 1,by omega,k+1,_,by push_cast;rfl,hst.1,hst.2,by omega,hT⟩
    left;rw [if_neg (by omega),aA,if_neg Bool.false_ne_true];rw [qBL (by omega)] at hT;have:k=I.length:=by omega
    subst this;rw [<- hT];exact⟨_,rfl,rfl,ha',hw'⟩
   ·rintro a ha2
    cases hT:inW p (bW l) w I 0 W with
    | cont W'=>
     rw [hT] at ha2 hR;obtain⟨e,ha',hw'⟩:=ha2;cases e;right;rw [aB (bN hlt (by omega))];exact⟨_,rfl,n,by omega,i+1,_,by push_cast;rfl,mK ha' hw' (.inl rfl),by omega,hR⟩
    | fail=>rw [hT] at ha2;cases ha2
    | found W'=>rw [hT] at ha2;cases ha2
   rintro b hb2
   cases hT:inW p (bW l) w I 0 W with
   | cont W'=>rw [hT] at hb2;cases hb2.1
   | fail=>
    rw [hT] at hb2 hR;cases hb2;exact .inl ⟨_,rfl,by rw [<- hR];rfl⟩
   | found W'=>
    rw [hT] at hb2 hR;cases hb2;exact .inl ⟨_,rfl,by rw [<- hR];exact .inr rfl⟩
 obtain⟨o,h1,h2⟩:=key;rw [h1]
 cases hb:bfs p I d (bW l) with
 | cont W=>
  rw [hb] at h2;have e:o=.inl W:=h2;subst e;exact⟨_,rfl,rfl⟩
 | fail=>
  rw [hb] at h2;have e:o=.inr ([],false):=h2;subst e;exact⟨_,rfl,rfl⟩
 | found W=>
  rw [hb] at h2;have e:o=.inl W\/o=.inr (W,true):=h2;rcases e with e|e
  ·subst e;exact⟨_,rfl,rfl⟩
  subst e;exact⟨_,rfl,rfl⟩
theorem qEQ (h:Ok26 p l I) (hc:bT p=0) (hI:I.length<=16) (h0:0<=d) (h16:d<=16):eW p l I d=some (match bfs p I d (bW l) with|.cont W=>(W,true)|.fail=>([],false)|.found W=>(W,true)):=by
 obtain⟨⟨r1,r2⟩,h1,h2⟩:=qCL h hc hI h0 h16;rw [h1]
 cases hb:bfs p I d (bW l) with
 | cont W=>
  rw [hb] at h2
  cases r2 with
  | true=>cases h2;rfl
  | false=>cases h2
 | fail=>
  rw [hb] at h2
  cases r2 with
  | true=>cases h2
  | false=>cases h2;rfl
 | found W=>
  rw [hb] at h2
  cases r2 with
  | true=>cases h2;rfl
  | false=>cases h2
end
abbrev CSt:=Int×Int×List BA×Int×List Af×List (List Bool)×Int×List (BA×Bool)×List Ae
def stC (p:Go.Proofs.YtciilodpnepdbaaDoor.Program) (I:List (List Bool)) (d:Int) (W:List Visit') (vs:List Ae):CSt:=(0,0,p.names,p.inputs,p.Aa,I,d,eL W,vs)
def qKD (r:Bool×CSt):Res26->Prop
 | .cont W=>r.1=true/\r.2.2.2.2.2.2.2.2.2.length=W.length
 | .fail=>r.1=false/\r.2.1=0/\r.2.2.1=16
 | .found W=>False
section
variable {p:Go.Proofs.YtciilodpnepdbaaDoor.Program} {I:List (List Bool)} {d:Int}
theorem zE (s0 s1:Int) (s2:List BA) (s3:Int) (s4:List Af) (s5:List (List Bool)) (s6:Int) (s7:List (BA×Bool)) (s8:List Ae):cH s0 s1 s2 s3 s4 s5 s6 s7 s8 (-1) 16=some (false,0,16,s2,s3,s4,s5,s6,s7,s8):=rfl
theorem uA (s0 s1:Int) (s2:List BA) (s3:Int) (s4:List Af) (s5:List (List Bool)) (s6:Int) (s7:List (BA×Bool)) (s8:List Ae) (z:Int):cH s0 s1 s2 s3 s4 s5 s6 s7 s8 z 0=some (true,s0,s1,s2,s3,s4,s5,s6,s7,s8):=rfl
theorem qY (m:Machine):bW [] m=false:=rfl
def PostJ (p:Go.Proofs.YtciilodpnepdbaaDoor.Program) (I:List (List Bool)) (d:Int) (i:Nat) (w:Visit') (o:CSt ⊕ ((Int×CSt) ⊕ (Bool×CSt))):Res26->Prop
 | .cont W=>∃ vs,o=.inl (stC p I d W vs)/\VR vs W/\At26 p I d (bW []) W i I.length/\W[i]?=some w
 | .fail=>∃ r,o=.inr (.inr r)/\qKD r .fail
 | .found W=>False
theorem tR (h:Ok26 p [] I) (hc:bT p=0) (hI:I.length<=16) (h0:0<=d) (h16:d<=16):∃ r,cZ cH 0 0 p.names p.inputs p.Aa I d [] []=some r/\qKD r (bfs p I d (bW [])):=by
 have hs:=h.slim;obtain⟨f1,f2,f3⟩:=nY hc;have hm0:MSm (bK p):=rZ hs (k:=0) f1 (λc hc=>by rw [f3 c hc];omega) (by omega);have hadd0:bI ⟨p,I,d,[],eL []⟩ (bK p) (-1) 0 0=some ⟨p,I,d,[⟨bK p,-1,0,0⟩],eL [⟨bK p,[]⟩]⟩:=qHP (I:=I) (d:=d) (W:=[]) (vs:=[]) hm0 (by simp [eL]) rfl (by simp) p (-1) 0 0 [];have eta:(⟨p.names,p.inputs,p.Aa⟩:Go.Proofs.YtciilodpnepdbaaDoor.Program)=p:=rfl;unfold cZ;rw [eta,uH hs.ok,aA,show ([]:List (BA×Bool))=eL [] from rfl,hadd0,aA];rw [uA,aA];unfold bfs;by_cases hv:bW [] (bK p)=true
 ·rw [qY] at hv;cases hv
 rw [if_neg hv];dsimp only;rw [if_pos rfl];have hat:=lG (I:=I) (viol:=bW []) hc h0 (by simpa using hv);refine oQ (λn s=>∃ (i:Nat) (W:List Visit') (vs:List Ae),s=((i:Int),stC p I d W vs)/\VR vs W/\At26 p I d (bW []) W i 0/\n+i=501/\iO p I d (bW []) n i W=iO p I d (bW []) 501 0 [⟨bK p,[]⟩]) ?_ (n:=501) (by omega) ⟨0,_,_,rfl,VR.one _,hat,rfl,rfl⟩;generalize iO p I d (bW []) 501 0 [⟨bK p,[]⟩]=R;rintro n _ ⟨i,W,vs,rfl,hvr,ha,hn,hR⟩;unfold stC;dsimp only
 cases hw:W[i]? with
 | none=>
  left;have hle:=List.getElem?_eq_none_iff.1 hw;rw [if_neg (by rw [hvr.len];omega)];refine⟨_,rfl,?_⟩
  cases n with
  | zero=>rw [<- hR];exact⟨rfl,hvr.len⟩
  | succ n=>rw [<- hR];unfold iO;rw [hw];exact⟨rfl,hvr.len⟩
 | some w=>
  have hlt:=(zQQ.1 hw).1;have hlen:=ha.inv.len;obtain⟨v,v1,v2,v3,v4⟩:=hvr.at hw;rw [if_pos (by rw [hvr.len];omega),aN v1,v2,v3];obtain⟨n,rfl⟩:∃ n',n=n'+1:=⟨n - 1,by omega⟩;by_cases hd:d<=(w.trace.length:Int)
  ·left;rw [if_pos hd];refine⟨_,rfl,?_⟩;rw [<- hR,oN ha.inv hw hd _ _ (zQW _)];exact⟨rfl,hvr.len⟩
  rw [if_neg hd];have hd':(w.trace.length:Int) < d:=by omega
  rw [oM hw hd'] at hR;obtain⟨g1,g2,g3,g4⟩:=ha.inv.fits w (zQM hw);refine sT (P:=λo=>PostJ p I d i w o (inW p (bW []) w I 0 W)) (oQ (λm s=>∃ (k:Nat) (W':List Visit') (vs':List Ae),s=((k:Int),stC p I d W' vs')/\VR vs' W'/\At26 p I d (bW []) W' i k/\W'[i]?=some w/\m+k=I.length/\inW p (bW []) w (I.drop k) k W'=inW p (bW []) w I 0 W) ?_ (n:=I.length) (by omega) ⟨0,W,vs,rfl,hvr,ha,hw,rfl,rfl⟩) ?_ ?_
  ·generalize inW p (bW []) w I 0 W=T;rintro m _ ⟨k,W',vs',rfl,hvr',ha',hw',hk,hT⟩;unfold stC;dsimp only;by_cases hkI:k < I.length
   ·have hx:=zQR hkI;have hgd:I.getD k []=I[k]:=by rw [zQD,hx];rfl
    obtain⟨s1,s2⟩:=lJ (I.getD k []) g1 g2;have hm:MSm (cD p w.m (I.getD k [])):=rZ hs (k:=(w.trace.length:Int)+1) s1 (qAX _ g1 g2 g3) (by omega);have hlen':=ha'.inv.len;rw [if_pos (by omega),aN hx,eta,Scan26 hs (qBN hs g1),aA,<- hgd,qHN hm,aA,aB (rE hs h16 ha'.inv),wU hs h16 ha'.inv hm s1 s2];rw [xZ hkI] at hT;unfold kQ at hT;by_cases hn:gB W' (cD p w.m (I.getD k []))=true
    ·rw [if_pos hn] at hT;rw [if_pos hn,aB (bN hkI (by omega))];right;have:=qL ha' hw' hkI hd';unfold kQ at this;rw [if_pos hn] at this;exact⟨_,rfl,m - 1,by omega,k+1,W',vs',by push_cast;rfl,hvr',this.1,hw',by omega,hT⟩
    rw [if_neg hn] at hT ⊢;have hvl:=hvr'.len;by_cases hf:500<=W'.length
    ·rw [if_pos hf] at hT;rw [if_pos (by omega),zE,aA];left;rw [<- hT];exact⟨_,rfl,_,rfl,rfl,rfl,rfl⟩
    rw [if_neg hf] at hT
    have hb1:(dO (eL W') (nQ (cD p w.m (I.getD k [])))).getD false=false:=by
     rw [wU hs h16 ha'.inv hm s1 s2];simpa using hn
    rw [if_neg (by omega),aB (by unfold I64;omega),qHP (I:=I) (d:=d) hm (rE hs h16 ha'.inv) hb1 (by omega) p (i:Int) (k:Int) ((w.trace.length:Int)+1) (w.trace++[(k:Int)]),aA];have hv2:=hvr'.app (k:=k) hw' (cD p w.m (I.getD k []));dsimp only;rw [aB (by unfold I64;simp only [zQL,List.length_cons,List.length_nil];omega),uA,aA];have hst:=qL ha' hw' hkI hd';unfold kQ at hst;rw [if_neg hn,if_neg hf] at hst;dsimp only at hT hst ⊢;by_cases hb:bW [] (cD p w.m (I.getD k []))=true
    ·rw [qY] at hb;cases hb
    rw [if_neg hb] at hT hst;rw [if_pos rfl,aB (bN hkI (by omega))];right;exact⟨_,rfl,m - 1,by omega,k+1,_,_,by push_cast;rfl,hv2,hst.1,hst.2,by omega,hT⟩
   left;rw [if_neg (by omega)];rw [qBL (by omega)] at hT;have:k=I.length:=by omega
   subst this;rw [<- hT];exact⟨_,rfl,vs',rfl,hvr',ha',hw'⟩
  ·rintro a ha2;have hin:=qBK (i:=i) hd' I 0 W rfl (Nat.zero_le _) ha hw
   cases hT:inW p (bW []) w I 0 W with
   | cont W'=>
    rw [hT] at ha2 hR;obtain⟨vs',e,hv2,ha',hw'⟩:=ha2;cases e;right;unfold stC;dsimp only;rw [aB (bN hlt (by omega))];exact⟨_,rfl,n,by omega,i+1,W',vs',by push_cast;rfl,hv2,mK ha' hw' (.inl rfl),by omega,hR⟩
   | fail=>rw [hT] at ha2;obtain⟨r,e,_⟩:=ha2;cases e
   | found W'=>rw [hT] at ha2;exact ha2.elim
  rintro b hb2
  cases hT:inW p (bW []) w I 0 W with
  | cont W'=>rw [hT] at hb2;obtain⟨vs',e,_⟩:=hb2;cases e
  | fail=>
   rw [hT] at hb2 hR;obtain⟨r,e,h5⟩:=hb2;cases e;exact .inl ⟨_,rfl,by rw [<- hR];exact h5⟩
  | found W'=>rw [hT] at hb2;exact hb2.elim
def mB (p:Go.Proofs.YtciilodpnepdbaaDoor.Program) (I:List (List Bool)) (d:Int):Int×Int:=
 if bT p=0/\I.length<=16/\0<=d/\d<=16 then
  match bfs p I d (bW []) with
  | .cont W=>((W.length:Int),0)
  | .fail=>(0,16)
  | .found W=>(0,16)
 else (0,1)
theorem yS (h:Ok26 p [] I):cX p I d=some (mB p I d):=by
 unfold cX mB;rw [qAJ h.slim,aA];by_cases hc:bT p=0/\I.length<=16/\0<=d/\d<=16
 ·rw [if_pos hc,if_pos hc];obtain⟨r,h1,h2⟩:=tR (d:=d) h hc.1 hc.2.1 hc.2.2.1 hc.2.2.2;dsimp only;rw [if_pos rfl,h1,aA];obtain⟨r0,r1,r2,r3,r4,r5,r6,r7,r8,r9⟩:=r
  cases hb:bfs p I d (bW []) with
  | cont W=>
   rw [hb] at h2;obtain⟨e1,e2⟩:=h2;dsimp only at e1 e2;subst e1;dsimp only;rw [if_pos rfl,e2]
  | fail=>
   rw [hb] at h2;obtain⟨e1,e2,e3⟩:=h2;dsimp only at e1 e2 e3;subst e1 e2 e3;rfl
  | found W=>rw [hb] at h2;exact h2.elim
 rw [if_neg hc,if_neg hc];rfl
theorem qCQ (h:Ok26 p [] I):fL p I d=some (mB p I d):=by
 unfold fL mB;rw [xN h.slim,aA];by_cases hc:bT p=0/\I.length<=16/\0<=d/\d<=16
 ·rw [decide_eq_true hc, if_neg (by simp), if_pos hc, qEQ h hc.1 hc.2.1 hc.2.2.1 hc.2.2.2, aA]
  cases hb:bfs p I d (bW []) with
  | cont W=>rfl
  | fail=>rfl
  | found W=>
   obtain⟨W0,T,e,hl⟩:=qDO hc.1 hc.2.2.1 hb;have:=hl.bad;rw [qY] at this;cases this
 rw [decide_eq_false hc,if_pos (by rfl),if_neg hc]
end
section
variable {p:Go.Proofs.YtciilodpnepdbaaDoor.Program} {l:List Ab} {I:List (List Bool)} {d:Int} {viol:Machine->Bool}
theorem yA {w:Visit'}:∀ (r:List (List Bool)) (k:Nat) (W R:List Visit'),inW p viol w r k W=.cont R->W.length<=R.length
 | [],k,W,R,h=>by cases h;exact zQW _
 | a :: r,k,W,R,h=>by
  unfold inW at h
  cases hs:kQ p viol W w k a with
  | cont W'=>
   rw [hs] at h;have h1:=yA r (k+1) W' R h
   have h2:W.length<=W'.length:=by
    unfold kQ at hs;split at hs
    ·cases hs;exact zQW _
    split at hs
    ·cases hs
    split at hs
    ·cases hs
    cases hs;simp
   omega
  | fail=>rw [hs] at h;cases h
  | found W'=>rw [hs] at h;cases h
theorem pF:∀ (fu i:Nat) (W R:List Visit'),iO p I d viol fu i W=.cont R->W.length<=R.length
 | 0,i,W,R,h=>by cases h;exact zQW _
 | fu+1,i,W,R,h=>by
  unfold iO at h
  cases hw:W[i]? with
  | none=>rw [hw] at h;cases h;exact zQW _
  | some w=>
   rw [hw] at h;dsimp only at h;split at h
   ·cases hT:inW p viol w I 0 W with
    | cont W'=>
     rw [hT] at h;have h1:=yA _ _ _ _ hT;have h2:=pF fu (i+1) W' R h;omega
    | fail=>rw [hT] at h;cases h
    | found W'=>rw [hT] at h;cases h
   exact pF fu (i+1) W R h
theorem xQ {d':Int} {R:List Visit'} (hdd:d'<=d):∀ (fu i:Nat) (W:List Visit'),At26 p I d viol W i 0->iO p I d viol fu i W=.cont R->∃ R',iO p I d' viol fu i W=.cont R'/\R'.length<=R.length
 | 0,i,W,h,hR=>⟨W,rfl,by cases hR;exact zQW _⟩
 | fu+1,i,W,h,hR=>by
  cases hw:W[i]? with
  | none=>
   unfold iO at hR ⊢;rw [hw] at hR ⊢;cases hR;exact⟨_,rfl,zQW _⟩
  | some w=>
   by_cases hd:(w.trace.length:Int) < d'
   ·rw [oM hw (by omega)] at hR;rw [oM hw hd];have hin:=qBK (i:=i) (show (w.trace.length:Int) < d by omega) I 0 W rfl (Nat.zero_le _) h hw
    cases hT:inW p viol w I 0 W with
    | cont W'=>
     rw [hT] at hR hin;exact xQ hdd fu (i+1) W' (mK hin.1 hin.2 (.inl rfl)) hR
    | fail=>rw [hT] at hR;cases hR
    | found W'=>rw [hT] at hR;cases hR
   exact⟨W,oN h.inv hw (by omega) _ _ (zQW _),pF _ _ _ _ hR⟩
theorem qHC {d':Int} {R:List Visit'} (hc:bT p=0) (h0:0<=d) (hdd:d'<=d) (h:bfs p I d viol=.cont R):∃ R',bfs p I d' viol=.cont R'/\R'.length<=R.length:=by
 unfold bfs at h ⊢;by_cases hv:viol (bK p)=true
 ·rw [if_pos hv] at h;cases h
 rw [if_neg hv] at h ⊢;exact xQ hdd 501 0 _ (lG (I:=I) hc h0 (by simpa using hv)) h
inductive Ends26 (p:Go.Proofs.YtciilodpnepdbaaDoor.Program) (I:List (List Bool)) (d:Int) (viol:Machine->Bool):List Int×Bool×Int->Prop where
 | bad:Ends26 p I d viol ([],false,1)
 | full:Ends26 p I d viol ([],false,16)
 | none (W:List Visit') (h:Done26 p I d viol W) (h0:0<=d) (h16:d<=16):Ends26 p I d viol ([],false,0)
 | found (T:Visit') (h:Least26 p I d viol T) (h0:0<=d) (h16:d<=16):Ends26 p I d viol (T.trace,true,0)
end
theorem wD {p0:Go.Proofs.YtciilodpnepdbaaDoor.Program} {p1:List (List Bool)} {p2:Int} (w0:Go.Proofs.YtciilodpnepdbaaDoor.Program.Wf p0) (w1:p1.length<=reachBytes/\∀ y∈p1,y.length<=reachBytes/\∀ z∈y,True) (w2:I64 p2) {r:List D} (hb:D.bulks (p0.enc :: r)<=1048576):dQ p0 p1 p2=some true:=by
 have h:Ok26 p0 [] p1:=⟨qCK w0 (qAH (b:=.bool true) hb).1,by simp,by simp,by have:=qGG w1.1;unfold mW;omega⟩;obtain⟨b,hf⟩:=few26 h;unfold dQ;rw [hf,aA,qJK]
 cases b with
 | false=>rfl
 | true=>
  rw [if_neg (by simp),yS h,qCQ h];simp only [aA];rw [if_neg (by simp)];by_cases hx:(mB p0 p1 p2).2=0/\0 < p2
  ·obtain⟨hx1,hx2⟩:=hx
   have hcnt:∃ a b:Int,mB p0 p1 p2=(a,0)/\mB p0 p1 (p2 - 1)=(b,0)/\1<=b/\b<=a:=by
    unfold mB at hx1 ⊢;by_cases hc:bT p0=0/\p1.length<=16/\0<=p2/\p2<=16
    ·rw [if_pos hc] at hx1;rw [if_pos hc,if_pos ⟨hc.1,hc.2.1,by omega,by omega⟩]
     cases hb2:bfs p0 p1 p2 (bW []) with
     | cont W=>
      obtain⟨R,hR,hl⟩:=qHC (d':=p2 - 1) hc.1 hc.2.2.1 (by omega) hb2;rw [hR];have hdn:=qHD hc.1 (by omega) hR;obtain⟨R',e⟩:=hdn.inv.head;have hR1:1<=R.length:=by rw [e];simp
      exact⟨_,_,rfl,rfl,by omega,by omega⟩
     | fail=>rw [hb2] at hx1;cases hx1
     | found W=>rw [hb2] at hx1;cases hx1
    rw [if_neg hc] at hx1;cases hx1
   obtain⟨a,b,e1,e2,l1,l2⟩:=hcnt;rw [hx1,if_pos (by rw [decide_eq_true hx2];rfl),aB (by unfold I64 at w2 ⊢;omega),yS h,e1,e2,aA];dsimp only;rw [if_pos rfl,if_pos l1,if_pos l2];rfl
  rw [if_neg (by simp only [zQA,decide_eq_true_eq];exact hx)]
end Go.Proofs.YtciilodpnepdbaaDoor
