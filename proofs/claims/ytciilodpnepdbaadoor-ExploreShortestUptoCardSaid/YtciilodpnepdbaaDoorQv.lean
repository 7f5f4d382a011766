/- Texts of this proof, joined, without what it does not use. No condition. -/
import Derived.Test.YtciilodpnepdbaaDoorQu

set_option linter.unusedVariables false
set_option linter.unusedSimpArgs false
set_option maxHeartbeats 1000000
set_option maxRecDepth 100000
namespace Go.Proofs.YtciilodpnepdbaaDoor
open Go Go.TL
def cfT (n c:Nat) (t:List Int):Nat:=t.foldl (λc x=>c * n+(x.toNat+1)) c
theorem tE (n:Nat) (a b:List Int):aQ n (a++b)=cfT n (aQ n a) b:=by unfold aQ cfT;rw [List.foldl_append]
theorem uY {n:Nat} (hn:0 < n):∀ (k c:Nat),cfT n c (List.replicate k ((n:Int) - 1))+1=cfT n (c+1) (List.replicate k 0)
 | 0,c=>rfl
 | k+1,c=>by
  have ih:=uY hn k (c * n+n)
  have e1:cfT n c (List.replicate (k+1) ((n:Int) - 1))=cfT n (c * n+n) (List.replicate k ((n:Int) - 1)):=by
   show cfT n (c * n+(((n:Int) - 1).toNat+1)) _=_;rw [show (((n:Int) - 1).toNat+1)=n by omega]
  have e2:cfT n (c+1) (List.replicate (k+1) 0)=cfT n (c * n+n+1) (List.replicate k 0):=by
   show cfT n ((c+1) * n+((0:Int).toNat+1)) _=_;rw [Nat.add_mul,Nat.one_mul];rfl
  rw [e1,e2];exact ih
theorem mR (n:Nat):∀ k,aQ n (List.replicate k 0)=loT n k
 | 0=>rfl
 | k+1=>by
  rw [show List.replicate (k+1) (0:Int)=List.replicate k 0++[0] by rw [List.replicate_succ'];,cT,mR n k];rfl
theorem qCE {n:Nat} (hn:0 < n) (k:Nat):aQ n (List.replicate k ((n:Int) - 1))+1=loT n (k+1):=by
 have h:=uY hn k 0
 have e:cfT n 1 (List.replicate k 0)=aQ n (List.replicate (k+1) 0):=by
  show _=cfT n (0 * n+((0:Int).toNat+1)) (List.replicate k 0);rw [Nat.zero_mul];rfl
 rw [show (0:Nat)+1=1 from rfl,e,mR] at h;exact h
theorem qBJ {n:Nat} (hn:0 < n) {a:List Int} {x:Int} {k:Nat} (hx:0<=x):aQ n (a++x :: List.replicate k ((n:Int) - 1))+1=aQ n (a++(x+1) :: List.replicate k 0):=by
 have e1:aQ n (a++x :: List.replicate k ((n:Int) - 1))=cfT n (aQ n (a++[x])) (List.replicate k ((n:Int) - 1)):=by
  rw [<- tE];simp
 have e2:aQ n (a++(x+1) :: List.replicate k 0)=cfT n (aQ n (a++[x+1])) (List.replicate k 0):=by
  rw [<- tE];simp
 rw [e1,e2,uY hn,cT,cT,show (x+1).toNat=x.toNat+1 by omega];rfl
def NextP (n:Nat) (t:List Int) (r:List Int×Bool):Prop:=
 (r.2=true/\digs n r.1/\r.1.length=t.length/\aQ n r.1=aQ n t+1)\/(r.2=false/\∀ s,digs n s->s.length=t.length->aQ n s<=aQ n t)
def NextO (n:Nat) (t:List Int):List Int ⊕ (List Int×Bool)->Prop
 | .inl _=>t=List.replicate t.length ((n:Int) - 1)
 | .inr r=>r.2=true/\∃ (a:List Int) (x:Int) (k:Nat),t=a++x :: List.replicate k ((n:Int) - 1)/\r.1=a++(x+1) :: List.replicate k 0/\x+1 < (n:Int)
theorem qBK {n:Nat} {t:List Int} (h:digs n t) (hl:t.length<=100) (hn:n<=1000):∃ r,gZ t (n:Int)=some r/\NextP n t r:=by
 unfold gZ;rw [List.nil_append,aB (by omega),aB (by unfold I64;omega)];refine qFW (P:=NextO n t) (kS (λm s=>∃ (a:List Int) (k:Nat),a.length=m/\s.1=(m:Int) - 1/\s.2=a++List.replicate k 0/\t=a++List.replicate k ((n:Int) - 1)) ?_ (n:=t.length) (by omega) ⟨t,0,rfl,rfl,(List.append_nil t).symm,(List.append_nil t).symm⟩) ?_ ?_
 ·rintro m ⟨s1,s2⟩ ⟨a,k,h1,h2,h3,h4⟩;dsimp only at h2 h3;subst h2 h3;dsimp only
  cases m with
  | zero=>
   left;rw [if_neg (by omega)];refine⟨_,rfl,?_⟩;have:a=[]:=List.eq_nil_of_length_eq_zero h1;subst this;show t=List.replicate t.length ((n:Int) - 1);rw [List.nil_append] at h4;rw [h4,List.length_replicate]
  | succ m=>
   have hne:a≠[]:=by intro e;rw [e] at h1;cases h1
   obtain⟨a',x,rfl⟩:∃ a' x,a=a'++[x]:=⟨a.dropLast,a.getLast hne,(List.dropLast_concat_getLast hne).symm⟩;rw [zQL,List.length_cons,List.length_nil] at h1;have ha:a'.length=m:=by omega
   have hxm:x∈t:=by rw [h4];simp
   have hx:=h x hxm
   have hml:m<=100:=by
    have:=congrArg List.length h4;simp only [zQL,List.length_cons,List.length_nil,List.length_replicate] at this;omega
   have hg:(a'++[x]++List.replicate k (0:Int))[m]?=some x:=by
    rw [List.append_assoc,List.getElem?_append_right (by omega),ha,Nat.sub_self];rfl
   have hset:∀ y:Int,(a'++[x]++List.replicate k (0:Int)).set m y=a'++y :: List.replicate k 0:=by
    intro y;rw [List.append_assoc,List.set_append_right _ _ (by omega),ha,Nat.sub_self];rfl
   rw [if_pos (by omega),show ((m+1:Nat):Int) - 1=(m:Int) by omega,aT hg,aB (by unfold I64;omega)];have hmt:((m:Int)).toNat=m:=by omega
   by_cases hc:x+1 < (n:Int)
   ·left;rw [if_pos hc,aT hg,aB (by unfold I64;omega),aT hg,hmt,hset];exact⟨_,rfl,rfl,a',x,k,by rw [h4];simp,rfl,hc⟩
   right;rw [if_neg hc,aT hg,aB (by unfold I64;omega),hmt,hset];refine⟨_,rfl,m,by omega,a',k+1,ha,rfl,rfl,?_⟩;rw [h4,show x=(n:Int) - 1 by omega];simp [List.replicate_succ]
 ·rintro a ha;refine⟨_,rfl,.inr ⟨rfl,λs hs hsl=>?_⟩⟩;have ha:t=List.replicate t.length ((n:Int) - 1):=ha;have h1:=(eY n s hs).2;rw [hsl] at h1;by_cases hn0:0 < n
  ·have h2:=qCE hn0 t.length;rw [<- ha] at h2;omega
  have ht:t.length=0:=by
   cases t with
   | nil=>rfl
   | cons y r=>have:=h y (by simp);omega
  have:s=[]:=List.eq_nil_of_length_eq_zero (by omega);subst this;exact Nat.zero_le _
 rintro⟨r1,r2⟩ ⟨h1,a,x,k,h2,h3,h4⟩;dsimp only at h1 h3;subst h1 h3;have hxm:x∈t:=by rw [h2];simp
 have hx:=h x hxm;refine .inl ⟨rfl,?_,?_,?_⟩
 ·intro y hy;rcases zQN.1 hy with hy|hy
  ·exact h y (by rw [h2];exact List.mem_append_left _ hy)
  rcases zQB.1 hy with rfl|hy
  ·omega
  have:=List.eq_of_mem_replicate hy;omega
 ·show (a++(x+1) :: List.replicate k 0).length=t.length;rw [h2];simp
 show aQ n (a++(x+1) :: List.replicate k 0)=aQ n t+1;rw [h2,qBJ (by omega) hx.1]
section
variable {p:Go.Proofs.YtciilodpnepdbaaDoor.Program} {l:List Aa} {I:List (List Bool)} {d:Int}
def FirstP (p:Go.Proofs.YtciilodpnepdbaaDoor.Program) (I:List (List Bool)) (viol:Machine->Bool) (n:Nat) (r:List Int×Bool):Prop:=
 (r.2=true/\digs I.length r.1/\r.1.length=n/\viol (fN p I r.1)=true/\∀ s,digs I.length s->s.length=n->aQ I.length s < aQ I.length r.1->viol (fN p I s)=false)\/(r.2=false/\∀ s,digs I.length s->s.length=n->viol (fN p I s)=false)
theorem qEV:∀ N:Fin 4,∀ n:Fin 5,loT N.val (n.val+1)<=1000:=by decide
theorem mP (h:Ok26 p l I) {n:Nat} (hI:I.length<=3) (hn:n<=4):∃ r,gB p l I (n:Int)=some r/\FirstP p I (cZ l) n r:=by
 have hob:∀ e∈l,szE e.expr<=1000000000:=λe he=>(h.obs e he).2;unfold gB;by_cases hz:0 < n/\I.length=0
 ·rw [if_pos (by rw [decide_eq_true (show (0 : Int) < (n : Int) by omega), decide_eq_true (show (I.length : Int) = 0 by omega)]; rfl)];refine⟨_,rfl,.inr ⟨rfl,λs hs hsl=>?_⟩⟩
  cases s with
  | nil=>simp at hsl;omega
  | cons y r=>have:=hs y (by simp);omega
 rw [if_neg (by simp only [zQA, decide_eq_true_eq]; omega), aB (by omega), show ((n : Int)).toNat = n by omega];have hlo:=qEV ⟨I.length,by omega⟩ ⟨n,by omega⟩;dsimp only at hlo
 have hd0:digs I.length (List.replicate n 0):=by
  intro y hy;have h1:=List.eq_of_mem_replicate hy;have h2:n≠0:=by intro e;rw [e] at hy;cases hy
  omega
 refine kS (λm s=>digs I.length s/\s.length=n/\m+aQ I.length s=loT I.length (n+1)/\∀ t,digs I.length t->t.length=n->aQ I.length t < aQ I.length s->cZ l (fN p I t)=false) ?_ (n:=loT I.length (n+1) - aQ I.length (List.replicate n 0)) (by omega) ⟨hd0,by simp,?_,?_⟩
 ·rintro m s ⟨h1,h2,h3,h4⟩;rw [qCQ h.slim I (by unfold hP;omega),aA,qIR _ h.len hob,aA];by_cases hv:cZ l (fN p I s)=true
  ·left;rw [if_pos hv];exact⟨_,rfl,.inl ⟨rfl,h1,h2,hv,h4⟩⟩
  rw [if_neg hv];obtain⟨⟨r1,r2⟩,e,hr⟩:=qBK h1 (by omega) (by omega);rw [e,aA];dsimp only;rcases hr with ⟨q1,q2,q3,q4⟩|⟨q1,q2⟩
  ·dsimp only at q1 q2 q3 q4;subst q1;right;rw [if_neg (by simp)];have hr:=(eY _ _ q2).2;rw [q3,h2] at hr;refine⟨_,rfl,m - 1,by omega,q2,by omega,by omega,λt ht htl htc=>?_⟩;by_cases hc:aQ I.length t=aQ I.length s
   ·rw [oO _ t ht s h1 hc];simpa using hv
   exact h4 t ht htl (by omega)
  dsimp only at q1 q2;subst q1;left;rw [if_pos (by simp)];refine⟨_,rfl,.inr ⟨rfl,λt ht htl=>?_⟩⟩;by_cases hc:aQ I.length t=aQ I.length s
  ·rw [oO _ t ht s h1 hc];simpa using hv
  have := q2 t ht (by omega);exact h4 t ht htl (by omega)
 ·have:=(eY _ _ hd0).2;rw [List.length_replicate] at this;omega
 intro t ht htl htc;rw [mR] at htc;have:=(eY _ _ ht).1;rw [htl] at this;omega
theorem qD {p0:Go.Proofs.YtciilodpnepdbaaDoor.Program} {p1:List Aa} {p2:List (List Bool)} {p3:Int} (w0:Go.Proofs.YtciilodpnepdbaaDoor.Program.Wf p0) (w1:p1.length<=reachBytes/\∀ y∈p1,Aa.Wf y) (w2:p2.length<=reachBytes/\∀ y∈p2,y.length<=reachBytes/\∀ z∈y,True) (w3:I64 p3) {k1:Nat} {r:List D} (hb:D.bulks (p0.enc :: .sl k1 (p1.map Aa.enc) :: r)<=1048576):cU p0 p1 p2 p3=some true:=by
 have h:=qHM w0 w1 w2 hb;obtain⟨b,hf⟩:=few26 h;unfold cU;rw [hf,aA,qIP]
 cases b with
 | false=>rfl
 | true=>
  rw [if_neg (by simp)];by_cases hI:3 < (p2.length:Int)
  ·rw [if_pos hI];rfl
  rw [if_neg hI];by_cases h4:4 < p3
  ·rw [decide_eq_true h4];rfl
  rw [decide_eq_false h4,aA,if_neg Bool.false_ne_true,qIT h];have he:=qBZ (p:=p0) (I:=p2) (d:=p3) (viol:=cZ p1);generalize wV p0 p2 p3 (cZ p1)=A at he;simp only [aA]
  cases he with
  | bad=>rfl
  | full=>rfl
  | none W hdn h0 h16=>
   dsimp only;obtain⟨n3,rfl⟩:∃ k:Nat,p3=(k:Int):=⟨p3.toNat,by omega⟩;rw [if_pos rfl];rw [jM (s:=(0:Int)) (λi=>(i:Int)) (n3+1) (o:=.inl ()) rfl (by omega) ?_ ?_]
   ·rfl
   ·intro i hi;obtain⟨⟨r1,r2⟩,e,hr⟩:=mP h (n:=i) (by omega) (by omega);rw [if_pos (by omega),e,aA];dsimp only;rcases hr with ⟨q1,q2,q3,q4,q5⟩|⟨q1,q2⟩
    ·dsimp only at q1 q2 q3 q4 q5;rw [yR hdn q2 (by omega)] at q4;cases q4
    dsimp only at q1;subst q1;rw [if_neg Bool.false_ne_true,aB (bO (n:=5) (by omega) (by omega))];rfl
   rw [if_neg (by omega)];rfl
  | found T hl h0 h16=>
   dsimp only;have hlen:=hl.len;rw [if_pos rfl];rw [jM (s:=(0:Int)) (λi=>(i:Int)) T.trace.length (o:=.inr true) rfl (by omega) ?_ ?_]
   ·rfl
   ·intro i hi;obtain⟨⟨r1,r2⟩,e,hr⟩:=mP h (n:=i) (by omega) (by omega);rw [if_pos (by omega),e,aA];dsimp only;rcases hr with ⟨q1,q2,q3,q4,q5⟩|⟨q1,q2⟩
    ·dsimp only at q1 q2 q3 q4 q5
     have hlt:aQ p2.length r1 < aQ p2.length T.trace:=by
      apply Classical.byContradiction;intro hn;have:=jA hl.digs q2 (by omega);omega
     rw [hl.least r1 q2 (by omega) hlt] at q4;cases q4
    dsimp only at q1;subst q1;rw [if_neg Bool.false_ne_true,aB (bO (n:=5) (by omega) (by omega))];rfl
   obtain ⟨⟨r1, r2⟩, e, hr⟩ := mP h (n := T.trace.length) (by omega) (by omega);rw [if_pos (by omega),e,aA];dsimp only;rcases hr with ⟨q1,q2,q3,q4,q5⟩|⟨q1,q2⟩
   ·dsimp only at q1 q2 q3 q4 q5;subst q1
    have heq:r1=T.trace:=by
     rcases Nat.lt_trichotomy (aQ p2.length r1) (aQ p2.length T.trace) with hc|hc|hc
     ·rw [hl.least r1 q2 (by omega) hc] at q4;cases q4
     ·exact oO _ _ q2 _ hl.digs hc
     have:=q5 T.trace hl.digs rfl hc;have hbad:=hl.bad;rw [hl.rep,this] at hbad;cases hbad
    subst heq;rw [if_pos rfl,if_pos rfl,same02 (by unfold hP;omega),aA,decide_eq_true rfl];rfl
   dsimp only at q1 q2;have:=q2 T.trace hl.digs rfl;have hbad:=hl.bad;rw [hl.rep,this] at hbad;cases hbad
end
end Go.Proofs.YtciilodpnepdbaaDoor
