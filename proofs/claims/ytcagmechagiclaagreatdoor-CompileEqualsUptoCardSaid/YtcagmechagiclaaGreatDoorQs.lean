/- Texts of this proof, joined, without what it does not use. No condition. -/
import Derived.Test.YtcagmechagiclaaGreatDoorQr

set_option linter.unusedVariables false
set_option linter.unusedSimpArgs false
set_option maxHeartbeats 400000
set_option maxRecDepth 100000
namespace Go.Proofs.YtcagmechagiclaaGreatDoor
open Go Go.TL
theorem qCO:oE=some true:=by decide+kernel
def uG (r:Route):Nat:=r.path.length+r.sections.length+r.overSections.length+r.points.length+r.overPoints.length+r.flank.length
def vG (t:Table):Bool:=t.routes.all (λr=>decide (uG r≤200))&&decide (t.routes.length≤100∧t.points.length≤100)
theorem qZB (t:Table) (ht:t.Wf):qL t=some (vG t):=by
 have h0:=qAP ht.routes.1;unfold qL vG;rw [fE t.routes (λr=>!decide (uG r≤200)) (.inr false) (.inl ()) (by omega) (λi r hr=>?_) (by rw [if_neg (by omega)];rfl),iL]
 ·cases t.routes.all (fun r => decide (uG r ≤ 200))
  ·rfl
  simp only [Bool.not_true,Bool.false_eq_true,if_false,dB,Option.some.injEq,Bool.true_and];rw [Bool.eq_iff_iff];simp only [zQA,decide_eq_true_eq];omega
 have hi:=(zQQ.1 hr).1;have hw:=ht.routes.2 r (zQM hr);have h1:=qAP hw.path.1;have h2:=qAP hw.sections.1;have h3:=qAP hw.overSections.1;have h4:=qAP hw.points.1;have h5:=qAP hw.overPoints.1;have h6:=qAP hw.flank.1;rw [if_pos (by omega),aG hr,aB (by unfold I64;omega),aB (by unfold I64;omega),aB (by unfold I64;omega),aB (by unfold I64;omega),aB (by unfold I64;omega)];unfold uG;by_cases hb:r.path.length+r.sections.length+r.overSections.length+r.points.length+r.overPoints.length+r.flank.length≤200
 ·rw [if_neg (by omega),aB (aO hi (by omega)),if_neg (by simpa using hb)]
 rw [if_pos (by omega),if_pos (by rw [decide_eq_false hb];rfl)];rfl
theorem uH {t:Table} (h:vG t=true):TOk t∧t.routes.length≤100∧t.points.length≤100∧∀ r∈t.routes,uG r≤200:=by
 unfold vG at h;simp only [zQA,decide_eq_true_eq,zQT] at h;obtain⟨h1,h2⟩:=h;refine⟨⟨by omega,by omega,λr hr=>?_⟩,h2.1,h2.2,h1⟩;have:=h1 r hr;unfold uG at this;exact⟨by omega,by omega,by omega,by omega⟩
theorem qMR {t:Table} (h:t.Wf):SOk t:=λr hr s hs=>by
 have hw:=h.routes.2 r hr;simp only [bS,zQN] at hs;rcases hs with (hs|hs)|hs
 ·have:=hw.points.2 s hs;exact⟨this.el,this.pos⟩
 ·have:=hw.overPoints.2 s hs;exact⟨this.el,this.pos⟩
 have:=hw.flank.2 s hs;exact⟨this.el,this.pos⟩
theorem zHR (l:List Bool) (h:Cnt l):qN l l=some true:=by
 unfold qN;unfold Cnt at h;rw [if_pos rfl,fE l (λ_=>false) (.inr false) (.inl ()) (by omega) (λi e he=>?_) (by rw [if_neg (by omega)];rfl)]
 ·rw [List.any_eq_false.2 (λ_ _=>by simp),if_neg (by simp),dB]
 have hi:=(zQQ.1 he).1;rw [if_pos (by omega),aG he,aG he,if_neg (by simp),aB (aO hi (by omega)),if_neg (by simp)]
theorem dY {β:Type} {f:Nat→List β} {c:Nat} (h:∀ i,(f i).length=c) (n:Nat):((List.range n).flatMap f).length=c * n:=by
 induction n with
 | zero=>simp
 | succ n ih=>rw [List.range_succ,List.flatMap_append,zQL,ih];simp [h,Nat.mul_add]
theorem iX {β ρ:Type} (f:Nat→List β) (pre:List β) (n:Nat) {F:Int×List β→Option ((Int×List β) ⊕ ρ)} {o:ρ} (hn:n≤9223372036854775807) (hF:∀ i,i < n→F ((i:Int),pre++(List.range i).flatMap f)=some (.inl ((i:Int)+1,(pre++(List.range i).flatMap f)++f i)))
  (he:F ((n:Int),pre++(List.range n).flatMap f)=some (.inr o)):bB F (0,pre)=some o:=by
 refine oT (λi=>((i:Int),pre++(List.range i).flatMap f)) n (by simp) hn (λi hi=>?_) he;rw [hF i hi,List.range_succ,List.flatMap_append,List.append_assoc];simp
def knB (l:List Bool) (i:Nat) (v:Bool):Bool:=decide (l[i]?=some v)
def knI (l:List Int) (i:Nat) (v:Int):Bool:=decide (l[i]?=some v)
theorem qLT (l:List Bool) (i:Nat) (v:Bool):eV l (i:Int) v=some (knB l i v):=by
 unfold eV knB;by_cases h:i < l.length
 ·rw [if_pos (by omega), aG (zQR h), aA, zQR h];simp [Bool.beq_eq_decide_eq]
 rw [if_neg (by omega),List.getElem?_eq_none (by omega)];simp
theorem zAQ (l:List Int) (i:Nat) (v:Int):iC l (i:Int) v=some (knI l i v):=by
 unfold iC knI;by_cases h:i < l.length
 ·rw [if_pos (by omega), aG (zQR h), aA, zQR h];simp
 rw [if_neg (by omega),List.getElem?_eq_none (by omega)];simp
def inS (p:Inputs) (i:Nat):List Bool:=[knB p.occupied i false,knB p.closed i false]
def inP (p:Inputs) (i:Nat):List Bool:=[knI p.detected i 1,knI p.detected i 2]
def inR (p:Inputs) (i:Nat):List Bool:=[knB p.claimed i false,knB p.passed i true,decide ((i:Int)∈p.calls),decide ((i:Int)∈p.cancels)]
def bF (t:Table) (p:Inputs):List Bool:=(List.range t.sections.toNat).flatMap (inS p)++(List.range t.points.length).flatMap (inP p)++(List.range t.routes.length).flatMap (inR p)
theorem zBL (t:Table) (p:Inputs) (h:TOk t) (hc:Cnt p.calls) (hd:Cnt p.cancels):hU t p=some (if dQ t=0 then bF t p else []):=by
 unfold hU;rw [tB t h,aA];by_cases hz:dQ t=0
 ·rw [if_pos hz,if_pos hz];have hlm:=of_decide_eq_true (cJ hz).1;have hr:=h.routes;have hp:=h.points;have hs:t.sections=((t.sections.toNat:Nat):Int):=by omega
  rw [iX (inS p) [] t.sections.toNat (by omega) (λi hi=>?_) (by dsimp only;rw [if_neg (by omega)];rfl),aA]
  ·rw [iX (inP p) _ t.points.length (by omega) (fun i hi => ?_) (by dsimp only; rw [if_neg (by omega)]; rfl), aA]
   ·rw [iX (inR p) _ t.routes.length (by omega) (fun i hi => ?_) (by dsimp only; rw [if_neg (by omega)]; rfl), aA]
    ·rfl
    have h1 := dY (f := inS p) (c := 2) (fun _ => rfl) t.sections.toNat;have h2:=dY (f:=inP p) (c:=2) (λ_=>rfl) t.points.length;have h3:=dY (f:=inR p) (c:=4) (λ_=>rfl) i;dsimp only;rw [if_pos (by omega)];simp only [qLT,aA,mN _ _ hc,mN _ _ hd];rw [aB (by simp only [zQL,h1,h2,h3,List.length_cons,List.length_nil];omega),aB (aO hi (by omega))];rfl
   have h1 := dY (f := inS p) (c := 2) (fun _ => rfl) t.sections.toNat;have h2:=dY (f:=inP p) (c:=2) (λ_=>rfl) i;dsimp only;rw [if_pos (by omega)];simp only [zAQ,aA];rw [aB (by simp only [zQL,h1,h2,List.length_cons,List.length_nil];omega),aB (aO hi (by omega))];rfl
  have h1 := dY (f := inS p) (c := 2) (fun _ => rfl) i;dsimp only;rw [if_pos (by omega)];simp only [qLT,aA];rw [aB (by simp only [zQL,h1,List.length_cons,List.length_nil];omega),aB (aO hi (by omega))];rfl
 rw [if_neg hz,if_neg hz]
theorem zDM {t:Table} {s:Inter} {i:Nat} (hf:fN t s=true) (H:FitsAt t s i):qEU t s (i:Int)=eZ t s i:=qRU hf H.r H.x
def aK (t:Table) (el:Int):Nat:=(bY t.points el).getD 0
def lQ (t:Table) (l:List Setting) (b:List Int):List Int:=l.foldl (λb e=>b.set (aK t e.el) e.pos) b
theorem qIM (t:Table) (l:List Setting):∀ b,(lQ t l b).length=b.length:=by
  induction l with
  | nil=>intro b;rfl
  | cons e r ih=>intro b;unfold lQ;rw [List.foldl_cons];exact (ih _).trans List.length_set
theorem qVJ (t:Table) (l:List Setting) (P:Int→Prop) (hl:∀ e∈l,P e.pos):∀ b,(∀ p∈b,P p)→∀ p∈lQ t l b,P p:=by
  induction l with
  | nil=>intro b hb p hp;exact hb p hp
  | cons e r ih=>
    intro b hb p hp;unfold lQ at hp;rw [List.foldl_cons] at hp;refine ih (λx hx=>hl x (List.mem_cons_of_mem _ hx)) _ (λq hq=>?_) p hp;rcases List.mem_or_eq_of_mem_set hq with h|h
    · exact hb q h
    rw [h];exact hl e (List.mem_cons_self ..)
theorem qLP (t:Table) (l:List Setting) (k:Nat) (h:∀ e∈l,aK t e.el≠k):∀ b,(lQ t l b)[k]?=b[k]?:=by
  induction l with
  | nil=>intro b;rfl
  | cons e r ih=>
    intro b;unfold lQ;rw [List.foldl_cons];refine (ih (λx hx=>h x (List.mem_cons_of_mem _ hx)) _).trans ?_;rw [List.getElem?_set_ne (h e (List.mem_cons_self ..))]
theorem qAO (t:Table) (l:List Setting) (k:Nat) (v:Int) (h:∀ e∈l,aK t e.el=k→e.pos=v):∀ b,k < b.length→(∃ e∈l,aK t e.el=k)∨b[k]?=some v→(lQ t l b)[k]?=some v:=by
  induction l with
  | nil=>intro b hk hx;rcases hx with ⟨e,he,_⟩|hx;cases he;exact hx
  | cons e r ih=>
    intro b hk hx;unfold lQ;rw [List.foldl_cons];refine ih (λx hx=>h x (List.mem_cons_of_mem _ hx)) _ (by rw [List.length_set];exact hk) ?_;by_cases hp:aK t e.el=k
    · right;rw [hp,List.getElem?_set_self hk,h e (List.mem_cons_self ..) hp]
    rcases hx with ⟨x,hx,hxk⟩|hx
    · rcases zQB.1 hx with rfl|hx
      · exact absurd hxk hp
      exact .inl ⟨x,hx,hxk⟩
    right;rw [List.getElem?_set_ne hp];exact hx
theorem qRV (t:Table) (l:List Setting) (b:List Int) {i:Nat} {e:Setting} (h:l[i]?=some e):lQ t (l.take (i+1)) b=(lQ t (l.take i) b).set (aK t e.el) e.pos:=by
  obtain⟨hi,rfl⟩:=zQQ.1 h;unfold lQ;rw [List.take_succ_eq_append_getElem hi,List.foldl_append];rfl
def kK (t:Table) (s:Inter) (i:Nat):Inter:=⟨s.routes.set i wW,lQ t (eG (bS (rAt t i))) s.lies⟩
theorem qNT {t:Table} {r:Route} (hs:qS t r=true) (ha:tW r=true) {e e':Setting} (he:e∈bS r) (he':e'∈bS r) (hel:e.el=e'.el):e.pos=e'.pos:=by
  have inner:∀ l:List Setting,iW t l=true→∀ (i j:Nat),i < j→∀ (x y:Setting),l[i]?=some x→l[j]?=some y→x.el < y.el:=by
    intro l hl i j
    induction j with
    | zero=>intro h;omega
    | succ j ih=>
      intro hij x y hx hy;obtain⟨hj,rfl⟩:=zQQ.1 hy;have hj':l[j]?=some l[j]:=by rw [zQR]
      have h1:=allB_iff.1 hl (j+1) hj;rw [qAX hy (by rw [Nat.add_sub_cancel];exact hj')] at h1;have h2:=(of_decide_eq_true h1).2.2.2 (by omega);rcases Nat.lt_or_ge i j with hlt|hge
      · have:=ih hlt x _ hx hj';omega
      have : i = j := by omega
      subst this;rw [hx] at hj';cases hj';exact h2
  have same:∀ l:List Setting,iW t l=true→∀ (x y:Setting),x∈l→y∈l→x.el=y.el→x.pos=y.pos:=by
    intro l hl x y hx hy hxy;obtain⟨i,hi,rfl⟩:=List.mem_iff_getElem.1 hx;obtain⟨j,hj,rfl⟩:=List.mem_iff_getElem.1 hy;rcases Nat.lt_trichotomy i j with h|h|h
    · have:=inner l hl i j h _ _ (zQR hi) (zQR hj);omega
    · subst h;rfl
    have:=inner l hl j i h _ _ (zQR hj) (zQR hi);omega
  have cross:∀ l m:List Setting,mQ l m=true→∀ (x y:Setting),x∈l→y∈m→x.el=y.el→x.pos=y.pos:=by
    intro l m hl x y hx hy hxy;unfold mQ at hl;rw [zQT] at hl;have:=hl x hx;rw [zQT] at this;have:=this y hy;rw [hxy] at this;simpa using this
  unfold qS at hs;unfold tW at ha;simp only [zQA] at hs ha;simp only [bS,zQN] at he he';rcases he with (he|he)|he<;>rcases he' with (he'|he')|he'
  · exact same _ hs.1.1 _ _ he he' hel
  · exact cross _ _ ha.1.1 _ _ he he' hel
  · exact cross _ _ ha.1.2 _ _ he he' hel
  · exact (cross _ _ ha.1.1 _ _ he' he hel.symm).symm
  · exact same _ hs.1.2 _ _ he he' hel
  · exact cross _ _ ha.2 _ _ he he' hel
  · exact (cross _ _ ha.1.2 _ _ he' he hel.symm).symm
  · exact (cross _ _ ha.2 _ _ he' he hel.symm).symm
  exact same _ hs.2 _ _ he he' hel
theorem qDL {t:Table} {a b:Int} {k q:Nat} (ha:bY t.points a=some k) (hb:bY t.points b=some q) (h:k=q):a=b:=by
  subst h;obtain⟨x,hx,hxa,_⟩:=rN ha;obtain⟨y,hy,hyb,_⟩:=rN hb;rw [hx] at hy;cases hy;simp only [beq_iff_eq] at hxa hyb;omega
theorem qFI {t:Table} {s:Inter} (hf:fN t s=true) {i:Nat} (hi:i < t.routes.length) {e:Setting} (he:e∈bS (rAt t i)):nG t (kK t s i) e.el=e.pos:=by
  have H:=eB hf hi;have hf':=fitsB_iff.1 hf;have hc:=cJ hf'.1;obtain⟨q,hq,hql⟩:=gB (hc.2.2.1 _ H.mem).2 he
  have := qAO t (eG (bS (rAt t i))) q e.pos (fun x hx hxq => by
    have hx := ascS_mem.1 hx;obtain ⟨q', hq', _⟩ := gB (hc.2.2.1 _ H.mem).2 hx;have : q' = q := by simpa [aK, hq'] using hxq
    exact qNT (hc.2.2.1 _ H.mem).2 (hc.2.2.2.1 _ H.mem) hx he (qDL hq' hq this)) s.lies (by omega) (.inl ⟨e, ascS_mem.2 he, by simp [aK, hq]⟩)
  unfold nG kK;rw [hq];simp only [Option.bind_some];rw [this];rfl
theorem qPI {t:Table} {s:Inter} (hf:fN t s=true) {i:Nat} (hi:i < t.routes.length) {el:Int} (he:∀ e∈bS (rAt t i),e.el≠el) (hel:(bY t.points el).isSome=true):nG t (kK t s i) el=nG t s el:=by
  have H:=eB hf hi;have hc:=cJ (fitsB_iff.1 hf).1;obtain⟨q,hq⟩:=Option.isSome_iff_exists.1 hel
  have := qLP t (eG (bS (rAt t i))) q (fun x hx hxq => by
    have hx := ascS_mem.1 hx;obtain ⟨q', hq', _⟩ := gB (hc.2.2.1 _ H.mem).2 hx;have : q' = q := by simpa [aK, hq'] using hxq
    exact he x hx (qDL hq' hq this)) s.lies
  unfold nG kK;rw [hq];simp only [Option.bind_some];rw [this]
theorem vB {s:Inter} {i:Nat} {x:RouteState} {l:List Int} (hi:i < s.routes.length):xAt ⟨s.routes.set i x,l⟩ i=x:=by
  simp [xAt,List.getElem?_set_self hi]
theorem vC {s:Inter} {i o:Nat} {x:RouteState} {l:List Int} (h:o≠i):xAt ⟨s.routes.set i x,l⟩ o=xAt s o:=by
  simp [xAt,List.getElem?_set_ne (Ne.symm h)]
theorem zEZ {t:Table} {s:Inter} (hf:fN t s=true) {i:Nat} (hi:i < t.routes.length) {x:RouteState} (hx:bT x (rAt t i).sections.length=true) {l:List Int} (hl:l.length=s.lies.length) (hm:∀ p∈l,qFU p=true):fN t ⟨s.routes.set i x,l⟩=true:=by
  have H:=eB hf hi;have hf':=fitsB_iff.1 hf;refine fitsB_iff.2 ⟨hf'.1,by simpa using hf'.2.1,by simpa [hl] using hf'.2.2.1,λo ho=>?_,hm⟩;simp only [List.length_set] at ho;by_cases e:o=i
  · subst e
    rw [iJ (by simp only [];rw [List.getElem?_set_self ho]) H.r];exact hx
  have H' := eB hf (i := o) (by omega);rw [iJ (x:=xAt s o) (by simp only [];rw [List.getElem?_set_ne (Ne.symm e)];exact H'.x) H'.r];exact H'.fits
theorem qMD {t:Table} {s:Inter} (h:fU t s=true) {a b:Nat} (ha:a < t.routes.length) (hb:b < t.routes.length) (hne:a≠b):iD t s a b=false:=by
  have h':=h;unfold fU at h';rw [zQA,zQA] at h'
  have key:∀ a b,b < a→a < t.routes.length→iD t s a b=false:=λa b hba ha=>by
    have:=allB_iff.1 (allB_iff.1 h'.1.2 a ha) b hba;simpa using this
  rcases Nat.lt_or_gt_of_ne hne with hl|hl
  · rw [qJH];exact key b a hl hb
  exact key a b hl ha
theorem qMG {t:Table} {s:Inter} (h:fU t s=true) {a:Nat} (ha:a < t.routes.length):∀ e∈iQ t s a,nG t s e.el=e.pos:=by
  unfold fU at h;rw [zQA] at h;intro e he;have:=zQT.1 (allB_iff.1 h.2 a ha) e he;exact of_decide_eq_true this
theorem qHJ {t:Table} {s:Inter} (hf:fN t s=true) (h1:∀ a b,a < t.routes.length→b < t.routes.length→a≠b→iD t s a b=false) (h2:∀ a,a < t.routes.length→∀ e∈iQ t s a,nG t s e.el=e.pos):fU t s=true:=by
  unfold fU;rw [zQA,zQA];refine⟨⟨hf,allB_iff.2 λa ha=>allB_iff.2 λb hb=>?_⟩,allB_iff.2 λa ha=>zQT.2 λe he=>decide_eq_true (h2 a ha e he)⟩;rw [h1 a b ha (by omega) (by omega)];rfl
theorem yW {t:Table} {s:Inter} {p:Inputs} {n:Int} (h:oY t s p n=0):fU t s=true∧0≤n∧n < t.routes.length∧(xAt s n.toNat).state=0∧(∀ o,o < t.routes.length→lS t s n.toNat o=false)∧(∀ o,o < t.routes.length→gD t s n.toNat o=false):=by
  unfold oY at h;split at h
  · omega
  rename_i h1;split at h
  · omega
  rename_i h2;split at h
  · omega
  split at h
  · omega
  rename_i h4;split at h
  · omega
  rename_i h5
  refine ⟨by cases hs : fU t s; · exact absurd (.inl hs) h1
             · rfl, by omega, by omega, by omega, fun o ho => ?_, fun o ho => ?_⟩
  · cases hb:lS t s n.toNat o
    · rfl
    exact absurd (zQU.2 ⟨o,List.mem_range.2 ho,hb⟩) h4
  cases hb:gD t s n.toNat o
  · rfl
  exact absurd (zQU.2 ⟨o,List.mem_range.2 ho,hb⟩) h5
theorem qDO {t:Table} {s:Inter} {i o:Nat} {x:RouteState} {l:List Int} (h:o≠i):eZ t ⟨s.routes.set i x,l⟩ o=eZ t s o:=by unfold eZ;rw [vC h]
theorem qDR {t:Table} {s:Inter} {i o:Nat} {x:RouteState} {l:List Int} (h:o≠i):gJ t ⟨s.routes.set i x,l⟩ o=gJ t s o:=by unfold gJ;rw [vC h]
theorem qWE {t:Table} {s:Inter} {i o:Nat} {x:RouteState} {l:List Int} (h:o≠i):iQ t ⟨s.routes.set i x,l⟩ o=iQ t s o:=by unfold iQ;rw [vC h]
theorem qJL {t:Table} {s:Inter} {p:Inputs} {i:Nat} (h:oY t s p (i:Int)=0):fU t (kK t s i)=true:=by
  obtain⟨hs,_,hi,_,hb,hcn⟩:=yW h;have hi:i < t.routes.length:=by omega
  rw [Int.toNat_natCast] at hb hcn;have hf:=cV hs;have H:=eB hf hi;have hf':=fitsB_iff.1 hf;have hc:=cJ hf'.1;have hn:i < s.routes.length:=by omega
  have hF : fN t (kK t s i) = true := zEZ hf hi (qLE _) (qIM ..) (fun q hq => by
    refine qVJ t _ (fun p => qFU p = true) (fun e he => ?_) s.lies hf'.2.2.2.2 q hq;have he := ascS_mem.1 he;have hs := (hc.2.2.1 _ H.mem).2;unfold qS at hs;simp only [zQA] at hs
    have : 1 ≤ e.pos ∧ e.pos ≤ 2 := by
      simp only [bS, zQN] at he;rcases he with (he | he) | he
      · exact (rQ hs.1.1 he).2
      · exact (rQ hs.1.2 he).2
      exact (rQ hs.2 he).2
    exact decide_eq_true (by omega))
  have key:∀ o,o < t.routes.length→o≠i→iD t (kK t s i) i o=false:=λo ho hne=>by
    have h1:=hb o ho;unfold lS at h1;rw [decide_eq_false hne,Bool.not_false,Bool.true_and] at h1;unfold iD;rw [show eZ t (kK t s i) i=(rAt t i).sections by unfold eZ kK;rw [vB hn,qDM],show gJ t (kK t s i) i=(rAt t i).overSections by unfold gJ kK;rw [vB hn,qDP],show eZ t (kK t s i) o=eZ t s o from qDO hne,show gJ t (kK t s i) o=gJ t s o from qDR hne];exact h1
  refine qHJ hF (λa b ha hb' hne=>?_) (λa ha e he=>?_)
  · by_cases e:a=i
    · subst e;exact key b hb' (Ne.symm hne)
    by_cases e':b=i
    · subst e';rw [qJH];exact key a ha e
    have:=qMD hs ha hb' hne;unfold iD at this ⊢;rw [show eZ t (kK t s i) a=eZ t s a from qDO e,show gJ t (kK t s i) a=gJ t s a from qDR e,show eZ t (kK t s i) b=eZ t s b from qDO e',show gJ t (kK t s i) b=gJ t s b from qDR e'];exact this
  by_cases hai:a=i
  · subst hai
    exact qFI hf hi (qAU he)
  rw [show iQ t (kK t s i) a=iQ t s a from qWE hai] at he;have h1:=qMG hs ha e he;by_cases hx:∃ e'∈bS (rAt t i),e'.el=e.el
  · obtain⟨e',he',hel⟩:=hx
    have h2:=hcn a ha;unfold gD at h2;rw [decide_eq_false hai,Bool.not_false,Bool.true_and,Bool.not_eq_false'] at h2;unfold mQ at h2;have h3:=zQT.1 (zQT.1 h2 e' (ascS_mem.2 he')) e he;have h4:=qFI hf hi he';rw [hel] at h4 h3;have h5:e'.pos=e.pos:=by simpa using h3
    omega
  refine (qPI hf hi (fun x hx' hxe => hx ⟨x, hx', hxe⟩) ?_).trans h1;have H':=eB hf ha;obtain⟨q,hq,_⟩:=gB (hc.2.2.1 _ H'.mem).2 (qAU he);rw [hq];rfl
abbrev eJ (p:Inputs) (n:Int):Bool:=gM p.occupied n
def eN (p:Inputs) (i:Nat):Bool:=decide (p.claimed.length≤i)||p.claimed.getD i false
def lW (p:Inputs) (i:Nat):Bool:=decide (i < p.passed.length)&&p.passed.getD i false
def lZ (p:Inputs) (i:Nat):Bool:=decide ((i:Int)∈p.cancels)
def tS (t:Table) (p:Inputs) (e:Setting):Bool:=decide (p.detected[aK t e.el]?=some e.pos)
def jH (t:Table) (p:Inputs) (r:Route):Bool:=!((r.sections++r.overSections).any (eJ p))&&(eG (bS r)).all (tS t p)
def lM (t:Table) (s:Inter) (p:Inputs) (i:Nat):Bool:=!(eZ t s i).any (eJ p)
def idleX:RouteState:=⟨0,0,0⟩
def eH (r:Route) (k:Int):Int:=r.sections.getD k.toNat 0
def mJ (r:Route) (p:Inputs) (c q l m v:Bool) (x:RouteState):RouteState:=
 if x.state=1 then (if l=true then idleX else if v=true then ⟨2,0,0⟩ else ⟨1,0,0⟩)
 else if x.state=2 then
  (if eJ p (eH r 0) = true then ⟨3, 0, 0⟩
  else if (l && !c && !eJ p r.approach) = true then idleX
  else if (l || !v) = true then ⟨4, 0, 0⟩ else ⟨2, 0, 0⟩)
 else if x.state=3 then
  (if c = true then ⟨3, x.rel, 0⟩
  else if (l && m) = true then ⟨4, x.rel, 0⟩
  else if (!eJ p (eH r x.rel)) = true then
   (if x.rel = (r.sections.length : Int) - 1 then idleX else if (q || eJ p (eH r (x.rel + 1))) = true then ⟨3, x.rel + 1, 0⟩ else ⟨3, x.rel, 0⟩)
  else if x.rel < (r.sections.length : Int) - 1 then ⟨3, x.rel, 0⟩
  else if x.timer + 1 = 4 then idleX else ⟨3, x.rel, x.timer + 1⟩)
 else if x.state=4 then
  (if eJ p (eH r x.rel) = true then ⟨3, x.rel, 0⟩
  else if (c || !m) = true then ⟨4, x.rel, 0⟩
  else if x.timer + 1 = 12 then idleX else ⟨4, x.rel, x.timer + 1⟩)
 else idleX
section
variable {r:Route} {p:Inputs} {c q l m v:Bool} {x:RouteState}
theorem qGF (h:x.state=1):mJ r p c q l m v x=if l=true then idleX else if v=true then ⟨2,0,0⟩ else ⟨1,0,0⟩:=by unfold mJ;rw [if_pos h]
theorem qNZ (h:x.state=2):mJ r p c q l m v x=if eJ p (eH r 0)=true then ⟨3,0,0⟩ else if (l&&!c&&!eJ p r.approach)=true then idleX else if (l||!v)=true then ⟨4,0,0⟩ else ⟨2,0,0⟩:=by unfold mJ;rw [if_neg (by omega),if_pos h]
theorem qXO (h:x.state=3):mJ r p c q l m v x=if c=true then ⟨3,x.rel,0⟩
  else if (l&&m)=true then ⟨4,x.rel,0⟩
  else if (!eJ p (eH r x.rel))=true then
   (if x.rel=(r.sections.length:Int) - 1 then idleX else if (q||eJ p (eH r (x.rel+1)))=true then ⟨3,x.rel+1,0⟩ else ⟨3,x.rel,0⟩)
  else if x.rel < (r.sections.length:Int) - 1 then ⟨3,x.rel,0⟩
  else if x.timer+1=4 then idleX else ⟨3,x.rel,x.timer+1⟩:=by unfold mJ;rw [if_neg (by omega),if_neg (by omega),if_pos h]
theorem qXN (h:x.state=4):mJ r p c q l m v x=if eJ p (eH r x.rel)=true then ⟨3,x.rel,0⟩
  else if (c||!m)=true then ⟨4,x.rel,0⟩
  else if x.timer+1=12 then idleX else ⟨4,x.rel,x.timer+1⟩:=by unfold mJ;rw [if_neg (by omega),if_neg (by omega),if_neg (by omega),if_pos h]
theorem qXP (h1:¬ x.state=1) (h2:¬ x.state=2) (h3:¬ x.state=3) (h4:¬ x.state=4):mJ r p c q l m v x=idleX:=by unfold mJ;rw [if_neg h1,if_neg h2,if_neg h3,if_neg h4]
end
def fV (t:Table) (s:Inter) (p:Inputs) (i:Nat):RouteState:=
 mJ (rAt t i) p (eN p i) (lW p i) (lZ p i) (lM t s p i) (jH t p (rAt t i)) (xAt s i)
def qXQ (t:Table) (s:Inter) (p:Inputs) (n:Int):RouteState:=if 0≤n∧n < t.routes.length∧fN t s=true then fV t s p n.toNat else idleX
structure Less (n:Nat) (x y:RouteState):Prop where
 fits:bT y n=true
 idle:x.state=0→y.state=0
 rel:y.state≠0→x.rel≤y.rel
theorem sT {x:RouteState} {n:Nat} (h:bT x n=true):((x.state=0∨x.state=1∨x.state=2)∧x.rel=0∧x.timer=0)∨(x.state=3∧0≤x.rel∧x.rel < n∧(x.timer=0∨(x.rel=n - 1∧0 < x.timer∧x.timer < 4)))∨(x.state=4∧0≤x.rel∧x.rel < n∧0≤x.timer∧x.timer < 12):=by
 by_cases h1:x.state=0∨x.state=1∨x.state=2
 ·rw [tX h1] at h;exact .inl ⟨h1,of_decide_eq_true h⟩
 by_cases h3:x.state=3
 ·rw [sG h3] at h;exact .inr (.inl ⟨h3,of_decide_eq_true h⟩)
 by_cases h4:x.state=4
 ·rw [sH h4] at h;exact .inr (.inr ⟨h4,of_decide_eq_true h⟩)
 rw [qNF h1 h3 h4] at h;cases h
theorem yA {y:RouteState} {n:Nat} (h:y=idleX∨y=⟨1,0,0⟩∨y=⟨2,0,0⟩):bT y n=true:=by
 rcases h with rfl|rfl|rfl<;>rfl
theorem uS {k m:Int} {n:Nat} (h0:0≤k) (h1:k < n) (h2:m=0∨(k=n - 1∧0 < m∧m < 4)):bT ⟨3,k,m⟩ n=true:=by
 rw [sG rfl];exact decide_eq_true ⟨h0,h1,h2⟩
theorem yX {k m:Int} {n:Nat} (h0:0≤k) (h1:k < n) (h2:0≤m) (h3:m < 12):bT ⟨4,k,m⟩ n=true:=by
 rw [sH rfl];exact decide_eq_true ⟨h0,h1,h2,h3⟩
theorem zAD {r:Route} {p:Inputs} {c q l m v:Bool} {x:RouteState} (hn:0 < r.sections.length) (h:bT x r.sections.length=true):Less r.sections.length x (mJ r p c q l m v x):=by
 have idle:Less r.sections.length x idleX:=⟨yA (.inl rfl),λ_=>rfl,λh=>absurd rfl h⟩;rcases sT h with ⟨h1,h2,h3⟩|⟨h1,h2,h3,h4⟩|⟨h1,h2,h3,h4,h5⟩
 ·unfold mJ;rcases h1 with h1|h1|h1
  ·rw [if_neg (by omega),if_neg (by omega),if_neg (by omega),if_neg (by omega)];exact idle
  ·rw [if_pos h1];split
   ·exact idle
   split
   ·exact⟨yA (.inr (.inr rfl)),λh=>by omega,λ_=>by simp only [];omega⟩
   exact⟨yA (.inr (.inl rfl)),λh=>by omega,λ_=>by simp only [];omega⟩
  rw [if_neg (by omega), if_pos h1];split
  ·exact⟨uS (by omega) (by omega) (.inl rfl),λh=>by omega,λ_=>by simp only [];omega⟩
  split
  ·exact idle
  split
  ·exact⟨yX (by omega) (by omega) (by omega) (by omega),λh=>by omega,λ_=>by simp only [];omega⟩
  exact⟨yA (.inr (.inr rfl)),λh=>by omega,λ_=>by simp only [];omega⟩
 ·unfold mJ;rw [if_neg (by omega),if_neg (by omega),if_pos h1];have stay:Less r.sections.length x ⟨3,x.rel,0⟩:=⟨uS h2 h3 (.inl rfl),λh=>by omega,λ_=>Int.le_refl _⟩;split
  ·exact stay
  split
  ·exact⟨yX h2 h3 (by omega) (by omega),λh=>by omega,λ_=>Int.le_refl _⟩
  split
  ·split
   ·exact idle
   split
   ·exact⟨uS (by omega) (by omega) (.inl rfl),λh=>by omega,λ_=>by simp only [];omega⟩
   exact stay
  split
  ·exact stay
  split
  ·exact idle
  exact⟨uS h2 h3 (.inr (by omega)),λh=>by omega,λ_=>Int.le_refl _⟩
 unfold mJ;rw [if_neg (by omega),if_neg (by omega),if_neg (by omega),if_pos h1];split
 ·exact⟨uS h2 h3 (.inl rfl),λh=>by omega,λ_=>Int.le_refl _⟩
 split
 ·exact⟨yX h2 h3 (by omega) (by omega),λh=>by omega,λ_=>Int.le_refl _⟩
 split
 ·exact idle
 exact⟨yX h2 h3 (by omega) (by omega),λh=>by omega,λ_=>Int.le_refl _⟩
theorem qSV {x y:RouteState} {n:Nat} {r:Route} (h:Less n x y) (hx:0≤x.rel):∃ d,jJ r y=(jJ r x).drop d:=by
 by_cases hy:y.state=0
 ·exact⟨(jJ r x).length,by unfold jJ;rw [if_pos hy,List.drop_length]⟩
 have hx0 : ¬ x.state = 0 := fun e => hy (h.idle e);have:=h.rel hy;refine⟨y.rel.toNat - x.rel.toNat,?_⟩;unfold jJ;rw [if_neg hy,if_neg hx0,List.drop_drop]
 congr 1
 omega
theorem qLQ {x y:RouteState} {n:Nat} {r:Route} (h:Less n x y) (hx:0≤x.rel):∀ k,k∈jJ r y→k∈jJ r x:=by
 obtain⟨d,hd⟩:=qSV (r:=r) h hx;intro k hk;rw [hd] at hk;exact List.mem_of_mem_drop hk
theorem zAP {x y:RouteState} {n:Nat} {r:Route} (h:Less n x y):lF r y=[]∨lF r y=lF r x:=by
 by_cases hy:y.state=0
 ·exact .inl (by unfold lF;rw [if_pos hy])
 have hx0 : ¬ x.state = 0 := fun e => hy (h.idle e);exact .inr (by unfold lF;rw [if_neg hy,if_neg hx0])
theorem qVK {t:Table} {x y:RouteState} {n:Nat} {r:Route} (h:Less n x y) (hx:0≤x.rel):∀ e,e∈lT t r y→e∈lT t r x:=by
 intro e he;by_cases hy:y.state=0
 ·unfold lT at he;rw [if_pos hy] at he;cases he
 have hx0 : ¬ x.state = 0 := fun e => hy (h.idle e);have hr:=h.rel hy;unfold lT at he ⊢;rw [if_neg hy] at he;rw [if_neg hx0];rw [ascS_mem] at he ⊢;simp only [zQN,List.mem_filter] at he ⊢;rcases he with (he|he)|he
 ·refine .inl (.inl ⟨he.1,?_⟩);have h2:=he.2;unfold wD at h2 ⊢;simp only [Bool.not_eq_true',decide_eq_false_iff_not] at h2 ⊢;intro hm;refine h2 ?_;have:x.rel.toNat≤y.rel.toNat:=by omega
  have h3:r.sections.take x.rel.toNat=(r.sections.take y.rel.toNat).take x.rel.toNat:=by rw [List.take_take,Nat.min_eq_left this]
  rw [h3] at hm;exact List.mem_of_mem_take hm
 ·exact .inl (.inr he)
 exact .inr he
theorem vR {a b c d:List Int} (h1:∀ n,n∈a→n∈c) (h2:∀ n,n∈b→n∈d) (h:mY c d=false):mY a b=false:=by
 unfold mY at h ⊢;rw [List.any_eq_false] at h ⊢;intro n hn;have:=h n (h1 n hn);simp only [decide_eq_true_eq] at this ⊢;exact λhb=>this (h2 n hb)
theorem qTD {a b:Route} {pa oa pb ob pa' oa' pb' ob':List Int} (h1:∀ n,n∈pa→n∈pa') (h2:∀ n,n∈oa→n∈oa') (h3:∀ n,n∈pb→n∈pb') (h4:∀ n,n∈ob→n∈ob') (h:mO a b pa' oa' pb' ob'=false):mO a b pa oa pb ob=false:=by
 unfold mO at h ⊢;simp only [Bool.or_eq_false_iff] at h ⊢
 have imp:∀ {u v w:Bool},(u=false→w=false)→(u&&v)=false→(w&&v)=false:=fun {u v w} hh hu=>by
  cases v with
  | false=>simp
  | true=>simpa using hh (by simpa using hu)
 refine⟨⟨⟨vR h1 h3 h.1.1.1,?_⟩,?_⟩,?_⟩
 ·exact imp (vR h2 h3) h.1.1.2
 ·exact imp (vR h1 h4) h.1.2
 have h5:=h.2;rw [Bool.and_assoc] at h5 ⊢;exact imp (vR h2 h4) h5
theorem qLL {x y:RouteState} {n:Nat} {r:Route} (h:Less n x y):∀ k,k∈lF r y→k∈lF r x:=by
 intro k hk;rcases zAP (r:=r) h with e|e
 ·rw [e] at hk;cases hk
 rw [e] at hk;exact hk
theorem qUH {t:Table} {s s':Inter} (h:fU t s=true) (hl:s'.lies=s.lies) (hlen:s'.routes.length=s.routes.length) (hless:∀ i,i < t.routes.length→Less (rAt t i).sections.length (xAt s i) (xAt s' i)):fU t s'=true:=by
 have hf:=cV h;have hf':=fitsB_iff.1 hf
 have hF : fN t s' = true := fitsB_iff.2 ⟨hf'.1, by omega, by rw [hl]; exact hf'.2.2.1, fun i hi => by
  have H := eB hf (i := i) (by omega)
  rw [iJ (qTW hi) H.r]; exact (hless i (by omega)).fits, by rw [hl]; exact hf'.2.2.2.2⟩
 have pos:∀ i,i < t.routes.length→0≤(xAt s i).rel:=λi hi=>(qBC (eB hf hi).fits).1;refine qHJ hF (λa b ha hb hne=>?_) (λa ha e he=>?_)
 ·exact qTD (qLQ (hless a ha) (pos a ha)) (qLL (hless a ha)) (qLQ (hless b hb) (pos b hb)) (qLL (hless b hb)) (qMD h ha hb hne)
 have:=qMG h ha e (qVK (hless a ha) (pos a ha) e he);unfold nG at this ⊢;rw [hl];exact this
theorem vN (p:Inputs) (n:Int):eA p n=some (eJ p n):=qYK p.occupied n
theorem qFW (l:List Int) (f:Int→Option Bool) (P:Int→Bool) (hf:∀ x,f x=some (P x)) (h:Cnt l):eO l f=some (l.any P):=by
 unfold eO jX;rw [qDY l P (λi=>.inr (i:Int)) (.inl ()) h (λi e he=>?_) (by rw [if_neg (by omega)];rfl)]
 ·have hx:l.any P=(l.findIdx? P).isSome:=by
   cases hq:l.findIdx? P with
   | none=>
    rw [List.findIdx?_eq_none_iff] at hq;have:l.any P=false:=by rw [List.any_eq_false];simpa using hq
    rw [this];rfl
   | some i=>
    obtain⟨x,hx,hp,_⟩:=rN hq;exact zQU.2 ⟨x,zQM hx,hp⟩
  rw [hx];cases l.findIdx? P<;>simp<;>omega
 have hi:=(zQQ.1 he).1;rw [if_pos (by omega),aG he,hf,aA];cases P e
 ·simp only [Bool.false_eq_true,if_false,aB (aO hi h)]
 simp only [if_true,eP]
theorem yN {t:Table} {r:Route} (h:lP t r=true):0 < r.sections.length:=by
 unfold lP at h;simp only [zQA] at h;exact of_decide_eq_true h.1.1.1.2
theorem zFB (t : Table) (s : Inter) (h : TOk t) (hc : dQ t = 0) (hlen : s.routes.length = t.routes.length) (hlies : s.lies.length = t.points.length) (f : Int → Option Bool) (hf : ∀ x, f x = some (!qFU x)) : dN (
   bB (fun x9 =>
    if x9 < (s.routes.length : Int) then
     aU s.routes x9 fun e12 =>
     aU t.routes x9 fun e13 =>
     if ((decide (e12.state < (0 : Int))) || (decide ((4 : Int) < e12.state))) = true then
      aN (
       aN (
        some false))
     else
      if ((!(((decide (e12.state = (3 : Int))) || (decide (e12.state = (4 : Int)))))) && ((!(decide (e12.rel = (0 : Int)))) || (!(decide (e12.timer = (0 : Int)))))) = true then
       aN (
        aN (
         some false))
      else
       if ((decide (e12.rel < (0 : Int))) || ((decide ((e13.sections.length : Int) ≤ e12.rel)) || (decide (e12.timer < (0 : Int))))) = true then
        aN (
         aN (
          some false))
       else
        aC (
         if e12.state = (3 : Int) then
          if (0 : Int) < e12.timer then
           aD (I64 ((e13.sections.length : Int) - (1 : Int))) <|
           if e12.rel = ((e13.sections.length : Int) - (1 : Int)) then
            some (decide ((4 : Int) ≤ e12.timer))
           else
            some true
          else
           some false
         else
          some false) fun x29 =>
        if x29 = true then
         aN (
          aN (
           some false))
        else
         if ((decide (e12.state = (4 : Int))) && (decide ((12 : Int) ≤ e12.timer))) = true then
          aN (
           aN (
            some false))
         else
          aD (I64 (x9 + (1 : Int))) <|
          some (.inl (x9 + (1 : Int)))
    else
     aN (
      some (.inl ()))) (0 : Int)) (fun _ =>
  aC (eO s.lies f) fun r44 =>
  some (!(r44))) = some (mW s.routes.length (jQ t s) && s.lies.all qFU) := by
 have hp:=h.points;have hrt:=h.routes;have hck:=cJ hc;rw [lL s.routes.length (λi=>!jQ t s i) (.inr false) (.inl ()) (by omega) (λi hi=>?_) (by rw [if_neg (by omega)];rfl),nZ]
 ·cases mW s.routes.length (jQ t s) with
  | false=>rfl
  | true=>
   simp only [Bool.not_true,Bool.false_eq_true,if_false,dB];rw [qFW s.lies _ _ hf (by unfold Cnt;omega),aA,iL,Bool.not_not,Bool.true_and]
 have hx:=qTW (s:=s) hi;have hr:=qUX (t:=t) (i:=i) (by omega);have hm:=zQM hr;have hpos:=yN (hck.2.2.1 _ hm).1;have hS:=(h.each _ hm).secs
 have hfl:∀ {X:Option (Int ⊕ (Unit ⊕ Bool))},bT (xAt s i) (rAt t i).sections.length=false→X=some (.inr (.inr false))→X=if (!jQ t s i)=true then some (.inr (.inr false)) else some (.inl ((i:Int)+1)):=by
  intro X hq hX;rw [iJ hx hr,hq,hX];rfl
 rw [if_pos (by omega),aG hx,aG hr]
 have nofit:∀ (hq:¬ (((xAt s i).state=0∨(xAt s i).state=1∨(xAt s i).state=2)∧(xAt s i).rel=0∧(xAt s i).timer=0)) (hq2:¬ ((xAt s i).state=3∧0≤(xAt s i).rel∧(xAt s i).rel < (rAt t i).sections.length∧((xAt s i).timer=0∨((xAt s i).rel=(rAt t i).sections.length - 1∧0 < (xAt s i).timer∧(xAt s i).timer < 4)))) (hq3:¬ ((xAt s i).state=4∧0≤(xAt s i).rel∧(xAt s i).rel < (rAt t i).sections.length∧0≤(xAt s i).timer∧(xAt s i).timer < 12)),bT (xAt s i) (rAt t i).sections.length=false:=by
  intro h1 h2 h3;cases hq:bT (xAt s i) (rAt t i).sections.length
  ·rfl
  rcases sT hq with h|h|h
  ·exact absurd h h1
  ·exact absurd h h2
  exact absurd h h3
 by_cases c1:(xAt s i).state < 0∨4 < (xAt s i).state
 ·rw [if_pos (by simpa using c1)];exact hfl (nofit (by omega) (by omega) (by omega)) rfl
 rw [if_neg (by simpa using c1)];by_cases c2:¬ ((xAt s i).state=3∨(xAt s i).state=4)∧(¬ (xAt s i).rel=0∨¬ (xAt s i).timer=0)
 ·rw [if_pos (by simp only [zQA, Bool.or_eq_true, Bool.not_eq_true', Bool.or_eq_false_iff, decide_eq_false_iff_not]; omega)];exact hfl (nofit (by omega) (by omega) (by omega)) rfl
 rw [if_neg (by simp only [zQA, Bool.or_eq_true, Bool.not_eq_true', Bool.or_eq_false_iff, decide_eq_false_iff_not]; omega)];by_cases c3:(xAt s i).rel < 0∨((rAt t i).sections.length:Int)≤(xAt s i).rel∨(xAt s i).timer < 0
 ·rw [if_pos (by simpa using c3)];exact hfl (nofit (by omega) (by omega) (by omega)) rfl
 rw [if_neg (by simpa using c3)]
 have key:(if (xAt s i).state=(3:Int) then if (0:Int) < (xAt s i).timer then aD (I64 (((rAt t i).sections.length:Int) - (1:Int))) <| if (xAt s i).rel=(((rAt t i).sections.length:Int) - (1:Int)) then some (decide ((4:Int)≤(xAt s i).timer)) else some true else some false else some false)=some (decide ((xAt s i).state=3∧0 < (xAt s i).timer∧¬ ((xAt s i).rel=((rAt t i).sections.length:Int) - 1∧(xAt s i).timer < 4))):=by
  rw [aB (by constructor<;>omega)];by_cases d1:(xAt s i).state=3
  ·rw [if_pos d1];by_cases d2:0 < (xAt s i).timer
   ·rw [if_pos d2];by_cases d3:(xAt s i).rel=((rAt t i).sections.length:Int) - 1
    ·rw [if_pos d3];congr 1;rw [decide_eq_decide];omega
    rw [if_neg d3];congr 1;symm;rw [decide_eq_true_eq];omega
   rw [if_neg d2];congr 1;symm;rw [decide_eq_false_iff_not];omega
  rw [if_neg d1];congr 1;symm;rw [decide_eq_false_iff_not];omega
 rw [key,aA];by_cases c4:(xAt s i).state=3∧0 < (xAt s i).timer∧¬ ((xAt s i).rel=((rAt t i).sections.length:Int) - 1∧(xAt s i).timer < 4)
 ·rw [if_pos (decide_eq_true c4)];exact hfl (nofit (by omega) (by omega) (by omega)) rfl
 rw [if_neg (by simpa using c4)];by_cases c5:(xAt s i).state=4∧12≤(xAt s i).timer
 ·rw [if_pos (by simpa using c5)];exact hfl (nofit (by omega) (by omega) (by omega)) rfl
 rw [if_neg (by simpa using c5), aB (aO hi (by omega)), iJ hx hr]
 have:bT (xAt s i) (rAt t i).sections.length=true:=by
  by_cases e3:(xAt s i).state=3
  ·rw [sG e3];exact decide_eq_true (by omega)
  by_cases e4:(xAt s i).state=4
  ·rw [sH e4];exact decide_eq_true (by omega)
  rw [tX (by omega)];exact decide_eq_true (by omega)
 rw [this];rfl
theorem zDL (t:Table) (s:Inter) (h:TOk t):nC t s=some (fN t s):=by
 unfold nC fN;simp only [tB t h,aA,qLY];by_cases hd:dQ t=0∧s.routes.length=t.routes.length∧s.lies.length=t.points.length
 ·rw [decide_eq_true hd];simp only [Bool.not_true,Bool.false_eq_true,if_false,Bool.true_and];refine zFB t s h hd.1 hd.2.1 hd.2.2 _ λx=>?_;unfold mT qFU
  congr 1
  by_cases h1:x=1<;>by_cases h2:x=2<;>simp [h1,h2]
 simp [hd]
theorem qRD (t:Table) (s:Inter) (p:Inputs) (n:Int) (h:TOk t):eY t s p n=some (!(qEU t s n).any (eJ p)):=by
 have hl:=qZZ t s n h;unfold eY;rw [zNN t s n h,aA,fE (qEU t s n) (eJ p) (.inr false) (.inl ()) (by omega) (λi x hx=>?_) (by rw [if_neg (by omega)];rfl)]
 ·cases (qEU t s n).any (eJ p)<;>rfl
 have hi:=(zQQ.1 hx).1;rw [if_pos (by omega),aG hx,vN,aA,aB (aO hi (by omega))];cases eJ p x<;>rfl
theorem zAY {t:Table} {p:Inputs} {e:Setting} {q:Nat} (hq:bY t.points e.el=some q):(if (p.detected.length:Int)≤(q:Int) then some true else aU p.detected (q:Int) λe25=>some (!(decide (e25=e.pos))))=some (!tS t p e):=by
 have hpl:aK t e.el=q:=by simp [aK,hq]
 unfold tS;rw [hpl];by_cases h1:(p.detected.length:Int)≤(q:Int)
 ·rw [if_pos h1,List.getElem?_eq_none (by omega)];rfl
 have hx : p.detected[q]? = some (p.detected[q]'(by omega)) := by rw [zQR]
 rw [if_neg h1,aG hx,hx]
 congr 2
 rw [decide_eq_decide];simp
theorem qMY {r:Route} (h:Short r):(eG (bS r)).length≤6000000:=by
 have:=lJ (bS r);simp only [bS,zQL] at this ⊢;have a:=h.points;have b:=h.over;have c:=h.flank;omega
theorem qHU (t:Table) (p:Inputs) (r:Route) (h:TOk t) (ho:SOk t) (hc:dQ t=0) (hr:r∈t.routes):jR t p r=some (jH t p r):=by
 have hS:=h.each r hr;have hs:=hS.secs;have hp:=h.points;have hlen:=qMY hS;have hck:=cJ hc;unfold jR jH;rw [yZ _ (by simp;omega),aA];have hfl:([r.sections,r.overSections]:List (List Int)).flatten=r.sections++r.overSections:=by simp
 rw [hfl,fE (r.sections++r.overSections) (eJ p) (.inr false) (.inl ()) (by simp;omega) (λi x hx=>?_) (by rw [if_neg (by omega)];rfl)]
 ·cases (r.sections++r.overSections).any (eJ p) with
  | true=>rfl
  | false=>
   simp only [Bool.false_eq_true,if_false,dB,Bool.not_false,Bool.true_and];rw [qH r hS (ho r hr),aA,fE (eG (bS r)) (λe=>!tS t p e) (.inr false) (.inl ()) (by omega) (λi e he=>?_) (by rw [if_neg (by omega)];rfl),iL]
   ·cases (eG (bS r)).all (tS t p)<;>rfl
   have hi:=(zQQ.1 he).1;obtain⟨q,hq,hql⟩:=gB (hck.2.2.1 _ hr).2 (ascS_mem.1 (zQM he));rw [if_pos (by omega),aG he,mR t e.el (by unfold Cnt;omega),aA,hq,show fM (some q)=(q:Int) from rfl,zAY hq,aA,aB (aO hi (by omega))];cases tS t p e<;>rfl
 have hi:=(zQQ.1 hx).1;rw [if_pos (by omega),aG hx,vN,aA,aB (aO hi (by simp at hi ⊢;omega))];cases eJ p x<;>rfl
theorem zCJ {r:Route} {k:Int} (h0:0≤k) (h1:k < r.sections.length):0≤k∧r.sections[k.toNat]?=some (eH r k):=by
 refine⟨h0,?_⟩;unfold eH;rw [zQR (by omega),zQD,zQR (by omega)];rfl
theorem qBZ {β:Type} {r:Route} {k:Int} (h0:0≤k) (h1:k < r.sections.length) (f:Int→Option β):aU r.sections k f=f (eH r k):=oX h0 (zCJ h0 h1).2
section view
variable {t:Table} {p:Inputs} {r:Route} {x:RouteState} {c q l m:Bool}
theorem qTA {y:RouteState} (h:TOk t) (ho:SOk t) (hc:dQ t=0) (hr:r∈t.routes) (hx:x.state=2):iG ⟨t,p,r,y,c,q,l,m⟩=some (mJ r p c q l m (jH t p r) x):=by
 have hpos:=yN ((cJ hc).2.2.1 _ hr).1;rw [qNZ hx];unfold iG;dsimp only;rw [qBZ (by omega) (by omega),vN,aA]
 cases eJ p (eH r 0) with
 | true=>rfl
 | false=>
  simp only [Bool.false_eq_true,if_false,vN,aA,qHU t p r h ho hc hr];cases l<;>cases c<;>cases eJ p r.approach<;>cases jH t p r<;>rfl
theorem zIL (hx:x.state=3) (h:Short r) (hf:bT x r.sections.length=true) (v:Bool):jC ⟨t,p,r,x,c,q,l,m⟩=some (mJ r p c q l m v x):=by
 have hS:=h.secs;rcases sT hf with ⟨h1,_,_⟩|⟨_,h2,h3,h4⟩|⟨h1,_⟩
 ·omega
 ·rw [qXO hx];unfold jC;dsimp only;rw [aB (by constructor<;>omega)]
  cases c with
  | true=>rfl
  | false=>
   simp only [Bool.false_eq_true,if_false];by_cases hlm:(l&&m)=true
   ·rw [if_pos hlm,if_pos hlm]
   rw [if_neg hlm, if_neg hlm, qBZ h2 (by omega), vN, aA]
   cases eJ p (eH r x.rel) with
   | false=>
    simp only [Bool.not_false,if_true];by_cases hk:x.rel=(r.sections.length:Int) - 1
    ·rw [if_pos hk,if_pos hk];rfl
    rw [if_neg hk,if_neg hk];have hg:I64 (x.rel+1):=by constructor<;>omega
    rw [aB hg,aB hg,qBZ (by omega) (by omega),vN];cases q<;>cases eJ p (eH r (x.rel+1))<;>rfl
   | true=>
    simp only [Bool.not_true,Bool.false_eq_true,if_false];by_cases hk:x.rel < (r.sections.length:Int) - 1
    ·rw [if_pos hk,if_pos hk]
    rw [if_neg hk, if_neg hk, aB (by constructor <;> omega)];by_cases ht:x.timer+1=4
    ·rw [if_pos ht,if_pos ht];rfl
    rw [if_neg ht,if_neg ht]
 omega
theorem zKE (hx:x.state=4) (h:Short r) (hf:bT x r.sections.length=true) (v:Bool):jD ⟨t,p,r,x,c,q,l,m⟩=some (mJ r p c q l m v x):=by
 have hS:=h.secs;rcases sT hf with ⟨h1,_,_⟩|⟨h1,_⟩|⟨_,h2,h3,h4,h5⟩
 ·omega
 ·omega
 rw [qXN hx];unfold jD;dsimp only;rw [qBZ h2 (by omega),vN,aA]
 cases eJ p (eH r x.rel) with
 | true=>rfl
 | false=>
  simp only [Bool.false_eq_true,if_false];by_cases hcm:(c||!m)=true
  ·rw [if_pos hcm,if_pos hcm]
  rw [if_neg hcm, if_neg hcm, aB (by constructor <;> omega)];by_cases ht:x.timer+1=12
  ·rw [if_pos ht,if_pos ht];rfl
  rw [if_neg ht,if_neg ht]
end view
theorem qCA {β:Type} {p:Inputs} {i:Nat} (h:¬ (p.claimed.length:Int)≤(i:Int)) (f:Bool→Option β):aU p.claimed (i:Int) f=f (eN p i):=by
 have hi:i < p.claimed.length:=by omega
 have hx:p.claimed[i]?=some (eN p i):=by
  unfold eN;rw [decide_eq_false (by omega),Bool.false_or,zQD,zQR hi];rfl
 exact aG hx
theorem qFE {β:Type} {p:Inputs} {i:Nat} (h:(i:Int) < (p.passed.length:Int)) (f:Bool→Option β):aU p.passed (i:Int) f=f (lW p i):=by
 have hi:i < p.passed.length:=by omega
 have hx:p.passed[i]?=some (lW p i):=by
  unfold lW;rw [decide_eq_true hi,Bool.true_and,zQD,zQR hi];rfl
 exact aG hx
theorem qFH {p:Inputs} {i:Nat} (h:(p.claimed.length:Int)≤(i:Int)):eN p i=true:=by unfold eN;rw [decide_eq_true (by omega)];rfl
theorem qHZ {p:Inputs} {i:Nat} (h:¬ (i:Int) < (p.passed.length:Int)):lW p i=false:=by unfold lW;rw [decide_eq_false (by omega)];rfl
theorem qIC {t:Table} {s:Inter} {p:Inputs} {n:Int} (h:¬ (0≤n∧n < t.routes.length∧fN t s=true)):qXQ t s p n=idleX:=if_neg h
theorem qRK {t:Table} {s:Inter} {p:Inputs} {i:Nat} (hi:i < t.routes.length) (hf:fN t s=true):qXQ t s p (i:Int)=fV t s p i:=by
 unfold qXQ;rw [if_pos ⟨by omega,by omega,hf⟩,Int.toNat_natCast]
theorem zIC (t:Table) (s:Inter) (p:Inputs) (n:Int) (h:TOk t) (ho:SOk t) (hp:p.cancels.length≤5000000):nD t s p n=some (qXQ t s p n):=by
 unfold nD;by_cases h0:n < 0
 ·rw [if_pos h0,qIC (by omega)];rfl
 by_cases h1:(t.routes.length:Int)≤n
 ·rw [if_neg h0,if_pos h1,qIC (by omega)];rfl
 rw [if_neg h0,if_neg h1,zDL t s h,aA,aA]
 cases hf:fN t s with
 | false=>rw [qIC (by rw [hf];simp)];rfl
 | true=>
  obtain⟨i,rfl⟩:=Int.eq_ofNat_of_zero_le (show 0≤n by omega);have hi:i < t.routes.length:=by omega
  have H:=eB hf hi;have hc:=(fitsB_iff.1 hf).1;have hS:=h.each _ H.mem;rw [qRK hi hf];simp only [Bool.not_true,Bool.false_eq_true,if_false];have hE:eY t s p (i:Int)=some (lM t s p i):=by rw [qRD t s p _ h,zDM hf H];rfl
  have hC:bP p.cancels (i:Int)=some (lZ p i):=mN _ _ (by unfold Cnt;omega);rw [hE,hC,aG H.r,aG H.x]
  have key:∀ {β:Type} (f:Bool→Bool→Option β),(if (p.claimed.length:Int)≤(i:Int) then if (i:Int) < (p.passed.length:Int) then aU p.passed (i:Int) λe42=>f true e42 else f true false else aU p.claimed (i:Int) λe32=>if (i:Int) < (p.passed.length:Int) then aU p.passed (i:Int) λe36=>f e32 e36 else f e32 false)=f (eN p i) (lW p i):=by
   intro β f;by_cases a1:(p.claimed.length:Int)≤(i:Int)<;>by_cases a2:(i:Int) < (p.passed.length:Int)
   ·rw [if_pos a1,if_pos a2,qFE a2,qFH a1]
   ·rw [if_pos a1,if_neg a2,qFH a1,qHZ a2]
   ·rw [if_neg a1,qCA a1,if_pos a2,qFE a2]
   rw [if_neg a1,qCA a1,if_neg a2,qHZ a2]
  rw [key (λu v=>aC (some (lZ p i)) λr43=>aC (some (lM t s p i)) λr44=>some ((rAt t i).name,(rAt t i).entry,(rAt t i).exit,(rAt t i).path,(rAt t i).points,(rAt t i).sections,(rAt t i).approach,(rAt t i).length,(rAt t i).over,(rAt t i).overPoints,(rAt t i).overSections,(rAt t i).flank,(rAt t i).guards,(rAt t i).gaps,(xAt s i).state,(xAt s i).rel,(xAt s i).timer,u,v,r43,r44))];simp only [aA];have e2:∀ y v q l m,(⟨t,p,⟨(rAt t i).name,(rAt t i).entry,(rAt t i).exit,(rAt t i).path,(rAt t i).points,(rAt t i).sections,(rAt t i).approach,(rAt t i).length,(rAt t i).over,(rAt t i).overPoints,(rAt t i).overSections,(rAt t i).flank,(rAt t i).guards,(rAt t i).gaps⟩,y,v,q,l,m⟩:View)=⟨t,p,rAt t i,y,v,q,l,m⟩:=λ_ _ _ _ _=>rfl;have e3:(⟨(xAt s i).state,(xAt s i).rel,(xAt s i).timer⟩:RouteState)=xAt s i:=rfl;have e4:(⟨(rAt t i).name,(rAt t i).entry,(rAt t i).exit,(rAt t i).path,(rAt t i).points,(rAt t i).sections,(rAt t i).approach,(rAt t i).length,(rAt t i).over,(rAt t i).overPoints,(rAt t i).overSections,(rAt t i).flank,(rAt t i).guards,(rAt t i).gaps⟩:Route)=rAt t i:=rfl;simp only [e2,e3,e4];unfold fV;have hP:=qHU t p (rAt t i) h ho hc H.mem;by_cases s1:(xAt s i).state=1
  ·rw [if_pos s1,hP,aA];rcases sT H.fits with ⟨_,hr0,ht0⟩|⟨hh,_⟩|⟨hh,_⟩
   ·have hxe : xAt s i = ⟨1, 0, 0⟩ := by rw [← e3, s1, hr0, ht0]
    cases hcl:lZ p i with
    | true=>rw [qGF s1];rfl
    | false=>
     simp only [Bool.false_eq_true,if_false]
     cases hpv:jH t p (rAt t i) with
     | false=>rw [qGF s1,hxe];rfl
     | true=>
      simp only [Bool.not_true,Bool.false_eq_true,if_false,dB];have hcl2:=qTA (x:=⟨2,0,0⟩) (y:=xAt s i) (p:=p) (c:=eN p i) (q:=lW p i) (l:=false) (m:=lM t s p i) h ho hc H.mem rfl;rw [hcl2,aA,qNZ rfl,qGF s1]
      have hfree:eJ p (eH (rAt t i) 0)=false:=by
       have hpos:=yN ((cJ hc).2.2.1 _ H.mem).1;have hm:eH (rAt t i) 0∈(rAt t i).sections++(rAt t i).overSections:=zQN.2 (.inl (zQM (zCJ (r:=rAt t i) (k:=0) (by omega) (by omega)).2));unfold jH at hpv;rw [zQA,Bool.not_eq_true',List.any_eq_false] at hpv;have:=hpv.1 _ hm;simpa using this
      rw [hfree,hpv];rfl
   ·omega
   omega
  rw [if_neg s1];by_cases s2:(xAt s i).state=2
  ·rw [if_pos s2];simp only [dB];rw [qTA (x:=xAt s i) h ho hc H.mem s2];rfl
  rw [if_neg s2];by_cases s3:(xAt s i).state=3
  ·rw [if_pos s3,zIL s3 hS H.fits (jH t p (rAt t i))];rfl
  rw [if_neg s3];by_cases s4:(xAt s i).state=4
  ·rw [if_pos s4,zKE s4 hS H.fits (jH t p (rAt t i))];rfl
  rw [if_neg s4,qXP s1 s2 s3 s4];rfl
def qIR (x:Int):List Int→List Int
 | []=>[x]
 | y :: r=>if x < y then x :: y :: r else if x=y then y :: r else y :: qIR x r
def mP:List Int→List Int
 | []=>[]
 | x :: r=>qIR x (mP r)
abbrev qPP (l:List Int):Prop:=l.Pairwise (· < ·)
theorem insZ_mem {s x:Int}:∀ {l},s∈qIR x l↔s=x∨s∈l
 | []=>by simp [qIR]
 | y :: r=>by
  unfold qIR;split
  ·simp
  split
  ·rename_i e;subst e;simp
  simp only [zQB,insZ_mem];grind
theorem ascZ_mem {s:Int}:∀ {l},s∈mP l↔s∈l
 | []=>by simp [mP]
 | x :: r=>by simp [mP,insZ_mem,ascZ_mem]
theorem qSH (x:Int):∀ l,qPP l→qPP (qIR x l)
 | [],_=>by simp [qIR]
 | y :: r,h=>by
  have h':=List.pairwise_cons.1 h;unfold qIR;split
  ·rename_i hlt;refine List.pairwise_cons.2 ⟨λa ha=>?_,h⟩;rcases zQB.1 ha with rfl|ha
   ·exact hlt
   have:=h'.1 a ha;omega
  split
  ·exact h
  refine List.pairwise_cons.2 ⟨fun a ha => ?_, qSH x r h'.2⟩;rcases insZ_mem.1 ha with rfl|ha
  ·omega
  exact h'.1 a ha
theorem qJV:∀ l,qPP (mP l)
 | []=>.nil
 | x :: r=>qSH x _ (qJV r)
theorem qFM:∀ {l m:List Int},qPP l→qPP m→(∀ s,s∈l↔s∈m)→l=m
 | [],[],_,_,_=>rfl
 | [],y :: m,_,_,h=>absurd ((h y).2 (List.mem_cons_self ..)) (by simp)
 | x :: l,[],_,_,h=>absurd ((h x).1 (List.mem_cons_self ..)) (by simp)
 | x :: l,y :: m,h1,h2,h=>by
  have h1':=List.pairwise_cons.1 h1;have h2':=List.pairwise_cons.1 h2
  have hxy:x=y:=by
   rcases zQB.1 ((h x).1 (List.mem_cons_self ..)) with e|hx
   ·exact e
   rcases zQB.1 ((h y).2 (List.mem_cons_self ..)) with e|hy
   ·exact e.symm
   have:=h2'.1 x hx;have:=h1'.1 y hy;omega
  subst hxy
  congr 1
  refine qFM h1'.2 h2'.2 λs=>⟨λhs=>?_,λhs=>?_⟩
  ·rcases zQB.1 ((h s).1 (List.mem_cons_of_mem _ hs)) with e|hm
   ·have:=h1'.1 s hs;omega
   exact hm
  rcases zQB.1 ((h s).2 (List.mem_cons_of_mem _ hs)) with e|hm
  ·have:=h2'.1 s hs;omega
  exact hm
theorem zNH {l m:List Int} (h:qPP m) (hm:∀ s,s∈m↔s∈l):m=mP l:=
 qFM h (qJV l) λs=>(hm s).trans ascZ_mem.symm
theorem qSG (x:Int):∀ l,(qIR x l).length≤l.length+1
 | []=>by simp [qIR]
 | y :: r=>by
  unfold qIR;split
  ·simp
  split
  ·simp
  have:=qSG x r;simp only [List.length_cons];omega
theorem qTQ:∀ l,(mP l).length≤l.length
 | []=>zQW _
 | x :: r=>by have h1:=qTQ r;have h2:=qSG x (mP r);simp only [mP,List.length_cons];omega
theorem qMW (l:List Int):(qF l).Pairwise (·≤·):=by
 have:=rF qLD l;exact this.imp fun {a b} h=>by rw [yP] at h;simpa using h
theorem qZA {s:Int} {l:List Int}:s∈qF l↔s∈l:=(sB (m:=qZE) l).mem_iff
theorem qCF (L:List Int) (hs:L.Pairwise (·≤·)):∀ i,i≤L.length→qPP (Go.Lib.compactUpTo L.toArray i)∧∀ s,s∈Go.Lib.compactUpTo L.toArray i↔s∈L.take i
 | 0,_=>⟨.nil,λs=>by simp [Go.Lib.compactUpTo]⟩
 | i+1,hi=>by
  obtain⟨h1,h2⟩:=qCF L hs i (by omega);have hil:i < L.length:=by omega
  have htake:L.take (i+1)=L.take i++[L[i]]:=List.take_succ_eq_append_getElem hil;have hget:L.toArray[i]! = L[i]:=by rw [getElem!_pos L.toArray i (by simpa using hil)];simp
  rw [Go.Lib.compactUpTo_succ,hget];have hle:=List.pairwise_iff_getElem.1 hs
  cases hk:Go.Lib.keeps L.toArray i with
  | true=>
   rw [if_pos rfl];refine⟨List.pairwise_append.2 ⟨h1,by simp,λa ha b hb=>?_⟩,λs=>by rw [htake,zQN,zQN,h2]⟩;simp only [List.mem_singleton] at hb;subst hb;obtain⟨j,hj,rfl⟩:=List.mem_take_iff_getElem.1 ((h2 a).1 ha);have hj':j < i:=by omega
   have hi0:i≠0:=by omega
   have hk':=of_decide_eq_true hk;rcases hk' with h0|hne
   ·exact absurd h0 hi0
   rw [hget, getElem!_pos L.toArray (i - 1) (by simp; omega)] at hne;simp only [List.getElem_toArray] at hne
   have a1:L[j]≤L[i - 1]:=by
    rcases Nat.lt_or_ge j (i - 1) with h|h
    ·exact hle j (i - 1) (by omega) (by omega) h
    have : j = i - 1 := by omega
    subst this;exact Int.le_refl _
   have a2:=hle (i - 1) i (by omega) (by omega) (by omega);omega
  | false=>
   rw [if_neg (by simp),List.append_nil];refine⟨h1,λs=>?_⟩;have hk':=of_decide_eq_false hk;have hi0:i≠0:=λe=>hk' (.inl e)
   have he:L.toArray[i]! = L.toArray[i - 1]!:=by
    by_cases h:L.toArray[i]! = L.toArray[i - 1]!
    ·exact h
    exact absurd (.inr h) hk'
   rw [hget,getElem!_pos L.toArray (i - 1) (by simp;omega)] at he;simp only [List.getElem_toArray] at he;rw [h2,htake,zQN];refine⟨.inl,λh=>?_⟩;rcases h with h|h
   ·exact h
   simp only [List.mem_singleton] at h;rw [h,he];exact List.mem_take_iff_getElem.2 ⟨i - 1,by omega,rfl⟩
theorem zEI (l:List Int):Go.Lib.compact (qF l)=mP l:=by
 have h:=qCF (qF l) (qMW l) (qF l).length (zQW _);refine zNH h.1 λs=>?_;show s∈Go.Lib.compactUpTo (qF l).toArray (qF l).length↔_;rw [h.2,List.take_length,qZA]
theorem qKU (l:List Int) (h:l.length≤1000000000):sQ l=some (mP l):=by
 unfold sQ;rw [uX l h,aA,aB h,aB (by rw [rH];exact h),zEI]
def qG (t:Table) (s:Inter) (i:Nat):List Bool:=(List.range t.signals.toNat).map λ(g:Nat)=>(List.range i).any λk=>decide ((xAt s k).state=2)&&decide ((rAt t k).entry=(g:Int))
def qUM (t:Table) (s:Inter):List Bool:=qG t s t.routes.length
theorem qUK (t:Table) (s:Inter):qG t s 0=List.replicate t.signals.toNat false:=by
 unfold qG;apply List.ext_getElem?;intro j;rw [zQP,List.getElem?_replicate];by_cases h:j < t.signals.toNat
 ·rw [List.getElem?_range h,if_pos h];rfl
 rw [List.getElem?_eq_none (by simpa using h),if_neg h];rfl
theorem uJ (t:Table) (s:Inter) (i:Nat):(qG t s i).length=t.signals.toNat:=by simp [qG]
theorem qLC (t:Table) (s:Inter) (i:Nat) {g:Nat} (h:g < t.signals.toNat):(qG t s i)[g]?=some ((List.range i).any λk=>decide ((xAt s k).state=2)&&decide ((rAt t k).entry=(g:Int))):=by
 unfold qG;rw [zQP,List.getElem?_range h];rfl
theorem qUL {t:Table} {s:Inter} {i:Nat} (h:¬ (xAt s i).state=2):qG t s (i+1)=qG t s i:=by
 unfold qG
 congr 1;funext g
 rw [List.range_succ,List.any_append];simp [h]
theorem qZC {t:Table} {s:Inter} {i:Nat} (h:(xAt s i).state=2) (h0:0≤(rAt t i).entry):(qG t s i).set (rAt t i).entry.toNat true=qG t s (i+1):=by
 apply List.ext_getElem?;intro g;by_cases hg:g < t.signals.toNat
 ·rw [qLC t s (i+1) hg,List.range_succ,List.any_append];by_cases e:(rAt t i).entry.toNat=g
  ·subst e;rw [List.getElem?_set_self (by rw [uJ];exact hg)];simp [h,Int.toNat_of_nonneg h0,h0]
  rw [List.getElem?_set_ne e,qLC t s i hg];have:¬ (rAt t i).entry=(g:Int):=by omega
  simp [this]
 rw [List.getElem?_eq_none (by simpa [uJ] using hg),List.getElem?_eq_none (by simpa [uJ] using hg)]
theorem zFG {t:Table} {r:Route} (h:lP t r=true):0≤r.entry∧r.entry < t.signals:=by
 unfold lP at h;simp only [zQA] at h;have h1:=h.1.1.1.1;unfold qXW at h1;simp only [zQA] at h1;exact of_decide_eq_true h1.1.1
def iI (t:Table) (p:Inputs) (q:Inter×List Int) (n:Int):Inter×List Int:=
 if oY t q.1 p n=0 then (kK t q.1 n.toNat,q.2) else (q.1,q.2++[n])
def gK (t:Table) (p:Inputs) (q:Inter×List Int) (l:List Int):Inter×List Int:=l.foldl (iI t p) q
theorem qTF (t:Table) (p:Inputs) (q:Inter×List Int) {l:List Int} {i:Nat} {n:Int} (h:l[i]?=some n):gK t p q (l.take (i+1))=iI t p (gK t p q (l.take i)) n:=by
 obtain⟨hi,rfl⟩:=zQQ.1 h;unfold gK;rw [List.take_succ_eq_append_getElem hi,List.foldl_append];rfl
theorem qJK (t:Table) (p:Inputs) (P:Inter→Prop) (hP:∀ (s:Inter) (i:Nat),oY t s p (i:Int)=0→P s→P (kK t s i)):∀ (l:List Int) (q:Inter×List Int),P q.1→P (gK t p q l).1
 | [],_,h=>h
 | n :: r,q,h=>by
  refine qJK t p P hP r _ ?_;unfold iI;split
  ·rename_i hz;have h0:=(yW hz).2.1;obtain⟨i,rfl⟩:=Int.eq_ofNat_of_zero_le h0;exact hP _ _ hz h
  exact h
theorem qJJ (t:Table) (p:Inputs):∀ (l:List Int) (q:Inter×List Int),(gK t p q l).2.length≤q.2.length+l.length
 | [],_=>zQW _
 | n :: r,q=>by
  have:=qJJ t p r (iI t p q n)
  have h1:(iI t p q n).2.length≤q.2.length+1:=by
   unfold iI;split<;>simp
  show (gK t p (iI t p q n) r).2.length≤_;simp only [List.length_cons];omega
def cN (t:Table) (s:Inter) (p:Inputs):Inter:=⟨(List.range s.routes.length).map (fV t s p),s.lies⟩
def sV (t:Table) (s:Inter) (p:Inputs):Inter×Outputs:=
 if fU t s=true then
  ((gK t p (cN t s p,[]) (mP p.calls)).1,⟨qUM t (gK t p (cN t s p,[]) (mP p.calls)).1,(gK t p (cN t s p,[]) (mP p.calls)).1.lies,(gK t p (cN t s p,[]) (mP p.calls)).2⟩)
 else (s,⟨if dQ t=0 then List.replicate t.signals.toNat false else [],s.lies,mP p.calls⟩)
theorem qNN {t:Table} {s:Inter} {p:Inputs} {i:Nat} (h:i < s.routes.length):xAt (cN t s p) i=fV t s p i:=by
 unfold xAt cN;rw [zQP,List.getElem?_range h];rfl
theorem xI {t:Table} {s:Inter} {p:Inputs} (h:fU t s=true):fU t (cN t s p)=true:=by
 have hf:=cV h;have hf':=fitsB_iff.1 hf;refine qUH h rfl (by simp [cN]) λi hi=>?_;rw [qNN (by omega)];have H:=eB hf hi;exact zAD (yN ((cJ hf'.1).2.2.1 _ H.mem).1) H.fits
theorem zKP {t:Table} {s:Inter} {i o:Nat} (hi:i < s.routes.length):xAt (kK t s i) o=if o=i then wW else xAt s o:=by
 by_cases e:o=i
 ·subst e;rw [if_pos rfl];exact vB hi
 rw [if_neg e];exact vC e
theorem zBD {t:Table} {s:Inter} {p:Inputs} {i:Nat} (hz:oY t s p (i:Int)=0) {k:Nat} (hk:k < t.points.length):(kK t s i).lies[k]?=s.lies[k]?∨∃ n,t.homes[k]?=some n∧eJ p n=false:=by
 obtain⟨hs,_,hi,_⟩:=yW hz;have hi:i < t.routes.length:=by omega
 have hf:=cV hs;have H:=eB hf hi;have hf':=fitsB_iff.1 hf;have hc:=cJ hf'.1;by_cases hex:∃ e∈bS (rAt t i),aK t e.el=k∧¬ nG t s e.el=e.pos
 ·right;obtain⟨e,he,hek,hne⟩:=hex;obtain⟨q,hq,hql⟩:=gB (hc.2.2.1 _ H.mem).2 he;have hqk:q=k:=by rw [← hek];simp [aK,hq]
  subst hqk;refine⟨pP t e.el,xX hf'.1 hq,?_⟩
  have hb:∀ e∈bS (rAt t i),kS t s p e=false:=by
   intro e he;unfold oY at hz;split at hz
   ·omega
   split at hz
   ·omega
   split at hz
   ·omega
   split at hz
   ·omega
   split at hz
   ·omega
   split at hz
   ·omega
   rename_i h6;rw [Int.toNat_natCast] at h6
   cases hbl:kS t s p e with
   | false=>rfl
   | true=>exact absurd (zQU.2 ⟨e,ascS_mem.2 he,hbl⟩) h6
  have:=hb e he;unfold kS at this;rw [decide_eq_false hne,Bool.not_false,Bool.true_and] at this;exact this
 left;have hall:∀ e∈bS (rAt t i),aK t e.el=k→nG t s e.el=e.pos:=λe he hek=>Classical.byContradiction λh=>hex ⟨e,he,hek,h⟩;have hkl:k < s.lies.length:=by omega
 have hv:s.lies[k]?=some s.lies[k]:=zQR hkl
 have := qAO t (eG (bS (rAt t i))) k s.lies[k] (fun e he hek => by
  have he := ascS_mem.1 he;have h1 := hall e he hek;obtain ⟨q, hq, hql⟩ := gB (hc.2.2.1 _ H.mem).2 he;have hqk : q = k := by rw [← hek]; simp [aK, hq]
  subst hqk;have := qBT hf hq;rw [hv] at this
  rw [← h1]; exact (Option.some.inj this).symm) s.lies hkl (.inr hv)
 show (lQ t (eG (bS (rAt t i))) s.lies)[k]?=_;rw [this,hv]
def vF (t:Table):Inter:=if dQ t=0 then ⟨List.replicate t.routes.length idleX,List.replicate t.points.length 1⟩ else ⟨[],[]⟩
theorem qPZ {t:Table} (h:dQ t=0):fU t (vF t)=true:=by
 unfold vF;rw [if_pos h]
 have hx:∀ i,i < t.routes.length→xAt ⟨List.replicate t.routes.length idleX,List.replicate t.points.length 1⟩ i=idleX:=λi hi=>by
  unfold xAt;rw [List.getElem?_replicate,if_pos hi];rfl
 have hF:fN t ⟨List.replicate t.routes.length idleX,List.replicate t.points.length 1⟩=true:=by
  refine fitsB_iff.2 ⟨h,by simp,by simp,λi hi=>?_,λp hp=>?_⟩
  ·simp only [List.length_replicate] at hi;rw [iJ (x:=idleX) (by rw [List.getElem?_replicate,if_pos hi]) (qUX hi)];exact yA (.inl rfl)
  rw [List.eq_of_mem_replicate hp];rfl
 refine qHJ hF (λa b ha hb hne=>?_) (λa ha e he=>?_)
 ·unfold iD eZ gJ;rw [hx a ha,hx b hb];rfl
 unfold iQ at he;rw [hx a ha] at he;cases he
structure FreeIn (t:Table) (p:Inputs):Prop where
 occ:∀ n,0≤n→n < t.sections→eJ p n=false
 claimed:∀ i,i < t.routes.length→eN p i=false
 cancel:∀ i,i < t.routes.length→lZ p i=true
theorem zBA (l:List RouteState) (h:l.length≤1000000000):fQ l=some l:=by
 unfold fQ;rw [List.nil_append,aB h];cases l<;>rfl
theorem qFF (s:Inter) (h:s.routes.length≤1000000000) (h':s.lies.length≤1000000000):jS s=some s:=by
 unfold jS;rw [zBA _ h,aA,uX _ h',aA]
theorem zCH {t:Table} {s:Inter} (h:TOk t) (hf:fN t s=true) {i:Nat} (hi:i < t.routes.length):0≤(rAt t i).entry∧(qG t s i)[(rAt t i).entry.toNat]?=some ((qG t s i).getD (rAt t i).entry.toNat false):=by
 have H:=eB hf hi;have hc:=cJ (fitsB_iff.1 hf).1;have he:=zFG (hc.2.2.1 _ H.mem).1;refine⟨he.1,?_⟩;have hlt:(rAt t i).entry.toNat < (qG t s i).length:=by rw [uJ];omega
 rw [zQD,zQR hlt];rfl
theorem qUJ (t:Table) (s:Inter) (h:TOk t) (hf:fN t s=true):iA t s=some (qUM t s):=by
 have hf':=fitsB_iff.1 hf;have hl:=of_decide_eq_true (cJ hf'.1).1;have h1:=h.routes;unfold iA;rw [aB (by omega)];rw [fF (b:=List.replicate t.signals.toNat false) t.routes.length (λi=>qG t s i) (o:=qUM t s) (qUK t s).symm (by omega) (λi hi=>?_) (by dsimp only;rw [if_neg (by omega)];rfl)]
 ·rfl
 have H:=eB hf hi;obtain⟨he,hg⟩:=zCH h hf hi;dsimp only;rw [if_pos (by omega),aG H.r,aG H.x];by_cases hx:(xAt s i).state=2
 ·rw [if_pos hx,oX he hg,aB (aO hi (by omega)),qZC hx he]
 rw [if_neg hx,aB (aO hi (by omega)),qUL hx]
theorem qKX (t:Table) (s:Inter) (p:Inputs) (ref:List Int) (n:Int) (h:TOk t) (ho:SOk t) (hr:ref.length≤100000000):fS ⟨s,t,p,ref⟩ n=some ⟨(iI t p (s,ref) n).1,t,p,(iI t p (s,ref) n).2⟩:=by
 unfold fS iI;dsimp only;rw [zKH t s p n h ho,aA];by_cases hz:oY t s p n=0
 ·rw [if_pos hz,if_pos hz];obtain⟨hs,h0,hi,_⟩:=yW hz;obtain⟨i,rfl⟩:=Int.eq_ofNat_of_zero_le h0;have hi:i < t.routes.length:=by omega
  have hf:=cV hs;have H:=eB hf hi;have hf':=fitsB_iff.1 hf;have hc:=cJ hf'.1;have h1:=h.routes;have h2:=h.points;have hS:=(h.each _ H.mem)
  have hlen:(eG (bS (rAt t i))).length≤6000000:=by
   have:=lJ (bS (rAt t i));simp only [bS,zQL] at this ⊢;have a:=hS.points;have b:=hS.over;have c:=hS.flank;omega
  rw [aG H.x,aG H.r,qH _ hS (λe he=>ho _ H.mem e he),aA];rw [fF (b:=s.lies) (eG (bS (rAt t i))).length (λk=>lQ t ((eG (bS (rAt t i))).take k) s.lies) (o:=(⟨kK t s i,t,p,ref⟩:Cycle)) (by simp [lQ]) (by omega) (λk hk=>?_) ?_]
  ·rw [Int.toNat_natCast]
  ·dsimp only;rw [if_neg (by omega),List.take_length];rfl
  have he : (eG (bS (rAt t i)))[k]? = some (eG (bS (rAt t i)))[k] := by rw [zQR]
  generalize (eG (bS (rAt t i)))[k]=e at he;obtain⟨q,hq,hql⟩:=gB (hc.2.2.1 _ H.mem).2 (ascS_mem.1 (zQM he));dsimp only;rw [if_pos (by omega),aG he,mR t e.el (by unfold Cnt;omega),aA,hq]
  have hz:(lQ t ((eG (bS (rAt t i))).take k) s.lies)[q]?=some ((lQ t ((eG (bS (rAt t i))).take k) s.lies).getD q 0):=by
   have hlt:q < (lQ t ((eG (bS (rAt t i))).take k) s.lies).length:=by rw [qIM];omega
   rw [zQD,zQR hlt];rfl
  rw [show fM (some q)=(q:Int) from rfl,aG hz,aB (aO hk (by omega)),Int.toNat_natCast,qRV t _ _ he,show aK t e.el=q by simp [aK,hq]]
 rw [if_neg hz,if_neg hz,aB (by simp;omega)]
theorem qWB {t:Table} {p:Inputs} (l:List Int) (q:Inter×List Int) (h:fN t q.1=true):fN t (gK t p q l).1=true:=
 qJK t p (λs=>fN t s=true) (λs i hz _=>cV (qJL hz)) l q h
theorem qZV {t:Table} {s:Inter} {p:Inputs} (hf:fN t s=true) (i:Nat) (hi:i < s.routes.length) (l:List RouteState) (hl:l.length=s.routes.length):((List.range i).map (fV t s p)++l.drop i).set i (fV t s p i)=(List.range (i+1)).map (fV t s p)++l.drop (i+1):=by
 rw [List.range_succ,List.map_append];rw [List.drop_eq_getElem_cons (show i < l.length by omega)];rw [List.set_append_right _ _ (by simp),zQC,List.length_range,Nat.sub_self,List.set_cons_zero];simp
theorem zJB {t:Table} {s:Inter} {p:Inputs} (i:Nat) (l:List RouteState) (hi:i < l.length):((List.range i).map (fV t s p)++l.drop i)[i]?=some l[i]:=by
 rw [List.getElem?_append_right (by simp)];simp [List.getElem?_drop,zQR hi]
theorem zBM (t:Table) (s:Inter) (p:Inputs) (h:TOk t) (ho:SOk t) (hc:p.cancels.length≤5000000) (hk:p.calls.length≤5000000) (hs:s.routes.length≤100) (hl:s.lies.length≤100):lI t s p=some (sV t s p):=by
 unfold lI sV;rw [qKU _ (by omega),aA,qQB t s h ho,aA];have hal:=qTQ p.calls
 cases hS:fU t s with
 | false=>
  simp only [Bool.not_false,if_true,Bool.false_eq_true,if_false];rw [uX _ (by omega),aA,tB t h,aA,qFF s (by omega) (by omega)];by_cases hz:dQ t=0
  ·have hlm:=of_decide_eq_true (cJ hz).1;rw [if_pos hz,if_pos hz,aB (by omega)];rfl
  rw [if_neg hz,if_neg hz];rfl
 | true=>
  have hf:=cV hS;have hf':=fitsB_iff.1 hf;simp only [Bool.not_true,Bool.false_eq_true,if_false,if_true];rw [qFF s (by omega) (by omega),aA];rw [fF (b:=s.routes) s.routes.length (λi=>(List.range i).map (fV t s p)++s.routes.drop i) (o:=(cN t s p).routes) (by simp) (by omega) (λi hi=>?_) (by dsimp only;rw [if_neg (by omega)];simp [cN])]
  ·rw [aA]
   have key := oT (f := fun (z : Int × List Int × List RouteState × List Int) =>
    if z.1 < ((mP p.calls).length : Int) then
     aU (mP p.calls) z.1 fun e40 =>
     aC (fS (⟨(⟨z.2.2.1, z.2.2.2⟩ : Inter), t, p, z.2.1⟩ : Cycle) e40) fun r41 =>
     aD (I64 (z.1 + (1 : Int))) <|
     some (.inl ((z.1 + (1 : Int)), r41.refused, r41.inter.routes, r41.inter.lies))
    else
     aN (
      some (z.2.2.1, z.2.2.2, z.2.1)))
    (λi:Nat=>((i:Int),(gK t p (cN t s p,[]) ((mP p.calls).take i)).2,(gK t p (cN t s p,[]) ((mP p.calls).take i)).1.routes,(gK t p (cN t s p,[]) ((mP p.calls).take i)).1.lies)) (mP p.calls).length
    (o:=((gK t p (cN t s p,[]) (mP p.calls)).1.routes,(gK t p (cN t s p,[]) (mP p.calls)).1.lies,(gK t p (cN t s p,[]) (mP p.calls)).2))
    (s:=((0:Int),([]:List Int),(cN t s p).routes,s.lies)) rfl (by omega) (λi hi=>?_) (by dsimp only;rw [if_neg (by omega),List.take_length];rfl)
   ·rw [key,aA];have hfe:fN t (gK t p (cN t s p,[]) (mP p.calls)).1=true:=qWB _ _ (cV (xI hS));have hfe':=fitsB_iff.1 hfe;have hpts:=h.points;show aC (iA t (gK t p (cN t s p,[]) (mP p.calls)).1) _=_;have hlp:s.lies.length=t.points.length:=hf'.2.2.1;have hle:(gK t p (cN t s p,[]) (mP p.calls)).1.lies.length=t.points.length:=hfe'.2.2.1;rw [qUJ t _ h hfe,aA,uX _ (show (gK t p (cN t s p,[]) (mP p.calls)).1.lies.length≤1000000000 by omega),aA]
   have hx:(mP p.calls)[i]?=some (mP p.calls)[i]:=zQR hi;have hlr:=qJJ t p ((mP p.calls).take i) (cN t s p,[]);simp only [List.length_take,List.length_nil] at hlr;dsimp only;rw [if_pos (by omega),aG hx,qKX t _ p _ _ h ho (by omega),aA,aB (aO hi (by omega)),qTF t p _ hx];rfl
  dsimp only;rw [if_pos (by omega),zIC t s p _ h ho hc,aA,qRK (by omega) hf,aG (zJB i _ hi),aB (aO hi (by omega)),Int.toNat_natCast,qZV hf i hi _ rfl]
theorem zIB (t:Table) (h:TOk t):lH t=some (vF t):=by
 have h1:=h.routes;have h2:=h.points;unfold lH vF;rw [tB t h,aA];by_cases hz:dQ t=0
 ·rw [if_pos hz, if_pos hz, aB (by omega)];rw [fF (b:=[]) t.points.length (λi=>List.replicate i (1:Int)) (o:=List.replicate t.points.length 1) rfl (by omega) (λi hi=>?_) (by dsimp only;rw [if_neg (by omega)];rfl)]
  ·rw [aA,Int.toNat_natCast];rfl
  dsimp only;rw [if_pos (by omega),aB (by simp;omega),aB (aO hi (by omega)),List.replicate_succ']
 rw [if_neg hz,if_neg hz]
theorem zIR (s:Inter) (h:s.routes.length≤2000000) (h':s.lies.length≤2000000) (ho:∀ x∈s.routes,RouteState.ok x):sI s s=some true:=by
 unfold sI;rw [if_neg (by simp)];rw [fE s.routes (λ_=>false) (.inr false) (.inl ()) (by omega) (λi e he=>?_) (by rw [if_neg (by omega)];rfl)]
 ·rw [List.any_eq_false.2 (fun _ _ => by simp), if_neg (by simp), dB];rw [fE s.lies (λ_=>false) (.inr false) (.inl ()) (by omega) (λi e he=>?_) (by rw [if_neg (by omega)];rfl)]
  ·rw [List.any_eq_false.2 (λ_ _=>by simp),if_neg (by simp),dB]
  have hi:=(zQQ.1 he).1;rw [if_pos (by omega)];simp only [aG he,if_true];rw [aB (aO hi (by omega))];rfl
 have hi:=(zQQ.1 he).1;have:=ho e (zQM he);rw [if_pos (by omega)];simp only [aG he];simp only [if_true];rw [aB ⟨this,this⟩,aB (aO hi (by omega))];rfl
def inN (t:Table):Nat:=2 * t.sections.toNat+2 * t.points.length+4 * t.routes.length
def qCU (r:Route):Nat:=5+r.sections.length
def aF (t:Table) (i:Nat):Nat:=inN t+t.points.length+((t.routes.take i).map qCU).sum
def nW (t:Table) (i:Nat):List Int:=(List.range i).map λi=>(aF t i:Int)
def fO (t:Table):Nat:=aF t t.routes.length
def dU (t:Table):Nat:=fO t+5 * t.routes.length
structure COk (t:Table):Prop where
 ok:TOk t
 nr:t.routes.length≤100
 np:t.points.length≤100
 sum:∀ r∈t.routes,uG r≤200
 chk:dQ t=0
theorem COk.lim {t:Table} (h:COk t):t.routes.length≤48∧t.points.length≤32∧0≤t.sections∧t.sections≤24∧0≤t.signals∧t.signals≤20:=of_decide_eq_true (cJ h.chk).1
theorem COk.secs {t:Table} (h:COk t) {r:Route} (hr:r∈t.routes):0 < r.sections.length∧r.sections.length≤200:=by
 have h1:=((cJ h.chk).2.2.1 r hr).1;unfold lP at h1;simp only [zQA,decide_eq_true_eq] at h1;have h2:=h.sum r hr;unfold uG at h2;exact⟨h1.1.1.1.2,by omega⟩
theorem COk.entry {t:Table} (h:COk t) {r:Route} (hr:r∈t.routes):0≤r.entry∧r.entry < t.signals:=by
 have h1:=((cJ h.chk).2.2.1 r hr).1;unfold lP qXW inB at h1;simp only [zQA,decide_eq_true_eq] at h1;exact h1.1.1.1.1.1.1
theorem pW (t:Table):aF t 0=inN t+t.points.length:=by unfold aF;simp
theorem nX {t:Table} {i:Nat} {r:Route} (hr:t.routes[i]?=some r):aF t (i+1)=aF t i+qCU r:=by
 unfold aF;rw [List.take_add_one,hr];simp [Nat.add_assoc]
theorem qFK (t:Table) (i:Nat):nW t (i+1)=nW t i++[(aF t i:Int)]:=by
 unfold nW;rw [List.range_succ];simp
theorem qJP (t:Table) (i:Nat):(nW t i).length=i:=by unfold nW;simp
theorem zD {t:Table} {n i:Nat} (h:i < n):(nW t n)[i]?=some (aF t i:Int):=by unfold nW;simp [h]
theorem zIP {l:List Route} (h:∀ r∈l,uG r≤200):(l.map qCU).sum≤205 * l.length:=by
 induction l with
 | nil=>simp
 | cons r l ih=>
  have h1:=h r (by simp);have h2:=ih (λr hr=>h r (by simp [hr]));simp only [List.map_cons,List.sum_cons,List.length_cons];unfold uG at h1;have h3:qCU r=5+r.sections.length:=rfl;omega
theorem COk.base {t:Table} (h:COk t) (i:Nat):aF t i≤30000:=by
 have h1:=zIP (l:=t.routes.take i) (λr hr=>h.sum r (List.mem_of_mem_take hr));have h2:(t.routes.take i).length≤48:=by rw [List.length_take];have:=h.lim;omega
 have h3:=h.lim;unfold aF inN;omega
theorem qJQ {t:Table}:∀ (i n:Nat),i≤n→aF t i≤aF t n:=by
 intro i n h
 induction n with
 | zero=>rw [show i=0 by omega];exact zQW _
 | succ n ih=>
  rcases Nat.lt_or_ge n i with h1|h1
  ·rw [show i=n+1 by omega];exact zQW _
  refine Nat.le_trans (ih h1) ?_
  cases e:t.routes[n]? with
  | some r=>rw [nX e];omega
  | none=>
   have:=List.getElem?_eq_none_iff.1 e;unfold aF;rw [List.take_of_length_le (by omega),List.take_of_length_le (by omega)];exact zQW _
theorem qJR {t:Table} {i:Nat} {r:Route} (hr:t.routes[i]?=some r):aF t i+qCU r≤fO t:=by
 have hi:=(zQQ.1 hr).1;rw [← nX hr];exact qJQ _ _ (by omega)
abbrev noT:Table:=⟨[],[],[],0,0⟩
abbrev zI (t:Table):Numbering:=⟨t,(inN t:Int),nW t t.routes.length,(fO t:Int),(dU t:Int)⟩
theorem qDS {t:Table} (h:TOk t) (hs:vG t=true):jF t=some (if dQ t=0 then if 2000 < dU t then (⟨noT,0,[],0,0⟩,2) else (zI t,0) else (⟨noT,0,[],0,0⟩,dQ t)):=by
 unfold jF;rw [tB t h,aA];by_cases hz:dQ t=0
 ·obtain⟨hT,h1,h2,h3⟩:=uH hs;have hC:COk t:=⟨h,h1,h2,h3,hz⟩;rw [if_pos hz,if_pos hz];have hlm:=hC.lim;have hsn:t.sections=((t.sections.toNat:Nat):Int):=by omega
  have hin:((((2:Int) * t.sections)+((2:Int) * (t.points.length:Int)))+((4:Int) * (t.routes.length:Int)))=(inN t:Int):=by unfold inN;omega
  rw [aB (by unfold I64;omega),aB (by unfold I64;omega),aB (by unfold I64;omega),aB (by unfold I64;omega),aB (by unfold I64;omega),aB (by unfold I64;omega),hin];have hb:=hC.base;rw [fF (b:=(((inN t:Int)+(t.points.length:Int)),([]:List Int))) t.routes.length (λi=>((aF t i:Int),nW t i)) (o:=((fO t:Int),nW t t.routes.length)) (by rw [pW];simp [nW]) (by omega) (λi hi=>?_) (by dsimp only;rw [if_neg (by omega)];rfl),aA]
  ·dsimp only;have:=hb t.routes.length;have he:fO t=aF t t.routes.length:=rfl;rw [aB (by unfold I64;omega),aB (by unfold I64;omega)];have ha:(fO t:Int)+(5:Int) * (t.routes.length:Int)=(dU t:Int):=by unfold dU;omega
   rw [ha];by_cases hl:2000 < dU t
   ·rw [if_pos (by omega),if_pos hl]
   rw [if_neg (by omega),if_neg hl]
  dsimp only;have hr:=zQR hi;have hsec:=hC.secs (List.getElem_mem hi);have:=hb i;rw [if_pos (by omega),aB (by rw [zQL,qJP];simp;omega)];unfold aT;dsimp only;rw [aG hr,aB (by unfold I64;omega),aA,aB (by unfold I64;omega),aB (by unfold I64;omega),aB (by unfold I64;omega),aB (aO hi (by omega)),nX hr,qFK];unfold qCU;rw [show ((aF t i:Int)+((4:Int)+((t.routes[i].sections.length:Int) - 1)+2))=((aF t i+(5+t.routes[i].sections.length):Nat):Int) by omega]
 rw [if_neg hz,if_neg hz]
theorem qZX {t:Table} (h:COk t):mH t=some ⟨2 * t.sections,2 * t.sections+2 * (t.points.length:Int),(inN t:Int),(fO t:Int),(dU t:Int),nW t t.routes.length⟩:=by
 unfold mH;have hlm:=h.lim;have hin:((((2:Int) * t.sections)+((2:Int) * (t.points.length:Int)))+((4:Int) * (t.routes.length:Int)))=(inN t:Int):=by unfold inN;omega
 rw [aB (by unfold I64;omega),aB (by unfold I64;omega),aB (by unfold I64;omega),aB (by unfold I64;omega),aB (by unfold I64;omega),aB (by unfold I64;omega),hin];have hb:=h.base;rw [oT (λi=>((aF t i:Int),((i:Int),nW t i))) (o:=((fO t:Int),nW t t.routes.length)) t.routes.length (by rw [pW];simp [nW]) (by omega) (λi hi=>?_) (by dsimp only;rw [if_neg (by omega)];rfl),aA]
 ·dsimp only;have:=hb t.routes.length;have he:fO t=aF t t.routes.length:=rfl;rw [aB (by unfold I64;omega),aB (by unfold I64;omega)];have ha:(fO t:Int)+(5:Int) * (t.routes.length:Int)=(dU t:Int):=by unfold dU;omega
  rw [ha]
 dsimp only;have hr:=zQR hi;have hsec:=h.secs (List.getElem_mem hi);have:=hb i;have hm:max (0:Int) ((t.routes[i].sections.length:Int) - 1)=(t.routes[i].sections.length:Int) - 1:=by omega
 rw [if_pos (by omega),aB (by rw [zQL,qJP];simp;omega),aB (by unfold I64;omega),aG hr,aB (by unfold I64;omega),hm,aB (by unfold I64;omega),aB (aO hi (by omega)),nX hr,qFK];unfold qCU;rw [show ((aF t i:Int)+6+((t.routes[i].sections.length:Int) - 1))=((aF t i+(5+t.routes[i].sections.length):Nat):Int) by omega];rfl
def fitsN (t:Table) (m:Machine):Bool:=decide (dU t≤2000∧m.vars.length=dU t∧m.counts.length=dU t - inN t)
theorem lR (t:Table):inN t+t.points.length≤fO t∧fO t≤dU t:=by
 unfold dU fO aF;omega
theorem qRJ {t:Table} (h:COk t) (ha:dU t≤2000) (m:Machine):fB (zI t) m=some (fitsN t m):=by
 unfold fB fitsN;have:=lR t;dsimp only;by_cases e:m.vars.length=dU t
 ·rw [if_pos (by omega), aB (by unfold I64; omega), aA]
  congr 1
  rw [Bool.eq_iff_iff];simp only [decide_eq_true_eq];omega
 rw [if_neg (by omega),aA,decide_eq_false (by omega)]
def vb (m:Machine) (j:Nat):Bool:=m.vars.getD j false
def cn (m:Machine) (j:Nat):Int:=m.counts.getD j 0
theorem yV {m:Machine} {j:Nat} {i:Int} {β:Type} {k:Bool→Option β} (hi:i=(j:Int)) (h:j < m.vars.length):aU m.vars i k=k (vb m j):=by
 rw [hi,aG (zQR h)];simp [vb,zQD,zQR h]
theorem qXX {m:Machine} {j:Nat} {i:Int} {β:Type} {k:Int→Option β} (hi:i=(j:Int)) (h:j < m.counts.length):aU m.counts i k=k (cn m j):=by
 rw [hi,aG (zQR h)];simp [cn,zQD,zQR h]
def stI (m:Machine) (b:Nat):Int:=if vb m b=true then 1 else if vb m (b+1)=true then 2 else if vb m (b+2)=true then 3 else if vb m (b+3)=true then 4 else 0
def oU (P:Nat→Bool) (n:Nat):Nat:=(List.range n).findIdx λc=>!P c
theorem qRX (P:Nat→Bool) (n:Nat):oU P n≤n:=by
 unfold oU;have:=List.findIdx_le_length (xs:=List.range n) (p:=λc=>!P c)
 rwa [List.length_range] at this
theorem qRW {P:Nat→Bool} {n i:Nat} (h:i < oU P n):P i=true:=by
 unfold oU at h;have:=List.not_of_lt_findIdx h;simpa using this
theorem qLR {P:Nat→Bool} {n:Nat} (h:oU P n < n):P (oU P n)=false:=by
 have h1:(List.range n).findIdx (λc=>!P c) < (List.range n).length:=by rw [List.length_range];exact h
 have:=List.findIdx_getElem (w:=h1);simpa [oU] using this
def aH (t:Table) (i:Nat):Nat:=match t.routes[i]? with|some r=>r.sections.length - 1|none=>0
def rsI (t:Table) (m:Machine) (i:Nat):RouteState:=
 if stI m (aF t i)=4 then ⟨4,(oU (λc=>vb m (aF t i+4+c)) (aH t i):Int),cn m (2 * i)⟩
 else if stI m (aF t i)=3 then ⟨3,(oU (λc=>vb m (aF t i+4+c)) (aH t i):Int),cn m (2 * i+1)⟩
 else ⟨stI m (aF t i),0,0⟩
theorem qYZ (m:Machine) (b:Nat):stI m b=0∨stI m b=1∨stI m b=2∨stI m b=3∨stI m b=4:=by
 unfold stI;split
 ·simp
 split
 ·simp
 split
 ·simp
 split<;>simp
theorem zAJ {ρ:Type} {f:Int→Option (Int ⊕ ρ)} (P:Nat→Bool) (n:Nat) (o:Nat→ρ) (hn:n≤9223372036854775806) (hf:∀ i,i < n→f (i:Int)=if P i=true then some (.inl ((i:Int)+1)) else some (.inr (o i))) (he:f (n:Int)=some (.inr (o n))):bB f 0=some (o (oU P n)):=by
 have hl:=qRX P n;refine oT (λi=>(i:Int)) (oU P n) rfl (by omega) (λi hi=>?_) ?_
 ·rw [hf i (by omega),qRW hi,if_pos rfl];rfl
 rcases Nat.lt_or_ge (oU P n) n with h|h
 ·rw [hf _ h,qLR h,if_neg (by simp)]
 have : oU P n = n := by omega
 rw [this];exact he
theorem qKD {t:Table} (hC:COk t) {m:Machine} (hm:fitsN t m=true) {i:Nat} (hi:i < t.routes.length):eI (zI t) m (i:Int)=some (rsI t m i):=by
 have hF:=of_decide_eq_true hm;have hr:=zQR hi;have hsec:=hC.secs (List.getElem_mem hi);have hb:=qJR hr;have hw:qCU t.routes[i]=5+t.routes[i].sections.length:=rfl;have hln:aH t i=t.routes[i].sections.length - 1:=by unfold aH;rw [hr]
 have hin:=lR t;have hlm:=hC.lim;have hx:fO t - inN t ≥ t.points.length:=by omega
 have h5:dU t=fO t+5 * t.routes.length:=rfl;unfold eI
 have hp (x:Int) {β:Type} (k:Int→Option β) (h0:0≤x) (hxx:x≤1000000):aC (aW (zI t) (i:Int) x) k=k ((aF t i:Int)+x):=by
  unfold aW;dsimp only;rw [aG (zD hi),aB (by unfold I64;omega),aA]
 rw [qIJ 4 (λj=>if vb m (aF t i+j)=true then some ((j:Int)+1) else none) 0 (by omega) (λj hj=>?_) (by rw [if_neg (by omega)];rfl)]
 ·have hst:((List.range 4).findSome? (λj=>if vb m (aF t i+j)=true then some ((j:Int)+1) else none)).getD 0=stI m (aF t i):=by
   rw [show List.range 4=[0,1,2,3] from rfl];unfold stI;simp only [List.findSome?_cons,List.findSome?_nil,Nat.add_zero];cases vb m (aF t i)<;>cases vb m (aF t i+1)<;>cases vb m (aF t i+2)<;>cases vb m (aF t i+3)<;>rfl
  rw [hst,aA]
  have hloop : bB (fun c20 =>
    aC (
     aC (aT (zI t) (i : Int)) fun r24 =>
     if c20 < r24 then
      aD (I64 ((4 : Int) + c20)) <|
      aC (aW (zI t) (i : Int) ((4 : Int) + c20)) fun r27 =>
      aU m.vars r27 fun e28 =>
      some e28
     else
      some false) fun x22 =>
    if x22 = true then
     aD (I64 (c20 + (1 : Int))) <|
     some (.inl (c20 + (1 : Int)))
    else
     aN (
      some c20)) (0 : Int) = some (oU (fun c => vb m (aF t i + 4 + c)) (aH t i) : Int) := by
   have hlast {β:Type} (k:Int→Option β):aC (aT (zI t) (i:Int)) k=k (aH t i:Int):=by
    unfold aT;dsimp only;rw [aG hr,aB (by unfold I64;omega),aA,hln,show ((t.routes[i].sections.length:Int) - 1)=((t.routes[i].sections.length - 1:Nat):Int) by omega]
   refine zAJ _ (aH t i) (λc=>(c:Int)) (by omega) (λc hc=>?_) (by rw [hlast,if_neg (by omega)];rfl);rw [hlast,if_pos (by omega),aB (by unfold I64;omega),hp _ _ (by omega) (by omega),yV (j:=aF t i+4+c) (by omega) (by omega),aA];cases vb m (aF t i+4+c)
   ·rw [if_neg (by simp),if_neg (by simp)];rfl
   rw [if_pos rfl,if_pos rfl,aB (by unfold I64;omega)]
  unfold rsI;have hst2:=qYZ m (aF t i);generalize stI m (aF t i)=st at hst2;by_cases e4:st=4
  ·subst e4;rw [if_neg (by simp),hloop,aA,if_pos rfl,if_pos rfl,aB (by unfold I64;omega),qXX (j:=2 * i) (by omega) (by omega)]
  by_cases e3:st=3
  ·subst e3;rw [if_neg (by simp),hloop,aA,if_neg (by simp),if_neg (by simp),if_pos rfl,aB (by unfold I64;omega),aB (by unfold I64;omega),qXX (j:=2 * i+1) (by omega) (by omega)]
  rw [if_pos (by simp [e3,e4]),if_neg e4,if_neg e3]
 rw [if_pos (by omega)]
 have he:([(1:Int),(2:Int),(3:Int),(4:Int)]:List Int)[j]?=some ((j:Int)+1):=by
  rcases (by omega:j=0∨j=1∨j=2∨j=3) with h|h|h|h<;>subst h<;>rfl
 rw [aG he,aB (by unfold I64;omega),hp _ _ (by omega) (by omega),yV (j:=aF t i+j) (by omega) (by omega)];cases vb m (aF t i+j)
 ·rw [if_neg (by simp),if_neg (by simp),aB (by unfold I64;omega)]
 rw [if_pos rfl,if_pos rfl];rfl
def zEN (t:Table) (m:Machine) (k:Nat):Int:=if vb m (inN t+k)=true then 2 else 1
def qUF (t:Table) (m:Machine):Inter:=⟨(List.range t.routes.length).map (rsI t m),(List.range t.points.length).map (zEN t m)⟩
theorem xO {β:Type} (f:Nat→β) (i:Nat):(List.range (i+1)).map f=(List.range i).map f++[f i]:=by rw [List.range_succ];simp
theorem zIA {t:Table} (h:TOk t) (hs:vG t=true) (m:Machine):kH t m=some (if dQ t=0∧fitsN t m=true then qUF t m else ⟨[],[]⟩):=by
 unfold kH;rw [qDS h hs,aA];by_cases hz:dQ t=0
 ·obtain⟨hT,h1,h2,h3⟩:=uH hs;have hC:COk t:=⟨h,h1,h2,h3,hz⟩;rw [if_pos hz];by_cases ha:2000 < dU t
  ·rw [if_pos ha, if_neg (by intro hc; have := of_decide_eq_true hc.2; omega)];dsimp only;rw [if_neg (by omega),aA,if_pos rfl]
  rw [if_neg ha];dsimp only;rw [if_pos rfl,qRJ hC (by omega),aA,aA]
  cases hf:fitsN t m with
  | false=>rw [if_pos (by simp),if_neg (by simp)]
  | true=>
   have hF:=of_decide_eq_true hf;have hin:=lR t;have hlm:=hC.lim;rw [if_neg (by simp),if_pos ⟨hz,rfl⟩];rw [fF t.routes.length (λi=>(List.range i).map (rsI t m)) (o:=(List.range t.routes.length).map (rsI t m)) (by rfl) (by omega) (λi hi=>?_) (by dsimp only;rw [if_neg (by omega)];rfl),aA]
   ·rw [fF t.points.length (fun i => (List.range i).map (zEN t m)) (o := (List.range t.points.length).map (zEN t m)) (by rfl) (by omega) (fun i hi => ?_) (by dsimp only; rw [if_neg (by omega)]; rfl), aA]
    ·rfl
    dsimp only;rw [if_pos (by omega)];unfold dI;dsimp only;rw [aB (by unfold I64;omega),aA,yV (j:=inN t+i) (by omega) (by omega),xU,aA,aB (by simp;omega),aB (aO hi (by omega)),xO];rfl
   dsimp only;rw [if_pos (by omega),qKD hC hf hi,aA,aB (by simp;omega),aB (aO hi (by omega)),xO]
 rw [if_neg hz, if_neg (by intro hc; exact hz hc.1)];dsimp only;rw [if_neg hz,aA,if_pos rfl]
def nV (t:Table) (m:Machine) (i:Nat):List Bool:=(List.range t.signals.toNat).map λs:Nat=>(List.range i).any λx=>vb m (aF t x+1)&&decide (((t.routes[x]?).map (·.entry))=some (s:Int))
theorem tA (t:Table) (m:Machine) (i:Nat):(nV t m i).length=t.signals.toNat:=by unfold nV;simp
theorem qTB (t:Table) (m:Machine):nV t m 0=List.replicate t.signals.toNat false:=by
 unfold nV;rw [List.eq_replicate_iff];simp
theorem qTC {t:Table} {m:Machine} {i:Nat} {r:Route} (hr:t.routes[i]?=some r) (h0:0≤r.entry):nV t m (i+1)=if vb m (aF t i+1)=true then (nV t m i).set r.entry.toNat true else nV t m i:=by
 apply List.ext_getElem?;intro s
 have hex:(decide (((t.routes[i]?).map (·.entry))=some (s:Int)))=decide (r.entry.toNat=s):=by
  rw [hr];simp only [Option.map_some,Option.some.injEq];rw [Bool.eq_iff_iff];simp only [decide_eq_true_eq];omega
 by_cases hs:s < t.signals.toNat
 ·have hl : (nV t m i)[s]? = some ((List.range i).any fun x => vb m (aF t x + 1) && decide (((t.routes[x]?).map (·.entry)) = some (s : Int))) := by unfold nV; simp [hs]
  have hR:(nV t m (i+1))[s]?=some (((List.range i).any λx=>vb m (aF t x+1)&&decide (((t.routes[x]?).map (·.entry))=some (s:Int)))||(vb m (aF t i+1)&&decide (r.entry.toNat=s))):=by
   unfold nV;simp only [zQP,List.getElem?_range hs,Option.map_some,List.range_succ,List.any_append,List.any_cons,List.any_nil,Bool.or_false,hex]
  rw [hR];cases vb m (aF t i+1)
  ·rw [if_neg (by simp),hl];simp
  rw [if_pos rfl,List.getElem?_set,hl];by_cases e:r.entry.toNat=s
  ·rw [if_pos e,if_pos (by rw [tA];omega)];simp [e]
  rw [if_neg e];simp [e]
 rw [List.getElem?_eq_none (by rw [tA]; omega)];split
 ·rw [List.getElem?_eq_none (by rw [List.length_set,tA];omega)]
 rw [List.getElem?_eq_none (by rw [tA];omega)]
def qPD (t:Table) (m:Machine):List Bool:=if fitsN t m=true∧m.halted=false then nV t m t.routes.length else List.replicate t.signals.toNat false
theorem zBE {t:Table} (h:TOk t) (hs:vG t=true) (m:Machine):lN t m=some (if dQ t=0 then qPD t m else []):=by
 unfold lN qPD;rw [tB t h,aA];by_cases hz:dQ t=0
 ·obtain⟨hT,h1,h2,h3⟩:=uH hs;have hC:COk t:=⟨h,h1,h2,h3,hz⟩;have hlm:=hC.lim;rw [if_pos hz,if_pos hz,aB (by omega),qDS h hs,aA,if_pos hz];by_cases ha:2000 < dU t
  ·rw [if_pos ha, if_neg (by intro hc; have := of_decide_eq_true hc.1; omega)];dsimp only;rw [if_neg (by omega),aA,if_pos rfl]
  rw [if_neg ha];dsimp only;rw [if_pos rfl]
  cases hh:m.halted with
  | true=>rw [if_pos rfl,aA,if_pos rfl,if_neg (by simp)]
  | false=>
   rw [if_neg (by simp),qRJ hC (by omega),aA,aA]
   cases hf:fitsN t m with
   | false=>rw [if_pos (by simp),if_neg (by simp)]
   | true=>
    have hF:=of_decide_eq_true hf;rw [if_neg (by simp),if_pos ⟨rfl,rfl⟩];rw [fF t.routes.length (nV t m) (o:=nV t m t.routes.length) (qTB t m).symm (by omega) (λi hi=>?_) (by dsimp only;rw [if_neg (by omega)];rfl),aA];dsimp only;have hr:=zQR hi;have hen:=hC.entry (List.getElem_mem hi);have hb:=qJR hr;have hw:qCU t.routes[i]=5+t.routes[i].sections.length:=rfl;have hin:=lR t;unfold aW;dsimp only;rw [if_pos (by omega),aG hr,aG (zD hi),aB (by unfold I64;omega),aA,yV (j:=aF t i+1) (by omega) (by omega),qTC hr hen.1,aB (aO hi (by omega)),aB (aO hi (by omega))];cases vb m (aF t i+1)
    ·rw [if_neg (by simp),if_neg (by simp)]
    rw [if_pos rfl,if_pos rfl,oX hen.1 (zQR (by rw [tA];omega))]
 rw [if_neg hz,if_neg hz]
abbrev vE (x:Int):Expr:=⟨3,x,[]⟩
abbrev orE (l:List Expr):Expr:=⟨6,0,l⟩
abbrev lU (l:List Expr):Expr:=⟨5,0,l⟩
abbrev nB (e:Expr):Expr:=⟨4,0,[e]⟩
abbrev bld (t:Table) (b:List Rung):Builder:=⟨zI t,b⟩
def oH (t:Table) (i:Nat):Int:=2 * t.sections+2 * (t.points.length:Int)+4 * (i:Int)
def dL (t:Table) (i:Nat):Int:=(fO t:Int)+5 * (i:Int)
abbrev rK (t:Table) (i:Nat) (k:Int):Expr:=vE ((aF t i:Int)+(4+k))
abbrev iH (s:Int):Expr:=vE (2 * s)
variable {t:Table} {b:List Rung} {i:Nat}
theorem yF (hC:COk t) (hi:i < t.routes.length) {k:Int} (h0:0≤k) (h1:k≤1000):aW (zI t) (i:Int) k=some ((aF t i:Int)+k):=by
 have:=hC.base i;unfold aW;dsimp only;rw [aG (zD hi),aB (by unfold I64;omega)]
theorem qX (hC:COk t) (hi:i < t.routes.length):aT (zI t) (i:Int)=some (aH t i:Int)∧aH t i≤200:=by
 have hr:=zQR hi;have hsec:=hC.secs (List.getElem_mem hi);have hln:aH t i=t.routes[i].sections.length - 1:=by unfold aH;rw [hr]
 refine⟨?_,by omega⟩;unfold aT;dsimp only;rw [aG hr,aB (by unfold I64;omega),hln,show ((t.routes[i].sections.length:Int) - 1)=((t.routes[i].sections.length - 1:Nat):Int) by omega]
theorem pD (hC:COk t) (hi:i < t.routes.length) {k:Int} (h0:0≤k) (h1:k≤1000):bG (bld t b) (i:Int) k=some (vE ((aF t i:Int)+k)):=by
 unfold bG;dsimp only;rw [yF hC hi h0 h1,aA];rfl
theorem qJS (hC:COk t) (hi:i < t.routes.length) {k:Int} (h0:0≤k) (h1:k≤900):cH (bld t b) (i:Int) k=some (rK t i k):=by
 unfold cH;dsimp only;rw [aB (by unfold I64;omega),yF hC hi (by omega) (by omega),aA];rfl
theorem qJT (hC:COk t) (hi:i < t.routes.length) {k:Int} (h0:0≤k) (h1:k≤1000):bI (bld t b) (i:Int) k=some (vE (oH t i+k)):=by
 have hlm:=hC.lim;unfold bI gL oH;dsimp only;rw [aB (by unfold I64;omega),aB (by unfold I64;omega),aB (by unfold I64;omega),aB (by unfold I64;omega),aB (by unfold I64;omega),aB (by unfold I64;omega),aA];rfl
theorem zON {n:Numbering} {s k:Int} (h0:0≤s) (h1:s≤1000) (hk:0≤k) (hk1:k≤10):eC n s k=some (2 * s+k):=by
 unfold eC;rw [aB (by unfold I64;omega),aB (by unfold I64;omega)]
theorem tD {B:Builder} {s:Int} (h0:0≤s) (h1:s≤1000):bQ B s=some (iH s):=by
 unfold bQ;rw [zON h0 h1 (by omega) (by omega),aA,Int.add_zero];rfl
theorem rE (hC:COk t) (hi:i < t.routes.length) {k:Int} (h0:0≤k) (h1:k≤10):aR (zI t) (i:Int) k=some (dL t i+k):=by
 have hlm:=hC.lim;have:fO t≤30000:=hC.base t.routes.length;unfold aR dL;dsimp only;rw [aB (by unfold I64;omega),aB (by unfold I64;omega),aB (by unfold I64;omega)]
theorem qWG (hC:COk t) (hi:i < t.routes.length):eE (zI t) (i:Int)=some ((aF t i:Int)+(4+(aH t i:Int))):=by
 have hl:=(qX hC hi).2;unfold eE;rw [(qX hC hi).1,aA,aB (by unfold I64;omega),yF hC hi (by omega) (by omega),aA]
theorem qYQ (hC:COk t) (hi:i < t.routes.length):eQ (zI t) (i:Int)=some ((aF t i:Int)+(4+(aH t i:Int))+1):=by
 have hl:=(qX hC hi).2;have:=hC.base i;unfold eQ;rw [qWG hC hi,aA,aB (by unfold I64;omega)]
theorem COk.sec_in (hC:COk t) {r:Route} (hr:r∈t.routes) {s:Int} (hs:s∈r.sections++r.overSections):0≤s∧s < t.sections:=by
 have h1:=((cJ hC.chk).2.2.1 r hr).1;unfold lP at h1;simp only [zQA] at h1;have h2:=h1.1.1.2;unfold qQH at h2;rw [allB_iff] at h2;obtain⟨j,hj⟩:=List.getElem?_of_mem hs;have h3:=h2 j (zQQ.1 hj).1;rw [qAY hj] at h3;unfold inB at h3;simp only [zQA,decide_eq_true_eq] at h3;exact h3.1
theorem oB {α β ρ:Type} (l:List α) (f:Nat→α→β) (pre:List β) {F:Int×List β→Option ((Int×List β) ⊕ ρ)} {o:ρ} (hn:l.length≤9223372036854775807) (hF:∀ (i:Nat) (e:α) (B:List β),l[i]?=some e→B.length=pre.length+i→F ((i:Int),B)=some (.inl ((i:Int)+1,B++[f i e])))
  (he:F ((l.length:Int),pre++l.mapIdx f)=some (.inr o)):bB F (0,pre)=some o:=by
 refine fF l.length (λi=>pre++(l.mapIdx f).take i) (by simp) hn (λi hi=>?_) (by rw [List.take_of_length_le (by simp)];exact he);have hx:=zQR hi;rw [hF i l[i] _ hx (by simp;omega),List.append_assoc]
 congr 4
 rw [List.take_add_one];simp [List.getElem?_mapIdx,hx]
def tR (t:Table) (i:Nat) (r:Route):Expr:=lU (r.sections.mapIdx λx s=>if x < aH t i then orE [rK t i (x:Int),iH s] else iH s)
theorem qMI (hC:COk t) {r:Route} (hr:t.routes[i]?=some r):dZ (bld t b) (i:Int)=some (tR t i r):=by
 have hi:=(zQQ.1 hr).1;have hm:=zQM hr;have hlm:=hC.lim;have hsec:=hC.secs hm;have hl:=qX hC hi;unfold dZ;dsimp only;rw [aG hr,oB r.sections (λx s=>if x < aH t i then orE [rK t i (x:Int),iH s] else iH s) [] (by omega) (λx s B hx hB=>?_) (by dsimp only;rw [if_neg (by omega)];rfl),aA]
 ·rfl
 have hx':=(zQQ.1 hx).1;have hs:=hC.sec_in hm (List.mem_append_left _ (zQM hx));simp only [List.length_nil,Nat.zero_add] at hB;dsimp only;rw [if_pos (by omega),aG hx,hl.1,aA];by_cases hlt:x < aH t i
 ·rw [if_pos (by omega),qJS hC hi (by omega) (by omega),aA,tD hs.1 (by omega),aA,if_pos hlt,show dF ([rK t i (x:Int),iH s])=some (orE [rK t i (x:Int),iH s]) from rfl,aA,aB (by simp;omega),aB (aO hx' (by omega))]
 rw [if_neg (by omega),tD hs.1 (by omega),aA,if_neg hlt,aB (by simp;omega),aB (aO hx' (by omega))]
def atE (t:Table) (i:Nat):Expr:=if aH t i=0 then lU [] else rK t i ((aH t i:Int) - 1)
theorem b_at (hC:COk t) (hi:i < t.routes.length):fD (bld t b) (i:Int)=some (atE t i):=by
 have hl:=qX hC hi;unfold fD atE;rw [hl.1,aA];by_cases h0:aH t i=0
 ·rw [if_pos (by omega),if_pos h0];rfl
 rw [if_neg (by omega),if_neg h0,aA,aB (by unfold I64;omega),qJS hC hi (by omega) (by omega),aA]
def oF (t:Table) (i:Nat) (r:Route):Int:=r.sections.getD (aH t i) 0
theorem qOL (hC:COk t) {r:Route} (hr:t.routes[i]?=some r):r.sections[aH t i]?=some (oF t i r)∧0≤oF t i r∧oF t i r < t.sections:=by
 have hm:=zQM hr;have hsec:=hC.secs hm;have hln:aH t i=r.sections.length - 1:=by unfold aH;rw [hr]
 have h1:r.sections[aH t i]?=some (oF t i r):=by
  unfold oF;rw [zQD,zQR (by omega)];rfl
 exact⟨h1,hC.sec_in hm (List.mem_append_left _ (zQM h1))⟩
def kL (t : Table) (i : Nat) (r : Route) : List Rung := [⟨2, (aF t i : Int) + (4 + (aH t i : Int)), 12, lU [vE ((aF t i : Int) + 3), vE (oH t i + 0), tR t i r]⟩,
 ⟨2, (aF t i : Int) + (4 + (aH t i : Int)) + 1, 4, lU [vE ((aF t i : Int) + 2), vE (oH t i + 0), atE t i, nB (iH (oF t i r))]⟩]
theorem zHS (hC:COk t) {r:Route} (hr:t.routes[i]?=some r) (hb:b.length≤100000):gE (bld t b) (i:Int)=some (bld t (b++kL t i r)):=by
 have hi:=(zQQ.1 hr).1;have hlm:=hC.lim;have hl:=qX hC hi;have hs:=qOL hC hr;unfold gE;dsimp only;rw [aG hr,qWG hC hi,aA,pD hC hi (by omega) (by omega),aA,qJT hC hi (by omega) (by omega),aA,qMI hC hr,aA];rw [show cF [vE ((aF t i:Int)+3),vE (oH t i+0),tR t i r]=some (lU [vE ((aF t i:Int)+3),vE (oH t i+0),tR t i r]) from rfl,aA,qYQ hC hi,aA];rw [pD hC hi (by omega) (by omega),aA,aA,b_at hC hi,aA,hl.1,aA,aG hs.1,tD hs.2.1 (by omega),aA];rw [show ∀ e,cL e=some (nB e) from λ_=>rfl,aA,show ∀ l,cF l=some (lU l) from λ_=>rfl,aA,aB (by simp;omega)];rfl
theorem COk.sok (hC:COk t) (ht:t.Wf) {r:Route} (hr:r∈t.routes):dW r=some (eG (bS r)):=qH r (hC.ok.each r hr) (qMR ht r hr)
theorem pN {α β:Type} (f:α→β) (l:List α):l.mapIdx (λ_ s=>f s)=l.map f:=by
 apply List.ext_getElem?;intro n;simp [List.getElem?_mapIdx]
def tZ (t:Table) (el:Int):Int:=fM (bY t.points el)
def qZW (t:Table) (x:Setting):Expr:=vE (2 * t.sections+2 * tZ t x.el+if x.pos=2 then 1 else 0)
def qBG (t:Table) (r:Route):Expr:=lU ((r.sections++r.overSections).map iH++(eG (bS r)).map (qZW t))
theorem COk.set_in (hC:COk t) {r:Route} (hr:r∈t.routes) {x:Setting} (hx:x∈eG (bS r)):0≤tZ t x.el∧tZ t x.el < (t.points.length:Int)∧1≤x.pos∧x.pos≤2:=by
 have hx:=ascS_mem.1 hx;have h1:=((cJ hC.chk).2.2.1 r hr).2;unfold qS at h1;simp only [zQA] at h1
 have key:∀ l:List Setting,iW t l=true→x∈l→0≤tZ t x.el∧tZ t x.el < (t.points.length:Int)∧1≤x.pos∧x.pos≤2:=by
  intro l hl hm;obtain⟨j,hj⟩:=List.getElem?_of_mem hm;have hjl:=(zQQ.1 hj).1;unfold iW at hl;rw [allB_iff] at hl;have h3:=hl j hjl;rw [qAX hj (zQR (by omega))] at h3;have h4:=of_decide_eq_true h3;have h5:=h4.1;obtain⟨k,hk⟩:=Option.isSome_iff_exists.1 h5;obtain⟨_,_,_,hkl⟩:=rN (l:=t.points) hk;unfold tZ;rw [hk];exact⟨by simp [fM],by simp only [fM];omega,h4.2.1,h4.2.2.1⟩
 simp only [zQN] at hx;rcases hx with (hx|hx)|hx
 ·exact key _ h1.1.1 hx
 ·exact key _ h1.1.2 hx
 exact key _ h1.2 hx
theorem qTL (hC:COk t) (ht:t.Wf) {r:Route} (hr:t.routes[i]?=some r):eF (bld t b) (i:Int)=some (qBG t r):=by
 have hi:=(zQQ.1 hr).1;have hm:=zQM hr;have hlm:=hC.lim;have hsum:=hC.sum r hm;unfold uG at hsum;have hal:=lJ (bS r);have hal2:(bS r).length≤200:=by simp only [bS,zQL];omega
 unfold eF;dsimp only;rw [aG hr,yZ _ ⟨by simp,by simp;omega⟩,aA];have hfl:[r.sections,r.overSections].flatten=r.sections++r.overSections:=by simp
 have hcl:(r.sections++r.overSections).length≤200:=by rw [zQL];omega
 rw [hfl,oB (r.sections++r.overSections) (λ_ s=>iH s) [] (by omega) (λx s B hx hB=>?_) (by dsimp only;rw [if_neg (by omega)];rfl),aA]
 ·rw [hC.sok ht hm, aA, oB (eG (bS r)) (fun _ s => qZW t s) _ (by omega) (fun x s B hx hB => ?_) (by dsimp only; rw [if_neg (by omega)]; rfl), aA]
  ·unfold qBG;rw [pN,pN,List.nil_append];rfl
  have hx':=(zQQ.1 hx).1;have hsi:=hC.set_in hm (zQM hx);simp only [List.nil_append,List.length_mapIdx] at hB;dsimp only;rw [if_pos (by omega),aG hx,xU,aA,mR t _ (by unfold Cnt;omega),aA];unfold gT;dsimp only;have hid:fM (bY t.points s.el)=tZ t s.el:=rfl;have hk:(if s.pos=2 then (1:Int) else 0)=0∨(if s.pos=2 then (1:Int) else 0)=1:=by split<;>simp
  rw [hid,aB (by unfold I64;omega),aB (by unfold I64;omega),aB (by unfold I64;omega),aB (by unfold I64;omega),aA,show ∀ x,cA x=some (vE x) from λ_=>rfl,aA,aB (by simp;omega),aB (aO hx' (by omega))];rfl
 have hx':=(zQQ.1 hx).1;have hs:=hC.sec_in hm (zQM hx);simp only [List.length_nil,Nat.zero_add] at hB;dsimp only;rw [if_pos (by omega),aG hx,tD hs.1 (by omega),aA,aB (by simp;omega),aB (aO hx' (by omega))]
variable {t:Table} {b:List Rung} {i:Nat}
theorem qFJ (l:List Expr):cF l=some (lU l):=rfl
theorem qFX (l:List Expr):dF l=some (orE l):=rfl
theorem qCK (e:Expr):cL e=some (nB e):=rfl
theorem rD (x:Int):cA x=some (vE x):=rfl
theorem yD {x:Int} {e:Expr} (hb:b.length≤100000):cB (bld t b) x e=some (bld t (b++[⟨1,x,0,e⟩])):=by
 unfold cB;dsimp only;rw [aB (by simp;omega)]
def qVW (t:Table) (i:Nat) (r:Route):Expr:=orE (r.sections.mapIdx λx s=>lU (([iH s]++if 0 < x then [rK t i ((x:Int) - 1)] else [])++if x < aH t i then [nB (rK t i (x:Int))] else []))
theorem zBF (hC:COk t) {r:Route} (hr:t.routes[i]?=some r):eR (bld t b) (i:Int)=some (qVW t i r):=by
 have hi:=(zQQ.1 hr).1;have hm:=zQM hr;have hlm:=hC.lim;have hsec:=hC.secs hm;have hl:=qX hC hi;unfold eR;dsimp only;rw [aG hr,oB r.sections (λx s=>lU (([iH s]++if 0 < x then [rK t i ((x:Int) - 1)] else [])++if x < aH t i then [nB (rK t i (x:Int))] else [])) [] (by omega) (λx s B hx hB=>?_) (by dsimp only;rw [if_neg (by omega)];rfl),aA]
 ·rfl
 have hx':=(zQQ.1 hx).1;have hs:=hC.sec_in hm (List.mem_append_left _ (zQM hx));simp only [List.length_nil,Nat.zero_add] at hB;dsimp only;rw [if_pos (by omega),aG hx,tD hs.1 (by omega),aA]
 have e1:(if (0:Int) < (x:Int) then aD (I64 ((x:Int) - 1)) (aC (cH (bld t b) (i:Int) ((x:Int) - 1)) λr17=>aD (([iH s]++[r17]).length≤1000000000) (some ([iH s]++[r17]))) else some [iH s])=some ([iH s]++if 0 < x then [rK t i ((x:Int) - 1)] else []):=by
  by_cases h0:0 < x
  ·rw [if_pos (by omega),aB (by unfold I64;omega),qJS hC hi (by omega) (by omega),aA,aB (by simp),if_pos h0]
  rw [if_neg (by omega),if_neg h0,List.append_nil]
 rw [e1,aA];have hl0:([iH s]++if 0 < x then [rK t i ((x:Int) - 1)] else []).length≤2:=by split<;>simp
 generalize ([iH s]++if 0 < x then [rK t i ((x:Int) - 1)] else [])=L at hl0;rw [hl.1,aA]
 have e2:(if (x:Int) < (aH t i:Int) then aC (cH (bld t b) (i:Int) (x:Int)) λr23=>aC (cL r23) λr24=>aD ((L++[r24]).length≤1000000000) (some (L++[r24])) else some L)=some (L++if x < aH t i then [nB (rK t i (x:Int))] else []):=by
  by_cases h0:x < aH t i
  ·rw [if_pos (by omega),qJS hC hi (by omega) (by omega),aA,qCK,aA,aB (by simp;omega),if_pos h0]
  rw [if_neg (by omega),if_neg h0,List.append_nil]
 rw [e2,aA,qFJ,aA,aB (by simp;omega),aB (aO hx' (by omega))]
def lY (t:Table) (i:Nat) (r:Route):Expr:=lU [orE [vE ((aF t i:Int)+0),vE ((aF t i:Int)+1)],nB (vE (oH t i+3)),qBG t r]
theorem qTM (hC:COk t) (ht:t.Wf) {r:Route} (hr:t.routes[i]?=some r):fC (bld t b) (i:Int)=some (lY t i r):=by
 have hi:=(zQQ.1 hr).1;unfold fC;rw [pD hC hi (by omega) (by omega),aA,pD hC hi (by omega) (by omega),aA,qFX,aA,qJT hC hi (by omega) (by omega),aA,qCK,aA,qTL hC ht hr,aA,qFJ,aA];rfl
theorem COk.appr (hC:COk t) {r:Route} (hr:r∈t.routes):0≤r.approach∧r.approach < t.sections:=by
 have h1:=((cJ hC.chk).2.2.1 r hr).1;unfold lP inB at h1;simp only [zQA,decide_eq_true_eq] at h1;exact h1.1.2
def oZ (r:Route):Int:=r.sections.getD 0 0
theorem qIY (hC:COk t) {r:Route} (hr:r∈t.routes):r.sections[0]?=some (oZ r)∧0≤oZ r∧oZ r < t.sections:=by
 have hsec:=hC.secs hr
 have h1:r.sections[0]?=some (oZ r):=by
  unfold oZ;rw [zQD,zQR (by omega)];rfl
 exact⟨h1,hC.sec_in hr (List.mem_append_left _ (zQM h1))⟩
abbrev stE (t:Table) (i:Nat) (k:Int):Expr:=vE ((aF t i:Int)+k)
abbrev asE (t:Table) (i:Nat) (k:Int):Expr:=vE (oH t i+k)
abbrev auE (t:Table) (i:Nat) (k:Int):Expr:=vE (dL t i+k)
def zBQ (t:Table) (i:Nat):Expr:=vE ((aF t i:Int)+(4+(aH t i:Int)))
def qMV (t:Table) (i:Nat):Expr:=vE ((aF t i:Int)+(4+(aH t i:Int))+1)
def xT (t:Table) (i:Nat) (r:Route):Expr:=lU [stE t i 0,nB (asE t i 3),nB (qBG t r)]
def qHG (t:Table) (i:Nat) (r:Route):Expr:=orE [lU [stE t i 1,nB (iH (oZ r))],lU [stE t i 2,orE [nB (asE t i 0),lU [nB (lU [asE t i 3,tR t i r]),nB (lU [atE t i,iH (oF t i r)]),nB (qMV t i)]]],lU [stE t i 3,nB (qVW t i r)]]
def xY (t:Table) (i:Nat) (r:Route):Expr:=orE [lU [stE t i 1,iH (oZ r),nB (lU [asE t i 3,asE t i 0,iH r.approach]),orE [asE t i 3,nB (qBG t r)]],lU [stE t i 2,asE t i 0,asE t i 3,tR t i r],lU [stE t i 3,qVW t i r,nB (zBQ t i)]]
def qKA (t:Table) (i:Nat) (r:Route):Expr:=orE [auE t i 0,lY t i r,auE t i 1,auE t i 2]
def lV (t:Table) (i:Nat) (r:Route):List Rung:=[⟨1,dL t i+0,0,xT t i r⟩,⟨1,dL t i+1,0,qHG t i r⟩,⟨1,dL t i+2,0,xY t i r⟩,⟨1,dL t i+3,0,qKA t i r⟩]
theorem qWH (hC:COk t) (ht:t.Wf) {r:Route} (hr:t.routes[i]?=some r) (hb:b.length≤90000):fL (bld t b) (i:Int)=some (bld t (b++lV t i r)):=by
 have hi:=(zQQ.1 hr).1;have hm:=zQM hr;have hlm:=hC.lim;have hl:=qX hC hi;have hs:=qOL hC hr;have hf:=qIY hC hm;have ha:=hC.appr hm;have g0:aU r.sections (0:Int)=λ(k:Int→Option Builder)=>k (oZ r):=by funext k;exact aG (i:=0) hf.1
 unfold fL;dsimp only;rw [aG hr,g0,hl.1];dsimp only;rw [aA,aG hs.1]
 simp only [aA, rE hC hi (show (0 : Int) ≤ 0 by omega) (show (0 : Int) ≤ 10 by omega), rE hC hi (show (0 : Int) ≤ 1 by omega) (show (1 : Int) ≤ 10 by omega), rE hC hi (show (0 : Int) ≤ 2 by omega) (show (2 : Int) ≤ 10 by omega), rE hC hi (show (0 : Int) ≤ 3 by omega) (show (3 : Int) ≤ 10 by omega),
  pD hC hi (show (0 : Int) ≤ 0 by omega) (show (0 : Int) ≤ 1000 by omega), pD hC hi (show (0 : Int) ≤ 1 by omega) (show (1 : Int) ≤ 1000 by omega), pD hC hi (show (0 : Int) ≤ 2 by omega) (show (2 : Int) ≤ 1000 by omega), pD hC hi (show (0 : Int) ≤ 3 by omega) (show (3 : Int) ≤ 1000 by omega),
  qJT hC hi (show (0 : Int) ≤ 0 by omega) (show (0 : Int) ≤ 1000 by omega), qJT hC hi (show (0 : Int) ≤ 3 by omega) (show (3 : Int) ≤ 1000 by omega), qFJ, qFX, qCK, rD, qTL hC ht hr, qMI hC hr, b_at hC hi, zBF hC hr, qTM hC ht hr, qWG hC hi, qYQ hC hi,
  tD hf.2.1 (show oZ r ≤ 1000 by omega), tD hs.2.1 (show oF t i r ≤ 1000 by omega), tD ha.1 (show r.approach ≤ 1000 by omega)]
 rw [yD (by omega),aA];dsimp only;rw [yD (by simp;omega),aA];dsimp only;rw [yD (by simp;omega),aA];dsimp only;rw [yD (by simp;omega),aA];simp only [List.append_assoc];rfl
variable {t:Table} {b:List Rung} {i:Nat}
def qDA (r:Route) (k:Nat):Int:=r.sections.getD k 0
theorem yY (hC:COk t) {r:Route} (hr:r∈t.routes) {k:Nat} (hk:k < r.sections.length):r.sections[k]?=some (qDA r k)∧0≤qDA r k∧qDA r k < t.sections:=by
 have h1:r.sections[k]?=some (qDA r k):=by
  unfold qDA;rw [zQD,zQR hk];rfl
 exact⟨h1,hC.sec_in hr (List.mem_append_left _ (zQM h1))⟩
def qFP (t:Table) (i:Nat) (r:Route) (k:Nat):Expr:=lU [orE [auE t i 1,auE t i 2],orE [rK t i (k:Int),lU ([stE t i 2,auE t i 1,asE t i 0,iH (qDA r k),orE [nB (iH (qDA r (k+1))),asE t i 1]]++if 0 < k then [rK t i ((k:Int) - 1)] else [])]]
def mG (t:Table) (i:Nat) (r:Route) (n:Nat):List Rung:=(List.range n).map λj=>⟨1,(aF t i:Int)+(4+((aH t i - 1 - j:Nat):Int)),0,qFP t i r (aH t i - 1 - j)⟩
theorem qDC (r:Route) (n:Nat):(mG t i r n).length=n:=by unfold mG;simp
def fY (t:Table) (i:Nat) (r:Route):List Rung:=mG t i r (aH t i)++[⟨1,(aF t i:Int)+1,0,lY t i r⟩,⟨1,(aF t i:Int)+2,0,auE t i 1⟩,⟨1,(aF t i:Int)+3,0,auE t i 2⟩]
theorem zNF (hC:COk t) (ht:t.Wf) {r:Route} (hr:t.routes[i]?=some r) (hb:b.length≤90000):gO (bld t b) (i:Int)=some (bld t (b++fY t i r)):=by
 have hi:=(zQQ.1 hr).1;have hm:=zQM hr;have hlm:=hC.lim;have hl:=qX hC hi;have hsec:=hC.secs hm;have hln:aH t i=r.sections.length - 1:=by unfold aH;rw [hr]
 unfold gO;dsimp only;rw [aG hr,hl.1,aA,aB (by unfold I64;omega)];rw [oT (λj=>((aH t i:Int) - 1 - (j:Int),b++mG t i r j)) (aH t i) (o:=b++mG t i r (aH t i)) (by simp [mG]) (by omega) (λj hj=>?_) (by dsimp only;rw [if_neg (by omega)];rfl),aA]
 ·have hlen : (b ++ mG t i r (aH t i)).length ≤ 91000 := by rw [zQL, qDC]; omega
  unfold fY;rw [← List.append_assoc];generalize b++mG t i r (aH t i)=B at hlen;rw [yF hC hi (by omega) (by omega),aA,qTM hC ht hr,aA,yD (by omega),aA];dsimp only;rw [yF hC hi (by omega) (by omega),aA,rE hC hi (by omega) (by omega),aA,rD,aA,yD (by simp;omega),aA];dsimp only;rw [yF hC hi (by omega) (by omega),aA,rE hC hi (by omega) (by omega),aA,rD,aA,yD (by simp;omega),aA];simp only [List.append_assoc];rfl
 have hlen : (b ++ mG t i r j).length ≤ 91000 := by rw [zQL, qDC]; omega
 have hstep:b++mG t i r (j+1)=(b++mG t i r j)++[⟨1,(aF t i:Int)+(4+((aH t i - 1 - j:Nat):Int)),0,qFP t i r (aH t i - 1 - j)⟩]:=by
  unfold mG;rw [xO,List.append_assoc]
 rw [hstep];generalize b++mG t i r j=B at hlen;obtain⟨k,hk⟩:∃ k:Nat,k=aH t i - 1 - j:=⟨_,rfl⟩;rw [← hk];have hkI:(aH t i:Int) - 1 - (j:Int)=(k:Int):=by omega
 have hk1:=yY hC hm (k:=k) (by omega);have hk2:=yY hC hm (k:=k+1) (by omega);dsimp only;rw [hkI,if_pos (by omega),pD hC hi (by omega) (by omega),aA,rE hC hi (by omega) (by omega),aA,rD,aA,qJT hC hi (by omega) (by omega),aA,aG hk1.1,tD hk1.2.1 (by omega),aA,aB (by unfold I64;omega)];rw [show ((k:Int)+1)=((k+1:Nat):Int) by omega,aG hk2.1,tD hk2.2.1 (by omega),aA,qCK,aA,qJT hC hi (by omega) (by omega),aA,qFX,aA];generalize hL:[vE ((aF t i:Int)+2),vE (dL t i+1),vE (oH t i+0),iH (qDA r k),orE [nB (iH (qDA r (k+1))),vE (oH t i+1)]]=L;have hLl:L.length=5:=by rw [← hL];rfl
 have e1:(if (0:Int) < (k:Int) then aD (I64 ((k:Int) - 1)) (aC (cH (bld t B) (i:Int) ((k:Int) - 1)) λr29=>aD ((L++[r29]).length≤1000000000) (some (L++[r29]))) else some L)=some (L++if 0 < k then [rK t i ((k:Int) - 1)] else []):=by
  by_cases h0:0 < k
  ·rw [if_pos (by omega),aB (by unfold I64;omega),qJS hC hi (by omega) (by omega),aA,aB (by simp;omega),if_pos h0]
  rw [if_neg (by omega),if_neg h0,List.append_nil]
 rw [e1,aA,aB (by unfold I64;omega),yF hC hi (by omega) (by omega),aA,rE hC hi (show (0:Int)≤2 by omega) (by omega),aA,rD,aA,aA,rD,aA,qFX,aA,qJS hC hi (by omega) (by omega),aA,qFJ,aA,qFX,aA,qFJ,aA,yD (by omega),aA,aB (by unfold I64;omega)];unfold qFP;rw [hL,show ((k:Int) - 1)=(aH t i:Int) - 1 - ((j+1:Nat):Int) by omega]
variable {t:Table} {b:List Rung} {i:Nat}
theorem qDX {α β ρ:Type} (l:List α) (f:β→α→β) (Inv:Nat→β→Prop) {b0:β} {F:Int×β→Option ((Int×β) ⊕ ρ)} (o:β→ρ) (hn:l.length≤9223372036854775807) (h0:Inv 0 b0)
  (hs:∀ (i:Nat) (e:α) (B:β),l[i]?=some e→Inv i B→Inv (i+1) (f B e)∧F ((i:Int),B)=some (.inl ((i:Int)+1,f B e))) (he:∀ B,Inv l.length B→F ((l.length:Int),B)=some (.inr (o B))):
  bB F (0,b0)=some (o (l.foldl f b0))∧Inv l.length (l.foldl f b0):=by
 have hI:∀ i,i≤l.length→Inv i ((l.take i).foldl f b0):=by
  intro i hi
  induction i with
  | zero=>exact h0
  | succ i ih=>
   have hx:=zQR (show i < l.length by omega);rw [List.take_add_one,hx];simp only [Option.toList_some,List.foldl_append,List.foldl_cons,List.foldl_nil];exact (hs i _ _ hx (ih (by omega))).1
 have hL:=hI l.length (zQW _);rw [List.take_length] at hL;refine⟨fF l.length (λi=>(l.take i).foldl f b0) rfl hn (λi hi=>?_) (by rw [List.take_length];exact he _ hL),hL⟩;have hx:=zQR hi;rw [(hs i _ _ hx (hI i (by omega))).2,List.take_add_one,hx];simp only [Option.toList_some,List.foldl_append,List.foldl_cons,List.foldl_nil]
abbrev Sh:=Bool×List Int
def nY (n:Nat) (x:Int) (s:Sh):Sh:=if x < 0∨x=(n:Int) then (true,s.2) else if x∈s.2 then s else (s.1,s.2++[x])
def ShOk (n k:Nat) (s:Sh):Prop:=s.2.length≤k∧∀ x∈s.2,0≤x∧x < (n:Int)
theorem ShOk.mono {n k m:Nat} {s:Sh} (h:ShOk n k s) (hk:k≤m):ShOk n m s:=⟨Nat.le_trans h.1 hk,h.2⟩
theorem ShOk.fst {n k:Nat} {s:Sh} (h:ShOk n k s) (c:Bool):ShOk n k (c,s.2):=h
theorem qHH {n k:Nat} {x:Int} {s:Sh} (h:ShOk n k s) (hx:x≤(n:Int)):ShOk n (k+1) (nY n x s):=by
 unfold nY;split
 ·exact (h.fst true).mono (by omega)
 split
 ·exact h.mono (by omega)
 rename_i h1 h2;refine⟨by have:=h.1;simp;omega,λy hy=>?_⟩;simp only [zQN,List.mem_singleton] at hy;rcases hy with hy|hy
 ·exact h.2 y hy
 subst hy;omega
theorem zHQ (hC:COk t) {j:Nat} (hj:j < t.routes.length) {x:Int} {c:Bool} {l:List Int} (hl:l.length≤1000):bR x (bld t b) (j:Int) c l=some (nY (aH t j) x (c,l)):=by
 unfold bR nY;dsimp only;rw [(qX hC hj).1];by_cases h0:x < 0
 ·rw [if_pos h0,aA,if_pos rfl,if_pos (.inl h0)]
 rw [if_neg h0,aA,aA];by_cases h1:x=(aH t j:Int)
 ·rw [if_pos (decide_eq_true h1),if_pos (.inr h1)]
 rw [decide_eq_false h1, if_neg (by simp), if_neg (by intro hc; rcases hc with hc | hc; exact h0 hc; exact h1 hc), mN l x (by unfold Cnt; omega), aA];by_cases h2:x∈l
 ·rw [decide_eq_true h2,if_neg (by simp),if_pos h2]
 rw [decide_eq_false h2,if_pos (by simp),if_neg h2,aB (by simp;omega)]
def qKI (n:Nat) (q:Route) (f:Bool) (s:Sh) (x:Int):Sh:=
 let s1:=if 0≤fM (bY q.sections x) then nY n (fM (bY q.sections x)) s else s
 if s1.1=true then (true,s1.2) else if x∈q.overSections then (!f,s1.2) else (false,s1.2)
def qKH (n:Nat) (q:Route) (f g:Bool) (s:Sh) (x:Int):Sh:=
 let s1:=if 0≤fM (bY q.sections x)∧g=false then nY n (fM (bY q.sections x)) s else s
 if s1.1=true then (true,s1.2) else if x∈q.overSections then if f=false then (!g,s1.2) else (false,s1.2) else (false,s1.2)
theorem qIV (hC:COk t) {j:Nat} {q:Route} (hq:t.routes[j]?=some q) (x:Int):fM (bY q.sections x)≤(aH t j:Int):=by
 have hln:aH t j=q.sections.length - 1:=by unfold aH;rw [hq]
 unfold bY
 cases e:q.sections.findIdx? λy=>y == x with
 | none=>simp only [fM];omega
 | some k=>obtain⟨_,_,_,hk⟩:=rN e;simp only [fM];omega
theorem zJI (hC:COk t) {j:Nat} {q:Route} (hq:t.routes[j]?=some q) {f:Bool} {k:Nat} {s:Sh} {x:Int} (h:ShOk (aH t j) k s):ShOk (aH t j) (k+1) (qKI (aH t j) q f s x):=by
 unfold qKI
 have h1:ShOk (aH t j) (k+1) (if 0≤fM (bY q.sections x) then nY (aH t j) (fM (bY q.sections x)) s else s):=by
  split
  ·exact qHH h (qIV hC hq x)
  exact h.mono (by omega)
 dsimp only;generalize (if 0≤fM (bY q.sections x) then nY (aH t j) (fM (bY q.sections x)) s else s)=s1 at h1;split
 ·exact h1.fst _
 split
 ·exact h1.fst _
 exact h1.fst _
theorem zJG (hC:COk t) {j:Nat} {q:Route} (hq:t.routes[j]?=some q) {f g:Bool} {k:Nat} {s:Sh} {x:Int} (h:ShOk (aH t j) k s):ShOk (aH t j) (k+1) (qKH (aH t j) q f g s x):=by
 unfold qKH
 have h1:ShOk (aH t j) (k+1) (if 0≤fM (bY q.sections x)∧g=false then nY (aH t j) (fM (bY q.sections x)) s else s):=by
  split
  ·exact qHH h (qIV hC hq x)
  exact h.mono (by omega)
 dsimp only;generalize (if 0≤fM (bY q.sections x)∧g=false then nY (aH t j) (fM (bY q.sections x)) s else s)=s1 at h1;split
 ·exact h1.fst _
 split
 ·split
  ·exact h1.fst _
  exact h1.fst _
 exact h1.fst _
theorem shA_eq (hC : COk t) {j : Nat} {r q : Route} (hr : r ∈ t.routes) (hq : t.routes[j]? = some q) (f : Bool) {s0 : Sh} {k0 : Nat} (h0 : ShOk (aH t j) k0 s0) (hk : k0 ≤ 100) : bB (fun ((x12 : Int), (c13 : Bool), (b14 : List Int)) =>
   if x12 < (r.sections.length : Int) then
    aU r.sections x12 fun e17 =>
    aC (
     aC (dO q.sections e17) fun r21 =>
     if (0 : Int) ≤ r21 then
      aC (bR r21 (bld t b) (j : Int) c13 b14) fun (r24, r25) =>
      some (r24, r25)
     else
      some (c13, b14)) fun (c18, b19) =>
    if c18 = true then
     aD (I64 (x12 + (1 : Int))) <|
     some (.inl ((x12 + (1 : Int)), true, b19))
    else
     aC (bP q.overSections e17) fun r27 =>
     if r27 = true then
      aD (I64 (x12 + (1 : Int))) <|
      some (.inl ((x12 + (1 : Int)), !(f), b19))
     else
      aD (I64 (x12 + (1 : Int))) <|
      some (.inl ((x12 + (1 : Int)), false, b19))
   else
    aN (
     some (c13, b14))) ((0 : Int), s0) = some (r.sections.foldl (qKI (aH t j) q f) s0) ∧ ShOk (aH t j) (k0 + r.sections.length) (r.sections.foldl (qKI (aH t j) q f) s0) := by
 have hj:=(zQQ.1 hq).1;have hqm:=zQM hq;have hsum:=hC.sum r hr;have hsumq:=hC.sum q hqm;unfold uG at hsum hsumq;refine qDX r.sections (qKI (aH t j) q f) (λi s=>ShOk (aH t j) (k0+i) s) (λs=>s) (by omega) h0 (λx e s hx hs=>⟨zJI hC hq hs,?_⟩) (λs _=>by obtain⟨c,l⟩:=s;dsimp only;rw [if_neg (by omega)];rfl);obtain⟨c,l⟩:=s;have hx':=(zQQ.1 hx).1;have hl:l.length≤1000:=by have:=hs.1;dsimp only at this;omega
 dsimp only;rw [if_pos (by omega),aG hx,xW _ _ (by unfold Cnt;omega),aA]
 have e1:(if (0:Int)≤fM (bY q.sections e) then aC (bR (fM (bY q.sections e)) (bld t b) (j:Int) c l) λ(r24,r25)=>some (r24,r25) else some (c,l))=some (if 0≤fM (bY q.sections e) then nY (aH t j) (fM (bY q.sections e)) (c,l) else (c,l)):=by
  split
  ·rw [zHQ hC hj hl,aA]
  rfl
 rw [e1,aA];unfold qKI;dsimp only;generalize (if 0≤fM (bY q.sections e) then nY (aH t j) (fM (bY q.sections e)) (c,l) else (c,l))=s1;obtain⟨c1,l1⟩:=s1;dsimp only;cases c1
 ·rw [if_neg (by simp), if_neg (by simp), mN _ _ (by unfold Cnt; omega), aA];by_cases hm:e∈q.overSections
  ·rw [decide_eq_true hm,if_pos rfl,if_pos hm,aB (aO hx' (by omega))]
  rw [decide_eq_false hm,if_neg (by simp),if_neg hm,aB (aO hx' (by omega))]
 rw [if_pos rfl,if_pos rfl,aB (aO hx' (by omega))]
theorem shB_eq (hC : COk t) {j : Nat} {r q : Route} (hr : r ∈ t.routes) (hq : t.routes[j]? = some q) (f g : Bool) {s0 : Sh} {k0 : Nat} (h0 : ShOk (aH t j) k0 s0) (hk : k0 ≤ 400) : bB (fun ((x40 : Int), (c41 : Bool), (b42 : List Int)) =>
   if x40 < (r.overSections.length : Int) then
    aU r.overSections x40 fun e45 =>
    aC (
     aC (dO q.sections e45) fun r49 =>
     if ((decide ((0 : Int) ≤ r49)) && (!(g))) = true then
      aC (bR r49 (bld t b) (j : Int) c41 b42) fun (r53, r54) =>
      some (r53, r54)
     else
      some (c41, b42)) fun (c46, b47) =>
    if c46 = true then
     aD (I64 (x40 + (1 : Int))) <|
     some (.inl ((x40 + (1 : Int)), true, b47))
    else
     aC (bP q.overSections e45) fun r56 =>
     if r56 = true then
      if (!(f)) = true then
       aD (I64 (x40 + (1 : Int))) <|
       some (.inl ((x40 + (1 : Int)), !(g), b47))
      else
       aD (I64 (x40 + (1 : Int))) <|
       some (.inl ((x40 + (1 : Int)), false, b47))
     else
      aD (I64 (x40 + (1 : Int))) <|
      some (.inl ((x40 + (1 : Int)), false, b47))
   else
    aN (
     some (c41, b42))) ((0 : Int), s0) = some (r.overSections.foldl (qKH (aH t j) q f g) s0) ∧ ShOk (aH t j) (k0 + r.overSections.length) (r.overSections.foldl (qKH (aH t j) q f g) s0) := by
 have hj:=(zQQ.1 hq).1;have hqm:=zQM hq;have hsum:=hC.sum r hr;have hsumq:=hC.sum q hqm;unfold uG at hsum hsumq;refine qDX r.overSections (qKH (aH t j) q f g) (λi s=>ShOk (aH t j) (k0+i) s) (λs=>s) (by omega) h0 (λx e s hx hs=>⟨zJG hC hq hs,?_⟩) (λs _=>by obtain⟨c,l⟩:=s;dsimp only;rw [if_neg (by omega)];rfl);obtain⟨c,l⟩:=s;have hx':=(zQQ.1 hx).1;have hl:l.length≤1000:=by have:=hs.1;dsimp only at this;omega
 dsimp only;rw [if_pos (by omega),aG hx,xW _ _ (by unfold Cnt;omega),aA]
 have e1:(if ((decide ((0:Int)≤fM (bY q.sections e)))&&(!(g)))=true then aC (bR (fM (bY q.sections e)) (bld t b) (j:Int) c l) λ(r24,r25)=>some (r24,r25) else some (c,l))=some (if 0≤fM (bY q.sections e)∧g=false then nY (aH t j) (fM (bY q.sections e)) (c,l) else (c,l)):=by
  by_cases h:0≤fM (bY q.sections e)∧g=false
  ·rw [if_pos (by simp [h.1,h.2]),if_pos h,zHQ hC hj hl,aA]
  rw [if_neg (by simpa using h),if_neg h]
 rw [e1,aA];unfold qKH;dsimp only;generalize (if 0≤fM (bY q.sections e)∧g=false then nY (aH t j) (fM (bY q.sections e)) (c,l) else (c,l))=s1;obtain⟨c1,l1⟩:=s1;dsimp only;cases c1
 ·rw [if_neg Bool.false_ne_true, if_neg Bool.false_ne_true, mN _ _ (by unfold Cnt; omega), aA];by_cases hm:e∈q.overSections
  ·rw [decide_eq_true hm,if_pos rfl,if_pos hm];cases f
   ·simp only [Bool.not_false,if_true];rw [aB (aO hx' (by omega))]
   simp only [Bool.not_true,Bool.false_eq_true,Bool.true_eq_false,if_false];rw [aB (aO hx' (by omega))]
  rw [decide_eq_false hm,if_neg Bool.false_ne_true,if_neg hm,aB (aO hx' (by omega))]
 rw [if_pos rfl,if_pos rfl,aB (aO hx' (by omega))]
variable {t:Table} {b:List Rung} {i:Nat}
theorem qZL (l:List Setting) (x:Setting) (h:Cnt l) (hx:Setting.ok x) (ho:∀ s∈l,Setting.ok s):gY l x=some (fM (l.findIdx? λy=>decide (x=y))):=by
 unfold gY;rw [qDY l (λy=>decide (x=y)) (λi=>.inr (i:Int)) (.inl ()) h (λk e he=>?_) (by rw [if_neg (by omega)];rfl)]
 ·cases l.findIdx? λy=>decide (x=y)<;>rfl
 have hi:=(zQQ.1 he).1;rw [if_pos (by omega),aG he,aB ⟨hx,ho e (zQM he)⟩];by_cases hz:x=e
 ·rw [if_pos hz,if_pos (decide_eq_true hz)];rfl
 rw [if_neg hz,aB (aO hi h),if_neg (by simpa using hz)]
theorem vK (l:List Setting) (x:Setting) (h:Cnt l) (hx:Setting.ok x) (ho:∀ s∈l,Setting.ok s):cP l x=some (decide (x∈l)):=by
 unfold cP;rw [qZL l x h hx ho,aA,qLV,List.findIdx?_isSome]
 congr 1
 rw [Bool.eq_iff_iff,zQU];simp
def wE (t:Table) (el:Int):Int:=t.homes.getD (tZ t el).toNat 0
theorem COk.home (hC:COk t) {r:Route} (hr:r∈t.routes) {x:Setting} (hx:x∈eG (bS r)):∃ k:Nat,tZ t x.el=(k:Int)∧k < t.points.length∧t.homes[k]?=some (wE t x.el)∧0≤wE t x.el∧wE t x.el < t.sections:=by
 have h1:=hC.set_in hr hx;have hp:=(cJ hC.chk).2.1;unfold rL at hp;simp only [zQA,decide_eq_true_eq] at hp;obtain⟨k,hk⟩:∃ k:Nat,tZ t x.el=(k:Int):=⟨(tZ t x.el).toNat,by omega⟩;have hkl:k < t.points.length:=by omega
 have h2:t.homes[k]?=some (wE t x.el):=by
  unfold wE;rw [hk,zQD,show ((k:Int)).toNat=k by omega,zQR (by omega)];rfl
 have h3:=allB_iff.1 hp.2 k hkl;rw [qDK (zQR hkl) (zQR (show k - 1 < t.points.length by omega)) h2] at h3;have h4:=of_decide_eq_true h3;exact⟨k,hk,hkl,h2,h4.2.2.1,h4.2.2.2⟩
def sJ (x:Setting):Setting:=⟨x.el,3 - x.pos⟩
def qKG (t:Table) (n:Nat) (q:Route) (s:Sh) (x:Setting):Sh:=
 if sJ x∈q.overPoints∨sJ x∈q.flank then (true,s.2) else if sJ x∈q.points then nY n (fM (bY q.sections (wE t x.el))) s else s
theorem zJE (hC:COk t) {j:Nat} {q:Route} (hq:t.routes[j]?=some q) {k:Nat} {s:Sh} {x:Setting} (h:ShOk (aH t j) k s):ShOk (aH t j) (k+1) (qKG t (aH t j) q s x):=by
 unfold qKG;split
 ·exact (h.fst _).mono (by omega)
 split
 ·exact qHH h (qIV hC hq _)
 exact h.mono (by omega)
theorem shC_eq (hC : COk t) (ht : t.Wf) {j : Nat} {r q : Route} (hr : r ∈ t.routes) (hq : t.routes[j]? = some q) {s0 : Sh} {k0 : Nat} (h0 : ShOk (aH t j) k0 s0) (hk : k0 ≤ 700) : bB (fun ((x72 : Int), (c73 : Bool), (b74 : List Int)) =>
   if x72 < ((eG (bS r)).length : Int) then
    aU (eG (bS r)) x72 fun e77 =>
    aD (I64 ((3 : Int) - e77.pos)) <|
    aC (
     aC (cP q.overPoints (⟨e77.el, ((3 : Int) - e77.pos)⟩ : Setting)) fun r81 =>
     if r81 = true then
      some true
     else
      aC (cP q.flank (⟨e77.el, ((3 : Int) - e77.pos)⟩ : Setting)) fun r83 =>
      some r83) fun x79 =>
    if x79 = true then
     aD (I64 (x72 + (1 : Int))) <|
     some (.inl ((x72 + (1 : Int)), true, b74))
    else
     aC (cP q.points (⟨e77.el, ((3 : Int) - e77.pos)⟩ : Setting)) fun r86 =>
     if r86 = true then
      aC (eK t e77.el) fun r88 =>
      aU t.homes r88 fun e89 =>
      aC (dO q.sections e89) fun r90 =>
      aC (bR r90 (bld t b) (j : Int) c73 b74) fun (r92, r93) =>
      aD (I64 (x72 + (1 : Int))) <|
      some (.inl ((x72 + (1 : Int)), r92, r93))
     else
      aD (I64 (x72 + (1 : Int))) <|
      some (.inl ((x72 + (1 : Int)), c73, b74))
   else
    aN (
     some (c73, b74))) ((0 : Int), s0) = some ((eG (bS r)).foldl (qKG t (aH t j) q) s0) ∧ ShOk (aH t j) (k0 + (eG (bS r)).length) ((eG (bS r)).foldl (qKG t (aH t j) q) s0) := by
 have hj:=(zQQ.1 hq).1;have hqm:=zQM hq;have hsum:=hC.sum r hr;have hsumq:=hC.sum q hqm;unfold uG at hsum hsumq;have hal:=lJ (bS r);have hal2:(bS r).length≤200:=by simp only [bS,zQL];omega
 have hlm:=hC.lim;have hso:=qMR ht q hqm;refine qDX (eG (bS r)) (qKG t (aH t j) q) (λi s=>ShOk (aH t j) (k0+i) s) (λs=>s) (by omega) h0 (λx e s hx hs=>⟨zJE hC hq hs,?_⟩) (λs _=>by obtain⟨c,l⟩:=s;dsimp only;rw [if_neg (by omega)];rfl);obtain⟨c,l⟩:=s;have hx':=(zQQ.1 hx).1;have hxm:=zQM hx;have hsi:=hC.set_in hr hxm;obtain⟨k,hk1,hk2,hk3,hk4,hk5⟩:=hC.home hr hxm;have hl:l.length≤1000:=by have:=hs.1;dsimp only at this;omega
 have heo:Setting.ok e:=qMR ht r hr e (ascS_mem.1 hxm);have hoo:Setting.ok (sJ e):=⟨heo.1,by show I64 (3 - e.pos);unfold I64;omega⟩;have hop:(⟨e.el,(3:Int) - e.pos⟩:Setting)=sJ e:=rfl;have o1:∀ s∈q.overPoints,Setting.ok s:=λs hs=>hso s (by simp [bS,hs]);have o2:∀ s∈q.flank,Setting.ok s:=λs hs=>hso s (by simp [bS,hs]);have o3:∀ s∈q.points,Setting.ok s:=λs hs=>hso s (by simp [bS,hs]);dsimp only;rw [if_pos (by omega),aG hx,aB (by unfold I64;omega),hop,vK _ _ (by unfold Cnt;omega) hoo o1,aA,vK _ _ (by unfold Cnt;omega) hoo o2,aA];unfold qKG;dsimp only
 have e1:(if decide (sJ e∈q.overPoints)=true then some true else some (decide (sJ e∈q.flank)))=some (decide (sJ e∈q.overPoints∨sJ e∈q.flank)):=by
  by_cases h:sJ e∈q.overPoints
  ·rw [if_pos (decide_eq_true h),decide_eq_true (Or.inl h)]
  rw [if_neg (by simpa using h)]
  congr 1
  rw [Bool.eq_iff_iff];simp [h]
 rw [e1,aA];by_cases hc:sJ e∈q.overPoints∨sJ e∈q.flank
 ·rw [if_pos (decide_eq_true hc),if_pos hc,aB (aO hx' (by omega))]
 rw [if_neg (by rw [decide_eq_false hc]; exact Bool.false_ne_true), if_neg hc, vK _ _ (by unfold Cnt; omega) hoo o3, aA];by_cases hd:sJ e∈q.points
 ·have hid:fM (bY t.points e.el)=(k:Int):=hk1;rw [if_pos (decide_eq_true hd),if_pos hd,mR t _ (by unfold Cnt;omega),aA,hid,aG hk3,xW _ _ (by unfold Cnt;omega),aA,zHQ hC hj hl,aA,aB (aO hx' (by omega))]
 rw [if_neg (by rw [decide_eq_false hd];exact Bool.false_ne_true),if_neg hd,aB (aO hx' (by omega))]
def sS (r q:Route):Bool:=(decide ((0:Int)≤r.exit))&&(decide (q.entry=r.exit))
def pZ (t:Table) (j:Nat) (r q:Route):Sh:=
 (eG (bS r)).foldl (qKG t (aH t j) q) (r.overSections.foldl (qKH (aH t j) q (sS q r) (sS r q)) (r.sections.foldl (qKI (aH t j) q (sS q r)) (false,[])))
theorem qCX (hC:COk t) (ht:t.Wf) {j:Nat} {r q:Route} (hr:t.routes[i]?=some r) (hq:t.routes[j]?=some q):gF (bld t b) (i:Int) (j:Int)=some (pZ t j r q)∧ShOk (aH t j) 200 (pZ t j r q):=by
 have hrm:=zQM hr;have hsum:=hC.sum r hrm;unfold uG at hsum;have hal:=lJ (bS r);have hal2:(bS r).length=r.points.length+r.overPoints.length+r.flank.length:=by simp only [bS,zQL]
 have hA:=shA_eq (b:=b) hC hrm hq (sS q r) (s0:=(false,[])) (k0:=0) ⟨by simp,by simp⟩ (by omega);have hB:=shB_eq (b:=b) hC hrm hq (sS q r) (sS r q) hA.2 (by omega);have hD:=shC_eq (b:=b) hC ht hrm hq hB.2 (by omega);refine⟨?_,hD.2.mono (by omega)⟩;unfold gF;dsimp only;rw [aG hr,aG hq];rw [show fA q r=some (sS q r) from rfl,aA,show fA r q=some (sS r q) from rfl,aA];rw [hA.1,aA,hB.1,aA,hC.sok ht hrm,aA,hD.1,aA];rfl
theorem oA {α:Type} {l:List α}:l.Nodup↔∀ a c,a < c→c < l.length→l[a]?≠l[c]?:=by
 unfold List.Nodup;rw [List.pairwise_iff_getElem];constructor
 ·intro h a c hac hc he;rw [zQR hc,zQR (show a < l.length by omega)] at he;exact h a c (by omega) hc hac (Option.some.inj he)
 intro h a c ha hc hac he;refine h a c hac hc ?_;rw [zQR hc,zQR ha,he]
theorem xL {α:Type} [DecidableEq α]:∀ (V L:List α),L.Nodup→L⊆V→V.length≤L.length→V.Nodup
 | [],_,_,_,_=>List.nodup_nil
 | x :: r,L,hn,hs,hl=>by
  rw [List.length_cons] at hl;rw [List.nodup_cons]
  have hx:x∉r:=by
   intro hx
   have:=List.Nodup.length_le_of_subset hn (l₂:=r) λy hy=>by
    rcases zQB.1 (hs hy) with h|h
    ·subst h;exact hx
    exact h
   omega
  refine⟨hx,xL r (L.erase x) (hn.erase x) (λy hy=>?_) ?_⟩
  ·have h1:=hn.mem_erase_iff.1 hy;rcases zQB.1 (hs h1.2) with h|h
   ·exact absurd h h1.1
   exact h
  rw [List.length_erase];split<;>omega
theorem Expr.eta (e:Expr):(⟨e.op,e.var,e.args⟩:Expr)=e:=by cases e;rfl
def opB (v:List Bool) (op x:Int) (bs:List Bool):Bool:=
 if op=3 then decide (0≤x)&&v.getD x.toNat false
 else if op=4 then (match bs with|[]=>false|b :: _=>!b)
 else if op=5 then bs.all id
 else if op=6 then bs.any id
 else decide (op=2)
mutual
def evE (v:List Bool):Expr→Bool
 | ⟨op,x,l⟩=>opB v op x (evL v l)
def evL (v:List Bool):List Expr→List Bool
 | []=>[]
 | e :: r=>evE v e :: evL v r
end
mutual
def dpE:Expr→Nat
 | ⟨_,_,l⟩=>dpL l+1
def dpL:List Expr→Nat
 | []=>0
 | e :: r=>max (dpE e) (dpL r)
end
mutual
def szE:Expr→Nat
 | ⟨_,_,l⟩=>szL l+1
def szL:List Expr→Nat
 | []=>0
 | e :: r=>szE e+szL r
end
abbrev qOC:Nat:=9223372036854775807
mutual
def okE:Expr→Prop
 | ⟨_,_,l⟩=>l.length≤qOC∧okL l
def okL:List Expr→Prop
 | []=>True
 | e :: r=>okE e∧okL r
end
theorem qYD (v:List Bool):∀ l,evL v l=l.map (evE v)
 | []=>by simp [evL]
 | e :: r=>by simp [evL,qYD v r]
theorem qJC (v:List Bool) (e:Expr):evE v e=opB v e.op e.var (e.args.map (evE v)):=by
 cases e with
 | mk a b c=>rw [evE,qYD]
theorem dpL_le {d:Nat}:∀ {l:List Expr},dpL l≤d↔∀ e∈l,dpE e≤d
 | []=>by simp [dpL]
 | e :: r=>by rw [dpL,Nat.max_le,dpL_le (l:=r)];simp
theorem qVV (e:Expr):dpE e=dpL e.args+1:=by
 cases e with
 | mk a b c=>rw [dpE]
theorem qWV:∀ l:List Expr,szL l=(l.map szE).sum
 | []=>by simp [szL]
 | e :: r=>by simp [szL,qWV r]
theorem zCC (e:Expr):szE e=szL e.args+1:=by
 cases e with
 | mk a b c=>rw [szE]
theorem qMU (a b:List Expr):szL (a++b)=szL a+szL b:=by simp [qWV]
theorem qNX:∀ {l:List Expr},okL l↔∀ e∈l,okE e
 | []=>by simp [okL]
 | e :: r=>by rw [okL,qNX (l:=r)];simp
theorem okE_iff {e:Expr}:okE e↔e.args.length≤qOC∧∀ x∈e.args,okE x:=by
 cases e with
 | mk a b c=>rw [okE,qNX]
theorem zJK (e:Expr):qP e=some ⟨if e.op=3 then 180 else if e.op=4 then (if 0 < e.args.length then 181 else 200) else if e.op=5 then 182 else if e.op=6 then 183 else 200,e⟩:=by
 unfold qP;by_cases h3:e.op=3
 ·rw [if_pos h3,if_pos h3]
 rw [if_neg h3,if_neg h3];by_cases h4:e.op=4
 ·rw [if_pos h4,if_pos h4];by_cases h:0 < e.args.length
  ·rw [if_pos (by omega),if_pos h]
  rw [if_neg (by omega),if_neg h]
 rw [if_neg h4,if_neg h4];by_cases h5:e.op=5
 ·rw [if_pos h5,if_pos h5]
 rw [if_neg h5,if_neg h5];by_cases h6:e.op=6
 ·rw [if_pos h6,if_pos h6]
 rw [if_neg h6,if_neg h6]
theorem qMB (v:List Bool):∀ (fu:Nat) (e:Expr),dpE e≤fu→okE e→iU fu e v=some (evE v e)
 | 0,e,h,_=>by rw [qVV] at h;omega
 | fu+1,e,h,ho=>by
  rw [qVV] at h;have hd:∀ x∈e.args,dpE x≤fu:=dpL_le.1 (by omega);obtain⟨hl,hox⟩:=okE_iff.1 ho;unfold qOC at hl;have ih:∀ x∈e.args,iU fu x v=some (evE v x):=λx hx=>qMB v fu x (hd x hx) (hox x hx);rw [qJC];unfold iU opB;rw [zJK,aA];dsimp only;by_cases h3:e.op=3
  ·rw [if_pos h3,if_pos rfl,if_pos h3];by_cases h0:0≤e.var
   ·rw [if_pos h0,decide_eq_true h0,Bool.true_and];by_cases h1:e.var < (v.length:Int)
    ·have hx : v[e.var.toNat]? = some v[e.var.toNat] := zQR (by omega);rw [if_pos h1,oX h0 hx,aA,zQD,hx];rfl
    rw [if_neg h1, aA, zQD, List.getElem?_eq_none (by omega)];rfl
   rw [if_neg h0,decide_eq_false h0,Bool.false_and];rfl
  rw [if_neg h3,if_neg h3];by_cases h4:e.op=4
  ·rw [if_pos h4,if_pos h4];by_cases hz:0 < e.args.length
   ·rw [if_pos hz, if_neg (by decide), if_pos rfl];have hx:e.args[0]?=some e.args[0]:=zQR hz;rw [show (0:Int)=((0:Nat):Int) from rfl,aG hx,ih _ (List.getElem_mem hz),aA,eP,jV]
    cases e with
    | mk a b c=>
     cases c with
     | nil=>simp at hz
     | cons y r=>rfl
   rw [if_neg hz, if_neg (by decide), if_neg (by decide), if_neg (by decide), if_neg (by decide), dB, decide_eq_false (by omega)]
   cases e with
   | mk a b c=>
    cases c with
    | nil=>rfl
    | cons y r=>simp at hz
  rw [if_neg h4,if_neg h4];by_cases h5:e.op=5
  ·rw [if_pos h5, if_pos h5, if_neg (by decide), if_neg (by decide), if_pos rfl];rw [fE e.args (λx=>!evE v x) (.inr (.inr false)) (.inl ()) hl (λi x hx=>?_) (by rw [if_neg (by omega)];rfl)]
   ·cases ha:(e.args.map (evE v)).all id with
    | true=>
     rw [if_neg (by
      rw [zQU];rintro ⟨x, hx, hc⟩;rw [zQT] at ha;have := ha _ (List.mem_map_of_mem hx);simp only [id] at this;rw [this] at hc
      cases hc)]
     rfl
    | false=>
     rw [if_pos (by
      rw [zQU];rw [List.all_eq_false] at ha;obtain ⟨y, hy, hc⟩ := ha;obtain ⟨x, hx, rfl⟩ := List.mem_map.1 hy
      exact ⟨x, hx, by simpa using hc⟩)]
     rfl
   have hi:=(zQQ.1 hx).1;rw [if_pos (by omega),aG hx,ih x (zQM hx),aA,aB (aO hi hl)];cases evE v x<;>simp
  rw [if_neg h5,if_neg h5];by_cases h6:e.op=6
  ·rw [if_pos h6, if_pos h6, if_neg (by decide), if_neg (by decide), if_neg (by decide), if_pos rfl];rw [fE e.args (λx=>evE v x) (.inr (.inr true)) (.inl ()) hl (λi x hx=>?_) (by rw [if_neg (by omega)];rfl)]
   ·rw [List.any_map,show (id ∘ evE v)=evE v from rfl];show dN (dN (some (if e.args.any (evE v)=true then Sum.inr (Sum.inr true) else Sum.inl ())) _) _=_;cases e.args.any (evE v)
    ·rw [if_neg (by simp)];rfl
    rw [if_pos rfl];rfl
   have hi:=(zQQ.1 hx).1;rw [if_pos (by omega),aG hx,ih x (zQM hx),aA,aB (aO hi hl)];cases evE v x<;>simp
  rw [if_neg h6,if_neg h6,if_neg (by decide),if_neg (by decide),if_neg (by decide),if_neg (by decide),dB]
theorem zNO {e:Expr} (v:List Bool) (hd:dpE e≤kN) (ho:okE e):uT e v=some (evE v e):=by
 unfold uT qEG;rw [qMB v kN e hd ho,aA]
def qLX (n:Int) (op x:Int) (k:Nat):Bool:=
 if op=1∨op=2 then decide (x=0∧k=0)
 else if op=3 then decide (0≤x∧x < n∧k=0)
 else if op=4 then decide (k=1∧x=0)
 else if op=5∨op=6 then decide (x=0)
 else false
mutual
def qAA (n:Int):Expr→Bool
 | ⟨op,x,l⟩=>qLX n op x l.length&&qSO n l
def qSO (n:Int):List Expr→Bool
 | []=>true
 | e :: r=>qAA n e&&qSO n r
end
theorem qLW {n:Int}:∀ {l:List Expr},qSO n l=true↔∀ e∈l,qAA n e=true
 | []=>by simp [qSO]
 | e :: r=>by rw [qSO,zQA,qLW (l:=r)];simp
theorem yT {n:Int} {e:Expr}:qAA n e=true↔qLX n e.op e.var e.args.length=true∧∀ x∈e.args,qAA n x=true:=by
 cases e with
 | mk a b c=>rw [qAA,zQA,qLW]
def tL (n:Int) (d left:Int) (e:Expr):Prop:=qAA n e=true∧d+(dpE e:Int)≤13∧(szE e:Int)≤left
instance (n d left:Int) (e:Expr):Decidable (tL n d left e):=by unfold tL;infer_instance
theorem zJY {σ ρ:Type} {f:σ→Option (σ ⊕ ρ)} (P:ρ→Prop) (I:Nat→σ→Prop) {s:σ} (n:Nat) (hn:n≤qOC) (h0:I 0 s) (hs:∀ i,i < n→∀ s,I i s→(∃ s',f s=some (.inl s')∧I (i+1) s')∨(∃ o,f s=some (.inr o)∧P o)) (he:∀ s,I n s→∃ o,f s=some (.inr o)∧P o):∃ o,bB f s=some o∧P o:=by
 suffices h:∀ k i s,i+k=n→I i s→∃ o,pI f (k+1) s=some o∧P o by
  obtain⟨o,h1,h2⟩:=h n 0 s (by omega) h0;exact⟨o,xP h1 (by unfold kN qOC at *; omega),h2⟩
 intro k
 induction k with
 | zero=>
  intro i s hi hI;obtain⟨o,h1,h2⟩:=he s (by rw [show n=i by omega];exact hI);exact⟨o,by simp [pI,h1],h2⟩
 | succ k ih=>
  intro i s hi hI;rcases hs i (by omega) s hI with ⟨s',h1,h2⟩|⟨o,h1,h2⟩
  ·obtain ⟨o, h3, h4⟩ := ih (i + 1) s' (by omega) h2;exact⟨o,by rw [pI,h1];exact h3,h4⟩
  exact⟨o,by rw [pI,h1],h2⟩
theorem qHE (n:Int):∀ (fu:Nat) (e:Expr) (d left:Int),14≤(fu:Int)+d→0 < fu→1≤d→d≤13→0≤left→left≤1000000→okE e→∃ k,iO fu e n d left=some (decide (tL n d left e),k)∧0≤k∧k≤left∧(tL n d left e→k=left - (szE e:Int))
 | 0,e,d,left,hfu,hp,_,_,_,_,_=>by omega
 | fu+1,e,d,left,hfu,hp,hd1,hd13,h0,hm,ho=>by
  obtain⟨hl,hox⟩:=okE_iff.1 ho;have hdp:=qVV e;have hsz:=zCC e;have hgd:=yT (n:=n) (e:=e);unfold iO;by_cases hx:12 < d∨left=0
  ·rw [if_pos (by simpa using hx)];have hno:¬ tL n d left e:=by unfold tL;omega
   exact⟨left,by rw [decide_eq_false hno],h0,by omega,λh=>absurd h hno⟩
  rw [if_neg (by simpa using hx), aB (by unfold I64; omega)]
  have args (hform : qLX n e.op e.var e.args.length = true ↔ e.var = 0) (hform2 : 0 < e.args.length → 0 < fu) : ∃ k, (if e.var = (0 : Int) then
    dN (
     bB (fun ((x27 : Int), (c28 : Int)) =>
      if x27 < (e.args.length : Int) then
       aU e.args x27 fun e31 =>
       aD (I64 (d + (1 : Int))) <|
       aC ((iO fu) e31 n (d + (1 : Int)) c28) fun (r34, r35) =>
       if (!(r34)) = true then
        aN (
         aN (
          some (false, r35)))
       else
        aD (I64 (x27 + (1 : Int))) <|
        some (.inl ((x27 + (1 : Int)), r35))
      else
       aN (
        some (.inl c28))) ((0 : Int), (left - (1 : Int)))) fun c22 =>
    some (true, c22)
   else
    some (false, (left - (1 : Int)))) = some (decide (tL n d left e), k) ∧ 0 ≤ k ∧ k ≤ left ∧ (tL n d left e → k = left - (szE e : Int)) := by
   by_cases hv:e.var=0
   ·rw [if_pos hv]
    have hval:tL n d left e↔(∀ x∈e.args,qAA n x=true)∧(∀ x∈e.args,d+1+(dpE x:Int)≤13)∧(szL e.args:Int)≤left - 1:=by
     unfold tL;rw [hgd,hform,hdp,hsz]
     have hdl:d+((dpL e.args+1:Nat):Int)≤13↔∀ x∈e.args,d+1+(dpE x:Int)≤13:=by
      have h1:=dpL_le (l:=e.args) (d:=(12 - d).toNat);constructor
      ·intro h x hx;have:=h1.1 (by omega) x hx;omega
      intro h;have:=h1.2 (λx hx=>by have:=h x hx;omega);omega
     rw [hdl];constructor
     ·rintro⟨⟨_,a⟩,b,c⟩;exact⟨a,b,by omega⟩
     rintro⟨a,b,c⟩;exact⟨⟨hv,a⟩,b,by omega⟩
    obtain ⟨o, ho1, ho2⟩ := zJY (f := fun ((x27 : Int), (c28 : Int)) =>
      if x27 < (e.args.length : Int) then
       aU e.args x27 fun e31 =>
       aD (I64 (d + (1 : Int))) <|
       aC ((iO fu) e31 n (d + (1 : Int)) c28) fun (r34, r35) =>
       if (!(r34)) = true then
        aN (
         aN (
          some (false, r35)))
       else
        aD (I64 (x27 + (1 : Int))) <|
        some (.inl ((x27 + (1 : Int)), r35))
      else
       aN (
        some (.inl c28))) (s := ((0 : Int), left - 1))
     (fun (o : Int ⊕ (Bool × Int)) => match o with
      | .inl c => tL n d left e ∧ c = left - (szE e : Int)
      | .inr r => ¬ tL n d left e ∧ r.1 = false ∧ 0 ≤ r.2 ∧ r.2 ≤ left)
     (fun i s => s.1 = (i : Int) ∧ s.2 = left - 1 - (szL (e.args.take i) : Int) ∧ 0 ≤ s.2 ∧ ∀ x ∈ e.args.take i, tL n (d + 1) 1000000 x ∧ qAA n x = true ∧ d + 1 + (dpE x : Int) ≤ 13) e.args.length hl ⟨rfl, by simp [szL], by show 0 ≤ left - 1; omega, by simp⟩ (fun i hi s hI => by
      obtain ⟨x27, c28⟩ := s;obtain ⟨h1, h2, h3, h4⟩ := hI;dsimp only at h1 h2 h3;subst h1;have hxi := zQR hi;have hmem := List.getElem_mem hi;dsimp only;rw [if_pos (by omega), aG hxi, aB (by unfold I64; omega)];obtain ⟨k, hk1, hk2, hk3, hk4⟩ := qHE n fu e.args[i] (d + 1) c28 (by omega) (hform2 (by omega)) (by omega) (by omega) h3 (by omega) (hox _ hmem);rw [hk1, aA]
      have hsplit : szL (e.args.take (i + 1)) = szL (e.args.take i) + szE e.args[i] := by
       rw [List.take_add_one, hxi, qMU];simp [szL]
      by_cases hV : tL n (d + 1) c28 e.args[i]
      ·left;rw [decide_eq_true hV, if_neg (by simp), aB (aO hi hl)];refine ⟨_, rfl, by push_cast; rfl, ?_, hk2, ?_⟩
       ·dsimp only;rw [hk4 hV, hsplit];omega
       intro x hx;rw [List.take_add_one, hxi] at hx;simp only [Option.toList_some, zQN, List.mem_singleton] at hx;rcases hx with hx | hx
       ·exact h4 x hx
       subst hx;exact ⟨⟨hV.1, hV.2.1, by have := hV.2.2; omega⟩, hV.1, hV.2.1⟩
      ·right;rw [decide_eq_false hV];simp only [Bool.not_false, if_true, eP];refine ⟨_, rfl, ?_, rfl, hk2, by omega⟩;intro hc;rw [hval] at hc;apply hV;refine ⟨hc.1 _ hmem, hc.2.1 _ hmem, ?_⟩
       have h5 : szL (e.args.take (i + 1)) ≤ szL e.args := by
        conv => rhs; rw [← List.take_append_drop (i + 1) e.args, qMU]
        omega
       have h6 := hc.2.2
       omega) (fun s hI => by
      obtain ⟨x27, c28⟩ := s;obtain ⟨h1, h2, h3, h4⟩ := hI;dsimp only at h1 h2 h3;subst h1;rw [List.take_length] at h2 h4;dsimp only;rw [if_neg (by omega)];refine ⟨_, rfl, ?_, by rw [hsz]; omega⟩;rw [hval]
      exact ⟨fun x hx => (h4 x hx).2.1, fun x hx => (h4 x hx).2.2, by omega⟩)
    rw [ho1]
    cases o with
    | inl c=>
     dsimp only at ho2;rw [dB];have hsz2:(szE e:Int)≤left:=ho2.1.2.2;exact⟨c,by rw [decide_eq_true ho2.1],by omega,by omega,λ_=>ho2.2⟩
    | inr r=>
     obtain⟨r1,r2⟩:=r;dsimp only at ho2;obtain⟨p1,p2,p3,p4⟩:=ho2;subst p2;rw [jV];exact⟨r2,by rw [decide_eq_false p1],p3,p4,λh=>absurd h p1⟩
   rw [if_neg hv]
   have hno:¬ tL n d left e:=by
    unfold tL;rw [hgd,hform];intro h;exact hv h.1.1
   exact⟨left - 1,by rw [decide_eq_false hno],by omega,by omega,λh=>absurd h hno⟩
  have leaf (b:Bool) (hform:qLX n e.op e.var e.args.length=b) (hb:b=true→e.args.length=0):∃ k,(some (b,left - 1):Option (Bool×Int))=some (decide (tL n d left e),k)∧0≤k∧k≤left∧(tL n d left e→k=left - (szE e:Int)):=by
   cases b with
   | true=>
    have hnil:e.args=[]:=List.eq_nil_of_length_eq_zero (hb rfl);have h1:dpE e=1:=by rw [hdp,hnil];rfl
    have h2:szE e=1:=by rw [hsz,hnil];rfl
    have hyes:tL n d left e:=⟨hgd.2 ⟨hform,by rw [hnil];simp⟩,by omega,by omega⟩;exact⟨left - 1,by rw [decide_eq_true hyes],by omega,by omega,λ_=>by omega⟩
   | false=>
    have hno:¬ tL n d left e:=by
     unfold tL;rw [hgd,hform];intro h;exact absurd h.1.1 (by simp)
    exact⟨left - 1,by rw [decide_eq_false hno],by omega,by omega,λh=>absurd h hno⟩
  have hpos:0 < e.args.length→0 < fu:=by intro _;omega
  unfold qLX at args leaf;by_cases h12:e.op=1∨e.op=2
  ·have e1:(if e.op=(1:Int) then some (decide (e.op=(1:Int))) else some (decide (e.op=(2:Int))))=some true:=by
    rcases h12 with h|h<;>simp [h]
   rw [e1,aA,if_pos rfl,eP,jV];refine leaf _ ?_ ?_
   ·rw [if_pos h12,Bool.eq_iff_iff];simp only [decide_eq_true_eq,zQA];omega
   simp only [zQA,decide_eq_true_eq];omega
  have e1:(if e.op=(1:Int) then some (decide (e.op=(1:Int))) else some (decide (e.op=(2:Int))))=some false:=by
   rw [if_neg (by omega),decide_eq_false (by omega)]
  rw [e1,aA,if_neg (by simp)];by_cases h3:e.op=3
  ·rw [if_pos h3,eP,jV];refine leaf _ ?_ ?_
   ·rw [if_neg h12,if_pos h3,Bool.eq_iff_iff];simp only [decide_eq_true_eq,zQA];omega
   simp only [zQA,decide_eq_true_eq];omega
  rw [if_neg h3];by_cases h4:e.op=4
  ·rw [if_pos h4];by_cases h1:e.args.length=1
   ·rw [if_pos (by omega), dB];exact args (by rw [if_neg h12,if_neg h3,if_pos h4];simp [h1]) hpos
   rw [if_neg (by omega), eP, jV];exact leaf false (by rw [if_neg h12,if_neg h3,if_pos h4,decide_eq_false (by omega)]) (by simp)
  rw [if_neg h4];by_cases h5:e.op=5
  ·rw [if_pos h5,dB];exact args (by rw [if_neg h12,if_neg h3,if_neg h4,if_pos (.inl h5)];simp) hpos
  rw [if_neg h5];by_cases h6:e.op=6
  ·rw [if_pos h6,dB];exact args (by rw [if_neg h12,if_neg h3,if_neg h4,if_pos (.inr h6)];simp) hpos
  rw [if_neg h6,eP,jV];exact leaf false (by rw [if_neg h12,if_neg h3,if_neg h4,if_neg (by omega)]) (by simp)
abbrev zBV (n:Int) (e:Expr):Bool:=decide (tL n 1 20000 e)
theorem zHZ (n:Int) {e:Expr} (ho:okE e):pQ e n=some (zBV n e):=by
 unfold pQ qAR;obtain⟨k,hk,_⟩:=qHE n kN e 1 20000 (by unfold kN;omega) (by unfold kN;omega) (by omega) (by omega) (by omega) (by omega) ho;rw [hk,aA]
variable {t:Table} {b:List Rung} {i:Nat}
def qKY (t:Table) (i j:Nat):Expr:=if j < i then orE [auE t j 3,auE t j 4] else auE t j 3
def tE (t:Table) (i j:Nat) (r q:Route):List Expr:=
 if (pZ t j r q).1=true then [nB (qKY t i j)] else if (pZ t j r q).2.length=0 then [] else [orE ([nB (qKY t i j)]++[lU ((pZ t j r q).2.map (rK t j))])]
theorem qJX (i j:Nat) (r q:Route):(tE t i j r q).length≤1:=by
 unfold tE;split
 ·simp
 split
 ·simp
 simp
theorem zNG (hC:COk t) (ht:t.Wf) {j:Nat} {r q:Route} (hr:t.routes[i]?=some r) (hq:t.routes[j]?=some q):gP (bld t b) (i:Int) (j:Int)=some (tE t i j r q):=by
 have hi:=(zQQ.1 hr).1;have hj:=(zQQ.1 hq).1;have hsh:=qCX (b:=b) hC ht hr hq;have hl:=(qX hC hj).2;unfold gP tE;rw [hsh.1,aA];have hk:=hsh.2;generalize pZ t j r q=S at hk;obtain⟨w,l⟩:=S;dsimp only at hk ⊢;rw [rE hC hj (show (0:Int)≤3 by omega) (show (3:Int)≤10 by omega),aA,rD,aA]
 have e1:(if (j:Int) < (i:Int) then aC (aR (zI t) (j:Int) (4:Int)) λr11=>aC (cA r11) λr12=>aC (dF ([vE (dL t j+3),r12]:List Expr)) λr13=>some (r13.op,r13.var,r13.args) else some ((vE (dL t j+3)).op,(vE (dL t j+3)).var,(vE (dL t j+3)).args))=some ((qKY t i j).op,(qKY t i j).var,(qKY t i j).args):=by
  unfold qKY;by_cases h:j < i
  ·rw [if_pos (by omega),if_pos h,rE hC hj (by omega) (by omega),aA,rD,aA,qFX,aA]
  rw [if_neg (by omega),if_neg h]
 rw [e1,aA];dsimp only;cases w
 ·rw [if_neg Bool.false_ne_true,if_neg Bool.false_ne_true];by_cases h0:l.length=0
  ·rw [if_pos (by omega),if_pos h0]
  rw [if_neg (by omega), if_neg h0, qCK, aA, oB l (fun _ x => rK t j x) [] (by have := hk.1; dsimp only at this; omega) (fun x e B hx hB => ?_) (by dsimp only; rw [if_neg (by omega)]; rfl), aA, pN, List.nil_append, qFJ, aA, aB (by simp), qFX, aA, Expr.eta];have hx':=(zQQ.1 hx).1;have hb:=hk.2 e (zQM hx);have hk1:=hk.1;dsimp only at hk1;simp only [List.length_nil,Nat.zero_add] at hB;dsimp only;rw [if_pos (by omega),aG hx,qJS hC hj (by omega) (by omega),aA,aB (by simp;omega),aB (aO hx' (by omega))]
 rw [if_pos rfl,if_pos rfl,qCK,aA,Expr.eta]
def qEV (s:Int):Expr:=vE (2 * s+1)
def qOJ (t:Table) (x:Setting):Expr:=if x.pos=1 then nB (vE ((inN t:Int)+tZ t x.el)) else vE ((inN t:Int)+tZ t x.el)
def qGZ (t:Table) (x:Setting):Expr:=orE [qOJ t x,iH (wE t x.el)]
def iR (t:Table) (i:Nat) (r:Route) (n:Nat):List Expr:=(List.range n).flatMap λj=>if j=i then [] else match t.routes[j]? with|some q=>tE t i j r q|none=>[]
theorem yG (i:Nat) (r:Route):∀ n,(iR t i r n).length≤n
 | 0=>by simp [iR]
 | n+1=>by
  unfold iR;rw [List.range_succ,List.flatMap_append,zQL];have h:=yG i r n;unfold iR at h
  have h2:(List.flatMap (λj=>if j=i then [] else match t.routes[j]? with|some q=>tE t i j r q|none=>[]) [n]).length≤1:=by
   simp only [List.flatMap_cons,List.flatMap_nil,List.append_nil];split
   ·simp
   split
   ·exact qJX _ _ _ _
   simp
  omega
theorem qPL (i:Nat) (r:Route) (n:Nat):iR t i r (n+1)=iR t i r n++(if n=i then [] else match t.routes[n]? with|some q=>tE t i n r q|none=>[]):=by
 unfold iR;rw [List.range_succ,List.flatMap_append];simp
def qD (t:Table) (i:Nat) (r:Route):Expr:=lU ((([asE t i 2,nB (auE t i 3)]++(r.sections++r.overSections).map qEV)++iR t i r t.routes.length)++(eG (bS r)).map (qGZ t))
theorem zHT (hC:COk t) {k:Int} (h0:0≤k) (h1:k≤100):dI (zI t) k=some ((inN t:Int)+k):=by
 have hlm:=hC.lim;have h2:=(lR t).1;have h3:=hC.base t.routes.length;have h4:fO t=aF t t.routes.length:=rfl;unfold dI;dsimp only;rw [aB (by unfold I64;omega)]
theorem zHU (hC:COk t) (ht:t.Wf) {r:Route} (hr:t.routes[i]?=some r):gG (bld t b) (i:Int)=some (qD t i r):=by
 have hi:=(zQQ.1 hr).1;have hm:=zQM hr;have hlm:=hC.lim;have hsum:=hC.sum r hm;unfold uG at hsum;have hal:=lJ (bS r);have hal2:(bS r).length≤200:=by simp only [bS,zQL];omega
 unfold gG;dsimp only;rw [aG hr,qJT hC hi (by omega) (by omega),aA,rE hC hi (by omega) (by omega),aA,rD,aA,qCK,aA,yZ _ ⟨by simp,by simp;omega⟩,aA];have hfl:[r.sections,r.overSections].flatten=r.sections++r.overSections:=by simp
 have hcl:(r.sections++r.overSections).length≤200:=by rw [zQL];omega
 rw [hfl,oB (r.sections++r.overSections) (λ_ s=>qEV s) _ (by omega) (λx s B hx hB=>?_) (by dsimp only;rw [if_neg (by omega)];rfl),aA,pN]
 ·have hP : ([vE (oH t i + 2), nB (vE (dL t i + 3))] ++ (r.sections ++ r.overSections).map qEV).length ≤ 300 := by rw [zQL, zQC]; simp only [List.length_cons, List.length_nil]; omega
  unfold qD;generalize ([vE (oH t i+2),nB (vE (dL t i+3))]++(r.sections++r.overSections).map qEV)=P at hP;rw [fF t.routes.length (λn=>P++iR t i r n) (o:=P++iR t i r t.routes.length) (by simp [iR]) (by omega) (λn hn=>?_) (by dsimp only;rw [if_neg (by omega)];rfl),aA]
  ·have hP2 : (P ++ iR t i r t.routes.length).length ≤ 400 := by have := yG (t := t) i r t.routes.length; rw [zQL]; omega
   generalize (P++iR t i r t.routes.length)=P2 at hP2;rw [hC.sok ht hm,aA,oB (eG (bS r)) (λ_ s=>qGZ t s) _ (by omega) (λx s B hx hB=>?_) (by dsimp only;rw [if_neg (by omega)];rfl),aA,qFJ,aA,pN];have hx':=(zQQ.1 hx).1;have hxm:=zQM hx;obtain⟨k,hk1,hk2,hk3,hk4,hk5⟩:=hC.home hm hxm;have hid:fM (bY t.points s.el)=tZ t s.el:=rfl;dsimp only;rw [if_pos (by omega),aG hx,mR t _ (by unfold Cnt;omega),aA,hid,zHT hC (by omega) (by omega),aA,rD,aA]
   have e1:(if s.pos=(1:Int) then aC (cL (vE ((inN t:Int)+tZ t s.el))) λr56=>some (r56.op,r56.var,r56.args) else some ((vE ((inN t:Int)+tZ t s.el)).op,(vE ((inN t:Int)+tZ t s.el)).var,(vE ((inN t:Int)+tZ t s.el)).args))=some ((qOJ t s).op,(qOJ t s).var,(qOJ t s).args):=by
    unfold qOJ;by_cases h:s.pos=1
    ·rw [if_pos h,if_pos h,qCK,aA]
    rw [if_neg h,if_neg h]
   rw [e1,aA];dsimp only;rw [hk1,aG hk3,tD hk4 (by omega),aA,qFX,aA,aB (by simp;omega),aB (aO hx' (by omega)),Expr.eta];rfl
  have hlen : (P ++ iR t i r n).length ≤ 400 := by have := yG (t := t) i r n; rw [zQL]; omega
  dsimp only;rw [qPL,← List.append_assoc];generalize (P++iR t i r n)=B at hlen;rw [if_pos (by omega)];by_cases hni:n=i
  ·rw [if_pos (by omega),if_pos hni,aB (aO hn (by omega)),List.append_nil]
  have hq:=zQR hn;have hal3:=qJX (t:=t) i n r t.routes[n];rw [if_neg (by omega),if_neg hni,zNG hC ht hr hq,aA,hq];dsimp only;rw [aB (by rw [zQL];omega),aB (aO hn (by omega))]
 have hx':=(zQQ.1 hx).1;have hs:=hC.sec_in hm (zQM hx);simp only [List.length_cons,List.length_nil] at hB;dsimp only;rw [if_pos (by omega),aG hx,zON hs.1 (by omega) (by omega) (by omega),aA,rD,aA,aB (by simp;omega),aB (aO hx' (by omega))];rfl
def qE (t:Table) (el:Int) (rev:Bool) (r:Route) (i:Nat) (l:List Setting):List Expr:=(l.filter λx=>decide (x.el=el)&&(rev == decide (x.pos=2))).map λ_=>auE t i 4
theorem qCV (el:Int) (rev:Bool) (r:Route) (i:Nat) (l:List Setting):(qE t el rev r i l).length≤l.length:=by
 unfold qE;rw [zQC];exact List.length_filter_le _ _
theorem qHA (el:Int) (rev:Bool) (r:Route) (i:Nat) {l:List Setting} {k:Nat} {x:Setting} (h:l[k]?=some x):qE t el rev r i (l.take (k+1))=qE t el rev r i (l.take k)++if x.el=el∧(rev=decide (x.pos=2)) then [auE t i 4] else []:=by
 unfold qE;rw [List.take_add_one,h,List.filter_append,List.map_append]
 congr 1
 by_cases hx:x.el=el∧(rev=decide (x.pos=2))
 ·rw [if_pos hx];simp only [Option.toList_some];rw [List.filter_cons_of_pos (by simp [hx.1,hx.2]),List.filter_nil];rfl
 rw [if_neg hx];simp only [Option.toList_some];rw [List.filter_cons_of_neg (by simpa using hx),List.filter_nil];rfl
def kD (t:Table) (el:Int) (rev:Bool) (n:Nat):List Expr:=(List.range n).flatMap λi=>match t.routes[i]? with|some r=>qE t el rev r i (eG (bS r))|none=>[]
theorem wR (el:Int) (rev:Bool) {n:Nat} {r:Route} (hr:t.routes[n]?=some r):kD t el rev (n+1)=kD t el rev n++qE t el rev r n (eG (bS r)):=by
 unfold kD;rw [List.range_succ,List.flatMap_append];simp [hr]
theorem vD (hC:COk t) (el:Int) (rev:Bool):∀ n,(kD t el rev n).length≤200 * n
 | 0=>by simp [kD]
 | n+1=>by
  have h:=vD hC el rev n
  cases hr:t.routes[n]? with
  | none=>
   have:kD t el rev (n+1)=kD t el rev n:=by
    unfold kD;rw [List.range_succ,List.flatMap_append];simp [hr]
   rw [this];omega
  | some r=>
   have h1:=qCV (t:=t) el rev r n (eG (bS r));have h2:=lJ (bS r);have hsum:=hC.sum r (zQM hr);unfold uG at hsum;have hal2:(bS r).length≤200:=by simp only [bS,zQL];omega
   rw [wR el rev hr,zQL];omega
def qBU (t:Table) (p:Nat) (el:Int):Expr:=orE [orE (kD t el true t.routes.length),lU [vE ((inN t:Int)+(p:Int)),nB (orE (kD t el false t.routes.length))]]
theorem b_lies (hC:COk t) (ht:t.Wf) {p:Nat} {el:Int} (hp:t.points[p]?=some el):hJ (bld t b) (p:Int)=some (qBU t p el):=by
 have hpl:=(zQQ.1 hp).1;have hlm:=hC.lim;unfold hJ;dsimp only;rw [fF t.routes.length (λn=>(kD t el false n,kD t el true n)) (o:=(kD t el false t.routes.length,kD t el true t.routes.length)) (by simp [kD]) (by omega) (λn hn=>?_) (by dsimp only;rw [if_neg (by omega)];rfl),aA]
 ·dsimp only;rw [qFX,aA,zHT hC (by omega) (by omega),aA,rD,aA,qFX,aA,qCK,aA,qFJ,aA,qFX,aA];rfl
 have hr:=zQR hn;have hm:=List.getElem_mem hn;have hsum:=hC.sum _ hm;unfold uG at hsum;have hal:=lJ (bS t.routes[n]);have hal2:(bS t.routes[n]).length≤200:=by simp only [bS,zQL];omega
 have hw1:=vD hC el false n;have hw2:=vD hC el true n;dsimp only;rw [if_pos (by omega),aG hr,hC.sok ht hm,aA,wR el false hr,wR el true hr];generalize kD t el false n=A at hw1;generalize kD t el true n=B at hw2;rw [fF (eG (bS t.routes[n])).length (λk=>(A++qE t el false t.routes[n] n ((eG (bS t.routes[n])).take k),B++qE t el true t.routes[n] n ((eG (bS t.routes[n])).take k))) (o:=(A++qE t el false t.routes[n] n (eG (bS t.routes[n])),B++qE t el true t.routes[n] n (eG (bS t.routes[n])))) (by simp [qE]) (by omega) (λk hk=>?_) (by dsimp only;rw [if_neg (by omega),List.take_length];rfl),aA]
 ·dsimp only;rw [aB (aO hn (by omega))]
 have hx:=zQR hk;have hs:=hC.set_in hm (zQM hx);have hv1:=qCV (t:=t) el false t.routes[n] n ((eG (bS t.routes[n])).take k);have hv2:=qCV (t:=t) el true t.routes[n] n ((eG (bS t.routes[n])).take k);rw [List.length_take] at hv1 hv2;dsimp only;rw [if_pos (by omega),aG hx,aG hp,qHA el false _ _ hx,qHA el true _ _ hx];generalize qE t el false t.routes[n] n ((eG (bS t.routes[n])).take k)=A' at hv1;generalize qE t el true t.routes[n] n ((eG (bS t.routes[n])).take k)=B' at hv2;generalize (eG (bS t.routes[n]))[k]=x at hs;by_cases h1:x.el=el
 ·rw [if_pos h1];by_cases h2:x.pos=2
  ·rw [if_pos h2,rE hC hn (by omega) (by omega),aA,rD,aA,aB (by simp;omega),aB (aO hk (by omega)),if_neg (by simp [h2]),if_pos (by simp [h1,h2]),List.append_nil,List.append_assoc]
  rw [if_neg h2,rE hC hn (by omega) (by omega),aA,rD,aA,aB (by simp;omega),aB (aO hk (by omega)),if_pos (by simp [h1,h2]),if_neg (by simp [h2]),List.append_nil,List.append_assoc]
 rw [if_neg h1,aB (aO hk (by omega)),if_neg (by simp [h1]),if_neg (by simp [h1]),List.append_nil,List.append_nil]
variable {t:Table} {b:List Rung} {i:Nat}
theorem lA {β:Type} {f:Nat→List β} {c:Nat} (h:∀ i,(f i).length≤c) (n:Nat):((List.range n).flatMap f).length≤c * n:=by
 induction n with
 | zero=>simp
 | succ n ih=>
  rw [List.range_succ,List.flatMap_append,zQL];have:=h n;simp only [List.flatMap_cons,List.flatMap_nil,List.append_nil,Nat.mul_add,Nat.mul_one];omega
theorem iY {β:Type} (f:Nat→List β) (n:Nat):(List.range (n+1)).flatMap f=(List.range n).flatMap f++f n:=by
 rw [List.range_succ,List.flatMap_append];simp
def rt {α:Type} (t:Table) (f:Nat→Route→List α) (i:Nat):List α:=match t.routes[i]? with|some r=>f i r|none=>[]
theorem qEO {α:Type} {f:Nat→Route→List α} {r:Route} (hr:t.routes[i]?=some r):rt t f i=f i r:=by unfold rt;rw [hr]
def pt {α:Type} (t:Table) (f:Nat→Int→List α) (i:Nat):List α:=match t.points[i]? with|some r=>f i r|none=>[]
theorem qXC {α:Type} {f:Nat→Int→List α} {r:Int} (hr:t.points[i]?=some r):pt t f i=f i r:=by unfold pt;rw [hr]
theorem COk.sec24 (hC:COk t) {r:Route} (hr:r∈t.routes):r.sections.length≤24:=by
 have h1:=((cJ hC.chk).2.2.1 r hr).1;unfold lP at h1;simp only [zQA] at h1;have h2:=h1.1.1.2;have hlm:=hC.lim;unfold qQH at h2;rw [allB_iff] at h2
 have hn:(r.sections++r.overSections).Nodup:=by
  rw [oA];intro a c hac hcl;have h3:=h2 c hcl;rw [qAY (zQR hcl)] at h3;simp only [zQA,Bool.not_eq_true',decide_eq_false_iff_not] at h3;rw [zQR hcl,zQR (show a < _ by omega)];intro he;have he2:=Option.some.inj he;exact h3.2 (by rw [← he2];exact List.mem_take_iff_getElem.2 ⟨a,by omega,rfl⟩)
 have hsub:(r.sections++r.overSections).map Int.toNat⊆List.range 24:=by
  intro x hx;obtain⟨s,hs,rfl⟩:=List.mem_map.1 hx;have:=hC.sec_in hr hs;rw [List.mem_range];omega
 have hn2:((r.sections++r.overSections).map Int.toNat).Nodup:=by
  rw [oA];intro a c hac hcl;rw [zQC] at hcl;rw [zQP,zQP,zQR hcl,zQR (show a < _ by omega)];simp only [Option.map_some];intro he;have he2:=Option.some.inj he;have ha:=hC.sec_in hr (List.getElem_mem (show a < _ by omega));have hb:=hC.sec_in hr (List.getElem_mem hcl);have h4:(r.sections++r.overSections)[a]'(by omega)=(r.sections++r.overSections)[c]:=by omega
  rw [oA] at hn;exact hn a c hac hcl (by rw [zQR hcl,zQR (show a < _ by omega),h4])
 have h5:=List.Nodup.length_le_of_subset hn2 hsub;simp only [zQC,zQL,List.length_range] at h5;omega
theorem COk.last24 (hC:COk t) (i:Nat):aH t i≤23:=by
 unfold aH
 cases hr:t.routes[i]? with
 | none=>simp
 | some r=>have:=hC.sec24 (zQM hr);simp only;omega
def dotB:ByteArray:=⟨#[46]⟩
def nmB (w:ByteArray) (i:Nat):ByteArray:=(w++dotB)++qFC i
theorem qLU:∀ i,i < 100→(qFC i).size≤2:=by decide+kernel
theorem qXV (hi:i < 100):mS (i:Int)=some (qFC i):=by
 unfold mS;rw [aB (by omega),show ((i:Int)).toNat=i by omega]
theorem qK (hi:i < 100) (ws:List ByteArray) (hw:∀ w∈ws,w.size≤1000) (hl:ws.length≤10) {B:List ByteArray} (hB:B.length≤100000):bN (i:Int) ws B=some (B++ws.map (nmB · i)):=by
 unfold bN;rw [oB ws (λ_ w=>nmB w i) B (by omega) (λx w B' hx hB'=>?_) (by dsimp only;rw [if_neg (by omega)];rfl),pN];have hx':=(zQQ.1 hx).1;have h1:=hw w (zQM hx);have h2:=qLU i hi;have h3:(⟨#[46]⟩:ByteArray).size=1:=rfl;dsimp only;rw [if_pos (by omega),aG hx,aB (by omega),qXV hi,aA,aB (by rw [ByteArray.size_append];omega),aB (by simp;omega),aB (aO hx' (by omega))];rfl
def wFree:ByteArray:=⟨#[102,114,101,101]⟩
def wOpen:ByteArray:=⟨#[111,112,101,110]⟩
def zIH:ByteArray:=⟨#[110,111,114,109,97,108]⟩
def zBU:ByteArray:=⟨#[114,101,118,101,114,115,101]⟩
def qUA:ByteArray:=⟨#[117,110,99,108,97,105,109,101,100]⟩
def zIG:ByteArray:=⟨#[112,97,115,115,101,100]⟩
def wCall:ByteArray:=⟨#[99,97,108,108]⟩
def zII:ByteArray:=⟨#[99,97,110,99,101,108]⟩
def wLie:ByteArray:=⟨#[108,105,101]⟩
def zBT:ByteArray:=⟨#[115,101,116]⟩
def qHB:ByteArray:=⟨#[99,108,101,97,114]⟩
def qPT:ByteArray:=⟨#[117,115,101,100]⟩
def qPU:ByteArray:=⟨#[104,101,108,100]⟩
def wRelD:ByteArray:=⟨#[114,101,108,46]⟩
def zNS:ByteArray:=⟨#[119,97,105,116]⟩
def zBS:ByteArray:=⟨#[115,116,97,110,100]⟩
def wKeep:ByteArray:=⟨#[107,101,101,112]⟩
def wUse:ByteArray:=⟨#[117,115,101]⟩
def wHold:ByteArray:=⟨#[104,111,108,100]⟩
def wAct:ByteArray:=⟨#[97,99,116]⟩
def zIJ:ByteArray:=⟨#[99,97,108,108,101,100]⟩
def nm1 (i:Nat):List ByteArray:=[wFree,wOpen].map (nmB · i)
def nm2 (i:Nat):List ByteArray:=[zIH,zBU].map (nmB · i)
def nm3 (i:Nat):List ByteArray:=[qUA,zIG,wCall,zII].map (nmB · i)
def nm4 (i:Nat):List ByteArray:=[wLie].map (nmB · i)
def qLH (i n:Nat):List ByteArray:=(List.range n).flatMap λk=>[wRelD++qFC i].map (nmB · k)
def nm5 (t:Table) (i:Nat):List ByteArray:=([zBT,qHB,qPT,qPU].map (nmB · i)++qLH i (aH t i))++[zNS,zBS].map (nmB · i)
def nm6 (i:Nat):List ByteArray:=[wKeep,wUse,wHold,wAct,zIJ].map (nmB · i)
def qDW (t:Table):List ByteArray:=(((((List.range t.sections.toNat).flatMap nm1++(List.range t.points.length).flatMap nm2)++(List.range t.routes.length).flatMap nm3)++(List.range t.points.length).flatMap nm4)++(List.range t.routes.length).flatMap (nm5 t))++(List.range t.routes.length).flatMap nm6
theorem zJM (t:Table) (i:Nat):(nm5 t i).length=6+aH t i:=by
 unfold nm5 qLH;rw [zQL,zQL,dY (c:=1) (λ_=>rfl)];simp;omega
theorem qBK (hC:COk t):∀ n,n≤t.routes.length→inN t+t.points.length+((List.range n).flatMap (nm5 t)).length=aF t n
 | 0,_=>by rw [pW];simp
 | n+1,h=>by
  have hr:=zQR (show n < t.routes.length by omega);have h1:=qBK hC n (by omega);have hsec:=hC.secs (List.getElem_mem (show n < t.routes.length by omega));have hln:aH t n=t.routes[n].sections.length - 1:=by unfold aH;rw [hr]
  have hw:qCU t.routes[n]=5+t.routes[n].sections.length:=rfl;rw [iY,zQL,nX hr,zJM];omega
theorem vQ (hC:COk t):(qDW t).length=dU t:=by
 have h1:=dY (f:=nm1) (c:=2) (λ_=>rfl) t.sections.toNat;have h2:=dY (f:=nm2) (c:=2) (λ_=>rfl) t.points.length;have h3:=dY (f:=nm3) (c:=4) (λ_=>rfl) t.routes.length;have h4:=dY (f:=nm4) (c:=1) (λ_=>rfl) t.points.length;have h5:=qBK hC t.routes.length (zQW _);have h6:=dY (f:=nm6) (c:=5) (λ_=>rfl) t.routes.length;unfold qDW;simp only [zQL,h1,h2,h3,h4,h6];have ha:dU t=fO t+5 * t.routes.length:=rfl;have he:fO t=aF t t.routes.length:=rfl;unfold inN at *;omega
theorem sz4 {ws:List ByteArray} (h:ws.all (λw=>decide (w.size≤1000))=true):∀ w∈ws,w.size≤1000:=by
 intro w hw;rw [zQT] at h;exact of_decide_eq_true (h w hw)
theorem zEB (hC:COk t):fT (zI t)=some (qDW t):=by
 have hlm:=hC.lim;have hs:t.sections=((t.sections.toNat:Nat):Int):=by omega
 have h1:=dY (f:=nm1) (c:=2) (λ_=>rfl);have h2:=dY (f:=nm2) (c:=2) (λ_=>rfl);have h3:=dY (f:=nm3) (c:=4) (λ_=>rfl);have h4:=dY (f:=nm4) (c:=1) (λ_=>rfl);have h6:=dY (f:=nm6) (c:=5) (λ_=>rfl);unfold fT;dsimp only;rw [iX nm1 [] t.sections.toNat (by omega) (λi hi=>?_) (by dsimp only;rw [if_neg (by omega)];rfl),aA,List.nil_append]
 ·rw [iX nm2 _ t.points.length (by omega) (fun i hi => ?_) (by dsimp only; rw [if_neg (by omega)]; rfl), aA]
  ·rw [iX nm3 _ t.routes.length (by omega) (fun i hi => ?_) (by dsimp only; rw [if_neg (by omega)]; rfl), aA]
   ·rw [iX nm4 _ t.points.length (by omega) (fun i hi => ?_) (by dsimp only; rw [if_neg (by omega)]; rfl), aA]
    ·have hpl:((((List.range t.sections.toNat).flatMap nm1++(List.range t.points.length).flatMap nm2)++(List.range t.routes.length).flatMap nm3)++(List.range t.points.length).flatMap nm4).length=inN t+t.points.length:=by
      simp only [zQL,h1,h2,h3,h4];unfold inN;omega
     unfold qDW;generalize ((((List.range t.sections.toNat).flatMap nm1++(List.range t.points.length).flatMap nm2)++(List.range t.routes.length).flatMap nm3)++(List.range t.points.length).flatMap nm4)=P at hpl;rw [iX (nm5 t) _ t.routes.length (by omega) (λi hi=>?_) (by dsimp only;rw [if_neg (by omega)];rfl),aA]
     ·have hP2:(P++(List.range t.routes.length).flatMap (nm5 t)).length≤30000:=by
       have:=qBK hC t.routes.length (zQW _);have:=hC.base t.routes.length;rw [zQL];omega
      generalize P++(List.range t.routes.length).flatMap (nm5 t)=P2 at hP2;rw [iX nm6 _ t.routes.length (by omega) (λi hi=>?_) (by dsimp only;rw [if_neg (by omega)];rfl),aA];dsimp only;rw [if_pos (by omega),qK (by omega) _ (sz4 (by decide)) (by simp) (by rw [zQL,h6];omega),aA,aB (aO hi (by omega))];rfl
     have hlen:(P++(List.range i).flatMap (nm5 t)).length≤30000:=by
      have:=qBK hC i (by omega);have:=hC.base i;rw [zQL];omega
     generalize P++(List.range i).flatMap (nm5 t)=B at hlen;have hl:=qX hC hi;have hl2:=hC.last24 i;dsimp only;rw [if_pos (by omega),qK (by omega) _ (sz4 (by decide)) (by simp) (by omega),aA,hl.1,aA];have hB2:(B++[zBT,qHB,qPT,qPU].map (nmB · i)).length≤30004:=by simp;omega
     rw [show B++nm5 t i=(B++[zBT,qHB,qPT,qPU].map (nmB · i))++qLH i (aH t i)++[zNS,zBS].map (nmB · i) by unfold nm5;simp only [List.append_assoc]];rw [show ([(⟨#[115,101,116]⟩:ByteArray),(⟨#[99,108,101,97,114]⟩:ByteArray),(⟨#[117,115,101,100]⟩:ByteArray),(⟨#[104,101,108,100]⟩:ByteArray)]:List ByteArray)=[zBT,qHB,qPT,qPU] from rfl];generalize B++[zBT,qHB,qPT,qPU].map (nmB · i)=B2 at hB2;rw [iX (λk=>[wRelD++qFC i].map (nmB · k)) B2 (aH t i) (by omega) (λk hk=>?_) (by dsimp only;rw [if_neg (by omega)];rfl),aA]
     ·have hB3:(B2++qLH i (aH t i)).length≤30100:=by
       unfold qLH;rw [zQL,dY (c:=1) (λ_=>rfl)];omega
      unfold qLH at hB3 ⊢;generalize (B2++(List.range (aH t i)).flatMap λk=>[wRelD++qFC i].map (nmB · k))=B3 at hB3;rw [qK (by omega) _ (sz4 (by decide)) (by simp) (by omega),aA,aA,aB (aO hi (by omega))];rfl
     have hsz := qLU i (by omega)
     have hlen3:(B2++(List.range k).flatMap λk=>[wRelD++qFC i].map (nmB · k)).length≤30100:=by
      rw [zQL,dY (c:=1) (λ_=>rfl)];omega
     dsimp only;rw [if_pos (by omega),qXV (by omega),aA];rw [show (⟨#[114,101,108,46]⟩:ByteArray)=wRelD from rfl];have hrs:wRelD.size=4:=rfl;rw [aB (by omega),qK (by omega) _ (by intro w hw;simp only [List.mem_singleton] at hw;subst hw;rw [ByteArray.size_append];omega) (by simp) (by omega),aA,aB (aO hk (by omega))]
    dsimp only;rw [if_pos (by omega),qK (by omega) _ (sz4 (by decide)) (by simp) (by simp only [zQL,h1,h2,h3,h4];omega),aA,aB (aO hi (by omega))];rfl
   dsimp only;rw [if_pos (by omega),qK (by omega) _ (sz4 (by decide)) (by simp) (by simp only [zQL,h1,h2,h3];omega),aA,aB (aO hi (by omega))];rfl
  dsimp only;rw [if_pos (by omega),qK (by omega) _ (sz4 (by decide)) (by simp) (by simp only [zQL,h1,h2];omega),aA,aB (aO hi (by omega))];rfl
 dsimp only;rw [if_pos (by omega),List.nil_append,qK (by omega) _ (sz4 (by decide)) (by simp) (by simp only [h1];omega),aA,aB (aO hi (by omega))];rfl
def lC (t:Table) (i:Nat) (r:Route):List Rung:=[⟨1,dL t i+4,0,qD t i r⟩]
def wC (t:Table) (p:Nat) (el:Int):List Rung:=[⟨1,(inN t:Int)+(p:Int),0,qBU t p el⟩]
def qFO (t:Table) (i:Nat):List Rung:=[⟨1,(aF t i:Int)+0,0,orE [auE t i 0,auE t i 4]⟩]
def jZ (t:Table):List Rung:=(List.range t.routes.length).flatMap (rt t (kL t))
def mF (t:Table):List Rung:=(List.range t.routes.length).flatMap (rt t (lV t))
def kP (t:Table):List Rung:=(List.range t.routes.length).flatMap (rt t (fY t))
def mX (t:Table):List Rung:=(List.range t.routes.length).flatMap (rt t (lC t))
def oO (t:Table):List Rung:=(List.range t.points.length).flatMap (pt t (wC t))
def kU (t:Table):List Rung:=(List.range t.routes.length).flatMap (qFO t)
def jM (t:Table):List Rung:=((((jZ t++mF t)++kP t)++mX t)++oO t)++kU t
abbrev wN (t:Table):Program:=⟨qDW t,(inN t:Int),jM t⟩
theorem qQQ {α:Type} {f:Nat→Route→List α} {c:Nat} (h:∀ (i:Nat) (r:Route),t.routes[i]?=some r→(f i r).length≤c) (i:Nat):(rt t f i).length≤c:=by
 unfold rt
 cases hr:t.routes[i]? with
 | none=>simp
 | some r=>exact h i r hr
theorem qAF (r:Route):(fY t i r).length=aH t i+3:=by unfold fY;rw [zQL,qDC];rfl
theorem yQ (f:Nat→Route→List Rung) {F:Int×List Rung→Option ((Int×List Rung) ⊕ List Rung)} (pre:List Rung) (hn:t.routes.length≤1000) {c:Nat} (hc:c≤1000) (hp:pre.length≤10000) (hf:∀ (i:Nat) (r:Route),t.routes[i]?=some r→(f i r).length≤c) (hnn:t.routes.length≤48)
  (hF:∀ (i:Nat) (r:Route) (B:List Rung),t.routes[i]?=some r→B.length≤90000→F ((i:Int),B)=some (.inl ((i:Int)+1,B++f i r)))
  (he:∀ B,F ((t.routes.length:Int),B)=some (.inr B)):bB F (0,pre)=some (pre++(List.range t.routes.length).flatMap (rt t f)):=by
 refine iX (rt t f) pre t.routes.length (by omega) (λi hi=>?_) (he _);have hr:=zQR hi
 have h1:((List.range i).flatMap (rt t f)).length≤48000:=by
  refine Nat.le_trans (lA (qQQ hf) i) ?_;have:c * i≤1000 * 48:=Nat.mul_le_mul hc (by omega);omega
 rw [hF i _ _ hr (by rw [zQL];omega),qEO hr]
theorem qWN (h:TOk t) (ht:t.Wf) (hs:vG t=true):jT t=some (if dQ t=0 then if 2000 < dU t then (⟨[],0,[]⟩,2) else (wN t,0) else (⟨[],0,[]⟩,dQ t)):=by
 unfold jT;rw [qDS h hs,aA];by_cases hz:dQ t=0
 ·obtain⟨hT,h1,h2,h3⟩:=uH hs;have hC:COk t:=⟨h,h1,h2,h3,hz⟩;rw [if_pos hz,if_pos hz];by_cases ha:2000 < dU t
  ·rw [if_pos ha,if_pos ha];rfl
  rw [if_neg ha,if_neg ha];have hlm:=hC.lim;dsimp only;rw [if_pos rfl];have l1:(jZ t).length≤2 * t.routes.length:=lA (qQQ λ_ _ _=>by simp [kL]) _;have l2:(mF t).length≤4 * t.routes.length:=lA (qQQ λ_ _ _=>by simp [lV]) _;have l3:(kP t).length≤30 * t.routes.length:=lA (qQQ λi _ _=>by rw [qAF];have:=hC.last24 i;omega) _;have l4:(mX t).length≤1 * t.routes.length:=lA (qQQ λ_ _ _=>by simp [lC]) _;have l5:(oO t).length≤1 * t.points.length:=lA (λi=>by unfold pt;split<;>simp [wC]) _;rw [yQ (t:=t) (kL t) [] (c:=2) (by omega) (by omega) (by simp) (λ_ _ _=>by simp [kL]) (by omega) (λi r B hr hB=>?_) (λB=>by dsimp only;rw [if_neg (by omega)];rfl),aA,List.nil_append]
  ·rw [yQ (t := t) (lV t) _ (c := 4) (by omega) (by omega) (by unfold jZ at l1; omega) (fun _ _ _ => by simp [lV]) (by omega) (fun i r B hr hB => ?_) (fun B => by dsimp only; rw [if_neg (by omega)]; rfl), aA]
   ·rw [yQ (t := t) (fY t) _ (c := 30) (by omega) (by omega) (by rw [zQL]; unfold jZ at l1; unfold mF at l2; omega) (fun i _ _ => by rw [qAF]; have := hC.last24 i; omega) (by omega) (fun i r B hr hB => ?_) (fun B => by dsimp only; rw [if_neg (by omega)]; rfl), aA]
    ·rw [yQ (t := t) (lC t) _ (c := 1) (by omega) (by omega) (by simp only [zQL]; unfold jZ at l1; unfold mF at l2; unfold kP at l3; omega) (fun _ _ _ => by simp [lC]) (by omega) (fun i r B hr hB => ?_) (fun B => by dsimp only; rw [if_neg (by omega)]; rfl), aA]
     ·rw [iX (pt t (wC t)) _ t.points.length (by omega) (fun p hp => ?_) (by dsimp only; rw [if_neg (by omega)]; rfl), aA]
      ·rw [iX (qFO t) _ t.routes.length (by omega) (fun i hi => ?_) (by dsimp only; rw [if_neg (by omega)]; rfl), aA, zEB hC, aA]
       ·rfl
       have l6 : ((List.range i).flatMap (qFO t)).length ≤ 1 * i := lA (fun _ => by simp [qFO]) _;have hai:=hC.base t.routes.length;dsimp only
       rw [if_pos (by omega), yF hC hi (by omega) (by omega), aA, rE hC hi (by omega) (by omega), aA, rD, aA, rE hC hi (by omega) (by omega), aA, rD, aA, qFX, aA, yD (by
        simp only [zQL]; unfold jZ at l1; unfold mF at l2; unfold kP at l3; unfold mX at l4; unfold oO at l5; omega), aA, aB (aO hi (by omega))]
       rfl
      have l6 : ((List.range p).flatMap (pt t (wC t))).length ≤ 1 * p := lA (fun i => by unfold pt; split <;> simp [wC]) _;have hq:=zQR hp;dsimp only
      rw [if_pos (by omega), zHT hC (by omega) (by omega), aA, b_lies hC ht hq, aA, yD (by
        simp only [zQL]; unfold jZ at l1; unfold mF at l2; unfold kP at l3; unfold mX at l4; omega), aA, aB (aO hp (by omega)), qXC hq]
      rfl
     have hi:=(zQQ.1 hr).1;dsimp only;rw [if_pos (by omega),rE hC hi (by omega) (by omega),aA,zHU hC ht hr,aA,yD (by omega),aA,aB (aO hi (by omega))];rfl
    have hi:=(zQQ.1 hr).1;dsimp only;rw [if_pos (by omega),zNF hC ht hr (by omega),aA,aB (aO hi (by omega))]
   have hi:=(zQQ.1 hr).1;dsimp only;rw [if_pos (by omega),qWH hC ht hr (by omega),aA,aB (aO hi (by omega))]
  have hi:=(zQQ.1 hr).1;dsimp only;rw [if_pos (by omega),zHS hC hr (by omega),aA,aB (aO hi (by omega))]
 rw [if_neg hz,if_neg hz];dsimp only;rw [if_neg hz]
def qI (n inp:Int) (r:Rung):Bool:=(decide (r.kind=1∧r.preset=0)||decide (r.kind=2∧1≤r.preset∧r.preset≤1073741824))&&(decide (inp≤r.var∧r.var < n)&&zBV n r.expr)
theorem qND (p:Go.Proofs.YtcagmechagiclaaGreatDoor.Program) {r:Rung} (ho:okE r.expr):nE p r=some (qI (p.names.length:Int) p.inputs r):=by
 unfold nE qI
 have tail : aC (
  if p.inputs ≤ r.var then
   if r.var < (p.names.length : Int) then
    aC (pQ r.expr (p.names.length : Int)) fun r14 =>
    some r14
   else
    some false
  else
   some false) (fun x10 =>
 some x10) = some (decide (p.inputs ≤ r.var ∧ r.var < (p.names.length : Int)) && zBV (p.names.length : Int) r.expr) := by
  by_cases h1:p.inputs≤r.var
  ·rw [if_pos h1];by_cases h2:r.var < (p.names.length:Int)
   ·rw [if_pos h2,zHZ _ ho,aA,aA,decide_eq_true ⟨h1,h2⟩,Bool.true_and]
   rw [if_neg h2,aA,decide_eq_false (λh=>h2 h.2),Bool.false_and]
  rw [if_neg h1,aA,decide_eq_false (λh=>h1 h.1),Bool.false_and]
 by_cases h1:r.kind=1
 ·rw [if_pos h1];by_cases h0:r.preset=0
  ·rw [if_pos h0,dB,tail,decide_eq_true (⟨h1,h0⟩:r.kind=1∧r.preset=0),Bool.true_or,Bool.true_and]
  rw [if_neg h0, eP, jV, decide_eq_false (by omega), decide_eq_false (by omega)];rfl
 rw [if_neg h1];by_cases h2:r.kind=2
 ·rw [if_pos h2];by_cases h0:r.preset < 1∨1073741824 < r.preset
  ·rw [if_pos (by simpa using h0), eP, jV, decide_eq_false (by omega), decide_eq_false (by omega)];rfl
  rw [if_neg (by simpa using h0),dB,tail,decide_eq_true (show r.kind=2∧1≤r.preset∧r.preset≤1073741824 by omega),Bool.or_true,Bool.true_and]
 rw [if_neg h2, eP, jV, decide_eq_false (by omega), decide_eq_false (by omega)];rfl
def pU (p:Go.Proofs.YtcagmechagiclaaGreatDoor.Program):Int:=
 if 2000 < p.names.length then 2
 else if p.inputs < 0∨(p.names.length:Int) < p.inputs then 1
 else if p.rungs.all (qI (p.names.length:Int) p.inputs)=false then 1
 else if (p.rungs.map (·.var)).Nodup then 0 else 8
def zU (n:Nat) (l:List Int):List Bool:=(List.range n).map λ(j:Nat)=>decide ((j:Int)∈l)
theorem zAF (n:Nat) (l:List Int):(zU n l).length=n:=by simp [zU]
theorem qIG {n:Nat} {l:List Int} {x:Int} (h0:0≤x) (h1:x < (n:Int)):(zU n l)[x.toNat]?=some (decide (x∈l)):=by
 unfold zU;rw [zQP,List.getElem?_range (by omega)];simp only [Option.map_some];rw [show ((x.toNat:Nat):Int)=x by omega]
theorem zAE {n:Nat} {l:List Int} {x:Int} (h0:0≤x) (h1:x < (n:Int)):(zU n l).set x.toNat true=zU n (l++[x]):=by
 apply List.ext_getElem?;intro j;rw [List.getElem?_set,zAF];by_cases hj:x.toNat=j
 ·subst hj;rw [if_pos rfl,if_pos (by omega),qIG h0 h1];simp
 rw [if_neg hj];unfold zU;rw [zQP,zQP]
 cases hr:(List.range n)[j]? with
 | none=>rfl
 | some k=>
  have hk:k=j:=by
   rw [zQQ] at hr;obtain⟨hr1,hr2⟩:=hr;rw [List.getElem_range] at hr2;exact hr2.symm
  subst hk;simp only [Option.map_some,zQN,List.mem_singleton]
  congr 1
  rw [Bool.eq_iff_iff];simp only [decide_eq_true_eq];constructor
  ·intro h;exact .inl h
  rintro (h|h)
  ·exact h
  omega
theorem nodup_take {l:List Int}:l.Nodup↔∀ (i:Nat) (x:Int),l[i]?=some x→x∉l.take i:=by
 constructor
 ·intro h i x hx hm;have hi:=(zQQ.1 hx).1;obtain⟨j,hj,he⟩:=List.mem_take_iff_getElem.1 hm;rw [oA] at h;refine h j i (by omega) hi ?_;rw [hx,zQR (by omega),he]
 intro h;rw [oA];intro a c hac hc he;have hx:=zQR hc;rw [hx] at he;refine h c _ hx (List.mem_take_iff_getElem.2 ⟨a,by omega,?_⟩);exact (zQQ.1 he).2
structure POk (p:Go.Proofs.YtcagmechagiclaaGreatDoor.Program):Prop where
 rungs:p.rungs.length≤1000000000
 names:p.names.length≤9000000000000000000
 exprs:∀ r∈p.rungs,okE r.expr
theorem qLK {p:Go.Proofs.YtcagmechagiclaaGreatDoor.Program} (h:POk p):rR p=some (pU p):=by
 have hr:=h.rungs;unfold rR pU;by_cases h1:2000 < p.names.length
 ·rw [if_pos (by omega),if_pos h1]
 rw [if_neg (by omega), if_neg h1];by_cases h2:p.inputs < 0∨(p.names.length:Int) < p.inputs
 ·rw [if_pos (by simpa using h2),if_pos h2]
 rw [if_neg (by simpa using h2), if_neg h2, fE p.rungs (fun r => !qI (p.names.length : Int) p.inputs r) (.inr 1) (.inl ()) (by omega) (fun i r hx => ?_) (by rw [if_neg (by omega)]; rfl)]
 ·rw [iL]
  cases ha:p.rungs.all (qI (p.names.length:Int) p.inputs) with
  | false=>rw [Bool.not_false,if_pos rfl,jV,if_pos rfl]
  | true=>
   rw [Bool.not_true,if_neg Bool.false_ne_true,dB,if_neg (by simp),aB (by omega)];rw [zQT] at ha
   have hv:∀ r∈p.rungs,0≤r.var∧r.var < (p.names.length:Int):=by
    intro r hr;have:=ha r hr;unfold qI at this;simp only [zQA,decide_eq_true_eq] at this;omega
   have hn:((p.names.length:Int)).toNat=p.names.length:=by omega
   rw [hn,qDZ p.rungs.length (λi=>zU p.names.length ((p.rungs.map (·.var)).take i)) (λi=>match p.rungs[i]? with|some r=>decide (r.var∈(p.rungs.map (·.var)).take i)|none=>false) (.inr 8) (.inl (zU p.names.length (p.rungs.map (·.var)))) (by simp [zU,List.map_const']) (by omega) (λi hi _=>?_) (λ_=>by dsimp only;rw [if_neg (by omega),List.take_of_length_le (by simp)];rfl)]
   ·by_cases hd:(p.rungs.map (·.var)).Nodup
    ·rw [if_pos hd,if_neg ?_,dB];rw [zQU];rintro⟨i,hi,hc⟩;rw [List.mem_range] at hi;rw [zQR hi] at hc;exact nodup_take.1 hd i p.rungs[i].var (by simp [hi]) (of_decide_eq_true hc)
    rw [if_neg hd,if_pos ?_,jV];rw [zQU];rw [nodup_take] at hd;simp only [Classical.not_forall,Classical.not_not] at hd;obtain⟨i,x,hx,hm⟩:=hd;have hi:=(zQQ.1 hx).1;rw [zQC] at hi;refine⟨i,List.mem_range.2 hi,?_⟩;rw [zQP,zQR hi] at hx;simp only [Option.map_some,Option.some.injEq] at hx;rw [zQR hi];subst hx;exact decide_eq_true hm
   have hx:=zQR hi;have hvi:=hv _ (List.getElem_mem hi);dsimp only;rw [if_pos (by omega),aG hx,oX hvi.1 (qIG hvi.1 hvi.2),hx];dsimp only;by_cases hm:p.rungs[i].var∈(p.rungs.map (·.var)).take i
   ·simp only [decide_eq_true hm];rfl
   simp only [decide_eq_false hm, Bool.false_eq_true, if_false]; rw [oX hvi.1 (qIG hvi.1 hvi.2), aB (aO hi (by omega)), zAE hvi.1 hvi.2];rw [List.take_add_one (l:=p.rungs.map (·.var)),zQP,hx];rfl
 have hi:=(zQQ.1 hx).1;rw [if_pos (by omega),aG hx,qND p (h.exprs r (zQM hx)),aA,aB (aO hi (by omega))];rfl
theorem pB {p:Go.Proofs.YtcagmechagiclaaGreatDoor.Program} (h:pU p=0):p.names.length≤2000∧0≤p.inputs∧p.inputs≤(p.names.length:Int)∧(∀ r∈p.rungs,qI (p.names.length:Int) p.inputs r=true)∧(p.rungs.map (·.var)).Nodup:=by
 unfold pU at h;split at h
 ·cases h
 split at h
 ·cases h
 split at h
 ·cases h
 split at h
 ·rename_i h1 h2 h3 h4;refine⟨by omega,by omega,by omega,?_,h4⟩;rw [← zQT];simpa using h3
 cases h
def qR (p:Go.Proofs.YtcagmechagiclaaGreatDoor.Program):Machine:=if pU p=0 then ⟨List.replicate p.names.length false,List.replicate p.rungs.length 0,false⟩ else ⟨[],[],true⟩
def zOI (p:Go.Proofs.YtcagmechagiclaaGreatDoor.Program):Machine:=⟨(qR p).vars,(qR p).counts,true⟩
theorem qLJ {p:Go.Proofs.YtcagmechagiclaaGreatDoor.Program} (h:POk p):mU p=some (qR p):=by
 unfold mU qR;rw [qLK h,aA];by_cases hz:pU p=0
 ·have:=pB hz;have:=h.rungs;rw [if_pos hz,if_pos hz,aB (by omega),aB (by omega),show ((p.names.length:Int)).toNat=p.names.length by omega,show ((p.rungs.length:Int)).toNat=p.rungs.length by omega]
 rw [if_neg hz,if_neg hz]
theorem zDO {p:Go.Proofs.YtcagmechagiclaaGreatDoor.Program} (h:POk p):xJ p=some (zOI p):=by
 unfold xJ;rw [qLJ h,aA];rfl
def qSZ (r:Rung) (c:Int):Bool:=decide (0≤c∧c≤r.preset)
def rB (p:Go.Proofs.YtcagmechagiclaaGreatDoor.Program) (m:Machine):Bool:=decide (pU p=0∧m.vars.length=p.names.length∧m.counts.length=p.rungs.length)&&(List.zip p.rungs m.counts).all λx=>qSZ x.1 x.2
theorem zDP {p:Go.Proofs.YtcagmechagiclaaGreatDoor.Program} (h:POk p) (m:Machine):uN p m=some (rB p m):=by
 have hr:=h.rungs;unfold uN rB;rw [qLK h,aA];by_cases hh:pU p=0∧m.vars.length=p.names.length∧m.counts.length=p.rungs.length
 ·obtain⟨h1,h2,h3⟩:=hh;have hzl:(List.zip p.rungs m.counts).length=p.rungs.length:=by rw [List.length_zip];omega
  rw [if_pos h1,if_pos (by omega),aA,decide_eq_true (show (m.counts.length:Int)=(p.rungs.length:Int) by omega),if_neg (by simp),decide_eq_true ⟨h1,h2,h3⟩,Bool.true_and];rw [fE (List.zip p.rungs m.counts) (λx=>!qSZ x.1 x.2) (.inr false) (.inl ()) (by omega) (λi x hx=>?_) (by rw [if_neg (by omega)];rfl),iL]
  ·cases (List.zip p.rungs m.counts).all (λx=>qSZ x.1 x.2)<;>rfl
  have hi:=(zQQ.1 hx).1;obtain⟨r,c⟩:=x;rw [List.getElem?_zip_eq_some] at hx;obtain⟨hx1,hx2⟩:=hx;dsimp only at hx1 hx2 ⊢;rw [if_pos (by omega),aG hx1,aG hx2,aG hx2,aB (aO hi (by omega))];unfold qSZ;by_cases hc:c < 0
  ·rw [if_pos hc, aA, if_pos rfl, if_pos (by rw [decide_eq_false (by omega)]; rfl)];rfl
  rw [if_neg hc,aA];by_cases hd:r.preset < c
  ·rw [decide_eq_true hd,if_pos rfl,if_pos (by rw [decide_eq_false (by omega)];rfl)];rfl
  rw [decide_eq_false hd,if_neg (by simp),if_neg (by rw [decide_eq_true (by omega)];simp)]
 rw [decide_eq_false hh,Bool.false_and]
 have e1:(if pU p=(0:Int) then if (m.vars.length:Int)=(p.names.length:Int) then some (!(decide ((m.counts.length:Int)=(p.rungs.length:Int)))) else some true else some true)=some true:=by
  by_cases h1:pU p=0
  ·rw [if_pos h1];by_cases h2:m.vars.length=p.names.length
   ·rw [if_pos (by omega),decide_eq_false (by omega)];rfl
   rw [if_neg (by omega)]
  rw [if_neg h1]
 rw [e1,aA,if_pos rfl]
def wP (r:Rung) (v:Bool) (c:Int):Int×Bool:=if r.kind=2 then (if v=true then (if c < r.preset then (c+1,decide (c+1=r.preset)) else (c,decide (c=r.preset))) else (0,false)) else (c,v)
def vY (V:List Bool) (x:Rung×Int):List Bool:=V.set x.1.var.toNat (wP x.1 (evE V x.1.expr) x.2).2
def oG (l:List (Rung×Int)) (V:List Bool):List Bool:=l.foldl vY V
theorem qCW (V:List Bool) (x:Rung×Int):(vY V x).length=V.length:=by unfold vY;rw [List.length_set]
theorem qBB:∀ (l:List (Rung×Int)) (V:List Bool),(oG l V).length=V.length
 | [],V=>rfl
 | x :: l,V=>by
  show (oG l (vY V x)).length=V.length;rw [qBB l,qCW]
theorem qQP (a b:List (Rung×Int)) (V:List Bool):oG (a++b) V=oG b (oG a V):=by unfold oG;rw [List.foldl_append]
def uW (l:List (Rung×Int)) (V:List Bool):List Int:=l.mapIdx λi x=>(wP x.1 (evE (oG (l.take i) V) x.1.expr) x.2).1
theorem qCG (l:List (Rung×Int)) (V:List Bool):(uW l V).length=l.length:=by simp [uW]
def inV (n:Nat) (I V:List Bool):List Bool:=(List.range n).map (λi=>I.getD i false)++V.drop n
theorem qGK {n:Nat} {I V:List Bool} (h:n≤V.length):(inV n I V).length=V.length:=by unfold inV;simp;omega
def qY (p:Go.Proofs.YtcagmechagiclaaGreatDoor.Program) (m:Machine) (I:List Bool):Machine:=
 if m.halted=true∨rB p m=false then zOI p
 else ⟨oG (List.zip p.rungs m.counts) (inV p.inputs.toNat I m.vars),uW (List.zip p.rungs m.counts) (inV p.inputs.toNat I m.vars),false⟩
theorem zAW (r : Rung) (c : Int) (v : Bool) (hp : r.preset ≤ 1073741824) (h0 : 0 ≤ c) {β : Type} (k : Int → Bool → Option β) : aC (oQ r) (fun r38 => match r38.act with
     | .c123 => aC (nP c v) fun (r43, r44) => k r43 r44
     | .c124 u48 => aC (lE c v u48) fun (r50, r51) => k r50 r51) = k (wP r v c).1 (wP r v c).2 := by
 unfold oQ wP;by_cases h2:r.kind=2
 ·rw [if_pos h2,aA,if_pos h2];dsimp only;unfold lE
  cases v with
  | false=>rw [Bool.not_false,if_pos rfl,aA,if_neg Bool.false_ne_true]
  | true=>
   rw [Bool.not_true,if_neg Bool.false_ne_true,if_pos rfl];by_cases hl:c < r.preset
   ·rw [if_pos hl,aB (by unfold I64;omega),aA,if_pos hl]
   rw [if_neg hl,aA,if_neg hl]
 rw [if_neg h2,aA,if_neg h2];rfl
theorem zDN {p:Go.Proofs.YtcagmechagiclaaGreatDoor.Program} (h:POk p) (m:Machine) (I:List Bool) (hd:∀ r∈p.rungs,dpE r.expr≤kN) (hv:m.vars.length≤1000000000) (hcn:m.counts.length≤1000000000):qJ p m I=some (qY p m I):=by
 have hr:=h.rungs;unfold qJ qY
 have e1:(if (m.halted)=true then some true else aC (uN p m) λr4=>some (!(r4)))=some (decide (m.halted=true∨rB p m=false)):=by
  cases hm:m.halted with
  | true=>rw [if_pos rfl];simp
  | false=>
   rw [if_neg Bool.false_ne_true,zDP h,aA];cases rB p m<;>rfl
 rw [e1,aA];by_cases hx:m.halted=true∨rB p m=false
 ·rw [if_pos (decide_eq_true hx),if_pos hx,zDO h,aA]
 rw [if_neg (by rw [decide_eq_false hx]; exact Bool.false_ne_true), if_neg hx];have hfit:rB p m=true:=by cases hf:rB p m with|true=>rfl|false=>exact absurd (.inr hf) hx
 unfold rB at hfit;simp only [zQA,decide_eq_true_eq,zQT] at hfit;obtain⟨⟨hz,hvl,hcl⟩,hcnt⟩:=hfit;obtain⟨hn1,hn2,hn3,hn4,hn5⟩:=pB hz
 have hcb:jY m.vars=some m.vars:=by
  unfold jY
  cases hmv:m.vars with
  | nil=>rfl
  | cons a l=>rw [← hmv];simp only [qKM,hmv];rw [aB (by rw [← hmv];simpa using hv)];rfl
 have hci:cT m.counts=some m.counts:=by
  unfold cT
  cases hmv:m.counts with
  | nil=>rfl
  | cons a l=>rw [← hmv];simp only [qKM,hmv];rw [aB (by rw [← hmv];simpa using hcn)];rfl
 rw [hcb,aA,hci,aA];have hin:p.inputs=((p.inputs.toNat:Nat):Int):=by omega
 have hib:p.inputs.toNat≤m.vars.length:=by omega
 rw [hin]
 have hsetin (k:Nat) (hk:k < m.vars.length):(inV k I m.vars).set k (I.getD k false)=inV (k+1) I m.vars:=by
  unfold inV;rw [List.set_append_right _ _ (by simp),List.range_succ,List.map_append];simp only [zQC,List.length_range,Nat.sub_self,List.map_cons,List.map_nil,List.append_assoc];rw [List.drop_eq_getElem_cons hk];rfl
 rw [fF p.inputs.toNat (λk=>inV k I m.vars) (o:=inV p.inputs.toNat I m.vars) (by simp [inV]) (by omega) (λk hk=>?_) (by dsimp only;rw [if_neg (by omega)];rfl),aA]
 ·have hV0 : (inV p.inputs.toNat I m.vars).length = p.names.length := by rw [qGK hib, hvl]
  rw [show ((p.inputs.toNat:Int)).toNat=p.inputs.toNat by omega];generalize inV p.inputs.toNat I m.vars=V0 at hV0;have hzl:(List.zip p.rungs m.counts).length=p.rungs.length:=by rw [List.length_zip];omega
  rw [fF p.rungs.length (λk=>(oG ((List.zip p.rungs m.counts).take k) V0,(uW (List.zip p.rungs m.counts) V0).take k++m.counts.drop k)) (o:=(oG (List.zip p.rungs m.counts) V0,uW (List.zip p.rungs m.counts) V0)) (by simp [oG]) (by omega) (λk hk=>?_) (by dsimp only;rw [if_neg (by omega),List.take_of_length_le (by omega),List.take_of_length_le (by rw [qCG];omega),List.drop_of_length_le (by omega),List.append_nil];rfl),aA];have hrk:=zQR hk;obtain⟨c,hck⟩:∃ c,m.counts[k]?=some c:=⟨_,zQR (by omega)⟩;have hrm:=List.getElem_mem hk;have hrb:=hn4 _ hrm;generalize p.rungs[k]=r at hrk hrm hrb;have hzk:(List.zip p.rungs m.counts)[k]?=some (r,c):=List.getElem?_zip_eq_some.2 ⟨hrk,hck⟩;have hcb2:=hcnt _ (zQM hzk);unfold qI at hrb;simp only [zQA,Bool.or_eq_true,decide_eq_true_eq] at hrb;dsimp only at hcb2;unfold qSZ at hcb2;have hcb3:=of_decide_eq_true hcb2;have hVk:(oG ((List.zip p.rungs m.counts).take k) V0).length=p.names.length:=by rw [qBB,hV0]
  have hcg:((uW (List.zip p.rungs m.counts) V0).take k++m.counts.drop k)[k]?=some c:=by
   rw [List.getElem?_append_right (by rw [List.length_take];omega),List.length_take,qCG,hzl,show k - min k p.rungs.length=0 by omega,List.getElem?_drop];exact hck
  have hvk:0≤r.var∧r.var.toNat < p.names.length:=by omega
  have hnext:oG ((List.zip p.rungs m.counts).take (k+1)) V0=vY (oG ((List.zip p.rungs m.counts).take k) V0) (r,c):=by
   rw [List.take_add_one,hzk,qQP];rfl
  have hcnx:(uW (List.zip p.rungs m.counts) V0)[k]?=some (wP r (evE (oG ((List.zip p.rungs m.counts).take k) V0) r.expr) c).1:=by
   unfold uW;rw [List.getElem?_mapIdx,hzk];rfl
  have hcset (x:Int) (hx:(uW (List.zip p.rungs m.counts) V0)[k]?=some x):((uW (List.zip p.rungs m.counts) V0).take k++m.counts.drop k).set k x=(uW (List.zip p.rungs m.counts) V0).take (k+1)++m.counts.drop (k+1):=by
   have hlt:((uW (List.zip p.rungs m.counts) V0).take k).length=k:=by rw [List.length_take,qCG];omega
   rw [List.set_append_right _ _ (by omega),hlt,Nat.sub_self,List.take_add_one,hx,List.drop_eq_getElem_cons (by omega),List.set_cons_zero,List.append_assoc];rfl
  rw [hnext,← hcset _ hcnx];unfold vY;dsimp only;rw [if_pos (by omega),aG hrk];generalize (uW (List.zip p.rungs m.counts) V0).take k++m.counts.drop k=T at hcg;generalize oG ((List.zip p.rungs m.counts).take k) V0=U at hVk;obtain⟨old,hvg⟩:∃ b,U[r.var.toNat]?=some b:=⟨_,zQR (by omega)⟩;rw [show ((k:Int)).toNat=k by omega];have hef:=zAW r c (evE U r.expr) (by omega) (by omega) (β:=(Int×List Bool×List Int) ⊕ (List Bool×List Int)) (λa b=>some (.inl ((k:Int)+1,U.set r.var.toNat b,T.set k a)));rw [← hef];have hg64:I64 ((k:Int)+1):=aO hk (by omega)
  congr 1
  funext r38
  rw [aG hcg,zNO U (hd _ hrm) (h.exprs _ hrm),aA]
  cases r38.act with
  | c123=>
   dsimp only
   congr 1
   funext x
   obtain⟨a,d⟩:=x;dsimp only;rw [aG hcg,oX hvk.1 hvg,aB hg64]
  | c124 u=>
   dsimp only
   congr 1
   funext x
   obtain⟨a,d⟩:=x;dsimp only;rw [aG hcg,oX hvk.1 hvg,aB hg64]
 have hlk : (inV k I m.vars).length = m.vars.length := qGK (by omega);have hgk:(inV k I m.vars)[k]?=some ((inV k I m.vars)[k]'(by omega)):=zQR (by omega);dsimp only;rw [if_pos (by omega),show ((k:Int)).toNat=k by omega,← hsetin k (by omega)];by_cases hki:k < I.length
 ·rw [if_pos (by omega), aG (zQR hki), aG hgk, aB (by unfold I64; omega), zQD, zQR hki];rfl
 rw [if_neg (by omega), aG hgk, aB (by unfold I64; omega), zQD, List.getElem?_eq_none (by omega)];rfl
variable {t:Table} {b:List Rung} {i:Nat}
def Nice (n:Int) (d s:Nat) (e:Expr):Prop:=qAA n e=true∧dpE e≤d∧szE e≤s∧okE e
def NiceL (n:Int) (d s:Nat) (l:List Expr):Prop:=(∀ e∈l,qAA n e=true∧dpE e≤d∧okE e)∧szL l≤s
theorem zIO (e:Expr):1≤szE e:=by rw [zCC];omega
theorem qWW:∀ l:List Expr,l.length≤szL l
 | []=>by simp
 | e :: r=>by
  have:=qWW r;have:=zIO e;rw [szL,List.length_cons];omega
section nice
variable {n:Int} {d d' s s':Nat} {e:Expr} {l m:List Expr}
theorem Nice.mono (h:Nice n d s e) (hd:d≤d') (hs:s≤s'):Nice n d' s' e:=⟨h.1,Nat.le_trans h.2.1 hd,Nat.le_trans h.2.2.1 hs,h.2.2.2⟩
theorem NiceL.mono (h:NiceL n d s l) (hd:d≤d') (hs:s≤s'):NiceL n d' s' l:=⟨λe he=>⟨(h.1 e he).1,Nat.le_trans (h.1 e he).2.1 hd,(h.1 e he).2.2⟩,Nat.le_trans h.2 hs⟩
theorem xM (n:Int) (d:Nat):NiceL n d 0 []:=⟨by simp,by simp [szL]⟩
theorem cC (h:Nice n d s e) (h2:NiceL n d s' l):NiceL n d (s+s') (e :: l):=by
 refine⟨λx hx=>?_,by rw [szL];have:=h.2.2.1;have:=h2.2;omega⟩;rcases zQB.1 hx with hx|hx
 ·subst hx;exact⟨h.1,h.2.1,h.2.2.2⟩
 exact h2.1 x hx
theorem dX (h:Nice n d s e):NiceL n d s [e]:=(cC h (xM n d)).mono (zQW _) (by omega)
theorem vP (h:NiceL n d s l) (h2:NiceL n d s' m):NiceL n d (s+s') (l++m):=by
 refine⟨λx hx=>?_,by rw [qMU];have:=h.2;have:=h2.2;omega⟩;rcases zQN.1 hx with hx|hx
 ·exact h.1 x hx
 exact h2.1 x hx
theorem szL_le (h:∀ x∈l,szE x≤s):szL l≤s * l.length:=by
 induction l with
 | nil=>simp [szL]
 | cons x r ih=>
  have h1:=h x (by simp);have h2:=ih λy hy=>h y (by simp [hy]);rw [szL,List.length_cons,Nat.mul_add];omega
theorem qNY {k:Nat} (h:∀ x∈l,Nice n d s x) (hk:l.length≤k):NiceL n d (s * k) l:=
 ⟨λx hx=>⟨(h x hx).1,(h x hx).2.1,(h x hx).2.2.2⟩,Nat.le_trans (szL_le λx hx=>(h x hx).2.2.1) (Nat.mul_le_mul (zQW _) hk)⟩
theorem qIB {α:Type} {f:α→Expr} {xs:List α} {k:Nat} (h:∀ x∈xs,Nice n d s (f x)) (hk:xs.length≤k):NiceL n d (s * k) (xs.map f):=qNY (λy hy=>by obtain⟨x,hx,rfl⟩:=List.mem_map.1 hy;exact h x hx) (by rw [zQC];exact hk)
theorem qXJ {α : Type} {f : Nat → α → Expr} {xs : List α} {k : Nat} (h : ∀ i x, xs[i]? = some x → Nice n d s (f i x)) (hk : xs.length ≤ k) : NiceL n d (s * k) (xs.mapIdx f) := qNY (fun y hy => by
 obtain ⟨i, hi⟩ := List.getElem?_of_mem hy;rw [List.getElem?_mapIdx] at hi
 cases hx : xs[i]? with
 | none => rw [hx] at hi; cases hi
 | some x => rw [hx] at hi; cases hi; exact h i x hx) (by rw [List.length_mapIdx]; exact hk)
theorem zJN {f:Nat→List Expr} (k:Nat) (h:∀ i,i < k→NiceL n d s (f i)):NiceL n d (s * k) ((List.range k).flatMap f):=by
 induction k with
 | zero=>simpa using xM n d
 | succ k ih=>
  rw [iY];exact (vP (ih λi hi=>h i (by omega)) (h k (by omega))).mono (zQW _) (by rw [Nat.mul_add,Nat.mul_one];exact zQW _)
theorem qDV {x:Int} (h0:0≤x) (h1:x < n):Nice n 1 1 (vE x):=by
 refine⟨?_,by simp [dpE,dpL],by simp [szE,szL],by simp [okE,okL]⟩;rw [yT];exact⟨by simp [qLX,h0,h1],by simp⟩
theorem qXM (h:NiceL n d s l) (op:Int) (hop:op=5∨op=6) (hs:s≤qOC):Nice n (d+1) (s+1) ⟨op,0,l⟩:=by
 refine⟨?_,?_,?_,?_⟩
 ·rw [yT];refine⟨?_,λx hx=>(h.1 x hx).1⟩;rcases hop with hop|hop<;>subst hop<;>rfl
 ·rw [dpE];have:=dpL_le.2 λx hx=>(h.1 x hx).2.1;omega
 ·rw [szE];have:=h.2;omega
 rw [okE,qNX];exact⟨Nat.le_trans (qWW l) (Nat.le_trans h.2 hs),λx hx=>(h.1 x hx).2.2⟩
theorem eT (h:NiceL n d s l) (hs:s≤100000):Nice n (d+1) (s+1) (lU l):=qXM h 5 (.inl rfl) (by unfold qOC;omega)
theorem iM (h:NiceL n d s l) (hs:s≤100000):Nice n (d+1) (s+1) (orE l):=qXM h 6 (.inr rfl) (by unfold qOC;omega)
theorem fR (h:Nice n d s e):Nice n (d+1) (s+1) (nB e):=by
 refine⟨?_,?_,?_,?_⟩
 ·rw [yT];exact⟨rfl,by intro x hx;simp only [List.mem_singleton] at hx;subst hx;exact h.1⟩
 ·rw [dpE,dpL,dpL];have:=h.2.1;omega
 ·rw [szE,szL,szL];have:=h.2.2.1;omega
 rw [okE,okL,okL];exact⟨by simp [qOC],h.2.2.2,trivial⟩
theorem Nice.val (h:Nice n d s e) (hd:d≤12) (hs:s≤20000):zBV n e=true:=by
 apply decide_eq_true;have h1:=h.2.1;have h2:=h.2.2.1;exact⟨h.1,by omega,by omega⟩
end nice
theorem qMT (hC:COk t) (hi:i < t.routes.length) {k:Int} (h0:0≤k) (h1:k≤5+(aH t i:Int)):inN t+t.points.length≤aF t i∧(aF t i:Int)+k < (fO t:Int):=by
 have hr:=zQR hi;have hsec:=hC.secs (List.getElem_mem hi);have hb:=qJR hr;have hw:qCU t.routes[i]=5+t.routes[i].sections.length:=rfl;have hln:aH t i=t.routes[i].sections.length - 1:=by unfold aH;rw [hr]
 have hm:=qJQ (t:=t) 0 i (by omega);rw [pW] at hm;omega
theorem qLA (t:Table):dU t=fO t+5 * t.routes.length:=rfl
section vars
variable (hC:COk t) (hi:i < t.routes.length)
include hC hi
theorem nQ {k:Int} (h0:0≤k) (h1:k≤5+(aH t i:Int)):Nice (dU t:Int) 1 1 (vE ((aF t i:Int)+k)):=by
 have h:=qMT hC hi h0 h1;have ha:=qLA t;exact qDV (by omega) (by omega)
theorem qIE {k:Int} (h0:0≤k) (h1:k≤1+(aH t i:Int)):Nice (dU t:Int) 1 1 (rK t i k):=nQ hC hi (by omega) (by omega)
theorem xN {k:Int} (h0:0≤k) (h1:k≤3):Nice (dU t:Int) 1 1 (vE (oH t i+k)):=by
 have hlm:=hC.lim;have:=lR t;have hin:inN t=2 * t.sections.toNat+2 * t.points.length+4 * t.routes.length:=rfl;exact qDV (by unfold oH;omega) (by unfold oH;omega)
end vars
theorem pH (_:COk t) (hi:i < t.routes.length) {k:Int} (h0:0≤k) (h1:k≤4):Nice (dU t:Int) 1 1 (vE (dL t i+k)):=by
 have ha:=qLA t;exact qDV (by unfold dL;omega) (by unfold dL;omega)
theorem zNZ (hC:COk t) {s k:Int} (h0:0≤s) (h1:s < t.sections) (hk:0≤k) (hk1:k≤1):Nice (dU t:Int) 1 1 (vE (2 * s+k)):=by
 have:=lR t;have hin:inN t=2 * t.sections.toNat+2 * t.points.length+4 * t.routes.length:=rfl;exact qDV (by omega) (by omega)
theorem qU (hC:COk t) {s:Int} (h0:0≤s) (h1:s < t.sections):Nice (dU t:Int) 1 1 (iH s):=by
 have:=zNZ hC h0 h1 (Int.le_refl 0) (by omega)
 rwa [Int.add_zero] at this
theorem n_pnt (hC:COk t) {r:Route} (hr:r∈t.routes) {x:Setting} (hx:x∈eG (bS r)):Nice (dU t:Int) 1 1 (qZW t x):=by
 have h1:=hC.set_in hr hx;have hlm:=hC.lim;have:=lR t;have hin:inN t=2 * t.sections.toNat+2 * t.points.length+4 * t.routes.length:=rfl;unfold qZW;have hk:(if x.pos=2 then (1:Int) else 0)=0∨(if x.pos=2 then (1:Int) else 0)=1:=by split<;>simp
 exact qDV (by omega) (by omega)
theorem qVF (hC:COk t) {k:Int} (h0:0≤k) (h1:k < (t.points.length:Int)):Nice (dU t:Int) 1 1 (vE ((inN t:Int)+k)):=by
 have:=lR t;exact qDV (by omega) (by omega)
section exprs
variable (hC:COk t) {r:Route} (hr:t.routes[i]?=some r)
include hC hr
theorem qVG:Nice (dU t:Int) 3 73 (tR t i r):=by
 have hi:=(zQQ.1 hr).1;have hm:=zQM hr;have h24:=hC.sec24 hm;unfold tR;refine (eT (qXJ (d:=2) (s:=3) (k:=24) (λx s hx=>?_) h24) (by omega)).mono (by omega) (by omega);have hs:=hC.sec_in hm (List.mem_append_left _ (zQM hx));split
 ·exact (iM (cC (qIE hC hi (by omega) (by omega)) (dX (qU hC hs.1 hs.2))) (by omega)).mono (by omega) (by omega)
 exact (qU hC hs.1 hs.2).mono (by omega) (by omega)
theorem n_at:Nice (dU t:Int) 1 1 (atE t i):=by
 have hi:=(zQQ.1 hr).1;unfold atE;split
 ·exact (eT (xM _ 0) (by omega)).mono (by omega) (by omega)
 exact qIE hC hi (by omega) (by omega)
theorem zOA:Nice (dU t:Int) 4 145 (qVW t i r):=by
 have hi:=(zQQ.1 hr).1;have hm:=zQM hr;have h24:=hC.sec24 hm;unfold qVW;refine (iM (qXJ (d:=3) (s:=6) (k:=24) (λx s hx=>?_) h24) (by omega)).mono (by omega) (by omega);have hx':=(zQQ.1 hx).1;have hs:=hC.sec_in hm (List.mem_append_left _ (zQM hx));have hln:aH t i=r.sections.length - 1:=by unfold aH;rw [hr]
 refine (eT (d:=2) (s:=1+1+2) (vP (vP ((dX (qU hC hs.1 hs.2)).mono (by omega) (zQW _)) ?_) ?_) (by omega)).mono (by omega) (by omega)
 ·split
  ·exact (dX (qIE hC hi (by omega) (by omega))).mono (by omega) (zQW _)
  exact (xM _ _).mono (zQW _) (by omega)
 split
 ·exact dX (fR (qIE hC hi (by omega) (by omega)))
 exact (xM _ _).mono (zQW _) (by omega)
theorem qVE:Nice (dU t:Int) 2 201 (qBG t r):=by
 have hm:=zQM hr;have hsum:=hC.sum r hm;unfold uG at hsum;have hal:=lJ (bS r);have hal2:(bS r).length=r.points.length+r.overPoints.length+r.flank.length:=by simp only [bS,zQL]
 unfold qBG;refine (eT (vP (qIB (d:=1) (s:=1) (k:=(r.sections++r.overSections).length) (λs hs=>?_) (zQW _)) (qIB (s:=1) (k:=(eG (bS r)).length) (λx hx=>n_pnt hC hm hx) (zQW _))) (by simp only [zQL];omega)).mono (by omega) (by simp only [zQL];omega);have:=hC.sec_in hm hs;exact qU hC this.1 this.2
theorem qIF:Nice (dU t:Int) 3 210 (lY t i r):=by
 have hi:=(zQQ.1 hr).1;have hm:=zQM hr;unfold lY;refine (eT (d:=2) (cC (iM (cC (nQ hC hi (by omega) (by omega)) (dX (nQ hC hi (by omega) (by omega)))) (by omega)) (cC (fR (xN hC hi (by omega) (by omega))) (dX (qVE hC hr)))) (by omega)).mono (by omega) (by omega)
theorem zEE:Nice (dU t:Int) 4 210 (xT t i r):=by
 have hi:=(zQQ.1 hr).1;have hm:=zQM hr;unfold xT;exact (eT (d:=3) (cC ((nQ hC hi (by omega) (by omega)).mono (by omega) (zQW _)) (cC ((fR (xN hC hi (by omega) (by omega))).mono (by omega) (zQW _)) (dX (fR (qVE hC hr))))) (by omega)).mono (by omega) (by omega)
theorem qGI:0≤oZ r∧oZ r < t.sections:=(qIY hC (zQM hr)).2
theorem qGH:0≤oF t i r∧oF t i r < t.sections:=(qOL hC hr).2
theorem n_wait:Nice (dU t:Int) 1 1 (zBQ t i):=nQ hC (zQQ.1 hr).1 (by omega) (by omega)
theorem zJP:Nice (dU t:Int) 1 1 (qMV t i):=by
 have:=nQ hC (zQQ.1 hr).1 (k:=4+(aH t i:Int)+1) (by omega) (by omega);unfold qMV
 rwa [show (aF t i:Int)+(4+(aH t i:Int))+1=(aF t i:Int)+(4+(aH t i:Int)+1) by omega]
theorem zNY:Nice (dU t:Int) 9 600 (qHG t i r):=by
 have hi:=(zQQ.1 hr).1;have hf:=qGI hC hr;have hl:=qGH hC hr;have s0:=nQ hC hi (k:=1) (by omega) (by omega);have s2:=nQ hC hi (k:=2) (by omega) (by omega);have s3:=nQ hC hi (k:=3) (by omega) (by omega);have a0:=xN hC hi (k:=0) (by omega) (by omega);have a3:=xN hC hi (k:=3) (by omega) (by omega);have ff:=qU hC hf.1 hf.2;have fl:=qU hC hl.1 hl.2;have em:=qVG hC hr;have x1:=fR (eT (d:=3) (cC (a3.mono (by omega) (zQW _)) (dX em)) (by omega));have x2:=fR (eT (d:=1) (cC (n_at hC hr) (dX fl)) (by omega));have x3:=fR (zJP hC hr);have y:=eT (d:=5) (cC (x1.mono (by omega) (zQW _)) (cC (x2.mono (by omega) (zQW _)) (dX (x3.mono (by omega) (zQW _))))) (by omega);have z:=iM (d:=6) (cC ((fR a0).mono (by omega) (zQW _)) (dX (y.mono (by omega) (zQW _)))) (by omega);have w2:=eT (d:=7) (cC (s2.mono (by omega) (zQW _)) (dX z)) (by omega);have w1:=eT (d:=2) (cC (s0.mono (by omega) (zQW _)) (dX (fR ff))) (by omega);have w3:=eT (d:=5) (cC (s3.mono (by omega) (zQW _)) (dX (fR (zOA hC hr)))) (by omega);unfold qHG;exact (iM (d:=8) (cC (w1.mono (by omega) (zQW _)) (cC (w2.mono (by omega) (zQW _)) (dX (w3.mono (by omega) (zQW _))))) (by omega)).mono (by omega) (by omega)
theorem zEF:Nice (dU t:Int) 9 900 (xY t i r):=by
 have hi:=(zQQ.1 hr).1;have hm:=zQM hr;have hf:=qGI hC hr;have ha:=hC.appr hm;have s0:=nQ hC hi (k:=1) (by omega) (by omega);have s2:=nQ hC hi (k:=2) (by omega) (by omega);have s3:=nQ hC hi (k:=3) (by omega) (by omega);have a0:=xN hC hi (k:=0) (by omega) (by omega);have a3:=xN hC hi (k:=3) (by omega) (by omega);have ff:=qU hC hf.1 hf.2;have fa:=qU hC ha.1 ha.2;have em:=qVG hC hr;have pr:=fR (qVE hC hr);have x1:=fR (eT (d:=1) (cC a3 (cC a0 (dX fa))) (by omega));have x2:=iM (d:=3) (cC (a3.mono (by omega) (zQW _)) (dX pr)) (by omega);have w1:=eT (d:=4) (cC (s0.mono (by omega) (zQW _)) (cC (ff.mono (by omega) (zQW _)) (cC (x1.mono (by omega) (zQW _)) (dX (x2.mono (by omega) (zQW _)))))) (by omega);have w2:=eT (d:=3) (cC (s2.mono (by omega) (zQW _)) (cC (a0.mono (by omega) (zQW _)) (cC (a3.mono (by omega) (zQW _)) (dX em)))) (by omega);have w3:=eT (d:=4) (cC (s3.mono (by omega) (zQW _)) (cC (zOA hC hr) (dX ((fR (n_wait hC hr)).mono (by omega) (zQW _))))) (by omega);unfold xY;exact (iM (d:=5) (cC w1 (cC (w2.mono (by omega) (zQW _)) (dX w3))) (by omega)).mono (by omega) (by omega)
theorem zOB:Nice (dU t:Int) 9 900 (qKA t i r):=by
 have hi:=(zQQ.1 hr).1;unfold qKA;exact (iM (d:=3) (cC ((pH hC hi (by omega) (by omega)).mono (by omega) (zQW _)) (cC (qIF hC hr) (cC ((pH hC hi (by omega) (by omega)).mono (by omega) (zQW _)) (dX ((pH hC hi (by omega) (by omega)).mono (by omega) (zQW _)))))) (by omega)).mono (by omega) (by omega)
theorem zEC {k:Nat} (hk:k < aH t i):Nice (dU t:Int) 9 100 (qFP t i r k):=by
 have hi:=(zQQ.1 hr).1;have hm:=zQM hr;have hln:aH t i=r.sections.length - 1:=by unfold aH;rw [hr]
 have k1:=(yY hC hm (k:=k) (by omega)).2;have k2:=(yY hC hm (k:=k+1) (by omega)).2;have u1:=pH hC hi (k:=1) (by omega) (by omega);have u2:=pH hC hi (k:=2) (by omega) (by omega);have s2:=nQ hC hi (k:=2) (by omega) (by omega);have a0:=xN hC hi (k:=0) (by omega) (by omega);have a1:=xN hC hi (k:=1) (by omega) (by omega);have o1:=iM (d:=1) (cC u1 (dX u2)) (by omega);have o2:=iM (d:=2) (cC (fR (qU hC k2.1 k2.2)) (dX (a1.mono (by omega) (zQW _)))) (by omega)
 have L := vP (d := 3) (cC (s2.mono (by omega) (zQW _)) (cC (u1.mono (by omega) (zQW _)) (cC (a0.mono (by omega) (zQW _)) (cC ((qU hC k1.1 k1.2).mono (by omega) (zQW _)) (dX o2))))) (show NiceL (dU t : Int) 3 1 (if 0 < k then [rK t i ((k : Int) - 1)] else []) by
  split
  ·exact dX ((qIE hC hi (by omega) (by omega)).mono (by omega) (zQW _))
  exact (xM _ _).mono (zQW _) (by omega))
 have x:=eT L (by omega);have y:=iM (d:=4) (cC ((qIE hC hi (k:=(k:Int)) (by omega) (by omega)).mono (by omega) (zQW _)) (dX x)) (by omega);unfold qFP;exact (eT (d:=5) (cC (o1.mono (by omega) (zQW _)) (dX y)) (by omega)).mono (by omega) (by omega)
end exprs
theorem zJS (hC:COk t) (ht:t.Wf) {j:Nat} {r q:Route} (hr:t.routes[i]?=some r) (hq:t.routes[j]?=some q):NiceL (dU t:Int) 9 300 (tE t i j r q):=by
 have hi:=(zQQ.1 hr).1;have hj:=(zQQ.1 hq).1;have hsh:=(qCX (b:=[]) hC ht hr hq).2
 have ha:Nice (dU t:Int) 2 3 (qKY t i j):=by
  unfold qKY;split
  ·exact (iM (cC (pH hC hj (by omega) (by omega)) (dX (pH hC hj (by omega) (by omega)))) (by omega)).mono (by omega) (by omega)
  exact (pH hC hj (by omega) (by omega)).mono (by omega) (by omega)
 unfold tE;split
 ·exact (dX (fR ha)).mono (by omega) (by omega)
 split
 ·exact (xM _ _).mono (zQW _) (by omega)
 have h1 := eT (qIB (d := 1) (s := 1) (k := 200) (f := rK t j) (xs := (pZ t j r q).2) (fun x hx => by
  have := hsh.2 x hx
  exact qIE hC hj (by omega) (by omega)) hsh.1) (by omega)
 exact (dX (iM (vP (d:=3) (dX (fR ha)) (dX (h1.mono (by omega) (zQW _)))) (by omega))).mono (by omega) (by omega)
theorem qRO (hC:COk t) (ht:t.Wf) {r:Route} (hr:t.routes[i]?=some r):Nice (dU t:Int) 10 16000 (qD t i r):=by
 have hi:=(zQQ.1 hr).1;have hm:=zQM hr;have hlm:=hC.lim;have hsum:=hC.sum r hm;unfold uG at hsum;have hal:=lJ (bS r);have hal2:(bS r).length=r.points.length+r.overPoints.length+r.flank.length:=by simp only [bS,zQL]
 have hA:NiceL (dU t:Int) 9 (300 * t.routes.length) (iR t i r t.routes.length):=by
  unfold iR;refine zJN _ λj hj=>?_;split
  ·exact (xM _ _).mono (zQW _) (by omega)
  rw [zQR hj];exact zJS hC ht hr (zQR hj)
 have hW := qIB (n := (dU t : Int)) (d := 9) (s := 4) (k := 200) (f := qGZ t) (xs := eG (bS r)) (fun x hx => by
  have h1 := hC.set_in hm hx;obtain ⟨k, hk1, hk2, hk3, hk4, hk5⟩ := hC.home hm hx;unfold qGZ
  have hl : Nice (dU t : Int) 2 2 (qOJ t x) := by
   unfold qOJ;split
   ·exact fR (qVF hC h1.1 h1.2.1)
   exact (qVF hC h1.1 h1.2.1).mono (by omega) (by omega)
  exact (iM (cC hl (dX ((qU hC hk4 hk5).mono (by omega) (zQW _)))) (by omega)).mono (by omega) (by omega)) (by omega)
 have hO := qIB (n := (dU t : Int)) (d := 9) (s := 1) (k := 200) (f := qEV) (xs := r.sections ++ r.overSections) (fun s hs => by
  have := hC.sec_in hm hs
  exact (zNZ hC this.1 this.2 (by omega) (by omega)).mono (by omega) (by omega)) (by simp only [zQL]; omega)
 have h0:=cC (d:=9) ((xN hC hi (k:=2) (by omega) (by omega)).mono (by omega) (zQW _)) (dX ((fR (pH hC hi (k:=3) (by omega) (by omega))).mono (by omega) (zQW _)));unfold qD;exact (eT (vP (vP (vP h0 hO) hA) hW) (by omega)).mono (by omega) (by omega)
theorem zED (hC:COk t) {p:Nat} {el:Int} (hp:t.points[p]?=some el):Nice (dU t:Int) 5 19900 (qBU t p el):=by
 have hpl:=(zQQ.1 hp).1;have hlm:=hC.lim
 have hw (rev:Bool):NiceL (dU t:Int) 1 9600 (kD t el rev t.routes.length):=by
  have hl:=vD hC el rev t.routes.length;refine (qNY (d:=1) (s:=1) (k:=9600) (λx hx=>?_) (by omega)).mono (by omega) (by omega);unfold kD at hx;obtain⟨j,hj,hx⟩:=List.mem_flatMap.1 hx;rw [List.mem_range] at hj;rw [zQR hj] at hx;unfold qE at hx;obtain⟨y,_,rfl⟩:=List.mem_map.1 hx;exact pH hC hj (by omega) (by omega)
 have n1:=iM (hw true) (by omega);have n2:=fR (iM (hw false) (by omega));have n3:=eT (d:=3) (cC ((qVF hC (k:=(p:Int)) (by omega) (by omega)).mono (by omega) (zQW _)) (dX n2)) (by omega);unfold qBU;exact (iM (d:=4) (cC (n1.mono (by omega) (zQW _)) (dX n3)) (by omega)).mono (by omega) (by omega)
variable {t:Table} {b:List Rung} {i:Nat}
theorem rt_mem {α:Type} {f:Nat→Route→List α} {x:α} {n:Nat}:x∈(List.range n).flatMap (rt t f)↔∃ i r,i < n∧t.routes[i]?=some r∧x∈f i r:=by
 rw [List.mem_flatMap];constructor
 ·rintro⟨i,hi,hx⟩;unfold rt at hx
  cases hr:t.routes[i]? with
  | none=>rw [hr] at hx;cases hx
  | some r=>rw [hr] at hx;exact⟨i,r,List.mem_range.1 hi,hr,hx⟩
 rintro⟨i,r,hi,hr,hx⟩;exact⟨i,List.mem_range.2 hi,by rw [qEO hr];exact hx⟩
theorem pt_mem {α:Type} {f:Nat→Int→List α} {x:α} {n:Nat}:x∈(List.range n).flatMap (pt t f)↔∃ i r,i < n∧t.points[i]?=some r∧x∈f i r:=by
 rw [List.mem_flatMap];constructor
 ·rintro⟨i,hi,hx⟩;unfold pt at hx
  cases hr:t.points[i]? with
  | none=>rw [hr] at hx;cases hx
  | some r=>rw [hr] at hx;exact⟨i,r,List.mem_range.1 hi,hr,hx⟩
 rintro⟨i,r,hi,hr,hx⟩;exact⟨i,List.mem_range.2 hi,by rw [qXC hr];exact hx⟩
theorem rel_mem {r:Route} {n:Nat} {x:Rung}:x∈mG t i r n↔∃ j,j < n∧x=⟨1,(aF t i:Int)+(4+((aH t i - 1 - j:Nat):Int)),0,qFP t i r (aH t i - 1 - j)⟩:=by
 unfold mG;rw [List.mem_map];constructor
 ·rintro⟨j,hj,rfl⟩;exact⟨j,List.mem_range.1 hj,rfl⟩
 rintro⟨j,hj,rfl⟩;exact⟨j,List.mem_range.2 hj,rfl⟩
theorem mE {n inp v:Int} {e:Expr} {d s:Nat} (h0:inp≤v) (h1:v < n) (h:Nice n d s e) (hd:d≤12) (hs:s≤20000):qI n inp ⟨1,v,0,e⟩=true:=by
 unfold qI;dsimp only;rw [h.val hd hs,decide_eq_true (⟨h0,h1⟩:inp≤v∧v < n)];rfl
theorem qHM {n inp v p:Int} {e:Expr} {d s:Nat} (h0:inp≤v) (h1:v < n) (hp:1≤p) (hp1:p≤1000) (h:Nice n d s e) (hd:d≤12) (hs:s≤20000):qI n inp ⟨2,v,p,e⟩=true:=by
 unfold qI;dsimp only;rw [h.val hd hs,decide_eq_true (⟨h0,h1⟩:inp≤v∧v < n),decide_eq_true (show (2:Int)=2∧1≤p∧p≤1073741824 by omega)];rfl
theorem vL (hC:COk t) (hi:i < t.routes.length) {k:Int} (h0:0≤k) (h1:k≤5+(aH t i:Int)):(inN t:Int)≤(aF t i:Int)+k∧(aF t i:Int)+k < (dU t:Int):=by
 have h:=qMT hC hi h0 h1;have ha:=qLA t;omega
theorem qHT (hi:i < t.routes.length) {k:Int} (h0:0≤k) (h1:k≤4):(inN t:Int)≤dL t i+k∧dL t i+k < (dU t:Int):=by
 have ha:=qLA t;have:=lR t;unfold dL;omega
theorem qEM (hC:COk t) {r:Route} (hr:t.routes[i]?=some r):Nice (dU t:Int) 9 900 (lU [vE ((aF t i:Int)+3),vE (oH t i+0),tR t i r]):=by
 have hi:=(zQQ.1 hr).1;exact (eT (d:=3) (cC ((nQ hC hi (by omega) (by omega)).mono (by omega) (zQW _)) (cC ((xN hC hi (by omega) (by omega)).mono (by omega) (zQW _)) (dX (qVG hC hr)))) (by omega)).mono (by omega) (by omega)
theorem qEL (hC:COk t) {r:Route} (hr:t.routes[i]?=some r):Nice (dU t:Int) 9 900 (lU [vE ((aF t i:Int)+2),vE (oH t i+0),atE t i,nB (iH (oF t i r))]):=by
 have hi:=(zQQ.1 hr).1;have hl:=qGH hC hr;exact (eT (d:=2) (cC ((nQ hC hi (by omega) (by omega)).mono (by omega) (zQW _)) (cC ((xN hC hi (by omega) (by omega)).mono (by omega) (zQW _)) (cC ((n_at hC hr).mono (by omega) (zQW _)) (dX (fR (qU hC hl.1 hl.2)))))) (by omega)).mono (by omega) (by omega)
theorem xA (hC:COk t) (ht:t.Wf):∀ x∈jM t,qI (dU t:Int) (inN t:Int) x=true:=by
 intro x hx;have hlm:=hC.lim;have hN:=lR t;unfold jM at hx;simp only [zQN] at hx;rcases hx with ((((hx|hx)|hx)|hx)|hx)|hx
 ·obtain⟨i,r,hi,hr,hx⟩:=rt_mem.1 hx;unfold kL at hx;simp only [zQB,List.not_mem_nil,or_false] at hx;rcases hx with rfl|rfl
  ·have hb := vL hC hi (k := 4 + (aH t i : Int)) (by omega) (by omega);exact qHM hb.1 hb.2 (by omega) (by omega) (qEM hC hr) (by omega) (by omega)
  have hb := vL hC hi (k := 4 + (aH t i : Int) + 1) (by omega) (by omega);exact qHM (by omega) (by omega) (by omega) (by omega) (qEL hC hr) (by omega) (by omega)
 ·obtain⟨i,r,hi,hr,hx⟩:=rt_mem.1 hx;unfold lV at hx;simp only [zQB,List.not_mem_nil,or_false] at hx;rcases hx with rfl|rfl|rfl|rfl
  ·have hb := qHT (t := t) hi (k := 0) (by omega) (by omega);exact mE hb.1 hb.2 (zEE hC hr) (by omega) (by omega)
  ·have hb := qHT (t := t) hi (k := 1) (by omega) (by omega);exact mE hb.1 hb.2 (zNY hC hr) (by omega) (by omega)
  ·have hb := qHT (t := t) hi (k := 2) (by omega) (by omega);exact mE hb.1 hb.2 (zEF hC hr) (by omega) (by omega)
  have hb := qHT (t := t) hi (k := 3) (by omega) (by omega);exact mE hb.1 hb.2 (zOB hC hr) (by omega) (by omega)
 ·obtain⟨i,r,hi,hr,hx⟩:=rt_mem.1 hx;unfold fY at hx;simp only [zQN,zQB,List.not_mem_nil,or_false] at hx;rcases hx with hx|rfl|rfl|rfl
  ·obtain⟨j,hj,rfl⟩:=rel_mem.1 hx;have hb:=vL hC hi (k:=4+((aH t i - 1 - j:Nat):Int)) (by omega) (by omega);exact mE hb.1 hb.2 (zEC hC hr (by omega)) (by omega) (by omega)
  ·have hb := vL hC hi (k := 1) (by omega) (by omega);exact mE hb.1 hb.2 (qIF hC hr) (by omega) (by omega)
  ·have hb := vL hC hi (k := 2) (by omega) (by omega);exact mE hb.1 hb.2 (pH hC hi (by omega) (by omega)) (by omega) (by omega)
  have hb := vL hC hi (k := 3) (by omega) (by omega);exact mE hb.1 hb.2 (pH hC hi (by omega) (by omega)) (by omega) (by omega)
 ·obtain⟨i,r,hi,hr,hx⟩:=rt_mem.1 hx;unfold lC at hx;simp only [zQB,List.not_mem_nil,or_false] at hx;subst hx;have hb:=qHT (t:=t) hi (k:=4) (by omega) (by omega);exact mE hb.1 hb.2 (qRO hC ht hr) (by omega) (by omega)
 ·obtain⟨i,r,hi,hr,hx⟩:=pt_mem.1 hx;unfold wC at hx;simp only [zQB,List.not_mem_nil,or_false] at hx;subst hx;exact mE (by omega) (by omega) (zED hC hr) (by omega) (by omega)
 rw [show kU t=(List.range t.routes.length).flatMap (qFO t) from rfl,List.mem_flatMap] at hx;obtain⟨i,hi,hx⟩:=hx;have hi:=List.mem_range.1 hi;unfold qFO at hx;simp only [zQB,List.not_mem_nil,or_false] at hx;subst hx;have hb:=vL hC hi (k:=0) (by omega) (by omega);exact mE hb.1 hb.2 (iM (cC (pH hC hi (by omega) (by omega)) (dX (pH hC hi (by omega) (by omega)))) (by omega)) (by omega) (by omega)
theorem zCR {n inp:Int} {x:Rung} (h:qI n inp x=true):zBV n x.expr=true:=by
 unfold qI at h;simp only [zQA] at h;exact h.2.2
theorem qHL (hC:COk t) (ht:t.Wf):∀ x∈jM t,okE x.expr∧dpE x.expr≤12:=by
 intro x hx
 refine ⟨?_, by
  have := of_decide_eq_true (zCR (xA hC ht x hx));have := this.2.1
  omega⟩
 unfold jM at hx;simp only [zQN] at hx;rcases hx with ((((hx|hx)|hx)|hx)|hx)|hx
 ·obtain⟨i,r,hi,hr,hx⟩:=rt_mem.1 hx;unfold kL at hx;simp only [zQB,List.not_mem_nil,or_false] at hx;rcases hx with rfl|rfl
  ·exact (qEM hC hr).2.2.2
  exact (qEL hC hr).2.2.2
 ·obtain⟨i,r,hi,hr,hx⟩:=rt_mem.1 hx;unfold lV at hx;simp only [zQB,List.not_mem_nil,or_false] at hx;rcases hx with rfl|rfl|rfl|rfl
  ·exact (zEE hC hr).2.2.2
  ·exact (zNY hC hr).2.2.2
  ·exact (zEF hC hr).2.2.2
  exact (zOB hC hr).2.2.2
 ·obtain⟨i,r,hi,hr,hx⟩:=rt_mem.1 hx;unfold fY at hx;simp only [zQN,zQB,List.not_mem_nil,or_false] at hx;rcases hx with hx|rfl|rfl|rfl
  ·obtain⟨j,hj,rfl⟩:=rel_mem.1 hx;exact (zEC hC hr (by omega)).2.2.2
  ·exact (qIF hC hr).2.2.2
  ·exact (pH hC hi (by omega) (by omega)).2.2.2
  exact (pH hC hi (by omega) (by omega)).2.2.2
 ·obtain⟨i,r,hi,hr,hx⟩:=rt_mem.1 hx;unfold lC at hx;simp only [zQB,List.not_mem_nil,or_false] at hx;subst hx;exact (qRO hC ht hr).2.2.2
 ·obtain⟨i,r,hi,hr,hx⟩:=pt_mem.1 hx;unfold wC at hx;simp only [zQB,List.not_mem_nil,or_false] at hx;subst hx;exact (zED hC hr).2.2.2
 rw [show kU t=(List.range t.routes.length).flatMap (qFO t) from rfl,List.mem_flatMap] at hx;obtain⟨i,hi,hx⟩:=hx;have hi:=List.mem_range.1 hi;unfold qFO at hx;simp only [zQB,List.not_mem_nil,or_false] at hx;subst hx;exact (iM (cC (pH hC hi (k:=0) (by omega) (by omega)) (dX (pH hC hi (k:=4) (by omega) (by omega)))) (by omega)).2.2.2
theorem qLF (hC:COk t):∀ n,n≤t.routes.length→inN t+t.points.length+3 * n+((List.range n).flatMap (rt t (fY t))).length=aF t n
 | 0,_=>by rw [pW];simp
 | n+1,h=>by
  have hr:=zQR (show n < t.routes.length by omega);have h1:=qLF hC n (by omega);have hsec:=hC.secs (List.getElem_mem (show n < t.routes.length by omega));have hln:aH t n=t.routes[n].sections.length - 1:=by unfold aH;rw [hr]
  have hw:qCU t.routes[n]=5+t.routes[n].sections.length:=rfl;rw [iY,zQL,nX hr,qEO hr,qAF];omega
theorem qHO {α:Type} {f:Nat→Route→List α} {c:Nat} (hf:∀ i r,t.routes[i]?=some r→(f i r).length=c):∀ n,n≤t.routes.length→((List.range n).flatMap (rt t f)).length=c * n
 | 0,_=>by simp
 | n+1,h=>by
  have hr:=zQR (show n < t.routes.length by omega);rw [iY,zQL,qHO hf n (by omega),qEO hr,hf n _ hr,Nat.mul_add,Nat.mul_one]
theorem zDA {α:Type} {f:Nat→Int→List α} {c:Nat} (hf:∀ i r,t.points[i]?=some r→(f i r).length=c):∀ n,n≤t.points.length→((List.range n).flatMap (pt t f)).length=c * n
 | 0,_=>by simp
 | n+1,h=>by
  have hr:=zQR (show n < t.points.length by omega);rw [iY,zQL,zDA hf n (by omega),qXC hr,hf n _ hr,Nat.mul_add,Nat.mul_one]
theorem qZM:(jZ t).length=2 * t.routes.length:=qHO (f:=kL t) (c:=2) (λ_ _ _=>rfl) _ (zQW _)
theorem uK (hC:COk t):(jM t).length=dU t - inN t:=by
 have h1:=qZM (t:=t);have h2:(mF t).length=4 * t.routes.length:=qHO (f:=lV t) (c:=4) (λ_ _ _=>rfl) _ (zQW _);have h3:=qLF hC t.routes.length (zQW _);have h4:(mX t).length=1 * t.routes.length:=qHO (f:=lC t) (c:=1) (λ_ _ _=>rfl) _ (zQW _);have h5:(oO t).length=1 * t.points.length:=zDA (f:=wC t) (c:=1) (λ_ _ _=>rfl) _ (zQW _);have h6:(kU t).length=1 * t.routes.length:=dY (f:=qFO t) (c:=1) (λ_=>rfl) _;have ha:=qLA t;have he:fO t=aF t t.routes.length:=rfl;unfold jM;simp only [zQL];unfold kP;omega
theorem qMH {j:Nat}:∀ n,aF t 0≤j→j < aF t n→∃ i,i < n∧aF t i≤j∧j < aF t (i+1)
 | 0,h0,h1=>by omega
 | n+1,h0,h1=>by
  by_cases h:j < aF t n
  ·obtain⟨i,hi,h2⟩:=qMH n h0 h;exact⟨i,by omega,h2⟩
  exact⟨n,by omega,by omega,h1⟩
theorem qUB (hC:COk t) {j:Nat} (h0:inN t≤j) (h1:j < dU t):(j:Int)∈(jM t).map (·.var):=by
 have ha:=qLA t;rw [List.mem_map];unfold jM;by_cases hp:j < inN t+t.points.length
 ·have hr := zQR (show j - inN t < t.points.length by omega);refine⟨⟨1,(inN t:Int)+((j - inN t:Nat):Int),0,qBU t (j - inN t) (t.points[j - inN t]'(by omega))⟩,?_,by show (inN t:Int)+((j - inN t:Nat):Int)=(j:Int);omega⟩;simp only [zQN];exact .inl (.inr (pt_mem.2 ⟨j - inN t,_,by omega,hr,by simp [wC]⟩))
 by_cases hx:j < fO t
 ·obtain ⟨i, hi, hb1, hb2⟩ := qMH (t := t) (j := j) t.routes.length (by rw [pW]; omega) hx;have hr:=zQR hi;have hsec:=hC.secs (List.getElem_mem hi);have hln:aH t i=t.routes[i].sections.length - 1:=by unfold aH;rw [hr]
  have hw:qCU t.routes[i]=5+t.routes[i].sections.length:=rfl;rw [nX hr] at hb2;generalize t.routes[i]=r at hr hsec hln hw hb2;by_cases o0:j=aF t i
  ·refine⟨⟨1,(aF t i:Int)+0,0,_⟩,List.mem_append_right _ (List.mem_flatMap.2 ⟨i,List.mem_range.2 hi,List.mem_singleton.2 rfl⟩),by show (aF t i:Int)+0=(j:Int);omega⟩
  by_cases o3:j < aF t i+4
  ·have h3:∀ x∈fY t i r,x∈((((jZ t++mF t)++kP t)++mX t)++oO t)++kU t:=λx hx=>by
    simp only [zQN];exact .inl (.inl (.inl (.inr (rt_mem.2 ⟨i,r,hi,hr,hx⟩))))
   rcases (by omega:j=aF t i+1∨j=aF t i+2∨j=aF t i+3) with h|h|h
   ·exact⟨⟨1,(aF t i:Int)+1,0,lY t i r⟩,h3 _ (by simp [fY]),by show (aF t i:Int)+1=(j:Int);omega⟩
   ·exact⟨⟨1,(aF t i:Int)+2,0,auE t i 1⟩,h3 _ (by simp [fY]),by show (aF t i:Int)+2=(j:Int);omega⟩
   exact⟨⟨1,(aF t i:Int)+3,0,auE t i 2⟩,h3 _ (by simp [fY]),by show (aF t i:Int)+3=(j:Int);omega⟩
  by_cases o4:j < aF t i+4+aH t i
  ·obtain⟨k,hk⟩:∃ k:Nat,k=aH t i - 1 - (j - aF t i - 4):=⟨_,rfl⟩;refine⟨⟨1,(aF t i:Int)+(4+((aH t i - 1 - k:Nat):Int)),0,qFP t i r (aH t i - 1 - k)⟩,?_,?_⟩
   ·simp only [zQN]
    exact .inl (.inl (.inl (.inr (rt_mem.2 ⟨i, r, hi, hr, by
     unfold fY
     exact List.mem_append_left _ (rel_mem.2 ⟨k, by omega, rfl⟩)⟩))))
   show (aF t i:Int)+(4+((aH t i - 1 - k:Nat):Int))=(j:Int);omega
  have h1:∀ x∈kL t i r,x∈((((jZ t++mF t)++kP t)++mX t)++oO t)++kU t:=λx hx=>by
   simp only [zQN];exact .inl (.inl (.inl (.inl (.inl (rt_mem.2 ⟨i,r,hi,hr,hx⟩)))))
  rcases (by omega:j=aF t i+4+aH t i∨j=aF t i+4+aH t i+1) with h|h
  ·exact⟨_,h1 _ (List.mem_cons_self),by show (aF t i:Int)+(4+(aH t i:Int))=(j:Int);omega⟩
  exact⟨_,h1 _ (List.mem_cons_of_mem _ List.mem_cons_self),by show (aF t i:Int)+(4+(aH t i:Int))+1=(j:Int);omega⟩
 obtain⟨i,hi⟩:∃ i,i=(j - fO t) / 5:=⟨_,rfl⟩;have hil:i < t.routes.length:=by omega
 have hr:=zQR hil
 have h2:∀ x∈lV t i t.routes[i],x∈((((jZ t++mF t)++kP t)++mX t)++oO t)++kU t:=λx hx=>by
  simp only [zQN];exact .inl (.inl (.inl (.inl (.inr (rt_mem.2 ⟨i,_,hil,hr,hx⟩)))))
 have h4:∀ x∈lC t i t.routes[i],x∈((((jZ t++mF t)++kP t)++mX t)++oO t)++kU t:=λx hx=>by
  simp only [zQN];exact .inl (.inl (.inr (rt_mem.2 ⟨i,_,hil,hr,hx⟩)))
 have hav:dL t i=(fO t:Int)+5 * (i:Int):=rfl;rcases (by omega:j=fO t+5 * i∨j=fO t+5 * i+1∨j=fO t+5 * i+2∨j=fO t+5 * i+3∨j=fO t+5 * i+4) with h|h|h|h|h
 ·exact⟨⟨1,dL t i+0,0,xT t i t.routes[i]⟩,h2 _ (by simp [lV]),by show dL t i+0=(j:Int);omega⟩
 ·exact⟨⟨1,dL t i+1,0,qHG t i t.routes[i]⟩,h2 _ (by simp [lV]),by show dL t i+1=(j:Int);omega⟩
 ·exact⟨⟨1,dL t i+2,0,xY t i t.routes[i]⟩,h2 _ (by simp [lV]),by show dL t i+2=(j:Int);omega⟩
 ·exact⟨⟨1,dL t i+3,0,qKA t i t.routes[i]⟩,h2 _ (by simp [lV]),by show dL t i+3=(j:Int);omega⟩
 exact⟨⟨1,dL t i+4,0,qD t i t.routes[i]⟩,h4 _ (by simp [lC]),by show dL t i+4=(j:Int);omega⟩
theorem qHD (hC:COk t):((jM t).map (·.var)).Nodup:=by
 have hin:=lR t;obtain⟨L,hL⟩:∃ L:List Int,L=(List.range (dU t - inN t)).map λk=>((inN t+k:Nat):Int):=⟨_,rfl⟩
 have hn:L.Nodup:=by
  rw [hL,oA];intro a c hac hc he;rw [zQC,List.length_range] at hc;rw [zQP,zQP,List.getElem?_range (by omega),List.getElem?_range (by omega)] at he;simp only [Option.map_some,Option.some.injEq] at he;omega
 have hs:L⊆(jM t).map (·.var):=by
  intro x hx;rw [hL] at hx;obtain⟨k,hk,rfl⟩:=List.mem_map.1 hx;rw [List.mem_range] at hk;exact qUB hC (by omega) (by omega)
 exact xL _ L hn hs (by
  rw [zQC, uK hC, hL, zQC, List.length_range]
  exact zQW _)
theorem zDC (hC:COk t) (ht:t.Wf) (ha:dU t≤2000):POk (wN t):=
 ⟨by show (jM t).length≤_;rw [uK hC];omega,by show (qDW t).length≤_;rw [vQ hC];omega,λx hx=>(qHL hC ht x hx).1⟩
theorem qLI (hC:COk t) (ht:t.Wf) (ha:dU t≤2000):pU (wN t)=0:=by
 have hin:=lR t;unfold pU;dsimp only;rw [vQ hC,if_neg (by omega),if_neg (by omega),if_neg ?_,if_pos (qHD hC)];rw [zQT.2 (xA hC ht)];simp
theorem qUG (hC:COk t) (ht:t.Wf) (ha:dU t≤2000):qR (wN t)=⟨List.replicate (dU t) false,List.replicate (dU t - inN t) 0,false⟩:=by
 unfold qR;rw [if_pos (qLI hC ht ha),vQ hC,uK hC]
theorem qHC {n:Nat} {C:List Int} {h:Bool} (j:Nat):vb ⟨List.replicate n false,C,h⟩ j=false:=by
 unfold vb;rw [zQD,List.getElem?_replicate];split<;>rfl
variable {t:Table} {i:Nat}
def gV (V:List Bool) (y:Int):Bool:=decide (0≤y)&&V.getD y.toNat false
theorem qVQ (V:List Bool) (y:Nat):gV V (y:Int)=V.getD y false:=by unfold gV;rw [decide_eq_true (by omega),Bool.true_and,show ((y:Int)).toNat=y by omega]
theorem qVP {V:List Bool} {x y:Int} {b:Bool} (h0:0≤x) (h1:x < (V.length:Int)):gV (V.set x.toNat b) y=if y=x then b else gV V y:=by
 unfold gV;by_cases hy:0≤y
 ·rw [decide_eq_true hy,Bool.true_and,Bool.true_and,zQD,zQD,List.getElem?_set];by_cases hxy:y=x
  ·subst hxy;rw [if_pos rfl,if_pos rfl,if_pos (by omega)];rfl
  rw [if_neg hxy,if_neg (by omega)]
 rw [decide_eq_false hy, if_neg (by omega)];rfl
theorem kT (V:List Bool) (x:Int):evE V (vE x)=gV V x:=by rw [qJC];rfl
theorem mL (V:List Bool) (l:List Expr):evE V (lU l)=l.all (evE V):=by
 rw [qJC];unfold opB;simp [List.all_map]
theorem qQ (V:List Bool) (l:List Expr):evE V (orE l)=l.any (evE V):=by
 rw [qJC];unfold opB;simp [List.any_map]
theorem pA (V:List Bool) (e:Expr):evE V (nB e)=!evE V e:=by
 rw [qJC];rfl
def InR (n:Nat) (l:List (Rung×Int)):Prop:=∀ x∈l,0≤x.1.var∧x.1.var < (n:Int)
abbrev vs (l:List Rung):List Int:=l.map (·.var)
theorem qGB {n:Nat} {y:Int}:∀ (l:List (Rung×Int)) (V:List Bool),InR n l→V.length=n→(∀ x∈l,x.1.var≠y)→gV (oG l V) y=gV V y
 | [],V,_,_,_=>rfl
 | x :: l,V,hn,hV,hy=>by
  show gV (oG l (vY V x)) y=gV V y;have hx:=hn x (by simp);rw [qGB l _ (λz hz=>hn z (by simp [hz])) (by rw [qCW];exact hV) (λz hz=>hy z (by simp [hz]))];unfold vY;rw [qVP hx.1 (by omega),if_neg (λh=>hy x (by simp) h.symm)]
theorem qPQ {A:List Rung} {C:List Int} (h:A.length=C.length) {y:Int}:(∃ x∈List.zip A C,x.1.var=y)↔y∈vs A:=by
 rw [List.mem_map];constructor
 ·rintro⟨x,hx,rfl⟩;obtain⟨a,c⟩:=x;exact⟨a,(List.of_mem_zip hx).1,rfl⟩
 rintro⟨a,ha,rfl⟩;obtain⟨k,hk⟩:=List.getElem?_of_mem ha;have hkl:=(zQQ.1 hk).1;exact⟨(a,C[k]'(by omega)),zQM (List.getElem?_zip_eq_some.2 ⟨hk,zQR (by omega)⟩),rfl⟩
theorem qUN {n:Nat} {A B:List Rung} {x:Rung} {C:List Int} {V:List Bool} (hC:C.length=(A++x :: B).length) (hV:V.length=n) (hr:∀ z∈A++x :: B,0≤z.var∧z.var < (n:Int)) (hnd:(vs (A++x :: B)).Nodup):
  ∃ W:List Bool,(∀ y∈vs A,gV W y=gV (oG (List.zip (A++x :: B) C) V) y)∧(∀ y,y∉vs A→gV W y=gV V y)
   ∧ gV (oG (List.zip (A++x :: B) C) V) x.var=(wP x (evE W x.expr) (C.getD A.length 0)).2
   ∧ (uW (List.zip (A++x :: B) C) V)[A.length]?=some (wP x (evE W x.expr) (C.getD A.length 0)).1:=by
 have hal:A.length < C.length:=by rw [hC];simp
 have hCs:C=C.take A.length++(C[A.length] :: C.drop (A.length+1)):=by rw [← List.drop_eq_getElem_cons hal,List.take_append_drop]
 have hCg:C.getD A.length 0=C[A.length]:=by rw [zQD,zQR hal];rfl
 rw [hCg];generalize C[A.length]=c at hCs hCg;have hl1:A.length=(C.take A.length).length:=by rw [List.length_take];omega
 have hl2:B.length=(C.drop (A.length+1)).length:=by rw [List.length_drop,hC];simp;omega
 have hz:List.zip (A++x :: B) C=List.zip A (C.take A.length)++(x,c) :: List.zip B (C.drop (A.length+1)):=by
  conv=>lhs;rw [hCs]
  rw [List.zip_append hl1];rfl
 have hzl:(List.zip A (C.take A.length)).length=A.length:=by rw [List.length_zip];omega
 have hzA:InR n (List.zip A (C.take A.length)):=λz hz=>hr z.1 (List.mem_append_left _ (List.of_mem_zip (show (z.1,z.2)∈_ from hz)).1);have hzB:InR n (List.zip B (C.drop (A.length+1))):=λz hz=>hr z.1 (List.mem_append_right _ (List.mem_cons_of_mem _ (List.of_mem_zip (show (z.1,z.2)∈_ from hz)).1));have hx:=hr x (List.mem_append_right _ List.mem_cons_self);rw [hz];generalize hAz:List.zip A (C.take A.length)=Az at hzl hzA;generalize hBz:List.zip B (C.drop (A.length+1))=Bz at hzB;have hWl:(oG Az V).length=n:=by rw [qBB,hV]
 unfold vs at hnd;rw [List.map_append,List.map_cons,List.nodup_append] at hnd;obtain⟨n1,n2,n3⟩:=hnd;rw [List.nodup_cons] at n2
 have hBv : ∀ y, y ∉ vs B → ∀ z ∈ Bz, z.1.var ≠ y := fun y hy z hz he => hy (by
  rw [← hBz] at hz
  exact (qPQ hl2).1 ⟨z, hz, he⟩)
 have hAv : ∀ y, y ∉ vs A → ∀ z ∈ Az, z.1.var ≠ y := fun y hy z hz he => hy (by
  rw [← hAz] at hz
  exact (qPQ hl1).1 ⟨z, hz, he⟩)
 have hs:oG (Az++(x,c) :: Bz) V=oG Bz (vY (oG Az V) (x,c)):=by rw [qQP];rfl
 have hsl:(vY (oG Az V) (x,c)).length=n:=by rw [qCW,hWl]
 refine⟨oG Az V,λy hy=>?_,λy hy=>qGB Az V hzA hV (hAv y hy),?_,?_⟩
 ·rw [hs, qGB Bz _ hzB hsl (hBv y fun hb => n3 y hy y (List.mem_cons_of_mem _ hb) rfl)];unfold vY;rw [qVP hx.1 (by rw [hWl];exact hx.2),if_neg];intro he;exact n3 y hy x.var List.mem_cons_self he
 ·rw [hs,qGB Bz _ hzB hsl (hBv _ n2.1)];unfold vY;rw [qVP hx.1 (by rw [hWl];exact hx.2),if_pos rfl]
 unfold uW;rw [List.getElem?_mapIdx,List.getElem?_append_right (by omega),hzl,Nat.sub_self];simp only [List.getElem?_cons_zero,Option.map_some];rw [List.take_append_of_le_length (by omega),List.take_of_length_le (by omega)]
structure ScanV (t:Table) (m:Machine) (I:List Bool) where
 hC:COk t
 ht:t.Wf
 ha:dU t≤2000
 hv:m.vars.length=dU t
 hc:m.counts.length=dU t - inN t
def qAJ (t:Table) (m:Machine) (I:List Bool):List Bool:=inV (inN t) I m.vars
def gZ (t:Table) (m:Machine) (I:List Bool):List Bool:=oG (List.zip (jM t) m.counts) (qAJ t m I)
def qKN (t:Table) (m:Machine) (I:List Bool):List Int:=uW (List.zip (jM t) m.counts) (qAJ t m I)
section
variable {m:Machine} {I:List Bool}
theorem zDQ (S:ScanV t m I):(qAJ t m I).length=dU t:=by
 have:=lR t;unfold qAJ;rw [qGK (by rw [S.hv];omega),S.hv]
theorem qVB {y:Nat} (S:ScanV t m I) (hy:y < inN t):gV (qAJ t m I) (y:Int)=I.getD y false:=by
 rw [qVQ];unfold qAJ inV;rw [zQD,List.getElem?_append_left (by simpa using hy),zQP,List.getElem?_range hy];rfl
theorem vO {y:Nat} (S:ScanV t m I) (hy:inN t≤y):gV (qAJ t m I) (y:Int)=vb m y:=by
 have:=lR t;rw [qVQ];unfold qAJ inV vb;rw [zQD,List.getElem?_append_right (by simpa using hy),List.getElem?_drop,zQC,List.length_range,zQD,show inN t+(y - inN t)=y by omega]
theorem zCQ (S:ScanV t m I):∀ z∈jM t,(inN t:Int)≤z.var∧z.var < (dU t:Int):=by
 intro z hz;have:=xA S.hC S.ht z hz;unfold qI at this;simp only [zQA,decide_eq_true_eq] at this;exact this.2.1
structure Rd (t:Table) (m:Machine) (I:List Bool) (W:List Bool) (A B:List Int):Prop where
 new:∀ y∈A,gV W y=gV (gZ t m I) y
 old:∀ y∈B,gV W y=gV (qAJ t m I) y
 inp:∀ y:Int,y < (inN t:Int)→gV W y=gV (qAJ t m I) y
theorem yL (S:ScanV t m I) {A B:List Rung} {x:Rung} (h:jM t=A++x :: B):
  ∃ W:List Bool,Rd t m I W (vs A) (vs (x :: B))∧gV (gZ t m I) x.var=(wP x (evE W x.expr) (m.counts.getD A.length 0)).2∧(qKN t m I)[A.length]?=some (wP x (evE W x.expr) (m.counts.getD A.length 0)).1:=by
 have hn:=qHD S.hC;have hi:=zCQ S;have hl:=uK S.hC;have e1:gZ t m I=oG (List.zip (A++x :: B) m.counts) (qAJ t m I):=by unfold gZ;rw [h]
 have e2:qKN t m I=uW (List.zip (A++x :: B) m.counts) (qAJ t m I):=by unfold qKN;rw [h]
 rw [h] at hn hi hl;obtain⟨W,h1,h2,h3,h4⟩:=qUN (n:=dU t) (C:=m.counts) (V:=qAJ t m I) (by rw [hl,S.hc]) (zDQ S) (λz hz=>by have:=hi z hz;omega) hn;rw [← e1] at h1 h3;rw [← e2] at h4;refine⟨W,⟨h1,λy hy=>h2 y λhA=>?_,λy hy=>h2 y λhA=>?_⟩,h3,h4⟩
 ·unfold vs at hA hy;rw [List.map_append,List.nodup_append] at hn;exact hn.2.2 y hA y hy rfl
 obtain⟨z,hz,rfl⟩:=List.mem_map.1 hA;have:=hi z (List.mem_append_left _ hz);omega
end
theorem nT {α:Type} (f:Nat→List α) {i:Nat}:∀ {n:Nat},i < n→∃ R,(List.range n).flatMap f=(List.range i).flatMap f++(f i++R)
 | 0,h=>by omega
 | n+1,h=>by
  by_cases he:i=n
  ·subst he;exact⟨[],by rw [iY,List.append_nil]⟩
  obtain ⟨R, hR⟩ := nT f (n := n) (i := i) (by omega);exact⟨R++f n,by rw [iY,hR];simp only [List.append_assoc]⟩
variable {t:Table} {i:Nat} {m:Machine} {I:List Bool}
theorem wS {f:Nat→Route→List Rung} {r:Route} (hr:t.routes[i]?=some r) {x:Rung} (hx:x∈f i r) {n:Nat} (hn:i < n):x.var∈vs ((List.range n).flatMap (rt t f)):=List.mem_map_of_mem (rt_mem.2 ⟨i,r,hn,hr,hx⟩)
section vmem
variable {r:Route} (hr:t.routes[i]?=some r)
include hr
theorem v_wait:(aF t i:Int)+(4+(aH t i:Int))∈vs (jZ t):=wS (f:=kL t) hr (x:=⟨2,(aF t i:Int)+(4+(aH t i:Int)),12,_⟩) List.mem_cons_self (zQQ.1 hr).1
theorem zIK:(aF t i:Int)+(4+(aH t i:Int))+1∈vs (jZ t):=wS (f:=kL t) hr (x:=⟨2,(aF t i:Int)+(4+(aH t i:Int))+1,4,_⟩) (List.mem_cons_of_mem _ List.mem_cons_self) (zQQ.1 hr).1
theorem qHF {k:Int} (h0:0≤k) (h1:k≤3):dL t i+k∈vs (mF t):=by
 have hi:=(zQQ.1 hr).1;rcases (by omega:k=0∨k=1∨k=2∨k=3) with h|h|h|h<;>subst h
 ·exact wS (f:=lV t) hr (x:=⟨1,dL t i+0,0,xT t i r⟩) (by simp [lV]) hi
 ·exact wS (f:=lV t) hr (x:=⟨1,dL t i+1,0,qHG t i r⟩) (by simp [lV]) hi
 ·exact wS (f:=lV t) hr (x:=⟨1,dL t i+2,0,xY t i r⟩) (by simp [lV]) hi
 exact wS (f:=lV t) hr (x:=⟨1,dL t i+3,0,qKA t i r⟩) (by simp [lV]) hi
theorem v_st {k:Int} (h0:1≤k) (h1:k≤3):(aF t i:Int)+k∈vs (kP t):=by
 have hi:=(zQQ.1 hr).1;rcases (by omega:k=1∨k=2∨k=3) with h|h|h<;>subst h
 ·exact wS (f:=fY t) hr (x:=⟨1,(aF t i:Int)+1,0,lY t i r⟩) (by simp [fY]) hi
 ·exact wS (f:=fY t) hr (x:=⟨1,(aF t i:Int)+2,0,auE t i 1⟩) (by simp [fY]) hi
 exact wS (f:=fY t) hr (x:=⟨1,(aF t i:Int)+3,0,auE t i 2⟩) (by simp [fY]) hi
theorem zNU {k:Nat} (hk:k < aH t i):(aF t i:Int)+(4+(k:Int))∈vs (kP t):=by
 have hi:=(zQQ.1 hr).1;have h:=wS (f:=fY t) hr (x:=⟨1,(aF t i:Int)+(4+((aH t i - 1 - (aH t i - 1 - k):Nat):Int)),0,_⟩) (by unfold fY;exact List.mem_append_left _ (rel_mem.2 ⟨aH t i - 1 - k,by omega,rfl⟩)) hi;dsimp only at h
 rwa [show aH t i - 1 - (aH t i - 1 - k)=k by omega] at h
theorem qAV {n:Nat} (hn:i < n):dL t i+4∈vs ((List.range n).flatMap (rt t (lC t))):=wS (f:=lC t) hr (x:=⟨1,dL t i+4,0,qD t i r⟩) List.mem_cons_self hn
theorem zNT:(aF t i:Int)+0∈vs (kU t):=List.mem_map_of_mem (f:=Rung.var) (a:=⟨1,(aF t i:Int)+0,0,_⟩) (List.mem_flatMap.2 ⟨i,List.mem_range.2 (zQQ.1 hr).1,List.mem_singleton.2 rfl⟩)
end vmem
theorem v_lie {p:Nat} {el:Int} (hp:t.points[p]?=some el):(inN t:Int)+(p:Int)∈vs (oO t):=List.mem_map_of_mem (f:=Rung.var) (a:=⟨1,(inN t:Int)+(p:Int),0,qBU t p el⟩) (pt_mem.2 ⟨p,el,(zQQ.1 hp).1,hp,List.mem_singleton.2 rfl⟩)
theorem Rd.mono {W:List Bool} {A B A' B':List Int} (h:Rd t m I W A B) (hA:A'⊆A) (hB:B'⊆B):Rd t m I W A' B':=⟨λy hy=>h.new y (hA hy),λy hy=>h.old y (hB hy),h.inp⟩
theorem qCR {x:Rung} (h:x.kind=1) (v:Bool) (c:Int):(wP x v c).2=v:=by unfold wP;rw [if_neg (by omega)]
theorem at1 (S:ScanV t m I) {r:Route} (hr:t.routes[i]?=some r) {P Q:List Rung} {x:Rung} (hx:kL t i r=P++x :: Q):
  ∃ W,Rd t m I W (vs P) (vs (mF t)++vs (kP t)++vs (mX t)++vs (oO t)++vs (kU t))∧gV (gZ t m I) x.var=(wP x (evE W x.expr) (m.counts.getD (2 * i+P.length) 0)).2∧(qKN t m I)[2 * i+P.length]?=some (wP x (evE W x.expr) (m.counts.getD (2 * i+P.length) 0)).1:=by
 have hi:=(zQQ.1 hr).1;obtain⟨R,hR⟩:=nT (rt t (kL t)) hi;rw [qEO hr,hx] at hR
 have hA:((List.range i).flatMap (rt t (kL t))++P).length=2 * i+P.length:=by
  rw [zQL,qHO (f:=kL t) (c:=2) (λ_ _ _=>rfl) i (by omega)]
 obtain ⟨W, h1, h2, h3⟩ := yL S (A := (List.range i).flatMap (rt t (kL t)) ++ P) (x := x) (B := Q ++ R ++ mF t ++ kP t ++ mX t ++ oO t ++ kU t) (by
  unfold jM;rw [show jZ t = _ from hR]
  simp only [List.append_assoc, List.cons_append])
 rw [hA] at h2 h3;refine⟨W,h1.mono (λy hy=>?_) (λy hy=>?_),h2,h3⟩
 ·unfold vs at *; simp only [List.map_append,zQN] at *; grind
 unfold vs at *; simp only [List.map_append,List.map_cons,zQN,zQB] at *; grind
theorem at2 (S:ScanV t m I) {r:Route} (hr:t.routes[i]?=some r) {P Q:List Rung} {x:Rung} (hx:lV t i r=P++x :: Q) (hk:x.kind=1):
  ∃ W,Rd t m I W (vs (jZ t)++vs P) (vs (kP t)++vs (mX t)++vs (oO t)++vs (kU t))∧gV (gZ t m I) x.var=evE W x.expr:=by
 have hi:=(zQQ.1 hr).1;obtain⟨R,hR⟩:=nT (rt t (lV t)) hi;rw [qEO hr,hx] at hR
 obtain ⟨W, h1, h2, h3⟩ := yL S (A := jZ t ++ ((List.range i).flatMap (rt t (lV t)) ++ P)) (x := x) (B := Q ++ R ++ kP t ++ mX t ++ oO t ++ kU t) (by
  unfold jM;rw [show mF t = _ from hR]
  simp only [List.append_assoc, List.cons_append])
 rw [qCR hk] at h2;refine⟨W,h1.mono (λy hy=>?_) (λy hy=>?_),h2⟩
 ·unfold vs at *; simp only [List.map_append,zQN] at *; grind
 unfold vs at *; simp only [List.map_append,List.map_cons,zQN,zQB] at *; grind
theorem at3 (S:ScanV t m I) {r:Route} (hr:t.routes[i]?=some r) {P Q:List Rung} {x:Rung} (hx:fY t i r=P++x :: Q) (hk:x.kind=1):
  ∃ W,Rd t m I W (vs (jZ t)++vs (mF t)++vs P) (vs (x :: Q)++vs (mX t)++vs (oO t)++vs (kU t))∧gV (gZ t m I) x.var=evE W x.expr:=by
 have hi:=(zQQ.1 hr).1;obtain⟨R,hR⟩:=nT (rt t (fY t)) hi;rw [qEO hr,hx] at hR
 obtain ⟨W, h1, h2, h3⟩ := yL S (A := jZ t ++ mF t ++ ((List.range i).flatMap (rt t (fY t)) ++ P)) (x := x) (B := Q ++ R ++ mX t ++ oO t ++ kU t) (by
  unfold jM;rw [show kP t = _ from hR]
  simp only [List.append_assoc, List.cons_append])
 rw [qCR hk] at h2;refine⟨W,h1.mono (λy hy=>?_) (λy hy=>?_),h2⟩
 ·unfold vs at *; simp only [List.map_append,zQN] at *; grind
 unfold vs at *; simp only [List.map_append,List.map_cons,zQN,zQB] at *; grind
theorem at4 (S:ScanV t m I) {r:Route} (hr:t.routes[i]?=some r):
  ∃ W,Rd t m I W (vs (jZ t)++vs (mF t)++vs (kP t)++vs ((List.range i).flatMap (rt t (lC t)))) (vs (oO t)++vs (kU t))∧gV (gZ t m I) (dL t i+4)=evE W (qD t i r):=by
 have hi:=(zQQ.1 hr).1;obtain⟨R,hR⟩:=nT (rt t (lC t)) hi;rw [qEO hr] at hR
 obtain ⟨W, h1, h2, h3⟩ := yL S (A := jZ t ++ mF t ++ kP t ++ ((List.range i).flatMap (rt t (lC t)))) (x := ⟨1, dL t i + 4, 0, qD t i r⟩) (B := R ++ oO t ++ kU t) (by
  unfold jM;rw [show mX t = _ from hR];unfold lC
  simp only [List.append_assoc, List.cons_append, List.nil_append])
 rw [qCR rfl] at h2;refine⟨W,h1.mono (λy hy=>?_) (λy hy=>?_),h2⟩
 ·unfold vs at *; simp only [List.map_append,zQN] at *; grind
 unfold vs at *; simp only [List.map_append,List.map_cons,zQN,zQB] at *; grind
theorem at5 (S:ScanV t m I) {p:Nat} {el:Int} (hp:t.points[p]?=some el):
  ∃ W,Rd t m I W (vs (jZ t)++vs (mF t)++vs (kP t)++vs (mX t)) ([(inN t:Int)+(p:Int)]++vs (kU t))∧gV (gZ t m I) ((inN t:Int)+(p:Int))=evE W (qBU t p el):=by
 have hi:=(zQQ.1 hp).1;obtain⟨R,hR⟩:=nT (pt t (wC t)) hi;rw [qXC hp] at hR
 obtain ⟨W, h1, h2, h3⟩ := yL S (A := jZ t ++ mF t ++ kP t ++ mX t ++ ((List.range p).flatMap (pt t (wC t)))) (x := ⟨1, (inN t : Int) + (p : Int), 0, qBU t p el⟩) (B := R ++ kU t) (by
  unfold jM;rw [show oO t = _ from hR];unfold wC
  simp only [List.append_assoc, List.cons_append, List.nil_append])
 rw [qCR rfl] at h2;refine⟨W,h1.mono (λy hy=>?_) (λy hy=>?_),h2⟩
 ·unfold vs at *; simp only [List.map_append,zQN] at *; grind
 unfold vs at *; simp only [List.map_append,List.map_cons,zQN,zQB,List.not_mem_nil,or_false] at *; grind
theorem at6 (S:ScanV t m I) {r:Route} (hr:t.routes[i]?=some r):gV (gZ t m I) ((aF t i:Int)+0)=(gV (gZ t m I) (dL t i+0)||gV (gZ t m I) (dL t i+4)):=by
 have hi:=(zQQ.1 hr).1;obtain⟨R,hR⟩:=nT (qFO t) hi
 obtain ⟨W, h1, h2, h3⟩ := yL S (A := jZ t ++ mF t ++ kP t ++ mX t ++ oO t ++ ((List.range i).flatMap (qFO t))) (x := ⟨1, (aF t i : Int) + 0, 0, orE [auE t i 0, auE t i 4]⟩) (B := R) (by
  unfold jM;rw [show kU t = _ from hR];unfold qFO
  simp only [List.append_assoc, List.cons_append, List.nil_append])
 rw [qCR rfl] at h2;rw [h2,qQ];simp only [List.any_cons,List.any_nil,Bool.or_false,kT]
 rw [h1.new _ (by
  have := qHF hr (k := 0) (by omega) (by omega)
  unfold vs at *; simp only [List.map_append, zQN] at *; grind), h1.new _ (by
  have := qAV hr hi
  unfold mX vs at *; simp only [List.map_append, zQN] at *; grind)]
section eqs
variable (S:ScanV t m I) {r:Route} (hr:t.routes[i]?=some r)
include S hr
theorem zDX:gV (gZ t m I) ((aF t i:Int)+2)=gV (gZ t m I) (dL t i+1):=by
 obtain⟨W,h1,h2⟩:=at3 S hr (P:=mG t i r (aH t i)++[⟨1,(aF t i:Int)+1,0,lY t i r⟩]) (x:=⟨1,(aF t i:Int)+2,0,auE t i 1⟩) (Q:=[⟨1,(aF t i:Int)+3,0,auE t i 2⟩]) (by unfold fY;simp) rfl;rw [show (aF t i:Int)+2=(⟨1,(aF t i:Int)+2,0,auE t i 1⟩:Rung).var from rfl,h2,kT];exact h1.new _ (by have:=qHF hr (k:=1) (by omega) (by omega);simp only [zQN];grind)
theorem zDY:gV (gZ t m I) ((aF t i:Int)+3)=gV (gZ t m I) (dL t i+2):=by
 obtain⟨W,h1,h2⟩:=at3 S hr (P:=mG t i r (aH t i)++[⟨1,(aF t i:Int)+1,0,lY t i r⟩,⟨1,(aF t i:Int)+2,0,auE t i 1⟩]) (x:=⟨1,(aF t i:Int)+3,0,auE t i 2⟩) (Q:=[]) (by unfold fY;simp) rfl;rw [show (aF t i:Int)+3=(⟨1,(aF t i:Int)+3,0,auE t i 2⟩:Rung).var from rfl,h2,kT];exact h1.new _ (by have:=qHF hr (k:=2) (by omega) (by omega);simp only [zQN];grind)
theorem zCU:∃ W,Rd t m I W (vs (jZ t)++vs (mF t)) ([(aF t i:Int)+1]++vs (kU t))∧gV (gZ t m I) ((aF t i:Int)+1)=evE W (lY t i r):=by
 obtain⟨W,h1,h2⟩:=at3 S hr (P:=mG t i r (aH t i)) (x:=⟨1,(aF t i:Int)+1,0,lY t i r⟩) (Q:=[⟨1,(aF t i:Int)+2,0,auE t i 1⟩,⟨1,(aF t i:Int)+3,0,auE t i 2⟩]) (by unfold fY;simp) rfl;refine⟨W,h1.mono (λy hy=>?_) (λy hy=>?_),h2⟩
 ·simp only [zQN] at *; grind
 unfold vs at *; simp only [List.map_cons,zQN,zQB,List.not_mem_nil,or_false] at *; grind
theorem zIY:∃ W,Rd t m I W (vs (jZ t)) (vs (kP t)++vs (kU t))∧gV (gZ t m I) (dL t i+0)=evE W (xT t i r):=by
 obtain⟨W,h1,h2⟩:=at2 S hr (P:=[]) (x:=⟨1,dL t i+0,0,xT t i r⟩) (Q:=[⟨1,dL t i+1,0,qHG t i r⟩,⟨1,dL t i+2,0,xY t i r⟩,⟨1,dL t i+3,0,qKA t i r⟩]) rfl rfl;exact⟨W,h1.mono (λy hy=>by simp only [zQN] at *; grind) (λy hy=>by simp only [zQN] at *; grind),h2⟩
theorem rd_use:∃ W,Rd t m I W (vs (jZ t)) (vs (kP t)++vs (kU t))∧gV (gZ t m I) (dL t i+1)=evE W (qHG t i r):=by
 obtain⟨W,h1,h2⟩:=at2 S hr (P:=[⟨1,dL t i+0,0,xT t i r⟩]) (x:=⟨1,dL t i+1,0,qHG t i r⟩) (Q:=[⟨1,dL t i+2,0,xY t i r⟩,⟨1,dL t i+3,0,qKA t i r⟩]) rfl rfl;exact⟨W,h1.mono (λy hy=>by simp only [zQN] at *; grind) (λy hy=>by simp only [zQN] at *; grind),h2⟩
theorem zIZ:∃ W,Rd t m I W (vs (jZ t)) (vs (kP t)++vs (kU t))∧gV (gZ t m I) (dL t i+2)=evE W (xY t i r):=by
 obtain⟨W,h1,h2⟩:=at2 S hr (P:=[⟨1,dL t i+0,0,xT t i r⟩,⟨1,dL t i+1,0,qHG t i r⟩]) (x:=⟨1,dL t i+2,0,xY t i r⟩) (Q:=[⟨1,dL t i+3,0,qKA t i r⟩]) rfl rfl;exact⟨W,h1.mono (λy hy=>by simp only [zQN] at *; grind) (λy hy=>by simp only [zQN] at *; grind),h2⟩
theorem rd_act:∃ W,Rd t m I W (vs (jZ t)++[dL t i+0,dL t i+1,dL t i+2]) (vs (kP t)++vs (kU t))∧gV (gZ t m I) (dL t i+3)=evE W (qKA t i r):=by
 obtain⟨W,h1,h2⟩:=at2 S hr (P:=[⟨1,dL t i+0,0,xT t i r⟩,⟨1,dL t i+1,0,qHG t i r⟩,⟨1,dL t i+2,0,xY t i r⟩]) (x:=⟨1,dL t i+3,0,qKA t i r⟩) (Q:=[]) rfl rfl;exact⟨W,h1.mono (λy hy=>hy) (λy hy=>by simp only [zQN] at *; grind),h2⟩
end eqs
theorem zNM {r:Rung} {v:Bool} {c:Int} (h:qSZ r c=true):qSZ r (wP r v c).1=true:=by
 have h1:=of_decide_eq_true h;unfold wP;split
 ·split
  ·split
   ·exact decide_eq_true (by omega)
   exact h
  exact decide_eq_true (by omega)
 exact h
theorem qZG {p:Program} {m:Machine} (I:List Bool) (hf:rB p m=true) (hh:m.halted=false):rB p (qY p m I)=true∧(qY p m I).halted=false∧qY p m I=⟨oG (List.zip p.rungs m.counts) (inV p.inputs.toNat I m.vars),uW (List.zip p.rungs m.counts) (inV p.inputs.toNat I m.vars),false⟩:=by
 have hs:qY p m I=⟨oG (List.zip p.rungs m.counts) (inV p.inputs.toNat I m.vars),uW (List.zip p.rungs m.counts) (inV p.inputs.toNat I m.vars),false⟩:=by
  unfold qY;rw [if_neg (by rw [hf,hh];simp)]
 refine⟨?_,by rw [hs],hs⟩;rw [hs];unfold rB at hf ⊢;simp only [zQA,decide_eq_true_eq] at hf;obtain⟨⟨hz,hvl,hcl⟩,hcnt⟩:=hf;obtain⟨hn1,hn2,hn3,hn4,hn5⟩:=pB hz;dsimp only;have hzl:(List.zip p.rungs m.counts).length=p.rungs.length:=by rw [List.length_zip];omega
 rw [decide_eq_true ⟨hz,by rw [qBB,qGK (by omega),hvl],by rw [qCG,hzl]⟩,Bool.true_and,zQT];rw [zQT] at hcnt;intro x hx;obtain⟨k,hk⟩:=List.getElem?_of_mem hx;obtain⟨r,c⟩:=x;rw [List.getElem?_zip_eq_some] at hk;obtain⟨hk1,hk2⟩:=hk;dsimp only at hk1 hk2 ⊢;unfold uW at hk2;rw [List.getElem?_mapIdx] at hk2
 cases hz2:(List.zip p.rungs m.counts)[k]? with
 | none=>rw [hz2] at hk2;cases hk2
 | some y=>
  rw [hz2] at hk2;obtain⟨r',c'⟩:=y;have hm:=hcnt _ (zQM hz2);rw [List.getElem?_zip_eq_some] at hz2
  have:r'=r:=by
   have:=hz2.1;dsimp only at this;rw [hk1] at this;exact (Option.some.inj this).symm
  subst this;simp only [Option.map_some,Option.some.injEq] at hk2;subst hk2;exact zNM hm
theorem qQA {p:Program} (h:pU p=0):rB p (qR p)=true∧(qR p).halted=false:=by
 unfold qR;rw [if_pos h];refine⟨?_,rfl⟩;unfold rB;dsimp only;rw [decide_eq_true ⟨h,by simp,by simp⟩,Bool.true_and,zQT];intro x hx;obtain⟨r,c⟩:=x;have h1:=List.of_mem_zip hx;have h2:=List.eq_of_mem_replicate h1.2;subst h2;obtain⟨_,_,_,h4,_⟩:=pB h;have h5:=h4 r h1.1;unfold qI at h5;simp only [zQA,Bool.or_eq_true,decide_eq_true_eq] at h5;dsimp only;unfold qSZ;exact decide_eq_true (by omega)
variable {t:Table} {i:Nat} {m:Machine} {I:List Bool}
structure MOk (t:Table) (m:Machine):Prop where
 fits:rB (wN t) m=true
 run:m.halted=false
theorem MOk.lens (hC:COk t) (h:MOk t m):m.vars.length=dU t∧m.counts.length=dU t - inN t:=by
 have hf:=h.fits;unfold rB at hf;simp only [zQA,decide_eq_true_eq] at hf;rw [vQ hC] at hf;rw [uK hC] at hf;exact⟨hf.1.2.1,hf.1.2.2⟩
theorem MOk.scanV (hC:COk t) (ht:t.Wf) (ha:dU t≤2000) (h:MOk t m) (I:List Bool):ScanV t m I:=⟨hC,ht,ha,(h.lens hC).1,(h.lens hC).2⟩
theorem MOk.fitsN (hC:COk t) (ha:dU t≤2000) (h:MOk t m):fitsN t m=true:=decide_eq_true ⟨ha,h.lens hC⟩
theorem MOk.scan (hC:COk t) (h:MOk t m) (I:List Bool):MOk t (qY (wN t) m I)∧qY (wN t) m I=⟨gZ t m I,qKN t m I,false⟩:=by
 have:=qZG I h.fits h.run;exact⟨⟨this.1,this.2.1⟩,this.2.2⟩
theorem qYY (hC:COk t) (ht:t.Wf) (ha:dU t≤2000):MOk t (qR (wN t)):=by
 have:=qQA (qLI hC ht ha);exact⟨this.1,this.2⟩
theorem zDB (hC:COk t) (ht:t.Wf) (ha:dU t≤2000) (m:Machine) (I:List Bool) (hv:m.vars.length≤1000000000) (hc:m.counts.length≤1000000000):qJ (wN t) m I=some (qY (wN t) m I):=
 zDN (zDC hC ht ha) m I (λr hr=>by have:=(qHL hC ht r hr).2;unfold kN;omega) hv hc
def zJ (t:Table) (l:List Inputs):Machine:=l.foldl (λm p=>qY (wN t) m (bF t p)) (qR (wN t))
theorem zAG (l:List Inputs) {k:Nat} {p:Inputs} (h:l[k]?=some p):zJ t (l.take (k+1))=qY (wN t) (zJ t (l.take k)) (bF t p):=by
 unfold zJ;rw [List.take_add_one,h,List.foldl_append];rfl
section zOM
variable (S:ScanV t m []) {r:Route} (hr:t.routes[i]?=some r)
include S
theorem zOM {y:Nat} (hy:y < inN t):gV (qAJ t m []) (y:Int)=false:=by rw [qVB S hy];rfl
include hr
end zOM
end Go.Proofs.YtcagmechagiclaaGreatDoor
