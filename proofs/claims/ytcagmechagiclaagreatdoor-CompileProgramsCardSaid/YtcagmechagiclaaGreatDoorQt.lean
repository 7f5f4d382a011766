/- Texts of this proof, joined, without what it does not use. No condition. -/
import Derived.Test.YtcagmechagiclaaGreatDoorQs

set_option linter.unusedVariables false
set_option linter.unusedSimpArgs false
set_option maxHeartbeats 400000
set_option maxRecDepth 100000
namespace Go.Proofs.YtcagmechagiclaaGreatDoor
open Go Go.TL

variable {t:Table} {b:List Rung} {i:Nat}

theorem rt_mem {α:Type} {f:Nat→Route→List α} {x:α} {n:Nat}:x∈(List.range n).flatMap (rt t f)↔∃ i r,i < n∧t.routes[i]?=some r∧x∈f i r:=by
 rw [List.mem_flatMap]
 constructor
 ·rintro⟨i,hi,hx⟩
  unfold rt at hx
  cases hr:t.routes[i]? with
  | none=>rw [hr] at hx;cases hx
  | some r=>rw [hr] at hx;exact⟨i,r,List.mem_range.1 hi,hr,hx⟩
 ·rintro⟨i,r,hi,hr,hx⟩
  exact⟨i,List.mem_range.2 hi,by rw [qAI hr];exact hx⟩
theorem pt_mem {α:Type} {f:Nat→Int→List α} {x:α} {n:Nat}:x∈(List.range n).flatMap (pt t f)↔∃ i r,i < n∧t.points[i]?=some r∧x∈f i r:=by
 rw [List.mem_flatMap]
 constructor
 ·rintro⟨i,hi,hx⟩
  unfold pt at hx
  cases hr:t.points[i]? with
  | none=>rw [hr] at hx;cases hx
  | some r=>rw [hr] at hx;exact⟨i,r,List.mem_range.1 hi,hr,hx⟩
 ·rintro⟨i,r,hi,hr,hx⟩
  exact⟨i,List.mem_range.2 hi,by rw [qNR hr];exact hx⟩
theorem rel_mem {r:Route} {n:Nat} {x:Rung}:x∈pX t i r n↔∃ j,j < n∧x=⟨1,(bK t i:Int)+(4+((aM t i - 1 - j:Nat):Int)),0,qLM t i r (aM t i - 1 - j)⟩:=by
 unfold pX
 rw [List.mem_map]
 constructor
 ·rintro⟨j,hj,rfl⟩;exact⟨j,List.mem_range.1 hj,rfl⟩
 ·rintro⟨j,hj,rfl⟩;exact⟨j,List.mem_range.2 hj,rfl⟩

theorem kT {n inp v:Int} {e:Expr} {d s:Nat} (h0:inp≤v) (h1:v < n) (h:Nice n d s e) (hd:d≤12) (hs:s≤20000):rO n inp ⟨1,v,0,e⟩=true:=by
 unfold rO
 dsimp only
 rw [h.val hd hs,decide_eq_true (⟨h0,h1⟩:inp≤v∧v < n)]
 rfl
theorem qCF {n inp v p:Int} {e:Expr} {d s:Nat} (h0:inp≤v) (h1:v < n) (hp:1≤p) (hp1:p≤1000) (h:Nice n d s e) (hd:d≤12) (hs:s≤20000):rO n inp ⟨2,v,p,e⟩=true:=by
 unfold rO
 dsimp only
 rw [h.val hd hs,decide_eq_true (⟨h0,h1⟩:inp≤v∧v < n),decide_eq_true (show (2:Int)=2∧1≤p∧p≤1073741824 by omega)]
 rfl
theorem sT (hC:COk t) (hi:i < t.routes.length) {k:Int} (h0:0≤k) (h1:k≤5+(aM t i:Int)):(inN t:Int)≤(bK t i:Int)+k∧(bK t i:Int)+k < (gB t:Int):=by
 have h:=qQY hC hi h0 h1
 have ha:=qBY t
 omega
theorem qCP (hi:i < t.routes.length) {k:Int} (h0:0≤k) (h1:k≤4):(inN t:Int)≤iZ t i+k∧iZ t i+k < (gB t:Int):=by
 have ha:=qBY t
 have:=mZ t
 unfold iZ
 omega

theorem qAG (hC:COk t) {r:Route} (hr:t.routes[i]?=some r):Nice (gB t:Int) 9 900 (fM [vE ((bK t i:Int)+3),vE (oN t i+0),sC t i r]):=by
 have hi:=(List.getElem?_eq_some_iff.1 hr).1
 exact (fB (d:=3) (cG ((mH hC hi (by omega) (by omega)).mono (by omega) (Nat.le_refl _)) (cG ((uO hC hi (by omega) (by omega)).mono (by omega) (Nat.le_refl _)) (eE (qMG hC hr)))) (by omega)).mono (by omega) (by omega)
theorem qAF (hC:COk t) {r:Route} (hr:t.routes[i]?=some r):Nice (gB t:Int) 9 900 (fM [vE ((bK t i:Int)+2),vE (oN t i+0),atE t i,fR (eN (oW t i r))]):=by
 have hi:=(List.getElem?_eq_some_iff.1 hr).1
 have hl:=qNX hC hr
 exact (fB (d:=2) (cG ((mH hC hi (by omega) (by omega)).mono (by omega) (Nat.le_refl _)) (cG ((uO hC hi (by omega) (by omega)).mono (by omega) (Nat.le_refl _)) (cG ((n_at hC hr).mono (by omega) (Nat.le_refl _)) (eE (fY (oS hC hl.1 hl.2)))))) (by omega)).mono (by omega) (by omega)

theorem qAH (hC:COk t) (ht:t.Wf):∀ x∈mG t,rO (gB t:Int) (inN t:Int) x=true:=by
 intro x hx
 have hlm:=hC.lim
 have hN:=mZ t
 unfold mG at hx
 simp only [List.mem_append] at hx
 rcases hx with ((((hx|hx)|hx)|hx)|hx)|hx
 ·obtain⟨i,r,hi,hr,hx⟩:=rt_mem.1 hx
  unfold nW at hx
  simp only [List.mem_cons,List.not_mem_nil,or_false] at hx
  rcases hx with rfl|rfl
  ·have hb := sT hC hi (k := 4 + (aM t i : Int)) (by omega) (by omega)
   exact qCF hb.1 hb.2 (by omega) (by omega) (qAG hC hr) (by omega) (by omega)
  ·have hb := sT hC hi (k := 4 + (aM t i : Int) + 1) (by omega) (by omega)
   exact qCF (by omega) (by omega) (by omega) (by omega) (qAF hC hr) (by omega) (by omega)
 ·obtain⟨i,r,hi,hr,hx⟩:=rt_mem.1 hx
  unfold qU at hx
  simp only [List.mem_cons,List.not_mem_nil,or_false] at hx
  rcases hx with rfl|rfl|rfl|rfl
  ·have hb := qCP (t := t) hi (k := 0) (by omega) (by omega)
   exact kT hb.1 hb.2 (qSS hC hr) (by omega) (by omega)
  ·have hb := qCP (t := t) hi (k := 1) (by omega) (by omega)
   exact kT hb.1 hb.2 (zBP hC hr) (by omega) (by omega)
  ·have hb := qCP (t := t) hi (k := 2) (by omega) (by omega)
   exact kT hb.1 hb.2 (qST hC hr) (by omega) (by omega)
  ·have hb := qCP (t := t) hi (k := 3) (by omega) (by omega)
   exact kT hb.1 hb.2 (zBS hC hr) (by omega) (by omega)
 ·obtain⟨i,r,hi,hr,hx⟩:=rt_mem.1 hx
  unfold mF at hx
  simp only [List.mem_append,List.mem_cons,List.not_mem_nil,or_false] at hx
  rcases hx with hx|rfl|rfl|rfl
  ·obtain⟨j,hj,rfl⟩:=rel_mem.1 hx
   have hb:=sT hC hi (k:=4+((aM t i - 1 - j:Nat):Int)) (by omega) (by omega)
   exact kT hb.1 hb.2 (qSQ hC hr (by omega)) (by omega) (by omega)
  ·have hb := sT hC hi (k := 1) (by omega) (by omega)
   exact kT hb.1 hb.2 (qDC hC hr) (by omega) (by omega)
  ·have hb := sT hC hi (k := 2) (by omega) (by omega)
   exact kT hb.1 hb.2 (nE hC hi (by omega) (by omega)) (by omega) (by omega)
  ·have hb := sT hC hi (k := 3) (by omega) (by omega)
   exact kT hb.1 hb.2 (nE hC hi (by omega) (by omega)) (by omega) (by omega)
 ·obtain⟨i,r,hi,hr,hx⟩:=rt_mem.1 hx
  unfold oD at hx
  simp only [List.mem_cons,List.not_mem_nil,or_false] at hx
  subst hx
  have hb:=qCP (t:=t) hi (k:=4) (by omega) (by omega)
  exact kT hb.1 hb.2 (qJF hC ht hr) (by omega) (by omega)
 ·obtain⟨i,r,hi,hr,hx⟩:=pt_mem.1 hx
  unfold wT at hx
  simp only [List.mem_cons,List.not_mem_nil,or_false] at hx
  subst hx
  exact kT (by omega) (by omega) (qSR hC hr) (by omega) (by omega)
 ·rw [show qR t=(List.range t.routes.length).flatMap (wB t) from rfl,List.mem_flatMap] at hx
  obtain⟨i,hi,hx⟩:=hx
  have hi:=List.mem_range.1 hi
  unfold wB at hx
  simp only [List.mem_cons,List.not_mem_nil,or_false] at hx
  subst hx
  have hb:=sT hC hi (k:=0) (by omega) (by omega)
  exact kT hb.1 hb.2 (iJ (cG (nE hC hi (by omega) (by omega)) (eE (nE hC hi (by omega) (by omega)))) (by omega)) (by omega) (by omega)

theorem qRP {n inp:Int} {x:Rung} (h:rO n inp x=true):qQX n x.expr=true:=by
 unfold rO at h
 simp only [Bool.and_eq_true] at h
 exact h.2.2

theorem qLF (hC:COk t) (ht:t.Wf):∀ x∈mG t,okE x.expr∧dpE x.expr≤12:=by
 intro x hx
 refine ⟨?_, by
  have := of_decide_eq_true (qRP (qAH hC ht x hx))
  have := this.2.1
  omega⟩
 unfold mG at hx
 simp only [List.mem_append] at hx
 rcases hx with ((((hx|hx)|hx)|hx)|hx)|hx
 ·obtain⟨i,r,hi,hr,hx⟩:=rt_mem.1 hx
  unfold nW at hx
  simp only [List.mem_cons,List.not_mem_nil,or_false] at hx
  rcases hx with rfl|rfl
  ·exact (qAG hC hr).2.2.2
  ·exact (qAF hC hr).2.2.2
 ·obtain⟨i,r,hi,hr,hx⟩:=rt_mem.1 hx
  unfold qU at hx
  simp only [List.mem_cons,List.not_mem_nil,or_false] at hx
  rcases hx with rfl|rfl|rfl|rfl
  ·exact (qSS hC hr).2.2.2
  ·exact (zBP hC hr).2.2.2
  ·exact (qST hC hr).2.2.2
  ·exact (zBS hC hr).2.2.2
 ·obtain⟨i,r,hi,hr,hx⟩:=rt_mem.1 hx
  unfold mF at hx
  simp only [List.mem_append,List.mem_cons,List.not_mem_nil,or_false] at hx
  rcases hx with hx|rfl|rfl|rfl
  ·obtain⟨j,hj,rfl⟩:=rel_mem.1 hx
   exact (qSQ hC hr (by omega)).2.2.2
  ·exact (qDC hC hr).2.2.2
  ·exact (nE hC hi (by omega) (by omega)).2.2.2
  ·exact (nE hC hi (by omega) (by omega)).2.2.2
 ·obtain⟨i,r,hi,hr,hx⟩:=rt_mem.1 hx
  unfold oD at hx
  simp only [List.mem_cons,List.not_mem_nil,or_false] at hx
  subst hx
  exact (qJF hC ht hr).2.2.2
 ·obtain⟨i,r,hi,hr,hx⟩:=pt_mem.1 hx
  unfold wT at hx
  simp only [List.mem_cons,List.not_mem_nil,or_false] at hx
  subst hx
  exact (qSR hC hr).2.2.2
 ·rw [show qR t=(List.range t.routes.length).flatMap (wB t) from rfl,List.mem_flatMap] at hx
  obtain⟨i,hi,hx⟩:=hx
  have hi:=List.mem_range.1 hi
  unfold wB at hx
  simp only [List.mem_cons,List.not_mem_nil,or_false] at hx
  subst hx
  exact (iJ (cG (nE hC hi (k:=0) (by omega) (by omega)) (eE (nE hC hi (k:=4) (by omega) (by omega)))) (by omega)).2.2.2

/-! ### Each variable is set once -/

theorem qFK (hC:COk t):∀ n,n≤t.routes.length→inN t+t.points.length+3 * n+((List.range n).flatMap (rt t (mF t))).length=bK t n
 | 0,_=>by rw [mL];simp
 | n+1,h=>by
  have hr:=List.getElem?_eq_getElem (show n < t.routes.length by omega)
  have h1:=qFK hC n (by omega)
  have hsec:=hC.secs (List.getElem_mem (show n < t.routes.length by omega))
  have hln:aM t n=t.routes[n].sections.length - 1:=by unfold aM;rw [hr]
  have hw:qAU t.routes[n]=5+t.routes[n].sections.length:=rfl
  rw [iU,List.length_append,lD hr,qAI hr,xA]
  omega
theorem xC {α:Type} {f:Nat→Route→List α} {c:Nat} (hf:∀ i r,t.routes[i]?=some r→(f i r).length=c):∀ n,n≤t.routes.length→((List.range n).flatMap (rt t f)).length=c * n
 | 0,_=>by simp
 | n+1,h=>by
  have hr:=List.getElem?_eq_getElem (show n < t.routes.length by omega)
  rw [iU,List.length_append,xC hf n (by omega),qAI hr,hf n _ hr,Nat.mul_add,Nat.mul_one]
theorem qLV {α:Type} {f:Nat→Int→List α} {c:Nat} (hf:∀ i r,t.points[i]?=some r→(f i r).length=c):∀ n,n≤t.points.length→((List.range n).flatMap (pt t f)).length=c * n
 | 0,_=>by simp
 | n+1,h=>by
  have hr:=List.getElem?_eq_getElem (show n < t.points.length by omega)
  rw [iU,List.length_append,qLV hf n (by omega),qNR hr,hf n _ hr,Nat.mul_add,Nat.mul_one]
theorem qFL:(oV t).length=2 * t.routes.length:=xC (f:=nW t) (c:=2) (fun _ _ _=>rfl) _ (Nat.le_refl _)
theorem yY (hC:COk t):(mG t).length=gB t - inN t:=by
 have h1:=qFL (t:=t)
 have h2:(tH t).length=4 * t.routes.length:=xC (f:=qU t) (c:=4) (fun _ _ _=>rfl) _ (Nat.le_refl _)
 have h3:=qFK hC t.routes.length (Nat.le_refl _)
 have h4:(wK t).length=1 * t.routes.length:=xC (f:=oD t) (c:=1) (fun _ _ _=>rfl) _ (Nat.le_refl _)
 have h5:(xS t).length=1 * t.points.length:=qLV (f:=wT t) (c:=1) (fun _ _ _=>rfl) _ (Nat.le_refl _)
 have h6:(qR t).length=1 * t.routes.length:=fH (f:=wB t) (c:=1) (fun _=>rfl) _
 have ha:=qBY t
 have he:fC t=bK t t.routes.length:=rfl
 unfold mG
 simp only [List.length_append]
 unfold uC
 omega
theorem qGC {j:Nat}:∀ n,bK t 0≤j→j < bK t n→∃ i,i < n∧bK t i≤j∧j < bK t (i+1)
 | 0,h0,h1=>by omega
 | n+1,h0,h1=>by
  by_cases h:j < bK t n
  ·obtain⟨i,hi,h2⟩:=qGC n h0 h
   exact⟨i,by omega,h2⟩
  ·exact⟨n,by omega,by omega,h1⟩
theorem qKY (hC:COk t) {j:Nat} (h0:inN t≤j) (h1:j < gB t):(j:Int)∈(mG t).map (·.var):=by
 have ha:=qBY t
 rw [List.mem_map]
 unfold mG
 by_cases hp:j < inN t+t.points.length
 ·have hr := List.getElem?_eq_getElem (show j - inN t < t.points.length by omega)
  refine⟨⟨1,(inN t:Int)+((j - inN t:Nat):Int),0,qJK t (j - inN t) (t.points[j - inN t]'(by omega))⟩,?_,by show (inN t:Int)+((j - inN t:Nat):Int)=(j:Int);omega⟩
  simp only [List.mem_append]
  exact .inl (.inr (pt_mem.2 ⟨j - inN t,_,by omega,hr,by simp [wT]⟩))
 by_cases hx:j < fC t
 ·obtain ⟨i, hi, hb1, hb2⟩ := qGC (t := t) (j := j) t.routes.length (by rw [mL]; omega) hx
  have hr:=List.getElem?_eq_getElem hi
  have hsec:=hC.secs (List.getElem_mem hi)
  have hln:aM t i=t.routes[i].sections.length - 1:=by unfold aM;rw [hr]
  have hw:qAU t.routes[i]=5+t.routes[i].sections.length:=rfl
  rw [lD hr] at hb2
  generalize t.routes[i]=r at hr hsec hln hw hb2
  by_cases o0:j=bK t i
  ·refine⟨⟨1,(bK t i:Int)+0,0,_⟩,List.mem_append_right _ (List.mem_flatMap.2 ⟨i,List.mem_range.2 hi,List.mem_singleton.2 rfl⟩),by show (bK t i:Int)+0=(j:Int);omega⟩
  by_cases o3:j < bK t i+4
  ·have h3:∀ x∈mF t i r,x∈((((oV t++tH t)++uC t)++wK t)++xS t)++qR t:=fun x hx=>by
    simp only [List.mem_append]
    exact .inl (.inl (.inl (.inr (rt_mem.2 ⟨i,r,hi,hr,hx⟩))))
   rcases (by omega:j=bK t i+1∨j=bK t i+2∨j=bK t i+3) with h|h|h
   ·exact⟨⟨1,(bK t i:Int)+1,0,tD t i r⟩,h3 _ (by simp [mF]),by show (bK t i:Int)+1=(j:Int);omega⟩
   ·exact⟨⟨1,(bK t i:Int)+2,0,auE t i 1⟩,h3 _ (by simp [mF]),by show (bK t i:Int)+2=(j:Int);omega⟩
   ·exact⟨⟨1,(bK t i:Int)+3,0,auE t i 2⟩,h3 _ (by simp [mF]),by show (bK t i:Int)+3=(j:Int);omega⟩
  by_cases o4:j < bK t i+4+aM t i
  ·obtain⟨k,hk⟩:∃ k:Nat,k=aM t i - 1 - (j - bK t i - 4):=⟨_,rfl⟩
   refine⟨⟨1,(bK t i:Int)+(4+((aM t i - 1 - k:Nat):Int)),0,qLM t i r (aM t i - 1 - k)⟩,?_,?_⟩
   ·simp only [List.mem_append]
    exact .inl (.inl (.inl (.inr (rt_mem.2 ⟨i, r, hi, hr, by
     unfold mF
     exact List.mem_append_left _ (rel_mem.2 ⟨k, by omega, rfl⟩)⟩))))
   ·show (bK t i:Int)+(4+((aM t i - 1 - k:Nat):Int))=(j:Int)
    omega
  ·have h1:∀ x∈nW t i r,x∈((((oV t++tH t)++uC t)++wK t)++xS t)++qR t:=fun x hx=>by
    simp only [List.mem_append]
    exact .inl (.inl (.inl (.inl (.inl (rt_mem.2 ⟨i,r,hi,hr,hx⟩)))))
   rcases (by omega:j=bK t i+4+aM t i∨j=bK t i+4+aM t i+1) with h|h
   ·exact⟨_,h1 _ (List.mem_cons_self),by show (bK t i:Int)+(4+(aM t i:Int))=(j:Int);omega⟩
   ·exact⟨_,h1 _ (List.mem_cons_of_mem _ List.mem_cons_self),by show (bK t i:Int)+(4+(aM t i:Int))+1=(j:Int);omega⟩
 ·obtain⟨i,hi⟩:∃ i,i=(j - fC t) / 5:=⟨_,rfl⟩
  have hil:i < t.routes.length:=by omega
  have hr:=List.getElem?_eq_getElem hil
  have h2:∀ x∈qU t i t.routes[i],x∈((((oV t++tH t)++uC t)++wK t)++xS t)++qR t:=fun x hx=>by
   simp only [List.mem_append]
   exact .inl (.inl (.inl (.inl (.inr (rt_mem.2 ⟨i,_,hil,hr,hx⟩)))))
  have h4:∀ x∈oD t i t.routes[i],x∈((((oV t++tH t)++uC t)++wK t)++xS t)++qR t:=fun x hx=>by
   simp only [List.mem_append]
   exact .inl (.inl (.inr (rt_mem.2 ⟨i,_,hil,hr,hx⟩)))
  have hav:iZ t i=(fC t:Int)+5 * (i:Int):=rfl
  rcases (by omega:j=fC t+5 * i∨j=fC t+5 * i+1∨j=fC t+5 * i+2∨j=fC t+5 * i+3∨j=fC t+5 * i+4) with h|h|h|h|h
  ·exact⟨⟨1,iZ t i+0,0,qJQ t i t.routes[i]⟩,h2 _ (by simp [qU]),by show iZ t i+0=(j:Int);omega⟩
  ·exact⟨⟨1,iZ t i+1,0,qWI t i t.routes[i]⟩,h2 _ (by simp [qU]),by show iZ t i+1=(j:Int);omega⟩
  ·exact⟨⟨1,iZ t i+2,0,qOF t i t.routes[i]⟩,h2 _ (by simp [qU]),by show iZ t i+2=(j:Int);omega⟩
  ·exact⟨⟨1,iZ t i+3,0,zBE t i t.routes[i]⟩,h2 _ (by simp [qU]),by show iZ t i+3=(j:Int);omega⟩
  ·exact⟨⟨1,iZ t i+4,0,vU t i t.routes[i]⟩,h4 _ (by simp [oD]),by show iZ t i+4=(j:Int);omega⟩

theorem qKX (hC:COk t):((mG t).map (·.var)).Nodup:=by
 have hin:=mZ t
 obtain⟨L,hL⟩:∃ L:List Int,L=(List.range (gB t - inN t)).map fun k=>((inN t+k:Nat):Int):=⟨_,rfl⟩
 have hn:L.Nodup:=by
  rw [hL,pK]
  intro a c hac hc he
  rw [List.length_map,List.length_range] at hc
  rw [List.getElem?_map,List.getElem?_map,List.getElem?_range (by omega),List.getElem?_range (by omega)] at he
  simp only [Option.map_some,Option.some.injEq] at he
  omega
 have hs:L⊆(mG t).map (·.var):=by
  intro x hx
  rw [hL] at hx
  obtain⟨k,hk,rfl⟩:=List.mem_map.1 hx
  rw [List.mem_range] at hk
  exact qKY hC (by omega) (by omega)
 exact uL _ L hn hs (by
  rw [List.length_map, yY hC, hL, List.length_map, List.length_range]
  exact Nat.le_refl _)

theorem prg_ok (hC:COk t) (ht:t.Wf) (ha:gB t≤2000):POk (prgT t):=
 ⟨by show (mG t).length≤_;rw [yY hC];omega,by show (rF t).length≤_;rw [xG hC];omega,fun x hx=>(qLF hC ht x hx).1⟩
theorem qPN (hC:COk t) (ht:t.Wf) (ha:gB t≤2000):qHW (prgT t)=0:=by
 have hin:=mZ t
 unfold qHW
 dsimp only
 rw [xG hC,if_neg (by omega),if_neg (by omega),if_neg ?_,if_pos (qKX hC)]
 rw [List.all_eq_true.2 (qAH hC ht)]
 simp

/-! ### The beginning -/

end Go.Proofs.YtcagmechagiclaaGreatDoor

set_option linter.unusedVariables false
set_option linter.unusedSimpArgs false
set_option maxHeartbeats 400000
set_option maxRecDepth 100000
namespace Go.Proofs.YtcagmechagiclaaGreatDoor
open Go Go.TL

variable {t:Table} {b:List Rung} {i:Nat}

abbrev plT (t:Table):Places:=⟨2 * t.sections,2 * t.sections+2 * (t.points.length:Int),(inN t:Int),(fC t:Int),(gB t:Int),lP t t.routes.length⟩
abbrev rcp (t:Table) (b:List Rung):Compiler:=⟨t,plT t,b⟩

theorem uI (x:Int):dY x=some (vE x):=rfl
theorem kN (l:List Expr):dN l=some (fM l):=rfl
theorem uK (l:List Expr):fP l=some (orE l):=rfl
theorem mP (e:Expr):dR e=some (fR e):=rfl
theorem zI (hC:COk t) (hi:i < t.routes.length):dU (rcp t b) (i:Int)=some (aM t i:Int)∧aM t i≤200:=by
 have hr:=List.getElem?_eq_getElem hi
 have hsec:=hC.secs (List.getElem_mem hi)
 have hln:aM t i=t.routes[i].sections.length - 1:=by unfold aM;rw [hr]
 refine⟨?_,by omega⟩
 unfold dU
 dsimp only
 rw [aN hr,aB (by unfold I64;omega),hln,show ((t.routes[i].sections.length:Int) - 1)=((t.routes[i].sections.length - 1:Nat):Int) by omega]
theorem oO {s:Int} (h0:0≤s) (h1:s≤1000):bU (rcp t b) s=some (eN s):=by
 unfold bU
 rw [aB (by unfold I64;omega),uI,aA]
theorem sU (hC:COk t) (hi:i < t.routes.length) {k:Int} (h0:0≤k) (h1:k≤1000):aR (rcp t b) (i:Int) k=some (stE t i k):=by
 have:=hC.base i
 unfold aR
 dsimp only
 rw [aN (vV hi),aB (by unfold I64;omega),uI,aA]
theorem vH (hC:COk t) (hi:i < t.routes.length) {k:Int} (h0:0≤k) (h1:k≤1000):cF (rcp t b) (i:Int) k=some (asE t i k):=by
 have hlm:=hC.lim
 unfold cF
 dsimp only
 rw [aB (by unfold I64;omega),aB (by unfold I64;omega),aB (by unfold I64;omega),uI,aA]
 rfl
theorem qIW (hC:COk t) (hi:i < t.routes.length) {k:Int} (h0:0≤k) (h1:k≤900):dG (rcp t b) (i:Int) k=some (kK t i k):=by
 have:=hC.base i
 unfold dG
 dsimp only
 rw [aN (vV hi),aB (by unfold I64;omega),aB (by unfold I64;omega),uI,aA,Int.add_assoc]
theorem tL (hC:COk t) (hi:i < t.routes.length) {k:Int} (h0:0≤k) (h1:k≤10):aX (rcp t b) (i:Int) k=some (auE t i k):=by
 have hlm:=hC.lim
 have:fC t≤30000:=hC.base t.routes.length
 unfold aX
 dsimp only
 rw [aB (by unfold I64;omega),aB (by unfold I64;omega),aB (by unfold I64;omega),uI,aA]
 rfl
theorem qBG (hC:COk t) (hi:i < t.routes.length) {k:Int} (h0:0≤k) (h1:k≤10):dM (rcp t b) (i:Int) k=some (vE ((bK t i:Int)+4+(aM t i:Int)+k)):=by
 have:=hC.base i
 have hl:=zI (b:=b) hC hi
 unfold dM
 dsimp only
 rw [aN (vV hi),aB (by unfold I64;omega),hl.1,aA,aB (by unfold I64;omega),aB (by unfold I64;omega),uI,aA]
theorem uJ {x:Int} {e:Expr} (hb:b.length≤100000):cL (rcp t b) (vE x) e=some (rcp t (b++[⟨1,x,0,e⟩])):=by
 unfold cL
 dsimp only
 rw [aB (by simp;omega)]

/-- A list that grows by one a round, for the first so many. -/
theorem qFO {β ρ:Type} (n:Nat) (f:Nat→β) (pre:List β) {F:Int×List β→Option ((Int×List β) ⊕ ρ)} {o:ρ} (hn:n≤9223372036854775807) (hF:∀ (i:Nat) (B:List β),i < n→B.length=pre.length+i→F ((i:Int),B)=some (.inl ((i:Int)+1,B++[f i])))
  (he:F ((n:Int),pre++(List.range n).map f)=some (.inr o)):bE F (0,pre)=some o:=by
 refine kY n (fun i=>pre++(List.range i).map f) (by simp) hn (fun i hi=>?_) he
 rw [hF i _ hi (by simp),qDF,List.append_assoc]

theorem qQH {r:Route} (hr:t.routes[i]?=some r) (hs:0 < r.sections.length):(r.sections.mapIdx fun x s=>if x < aM t i then orE [kK t i (x:Int),eN s] else eN s)=(List.range (aM t i)).map (fun (k:Nat)=>orE [kK t i (k:Int),eN (wC r k)])++[eN (oW t i r)]:=by
 have hln:aM t i=r.sections.length - 1:=by unfold aM;rw [hr]
 apply List.ext_getElem?
 intro k
 rw [List.getElem?_mapIdx]
 by_cases hk:k < aM t i
 ·rw [List.getElem?_append_left (by simpa using hk), List.getElem?_map, List.getElem?_range hk, List.getElem?_eq_getElem (show k < r.sections.length by omega)]
  simp only [Option.map_some]
  rw [if_pos hk]
  unfold wC
  rw [List.getD_eq_getElem?_getD,List.getElem?_eq_getElem (show k < r.sections.length by omega)]
  rfl
 ·rw [List.getElem?_append_right (by simpa using hk)]
  simp only [List.length_map,List.length_range]
  by_cases he:k=aM t i
  ·subst he
   rw [Nat.sub_self,List.getElem?_eq_getElem (show aM t i < r.sections.length by omega)]
   simp only [Option.map_some,List.getElem?_cons_zero]
   rw [if_neg (by omega)]
   unfold oW
   rw [List.getD_eq_getElem?_getD,List.getElem?_eq_getElem (show aM t i < r.sections.length by omega)]
   rfl
  ·rw [List.getElem?_eq_none (show r.sections.length ≤ k by omega), List.getElem?_eq_none (by simp; omega)]
   rfl

theorem qRZ (hC:COk t) {r:Route} (hr:t.routes[i]?=some r):fE (rcp t b) (i:Int)=some (sC t i r):=by
 have hi:=(List.getElem?_eq_some_iff.1 hr).1
 have hm:=List.mem_of_getElem? hr
 have hlm:=hC.lim
 have hsec:=hC.secs hm
 have hln:aM t i=r.sections.length - 1:=by unfold aM;rw [hr]
 have hs:=vL hC hr
 have hll:((r.sections.length:Int) - 1)=(aM t i:Int):=by omega
 unfold fE
 dsimp only
 rw [aN hr,qFO (aM t i) (fun (k:Nat)=>orE [kK t i (k:Int),eN (wC r k)]) [] (by omega) (fun k B hk hB=>?_) (by dsimp only;rw [aB (by unfold I64;omega),if_neg (by omega)];rfl),aA]
 ·rw [aB (by unfold I64; omega), hll, aN hs.1, oO hs.2.1 (by omega), aA, aB (by simp; omega), kN, aA]
  unfold sC
  rw [qQH hr hsec.1,List.nil_append]
 ·have hk1 := qX hC hm (k := k) (by omega)
  simp only [List.length_nil,Nat.zero_add] at hB
  dsimp only
  rw [aB (by unfold I64;omega),if_pos (by omega),qIW hC hi (by omega) (by omega),aA,aN hk1.1,oO hk1.2.1 (by omega),aA,uK,aA,aB (by simp;omega),aB (by unfold I64;omega)]

/-- Rel is k. -/
def atX (t:Table) (i k:Nat):Expr:=fM ((if 0 < k then [kK t i ((k:Int) - 1)] else [])++if k < aM t i then [fR (kK t i (k:Int))] else [])
theorem qWU (hC:COk t) (hi:i < t.routes.length) {k:Nat} (hk:k≤500):fJ (rcp t b) (i:Int) (k:Int)=some (atX t i k):=by
 have hl:=zI (b:=b) hC hi
 unfold fJ atX
 have e1:(if (0:Int) < (k:Int) then aD (I64 ((k:Int) - 1)) (aC (dG (rcp t b) (i:Int) ((k:Int) - 1)) fun r5=>aD ((([]:List Expr)++([r5]:List Expr)).length≤1000000000) (some (([]:List Expr)++([r5]:List Expr)))) else some [])=some (if 0 < k then [kK t i ((k:Int) - 1)] else []):=by
  by_cases h0:0 < k
  ·rw [if_pos (by omega),aB (by unfold I64;omega),qIW hC hi (by omega) (by omega),aA,aB (by simp),if_pos h0];rfl
  ·rw [if_neg (by omega),if_neg h0]
 rw [e1,aA,hl.1,aA]
 have hl0:(if 0 < k then [kK t i ((k:Int) - 1)] else []).length≤2:=by split<;>simp
 generalize (if 0 < k then [kK t i ((k:Int) - 1)] else [])=L at hl0
 by_cases h0:k < aM t i
 ·rw [if_pos (by omega),qIW hC hi (by omega) (by omega),aA,mP,aA,aB (by simp;omega),aA,kN,aA,if_pos h0]
 ·rw [if_neg (by omega),aA,kN,aA,if_neg h0,List.append_nil]

def tmX (t:Table) (i:Nat) (k:Int):Int:=(bK t i:Int)+4+(aM t i:Int)+k
def qO (t:Table) (i:Nat) (r:Route):List Rung:=[⟨2,tmX t i 0,12,fM [stE t i 3,asE t i 0,sC t i r]⟩,⟨2,tmX t i 1,4,fM [stE t i 2,atX t i (aM t i),asE t i 0,fR (eN (oW t i r))]⟩]
theorem qRW (hC:COk t) {r:Route} (hr:t.routes[i]?=some r) (hb:b.length≤90000):gP (rcp t b) (i:Int)=some (rcp t (b++qO t i r)):=by
 have hi:=(List.getElem?_eq_some_iff.1 hr).1
 have hm:=List.mem_of_getElem? hr
 have hlm:=hC.lim
 have hl:=zI (b:=b) hC hi
 have hs:=vL hC hr
 unfold gP
 dsimp only
 rw [hl.1,aA,aN hr,aN hs.1,oO hs.2.1 (by omega),aA,sU hC hi (by omega) (by omega),aA,vH hC hi (by omega) (by omega),aA,qRZ hC hr,aA,kN,aA,sU hC hi (by omega) (by omega),aA,qWU hC hi (by omega),aA,aA,mP,aA,kN,aA,qBG hC hi (by omega) (by omega),aA]
 dsimp only
 rw [aB (by simp;omega),qBG hC hi (by omega) (by omega),aA,aB (by simp;omega)]
 simp only [List.append_assoc]
 rfl

theorem qLS (hC:COk t) (ht:t.Wf) {r:Route} (hr:t.routes[i]?=some r):eS (rcp t b) (i:Int)=some (rU t r):=by
 have hi:=(List.getElem?_eq_some_iff.1 hr).1
 have hm:=List.mem_of_getElem? hr
 have hlm:=hC.lim
 have hsum:=hC.sum r hm
 unfold pA at hsum
 have hal:=jL (cZ r)
 have hal2:(cZ r).length≤200:=by simp only [cZ,List.length_append];omega
 unfold eS
 dsimp only
 rw [aN hr,hZ r.sections (fun _ s=>eN s) [] (by omega) (fun x s B hx hB=>?_) (by dsimp only;rw [if_neg (by omega)];rfl),aA,iB,List.nil_append]
 ·rw [hZ r.overSections (fun _ s => eN s) _ (by omega) (fun x s B hx hB => ?_) (by dsimp only; rw [if_neg (by omega)]; rfl), aA, iB, ← List.map_append]
  ·rw [mB r (hC.ok.each r hm),aA]
   have hP:((r.sections++r.overSections).map eN).length≤200:=by simp only [List.length_map,List.length_append];omega
   unfold rU
   generalize (r.sections++r.overSections).map eN=P at hP
   rw [hZ (eQ (cZ r)) (fun _ s=>qPO t s) _ (by omega) (fun x s B hx hB=>?_) (by dsimp only;rw [if_neg (by omega)];rfl),aA,iB,kN,aA]
   have hx':=(List.getElem?_eq_some_iff.1 hx).1
   have hsi:=hC.set_in hm (List.mem_of_getElem? hx)
   have hid:iG (dS t.points s.el)=oM t s.el:=rfl
   dsimp only
   rw [if_pos (by omega),aN hx,sZ t _ (by unfold Cnt;omega),aA,hid,aB (by unfold I64;omega),aB (by unfold I64;omega),aN hx,aB (by unfold I64;omega),aB (by unfold I64;omega),uI,aA,aB (by simp;omega),aB (aP hx' (by omega))]
   unfold qPO
   have hk:s.pos - 1=(if s.pos=2 then (1:Int) else 0):=by split<;>omega
   rw [← hk,show 2 * t.sections+2 * oM t s.el+s.pos - 1=2 * t.sections+2 * oM t s.el+(s.pos - 1) by omega]
  ·have hx':=(List.getElem?_eq_some_iff.1 hx).1
   have hs:=hC.sec_in hm (List.mem_append_right _ (List.mem_of_getElem? hx))
   simp only [List.length_map] at hB
   dsimp only
   rw [if_pos (by omega),aN hx,oO hs.1 (by omega),aA,aB (by simp;omega),aB (aP hx' (by omega))]
 ·have hx':=(List.getElem?_eq_some_iff.1 hx).1
  have hs:=hC.sec_in hm (List.mem_append_left _ (List.mem_of_getElem? hx))
  simp only [List.length_nil,Nat.zero_add] at hB
  dsimp only
  rw [if_pos (by omega),aN hx,oO hs.1 (by omega),aA,aB (by simp;omega),aB (aP hx' (by omega))]

def qQB (t:Table) (i:Nat) (r:Route):Expr:=fM [asE t i 3,sC t i r]
theorem qRY (hC:COk t) {r:Route} (hr:t.routes[i]?=some r):fA (rcp t b) (i:Int)=some (qQB t i r):=by
 have hi:=(List.getElem?_eq_some_iff.1 hr).1
 unfold fA
 rw [vH hC hi (by omega) (by omega),aA,qRZ hC hr,aA,kN,aA]
 rfl
def qJW (t:Table) (i:Nat) (r:Route):Expr:=orE ((List.range (aM t i+1)).map fun k=>fM [atX t i k,eN (wC r k)])
theorem qRX (hC:COk t) {r:Route} (hr:t.routes[i]?=some r):gK (rcp t b) (i:Int)=some (qJW t i r):=by
 have hi:=(List.getElem?_eq_some_iff.1 hr).1
 have hm:=List.mem_of_getElem? hr
 have hlm:=hC.lim
 have hl:=zI (b:=b) hC hi
 have hsec:=hC.secs hm
 have hln:aM t i=r.sections.length - 1:=by unfold aM;rw [hr]
 unfold gK
 rw [qFO (aM t i+1) (fun k=>fM [atX t i k,eN (wC r k)]) [] (by omega) (fun k B hk hB=>?_) (by dsimp only;rw [hl.1,aA,if_neg (by omega)];rfl),aA,uK,aA,List.nil_append]
 ·rfl
 ·have hk1 := qX hC hm (k := k) (by omega)
  simp only [List.length_nil,Nat.zero_add] at hB
  dsimp only
  rw [hl.1,aA,if_pos (by omega),qWU hC hi (by omega),aA,aN hr,aN hk1.1,oO hk1.2.1 (by omega),aA,kN,aA,aB (by simp;omega),aB (by unfold I64;omega)]

def useX (t:Table) (i:Nat) (r:Route):Expr:=orE [fM [stE t i 1,fR (eN (lO r))],fM [stE t i 3,fR (qJW t i r)],fM [stE t i 2,orE [fR (asE t i 0),fM [fR (qQB t i r),fR (fM [atX t i (aM t i),eN (oW t i r)]),fR (vE (tmX t i 1))]]]]
def qTA (t:Table) (i:Nat) (r:Route):Expr:=orE [fM [stE t i 1,eN (lO r),orE [asE t i 3,fR (rU t r)],fR (fM [asE t i 3,asE t i 0,eN r.approach])],fM [stE t i 2,asE t i 0,qQB t i r],fM [stE t i 3,qJW t i r,fR (vE (tmX t i 0))]]
def relY (t:Table) (i:Nat) (r:Route) (k:Nat):Expr:=fM [orE [auE t i 1,auE t i 2],orE [kK t i (k:Int),fM [stE t i 2,asE t i 0,fR (qQB t i r),atX t i k,eN (wC r k),orE [fR (eN (wC r (k+1))),asE t i 1]]]]
def rQ (t:Table) (i:Nat) (r:Route) (n:Nat):List Rung:=(List.range n).map fun j=>⟨1,(bK t i:Int)+(4+((aM t i - 1 - j:Nat):Int)),0,relY t i r (aM t i - 1 - j)⟩
theorem zA (r:Route) (n:Nat):(rQ t i r n).length=n:=by unfold rQ;simp
def qCQ (t:Table) (i:Nat) (r:Route):List Rung:=([⟨1,iZ t i+0,0,qJQ t i r⟩,⟨1,iZ t i+1,0,useX t i r⟩,⟨1,iZ t i+2,0,qTA t i r⟩,⟨1,(bK t i:Int)+1,0,tD t i r⟩]++rQ t i r (aM t i))++[⟨1,(bK t i:Int)+2,0,auE t i 1⟩,⟨1,(bK t i:Int)+3,0,auE t i 2⟩,⟨1,iZ t i+3,0,orE [auE t i 0,stE t i 1,stE t i 2,stE t i 3]⟩]
theorem zJ (r:Route):(qCQ t i r).length=aM t i+7:=by unfold qCQ;rw [List.length_append,List.length_append,zA];simp;omega

theorem qLT (hC:COk t) (ht:t.Wf) {r:Route} (hr:t.routes[i]?=some r) (hb:b.length≤90000):fX (rcp t b) (i:Int)=some (rcp t (b++qCQ t i r)):=by
 have hi:=(List.getElem?_eq_some_iff.1 hr).1
 have hm:=List.mem_of_getElem? hr
 have hlm:=hC.lim
 have hl (b:List Rung):=zI (b:=b) hC hi
 have hl2:=(hl b).2
 have hs:=vL hC hr
 have hf:=qDR hC hm
 have ha:=hC.appr hm
 have hsec:=hC.secs hm
 have hln:aM t i=r.sections.length - 1:=by unfold aM;rw [hr]
 have g0:bC r.sections (0:Int)=fun (k:Int→Option Compiler)=>k (lO r):=by funext k;exact aN (i:=0) hf.1
 have rr:∀ (b:List Rung),cF (rcp t b) (i:Int) 0=some (asE t i 0)∧cF (rcp t b) (i:Int) 3=some (asE t i 3)∧cF (rcp t b) (i:Int) 1=some (asE t i 1):=fun b=>⟨vH hC hi (by omega) (by omega),vH hC hi (by omega) (by omega),vH hC hi (by omega) (by omega)⟩
 have st:∀ (b:List Rung),aR (rcp t b) (i:Int) 0=some (stE t i 0)∧aR (rcp t b) (i:Int) 1=some (stE t i 1)∧aR (rcp t b) (i:Int) 2=some (stE t i 2)∧aR (rcp t b) (i:Int) 3=some (stE t i 3):=fun b=>⟨sU hC hi (by omega) (by omega),sU hC hi (by omega) (by omega),sU hC hi (by omega) (by omega),sU hC hi (by omega) (by omega)⟩
 have au:∀ (b:List Rung),aX (rcp t b) (i:Int) 0=some (auE t i 0)∧aX (rcp t b) (i:Int) 1=some (auE t i 1)∧aX (rcp t b) (i:Int) 2=some (auE t i 2)∧aX (rcp t b) (i:Int) 3=some (auE t i 3):=fun b=>⟨tL hC hi (by omega) (by omega),tL hC hi (by omega) (by omega),tL hC hi (by omega) (by omega),tL hC hi (by omega) (by omega)⟩
 have tm:∀ (b:List Rung),dM (rcp t b) (i:Int) 0=some (vE (tmX t i 0))∧dM (rcp t b) (i:Int) 1=some (vE (tmX t i 1)):=fun b=>⟨qBG hC hi (by omega) (by omega),qBG hC hi (by omega) (by omega)⟩
 unfold fX
 dsimp only
 rw [aN hr,(hl b).1,aA,(rr b).1,aA,(rr b).2.1,aA,g0]
 dsimp only
 rw [oO hf.2.1 (by omega),aA,aN hs.1,oO hs.2.1 (by omega),aA,(au b).1,aA,(st b).1,aA,mP,aA,qLS hC ht hr,aA,mP,aA,kN,aA,uJ (by omega),aA]
 dsimp only
 generalize hb1:b++[⟨1,iZ t i+0,0,fM [vE ((bK t i:Int)+0),fR (vE (oN t i+3)),fR (rU t r)]⟩]=b1
 have hl1:b1.length=b.length+1:=by rw [← hb1];simp
 rw [mP,aA,qRY hC hr,aA,mP,aA,qWU hC hi (by omega),aA,kN,aA,mP,aA,(tm b1).2,aA,mP,aA,kN,aA,uK,aA,(au b1).2.1,aA,(st b1).2.1,aA,mP,aA,kN,aA,(st b1).2.2.2,aA,qRX hC hr,aA,mP,aA,kN,aA,(st b1).2.2.1,aA,kN,aA,uK,aA,uJ (by omega),aA]
 dsimp only
 rw [show orE [fM [vE ((bK t i:Int)+1),fR (eN (lO r))],fM [vE ((bK t i:Int)+3),fR (qJW t i r)],fM [vE ((bK t i:Int)+2),orE [fR (vE (oN t i+0)),fM [fR (qQB t i r),fR (fM [atX t i (aM t i),eN (oW t i r)]),fR (vE (tmX t i 1))]]]]=useX t i r from rfl]
 generalize hb2:b1++[⟨1,iZ t i+1,0,useX t i r⟩]=b2
 have hl2':b2.length=b.length+2:=by rw [← hb2];simp;omega
 rw [oO ha.1 (by omega),aA,kN,aA,(au b2).2.2.1,aA,(st b2).2.1,aA,qLS hC ht hr,aA,mP,aA,uK,aA,mP,aA,kN,aA,(st b2).2.2.1,aA,qRY hC hr,aA,kN,aA,(st b2).2.2.2,aA,qRX hC hr,aA,(tm b2).1,aA,mP,aA,kN,aA,uK,aA,uJ (by omega),aA]
 dsimp only
 rw [show orE [fM [vE ((bK t i:Int)+1),eN (lO r),orE [vE (oN t i+3),fR (rU t r)],fR (fM [vE (oN t i+3),vE (oN t i+0),eN r.approach])],fM [vE ((bK t i:Int)+2),vE (oN t i+0),qQB t i r],fM [vE ((bK t i:Int)+3),qJW t i r,fR (vE (tmX t i 0))]]=qTA t i r from rfl]
 generalize hb3:b2++[⟨1,iZ t i+2,0,qTA t i r⟩]=b3
 have hl3:b3.length=b.length+3:=by rw [← hb3];simp;omega
 rw [(st b3).2.1,aA,(st b3).1,aA,aA,uK,aA,aA,qLS hC ht hr,aA,kN,aA,uJ (by omega),aA]
 dsimp only
 generalize hb4:b3++[⟨1,(bK t i:Int)+1,0,fM [orE [vE ((bK t i:Int)+0),vE ((bK t i:Int)+1)],fR (vE (oN t i+3)),rU t r]⟩]=b4
 have hl4:b4.length=b.length+4:=by rw [← hb4];simp;omega
 rw [aB (by unfold I64;omega),mE (fun j=>((aM t i:Int) - 1 - (j:Int),b4++rQ t i r j)) (aM t i) (o:=b4++rQ t i r (aM t i)) (by simp [rQ]) (by omega) (fun j hj=>?_) (by dsimp only;rw [if_neg (by omega)];rfl),aA]
 ·have hlen : (b4 ++ rQ t i r (aM t i)).length ≤ 91000 := by rw [List.length_append, zA]; omega
  generalize hb5:b4++rQ t i r (aM t i)=b5 at hlen
  rw [(st b5).2.2.1,aA,(au b5).2.1,aA,uJ (by omega),aA]
  dsimp only
  rw [(st _).2.2.2,aA,(au _).2.2.1,aA,uJ (by simp;omega),aA]
  dsimp only
  rw [(au _).2.2.2,aA,(au _).1,aA,(st _).2.1,aA,(st _).2.2.1,aA,(st _).2.2.2,aA,uK,aA,uJ (by simp;omega),aA]
  dsimp only
  rw [← hb5,← hb4,← hb3,← hb2,← hb1]
  unfold qCQ
  simp only [List.append_assoc,List.cons_append,List.nil_append]
  rfl
 ·have hlen : (b4 ++ rQ t i r j).length ≤ 91000 := by rw [List.length_append, zA]; omega
  have hstep:b4++rQ t i r (j+1)=(b4++rQ t i r j)++[⟨1,(bK t i:Int)+(4+((aM t i - 1 - j:Nat):Int)),0,relY t i r (aM t i - 1 - j)⟩]:=by
   unfold rQ
   rw [qDF,List.append_assoc]
  rw [hstep]
  generalize b4++rQ t i r j=B at hlen
  obtain⟨k,hk⟩:∃ k:Nat,k=aM t i - 1 - j:=⟨_,rfl⟩
  rw [← hk]
  have hkI:(aM t i:Int) - 1 - (j:Int)=(k:Int):=by omega
  have hk1:=qX hC hm (k:=k) (by omega)
  have hk2:=qX hC hm (k:=k+1) (by omega)
  dsimp only
  rw [hkI,if_pos (by omega),aB (by unfold I64;omega),show ((k:Int)+1)=((k+1:Nat):Int) by omega,aN hk2.1,oO hk2.2.1 (by omega),aA,mP,aA,(rr B).2.2,aA,uK,aA,(st B).2.2.1,aA,qRY hC hr,aA,mP,aA,qWU hC hi (by omega),aA,aN hk1.1,oO hk1.2.1 (by omega),aA,kN,aA,qIW hC hi (by omega) (by omega),aA,(au B).2.1,aA,(au B).2.2.1,aA,uK,aA,aA,uK,aA,kN,aA,uJ (by omega),aA,aB (by unfold I64;omega)]
  unfold relY
  rw [show ((k:Int) - 1)=(aM t i:Int) - 1 - ((j+1:Nat):Int) by omega]

end Go.Proofs.YtcagmechagiclaaGreatDoor

set_option linter.unusedVariables false
set_option linter.unusedSimpArgs false
set_option maxHeartbeats 400000
set_option maxRecDepth 100000
namespace Go.Proofs.YtcagmechagiclaaGreatDoor
open Go Go.TL

variable {t:Table} {b:List Rung} {i:Nat}

/-! ### Names -/

theorem qQC:∀ i:Nat,i < 100→pC (i:Int)=some (sA i):=by decide+kernel
theorem gM (hi:i < 100) {w:ByteArray} (hw:w.size≤1000):dB w (i:Int)=some (nmB w i):=by
 have h2:=vM i hi
 have h3:(⟨#[46]⟩:ByteArray).size=1:=rfl
 unfold dB
 rw [aB (by omega),qQC i hi,aA,aB (by rw [ByteArray.size_append];omega)]
 rfl
def wRel:ByteArray:=⟨#[114,101,108]⟩
theorem relD (i:Nat):nmB wRel i=wRelD++sA i:=by
 unfold nmB
 rw [show wRel++dotB=wRelD from rfl]
theorem qWA (hC:COk t):oH t=some (rF t,(inN t:Int)):=by
 have hlm:=hC.lim
 have hs:t.sections=((t.sections.toNat:Nat):Int):=by omega
 have h1:=fH (f:=nm1) (c:=2) (fun _=>rfl)
 have h2:=fH (f:=nm2) (c:=2) (fun _=>rfl)
 have h3:=fH (f:=nm3) (c:=4) (fun _=>rfl)
 have h4:=fH (f:=nm4) (c:=1) (fun _=>rfl)
 have h6:=fH (f:=nm6) (c:=5) (fun _=>rfl)
 unfold oH
 dsimp only
 rw [eW nm1 [] t.sections.toNat (by omega) (fun i hi=>?_) (by dsimp only;rw [if_neg (by omega)];rfl),aA,List.nil_append]
 ·rw [eW nm2 _ t.points.length (by omega) (fun i hi => ?_) (by dsimp only; rw [if_neg (by omega)]; rfl), aA]
  ·rw [eW nm3 _ t.routes.length (by omega) (fun i hi => ?_) (by dsimp only; rw [if_neg (by omega)]; rfl), aA]
   ·have hpi:(((List.range t.sections.toNat).flatMap nm1++(List.range t.points.length).flatMap nm2)++(List.range t.routes.length).flatMap nm3).length=inN t:=by
     simp only [List.length_append,h1,h2,h3];unfold inN;omega
    rw [hpi]
    rw [eW nm4 _ t.points.length (by omega) (fun i hi=>?_) (by dsimp only;rw [if_neg (by omega)];rfl),aA]
    ·have hpl:((((List.range t.sections.toNat).flatMap nm1++(List.range t.points.length).flatMap nm2)++(List.range t.routes.length).flatMap nm3)++(List.range t.points.length).flatMap nm4).length=inN t+t.points.length:=by
      rw [List.length_append,hpi,h4];omega
     unfold rF
     generalize ((((List.range t.sections.toNat).flatMap nm1++(List.range t.points.length).flatMap nm2)++(List.range t.routes.length).flatMap nm3)++(List.range t.points.length).flatMap nm4)=P at hpl
     rw [eW (nm5 t) _ t.routes.length (by omega) (fun i hi=>?_) (by dsimp only;rw [if_neg (by omega)];rfl),aA]
     ·have hP2:(P++(List.range t.routes.length).flatMap (nm5 t)).length≤30000:=by
       have:=rV hC t.routes.length (Nat.le_refl _)
       have:=hC.base t.routes.length
       rw [List.length_append];omega
      generalize P++(List.range t.routes.length).flatMap (nm5 t)=P2 at hP2
      rw [eW nm6 _ t.routes.length (by omega) (fun i hi=>?_) (by dsimp only;rw [if_neg (by omega)];rfl),aA]
      have hlen:(P2++(List.range i).flatMap nm6).length≤30300:=by rw [List.length_append,h6];omega
      generalize P2++(List.range i).flatMap nm6=B at hlen
      dsimp only
      rw [if_pos (by omega),gM (by omega) (show (⟨#[107,101,101,112]⟩:ByteArray).size≤1000 by decide),aA,aB (by simp;omega),gM (by omega) (show (⟨#[117,115,101]⟩:ByteArray).size≤1000 by decide),aA,aB (by simp;omega),gM (by omega) (show (⟨#[104,111,108,100]⟩:ByteArray).size≤1000 by decide),aA,aB (by simp;omega),gM (by omega) (show (⟨#[97,99,116]⟩:ByteArray).size≤1000 by decide),aA,aB (by simp;omega),gM (by omega) (show (⟨#[99,97,108,108,101,100]⟩:ByteArray).size≤1000 by decide),aA,aB (by simp;omega),aB (aP hi (by omega))]
      simp only [List.append_assoc]
      rfl
     ·have hlen:(P++(List.range i).flatMap (nm5 t)).length≤30000:=by
       have:=rV hC i (by omega)
       have:=hC.base i
       rw [List.length_append];omega
      generalize P++(List.range i).flatMap (nm5 t)=B at hlen
      have hr:=List.getElem?_eq_getElem hi
      have hsec:=hC.secs (List.getElem_mem hi)
      have hln:aM t i=t.routes[i].sections.length - 1:=by unfold aM;rw [hr]
      have hl2:=hC.last24 i
      generalize t.routes[i]=r at hr hsec hln
      dsimp only
      rw [if_pos (by omega),gM (by omega) (show (⟨#[115,101,116]⟩:ByteArray).size≤1000 by decide),aA,aB (by simp;omega),gM (by omega) (show (⟨#[99,108,101,97,114]⟩:ByteArray).size≤1000 by decide),aA,aB (by simp;omega),gM (by omega) (show (⟨#[117,115,101,100]⟩:ByteArray).size≤1000 by decide),aA,aB (by simp;omega),gM (by omega) (show (⟨#[104,101,108,100]⟩:ByteArray).size≤1000 by decide),aA,aB (by simp;omega)]
      have hB2:((((B++[nmB qGM i])++[nmB sK i])++[nmB xP i])++[nmB xQ i]).length≤30004:=by simp;omega
      rw [show B++nm5 t i=((((((B++[nmB qGM i])++[nmB sK i])++[nmB xP i])++[nmB xQ i])++wM i (aM t i))++[nmB qQV i])++[nmB qKW i] by unfold nm5;simp only [List.append_assoc,List.map_cons,List.map_nil,List.cons_append,List.nil_append]]
      rw [show (nmB (⟨#[115,101,116]⟩:ByteArray) i)=nmB qGM i from rfl,show (nmB (⟨#[99,108,101,97,114]⟩:ByteArray) i)=nmB sK i from rfl,show (nmB (⟨#[117,115,101,100]⟩:ByteArray) i)=nmB xP i from rfl,show (nmB (⟨#[104,101,108,100]⟩:ByteArray) i)=nmB xQ i from rfl]
      generalize ((((B++[nmB qGM i])++[nmB sK i])++[nmB xP i])++[nmB xQ i])=B2 at hB2
      rw [eW (fun k=>[wRelD++sA i].map (nmB · k)) B2 (aM t i) (by omega) (fun k hk=>?_) (by dsimp only;rw [aN hr,aB (by unfold I64;omega),if_neg (by omega)];rfl),aA]
      ·have hB3:(B2++wM i (aM t i)).length≤30100:=by
        unfold wM
        rw [List.length_append,fH (c:=1) (fun _=>rfl)];omega
       unfold wM at hB3 ⊢
       generalize (B2++(List.range (aM t i)).flatMap fun k=>[wRelD++sA i].map (nmB · k))=B3 at hB3
       rw [gM (by omega) (show (⟨#[119,97,105,116]⟩:ByteArray).size≤1000 by decide),aA,aB (by simp;omega),gM (by omega) (show (⟨#[115,116,97,110,100]⟩:ByteArray).size≤1000 by decide),aA,aB (by simp;omega),aA,aB (aP hi (by omega))]
       rfl
      ·have hsz := vM i (by omega)
       have hrs:wRelD.size=4:=rfl
       have hlen3:(B2++(List.range k).flatMap fun k=>[wRelD++sA i].map (nmB · k)).length≤30100:=by
        rw [List.length_append,fH (c:=1) (fun _=>rfl)];omega
       dsimp only
       rw [aN hr,aB (by unfold I64;omega),if_pos (by omega),gM (by omega) (show (⟨#[114,101,108]⟩:ByteArray).size≤1000 by decide),aA,show (nmB (⟨#[114,101,108]⟩:ByteArray) i)=nmB wRel i from rfl,relD,gM (by omega) (by rw [ByteArray.size_append];omega),aA,aB (by rw [List.length_append];simp only [List.length_cons,List.length_nil];omega),aB (aP hk (by omega))]
       rfl
    ·dsimp only
     rw [if_pos (by omega),gM (by omega) (show (⟨#[108,105,101]⟩:ByteArray).size≤1000 by decide),aA,aB (by rw [List.length_append,List.length_append,hpi,h4];simp only [List.length_cons,List.length_nil];have:=hC.base t.routes.length;have:=mZ t;have he:fC t=bK t t.routes.length:=rfl;omega),aB (aP hi (by omega))]
     rfl
   ·have hlen : ((((List.range t.sections.toNat).flatMap nm1 ++ (List.range t.points.length).flatMap nm2)) ++ (List.range i).flatMap nm3).length ≤ 1000 := by simp only [List.length_append, h1, h2, h3]; omega
    generalize ((((List.range t.sections.toNat).flatMap nm1++(List.range t.points.length).flatMap nm2))++(List.range i).flatMap nm3)=B at hlen
    dsimp only
    rw [if_pos (by omega),gM (by omega) (show (⟨#[117,110,99,108,97,105,109,101,100]⟩:ByteArray).size≤1000 by decide),aA,aB (by simp;omega),gM (by omega) (show (⟨#[112,97,115,115,101,100]⟩:ByteArray).size≤1000 by decide),aA,aB (by simp;omega),gM (by omega) (show (⟨#[99,97,108,108]⟩:ByteArray).size≤1000 by decide),aA,aB (by simp;omega),gM (by omega) (show (⟨#[99,97,110,99,101,108]⟩:ByteArray).size≤1000 by decide),aA,aB (by simp;omega),aB (aP hi (by omega))]
    simp only [List.append_assoc]
    rfl
  ·have hlen : ((List.range t.sections.toNat).flatMap nm1 ++ (List.range i).flatMap nm2).length ≤ 1000 := by simp only [List.length_append, h1, h2]; omega
   generalize ((List.range t.sections.toNat).flatMap nm1++(List.range i).flatMap nm2)=B at hlen
   dsimp only
   rw [if_pos (by omega),gM (by omega) (show (⟨#[110,111,114,109,97,108]⟩:ByteArray).size≤1000 by decide),aA,aB (by simp;omega),gM (by omega) (show (⟨#[114,101,118,101,114,115,101]⟩:ByteArray).size≤1000 by decide),aA,aB (by simp;omega),aB (aP hi (by omega))]
   simp only [List.append_assoc]
   rfl
 ·have hlen : ([] ++ (List.range i).flatMap nm1).length ≤ 1000 := by simp only [List.nil_append, h1]; omega
  generalize ([]++(List.range i).flatMap nm1)=B at hlen
  dsimp only
  rw [if_pos (by omega),gM (by omega) (show (⟨#[102,114,101,101]⟩:ByteArray).size≤1000 by decide),aA,aB (by simp;omega),gM (by omega) (show (⟨#[111,112,101,110]⟩:ByteArray).size≤1000 by decide),aA,aB (by simp;omega),aB (aP hi (by omega))]
  simp only [List.append_assoc]
  rfl

/-! ### Rounds that end early -/

theorem xL {α β:Type} {g:β→α→Option β} {Inv:β→Prop}:∀ {l:List α} {b:β},(∀ e∈l,∀ b b',Inv b→g b e=some b'→Inv b')→Inv b→∀ b',l.foldlM g b=some b'→Inv b'
 | [],b,_,h,b',hb=>by cases hb;exact h
 | e :: r,b,hg,h,b',hb=>by
  rw [List.foldlM_cons] at hb
  cases hx:g b e with
  | none=>rw [hx] at hb;cases hb
  | some c=>
   rw [hx] at hb
   exact xL (l:=r) (fun e he=>hg e (List.mem_cons_of_mem _ he)) (hg e List.mem_cons_self b c h hx) b' hb
theorem qJH {σ ρ β α : Type} {f : σ → Option (σ ⊕ ρ)} (l : List α) (st : β → Nat → σ) (g : β → α → Option β) (Inv : β → Prop) (v : ρ) (o : β → ρ) {b0 : β} {s : σ} (hs0 : s = st b0 0) (hn : l.length ≤ qAY) (hg : ∀ e ∈ l, ∀ b b', Inv b → g b e = some b' → Inv b') (h0 : Inv b0) (hs : ∀ i e b, l[i]? = some e → Inv b → f (st b i) = match g b e with
  | some b' => some (.inl (st b' (i + 1)))
  | none => some (.inr v)) (he : ∀ b, Inv b → f (st b l.length) = some (.inr (o b))) :
  bE f s=some (match l.foldlM g b0 with|some b=>o b|none=>v):=by
 subst hs0
 have key:∀ (m:List α) (k:Nat) (b:β),l.drop k=m→k+m.length=l.length→Inv b→lV f (m.length+1) (st b k)=some (match m.foldlM g b with|some b=>o b|none=>v):=by
  intro m
  induction m with
  | nil=>
   intro k b hd hk hb
   have hk2:k=l.length:=by simpa using hk
   subst hk2
   simp [lV,he b hb]
  | cons e m ih=>
   intro k b hd hk hb
   rw [List.length_cons] at hk
   have hx:l[k]?=some e:=by
    have:(l.drop k)[0]?=some e:=by rw [hd];rfl
    rw [List.getElem?_drop] at this
    simpa using this
   have hd2:l.drop (k+1)=m:=by rw [← List.tail_drop,hd];rfl
   have h1:=hs k e b hx hb
   rw [List.length_cons,lV,h1,List.foldlM_cons]
   cases hc:g b e with
   | none=>rfl
   | some b'=>exact ih (k+1) b' hd2 (by omega) (hg e (List.mem_of_getElem? hx) b b' hb hc)
 have:=key l 0 b0 rfl (by omega) h0
 exact rY this (by unfold lG qAY at *; omega)

end Go.Proofs.YtcagmechagiclaaGreatDoor

set_option linter.unusedVariables false
set_option linter.unusedSimpArgs false
set_option maxHeartbeats 400000
set_option maxRecDepth 100000
namespace Go.Proofs.YtcagmechagiclaaGreatDoor
open Go Go.TL

variable {t:Table} {b:List Rung} {i:Nat}

/-! ### The last place of a list that is in another -/

def sY (p:Nat→Bool):Nat→Int
  | 0=>-1
  | n+1=>if p n=true then (n:Int) else sY p n
theorem qFQ (p:Nat→Bool):∀ n,-1≤sY p n∧sY p n < (n:Int)
  | 0=>by simp [sY]
  | n+1=>by
    have:=qFQ p n
    unfold sY
    split<;>omega
def kX (l m:List Int):Int:=sY (fun k=>decide (l.getD k 0∈m)) l.length
theorem yD (l m:List Int) (hl:Cnt l) (hm:Cnt m):jN l m=some (kX l m):=by
  unfold jN kX
  unfold Cnt at hl
  rw [mE (fun k=>(sY (fun k=>decide (l.getD k 0∈m)) k,(k:Int))) (o:=sY (fun k=>decide (l.getD k 0∈m)) l.length) l.length (by rfl) hl (fun k hk=>?_) (by dsimp only;rw [if_neg (by omega)];rfl),aA]
  have hx:=List.getElem?_eq_getElem hk
  have hg:l.getD k 0=l[k]:=by rw [List.getD_eq_getElem?_getD,hx];rfl
  dsimp only
  rw [if_pos (by omega),aN hx,qTD _ _ hm,aA,aB (aP hk hl),aB (aP hk hl),sY,hg]
  by_cases h:l[k]∈m
  · rw [if_pos (decide_eq_true h),if_pos (decide_eq_true h)];rfl
  · rw [if_neg (by simpa using h),if_neg (by simpa using h)];rfl

theorem yH (l:List Setting) (x:Setting) (h:Cnt l) (hx:Setting.ok x) (ho:∀ s∈l,Setting.ok s):mN l x=some (decide (x∈l)):=by
  unfold mN
  unfold Cnt at h
  rw [kF l (fun y=>decide (y=x)) (.inr true) (.inl ()) h (fun k e he=>?_) (by rw [if_neg (by omega)];rfl)]
  · have:(l.any fun y=>decide (y=x))=decide (x∈l):=by
      rw [Bool.eq_iff_iff,List.any_eq_true]
      simp
    rw [this]
    cases decide (x∈l)<;>rfl
  · have hi:=(List.getElem?_eq_some_iff.1 he).1
    rw [if_pos (by omega),aN he,aB ⟨ho e (List.mem_of_getElem? he),hx⟩]
    by_cases hz:e=x
    · rw [if_pos hz,if_pos (decide_eq_true hz)];rfl
    · rw [if_neg hz,aB (aP hi h),if_neg (by simpa using hz)]

/-! ### What blocks -/

/-- One setting of each: none, if they contradict for ever. -/
def zW (t:Table) (a:Route) (s1:Setting) (out:Int) (s2:Setting):Option Int:=
  if s1.el=s2.el∧¬ s1.pos=s2.pos then
    (if kX a.sections [pZ t s1.el] < 0∨s1∈a.overPoints∨s1∈a.flank then none else some (max out (kX a.sections [pZ t s1.el])))
  else some out
def zX (t:Table) (a x:Route) (out:Int) (s1:Setting):Option Int:=(eQ (cZ x)).foldlM (zW t a s1) out
def qMW (a x:Route):Int:=if kZ x a=false then max (kX a.sections x.sections) (kX a.sections x.overSections) else kX a.sections x.sections
def zAU (a x:Route):Bool:=(!kZ a x&&decide (0≤kX a.overSections x.sections))||(!kZ a x&&(!kZ x a&&decide (0≤kX a.overSections x.overSections)))
def tE (t:Table) (a x:Route):Int:=
  if zAU a x=true then (a.sections.length:Int) - 1
  else match (eQ (cZ a)).foldlM (zX t a x) (qMW a x) with
    | some out=>out
    | none=>(a.sections.length:Int) - 1

theorem qDD (l m:List Int):-1≤kX l m∧kX l m < (l.length:Int):=qFQ _ _

abbrev InB (a:Route) (out:Int):Prop:=-1≤out∧out < (a.sections.length:Int)
theorem qFZ {a:Route} {s1 s2:Setting} {out o:Int} (h:InB a out) (ho:zW t a s1 out s2=some o):InB a o:=by
  have hm:=qDD a.sections [pZ t s1.el]
  unfold zW at ho
  unfold InB at *
  split at ho
  · split at ho
    · cases ho
    · have:=Option.some.inj ho
      omega
  · have:=Option.some.inj ho
    omega
theorem qGA {a x:Route} {s1:Setting} {out o:Int} (h:InB a out) (ho:zX t a x out s1=some o):InB a o:=by
  unfold zX at ho
  exact xL (Inv:=InB a) (fun e _ b b' hb hh=>qFZ hb hh) h o ho
theorem qOT (a x:Route):InB a (qMW a x):=by
  have b1:=qDD a.sections x.sections
  have b2:=qDD a.sections x.overSections
  unfold qMW InB
  split<;>omega
theorem zAV {a x:Route} (h:0 < a.sections.length):InB a (tE t a x):=by
  unfold tE
  split
  · unfold InB;omega
  · split
    · rename_i out ho
      exact xL (Inv:=InB a) (fun e _ b b' hb hh=>qGA hb hh) (qOT a x) out ho
    · unfold InB;omega

theorem qQJ (hC:COk t) (ht:t.Wf) {o i:Nat} {a x:Route} (ha:t.routes[o]?=some a) (hx:t.routes[i]?=some x):mW t (o:Int) (i:Int)=some (tE t a x):=by
  have hlm:=hC.lim
  have ham:=List.mem_of_getElem? ha
  have hxm:=List.mem_of_getElem? hx
  have hsa:=hC.sum a ham
  have hsx:=hC.sum x hxm
  have hseca:=hC.secs ham
  unfold pA at hsa hsx
  have hala:=jL (cZ a)
  have hala2:(cZ a).length≤200:=by simp only [cZ,List.length_append];omega
  have halx:=jL (cZ x)
  have halx2:(cZ x).length≤200:=by simp only [cZ,List.length_append];omega
  have hsoa:=qBU ht a ham
  have m1:=yD a.sections x.sections (by unfold Cnt;omega) (by unfold Cnt;omega)
  have m2:=yD a.sections x.overSections (by unfold Cnt;omega) (by unfold Cnt;omega)
  have m3:=yD a.overSections x.sections (by unfold Cnt;omega) (by unfold Cnt;omega)
  have m4:=yD a.overSections x.overSections (by unfold Cnt;omega) (by unfold Cnt;omega)
  unfold mW
  rw [aN ha,aN hx,aB (by unfold I64;omega)]
  rw [show kH a x=some (kZ a x) from rfl,aA,show kH x a=some (kZ x a) from rfl,aA,m1,aA,m2,aA,m3,m4]
  have e1:(if (!kZ x a)=true then some (max (kX a.sections x.sections) (kX a.sections x.overSections)) else some (kX a.sections x.sections))=some (qMW a x):=by
    unfold qMW
    cases kZ x a<;>rfl
  rw [e1,aA]
  have e2 : (if (!kZ a x) = true then aC (some (kX a.overSections x.sections)) fun r17 => if (0 : Int) ≤ r17 then some true else if (!kZ a x) = true then (if (!kZ x a) = true then aC (some (kX a.overSections x.overSections)) fun r21 => some (decide ((0 : Int) ≤ r21)) else some false) else some false
      else if (!kZ a x) = true then (if (!kZ x a) = true then aC (some (kX a.overSections x.overSections)) fun r16 => some (decide ((0 : Int) ≤ r16)) else some false) else some false) = some (zAU a x) := by
    unfold zAU
    cases kZ a x<;>cases kZ x a<;>simp only [Bool.not_true,Bool.not_false,if_true,Bool.false_eq_true,if_false,aA,Bool.true_and,Bool.false_and,Bool.or_false]
    · by_cases h:0≤kX a.overSections x.sections
      · rw [if_pos h,decide_eq_true h,Bool.true_or]
      · rw [if_neg h,decide_eq_false h,Bool.false_or]
    · by_cases h:0≤kX a.overSections x.sections
      · rw [if_pos h,decide_eq_true h]
      · rw [if_neg h,decide_eq_false h]
  rw [e2,aA]
  unfold tE
  cases hW:zAU a x with
  | true=>rw [if_pos rfl,if_pos rfl]
  | false=>
    rw [if_neg Bool.false_ne_true,if_neg Bool.false_ne_true,mB a (hC.ok.each a ham),aA,mB x (hC.ok.each x hxm),aA]
    rw [qJH (eQ (cZ a)) (fun b k=>(b,(k:Int))) (zX t a x) (InB a) (.inr ((a.sections.length:Int) - 1)) (fun b=>.inl b) (b0:=qMW a x) (by rfl) (by unfold qAY;omega) (fun e _ b b' hb hh=>qGA hb hh) (qOT a x) (fun k s1 out hs1 hout=>?_) (fun out _=>by dsimp only;rw [if_neg (by omega)];rfl)]
    · cases (eQ (cZ a)).foldlM (zX t a x) (qMW a x)<;>rfl
    · have hk:=(List.getElem?_eq_some_iff.1 hs1).1
      have hs1m:=List.mem_of_getElem? hs1
      have hok1:Setting.ok s1:=hsoa s1 (ascS_mem.1 hs1m)
      obtain⟨p,hp1,hp2,hp3,hp4,hp5⟩:=hC.home ham hs1m
      dsimp only
      rw [if_pos (by omega)]
      rw [qJH (eQ (cZ x)) (fun b k=>(b,(k:Int))) (zW t a s1) (InB a) (.inr (.inr (.inr ((a.sections.length:Int) - 1)))) (fun b=>.inl b) (b0:=out) (by rfl) (by unfold qAY;omega) (fun e _ b b' hb hh=>qFZ hb hh) hout (fun q s2 b hs2 hb=>?_) (fun out _=>by dsimp only;rw [if_neg (by omega)];rfl)]
      · unfold zX
        cases (eQ (cZ x)).foldlM (zW t a s1) out with
        | none=>rfl
        | some b=>rw [iW,aB (aP hk (by omega))];rfl
      · have hq:=(List.getElem?_eq_some_iff.1 hs2).1
        have hid:iG (dS t.points s1.el)=(p:Int):=hp1
        dsimp only
        rw [if_pos (by omega)]
        simp only [aN hs1,aN hs2]
        unfold zW
        by_cases h1:s1.el=s2.el
        · rw [if_pos h1,aA]
          by_cases h2:s1.pos=s2.pos
          · rw [if_pos (decide_eq_true h2), aB (aP hq (by omega)), if_neg (fun h => h.2 h2)]
            rfl
          · rw [if_neg (by rw [decide_eq_false h2]; exact Bool.false_ne_true), if_pos ⟨h1, h2⟩, sZ t _ (by unfold Cnt; omega), aA, hid, aN hp3, yD a.sections [pZ t s1.el] (by unfold Cnt; omega) (by simp), aA, yH a.overPoints s1 (by unfold Cnt; omega) hok1 (fun s hs => hsoa s (by simp [cZ, hs])), aA, yH a.flank s1 (by unfold Cnt; omega) hok1 (fun s hs => hsoa s (by simp [cZ, hs])), aA]
            have e3:(if kX a.sections [pZ t s1.el] < 0 then some true else if decide (s1∈a.overPoints)=true then some true else some (decide (s1∈a.flank)))=some (decide (kX a.sections [pZ t s1.el] < 0∨s1∈a.overPoints∨s1∈a.flank)):=by
              by_cases g1:kX a.sections [pZ t s1.el] < 0
              · rw [if_pos g1,decide_eq_true (.inl g1)]
              · rw [if_neg g1]
                by_cases g2:s1∈a.overPoints
                · rw [if_pos (decide_eq_true g2),decide_eq_true (.inr (.inl g2))]
                · rw [if_neg (by simpa using g2)]
                  congr 1
                  rw [Bool.eq_iff_iff]
                  simp [g1,g2]
            rw [e3,aA]
            by_cases g:kX a.sections [pZ t s1.el] < 0∨s1∈a.overPoints∨s1∈a.flank
            · rw [if_pos (decide_eq_true g),if_pos g];rfl
            · rw [if_neg (by rw [decide_eq_false g]; exact Bool.false_ne_true), if_neg g, aB (aP hq (by omega))]
              rfl
        · rw [if_neg h1, aA, if_pos rfl, aB (aP hq (by omega)), if_neg (fun h => h1 h.1)]
          rfl

/-! ### Calls -/

def apX (t:Table) (i o:Nat) (x a:Route):List Expr:=
  if o=i∨tE t a x < 0 then []
  else
    let A:=if tE t a x < (aM t o:Int) then fM [auE t o 3,fR (kK t o (tE t a x))] else auE t o 3
    [fR (if o < i then orE [A,auE t o 4] else A)]
theorem qOY (i o:Nat) (x a:Route):(apX t i o x a).length≤1:=by
  unfold apX
  split<;>simp
def apsX (t:Table) (i:Nat) (x:Route) (n:Nat):List Expr:=(List.range n).flatMap (rt t fun o a=>apX t i o x a)
def qHY (t:Table) (i:Nat) (r:Route):Expr:=fM ((([asE t i 2,fR (auE t i 3)]++(r.sections++r.overSections).map tM)++apsX t i r t.routes.length)++(eQ (cZ r)).map (qFF t))

theorem qSA (hC:COk t) (ht:t.Wf) {r:Route} (hr:t.routes[i]?=some r) (hb:b.length≤90000):gQ (rcp t b) (i:Int)=some (rcp t (b++[⟨1,iZ t i+4,0,qHY t i r⟩])):=by
  have hi:=(List.getElem?_eq_some_iff.1 hr).1
  have hm:=List.mem_of_getElem? hr
  have hlm:=hC.lim
  have hsum:=hC.sum r hm
  unfold pA at hsum
  have hal:=jL (cZ r)
  have hal2:(cZ r).length≤200:=by simp only [cZ,List.length_append];omega
  unfold gQ
  dsimp only
  rw [aN hr,vH hC hi (by omega) (by omega),aA,tL hC hi (by omega) (by omega),aA,mP,aA,hZ r.sections (fun _ s=>tM s) _ (by omega) (fun x s B hx hB=>?_) (by dsimp only;rw [if_neg (by omega)];rfl),aA,iB]
  · rw [hZ r.overSections (fun _ s => tM s) _ (by omega) (fun x s B hx hB => ?_) (by dsimp only; rw [if_neg (by omega)]; rfl), aA, iB]
    · have hP : (([vE (oN t i + 2), fR (vE (iZ t i + 3))] ++ r.sections.map tM) ++ r.overSections.map tM).length ≤ 300 := by simp only [List.length_append, List.length_map, List.length_cons, List.length_nil]; omega
      unfold qHY
      rw [List.map_append,← List.append_assoc]
      generalize ([vE (oN t i+2),fR (vE (iZ t i+3))]++r.sections.map tM)++r.overSections.map tM=P at hP
      rw [eW (rt t fun o a=>apX t i o r a) P t.routes.length (by omega) (fun o ho=>?_) (by dsimp only;rw [if_neg (by omega)];rfl),aA]
      · have hP2:(P++(List.range t.routes.length).flatMap (rt t fun o a=>apX t i o r a)).length≤400:=by
          have:=gA (uF (t:=t) (f:=fun o a=>apX t i o r a) (c:=1) fun _ _ _=>qOY _ _ _ _) t.routes.length
          rw [List.length_append];omega
        unfold apsX
        generalize P++(List.range t.routes.length).flatMap (rt t fun o a=>apX t i o r a)=P2 at hP2
        rw [mB r (hC.ok.each r hm),aA,hZ (eQ (cZ r)) (fun _ s=>qFF t s) _ (by omega) (fun x s B hx hB=>?_) (by dsimp only;rw [if_neg (by omega)];rfl),aA,tL hC hi (by omega) (by omega),aA,kN,aA,uJ (by omega),aA,iB]
        have hx':=(List.getElem?_eq_some_iff.1 hx).1
        have hxm:=List.mem_of_getElem? hx
        obtain⟨k,hk1,hk2,hk3,hk4,hk5⟩:=hC.home hm hxm
        have hid:iG (dS t.points s.el)=oM t s.el:=rfl
        have h3:=hC.base t.routes.length
        have h4:fC t=bK t t.routes.length:=rfl
        have h2:=(mZ t).1
        dsimp only
        rw [if_pos (by omega),aN hx,sZ t _ (by unfold Cnt;omega),aA,hid,aB (by unfold I64;omega),uI,aA,aN hx]
        have e1:(if s.pos=(1:Int) then aC (dR (vE ((inN t:Int)+oM t s.el))) fun r91=>some (r91.op,r91.var,r91.args) else some ((vE ((inN t:Int)+oM t s.el)).op,(vE ((inN t:Int)+oM t s.el)).var,(vE ((inN t:Int)+oM t s.el)).args))=some ((qDI t s).op,(qDI t s).var,(qDI t s).args):=by
          unfold qDI
          by_cases h:s.pos=1
          · rw [if_pos h,if_pos h,mP,aA]
          · rw [if_neg h,if_neg h]
        rw [e1,aA]
        dsimp only
        rw [hk1,aN hk3,oO hk4 (by omega),aA,uK,aA,aB (by simp;omega),aB (aP hx' (by omega)),Expr.eta]
        rfl
      · have hlen:(P++(List.range o).flatMap (rt t fun o a=>apX t i o r a)).length≤400:=by
          have:=gA (uF (t:=t) (f:=fun o a=>apX t i o r a) (c:=1) fun _ _ _=>qOY _ _ _ _) o
          rw [List.length_append];omega
        generalize (P++(List.range o).flatMap (rt t fun o a=>apX t i o r a))=B at hlen
        have hq:=List.getElem?_eq_getElem ho
        have hsq:=hC.secs (List.getElem_mem ho)
        have hln:aM t o=t.routes[o].sections.length - 1:=by unfold aM;rw [hq]
        generalize t.routes[o]=a at hq hsq hln
        have hbi:=zAV (t:=t) (x:=r) hsq.1
        unfold InB at hbi
        dsimp only
        rw [if_pos (by omega),qQJ hC ht hq hr,aA,qAI hq]
        unfold apX
        by_cases hno:o=i∨tE t a r < 0
        · rw [if_pos (by rcases hno with h | h; · rw [decide_eq_true (show (o : Int) = (i : Int) by omega)]; rfl
                         · rw [decide_eq_true h, Bool.or_true]), if_pos hno, aB (aP ho (by omega)), List.append_nil]
        · rw [if_neg (by rw [decide_eq_false (show ¬ (o : Int) = (i : Int) by omega), decide_eq_false (by omega)]; simp), if_neg hno, tL hC ho (by omega) (by omega), aA, (zI hC ho).1, aA]
          dsimp only
          have e1:(if tE t a r < (aM t o:Int) then aC (dG (rcp t b) (o:Int) (tE t a r)) fun r57=>aC (dR r57) fun r58=>aC (dN ([vE (iZ t o+3),r58]:List Expr)) fun r59=>some (r59.op,r59.var,r59.args) else some ((vE (iZ t o+3)).op,(vE (iZ t o+3)).var,(vE (iZ t o+3)).args))=some ((if tE t a r < (aM t o:Int) then fM [auE t o 3,fR (kK t o (tE t a r))] else auE t o 3).op,(if tE t a r < (aM t o:Int) then fM [auE t o 3,fR (kK t o (tE t a r))] else auE t o 3).var,(if tE t a r < (aM t o:Int) then fM [auE t o 3,fR (kK t o (tE t a r))] else auE t o 3).args):=by
            by_cases h:tE t a r < (aM t o:Int)
            · rw [if_pos h,if_pos h,qIW hC ho (by omega) (by omega),aA,mP,aA,kN,aA]
            · rw [if_neg h,if_neg h]
          rw [e1,aA]
          dsimp only
          rw [Expr.eta]
          generalize (if tE t a r < (aM t o:Int) then fM [auE t o 3,fR (kK t o (tE t a r))] else auE t o 3)=A
          have e2:(if (o:Int) < (i:Int) then aC (aX (rcp t b) (o:Int) 4) fun r65=>aC (fP ([A,r65]:List Expr)) fun r66=>some (r66.op,r66.var,r66.args) else some (A.op,A.var,A.args))=some ((if o < i then orE [A,auE t o 4] else A).op,(if o < i then orE [A,auE t o 4] else A).var,(if o < i then orE [A,auE t o 4] else A).args):=by
            by_cases h:o < i
            · rw [if_pos (by omega),if_pos h,tL hC ho (by omega) (by omega),aA,uK,aA]
            · rw [if_neg (by omega),if_neg h]
          rw [e2,aA]
          dsimp only
          rw [mP,aA,aB (by simp;omega),aB (aP ho (by omega)),Expr.eta]
    · have hx':=(List.getElem?_eq_some_iff.1 hx).1
      have hs:=hC.sec_in hm (List.mem_append_right _ (List.mem_of_getElem? hx))
      simp only [List.length_append,List.length_map,List.length_cons,List.length_nil] at hB
      dsimp only
      rw [if_pos (by omega),aN hx,aB (by unfold I64;omega),aB (by unfold I64;omega),uI,aA,aB (by simp;omega),aB (aP hx' (by omega))]
      rfl
  · have hx':=(List.getElem?_eq_some_iff.1 hx).1
    have hs:=hC.sec_in hm (List.mem_append_left _ (List.mem_of_getElem? hx))
    simp only [List.length_cons,List.length_nil] at hB
    dsimp only
    rw [if_pos (by omega),aN hx,aB (by unfold I64;omega),aB (by unfold I64;omega),uI,aA,aB (by simp;omega),aB (aP hx' (by omega))]
    rfl

/-! ### Wishes -/

def qAD (t:Table) (el pos:Int) (i:Nat) (r:Route):List Expr:=if (⟨el,pos⟩:Setting)∈eQ (cZ r) then [auE t i 4] else []
theorem qPB (el pos:Int) (i:Nat) (r:Route):(qAD t el pos i r).length≤1:=by unfold qAD;split<;>simp
def lL (t:Table) (el pos:Int) (n:Nat):List Expr:=(List.range n).flatMap (rt t (qAD t el pos))
theorem qBV (el pos:Int) (n:Nat):(lL t el pos n).length≤1 * n:=gA (uF fun _ _ _=>qPB _ _ _ _) _
def zBT (t:Table) (p:Nat) (el:Int):Expr:=orE [orE (lL t el 2 t.routes.length),fM [vE ((inN t:Int)+(p:Int)),fR (orE (lL t el 1 t.routes.length))]]
theorem r_lies (hC:COk t) (ht:t.Wf) {p:Nat} {el:Int} (hp:t.points[p]?=some el) (hel:I64 el) (hb:b.length≤80000):iF (rcp t b) (p:Int)=some (rcp t (b++[⟨1,(inN t:Int)+(p:Int),0,zBT t p el⟩])):=by
  have hpl:=(List.getElem?_eq_some_iff.1 hp).1
  have hlm:=hC.lim
  have h3:=hC.base t.routes.length
  have h4:fC t=bK t t.routes.length:=rfl
  have h2:=(mZ t).1
  unfold iF
  dsimp only
  rw [kY t.routes.length (fun n=>(lL t el 1 n,lL t el 2 n)) (o:=(lL t el 1 t.routes.length,lL t el 2 t.routes.length)) (by simp [lL]) (by omega) (fun n hn=>?_) (by dsimp only;rw [if_neg (by omega)];rfl),aA]
  · dsimp only
    rw [aB (by unfold I64;omega),uI,aA,uK,aA,uK,aA,mP,aA,kN,aA,uK,aA,uJ (by omega),aA]
    rfl
  · have hr:=List.getElem?_eq_getElem hn
    have hm:=List.getElem_mem hn
    have w1:=qBV (t:=t) el 1 n
    have w2:=qBV (t:=t) el 2 n
    have hsum:=hC.sum _ hm
    unfold pA at hsum
    have hso:=qBU ht _ hm
    generalize t.routes[n]=r at hr hm hsum hso
    have hal:=jL (cZ r)
    have hal2:(cZ r).length≤200:=by simp only [cZ,List.length_append];omega
    have hok (k:Int) (h0:0≤k) (h1:k≤5):Setting.ok (⟨el,k⟩:Setting):=⟨hel,by show I64 k;unfold I64;omega⟩
    have ho:∀ s∈eQ (cZ r),Setting.ok s:=fun s hs=>hso s (ascS_mem.1 hs)
    have e1:lL t el 1 (n+1)=lL t el 1 n++qAD t el 1 n r:=by unfold lL;rw [iU,qAI hr]
    have e2:lL t el 2 (n+1)=lL t el 2 n++qAD t el 2 n r:=by unfold lL;rw [iU,qAI hr]
    dsimp only
    rw [e1,e2]
    generalize lL t el 1 n=A at w1
    generalize lL t el 2 n=B at w2
    rw [if_pos (by omega),aN hr,mB r (hC.ok.each r hm),aA,aN hp,yH _ _ (by unfold Cnt;omega) (hok 1 (by omega) (by omega)) ho,aA]
    have f1:(if decide ((⟨el,1⟩:Setting)∈eQ (cZ r))=true then aC (aX (rcp t b) (n:Int) 4) fun r20=>aD ((A++[r20]).length≤1000000000) (some (A++[r20])) else some A)=some (A++qAD t el 1 n r):=by
      unfold qAD
      by_cases h:(⟨el,1⟩:Setting)∈eQ (cZ r)
      · rw [if_pos (decide_eq_true h),tL hC hn (by omega) (by omega),aA,aB (by simp;omega),if_pos h]
      · rw [if_neg (by simpa using h),if_neg h,List.append_nil]
    rw [f1,aA,aN hp,yH _ _ (by unfold Cnt;omega) (hok 2 (by omega) (by omega)) ho,aA]
    unfold qAD
    by_cases h:(⟨el,2⟩:Setting)∈eQ (cZ r)
    · rw [if_pos (decide_eq_true h),tL hC hn (by omega) (by omega),aA,aB (by simp;omega),aB (aP hn (by omega)),if_pos h]
    · rw [if_neg (by simpa using h),if_neg h,List.append_nil,aB (aP hn (by omega))]

/-! ### The whole program -/

def qKH (t:Table) (i:Nat) (r:Route):List Rung:=[⟨1,iZ t i+4,0,qHY t i r⟩]
def qSX (t:Table) (p:Nat) (el:Int):List Rung:=[⟨1,(inN t:Int)+(p:Int),0,zBT t p el⟩]
def pU (t:Table):List Rung:=(List.range t.routes.length).flatMap (rt t (qO t))
def yZ (t:Table):List Rung:=(List.range t.routes.length).flatMap (rt t (qCQ t))
def qCG (t:Table):List Rung:=(List.range t.routes.length).flatMap (rt t (qKH t))
def qRO (t:Table):List Rung:=(List.range t.points.length).flatMap (pt t (qSX t))
def qCE (t:Table):List Rung:=(((pU t++yZ t)++qCG t)++qR t)++qRO t
abbrev prgX (t:Table):Program:=⟨rF t,(inN t:Int),qCE t⟩

theorem qKP (h:TOk t) (ht:t.Wf) (hs:uA t=true):lS t=some (if jQ t=0 then if 2000 < gB t then (⟨[],0,[]⟩,2) else (prgX t,0) else (⟨[],0,[]⟩,jQ t)):=by
  unfold lS
  rw [qMU t h,aA]
  by_cases hz:jQ t=0
  · obtain⟨hT,h1,h2,h3⟩:=vG hs
    have hC:COk t:=⟨h,h1,h2,h3,hz⟩
    rw [if_pos hz,if_pos hz,qPP hC,aA]
    dsimp only
    by_cases ha:2000 < gB t
    · rw [if_pos (by omega),if_pos ha]
    · rw [if_neg (by omega), if_neg ha]
      have hlm:=hC.lim
      have l1:(pU t).length≤2 * t.routes.length:=gA (uF fun _ _ _=>by simp [qO]) _
      have l2:(yZ t).length≤30 * t.routes.length:=gA (uF fun i _ _=>by rw [zJ];have:=hC.last24 i;omega) _
      have l3:(qCG t).length≤1 * t.routes.length:=gA (uF fun _ _ _=>by simp [qKH]) _
      have l4:(qR t).length≤1 * t.routes.length:=gA (fun _=>by simp [wB]) _
      have hai:=hC.base t.routes.length
      rw [nM (t:=t) (qO t) [] (c:=2) (by omega) (by omega) (by simp) (fun _ _ _=>by simp [qO]) (by omega) (fun i r B hr hB=>?_) (fun B=>by dsimp only;rw [if_neg (by omega)];rfl),aA,List.nil_append]
      · rw [nM (t := t) (qCQ t) _ (c := 30) (by omega) (by omega) (by unfold pU at l1; omega) (fun i _ _ => by rw [zJ]; have := hC.last24 i; omega) (by omega) (fun i r B hr hB => ?_) (fun B => by dsimp only; rw [if_neg (by omega)]; rfl), aA]
        · rw [nM (t := t) (qKH t) _ (c := 1) (by omega) (by omega) (by rw [List.length_append]; unfold pU at l1; unfold yZ at l2; omega) (fun _ _ _ => by simp [qKH]) (by omega) (fun i r B hr hB => ?_) (fun B => by dsimp only; rw [if_neg (by omega)]; rfl), aA]
          · rw [eW (wB t) _ t.routes.length (by omega) (fun i hi => ?_) (by dsimp only; rw [if_neg (by omega)]; rfl), aA]
            · rw [eW (pt t (qSX t)) _ t.points.length (by omega) (fun p hp => ?_) (by dsimp only; rw [if_neg (by omega)]; rfl), aA, qWA hC, aA]
              · rfl
              · have l6 : ((List.range p).flatMap (pt t (qSX t))).length ≤ 1 * p := gA (fun i => by unfold pt; split <;> simp [qSX]) _
                have hq:=List.getElem?_eq_getElem hp
                have hel:I64 t.points[p]:=ht.points.2 _ (List.getElem_mem hp)
                dsimp only
                rw [if_pos (by omega), r_lies hC ht hq hel (by
                  simp only [List.length_append]; unfold pU at l1; unfold yZ at l2; unfold qCG at l3; unfold qR at l4; omega), aA, aB (aP hp (by omega)), qNR hq]
                rfl
            · have l6 : ((List.range i).flatMap (wB t)).length ≤ 1 * i := gA (fun _ => by simp [wB]) _
              dsimp only
              rw [if_pos (by omega), sU hC hi (by omega) (by omega), aA, tL hC hi (by omega) (by omega), aA, tL hC hi (by omega) (by omega), aA, uK, aA, uJ (by
                  simp only [List.length_append]; unfold pU at l1; unfold yZ at l2; unfold qCG at l3; omega), aA, aB (aP hi (by omega))]
              rfl
          · have hi:=(List.getElem?_eq_some_iff.1 hr).1
            dsimp only
            rw [if_pos (by omega),qSA hC ht hr (by omega),aA,aB (aP hi (by omega))]
            rfl
        · have hi:=(List.getElem?_eq_some_iff.1 hr).1
          dsimp only
          rw [if_pos (by omega),qLT hC ht hr (by omega),aA,aB (aP hi (by omega))]
      · have hi:=(List.getElem?_eq_some_iff.1 hr).1
        dsimp only
        rw [if_pos (by omega),qRW hC hr (by omega),aA,aB (aP hi (by omega))]
  · rw [if_neg hz,if_neg hz]

end Go.Proofs.YtcagmechagiclaaGreatDoor

set_option linter.unusedVariables false
set_option linter.unusedSimpArgs false
set_option maxHeartbeats 400000
set_option maxRecDepth 100000
namespace Go.Proofs.YtcagmechagiclaaGreatDoor
open Go Go.TL

variable {t:Table} {b:List Rung} {i:Nat}

theorem qCH (hC:COk t):∀ n,n≤t.routes.length→inN t+t.points.length+((List.range n).flatMap (rt t (qCQ t))).length=bK t n+n
 | 0,_=>by rw [mL];simp
 | n+1,h=>by
  have hr:=List.getElem?_eq_getElem (show n < t.routes.length by omega)
  have h1:=qCH hC n (by omega)
  have hsec:=hC.secs (List.getElem_mem (show n < t.routes.length by omega))
  have hln:aM t n=t.routes[n].sections.length - 1:=by unfold aM;rw [hr]
  have hw:qAU t.routes[n]=5+t.routes[n].sections.length:=rfl
  rw [iU,List.length_append,lD hr,qAI hr,zJ]
  omega
theorem qLG (hC:COk t):(qCE t).length=gB t - inN t:=by
 have h1:(pU t).length=2 * t.routes.length:=xC (f:=qO t) (c:=2) (fun _ _ _=>rfl) _ (Nat.le_refl _)
 have h2:=qCH hC t.routes.length (Nat.le_refl _)
 have h3:(qCG t).length=1 * t.routes.length:=xC (f:=qKH t) (c:=1) (fun _ _ _=>rfl) _ (Nat.le_refl _)
 have h5:(qRO t).length=1 * t.points.length:=qLV (f:=qSX t) (c:=1) (fun _ _ _=>rfl) _ (Nat.le_refl _)
 have h6:(qR t).length=1 * t.routes.length:=fH (f:=wB t) (c:=1) (fun _=>rfl) _
 have ha:=qBY t
 have he:fC t=bK t t.routes.length:=rfl
 have hin:=mZ t
 unfold qCE
 simp only [List.length_append]
 unfold yZ
 omega
def qFS (x:Rung):Int×Int×Int:=(x.kind,x.var,x.preset)
theorem qTB (t:Table):(oV t).map qFS=(pU t).map qFS:=by
 unfold oV pU
 rw [List.map_flatMap,List.map_flatMap]
 congr 1
 funext i
 unfold rt
 cases t.routes[i]? with
 | none=>rfl
 | some r=>
  simp only [nW,qO,List.map_cons,List.map_nil,qFS,tmX]
  rw [show (bK t i:Int)+(4+(aM t i:Int))=(bK t i:Int)+4+(aM t i:Int)+0 by omega]
  simp
theorem qPZ {x:Rung} (h:x∈tH t++uC t++wK t++xS t++qR t):x.kind=1:=by
 simp only [List.mem_append] at h
 rcases h with (((hx|hx)|hx)|hx)|hx
 ·obtain⟨i,r,hi,hr,hx⟩:=rt_mem.1 hx
  unfold qU at hx
  simp only [List.mem_cons,List.not_mem_nil,or_false] at hx
  rcases hx with rfl|rfl|rfl|rfl<;>rfl
 ·obtain⟨i,r,hi,hr,hx⟩:=rt_mem.1 hx
  unfold mF at hx
  simp only [List.mem_append,List.mem_cons,List.not_mem_nil,or_false] at hx
  rcases hx with hx|rfl|rfl|rfl
  ·obtain⟨j,hj,rfl⟩:=rel_mem.1 hx;rfl
  all_goals rfl
 ·obtain⟨i,r,hi,hr,hx⟩:=rt_mem.1 hx
  unfold oD at hx
  simp only [List.mem_cons,List.not_mem_nil,or_false] at hx
  subst hx;rfl
 ·obtain⟨i,r,hi,hr,hx⟩:=pt_mem.1 hx
  unfold wT at hx
  simp only [List.mem_cons,List.not_mem_nil,or_false] at hx
  subst hx;rfl
 ·rw [show qR t=(List.range t.routes.length).flatMap (wB t) from rfl,List.mem_flatMap] at hx
  obtain⟨i,hi,hx⟩:=hx
  unfold wB at hx
  simp only [List.mem_cons,List.not_mem_nil,or_false] at hx
  subst hx;rfl

theorem qGW {t:Table} (ht:t.Wf):jB t=some true:=by
 unfold jB
 rw [qPD t ht,aA]
 cases hs:uA t with
 | false=>rw [Bool.not_false,if_pos rfl,qBP];rfl
 | true=>
  rw [Bool.not_true,if_neg Bool.false_ne_true]
  obtain⟨hT,h1,h2,h3⟩:=vG hs
  rw [qNC hT ht hs,qKP hT ht hs]
  by_cases hz:jQ t=0
  ·have hC:COk t:=⟨hT,h1,h2,h3,hz⟩
   have hlm:=hC.lim
   rw [if_pos hz,if_pos hz]
   by_cases ha:2000 < gB t
   ·rw [if_pos ha,if_pos ha,aA]
    dsimp only
    rw [aA]
    dsimp only
    rw [if_pos (by decide),if_pos rfl,if_pos (by simp),if_pos (by simp),qBP]
    rfl
   ·rw [if_neg ha,if_neg ha]
    have ha':gB t≤2000:=by omega
    have hin:=mZ t
    have l1:=yY hC
    have l2:=qLG hC
    have l3:=xG hC
    rw [aA]
    dsimp only
    rw [aA]
    dsimp only
    rw [if_neg (by simp),if_pos (by omega),if_pos rfl,if_pos (by omega),qPQ (prg_ok hC ht ha'),aA,qPN hC ht ha']
    rw [show (!decide ((0:Int)=0))=false from rfl,aA,if_neg Bool.false_ne_true]
    rw [kF (rF t) (fun _=>false) (.inr false) (.inl ()) (by omega) (fun i e he=>?_) (by rw [if_neg (by omega)];rfl),List.any_eq_false.2 (fun _ _=>by simp),if_neg (by simp),iW]
    ·rw [kF (qCE t) (fun _ => false) (.inr false) (.inl ()) (by omega) (fun i e he => ?_) (by rw [if_neg (by omega)]; rfl), List.any_eq_false.2 (fun _ _ => by simp), if_neg (by simp), iW, qBP]
     ·rfl
     ·have hi:=(List.getElem?_eq_some_iff.1 he).1
      obtain⟨x,hx⟩:∃ x,(mG t)[i]?=some x:=⟨_,List.getElem?_eq_getElem (by omega)⟩
      have r1:(oV t).length=2 * t.routes.length:=qFL
      have r2:(pU t).length=2 * t.routes.length:=xC (f:=qO t) (c:=2) (fun _ _ _=>rfl) _ (Nat.le_refl _)
      rw [if_pos (by omega),aN hx,aN he,aB (by unfold I64;omega),aB (by unfold I64;omega)]
      by_cases h2n:i < 2 * t.routes.length
      ·rw [if_pos (by omega)]
       have g1:(oV t)[i]?=some x:=by
        rw [← hx]
        unfold mG
        simp only [List.append_assoc]
        rw [List.getElem?_append_left (by omega)]
       have g2:(pU t)[i]?=some e:=by
        rw [← he]
        unfold qCE
        simp only [List.append_assoc]
        rw [List.getElem?_append_left (by omega)]
       have g3:qFS x=qFS e:=by
        have h4:=congrArg (fun l=>l[i]?) (qTB t)
        simp only [List.getElem?_map,g1,g2,Option.map_some,Option.some.injEq] at h4
        exact h4
       unfold qFS at g3
       simp only [Prod.mk.injEq] at g3
       rw [if_pos g3.1,if_pos g3.2.1,if_pos g3.2.2,if_neg (by omega),aA,if_neg Bool.false_ne_true,aB (aP hi (by omega)),if_neg Bool.false_ne_true]
      ·have hk : x.kind = 1 := qPZ (by
        have hx2 := hx
        unfold mG at hx2
        simp only [List.append_assoc] at hx2 ⊢
        rw [List.getElem?_append_right (by omega)] at hx2
        exact List.mem_of_getElem? hx2)
       rw [if_neg (by omega),if_pos (by omega),hk,aA,if_neg (by simp),aB (aP hi (by omega)),if_neg Bool.false_ne_true]
    ·have hi:=(List.getElem?_eq_some_iff.1 he).1
     rw [if_pos (by omega),aN he,aN he,if_pos rfl,aB (aP hi (by omega)),if_neg Bool.false_ne_true]
  ·rw [if_neg hz,if_neg hz,aA]
   dsimp only
   rw [aA]
   dsimp only
   rw [if_pos (by simp [hz]),if_pos rfl,if_pos (by simp),if_pos (by simp),qBP]
   rfl

end Go.Proofs.YtcagmechagiclaaGreatDoor
