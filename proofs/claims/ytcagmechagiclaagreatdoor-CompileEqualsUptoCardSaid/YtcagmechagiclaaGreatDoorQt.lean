/- Texts of this proof, joined, without what it does not use. No condition. -/
import Derived.Test.YtcagmechagiclaaGreatDoorQs

set_option linter.unusedVariables false
set_option linter.unusedSimpArgs false
set_option maxHeartbeats 400000
set_option maxRecDepth 100000
namespace Go.Proofs.YtcagmechagiclaaGreatDoor
open Go Go.TL
variable {t:Table} {i:Nat} {m:Machine} {I:List Bool} {p:Inputs} {s:Inter}
theorem qCC {α:Type} {f:Nat→List α} {c:Nat} (h:∀ i,(f i).length=c) {i k:Nat} (hk:k < c):∀ {n:Nat},i < n→((List.range n).flatMap f)[c * i+k]?=(f i)[k]?
 | 0,hi=>by omega
 | n+1,hi=>by
  rw [iY];have hl:=dY h n;by_cases he:i=n
  ·subst he;rw [List.getElem?_append_right (by omega),hl]
   congr 1
   omega
  have hlt:c * i+k < c * n:=by
   have:c * (i+1)≤c * n:=Nat.mul_le_mul (zQW _) (by omega);rw [Nat.mul_add] at this;omega
  rw [List.getElem?_append_left (by omega)];exact qCC h hk (by omega)
theorem qSB (l:List Bool) (k:Nat):knB l k false=!gM l (k:Int):=by
 unfold knB gM;rw [if_neg (by omega)];by_cases h:k < l.length
 ·rw [if_neg (by omega), show ((k : Int)).toNat = k by omega, zQR h, zQD, zQR h];cases l[k]<;>simp
 rw [if_pos (by omega), List.getElem?_eq_none (by omega)];rfl
theorem qVL (p:Inputs) (k:Nat):knB p.claimed k false=!eN p k:=by
 unfold knB eN;by_cases h:k < p.claimed.length
 ·have hd : decide (p.claimed.length ≤ k) = false := decide_eq_false (by omega);rw [hd,zQR h,zQD,zQR h];cases p.claimed[k]<;>simp
 have hd : decide (p.claimed.length ≤ k) = true := decide_eq_true (by omega);rw [hd,List.getElem?_eq_none (by omega)];rfl
theorem zAR (p:Inputs) (k:Nat):knB p.passed k true=lW p k:=by
 unfold knB lW;by_cases h:k < p.passed.length
 ·have hd:decide (k < p.passed.length)=true:=decide_eq_true h;rw [hd,zQR h,zQD,zQR h];cases p.passed[k]<;>simp
 have hd:decide (k < p.passed.length)=false:=decide_eq_false h;rw [hd,List.getElem?_eq_none (by omega)];rfl
theorem nS (_:COk t) {V:List Bool} (hV:∀ y:Nat,y < inN t→gV V (y:Int)=(bF t p).getD y false) {x:Int} (h0:0≤x) (h1:x < t.sections):gV V (2 * x)=!eJ p x∧gV V (2 * x+1)=!gM p.closed x:=by
 have hin:inN t=2 * t.sections.toNat+2 * t.points.length+4 * t.routes.length:=rfl;obtain⟨k,rfl⟩:=Int.eq_ofNat_of_zero_le h0;have hk:k < t.sections.toNat:=by omega
 have hl:=dY (f:=inS p) (c:=2) (λ_=>rfl) t.sections.toNat
 have g (j:Nat) (hj:j < 2):(bF t p)[2 * k+j]?=(inS p k)[j]?:=by
  unfold bF;rw [List.append_assoc,List.getElem?_append_left (by omega),qCC (f:=inS p) (λ_=>rfl) hj hk]
 constructor
 ·rw [show (2 : Int) * (k : Int) = ((2 * k + 0 : Nat) : Int) by omega, hV _ (by omega), zQD, g 0 (by omega)];show knB p.occupied k false=_;exact qSB _ _
 rw [show (2 : Int) * (k : Int) + 1 = ((2 * k + 1 : Nat) : Int) by omega, hV _ (by omega), zQD, g 1 (by omega)];show knB p.closed k false=_;exact qSB _ _
section ins
variable (hC:COk t) {V:List Bool} (hV:∀ y:Nat,y < inN t→gV V (y:Int)=(bF t p).getD y false)
include hC hV
theorem zET {r:Route} (hr:r∈t.routes) {x:Setting} (hx:x∈eG (bS r)):gV V (2 * t.sections+2 * tZ t x.el+if x.pos=2 then 1 else 0)=tS t p x:=by
 have hin:inN t=2 * t.sections.toNat+2 * t.points.length+4 * t.routes.length:=rfl;have hlm:=hC.lim;have hs:=hC.set_in hr hx;obtain⟨k,hk1,hk2,_⟩:=hC.home hr hx;have hl:=dY (f:=inS p) (c:=2) (λ_=>rfl) t.sections.toNat;have hl2:=dY (f:=inP p) (c:=2) (λ_=>rfl) t.points.length
 have g (j:Nat) (hj:j < 2):(bF t p)[2 * t.sections.toNat+(2 * k+j)]?=(inP p k)[j]?:=by
  unfold bF;rw [List.append_assoc,List.getElem?_append_right (by omega),hl,List.getElem?_append_left (by omega),show 2 * t.sections.toNat+(2 * k+j) - 2 * t.sections.toNat=2 * k+j by omega,qCC (f:=inP p) (λ_=>rfl) hj hk2]
 have hpl:aK t x.el=k:=by
  unfold aK;have:fM (bY t.points x.el)=(k:Int):=hk1
  cases e:bY t.points x.el with
  | none=>rw [e] at this;simp only [fM] at this;omega
  | some q=>rw [e] at this;simp only [fM] at this;simp only [Option.getD_some];omega
 unfold tS;rw [hpl,hk1];by_cases h2:x.pos=2
 ·rw [if_pos h2, show 2 * t.sections + 2 * (k : Int) + 1 = ((2 * t.sections.toNat + (2 * k + 1) : Nat) : Int) by omega, hV _ (by omega), zQD, g 1 (by omega), h2];rfl
 rw [if_neg h2, show 2 * t.sections + 2 * (k : Int) + 0 = ((2 * t.sections.toNat + (2 * k + 0) : Nat) : Int) by omega, hV _ (by omega), zQD, g 0 (by omega), show x.pos = 1 by omega];rfl
theorem qV (hi:i < t.routes.length):gV V (oH t i+0)=!eN p i∧gV V (oH t i+1)=lW p i∧gV V (oH t i+2)=decide ((i:Int)∈p.calls)∧gV V (oH t i+3)=lZ p i:=by
 have hin:inN t=2 * t.sections.toNat+2 * t.points.length+4 * t.routes.length:=rfl;have hlm:=hC.lim;have hl:=dY (f:=inS p) (c:=2) (λ_=>rfl) t.sections.toNat;have hl2:=dY (f:=inP p) (c:=2) (λ_=>rfl) t.points.length;have hl3:=dY (f:=inR p) (c:=4) (λ_=>rfl) t.routes.length
 have g (j:Nat) (hj:j < 4):gV V (oH t i+(j:Int))=((inR p i)[j]?).getD false:=by
  rw [show oH t i+(j:Int)=((2 * t.sections.toNat+2 * t.points.length+(4 * i+j):Nat):Int) by unfold oH;omega,hV _ (by omega),zQD];unfold bF;rw [List.getElem?_append_right (by rw [zQL];omega),zQL,hl,hl2,show 2 * t.sections.toNat+2 * t.points.length+(4 * i+j) - (2 * t.sections.toNat+2 * t.points.length)=4 * i+j by omega,qCC (f:=inR p) (λ_=>rfl) hj hi]
 refine⟨(g 0 (by omega)).trans (qVL p i),(g 1 (by omega)).trans (zAR p i),g 2 (by omega),g 3 (by omega)⟩
end ins
structure Rep (t:Table) (m:Machine) (s:Inter):Prop where
 ok:MOk t m
 sound:fU t s=true
 bit:∀ i,i < t.routes.length→∀ k:Nat,k < 4→vb m (aF t i+k)=decide ((xAt s i).state=(k:Int)+1)
 rel:∀ i,i < t.routes.length→∀ k:Nat,k < aH t i→vb m (aF t i+4+k)=decide ((k:Int) < (xAt s i).rel)
 cnt4:∀ i,i < t.routes.length→(xAt s i).state=4→cn m (2 * i)=(xAt s i).timer
 cnt3:∀ i,i < t.routes.length→(xAt s i).state=3→cn m (2 * i+1)=(xAt s i).timer
 lie:∀ k,k < t.points.length→vb m (inN t+k)=decide (s.lies[k]?=some 2)
theorem nU {x:RouteState} {n:Nat} (h:bT x (n:Int)=true) (hn:0 < n):(x.state=0∨x.state=1∨x.state=2∨x.state=3∨x.state=4)∧0≤x.rel∧x.rel < (n:Int)∧(x.state < 3→x.rel=0∧x.timer=0)∧(x.state=3→0≤x.timer∧x.timer < 4)∧(x.state=4→0≤x.timer∧x.timer < 12):=by
 unfold bT at h;split at h
 ·have:=of_decide_eq_true h;omega
 split at h
 ·have:=of_decide_eq_true h;omega
 split at h
 ·have:=of_decide_eq_true h;omega
 cases h
theorem qZS (hC:COk t) (ha:dU t≤2000) (h:Rep t m s):qUF t m=s∧qPD t m=qUM t s:=by
 have hf:=cV h.sound;have hf':=fitsB_iff.1 hf;have hfit:=h.ok.fitsN hC ha;constructor
 ·unfold qUF
  have e1:(List.range t.routes.length).map (rsI t m)=s.routes:=by
   apply List.ext_getElem?;intro k;rw [zQP];by_cases hk:k < t.routes.length
   ·have H:=eB hf hk;have hsec:=hC.secs H.mem;have F:=nU H.fits hsec.1;have hln:aH t k=(rAt t k).sections.length - 1:=by unfold aH;rw [H.r]
    rw [List.getElem?_range hk,H.x];simp only [Option.map_some]
    congr 1
    have b0:=h.bit k hk 0 (by omega);have b1:=h.bit k hk 1 (by omega);have b2:=h.bit k hk 2 (by omega);have b3:=h.bit k hk 3 (by omega);rw [Nat.add_zero] at b0
    have hst:stI m (aF t k)=(xAt s k).state:=by
     unfold stI;rw [b0,b1,b2,b3];simp only [decide_eq_true_eq];rcases F.1 with e|e|e|e|e<;>rw [e]<;>simp
    have hlead:(oU (λc=>vb m (aF t k+4+c)) (aH t k):Int)=(xAt s k).rel:=by
     have hle:=qRX (λc=>vb m (aF t k+4+c)) (aH t k)
     have g1:∀ c,c < oU (λc=>vb m (aF t k+4+c)) (aH t k)→(c:Int) < (xAt s k).rel:=λc hc=>by
      have:=qRW hc;rw [h.rel k hk c (by omega)] at this;exact of_decide_eq_true this
     rcases Nat.lt_or_ge (oU (λc=>vb m (aF t k+4+c)) (aH t k)) (aH t k) with h1|h1
     ·have g2:=qLR h1;rw [h.rel k hk _ h1] at g2;have g3:=of_decide_eq_false g2;rcases Int.lt_or_le (xAt s k).rel (oU (λc=>vb m (aF t k+4+c)) (aH t k):Int) with h2|h2
      ·have := g1 (xAt s k).rel.toNat (by omega);omega
      omega
     rcases Int.lt_or_le (xAt s k).rel (oU (fun c => vb m (aF t k + 4 + c)) (aH t k) : Int) with h2 | h2
     ·have := g1 (xAt s k).rel.toNat (by omega);omega
     omega
    unfold rsI;rw [hst,hlead];generalize hx:xAt s k=x at *;obtain⟨st,rel,tim⟩:=x;dsimp only at *;by_cases e4:st=4
    ·rw [if_pos e4,h.cnt4 k hk (by rw [hx];exact e4),hx,e4]
    by_cases e3:st=3
    ·rw [if_neg e4,if_pos e3,h.cnt3 k hk (by rw [hx];exact e3),hx,e3]
    rw [if_neg e4,if_neg e3];have:=F.2.2.2.1 (by omega);rw [this.1,this.2]
   rw [List.getElem?_eq_none (by simpa using hk), List.getElem?_eq_none (by omega)];rfl
  have e2:(List.range t.points.length).map (zEN t m)=s.lies:=by
   apply List.ext_getElem?;intro k;rw [zQP];by_cases hk:k < t.points.length
   ·have hx : s.lies[k]? = some (s.lies[k]'(by omega)) := zQR (by omega);have hl:=h.lie k hk;have hb:=hf'.2.2.2.2 _ (zQM hx);rw [hx] at hl;rw [List.getElem?_range hk,hx];simp only [Option.map_some]
    congr 1
    unfold zEN;rw [hl];have hb2:=of_decide_eq_true hb;generalize s.lies[k]'(by omega)=v at hb2;rcases hb2 with rfl|rfl<;>simp
   rw [List.getElem?_eq_none (by simpa using hk), List.getElem?_eq_none (by omega)];rfl
  rw [e1,e2]
 unfold qPD qUM qG;rw [if_pos ⟨hfit,h.ok.run⟩];unfold nV
 congr 1
 funext g
 apply Bool.eq_iff_iff.2;rw [zQU,zQU];constructor
 ·rintro⟨k,hk,hb⟩;have hk':=List.mem_range.1 hk;have H:=eB hf hk';refine⟨k,hk,?_⟩;have b1:=h.bit k hk' 1 (by omega);rw [b1,H.r] at hb;simp only [Option.map_some,zQA,decide_eq_true_eq,Option.some.injEq] at hb ⊢;exact⟨by omega,hb.2⟩
 rintro⟨k,hk,hb⟩;have hk':=List.mem_range.1 hk;have H:=eB hf hk';refine⟨k,hk,?_⟩;have b1:=h.bit k hk' 1 (by omega);rw [b1,H.r];simp only [Option.map_some,zQA,decide_eq_true_eq,Option.some.injEq] at hb ⊢;exact⟨by omega,hb.2⟩
theorem qZT (hC:COk t) (ht:t.Wf) (ha:dU t≤2000):Rep t (qR (wN t)) (vF t):=by
 have hsv:=qUG hC ht ha;have hst:vF t=⟨List.replicate t.routes.length idleX,List.replicate t.points.length 1⟩:=by unfold vF;rw [if_pos hC.chk]
 have hx:∀ i,i < t.routes.length→xAt (vF t) i=idleX:=λi hi=>by
  unfold xAt;rw [hst,List.getElem?_replicate,if_pos hi];rfl
 refine⟨qYY hC ht ha,qPZ hC.chk,λi hi k hk=>?_,λi hi k hk=>?_,λi hi h=>?_,λi hi h=>?_,λk hk=>?_⟩
 ·rw [hsv,qHC,hx i hi,decide_eq_false (by show ¬ (0:Int)=(k:Int)+1;omega)]
 ·rw [hsv,qHC,hx i hi,decide_eq_false (by show ¬ (k:Int) < 0;omega)]
 ·rw [hx i hi] at h;exact absurd h (by decide)
 ·rw [hx i hi] at h;exact absurd h (by decide)
 rw [hsv,qHC,hst,decide_eq_false];rw [List.getElem?_replicate,if_pos hk];simp
variable {t:Table} {i:Nat} {m:Machine} {I:List Bool} {p:Inputs} {s:Inter} {W:List Bool}
theorem qWJ {α β:Type} {f:Nat→α→β} {P:β→Bool} {l:List α}:(l.mapIdx f).all P=true↔∀ k e,l[k]?=some e→P (f k e)=true:=by
 rw [zQT];constructor
 ·intro h k e he;exact h _ (zQM (i:=k) (by rw [List.getElem?_mapIdx,he];rfl))
 intro h x hx;obtain⟨k,hk⟩:=List.getElem?_of_mem hx;rw [List.getElem?_mapIdx] at hk
 cases he:l[k]? with
 | none=>rw [he] at hk;cases hk
 | some e=>rw [he] at hk;cases hk;exact h k e he
theorem qWI {α β:Type} {f:Nat→α→β} {P:β→Bool} {l:List α}:(l.mapIdx f).any P=true↔∃ k e,l[k]?=some e∧P (f k e)=true:=by
 rw [zQU];constructor
 ·rintro⟨x,hx,hp⟩;obtain⟨k,hk⟩:=List.getElem?_of_mem hx;rw [List.getElem?_mapIdx] at hk
  cases he:l[k]? with
  | none=>rw [he] at hk;cases hk
  | some e=>rw [he] at hk;cases hk;exact⟨k,e,he,hp⟩
 rintro⟨k,e,he,hp⟩;exact⟨_,zQM (i:=k) (by rw [List.getElem?_mapIdx,he];rfl),hp⟩
theorem qLN {α:Type} (f:Nat→α) {i:Nat}:∀ {n:Nat},i < n→∃ R,(List.range n).map f=(List.range i).map f++(f i :: R)
 | 0,h=>by omega
 | n+1,h=>by
  by_cases he:i=n
  ·subst he;exact⟨[],by rw [xO]⟩
  obtain ⟨R, hR⟩ := qLN f (n := n) (i := i) (by omega);exact⟨R++[f n],by rw [xO,hR];simp only [List.append_assoc,List.cons_append]⟩
structure Env (t:Table) (p:Inputs) (x:RouteState) (i:Nat) (W:List Bool):Prop where
 inp:∀ y:Nat,y < inN t→gV W (y:Int)=(bF t p).getD y false
 st0:gV W ((aF t i:Int)+0)=decide (x.state=1)
 st1:gV W ((aF t i:Int)+1)=decide (x.state=2)
 st2:gV W ((aF t i:Int)+2)=decide (x.state=3)
 st3:gV W ((aF t i:Int)+3)=decide (x.state=4)
 rel:∀ k:Nat,k < aH t i→gV W ((aF t i:Int)+(4+(k:Int)))=decide ((k:Int) < x.rel)
theorem qNU (S:ScanV t m (bF t p)) (R:Rep t m s) (hi:i < t.routes.length):Env t p (xAt s i) i (qAJ t m (bF t p)):=by
 have hr:=zQR hi;have hb:=(qMT S.hC hi (k:=0) (by omega) (by omega)).1;refine⟨λy hy=>qVB S hy,?_,?_,?_,?_,λk hk=>?_⟩
 ·rw [show (aF t i : Int) + 0 = ((aF t i + 0 : Nat) : Int) by omega, vO S (by omega), R.bit i hi 0 (by omega)];rfl
 ·rw [show (aF t i : Int) + 1 = ((aF t i + 1 : Nat) : Int) by omega, vO S (by omega), R.bit i hi 1 (by omega)];rfl
 ·rw [show (aF t i : Int) + 2 = ((aF t i + 2 : Nat) : Int) by omega, vO S (by omega), R.bit i hi 2 (by omega)];rfl
 ·rw [show (aF t i : Int) + 3 = ((aF t i + 3 : Nat) : Int) by omega, vO S (by omega), R.bit i hi 3 (by omega)];rfl
 rw [show (aF t i:Int)+(4+(k:Int))=((aF t i+4+k:Nat):Int) by omega,vO S (by omega),R.rel i hi k hk]
theorem qNM (S:ScanV t m (bF t p)) {A B:List Int} (h:Rd t m (bF t p) W A B):∀ y:Nat,y < inN t→gV W (y:Int)=(bF t p).getD y false:=λy hy=>by
 rw [h.inp _ (by omega)];exact qVB S hy
theorem qDI (S:ScanV t m (bF t p)) (R:Rep t m s) (hi:i < t.routes.length) {A:List Int} (h:Rd t m (bF t p) W A (vs (kP t)++vs (kU t))):Env t p (xAt s i) i W:=by
 have hr:=zQR hi;have E:=qNU S R hi;refine⟨qNM S h,?_,?_,?_,?_,λk hk=>?_⟩
 ·rw [h.old _ (List.mem_append_right _ (zNT hr))];exact E.st0
 ·rw [h.old _ (List.mem_append_left _ (v_st hr (by omega) (by omega)))];exact E.st1
 ·rw [h.old _ (List.mem_append_left _ (v_st hr (by omega) (by omega)))];exact E.st2
 ·rw [h.old _ (List.mem_append_left _ (v_st hr (by omega) (by omega)))];exact E.st3
 rw [h.old _ (List.mem_append_left _ (zNU hr hk))];exact E.rel k hk
theorem zOJ (_:COk t) {x:RouteState} {r:Route} (_:t.routes[i]?=some r) (E:Env t p x i W) (h0:0≤x.rel) (h1:x.rel≤(aH t i:Int)):evE W (atE t i)=decide (x.rel=(aH t i:Int)):=by
 unfold atE;split
 ·rw [mL];simp only [List.all_nil];rw [decide_eq_true (by omega)]
 rename_i hne;rw [kT,show (aF t i:Int)+(4+((aH t i:Int) - 1))=(aF t i:Int)+(4+((aH t i - 1:Nat):Int)) by omega,E.rel _ (by omega),Bool.eq_iff_iff,decide_eq_true_eq,decide_eq_true_eq];omega
section evals
variable (hC:COk t) {x:RouteState} {r:Route} (hr:t.routes[i]?=some r) (E:Env t p x i W) (h0:0≤x.rel) (h1:x.rel≤(aH t i:Int))
include hC hr E h0 h1
theorem qOW:evE W (tR t i r)=!(r.sections.drop x.rel.toNat).any (eJ p):=by
 have hm:=zQM hr;have hln:aH t i=r.sections.length - 1:=by unfold aH;rw [hr]
 have hsec:=hC.secs hm;unfold tR;rw [mL,Bool.eq_iff_iff,qWJ,Bool.not_eq_true',List.any_eq_false];constructor
 ·intro h n hn;obtain⟨k,hk⟩:=List.getElem?_of_mem hn;rw [List.getElem?_drop] at hk;have hx':=(zQQ.1 hk).1;have hs:=hC.sec_in hm (List.mem_append_left _ (zQM hk));have h2:=h _ n hk;have hf:=(nS hC E.inp hs.1 hs.2).1;split at h2
  ·rename_i hl;rw [qQ] at h2;simp only [List.any_cons,List.any_nil,Bool.or_false,kT] at h2;rw [E.rel _ hl,hf,decide_eq_false (by omega),Bool.false_or] at h2;intro hc;rw [hc] at h2;cases h2
  rw [kT,hf] at h2;intro hc;rw [hc] at h2;cases h2
 intro h k n hk;have hx':=(zQQ.1 hk).1;have hs:=hC.sec_in hm (List.mem_append_left _ (zQM hk));have hf:=(nS hC E.inp hs.1 hs.2).1
 have key:¬ (k:Int) < x.rel→eJ p n=false:=λhge=>by
  have:=h n (zQM (i:=k - x.rel.toNat) (by rw [List.getElem?_drop,show x.rel.toNat+(k - x.rel.toNat)=k by omega];exact hk));simpa using this
 split
 ·rename_i hl;rw [qQ];simp only [List.any_cons,List.any_nil,Bool.or_false,kT];rw [E.rel k hl,hf];by_cases hlt:(k:Int) < x.rel
  ·rw [decide_eq_true hlt,Bool.true_or]
  rw [key hlt];simp
 rw [kT,hf,key (by omega)];rfl
theorem zFC:evE W (qVW t i r)=!eJ p (eH r x.rel):=by
 have hm:=zQM hr;have hln:aH t i=r.sections.length - 1:=by unfold aH;rw [hr]
 have hsec:=hC.secs hm
 have hat:r.sections[x.rel.toNat]?=some (eH r x.rel):=by
  unfold eH;rw [zQD,zQR (by omega)];rfl
 have hsA:=hC.sec_in hm (List.mem_append_left _ (zQM hat));have hfA:=(nS hC E.inp hsA.1 hsA.2).1;unfold qVW;rw [qQ,Bool.eq_iff_iff,qWI];constructor
 ·rintro⟨k,n,hk,hh⟩;have hx':=(zQQ.1 hk).1;rw [mL,List.all_append,List.all_append] at hh;simp only [zQA] at hh;obtain⟨⟨g1,g2⟩,g3⟩:=hh
  have hke:(k:Int)=x.rel:=by
   have l1:(k:Int)≤x.rel:=by
    by_cases hz:0 < k
    ·rw [if_pos hz] at g2;simp only [List.all_cons,List.all_nil,Bool.and_true,kT] at g2;rw [show (aF t i:Int)+(4+((k:Int) - 1))=(aF t i:Int)+(4+((k - 1:Nat):Int)) by omega,E.rel _ (by omega)] at g2;have:=of_decide_eq_true g2;omega
    omega
   have l2:x.rel≤(k:Int):=by
    by_cases hz:k < aH t i
    ·rw [if_pos hz] at g3;simp only [List.all_cons,List.all_nil,Bool.and_true,pA,kT] at g3;rw [E.rel _ hz] at g3;simp only [Bool.not_eq_true',decide_eq_false_iff_not] at g3;omega
    omega
   omega
  simp only [List.all_cons,List.all_nil,Bool.and_true,kT] at g1
  have:n=eH r x.rel:=by
   rw [← hke] at hat;rw [show ((k:Int)).toNat=k by omega,hk] at hat;rw [← hke];exact Option.some.inj hat
  rw [this,hfA] at g1;exact g1
 intro hh;refine⟨x.rel.toNat,_,hat,?_⟩;rw [mL,List.all_append,List.all_append];simp only [zQA];refine⟨⟨?_,?_⟩,?_⟩
 ·simp only [List.all_cons,List.all_nil,Bool.and_true,kT];rw [hfA];exact hh
 ·split
  ·rename_i hz;simp only [List.all_cons,List.all_nil,Bool.and_true,kT];rw [show (aF t i:Int)+(4+((x.rel.toNat:Int) - 1))=(aF t i:Int)+(4+((x.rel.toNat - 1:Nat):Int)) by omega,E.rel _ (by omega),decide_eq_true (by omega)]
  rfl
 split
 ·rename_i hz;simp only [List.all_cons,List.all_nil,Bool.and_true,pA,kT];rw [E.rel _ hz,decide_eq_false (by omega)];rfl
 rfl
end evals
theorem qGN (hC:COk t) (hV:∀ y:Nat,y < inN t→gV W (y:Int)=(bF t p).getD y false) {r:Route} (hr:r∈t.routes):evE W (qBG t r)=jH t p r:=by
 unfold qBG jH;rw [mL,List.all_append,List.all_map,List.all_map]
 congr 1
 ·rw [Bool.eq_iff_iff,zQT,Bool.not_eq_true',List.any_eq_false];constructor
  ·intro h n hn;have hs:=hC.sec_in hr hn;have h2:=h n hn;simp only [Function.comp,kT] at h2;rw [(nS hC hV hs.1 hs.2).1] at h2;intro hc;rw [hc] at h2;cases h2
  intro h n hn;have hs:=hC.sec_in hr hn;have h2:=h n hn;simp only [Function.comp,kT];rw [(nS hC hV hs.1 hs.2).1];simpa using h2
 rw [Bool.eq_iff_iff,zQT,zQT];constructor
 ·intro h e he;have h2:=h e he;simp only [Function.comp] at h2;unfold qZW at h2;rw [kT,zET hC hV hr he] at h2;exact h2
 intro h e he;have h2:=h e he;simp only [Function.comp];unfold qZW;rw [kT,zET hC hV hr he];exact h2
structure Vals where
 wait:Bool
 stand:Bool
 wc:Int
 sc:Int
 keep:Bool
 clears:Bool
 use:Bool
 hold:Bool
def wT (v:Bool) (c n:Int):Int:=if v=true then (if c < n then c+1 else c) else 0
def uE (v:Bool) (c n:Int):Bool:=v&&decide (wT v c n=n)
theorem qMK (x v n:Int) (e:Expr) (b:Bool) (c:Int):wP ⟨2,x,n,e⟩ b c=(wT b c n,uE b c n):=by
 unfold wP wT uE wT;dsimp only;rw [if_pos rfl]
 cases b with
 | false=>rfl
 | true=>
  rw [if_pos rfl,if_pos rfl];split<;>simp_all
section vals
variable (S:ScanV t m (bF t p)) (R:Rep t m s) {r:Route} (hr:t.routes[i]?=some r)
include S R hr
theorem pM:0≤(xAt s i).rel∧(xAt s i).rel≤(aH t i:Int)∧rAt t i=r:=by
 have hi:=(zQQ.1 hr).1;have H:=eB (cV R.sound) hi;have hsec:=S.hC.secs H.mem;have F:=nU H.fits hsec.1;have hrr:rAt t i=r:=by have:=H.r;rw [hr] at this;exact (Option.some.inj this).symm
 have hln:aH t i=r.sections.length - 1:=by unfold aH;rw [hr]
 rw [hrr] at F hsec;exact⟨F.2.1,by omega,hrr⟩
theorem qRM:
  gV (gZ t m (bF t p)) ((aF t i:Int)+(4+(aH t i:Int)))=uE (decide ((xAt s i).state=4)&&!eN p i&&!(r.sections.drop (xAt s i).rel.toNat).any (eJ p)) (cn m (2 * i)) 12
  ∧ (qKN t m (bF t p))[2 * i]?=some (wT (decide ((xAt s i).state=4)&&!eN p i&&!(r.sections.drop (xAt s i).rel.toNat).any (eJ p)) (cn m (2 * i)) 12)
  ∧ gV (gZ t m (bF t p)) ((aF t i:Int)+(4+(aH t i:Int))+1)=uE (decide ((xAt s i).state=3)&&!eN p i&&decide ((xAt s i).rel=(aH t i:Int))&&eJ p (oF t i r)) (cn m (2 * i+1)) 4
  ∧ (qKN t m (bF t p))[2 * i+1]?=some (wT (decide ((xAt s i).state=3)&&!eN p i&&decide ((xAt s i).rel=(aH t i:Int))&&eJ p (oF t i r)) (cn m (2 * i+1)) 4):=by
 have hi:=(zQQ.1 hr).1;obtain⟨h0,h1,_⟩:=pM S R hr;have hl:=qGH S.hC hr;obtain⟨W1,a1,a2,a3⟩:=at1 S hr (P:=[]) (x:=⟨2,(aF t i:Int)+(4+(aH t i:Int)),12,lU [vE ((aF t i:Int)+3),vE (oH t i+0),tR t i r]⟩) (Q:=[⟨2,(aF t i:Int)+(4+(aH t i:Int))+1,4,lU [vE ((aF t i:Int)+2),vE (oH t i+0),atE t i,nB (iH (oF t i r))]⟩]) rfl;obtain⟨W2,b1,b2,b3⟩:=at1 S hr (P:=[⟨2,(aF t i:Int)+(4+(aH t i:Int)),12,lU [vE ((aF t i:Int)+3),vE (oH t i+0),tR t i r]⟩]) (x:=⟨2,(aF t i:Int)+(4+(aH t i:Int))+1,4,lU [vE ((aF t i:Int)+2),vE (oH t i+0),atE t i,nB (iH (oF t i r))]⟩) (Q:=[]) rfl;have E1:=qDI S R hi (a1.mono (λy hy=>hy) (λy hy=>by simp only [zQN] at *; grind));have E2:=qDI S R hi (b1.mono (λy hy=>hy) (λy hy=>by simp only [zQN] at *; grind))
 have v1:evE W1 (lU [vE ((aF t i:Int)+3),vE (oH t i+0),tR t i r])=(decide ((xAt s i).state=4)&&!eN p i&&!(r.sections.drop (xAt s i).rel.toNat).any (eJ p)):=by
  rw [mL];simp only [List.all_cons,List.all_nil,Bool.and_true,kT,E1.st3,(qV S.hC E1.inp hi).1,qOW S.hC hr E1 h0 h1,Bool.and_assoc]
 have v2:evE W2 (lU [vE ((aF t i:Int)+2),vE (oH t i+0),atE t i,nB (iH (oF t i r))])=(decide ((xAt s i).state=3)&&!eN p i&&decide ((xAt s i).rel=(aH t i:Int))&&eJ p (oF t i r)):=by
  rw [mL];simp only [List.all_cons,List.all_nil,Bool.and_true,pA,kT,E2.st2,(qV S.hC E2.inp hi).1,zOJ S.hC hr E2 h0 h1,(nS S.hC E2.inp hl.1 hl.2).1,Bool.and_assoc,Bool.not_not]
 dsimp only at a2 a3 b2 b3;rw [qMK _ 0,v1] at a2 a3;rw [qMK _ 0,v2] at b2 b3;exact⟨a2,a3,b2,b3⟩
theorem zJQ:gV (gZ t m (bF t p)) (dL t i+0)=(decide ((xAt s i).state=1)&&!lZ p i&&!jH t p r):=by
 have hi:=(zQQ.1 hr).1;obtain⟨W,a1,a2⟩:=zIY S hr;have E:=qDI S R hi a1;rw [a2];unfold xT;rw [mL];simp only [List.all_cons,List.all_nil,Bool.and_true,pA,kT,E.st0,(qV S.hC E.inp hi).2.2.2,qGN S.hC E.inp (zQM hr),Bool.and_assoc]
theorem qRN:gV (gZ t m (bF t p)) ((aF t i:Int)+1)=((decide ((xAt s i).state=1)||decide ((xAt s i).state=2))&&!lZ p i&&jH t p r):=by
 have hi:=(zQQ.1 hr).1;obtain⟨W,a1,a2⟩:=zCU S hr;have E:=qNU S R hi;have hv:=qNM S a1;have s0:gV W ((aF t i:Int)+0)=decide ((xAt s i).state=1):=by rw [a1.old _ (List.mem_append_right _ (zNT hr))];exact E.st0
 have s1:gV W ((aF t i:Int)+1)=decide ((xAt s i).state=2):=by rw [a1.old _ (List.mem_append_left _ List.mem_cons_self)];exact E.st1
 rw [a2];unfold lY;rw [mL];simp only [List.all_cons,List.all_nil,Bool.and_true,pA,qQ,List.any_cons,List.any_nil,Bool.or_false,kT,s0,s1,(qV S.hC hv hi).2.2.2,qGN S.hC hv (zQM hr),Bool.and_assoc]
theorem n_useV:gV (gZ t m (bF t p)) (dL t i+1)=((decide ((xAt s i).state=2)&&eJ p (oZ r))||(decide ((xAt s i).state=3)&&(eN p i||(!(lZ p i&&!(r.sections.drop (xAt s i).rel.toNat).any (eJ p))&&!(decide ((xAt s i).rel=(aH t i:Int))&&!eJ p (oF t i r))&&!gV (gZ t m (bF t p)) ((aF t i:Int)+(4+(aH t i:Int))+1))))||(decide ((xAt s i).state=4)&&eJ p (eH r (xAt s i).rel))):=by
 have hi:=(zQQ.1 hr).1;obtain⟨h0,h1,_⟩:=pM S R hr;have hl:=qGH S.hC hr;have hf:=qGI S.hC hr;obtain⟨W,a1,a2⟩:=rd_use S hr;have E:=qDI S R hi a1;rw [a2];unfold qHG qMV;rw [qQ];simp only [List.all_cons,List.all_nil,Bool.and_true,mL,pA,qQ,List.any_cons,List.any_nil,Bool.or_false,kT,E.st1,E.st2,E.st3,(qV S.hC E.inp hi).2.2.2,(qV S.hC E.inp hi).1,qOW S.hC hr E h0 h1,zOJ S.hC hr E h0 h1,zFC S.hC hr E h0 h1,(nS S.hC E.inp hl.1 hl.2).1,(nS S.hC E.inp hf.1 hf.2).1,a1.new _ (zIK hr),Bool.and_assoc,Bool.or_assoc,Bool.not_not]
theorem zJR:gV (gZ t m (bF t p)) (dL t i+2)=((decide ((xAt s i).state=2)&&!eJ p (oZ r)&&!(lZ p i&&!eN p i&&!eJ p r.approach)&&(lZ p i||!jH t p r))||(decide ((xAt s i).state=3)&&!eN p i&&lZ p i&&!(r.sections.drop (xAt s i).rel.toNat).any (eJ p))||(decide ((xAt s i).state=4)&&!eJ p (eH r (xAt s i).rel)&&!gV (gZ t m (bF t p)) ((aF t i:Int)+(4+(aH t i:Int))))):=by
 have hi:=(zQQ.1 hr).1;have hm:=zQM hr;obtain⟨h0,h1,_⟩:=pM S R hr;have hf:=qGI S.hC hr;have ha:=S.hC.appr hm;obtain⟨W,a1,a2⟩:=zIZ S hr;have E:=qDI S R hi a1;rw [a2];unfold xY zBQ;rw [qQ];simp only [List.all_cons,List.all_nil,Bool.and_true,mL,pA,qQ,List.any_cons,List.any_nil,Bool.or_false,kT,E.st1,E.st2,E.st3,(qV S.hC E.inp hi).2.2.2,(qV S.hC E.inp hi).1,qOW S.hC hr E h0 h1,zFC S.hC hr E h0 h1,qGN S.hC E.inp hm,(nS S.hC E.inp ha.1 ha.2).1,(nS S.hC E.inp hf.1 hf.2).1,a1.new _ (v_wait hr),Bool.and_assoc,Bool.or_assoc,Bool.not_not]
theorem n_actV:gV (gZ t m (bF t p)) (dL t i+3)=(gV (gZ t m (bF t p)) (dL t i+0)||gV (gZ t m (bF t p)) ((aF t i:Int)+1)||gV (gZ t m (bF t p)) (dL t i+1)||gV (gZ t m (bF t p)) (dL t i+2)):=by
 have hi:=(zQQ.1 hr).1;obtain⟨W,a1,a2⟩:=rd_act S hr;have E:=qDI S R hi a1;rw [a2,qRN S R hr];unfold qKA lY;rw [qQ];simp only [List.all_cons,List.all_nil,Bool.and_true,mL,pA,qQ,List.any_cons,List.any_nil,Bool.or_false,kT,E.st0,E.st1,(qV S.hC E.inp hi).2.2.2,qGN S.hC E.inp (zQM hr),Bool.and_assoc,Bool.or_assoc];rw [a1.new _ (List.mem_append_right _ (by simp)),a1.new _ (List.mem_append_right _ (by simp)),a1.new _ (List.mem_append_right _ (by simp))]
theorem n_relV {k:Nat} (hk:k < aH t i):gV (gZ t m (bF t p)) ((aF t i:Int)+(4+(k:Int)))=((gV (gZ t m (bF t p)) (dL t i+1)||gV (gZ t m (bF t p)) (dL t i+2))&&(decide ((k:Int) < (xAt s i).rel)||(decide ((xAt s i).state=3)&&gV (gZ t m (bF t p)) (dL t i+1)&&!eN p i&&!eJ p (qDA r k)&&(eJ p (qDA r (k+1))||lW p i)&&decide ((k:Int)≤(xAt s i).rel)))):=by
 have hi:=(zQQ.1 hr).1;have hm:=zQM hr;obtain⟨h0,h1,_⟩:=pM S R hr;have hln:aH t i=r.sections.length - 1:=by unfold aH;rw [hr]
 have k1:=(yY S.hC hm (k:=k) (by omega)).2;have k2:=(yY S.hC hm (k:=k+1) (by omega)).2;obtain⟨j,hj⟩:∃ j,j=aH t i - 1 - k:=⟨_,rfl⟩;have hkj:aH t i - 1 - j=k:=by omega
 obtain⟨Q0,hQ⟩:∃ Q0,mG t i r (aH t i)=mG t i r j++(⟨1,(aF t i:Int)+(4+(k:Int)),0,qFP t i r k⟩ :: Q0):=by
  obtain⟨Q0,hQ⟩:=qLN (λj=>(⟨1,(aF t i:Int)+(4+((aH t i - 1 - j:Nat):Int)),0,qFP t i r (aH t i - 1 - j)⟩:Rung)) (n:=aH t i) (i:=j) (by omega);refine⟨Q0,?_⟩;unfold mG;rw [← hkj];exact hQ
 obtain⟨W,a1,a2⟩:=at3 S hr (P:=mG t i r j) (x:=⟨1,(aF t i:Int)+(4+(k:Int)),0,qFP t i r k⟩) (Q:=Q0++[⟨1,(aF t i:Int)+1,0,lY t i r⟩,⟨1,(aF t i:Int)+2,0,auE t i 1⟩,⟨1,(aF t i:Int)+3,0,auE t i 2⟩]) (by unfold fY;rw [hQ];simp) rfl;have E:=qNU S R hi;have hv:=qNM S a1;have n1:gV W (dL t i+1)=gV (gZ t m (bF t p)) (dL t i+1):=a1.new _ (by have:=qHF hr (k:=1) (by omega) (by omega);simp only [zQN];grind);have n2:gV W (dL t i+2)=gV (gZ t m (bF t p)) (dL t i+2):=a1.new _ (by have:=qHF hr (k:=2) (by omega) (by omega);simp only [zQN];grind);have s2:gV W ((aF t i:Int)+2)=decide ((xAt s i).state=3):=by rw [a1.old _ (by simp)];exact E.st2
 have rk:gV W ((aF t i:Int)+(4+(k:Int)))=decide ((k:Int) < (xAt s i).rel):=by rw [a1.old _ (by simp)];exact E.rel k hk
 have rk1:0 < k→gV W ((aF t i:Int)+(4+((k:Int) - 1)))=decide ((k:Int)≤(xAt s i).rel):=λhpos=>by
  have hx:(aF t i:Int)+(4+((k:Int) - 1))=(aF t i:Int)+(4+((k - 1:Nat):Int)):=by omega
  rw [a1.old _ ?_,hx,E.rel (k - 1) (by omega),Bool.eq_iff_iff,decide_eq_true_eq,decide_eq_true_eq]
  ·omega
  have hmem:(aF t i:Int)+(4+((k:Int) - 1))∈vs (mG t i r (aH t i)):=by
   rw [hx];refine List.mem_map.2 ⟨⟨1,(aF t i:Int)+(4+((aH t i - 1 - (aH t i - 1 - (k - 1)):Nat):Int)),0,qFP t i r _⟩,rel_mem.2 ⟨aH t i - 1 - (k - 1),by omega,rfl⟩,?_⟩;dsimp only;omega
  rw [hQ] at hmem;unfold vs at hmem ⊢;rw [List.map_append,zQN] at hmem;rcases hmem with hmem|hmem
  ·obtain⟨z,hz,hze⟩:=List.mem_map.1 hmem;obtain⟨j',hj',rfl⟩:=rel_mem.1 hz;dsimp only at hze;omega
  simp only [List.map_cons,List.map_append,zQN,zQB] at hmem ⊢
  grind
 dsimp only at a2;rw [a2];unfold qFP;rw [mL];simp only [List.all_cons,List.all_nil,Bool.and_true,mL,pA,qQ,List.any_cons,List.any_nil,Bool.or_false,kT,List.all_append,n1,n2,s2,rk,(qV S.hC hv hi).1,(qV S.hC hv hi).2.1,(nS S.hC hv k1.1 k1.2).1,(nS S.hC hv k2.1 k2.2).1,Bool.not_not]
 have e1:(if 0 < k then [rK t i ((k:Int) - 1)] else []).all (evE W)=decide ((k:Int)≤(xAt s i).rel):=by
  by_cases hpos:0 < k
  ·rw [if_pos hpos];simp only [List.all_cons,List.all_nil,Bool.and_true,kT];exact rk1 hpos
  rw [if_neg hpos,List.all_nil,decide_eq_true (by omega)]
 rw [e1];simp only [Bool.and_assoc]
end vals
end Go.Proofs.YtcagmechagiclaaGreatDoor
set_option linter.unusedVariables false
set_option linter.unusedSimpArgs false
set_option maxHeartbeats 1000000
set_option maxRecDepth 100000
namespace Go.Proofs.YtcagmechagiclaaGreatDoor
open Go Go.TL
theorem qBL (k:Nat):decide ((k:Int) < 0)=false:=decide_eq_false (by omega)
section pure
variable {r:Route} {p:Inputs} {c q l mm v:Bool} {last:Nat} {rel tim wc sc:Int}
theorem match0 {x:RouteState} (h0:x.state=0):mJ r p c q l mm v x=idleX:=qXP (by omega) (by omega) (by omega) (by omega)
structure Match (r:Route) (p:Inputs) (c q l mm v:Bool) (last:Nat) (wc sc:Int) (x y:RouteState) (keep clr use hold:Bool):Prop where
 hkeep:keep=decide (y.state=1)
 hclr:clr=decide (y.state=2)
 huse:use=decide (y.state=3)
 hhold:hold=decide (y.state=4)
 hwc:y.state=4→wT (decide (x.state=4)&&!c&&mm) wc 12=y.timer
 hsc:y.state=3→wT (decide (x.state=3)&&!c&&decide (x.rel=(last:Int))&&eJ p (eH r (last:Int))) sc 4=y.timer
 hrel:∀ k:Nat,k < last→((use||hold)&&(decide ((k:Int) < x.rel)||(decide (x.state=3)&&use&&!c&&!eJ p (eH r (k:Int))&&(eJ p (eH r ((k:Int)+1))||q)&&decide ((k:Int)≤x.rel))))=decide ((k:Int) < y.rel)
theorem zJW {l v:Bool} (hvf:v=true→eJ p (eH r 0)=false):Match r p c q l mm v last wc sc ⟨1,0,0⟩ (mJ r p c q l mm v ⟨1,0,0⟩) (!l&&!v) (!l&&v) false false:=by
 rw [qGF rfl];cases l<;>cases v<;>refine⟨by decide,by decide,by decide,by decide,λh=>absurd h (by decide),λh=>absurd h (by decide),λk hk=>?_⟩<;>simp [idleX,qBL]<;>omega
theorem zJV {l v:Bool} (hvf:v=true→eJ p (eH r 0)=false):Match r p c q l mm v last wc sc ⟨2,0,0⟩ (mJ r p c q l mm v ⟨2,0,0⟩) false (!l&&v) (eJ p (eH r 0)) (!eJ p (eH r 0)&&!(l&&!c&&!eJ p r.approach)&&(l||!v)):=by
 rw [qNZ rfl];generalize eJ p (eH r 0)=o at hvf;generalize eJ p r.approach=a
 cases o with
 | true=>
  have hv:v=false:=by cases v;rfl;exact absurd (hvf rfl) (by simp)
  subst hv;rw [if_pos rfl];refine⟨by simp,by simp,by simp,by simp,λh=>absurd h (by simp),λ_=>rfl,λk hk=>?_⟩;simp
 | false=>
  rw [if_neg (by simp)];cases l<;>cases v<;>cases c<;>cases a<;>refine⟨by decide,by decide,by decide,by decide,λh=>?_,λh=>absurd h (by simp [idleX]),λk hk=>?_⟩<;>first|rfl|(exact absurd h (by simp))|(simp [idleX];omega)|simp [idleX]
theorem zJT (hr0:0≤rel) (hr1:rel≤(last:Int)) (ht:0≤tim∧tim < 12) (hw:wc=tim):Match r p c q l mm v last wc sc ⟨4,rel,tim⟩ (mJ r p c q l mm v ⟨4,rel,tim⟩) false false (eJ p (eH r rel)) (!eJ p (eH r rel)&&!uE (true&&!c&&mm) wc 12):=by
 rw [qXN rfl];subst hw;dsimp only;generalize eJ p (eH r rel)=o
 cases o with
 | true=>
  rw [if_pos rfl];exact⟨by simp,by simp,by simp,by simp,λh=>absurd h (by simp),λ_=>by simp [wT],λk hk=>by simp⟩
 | false=>
  rw [if_neg (by simp)];by_cases hcm:(c||!mm)=true
  ·rw [if_pos hcm];have hz:(true&&!c&&mm)=false:=by revert hcm;cases c<;>cases mm<;>simp
   rw [hz];refine⟨by simp,by simp,by simp,by simp [uE],λ_=>?_,λh=>absurd h (by simp),λk hk=>by simp [uE]⟩;rw [show (decide ((4:Int)=4)&&!c&&mm)=(true&&!c&&mm) from by simp,hz];rfl
  rw [if_neg hcm];have hz:(true&&!c&&mm)=true:=by revert hcm;cases c<;>cases mm<;>simp
  rw [hz];have ht1:wT true wc 12=wc+1:=by unfold wT;rw [if_pos rfl,if_pos (by omega)]
  by_cases h12:wc+1=12
  ·rw [if_pos h12];have hv:uE true wc 12=true:=by unfold uE;rw [ht1,decide_eq_true h12];rfl
   rw [hv];exact⟨by simp [idleX],by simp [idleX],by simp [idleX],by simp [idleX],λh=>absurd h (by simp [idleX]),λh=>absurd h (by simp [idleX]),λk hk=>by rw [show decide ((k:Int) < idleX.rel)=false from qBL k];simp⟩
  rw [if_neg h12];have hv:uE true wc 12=false:=by unfold uE;rw [ht1,decide_eq_false h12];rfl
  rw [hv];refine⟨by simp,by simp,by simp,by simp,λ_=>?_,λh=>absurd h (by simp),λk hk=>by simp⟩;rw [show (decide ((4:Int)=4)&&!c&&mm)=(true&&!c&&mm) from by simp,hz,ht1]
theorem zJU (hr0:0≤rel) (hr1:rel≤(last:Int)) (hlen:r.sections.length=last+1) (ht:0≤tim∧tim < 4) (hs:sc=tim):Match r p c q l mm v last wc sc ⟨3,rel,tim⟩ (mJ r p c q l mm v ⟨3,rel,tim⟩) false false
  (c||(!(l&&mm)&&!(decide (rel=(last:Int))&&!eJ p (eH r (last:Int)))&&!uE (true&&!c&&decide (rel=(last:Int))&&eJ p (eH r (last:Int))) sc 4)) (!c&&l&&mm):=by
 rw [qXO rfl];subst hs;dsimp only;rw [show (r.sections.length:Int) - 1=(last:Int) by omega]
 cases c with
 | true=>
  rw [if_pos rfl];exact⟨by simp,by simp,by simp,by simp,λh=>absurd h (by simp),λ_=>by simp [wT],λk hk=>by simp⟩
 | false=>
  rw [if_neg Bool.false_ne_true]
  cases hlm:(l&&mm) with
  | true=>
   rw [if_pos rfl];refine⟨by simp,by simp,by simp,?_,λ_=>by simp [wT],λh=>absurd h (by simp),λk hk=>by simp [Bool.and_assoc,hlm]⟩;simp [Bool.and_assoc,hlm]
  | false=>
   rw [if_neg Bool.false_ne_true];have hh:(!false&&l&&mm)=false:=by simp [Bool.and_assoc,hlm]
   rw [hh];by_cases hl:rel=(last:Int)
   · -- at the last
    rw [decide_eq_true hl];have hsr:eH r rel=eH r (last:Int):=by rw [hl]
    rw [hsr]
    cases ho:eJ p (eH r (last:Int)) with
    | false=>
     rw [Bool.not_false,if_pos rfl,if_pos hl];exact⟨by simp [idleX],by simp [idleX],by simp [idleX],by simp [idleX],λh=>absurd h (by simp [idleX]),λh=>absurd h (by simp [idleX]),λk hk=>by rw [show decide ((k:Int) < idleX.rel)=false from qBL k];simp⟩
    | true=>
     rw [Bool.not_true,if_neg Bool.false_ne_true,if_neg (by omega)];have ht1:wT true sc 4=sc+1:=by unfold wT;rw [if_pos rfl,if_pos (by omega)]
     by_cases h4:sc+1=4
     ·rw [if_pos h4]
      have hv:uE (true&&!false&&true&&true) sc 4=true:=by
       show uE true sc 4=true;unfold uE;rw [ht1,decide_eq_true h4];rfl
      rw [hv];exact⟨by simp [idleX],by simp [idleX],by simp [idleX],by simp [idleX],λh=>absurd h (by simp [idleX]),λh=>absurd h (by simp [idleX]),λk hk=>by rw [show decide ((k:Int) < idleX.rel)=false from qBL k];simp⟩
     rw [if_neg h4]
     have hv:uE (true&&!false&&true&&true) sc 4=false:=by
      show uE true sc 4=false;unfold uE;rw [ht1,decide_eq_false h4];rfl
     rw [hv];refine⟨by simp,by simp,by simp,by simp,λh=>absurd h (by simp),λ_=>?_,λk hk=>?_⟩
     ·dsimp only;rw [hl,ho];simpa using ht1
     have : (k : Int) < rel := by omega
     simp [this]
   rw [decide_eq_false hl];have hv:uE (true&&!false&&false&&eJ p (eH r (last:Int))) sc 4=false:=by simp [uE]
   rw [hv];have hstale:wT (decide ((3:Int)=3)&&!false&&decide (rel=(last:Int))&&eJ p (eH r (last:Int))) sc 4=0:=by rw [decide_eq_false hl];simp [wT]
   cases ho:eJ p (eH r rel) with
   | true=>
    rw [Bool.not_true,if_neg Bool.false_ne_true,if_pos (by omega)];refine⟨by simp,by simp,by simp,by simp,λh=>absurd h (by simp),λ_=>hstale,λk hk=>?_⟩;by_cases hkr:(k:Int)=rel
    ·rw [hkr,ho];simp
    by_cases h1:(k:Int) < rel
    ·simp [h1]
    have h2 : ¬ (k : Int) ≤ rel := by omega
    simp [h1,h2]
   | false=>
    rw [Bool.not_false,if_pos rfl,if_neg hl];by_cases hq:(q||eJ p (eH r (rel+1)))=true
    ·rw [if_pos hq];refine⟨by simp,by simp,by simp,by simp,λh=>absurd h (by simp),λ_=>hstale,λk hk=>?_⟩;by_cases hkr:(k:Int)=rel
     ·have h3 : (eJ p (eH r (rel + 1)) || q) = true := by rw [Bool.or_comm]; exact hq
      rw [hkr,ho];simp only [h3];simp;omega
     by_cases h1:(k:Int) < rel
     ·have h4 : (k : Int) < rel + 1 := by omega
      simp [h1,h4]
     have h2 : ¬ (k : Int) ≤ rel := by omega
     have h4:¬ (k:Int) < rel+1:=by omega
     simp [h1,h2,h4]
    rw [if_neg hq];refine⟨by simp,by simp,by simp,by simp,λh=>absurd h (by simp),λ_=>hstale,λk hk=>?_⟩;by_cases hkr:(k:Int)=rel
    ·have h3 : (eJ p (eH r (rel + 1)) || q) = false := by rw [Bool.or_comm]; simpa using hq
     rw [hkr];simp only [h3];simp
    by_cases h1:(k:Int) < rel
    ·simp [h1]
    have h2 : ¬ (k : Int) ≤ rel := by omega
    simp [h1,h2]
end pure
variable {t:Table} {i:Nat} {m:Machine} {p:Inputs} {s:Inter}
theorem qSA (t:Table) (i:Nat) (r:Route):oF t i r=eH r (aH t i:Int):=by unfold oF eH;rw [Int.toNat_natCast]
theorem qWZ (r:Route) (k:Nat):qDA r k=eH r (k:Int):=by unfold qDA eH;rw [Int.toNat_natCast]
theorem qLZ (r:Route):oZ r=eH r 0:=rfl
section step
variable (S:ScanV t m (bF t p)) (R:Rep t m s) {r:Route} (hr:t.routes[i]?=some r)
include S R hr
theorem vM:Match r p (eN p i) (lW p i) (lZ p i) (lM t s p i) (jH t p r) (aH t i) (cn m (2 * i)) (cn m (2 * i+1)) (xAt s i) (fV t s p i)
  (gV (gZ t m (bF t p)) (dL t i+0)) (gV (gZ t m (bF t p)) ((aF t i:Int)+1)) (gV (gZ t m (bF t p)) (dL t i+1)) (gV (gZ t m (bF t p)) (dL t i+2)):=by
 have hi:=(zQQ.1 hr).1;obtain⟨h0,h1,hrr⟩:=pM S R hr;have hm:=zQM hr;have H:=eB (cV R.sound) hi;have hsec:=S.hC.secs hm;have F:=nU H.fits (S.hC.secs H.mem).1;have hln:aH t i=r.sections.length - 1:=by unfold aH;rw [hr]
 have c4:=R.cnt4 i hi;have c3:=R.cnt3 i hi;have k1:=zJQ S R hr;have k2:=qRN S R hr;have k3:=n_useV S R hr;have k4:=zJR S R hr;have kt:=qRM S R hr;have hpath:eZ t s i=if (xAt s i).state=0 then [] else r.sections.drop (xAt s i).rel.toNat:=by unfold eZ jJ;rw [hrr]
 have hvf:jH t p r=true→eJ p (eH r 0)=false:=λh=>by
  unfold jH at h;rw [zQA,Bool.not_eq_true',List.any_eq_false] at h;have h2:=h.1 (eH r 0) (List.mem_append_left _ (by rw [← qLZ];exact zQM (qIY S.hC hm).1));simpa using h2
 rw [kt.2.2.1] at k3;rw [kt.1] at k4;rw [qSA] at k3;rw [qLZ] at k3 k4;unfold fV;rw [hrr];have hem:(xAt s i).state≠0→lM t s p i=!(r.sections.drop (xAt s i).rel.toNat).any (eJ p):=λh=>by unfold lM;rw [hpath,if_neg h]
 rw [k1,k2,k3,k4];generalize hE:lM t s p i=mm at hem;generalize xAt s i=x at *;obtain⟨st,rel,tim⟩:=x;dsimp only at *;generalize jH t p r=v at *;generalize eN p i=c at *;generalize lZ p i=l at *;generalize lW p i=q at *;generalize cn m (2 * i)=wc at *;generalize cn m (2 * i+1)=sc at *;generalize hD:(!(r.sections.drop rel.toNat).any (eJ p))=D at *;rcases F.1 with e|e|e|e|e<;>subst e
 ·have hz := F.2.2.2.1 (by omega);rw [hz.1,hz.2,match0 rfl];refine⟨by simp [idleX],by simp [idleX],by simp [idleX],by simp [idleX],λh=>absurd h (by decide),λh=>absurd h (by decide),λk hk=>?_⟩;rw [show decide ((k:Int) < idleX.rel)=false from qBL k];simp
 ·have hz := F.2.2.2.1 (by omega);rw [hz.1,hz.2];have h:=zJW (r:=r) (p:=p) (c:=c) (q:=q) (mm:=mm) (last:=aH t i) (wc:=wc) (sc:=sc) (l:=l) (v:=v) hvf;simpa using h
 ·have hz := F.2.2.2.1 (by omega);rw [hz.1,hz.2];have h:=zJV (r:=r) (p:=p) (c:=c) (q:=q) (mm:=mm) (last:=aH t i) (wc:=wc) (sc:=sc) (l:=l) (v:=v) hvf;simpa using h
 ·have hz:=F.2.2.2.2.1 rfl;have h:=zJU (r:=r) (p:=p) (c:=c) (q:=q) (l:=l) (mm:=mm) (v:=v) (last:=aH t i) (rel:=rel) (tim:=tim) (wc:=wc) (sc:=sc) h0 h1 (by omega) hz (c3 rfl);rw [← hem (by decide)];simpa using h
 have hz:=F.2.2.2.2.2 rfl;have h:=zJT (r:=r) (p:=p) (c:=c) (q:=q) (l:=l) (mm:=mm) (v:=v) (last:=aH t i) (rel:=rel) (tim:=tim) (wc:=wc) (sc:=sc) h0 h1 hz (c4 rfl);rw [← hem (by decide)];simpa using h
theorem qRB:gV (gZ t m (bF t p)) (dL t i+3)=!decide ((fV t s p i).state=0):=by
 have M:=vM S R hr;have hi:=(zQQ.1 hr).1;have H:=eB (cV (xI (p:=p) R.sound)) hi;have hx:xAt (cN t s p) i=fV t s p i:=qNN (by have:=(fitsB_iff.1 (cV R.sound)).2.1;omega);have hfit:=H.fits;rw [hx] at hfit;have F:=nU hfit (S.hC.secs H.mem).1;rw [n_actV S R hr,M.hkeep,M.hclr,M.huse,M.hhold];rcases F.1 with e|e|e|e|e<;>rw [e]<;>simp
theorem qRA {k:Nat} (hk:k < aH t i):gV (gZ t m (bF t p)) ((aF t i:Int)+(4+(k:Int)))=decide ((k:Int) < (fV t s p i).rel):=by
 have M:=vM S R hr;rw [n_relV S R hr hk,← M.hrel k hk,qWZ,qWZ];push_cast;rfl
theorem qER:((fV t s p i).state=4→(qKN t m (bF t p))[2 * i]?=some (fV t s p i).timer)∧((fV t s p i).state=3→(qKN t m (bF t p))[2 * i+1]?=some (fV t s p i).timer):=by
 have M:=vM S R hr;have kt:=qRM S R hr;obtain⟨h0,h1,hrr⟩:=pM S R hr;have hpath:eZ t s i=if (xAt s i).state=0 then [] else r.sections.drop (xAt s i).rel.toNat:=by unfold eZ jJ;rw [hrr]
 constructor
 ·intro h;rw [kt.2.1,← M.hwc h];by_cases h4:(xAt s i).state=4
  ·have : lM t s p i = !(r.sections.drop (xAt s i).rel.toNat).any (eJ p) := by unfold lM; rw [hpath, if_neg (by omega)]
   rw [this]
  rw [decide_eq_false h4];simp
 intro h;rw [kt.2.2.2,← M.hsc h,qSA]
end step
variable {t:Table} {i:Nat} {m:Machine} {p:Inputs} {s:Inter}
theorem COk.nodup (hC:COk t) {r:Route} (hr:r∈t.routes):r.sections.Nodup:=by
 have h1:=((cJ hC.chk).2.2.1 r hr).1;unfold lP at h1;simp only [zQA] at h1;have h2:=h1.1.1.2;unfold qQH at h2;rw [allB_iff] at h2;rw [oA];intro a c hac hcl he;have hcl2:c < (r.sections++r.overSections).length:=by rw [zQL];omega
 have h3:=h2 c hcl2;rw [qAY (zQR hcl2)] at h3;simp only [zQA,Bool.not_eq_true',decide_eq_false_iff_not] at h3;refine h3.2 (List.mem_take_iff_getElem.2 ⟨a,by omega,?_⟩);have e1:(r.sections++r.overSections)[a]'(by omega)=r.sections[a]'(by omega):=List.getElem_append_left (by omega);have e2:(r.sections++r.overSections)[c]'hcl2=r.sections[c]'hcl:=List.getElem_append_left hcl;rw [e1,e2];rw [zQR hcl,zQR (show a < r.sections.length by omega)] at he;exact Option.some.inj he
theorem qIU {l:List Int} (hn:l.Nodup) (x:Int) (ρ:Nat):(0≤fM (bY l x)→((ρ:Int)≤fM (bY l x)↔x∈l.drop ρ))∧(fM (bY l x) < 0↔x∉l)∧((fM (bY l x) < 0∨(ρ:Int)≤fM (bY l x))↔x∉l.take ρ):=by
 cases e:bY l x with
 | none=>
  have hx:x∉l:=by
   intro hm;have:=qIT l x;rw [e,decide_eq_true hm] at this;cases this
  simp only [fM];exact⟨λh=>by omega,⟨λ_=>hx,λ_=>by omega⟩,⟨λ_ hm=>hx (List.mem_of_mem_take hm),λ_=>.inl (by omega)⟩⟩
 | some k=>
  obtain⟨y,hy,hyx,hk⟩:=rN e;have hyx:y=x:=by simpa using hyx
  subst hyx;have hmem:y∈l:=zQM hy
  have huniq:∀ q,l[q]?=some y→q=k:=λq hq=>by
   have hql:=(zQQ.1 hq).1;rw [oA] at hn;rcases Nat.lt_trichotomy q k with h|h|h
   ·exact absurd (by rw [hq,hy]) (hn q k h hk)
   ·exact h
   exact absurd (by rw [hq,hy]) (hn k q h hql)
  have hd:(ρ:Int)≤(k:Int)↔y∈l.drop ρ:=by
   constructor
   ·intro h;exact zQM (i:=k - ρ) (by rw [List.getElem?_drop,show ρ+(k - ρ)=k by omega];exact hy)
   intro h;obtain⟨q,hq⟩:=List.getElem?_of_mem h;rw [List.getElem?_drop] at hq;have:=huniq _ hq;omega
  simp only [fM];refine⟨λ_=>hd,⟨λh=>by omega,λh=>absurd hmem h⟩,⟨λh hm=>?_,λh=>.inr ?_⟩⟩
  ·obtain⟨q,hq,hqe⟩:=List.mem_take_iff_getElem.1 hm;have:=huniq q (by rw [zQR (by omega),hqe]);omega
  rcases Int.lt_or_le (k:Int) (ρ:Int) with h2|h2
  ·exact absurd (List.mem_take_iff_getElem.2 ⟨k,by omega,by rw [zQR hk] at hy;exact Option.some.inj hy⟩) h
  exact h2
def LK (ρ:Nat) (s:Sh):Prop:=s.1=true∨∃ k∈s.2,(ρ:Int)≤k
theorem qPO {ρ:Nat} {l:List Int}:LK ρ (true,l):=.inl rfl
theorem qHI {n ρ:Nat} (hρ:ρ≤n) {x:Int} {s:Sh}:LK ρ (nY n x s)↔LK ρ s∨x < 0∨(ρ:Int)≤x:=by
 unfold nY;split
 ·rename_i h;exact⟨λ_=>.inr (by omega),λ_=>qPO⟩
 rename_i h;split
 ·rename_i hm;constructor
  ·exact .inl
  rintro (h1|h1)
  ·exact h1
  exact .inr ⟨x,hm,by omega⟩
 rename_i hm;unfold LK;constructor
 ·rintro (h1|⟨k,hk,h2⟩)
  ·exact .inl (.inl h1)
  rcases zQN.1 hk with hk|hk
  ·exact .inl (.inr ⟨k,hk,h2⟩)
  rw [List.mem_singleton] at hk;subst hk;exact .inr (.inr h2)
 rintro ((h1|⟨k,hk,h2⟩)|h1)
 ·exact .inl h1
 ·exact .inr ⟨k,List.mem_append_left _ hk,h2⟩
 exact .inr ⟨x,List.mem_append_right _ (by simp),by omega⟩
theorem qPR {ρ:Nat} {s1:Sh} {b:Bool} {P:Prop} [Decidable P]:LK ρ (if s1.1=true then (true,s1.2) else if P then (b,s1.2) else (false,s1.2))↔LK ρ s1∨(P∧b=true):=by
 obtain⟨w,l⟩:=s1
 cases w with
 | true=>exact⟨λ_=>.inl qPO,λ_=>qPO⟩
 | false=>
  dsimp only;rw [if_neg Bool.false_ne_true];split
  ·rename_i hp;unfold LK;constructor
   ·rintro (h|h)
    ·exact .inr ⟨hp,h⟩
    exact .inl (.inr h)
   rintro ((h|h)|h)
   ·cases h
   ·exact .inr h
   exact .inl h.2
  rename_i hp;exact⟨.inl,λh=>h.elim id λh=>absurd h.1 hp⟩
theorem zJJ {n ρ:Nat} (hρ:ρ≤n) {q:Route} (hn:q.sections.Nodup) {f:Bool} {s:Sh} {x:Int}:LK ρ (qKI n q f s x)↔LK ρ s∨x∈q.sections.drop ρ∨(x∈q.overSections∧f=false):=by
 have hx:=qIU hn x ρ;unfold qKI;dsimp only;rw [qPR]
 have h1:LK ρ (if 0≤fM (bY q.sections x) then nY n (fM (bY q.sections x)) s else s)↔LK ρ s∨x∈q.sections.drop ρ:=by
  split
  ·rename_i h0;rw [qHI hρ,← hx.1 h0];constructor
   ·rintro (h|h|h)
    ·exact .inl h
    ·omega
    exact .inr h
   rintro (h|h)
   ·exact .inl h
   exact .inr (.inr h)
  rename_i h0;have hno:=hx.2.1.1 (by omega);exact⟨.inl,λh=>h.elim id λh=>absurd (List.mem_of_mem_drop h) hno⟩
 rw [h1];simp only [Bool.not_eq_true',or_assoc]
theorem zJH {n ρ:Nat} (hρ:ρ≤n) {q:Route} (hn:q.sections.Nodup) {f g:Bool} {s:Sh} {x:Int}:LK ρ (qKH n q f g s x)↔LK ρ s∨(g=false∧x∈q.sections.drop ρ)∨(x∈q.overSections∧f=false∧g=false):=by
 have hx:=qIU hn x ρ;unfold qKH;dsimp only
 have h1:LK ρ (if 0≤fM (bY q.sections x)∧g=false then nY n (fM (bY q.sections x)) s else s)↔LK ρ s∨(g=false∧x∈q.sections.drop ρ):=by
  split
  ·rename_i h0;rw [qHI hρ,← hx.1 h0.1];constructor
   ·rintro (h|h|h)
    ·exact .inl h
    ·omega
    exact .inr ⟨h0.2,h⟩
   rintro (h|h)
   ·exact .inl h
   exact .inr (.inr h.2)
  rename_i h0;refine⟨.inl,λh=>h.elim id λh=>?_⟩
  have hno := hx.2.1.1 (by
   rcases Int.lt_or_le (fM (bY q.sections x)) 0 with h2 | h2
   ·exact h2
   exact absurd ⟨h2, h.1⟩ h0)
  exact absurd (List.mem_of_mem_drop h.2) hno
 generalize (if 0≤fM (bY q.sections x)∧g=false then nY n (fM (bY q.sections x)) s else s)=s1 at h1
 have h2:LK ρ (if s1.1=true then (true,s1.2) else if x∈q.overSections then if f=false then (!g,s1.2) else (false,s1.2) else (false,s1.2))↔LK ρ s1∨(x∈q.overSections∧(!f&&!g)=true):=by
  have:=qPR (ρ:=ρ) (s1:=s1) (b:=!f&&!g) (P:=x∈q.overSections);rw [← this];cases f<;>simp
 rw [h2,h1];simp only [zQA,Bool.not_eq_true',or_assoc]
theorem zJF {n ρ:Nat} (hρ:ρ≤n) {q:Route} (hn:q.sections.Nodup) {s:Sh} {x:Setting}:LK ρ (qKG t n q s x)↔LK ρ s∨(sJ x∈q.overPoints∨sJ x∈q.flank∨(sJ x∈q.points∧wE t x.el∉q.sections.take ρ)):=by
 have hx:=qIU hn (wE t x.el) ρ;unfold qKG;split
 ·rename_i h;refine⟨λ_=>.inr ?_,λ_=>qPO⟩;rcases h with h|h
  ·exact .inl h
  exact .inr (.inl h)
 rename_i h;split
 ·rename_i hp;rw [qHI hρ,hx.2.2];constructor
  ·rintro (h1|h1)
   ·exact .inl h1
   exact .inr (.inr (.inr ⟨hp,h1⟩))
  rintro (h1|h1|h1|h1)
  ·exact .inl h1
  ·exact absurd (.inl h1) h
  ·exact absurd (.inr h1) h
  exact .inr h1.2
 rename_i hp;refine⟨.inl,λh1=>?_⟩;rcases h1 with h1|h1|h1|h1
 ·exact h1
 ·exact absurd (.inl h1) h
 ·exact absurd (.inr h1) h
 exact absurd h1.1 hp
theorem qGM {α:Type} {ρ:Nat} {f:Sh→α→Sh} {E:α→Prop} (h:∀ s x,LK ρ (f s x)↔LK ρ s∨E x):∀ (l:List α) (s:Sh),LK ρ (l.foldl f s)↔LK ρ s∨∃ x∈l,E x
 | [],s=>by simp
 | x :: r,s=>by
  rw [List.foldl_cons,qGM h r,h];constructor
  ·rintro ((h1|h1)|⟨y,hy,h1⟩)
   ·exact .inl h1
   ·exact .inr ⟨x,List.mem_cons_self,h1⟩
   exact .inr ⟨y,List.mem_cons_of_mem _ hy,h1⟩
  rintro (h1|⟨y,hy,h1⟩)
  ·exact .inl (.inl h1)
  rcases zQB.1 hy with rfl|hy
  ·exact .inl (.inr h1)
  exact .inr ⟨y,hy,h1⟩
def qPN (t:Table) (ρ:Nat) (r q:Route):Prop:=
 (∃ x∈r.sections,x∈q.sections.drop ρ∨(x∈q.overSections∧sS q r=false))
 ∨ (∃ x∈r.overSections,(sS r q=false∧x∈q.sections.drop ρ)∨(x∈q.overSections∧sS q r=false∧sS r q=false))
 ∨ (∃ e∈eG (bS r),sJ e∈q.overPoints∨sJ e∈q.flank∨(sJ e∈q.points∧wE t e.el∉q.sections.take ρ))
theorem qZD (hC:COk t) {o:Nat} {r q:Route} (hq:t.routes[o]?=some q) {ρ:Nat} (hρ:ρ≤aH t o):LK ρ (pZ t o r q)↔qPN t ρ r q:=by
 have hn:=hC.nodup (zQM hq);unfold pZ qPN;rw [qGM (f:=qKG t (aH t o) q) (λs x=>zJF hρ hn),qGM (f:=qKH (aH t o) q (sS q r) (sS r q)) (λs x=>zJH hρ hn),qGM (f:=qKI (aH t o) q (sS q r)) (λs x=>zJJ hρ hn)]
 have h0:¬ LK ρ ((false,[]):Sh):=by
  unfold LK;simp
 simp only [h0,false_or,or_assoc]
theorem qSN (hC:COk t) {r:Route} (hr:r∈t.routes) {x:Setting} (hx:x∈eG (bS r)):wE t x.el=pP t x.el:=by
 obtain⟨k,hk1,hk2,hk3,_⟩:=hC.home hr hx;obtain⟨q,hq,hql⟩:=gB ((cJ hC.chk).2.2.1 r hr).2 (ascS_mem.1 hx);have:(q:Int)=(k:Int):=by rw [← hk1];unfold tZ;rw [hq];rfl
 have hqk:q=k:=by omega
 subst hqk;have h2:=xX hC.chk hq;rw [hk3] at h2;exact Option.some.inj h2
theorem agree_no {a b:List Setting}:(!mQ a b)=true↔∃ e∈a,∃ d∈b,e.el=d.el∧¬ e.pos=d.pos:=by
 rw [← qMJ,zQU];constructor
 ·rintro⟨e,he,h⟩;rw [zQU] at h;obtain⟨d,hd,h⟩:=h;simp only [zQA,decide_eq_true_eq,Bool.not_eq_true',decide_eq_false_iff_not] at h;exact⟨e,he,d,hd,h⟩
 rintro⟨e,he,d,hd,h⟩;refine⟨e,he,zQU.2 ⟨d,hd,?_⟩⟩;simp only [zQA,decide_eq_true_eq,Bool.not_eq_true',decide_eq_false_iff_not];exact h
theorem qTH (hC:COk t) {c:Inter} (hf:fN t c=true) {o:Nat} (hi:i < t.routes.length) (ho:o < t.routes.length) (hne:o≠i):(lS t c i o=true∨gD t c i o=true)↔(xAt c o).state≠0∧qPN t (xAt c o).rel.toNat (rAt t i) (rAt t o):=by
 have H:=eB hf hi;have H':=eB hf ho;have hsi:=λ(e:Setting) (he:e∈eG (bS (rAt t i)))=>hC.set_in H.mem he;have hso:=λ(e:Setting) (he:e∈bS (rAt t o))=>hC.set_in H'.mem (ascS_mem.2 he);have hhi:=λ(e:Setting) (he:e∈eG (bS (rAt t i)))=>qSN hC H.mem he;unfold lS gD iQ eZ gJ jJ lF lT;rw [decide_eq_false hne];by_cases h0:(xAt c o).state=0
 ·simp only [h0,if_true,ne_eq,not_true_eq_false,false_and,iff_false,not_or];constructor
  ·simp [mO,mY]
  simp [mQ]
 simp only [h0,if_false,ne_eq,not_false_eq_true,true_and,Bool.not_false,Bool.true_and];unfold qPN;constructor
 ·rintro (h|h)
  ·unfold mO mY at h;simp only [Bool.or_eq_true,zQA,zQU,decide_eq_true_eq,Bool.not_eq_true'] at h;rcases h with ((⟨x,hx,h⟩|⟨⟨x,hx,h⟩,h2⟩)|⟨⟨x,hx,h⟩,h2⟩)|⟨⟨⟨x,hx,h⟩,h2⟩,h3⟩
   ·exact .inl ⟨x,hx,.inl h⟩
   ·exact .inr (.inl ⟨x,hx,.inl ⟨h2,h⟩⟩)
   ·exact .inl ⟨x,hx,.inr ⟨h,h2⟩⟩
   exact .inr (.inl ⟨x,hx,.inr ⟨h,h3,h2⟩⟩)
  rw [agree_no] at h;obtain⟨e,he,d,hd,h⟩:=h;have hd':=ascS_mem.1 hd
  have hop:d=sJ e:=by
   have h1:=hsi e he
   have h2 := hso d (by
    simp only [bS, zQN, List.mem_filter] at hd' ⊢
    grind)
   refine qJD h.1.symm ?_;show d.pos=3 - e.pos;omega
  subst hop;refine .inr (.inr ⟨e,he,?_⟩);simp only [zQN,List.mem_filter] at hd';rcases hd' with (hd'|hd')|hd'
  ·refine .inr (.inr ⟨hd'.1,?_⟩);have:=hd'.2;unfold wD at this;rw [show (sJ e).el=e.el from rfl] at this;rw [hhi e he];simpa using this
  ·exact .inl hd'
  exact .inr (.inl hd')
 rintro (⟨x,hx,h⟩|⟨x,hx,h⟩|⟨e,he,h⟩)
 ·left;unfold mO mY;simp only [Bool.or_eq_true,zQA,zQU,decide_eq_true_eq,Bool.not_eq_true'];rcases h with h|h
  ·exact .inl (.inl (.inl ⟨x,hx,h⟩))
  exact .inl (.inr ⟨⟨x,hx,h.1⟩,h.2⟩)
 ·left;unfold mO mY;simp only [Bool.or_eq_true,zQA,zQU,decide_eq_true_eq,Bool.not_eq_true'];rcases h with h|h
  ·exact .inl (.inl (.inr ⟨⟨x,hx,h.2⟩,h.1⟩))
  exact .inr ⟨⟨⟨x,hx,h.1⟩,h.2.2⟩,h.2.1⟩
 right;rw [agree_no];have h1:=hsi e he;refine⟨e,he,sJ e,ascS_mem.2 ?_,rfl,?_⟩
 ·simp only [zQN,List.mem_filter];rcases h with h|h|h
  ·exact .inl (.inr h)
  ·exact .inr h
  refine .inl (.inl ⟨h.1,?_⟩);unfold wD;rw [show (sJ e).el=e.el from rfl];have:=h.2;rw [hhi e he] at this;simpa using this
 show ¬ e.pos=3 - e.pos;omega
variable {t:Table} {i:Nat} {m:Machine} {p:Inputs} {s:Inter}
def qPY (t:Table) (p:Inputs) (k:Nat) (c:Inter):Inter:=if (k:Int)∈p.calls∧oY t c p (k:Int)=0 then kK t c k else c
def jB (t:Table) (p:Inputs) (c0:Inter):Nat→Inter
 | 0=>c0
 | k+1=>qPY t p k (jB t p c0 k)
def Acc (t:Table) (p:Inputs) (c0:Inter) (k:Nat):Prop:=(k:Int)∈p.calls∧oY t (jB t p c0 k) p (k:Int)=0
theorem qQG {c0:Inter} {k:Nat} (h:Acc t p c0 k):jB t p c0 (k+1)=kK t (jB t p c0 k) k:=by
 show qPY t p k (jB t p c0 k)=_;have h':(k:Int)∈p.calls∧oY t (jB t p c0 k) p (k:Int)=0:=h;unfold qPY;rw [if_pos h']
theorem qNA {c0:Inter} {k:Nat} (h:¬ Acc t p c0 k):jB t p c0 (k+1)=jB t p c0 k:=by
 show qPY t p k (jB t p c0 k)=_;have h':¬ ((k:Int)∈p.calls∧oY t (jB t p c0 k) p (k:Int)=0):=h;unfold qPY;rw [if_neg h']
theorem zEY {c:Inter} {n:Int} (h:n < 0∨(t.routes.length:Int)≤n):oY t c p n≠0:=by
 unfold oY;rw [if_pos (by omega)];decide
theorem qPX {q:Inter×List Int} {n:Int} (h:n < 0∨(t.routes.length:Int)≤n):(iI t p q n).1=q.1:=by
 unfold iI;rw [if_neg (zEY h)]
theorem qMF:∀ (l:List Int) (q:Inter×List Int),(∀ x∈l,x < 0∨(t.routes.length:Int)≤x)→(gK t p q l).1=q.1
 | [],q,_=>rfl
 | x :: r,q,h=>by
  show (gK t p (iI t p q x) r).1=q.1;rw [qMF r _ λy hy=>h y (List.mem_cons_of_mem _ hy),qPX (h x List.mem_cons_self)]
theorem vX (c0:Inter):∀ (d k:Nat) (l:List Int) (q:Inter×List Int),k+d=t.routes.length→qPP l→(∀ x∈l,(k:Int)≤x)→(∀ x:Int,(k:Int)≤x→(x∈l↔x∈p.calls))→q.1=jB t p c0 k→(gK t p q l).1=jB t p c0 t.routes.length
 | 0,k,l,q,hk,_,hl,_,hq=>by
  rw [qMF l q λx hx=>.inr (by have:=hl x hx;omega),hq,show k=t.routes.length by omega]
 | d+1,k,l,q,hk,ha,hl,hm,hq=>by
  by_cases hin:(k:Int)∈p.calls
  ·have hkl := (hm (k : Int) (by omega)).2 hin
   cases l with
   | nil=>cases hkl
   | cons x r=>
    have hx:x=(k:Int):=by
     rcases zQB.1 hkl with h|h
     ·exact h.symm
     have h1:=(List.pairwise_cons.1 ha).1 _ h;have h2:=hl x List.mem_cons_self;omega
    subst hx;have hp:=List.pairwise_cons.1 ha;show (gK t p (iI t p q (k:Int)) r).1=_;refine vX c0 d (k+1) r _ (by omega) hp.2 (λx hx=>by have:=hp.1 x hx;omega) (λx hx=>?_) ?_
    ·rw [← hm x (by omega), zQB];constructor
     ·exact .inr
     rintro (h|h)
     ·omega
     exact h
    unfold iI;rw [hq];by_cases hf:oY t (jB t p c0 k) p (k:Int)=0
    ·rw [if_pos hf,qQG ⟨hin,hf⟩,Int.toNat_natCast]
    rw [if_neg hf,qNA λh=>hf h.2]
  refine vX c0 d (k + 1) l q (by omega) ha (fun x hx => ?_) (fun x hx => hm x (by omega)) ?_
  ·have h1:=hl x hx;have h2:x≠(k:Int):=λh=>hin ((hm _ (by omega)).1 (h ▸ hx));omega
  rw [hq,qNA λh=>hin h.1]
theorem zBC (c0:Inter):(gK t p (c0,[]) (mP p.calls)).1=jB t p c0 t.routes.length:=by
 have hasc:=qJV p.calls;have hmem:∀ x,x∈mP p.calls↔x∈p.calls:=λx=>ascZ_mem;generalize mP p.calls=l at hasc hmem
 suffices h:∀ (l:List Int) (q:Inter×List Int),qPP l→(∀ x:Int,0≤x→(x∈l↔x∈p.calls))→q.1=c0→(gK t p q l).1=jB t p c0 t.routes.length from h l _ hasc (λx _=>hmem x) rfl
 intro l
 induction l with
 | nil=>
  intro q ha hm hq;exact vX c0 t.routes.length 0 [] q (by omega) ha (by simp) (λx hx=>hm x (by omega)) hq
 | cons x r ih=>
  intro q ha hm hq;by_cases hx:x < 0
  ·show (gK t p (iI t p q x) r).1=_;refine ih _ (List.pairwise_cons.1 ha).2 (λy hy=>?_) (by rw [qPX (.inl hx)];exact hq);rw [← hm y hy,zQB];constructor
   ·exact .inr
   rintro (h|h)
   ·omega
   exact h
  refine vX c0 t.routes.length 0 (x :: r) q (by omega) ha (fun y hy => ?_) (fun y hy => hm y (by omega)) hq;rcases zQB.1 hy with h|h
  ·omega
  have:=(List.pairwise_cons.1 ha).1 y h;omega
theorem qIW {c:Inter} (hs:fU t c=true) (hi:i < t.routes.length):oY t c p (i:Int)=0↔(xAt c i).state=0∧((rAt t i).sections++(rAt t i).overSections).any (gM p.closed)=false∧(∀ o,o < t.routes.length→lS t c i o=false∧gD t c i o=false)∧(eG (bS (rAt t i))).any (kS t c p)=false:=by
 unfold oY;rw [if_neg (by rw [hs];simp;omega),Int.toNat_natCast];by_cases h1:(xAt c i).state=0
 ·rw [if_neg (by simpa using h1)];by_cases h2:((rAt t i).sections++(rAt t i).overSections).any (gM p.closed)=true
  ·rw [if_pos h2];exact⟨λh=>by omega,λh=>by rw [h.2.1] at h2;cases h2⟩
  rw [if_neg h2];by_cases h3:(List.range t.routes.length).any (lS t c i)=true
  ·rw [if_pos h3];refine⟨λh=>by omega,λh=>?_⟩;obtain⟨o,ho,hb⟩:=zQU.1 h3;rw [(h.2.2.1 o (List.mem_range.1 ho)).1] at hb;cases hb
  rw [if_neg h3];by_cases h4:(List.range t.routes.length).any (gD t c i)=true
  ·rw [if_pos h4];refine⟨λh=>by omega,λh=>?_⟩;obtain⟨o,ho,hb⟩:=zQU.1 h4;rw [(h.2.2.1 o (List.mem_range.1 ho)).2] at hb;cases hb
  rw [if_neg h4];by_cases h5:(eG (bS (rAt t i))).any (kS t c p)=true
  ·rw [if_pos h5];exact⟨λh=>by omega,λh=>by rw [h.2.2.2] at h5;cases h5⟩
  rw [if_neg h5];refine⟨λ_=>⟨h1,by simpa using h2,λo ho=>⟨?_,?_⟩,by simpa using h5⟩,λ_=>rfl⟩
  ·cases hb:lS t c i o with
   | false=>rfl
   | true=>exact absurd (zQU.2 ⟨o,List.mem_range.2 ho,hb⟩) h3
  cases hb:gD t c i o with
  | false=>rfl
  | true=>exact absurd (zQU.2 ⟨o,List.mem_range.2 ho,hb⟩) h4
 rw [if_pos h1];exact⟨λh=>by omega,λh=>absurd h.1 h1⟩
structure CInv (t:Table) (m:Machine) (p:Inputs) (s:Inter) (k:Nat):Prop where
 sound:fU t (jB t p (cN t s p) k)=true
 at_yes:∀ o:Nat,o < k→Acc t p (cN t s p) o→xAt (jB t p (cN t s p) k) o=wW
 at_no:∀ o:Nat,o < t.routes.length→(o < k→¬ Acc t p (cN t s p) o)→xAt (jB t p (cN t s p) k) o=fV t s p o
 idle:∀ o:Nat,o < k→Acc t p (cN t s p) o→(fV t s p o).state=0∧(fV t s p o).rel=0
 called:∀ o:Nat,o < k→(gV (gZ t m (bF t p)) (dL t o+4)=true↔Acc t p (cN t s p) o)
 keeps:∀ j:Nat,j < t.points.length→(jB t p (cN t s p) k).lies[j]?=s.lies[j]?∨∃ n,t.homes[j]?=some n∧eJ p n=false
 lies:∀ (j:Nat) (el:Int),t.points[j]?=some el→((jB t p (cN t s p) k).lies[j]?=some 2↔(∃ o,o < k∧Acc t p (cN t s p) o∧(⟨el,2⟩:Setting)∈bS (rAt t o))∨(s.lies[j]?=some 2∧¬ ∃ o,o < k∧Acc t p (cN t s p) o∧(⟨el,1⟩:Setting)∈bS (rAt t o)))
theorem zJO (hs:fU t s=true) {o:Nat} (ho:o < t.routes.length):xAt (cN t s p) o=fV t s p o:=qNN (by have:=(fitsB_iff.1 (cV hs)).2.1;omega)
theorem zHY {k:Nat} (H:CInv t m p s k) (hk:k < t.routes.length) (ha:Acc t p (cN t s p) k):(fV t s p k).state=0∧(fV t s p k).rel=0:=by
 have h1:=(qIW H.sound hk).1 ha.2;have h2:=H.at_no k hk (λh=>by omega);have hf:=(eB (cV H.sound) hk).fits;rw [h2] at h1 hf;have hst:=h1.1;rw [tX (.inl hst)] at hf;exact⟨hst,(of_decide_eq_true hf).1⟩
theorem zER (R:Rep t m s):CInv t m p s 0:=by
 refine⟨xI R.sound,λo h=>by omega,λo ho _=>zJO R.sound ho,λo h=>by omega,λo h=>by omega,λj _=>.inl rfl,λj el _=>?_⟩;constructor
 ·intro h;exact .inr ⟨h,λ⟨o,ho,_⟩=>by omega⟩
 rintro (⟨o,ho,_⟩|h)
 ·omega
 exact h.1
theorem qWC (S:ScanV t m (bF t p)) (R:Rep t m s) {k:Nat} (hk:k < t.routes.length) (H:CInv t m p s k):gV (gZ t m (bF t p)) (dL t k+4)=true↔Acc t p (cN t s p) k:=by
 have hr:t.routes[k]?=some (rAt t k):=(eB (cV R.sound) hk).r;have hm:=zQM hr;have hC:=S.hC;have hfS:=cV H.sound;obtain⟨W,a1,a2⟩:=at4 S hr;have hv:=qNM S a1;have ask:=(qV hC hv hk).2.2.1
 have x3:gV W (dL t k+3)=!decide ((fV t s p k).state=0):=by
  rw [a1.new _ (by have:=qHF hr (k:=3) (by omega) (by omega);simp only [zQN];grind)];exact qRB S R hr
 have hxk:=H.at_no k hk (λh=>by omega);rw [a2];unfold qD Acc;rw [mL,List.all_append,List.all_append,List.all_append,qIW H.sound hk,hxk];simp only [zQA,List.all_cons,List.all_nil,and_true,kT,pA,ask,x3,Bool.not_not,decide_eq_true_eq]
 have hopen:(((rAt t k).sections++(rAt t k).overSections).map qEV).all (evE W)=true↔((rAt t k).sections++(rAt t k).overSections).any (gM p.closed)=false:=by
  rw [List.all_map,zQT,List.any_eq_false];constructor
  ·intro h n hn;have hs:=hC.sec_in hm hn;have h2:=h n hn;simp only [Function.comp] at h2;unfold qEV at h2;rw [kT,(nS hC hv hs.1 hs.2).2] at h2;intro hc;rw [hc] at h2;cases h2
  intro h n hn;have hs:=hC.sec_in hm hn;have h2:=h n hn;simp only [Function.comp];unfold qEV;rw [kT,(nS hC hv hs.1 hs.2).2];simpa using h2
 have hother:∀ o,o < t.routes.length→o≠k→((tE t k o (rAt t k) (rAt t o)).all (evE W)=true↔(lS t (jB t p (cN t s p) k) k o=false∧gD t (jB t p (cN t s p) k) k o=false)):=by
  intro o ho hne;have Ho:=eB hfS ho;have hq:=Ho.r;have hqm:=Ho.mem;have hsec:=hC.secs hqm;have F:=nU Ho.fits hsec.1;have hln:aH t o=(rAt t o).sections.length - 1:=by unfold aH;rw [hq]
  have o3:gV W (dL t o+3)=!decide ((fV t s p o).state=0):=by
   rw [a1.new _ (by have:=qHF hq (k:=3) (by omega) (by omega);simp only [zQN];grind)];exact qRB S R hq
  have o4:o < k→(gV W (dL t o+4)=true↔Acc t p (cN t s p) o):=λhlt=>by
   rw [a1.new _ (by have:=qAV hq hlt;simp only [zQN];grind)];exact H.called o hlt
  have orel:∀ x:Nat,x < aH t o→gV W ((aF t o:Int)+(4+(x:Int)))=decide ((x:Int) < (xAt (jB t p (cN t s p) k) o).rel):=λx hx=>by
   rw [a1.new _ (by have:=zNU hq hx;simp only [zQN];grind),qRA S R hq hx];by_cases hacc:o < k∧Acc t p (cN t s p) o
   ·rw [H.at_yes o hacc.1 hacc.2,(H.idle o hacc.1 hacc.2).2];rfl
   rw [H.at_no o ho λh hA=>hacc ⟨h,hA⟩]
  have oact:evE W (qKY t k o)=true↔(xAt (jB t p (cN t s p) k) o).state≠0:=by
   unfold qKY;by_cases hlt:o < k
   ·rw [if_pos hlt,qQ];simp only [List.any_cons,List.any_nil,Bool.or_false,kT,Bool.or_eq_true,o3,o4 hlt,Bool.not_eq_true',decide_eq_false_iff_not];by_cases hacc:Acc t p (cN t s p) o
    ·rw [H.at_yes o hlt hacc];exact⟨λ_=>by decide,λ_=>.inr hacc⟩
    rw [H.at_no o ho fun _ => hacc];exact⟨λh=>h.elim id λh=>absurd h hacc,λh=>.inl h⟩
   rw [if_neg hlt, kT, o3, H.at_no o ho fun h => absurd h hlt];simp
  have hLK:=qZD hC (r:=rAt t k) hq (ρ:=(xAt (jB t p (cN t s p) k) o).rel.toNat) (by omega);have hbl:=qTH hC hfS hk ho hne;have hsh:=(qCX (b:=[]) hC S.ht hr hq).2;rw [show (lS t (jB t p (cN t s p) k) k o=false∧gD t (jB t p (cN t s p) k) k o=false)↔¬ (lS t (jB t p (cN t s p) k) k o=true∨gD t (jB t p (cN t s p) k) k o=true) by simp,hbl,← hLK];unfold tE LK;generalize pZ t o (rAt t k) (rAt t o)=Sh at hsh;generalize (xAt (jB t p (cN t s p) k) o).state=st at oact;have hrel0:0≤(xAt (jB t p (cN t s p) k) o).rel:=F.2.1;generalize (xAt (jB t p (cN t s p) k) o).rel=ρ at orel hrel0;by_cases hw:Sh.1=true
  ·rw [if_pos hw];simp only [List.all_cons,List.all_nil,Bool.and_true,pA,Bool.not_eq_true',hw,true_or,and_true];rw [← oact];simp
  rw [if_neg hw];by_cases hl:Sh.2.length=0
  ·rw [if_pos hl,List.eq_nil_of_length_eq_zero hl];simp [hw]
  rw [if_neg hl];simp only [List.all_cons,List.all_nil,Bool.and_true];rw [qQ];simp only [List.any_append,List.any_cons,List.any_nil,Bool.or_false,pA,mL,Bool.or_eq_true,Bool.not_eq_true',hw,false_or,List.all_map,zQT,Function.comp]
  have hall:(∀ x,x∈Sh.2→evE W (rK t o x)=true)↔¬ ∃ x,x∈Sh.2∧((ρ.toNat:Nat):Int)≤x:=by
   constructor
   ·rintro h ⟨x,hx,hle⟩;have hb:=hsh.2 x hx;have h2:=h x hx;rw [kT,show (aF t o:Int)+(4+x)=(aF t o:Int)+(4+((x.toNat:Nat):Int)) by omega,orel _ (by omega)] at h2;have:=of_decide_eq_true h2;omega
   intro h x hx;have hb:=hsh.2 x hx;rw [kT,show (aF t o:Int)+(4+x)=(aF t o:Int)+(4+((x.toNat:Nat):Int)) by omega,orel _ (by omega)];refine decide_eq_true ?_;have:¬ ((ρ.toNat:Nat):Int)≤x:=λhc=>h ⟨x,hx,hc⟩;omega
  rw [hall,← Bool.not_eq_true,oact];constructor
  ·rintro (h|h) ⟨h1,h2⟩
   ·exact h h1
   exact h (h2.resolve_left (by simp))
  intro h;by_cases h1:st≠0
  ·exact .inr λh2=>h ⟨h1,.inr h2⟩
  exact .inl h1
 have hself:lS t (jB t p (cN t s p) k) k k=false∧gD t (jB t p (cN t s p) k) k k=false:=by
  unfold lS gD;rw [decide_eq_true rfl];exact⟨rfl,rfl⟩
 have hothers:(iR t k (rAt t k) t.routes.length).all (evE W)=true↔∀ o,o < t.routes.length→lS t (jB t p (cN t s p) k) k o=false∧gD t (jB t p (cN t s p) k) k o=false:=by
  unfold iR;rw [List.all_flatMap,zQT];constructor
  ·intro h o ho;by_cases hne:o=k
   ·subst hne;exact hself
   have h2:=h o (List.mem_range.2 ho);rw [if_neg hne,(eB hfS ho).r] at h2;exact (hother o ho hne).1 h2
  intro h o ho;have ho:=List.mem_range.1 ho;by_cases hne:o=k
  ·rw [if_pos hne];rfl
  rw [if_neg hne,(eB hfS ho).r];exact (hother o ho hne).2 (h o ho)
 have hwish:((eG (bS (rAt t k))).map (qGZ t)).all (evE W)=true↔(eG (bS (rAt t k))).any (kS t (jB t p (cN t s p) k) p)=false:=by
  have key:∀ e∈eG (bS (rAt t k)),evE W (qGZ t e)=!kS t (jB t p (cN t s p) k) p e:=by
   intro e he;have hset:=hC.set_in hm he;obtain⟨j,hj1,hj2,hj3,hj4,hj5⟩:=hC.home hm he;have hhome:=qSN hC hm he;obtain⟨q,hq,hql⟩:=gB ((cJ hC.chk).2.2.1 _ hm).2 (ascS_mem.1 he)
   have hqj:q=j:=by
    have:(q:Int)=(j:Int):=by rw [← hj1];unfold tZ;rw [hq];rfl
    omega
   subst hqj;have hpj:=zQR hj2
   have hfree:evE W (iH (wE t e.el))=!eJ p (pP t e.el):=by
    rw [kT,(nS hC hv hj4 hj5).1,hhome]
   have hls:=qBT (cV R.sound) hq;have hlc:=qBT hfS hq
   have hlv:gV W ((inN t:Int)+(q:Int))=decide (s.lies[q]?=some 2):=by
    rw [a1.old _ (by have:=v_lie hpj;simp only [zQN];grind),show (inN t:Int)+(q:Int)=((inN t+q:Nat):Int) by omega,vO S (by omega)];exact R.lie q hj2
   have hlie:evE W (qOJ t e)=decide (nG t s e.el=e.pos):=by
    unfold qOJ;rw [hj1];have hb:=(fitsB_iff.1 (cV R.sound)).2.2.2.2 _ (zQM hls);have hb2:=of_decide_eq_true hb;split
    ·rename_i h1;rw [pA,kT,hlv,hls,h1];rcases hb2 with h|h<;>rw [h]<;>simp
    rename_i h1;rw [kT,hlv,hls,show e.pos=2 by omega];rcases hb2 with h|h<;>rw [h]<;>simp
   unfold qGZ;rw [qQ];simp only [List.any_cons,List.any_nil,Bool.or_false,hlie,hfree];unfold kS;rcases H.keeps q hj2 with h|⟨n,hn,hocc⟩
   ·have:nG t (jB t p (cN t s p) k) e.el=nG t s e.el:=by
     rw [hls,hlc] at h;exact Option.some.inj h
    rw [this];simp
   have hnh:n=pP t e.el:=by
    have:=xX hC.chk hq;rw [hn] at this;exact Option.some.inj this
   have hocc2:gM p.occupied n=false:=hocc;show (decide (nG t s e.el=e.pos)||!gM p.occupied (pP t e.el))=!(!decide (nG t (jB t p (cN t s p) k) e.el=e.pos)&&gM p.occupied (pP t e.el));rw [← hnh,hocc2];simp
  rw [List.all_map,zQT,List.any_eq_false];constructor
  ·intro h e he;have h2:=h e he;simp only [Function.comp] at h2;rw [key e he] at h2;intro hc;rw [hc] at h2;cases h2
  intro h e he;have h2:=h e he;simp only [Function.comp];rw [key e he];simpa using h2
 rw [hopen,hothers,hwish];constructor
 ·rintro⟨⟨⟨⟨h1,h2⟩,h3⟩,h4⟩,h5⟩;exact⟨h1,h2,h3,h4,h5⟩
 rintro⟨h1,h2,h3,h4,h5⟩;exact⟨⟨⟨⟨h1,h2⟩,h3⟩,h4⟩,h5⟩
variable {t:Table} {i:Nat} {m:Machine} {p:Inputs} {s:Inter}
theorem qES {t:Table} (hz:dQ t=0) {j:Nat} {el:Int} (hj:t.points[j]?=some el):bY t.points el=some j:=by
 have hp:=(cJ hz).2.1;unfold rL at hp;rw [zQA] at hp;have hall:=allB_iff.1 hp.2;have hjl:=(zQQ.1 hj).1
 have mono:∀ b:Nat,∀ a,a < b→b < t.points.length→∀ x y,t.points[a]?=some x→t.points[b]?=some y→x < y:=by
  intro b
  induction b with
  | zero=>intro a h;omega
  | succ b ih=>
   intro a hab hb x y hx hy;have h1:=hall (b+1) hb;have hb':t.points[b]?=some (t.points[b]'(by omega)):=zQR (by omega);have hh:t.homes[b+1]?=some (t.homes[b+1]'(by have:=of_decide_eq_true hp.1;omega)):=zQR _;rw [qDK hy (by rw [Nat.add_sub_cancel];exact hb') hh] at h1;have h2:=(of_decide_eq_true h1).2.1 (by omega);rcases Nat.lt_or_ge a b with hlt|hge
   ·have:=ih a hlt (by omega) x _ hx hb';omega
   have : a = b := by omega
   subst this;rw [hx] at hb';cases hb';exact h2
 unfold bY;rw [List.findIdx?_eq_some_iff_getElem];refine⟨hjl,?_,λk hk=>?_⟩
 ·rw [zQR hjl] at hj;simp [Option.some.inj hj]
 have hkl : k < t.points.length := by omega
 have:=mono j k hk hjl _ _ (zQR hkl) hj;simp;omega
theorem qPH {c:Inter} (hf:fN t c=true) {k:Nat} (hk:k < t.routes.length) {j:Nat} {el:Int} (hj:t.points[j]?=some el):(∀ v,(⟨el,v⟩:Setting)∈bS (rAt t k)→(kK t c k).lies[j]?=some v)∧((∀ v,(⟨el,v⟩:Setting)∉bS (rAt t k))→(kK t c k).lies[j]?=c.lies[j]?):=by
 have H:=eB hf hk;have hf':=fitsB_iff.1 hf;have hc:=cJ hf'.1;have hix:=qES hf'.1 hj;have hjl:=(zQQ.1 hj).1
 have hpl:∀ e∈eG (bS (rAt t k)),aK t e.el=j→e.el=el:=λe he h=>by
  obtain⟨q,hq,_⟩:=gB (hc.2.2.1 _ H.mem).2 (ascS_mem.1 he);exact qDL hq hix (by simpa [aK,hq] using h)
 constructor
 ·intro v hv;refine qAO t (eG (bS (rAt t k))) j v (λe he h=>?_) c.lies (by omega) (.inl ⟨⟨el,v⟩,ascS_mem.2 hv,by simp [aK,hix]⟩);exact qNT (hc.2.2.1 _ H.mem).2 (hc.2.2.2.1 _ H.mem) (ascS_mem.1 he) hv (hpl e he h)
 intro hv;refine qLP t (eG (bS (rAt t k))) j (λe he h=>?_) c.lies;have hel:=hpl e he h;refine hv e.pos ?_;rw [← hel];exact ascS_mem.1 he
theorem zES (S:ScanV t m (bF t p)) (R:Rep t m s) {k:Nat} (hk:k < t.routes.length) (H:CInv t m p s k):CInv t m p s (k+1):=by
 have hcv:=qWC S R hk H;have hfS:=cV H.sound;by_cases ha:Acc t p (cN t s p) k
 ·have hseq:=qQG ha;have hsnd:=qJL ha.2;have hid:=zHY H hk ha;have hlen:=(fitsB_iff.1 hfS).2.1;have hcx:∀ o,xAt (kK t (jB t p (cN t s p) k) k) o=if o=k then wW else xAt (jB t p (cN t s p) k) o:=λo=>zKP (by omega);refine⟨by rw [hseq];exact hsnd,λo ho hA=>?_,λo ho hA=>?_,λo ho hA=>?_,λo ho=>?_,λj hj=>?_,λj el hj=>?_⟩
  ·rw [hseq,hcx];by_cases e:o=k
   ·rw [if_pos e]
   rw [if_neg e];exact H.at_yes o (by omega) hA
  ·rw [hseq,hcx];by_cases e:o=k
   ·subst e;exact absurd ha (hA (by omega))
   rw [if_neg e];exact H.at_no o ho λh=>hA (by omega)
  ·by_cases e:o=k
   ·subst e;exact hid
   exact H.idle o (by omega) hA
  ·by_cases e:o=k
   ·subst e;exact hcv
   exact H.called o (by omega)
  ·rw [hseq];rcases zBD ha.2 hj with h|h
   ·rw [h];exact H.keeps j hj
   exact .inr h
  rw [hseq];have hl:=qPH hfS hk hj;have hold:=H.lies j el hj;have hix:=qES (fitsB_iff.1 hfS).1 hj;have hco:=(qIW H.sound hk).1 ha.2;have Hk:=eB hfS hk;have hch:=cJ S.hC.chk;have one {a b:Int} (h1:(⟨el,a⟩:Setting)∈bS (rAt t k)) (h2:(⟨el,b⟩:Setting)∈bS (rAt t k)):a=b:=qNT (hch.2.2.1 _ Hk.mem).2 (hch.2.2.2.1 _ Hk.mem) h1 h2 rfl
  have agree {a b:Int} (h1:(⟨el,a⟩:Setting)∈bS (rAt t k)) {o:Nat} (ho:o < k) (hA:Acc t p (cN t s p) o) (h2:(⟨el,b⟩:Setting)∈bS (rAt t o)):a=b:=by
   refine Classical.byContradiction λhne=>?_;have hcon:=(hco.2.2.1 o (by omega)).2;unfold gD at hcon;rw [decide_eq_false (by omega),Bool.not_false,Bool.true_and] at hcon
   have hb:(⟨el,b⟩:Setting)∈iQ t (jB t p (cN t s p) k) o:=by
    unfold iQ lT;rw [H.at_yes o ho hA,if_neg (by decide),ascS_mem];have hkept:∀ x,wD t (rAt t o) wW x=true:=λx=>by unfold wD wW;simp
    simp only [bS,zQN,List.mem_filter,hkept,and_true] at h2 ⊢;exact h2
   have:=agree_no.2 ⟨⟨el,a⟩,ascS_mem.2 h1,⟨el,b⟩,hb,rfl,hne⟩;rw [hcon] at this;cases this
  by_cases h2:(⟨el,2⟩:Setting)∈bS (rAt t k)
  ·rw [hl.1 2 h2];exact⟨λ_=>.inl ⟨k,by omega,ha,h2⟩,λ_=>rfl⟩
  by_cases h1:(⟨el,1⟩:Setting)∈bS (rAt t k)
  ·rw [hl.1 1 h1];constructor
   ·intro h;cases h
   rintro (⟨o,ho,hA,hs⟩|⟨_,hno⟩)
   ·rcases Nat.lt_or_ge o k with hlt|hge
    ·exact absurd (agree h1 hlt hA hs) (by decide)
    rw [show o=k by omega] at hs;exact absurd hs h2
   exact absurd ⟨k,by omega,ha,h1⟩ hno
  have hnone:∀ v,(⟨el,v⟩:Setting)∉bS (rAt t k):=λv hv=>by
   have:=S.hC.set_in Hk.mem (ascS_mem.2 hv);dsimp only at this;rcases (by omega:v=1∨v=2) with e|e<;>subst e
   ·exact h1 hv
   exact h2 hv
  rw [hl.2 hnone,hold]
  have ex (v:Int):(∃ o,o < k+1∧Acc t p (cN t s p) o∧(⟨el,v⟩:Setting)∈bS (rAt t o))↔∃ o,o < k∧Acc t p (cN t s p) o∧(⟨el,v⟩:Setting)∈bS (rAt t o):=by
   constructor
   ·rintro⟨o,ho,hA,hs⟩;rcases Nat.lt_or_ge o k with hlt|hge
    ·exact⟨o,hlt,hA,hs⟩
    rw [show o=k by omega] at hs;exact absurd hs (hnone v)
   rintro⟨o,ho,h⟩;exact⟨o,by omega,h⟩
  rw [ex 2,ex 1]
 have hseq:=qNA ha;refine⟨by rw [hseq];exact H.sound,λo ho hA=>?_,λo ho hA=>?_,λo ho hA=>?_,λo ho=>?_,λj hj=>by rw [hseq];exact H.keeps j hj,λj el hj=>?_⟩
 ·rw [hseq];by_cases e:o=k
  ·subst e;exact absurd hA ha
  exact H.at_yes o (by omega) hA
 ·rw [hseq];exact H.at_no o ho λh=>hA (by omega)
 ·by_cases e:o=k
  ·subst e;exact absurd hA ha
  exact H.idle o (by omega) hA
 ·by_cases e:o=k
  ·subst e;exact hcv
  exact H.called o (by omega)
 rw [hseq,H.lies j el hj]
 have ex (v:Int):(∃ o,o < k+1∧Acc t p (cN t s p) o∧(⟨el,v⟩:Setting)∈bS (rAt t o))↔∃ o,o < k∧Acc t p (cN t s p) o∧(⟨el,v⟩:Setting)∈bS (rAt t o):=by
  constructor
  ·rintro⟨o,ho,hA,hs⟩;by_cases e:o=k
   ·subst e;exact absurd hA ha
   exact⟨o,by omega,hA,hs⟩
  rintro⟨o,ho,h⟩;exact⟨o,by omega,h⟩
 rw [ex 2,ex 1]
theorem qON (S:ScanV t m (bF t p)) (R:Rep t m s):∀ k,k≤t.routes.length→CInv t m p s k
 | 0,_=>zER R
 | k+1,h=>zES S R (by omega) (qON S R k (by omega))
theorem zAO (S:ScanV t m (bF t p)) (R:Rep t m s) {j:Nat} {el:Int} (hj:t.points[j]?=some el):gV (gZ t m (bF t p)) ((inN t:Int)+(j:Int))=decide ((jB t p (cN t s p) t.routes.length).lies[j]?=some 2):=by
 have hjl:=(zQQ.1 hj).1;have H:=qON S R t.routes.length (zQW _);have hf:=cV R.sound;obtain⟨W,a1,a2⟩:=at5 S hj
 have hold:gV W ((inN t:Int)+(j:Int))=decide (s.lies[j]?=some 2):=by
  rw [a1.old _ (by simp),show (inN t:Int)+(j:Int)=((inN t+j:Nat):Int) by omega,vO S (by omega)];exact R.lie j hjl
 have hw (rev:Bool):(kD t el rev t.routes.length).any (evE W)=true↔∃ o,o < t.routes.length∧Acc t p (cN t s p) o∧(⟨el,if rev=true then 2 else 1⟩:Setting)∈bS (rAt t o):=by
  unfold kD;rw [List.any_flatMap,zQU];constructor
  ·rintro⟨o,ho,h⟩;have ho:=List.mem_range.1 ho;have Ho:=eB hf ho;rw [Ho.r] at h;dsimp only at h;unfold qE at h;rw [List.any_map,zQU] at h;obtain⟨x,hx,hev⟩:=h;rw [List.mem_filter] at hx;simp only [Function.comp,kT] at hev;rw [a1.new _ (by have:=qAV Ho.r ho;unfold mX;simp only [zQN];grind),H.called o ho] at hev;refine⟨o,ho,hev,?_⟩;have hs:=S.hC.set_in Ho.mem hx.1;have hx2:=hx.2;simp only [zQA,decide_eq_true_eq,beq_iff_eq] at hx2
   have hxe:x=⟨el,if rev=true then 2 else 1⟩:=by
    refine qJD hx2.1 ?_;show x.pos=if rev=true then 2 else 1;rw [hx2.2];by_cases h2:x.pos=2
    ·simp [h2]
    simp [h2];omega
   rw [← hxe];exact ascS_mem.1 hx.1
  rintro⟨o,ho,hA,hs⟩;have Ho:=eB hf ho;refine⟨o,List.mem_range.2 ho,?_⟩;rw [Ho.r];dsimp only;unfold qE;rw [List.any_map,zQU];refine⟨_,List.mem_filter.2 ⟨ascS_mem.2 hs,?_⟩,?_⟩
  ·cases rev<;>simp
  simp only [Function.comp,kT];rw [a1.new _ (by have:=qAV Ho.r ho;unfold mX;simp only [zQN];grind),H.called o ho];exact hA
 rw [a2,Bool.eq_iff_iff,decide_eq_true_eq,H.lies j el hj];unfold qBU;rw [qQ];simp only [List.any_cons,List.any_nil,Bool.or_false,qQ,mL,pA,List.all_cons,List.all_nil,Bool.and_true,kT,hold,Bool.or_eq_true,zQA,decide_eq_true_eq,Bool.not_eq_true'];rw [hw true,← Bool.not_eq_true,hw false];simp
theorem zAZ (R:Rep t m s):(sV t s p).1=jB t p (cN t s p) t.routes.length:=by
 unfold sV;rw [if_pos R.sound];exact zBC _
theorem qQS (hC:COk t) (ht:t.Wf) (ha:dU t≤2000) (R:Rep t m s) (p:Inputs):Rep t (qY (wN t) m (bF t p)) (sV t s p).1:=by
 have S:=R.ok.scanV hC ht ha (bF t p);have hsc:=R.ok.scan hC (bF t p);have H:=qON S R t.routes.length (zQW _);have hN:=lR t;rw [zAZ R]
 have xat:∀ i,i < t.routes.length→xAt (jB t p (cN t s p) t.routes.length) i=wW∧Acc t p (cN t s p) i∧(fV t s p i).state=0∧(fV t s p i).rel=0∨xAt (jB t p (cN t s p) t.routes.length) i=fV t s p i∧¬ Acc t p (cN t s p) i:=λi hi=>by
  by_cases hA:Acc t p (cN t s p) i
  ·exact .inl ⟨H.at_yes i hi hA,hA,H.idle i hi hA⟩
  exact .inr ⟨H.at_no i hi λ_=>hA,hA⟩
 have vbn:∀ y:Nat,vb (qY (wN t) m (bF t p)) y=gV (gZ t m (bF t p)) (y:Int):=λy=>by rw [hsc.2,qVQ];rfl
 have cnn:∀ (y:Nat) (v:Int),(qKN t m (bF t p))[y]?=some v→cn (qY (wN t) m (bF t p)) y=v:=λy v h=>by
  rw [hsc.2];unfold cn;rw [zQD,h];rfl
 refine⟨hsc.1,H.sound,λi hi k hk=>?_,λi hi k hk=>?_,λi hi h=>?_,λi hi h=>?_,λj hj=>?_⟩
 ·have hr:=zQR hi;have M:=vM S R hr;have hcl:=H.called i hi;rw [vbn];rcases (by omega:k=0∨k=1∨k=2∨k=3) with e|e|e|e<;>subst e
  ·rw [show ((aF t i + 0 : Nat) : Int) = (aF t i : Int) + 0 by omega, at6 S hr, M.hkeep];rcases xat i hi with ⟨hx,hA,h0,_⟩|⟨hx,hA⟩
   ·rw [hx,hcl.2 hA,Bool.or_true];rfl
   have:gV (gZ t m (bF t p)) (dL t i+4)=false:=by
    cases hg:gV (gZ t m (bF t p)) (dL t i+4) with
    | false=>rfl
    | true=>exact absurd (hcl.1 hg) hA
   rw [hx,this,Bool.or_false];rfl
  ·rw [show ((aF t i + 1 : Nat) : Int) = (aF t i : Int) + 1 by omega, M.hclr];rcases xat i hi with ⟨hx,hA,h0,_⟩|⟨hx,hA⟩
   ·rw [hx,h0];rfl
   rw [hx];rfl
  ·rw [show ((aF t i + 2 : Nat) : Int) = (aF t i : Int) + 2 by omega, zDX S hr, M.huse];rcases xat i hi with ⟨hx,hA,h0,_⟩|⟨hx,hA⟩
   ·rw [hx,h0];rfl
   rw [hx];rfl
  rw [show ((aF t i + 3 : Nat) : Int) = (aF t i : Int) + 3 by omega, zDY S hr, M.hhold];rcases xat i hi with ⟨hx,hA,h0,_⟩|⟨hx,hA⟩
  ·rw [hx,h0];rfl
  rw [hx];rfl
 ·have hr:=zQR hi;rw [vbn,show ((aF t i+4+k:Nat):Int)=(aF t i:Int)+(4+(k:Int)) by omega,qRA S R hr hk];rcases xat i hi with ⟨hx,hA,h0,hz⟩|⟨hx,hA⟩
  ·rw [hx,hz];rfl
  rw [hx]
 ·have hr:=zQR hi;rcases xat i hi with ⟨hx,hA,h0,hz⟩|⟨hx,hA⟩
  ·rw [hx] at h;exact absurd h (by decide)
  rw [hx] at h ⊢;exact cnn _ _ ((qER S R hr).1 h)
 ·have hr:=zQR hi;rcases xat i hi with ⟨hx,hA,h0,hz⟩|⟨hx,hA⟩
  ·rw [hx] at h;exact absurd h (by decide)
  rw [hx] at h ⊢;exact cnn _ _ ((qER S R hr).2 h)
 have hpj:=zQR hj;rw [vbn,show ((inN t+j:Nat):Int)=(inN t:Int)+(j:Int) by omega,zAO S R hpj]
variable {t:Table} {i:Nat} {m:Machine} {p:Inputs} {s:Inter}
theorem qTJ {α:Type} (f:α→D) (l:List α):l.length≤D.bulks (l.map f):=by
 have:=D.length_le (l.map f)
 rwa [zQC] at this
theorem qSJ {l:List Inputs} {n:Nat} (h:D.bulks (l.map Inputs.enc)≤n):∀ p∈l,p.calls.length≤n∧p.cancels.length≤n:=by
 intro p hp;have h3:p.enc.bulk≤D.bulks (l.map Inputs.enc):=D.part_le (List.mem_map.2 ⟨p,hp,rfl⟩);generalize D.bulks (l.map Inputs.enc)=N at h h3;unfold Inputs.enc at h3;simp only [D.bulk,D.bulks] at h3;have g1:=qTJ (D.int .i64) p.calls;have g2:=qTJ (D.int .i64) p.cancels;omega
theorem zDJ (hC:COk t) (R:Rep t m s):qM t m s=some true:=by
 have hf:=cV R.sound;have hf':=fitsB_iff.1 hf;have hlm:=hC.lim;have hlen:=R.ok.lens hC;unfold qM;rw [qZX hC,aA];dsimp only;rw [if_neg (by rw [decide_eq_true (show (m.vars.length:Int)=(dU t:Int) by omega),decide_eq_true (show (s.routes.length:Int)=(t.routes.length:Int) by omega)];simp)];rw [fE s.routes (λ_=>false) (.inr false) (.inl ()) (by omega) (λi x hx=>?_) (by rw [if_neg (by omega)];rfl),List.any_eq_false.2 (λ_ _=>by simp),if_neg (by simp),dB];have hi:=(zQQ.1 hx).1;have hi':i < t.routes.length:=by omega
 have H:=eB hf hi';have hsec:=hC.secs H.mem;have hb:=qMT hC hi' (k:=5+(aH t i:Int)) (by omega) (Int.le_refl _);have hN:=lR t;have hbs:=hC.base i;have hln:aH t i=(rAt t i).sections.length - 1:=by unfold aH;rw [H.r]
 have hxx:x=xAt s i:=by have:=H.x;rw [hx] at this;exact Option.some.inj this
 have F:=nU H.fits hsec.1;rw [if_pos (by omega),aG hx,aG (zD hi')];rw [oT (λk:Nat=>((if 1≤(xAt s i).state∧(xAt s i).state≤(k:Int) then (1:Int) else 0),(k:Int))) (o:=if 1≤(xAt s i).state∧(xAt s i).state≤(4:Int) then (1:Int) else 0) 4 (by rw [if_neg (by omega)];rfl) (by omega) (λk hk=>?_) (by dsimp only;rw [if_neg (by omega)];rfl),aA,if_neg (by split<;>omega),aG H.r,aB (by unfold I64;omega)]
 ·rw [lL (aH t i) (fun _ => false) (.inr (.inr (.inr false))) (.inl ()) (by omega) (fun k hk => ?_) (by rw [if_neg (by omega)]; rfl), List.any_eq_false.2 (fun _ _ => by simp), if_neg (by simp), dB, aB (aO hi (by omega)), if_neg Bool.false_ne_true];rw [if_pos (by omega),aB (by unfold I64;omega),aB (by unfold I64;omega),yV (j:=aF t i+4+k) (by omega) (by omega),R.rel i hi' k hk,hxx];rw [if_neg (by simp),aB (by unfold I64;omega),if_neg Bool.false_ne_true]
 dsimp only;rw [if_pos (by omega),aB (by unfold I64;omega),yV (j:=aF t i+k) (by omega) (by omega),R.bit i hi' k hk];by_cases he:(xAt s i).state=(k:Int)+1
 ·rw [if_pos (decide_eq_true he), if_neg (by omega), aB (by unfold I64; omega), aB (by unfold I64; omega), if_pos (by omega)];rfl
 rw [if_neg (by simpa using he), aB (by unfold I64; omega)]
 have:(if 1≤(xAt s i).state∧(xAt s i).state≤(k:Int) then (1:Int) else 0)=(if 1≤(xAt s i).state∧(xAt s i).state≤((k+1:Nat):Int) then (1:Int) else 0):=by
  by_cases h:1≤(xAt s i).state∧(xAt s i).state≤(k:Int)
  ·rw [if_pos h,if_pos (by omega)]
  rw [if_neg h,if_neg (by omega)]
 rw [this];rfl
theorem zCF (hC:COk t) (h:fU t s=true):∀ x∈s.routes,RouteState.ok x:=by
 intro x hx;have hf:=cV h;have hf':=fitsB_iff.1 hf;obtain⟨k,hk⟩:=List.getElem?_of_mem hx;have hkl:=(zQQ.1 hk).1;have H:=eB hf (show k < t.routes.length by omega);have hsec:=hC.secs H.mem;have hxx:x=xAt s k:=by have:=H.x;rw [hk] at this;exact Option.some.inj this
 have F:=nU H.fits hsec.1;rw [hxx]
 have h4:0≤(xAt s k).timer∧(xAt s k).timer < 12:=by
  rcases F.1 with e|e|e|e|e
  ·have:=F.2.2.2.1 (by omega);omega
  ·have:=F.2.2.2.1 (by omega);omega
  ·have:=F.2.2.2.1 (by omega);omega
  ·have:=F.2.2.2.2.1 e;omega
  have:=F.2.2.2.2.2 e;omega
 refine⟨?_,?_,?_⟩<;>unfold I64<;>omega
def qDB (t:Table) (l:List Inputs):Inter:=l.foldl (λs p=>(sV t s p).1) (vF t)
theorem qZK (t:Table) (l:List Inputs) {k:Nat} {p:Inputs} (h:l[k]?=some p):qDB t (l.take (k+1))=(sV t (qDB t (l.take k)) p).1:=by
 unfold qDB;rw [List.take_add_one,h,List.foldl_append];rfl
theorem zIV (hC:COk t) (ht:t.Wf) (ha:dU t≤2000) (l:List Inputs):Rep t (zJ t l) (qDB t l):=by
 unfold zJ qDB
 have:∀ (l:List Inputs) (m:Machine) (s:Inter),Rep t m s→Rep t (l.foldl (λm p=>qY (wN t) m (bF t p)) m) (l.foldl (λs p=>(sV t s p).1) s):=by
  intro l
  induction l with
  | nil=>intro m s h;exact h
  | cons p r ih=>intro m s h;exact ih _ _ (qQS hC ht ha h p)
 exact this l _ _ (qZT hC ht ha)
theorem qFV (R:fU t s=true) (p:Inputs):(sV t s p).2.clear=qUM t (sV t s p).1:=by
 unfold sV;rw [if_pos R]
theorem qVT {t:Table} {l:List Inputs} {k:Nat} (ht:t.Wf) (hl:l.length≤reachBytes∧∀ p∈l,Inputs.Wf p) (hb:D.bulks [t.enc,.sl k (l.map Inputs.enc)]≤1048576):kO t l=some true:=by
 have hin:=qSJ (l:=l) (n:=1048576) (by simp only [D.bulks,D.bulk] at hb;omega);unfold kO;rw [qZB t ht,aA]
 cases hs:vG t with
 | false=>rw [Bool.not_false,if_pos rfl,aA,if_pos rfl,qCO];rfl
 | true=>
  rw [Bool.not_true,if_neg Bool.false_ne_true,aA];by_cases h24:24 < l.length
  ·rw [decide_eq_true (by omega),if_pos rfl,qCO];rfl
  rw [decide_eq_false (by omega),if_neg Bool.false_ne_true];obtain⟨hT,h1,h2,h3⟩:=uH hs;rw [qWN hT ht hs];by_cases hz:dQ t=0
  ·have hC:COk t:=⟨hT,h1,h2,h3,hz⟩;have hlm:=hC.lim;rw [if_pos hz,aA];by_cases ha:2000 < dU t
   ·rw [if_pos ha];dsimp only;rw [if_neg (by decide),qCO];rfl
   rw [if_neg ha];have ha':dU t≤2000:=by omega
   have hP:=zDC hC ht ha';have hN:=lR t;dsimp only;rw [if_pos rfl,qLJ hP,aA,zIB t hT,aA];rw [fF l.length (λk=>((zJ t (l.take k)).vars,(zJ t (l.take k)).counts,(zJ t (l.take k)).halted,(qDB t (l.take k)).routes,(qDB t (l.take k)).lies)) (o:=.inl ((zJ t l).vars,(zJ t l).counts,(zJ t l).halted,(qDB t l).routes,(qDB t l).lies)) (by rfl) (by omega) (λk hk=>?_) (by dsimp only;rw [if_neg (by omega),List.take_length];rfl),dB]
   ·rw [qCO];rfl
   have hk':=zQR hk;have hpm:=List.getElem_mem hk;generalize l[k]=p at hk' hpm;have hR:=zIV hC ht ha' (l.take k);have hM:=hR.ok.lens hC;have hR2:=qQS hC ht ha' hR p;have hfit:=fitsB_iff.1 (cV hR.sound);have hfit2:=fitsB_iff.1 (cV hR2.sound);have hpb:=hin p hpm;have hst:=qZS hC ha' hR2;have hip:hU t p=some (bF t p):=by rw [zBL t p hT (by unfold Cnt;omega) (by unfold Cnt;omega),if_pos hz]
   dsimp only;rw [if_pos (by omega),aG hk',hip,aA,zAG l hk',qZK t l hk'];rw [show (⟨(zJ t (l.take k)).vars,(zJ t (l.take k)).counts,(zJ t (l.take k)).halted⟩:Machine)=zJ t (l.take k) from rfl,show (⟨(qDB t (l.take k)).routes,(qDB t (l.take k)).lies⟩:Inter)=qDB t (l.take k) from rfl];rw [zDB hC ht ha' _ _ (by omega) (by omega),aA,zBM t _ p hT (qMR ht) (by omega) (by omega) (by omega) (by omega),aA];have hclr:=qFV hR.sound p;generalize zJ t (l.take k)=m at *;generalize qDB t (l.take k)=s at *;rw [if_neg (by rw [hR2.ok.run];exact Bool.false_ne_true),zIA hT hs,if_pos ⟨hz,hR2.ok.fitsN hC ha'⟩,aA,hst.1,zIR _ (by omega) (by omega) (zCF hC hR2.sound),aA,Bool.not_true,if_neg Bool.false_ne_true,zBE hT hs,if_pos hz,aA,hst.2,hclr,zHR _ (by unfold Cnt qUM;rw [uJ];omega),aA,Bool.not_true,if_neg Bool.false_ne_true,zDJ hC hR2,aA,Bool.not_true,aA,if_neg Bool.false_ne_true,aB (aO hk (by omega))]
  rw [if_neg hz,aA];dsimp only;rw [if_neg hz,qCO];rfl
end Go.Proofs.YtcagmechagiclaaGreatDoor
