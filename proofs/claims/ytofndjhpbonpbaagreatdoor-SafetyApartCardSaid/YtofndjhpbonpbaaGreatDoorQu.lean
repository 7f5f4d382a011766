/- Texts of this proof, joined, without what it does not use. No condition. -/
import Derived.Test.YtofndjhpbonpbaaGreatDoorQt

set_option linter.unusedSimpArgs false
set_option linter.unusedVariables false
namespace Go.Proofs.YtofndjhpbonpbaaGreatDoor
open Go Go.TL
theorem qCI {α:Type} {f:Int×List α->Option ((Int×List α) ⊕ List α)} (l:List α) (P:α->Bool) (hn:l.length<=1000000000) (hf:∀ (i:Nat) (e:α) (b:List α),l[i]?=some e->b.length<=i->f ((i:Int),b)=some (.inl ((i:Int)+1,if P e=true then b++[e] else b))) (he:∀ b,f ((l.length:Int),b)=some (.inr b)):aZ f (0,[])=some (l.filter P):=by
 refine jB l.length (λi=>(l.take i).filter P) (by simp) (by omega) (λi hi=>?_) (by rw [he];simp);have e1:l[i]?=some l[i]:=by simp
 rw [hf i l[i] _ e1 (Nat.le_trans (List.length_filter_le _ _) (by rw [List.length_take];omega)),List.take_add_one,e1,List.filter_append]
 congr 3
 split
 ·rename_i h;simp [h]
 rename_i h;simp [h]
theorem qOE {α β:Type} {f:Int×List β->Option ((Int×List β) ⊕ List β)} (l:List α) (g:α->β) (b0:List β) (hn:l.length<=1000000000) (hf:∀ (i:Nat) (e:α) (b:List β),l[i]?=some e->b.length=b0.length+i->f ((i:Int),b)=some (.inl ((i:Int)+1,b++[g e]))) (he:∀ b,f ((l.length:Int),b)=some (.inr b)):aZ f (0,b0)=some (b0++l.map g):=by
 refine jB l.length (λi=>b0++(l.take i).map g) (by simp) (by omega) (λi hi=>?_) (by rw [he];simp);have e1:l[i]?=some l[i]:=by simp
 rw [hf i l[i] _ e1 (by rw [zQL,zQC,List.length_take,Nat.min_eq_left (by omega)]),List.take_add_one,e1];simp only [Option.toList_some,List.map_append,List.map_cons,List.map_nil,List.append_assoc]
theorem mL {t:Al} (h:fG t=0):qDA t=true/\mR t=true/\(∀ r∈t.Ab,lH t r=true/\nT t r=true)/\(∀ r∈t.Ab,mV r=true)/\uW t.Ab=true:=by
 unfold fG at h;split at h
 ·cases h
 split at h
 ·cases h
 split at h
 ·cases h
 split at h
 ·cases h
 split at h
 ·cases h
 rename_i h1 h2 h3 h4 h5;simp only [Bool.not_eq_false] at h1 h2 h3 h4 h5;rw [zQT] at h3 h4;exact⟨h1,h2,λr hr=>by have:=h3 r hr;rwa [zQA] at this,h4,h5⟩
theorem qAK {t:Al} {l:List Aa} (h:eL t l=true) {s:Aa} (hs:s∈l):(fM t.Ad s.el).isSome=true/\1<=s.pos/\s.pos<=2:=by
 obtain⟨i,hi,rfl⟩:=List.mem_iff_getElem.1 hs;have h1:=allB_iff.1 h i hi;rw [qEA (x:=l[i]) (y:=l[i - 1]) (by simp) (by rw [zQR])] at h1;have:=of_decide_eq_true h1;exact⟨this.1,this.2.1,this.2.2.1⟩
theorem sX {t:Al} {r:Ai} (h:nT t r=true) {s:Aa} (hs:s∈fX r):∃ k,fM t.Ad s.el=some k/\k < t.Ad.length:=by
 unfold nT at h;rw [zQA,zQA] at h
 have:(fM t.Ad s.el).isSome=true:=by
  simp only [fX,zQN] at hs;rcases hs with (hs|hs)|hs
  ·exact (qAK h.1.1 hs).1
  ·exact (qAK h.1.2 hs).1
  exact (qAK h.2 hs).1
 obtain⟨k,hk⟩:=Option.isSome_iff_exists.1 this;exact⟨k,hk,by obtain⟨_,_,_,h⟩:=qLI hk;exact h⟩
def SOk (t:Al):Prop:=∀ r∈t.Ab,∀ s∈fX r,Aa.ok s
def qBN (t:Al) (el:Int):Int:=((fM t.Ad el).bind (t.A1[·]?)).getD 0
theorem qWH {t:Al} {el:Int} {k:Nat} (h:fM t.Ad el=some k) {x:Int} (hx:t.A1[k]?=some x):qBN t el=x:=by simp [qBN,h,hx]
def rC (t:Al) (r:Ai) (x:Ak) (s:Aa):Bool:=!decide (qBN t s.el∈r.Ac.take x.rel.toNat)
def jM (t:Al) (r:Ai) (x:Ak):List Aa:=if x.state=0 then [] else iB (r.Ad.filter (rC t r x)++r.Aj++r.At)
theorem qOY {t:Al} (h:fG t=0) {el:Int} {k:Nat} (hk:fM t.Ad el=some k):t.A1[k]?=some (qBN t el):=by
 obtain⟨_,h2,_⟩:=mL h;unfold mR at h2;rw [zQA,decide_eq_true_eq] at h2;obtain⟨_,_,_,hlt⟩:=qLI hk;have:t.A1[k]?=some t.A1[k]:=by rw [zQR]
 rw [qWH hk this,this]
theorem qLJ (l:List Int) (x:Int) (h:Cnt l):sK l x=some (decide (x∈l)):=by simp [sK,qPG l x h]
theorem qWC (t:Al) (r:Ai) (x:Ak) (h:TOk t) (ho:SOk t) (hc:fG t=0) (hr:r∈t.Ab) (hx:0<=x.rel/\x.rel<=r.Ac.length):nM t r x=some (jM t r x):=by
 have hs:=h.each r hr;obtain⟨_,_,h3,_⟩:=mL hc;unfold nM jM;by_cases h0:x.state=0
 ·rw [if_pos h0,if_pos h0]
 rw [if_neg h0,if_neg h0];obtain⟨n,hn⟩:=Int.eq_ofNat_of_zero_le hx.1;rw [qCI r.Ad (rC t r x) (by have:=hs.Ad;omega) (λi e b he hb=>?_) (λb=>by dsimp only;rw [if_neg (by omega)];rfl),aF]
 ·have hR := qMN (⟨⟨#[]⟩, 0, 0, [], r.Ad.filter (rC t r x), [], 0, 0, [], r.Aj, [], r.At, [], []⟩ : Ai) ⟨Nat.zero_le _, Nat.le_trans (List.length_filter_le _ _) hs.Ad, hs.over, hs.At⟩ (fun s hm => ?_)
  ·rw [hR];rfl
  refine ho r hr s ?_;simp only [fX,zQN,List.mem_filter] at hm ⊢
  grind
 dsimp only;have hi:i < r.Ad.length:=(zQQ.1 he).1;obtain⟨k,hk,hkl⟩:=sX (h3 r hr).2 (s:=e) (by simp [fX,zQM he]);have hh:=qOY hc hk;have hsec:=hs.secs;have hp:=hs.Ad;rw [if_pos (by omega),aJ he,aA ⟨by omega,hx.1,hx.2⟩,vX t e.el (by have:=h.Ad;unfold Cnt;omega),aF,hk];rw [show uB (some k)=(k:Int) from rfl,aJ hh,hn,qMI,qLJ _ _ (by unfold Cnt;rw [List.length_take];omega),aF];have hkb:rC t r x e=!decide (qBN t e.el∈r.Ac.take n):=by unfold rC;rw [hn];rfl
 rw [hkb];split
 ·rename_i h1;rw [aA (by simp;omega),aA (bU hi (by omega))]
 rename_i h1;rw [aA (bU hi (by omega))]
theorem qFJ (l:List Aa) (x:Aa) (h:Cnt l) (ho:∀ s∈l,Aa.ok s) (hx:Aa.ok x):jG l x=some (decide (x∈l)):=by
 unfold jG;rw [fE l (λe=>decide (e=x)) (.inr true) (.inl ()) h (λi e he=>?_) (by rw [if_neg (by omega)];rfl)]
 ·have e1 : (l.any fun e => decide (e = x)) = decide (x ∈ l) := by rw [Bool.eq_iff_iff]; simp
  rw [e1];by_cases hm:x∈l
  ·rw [if_pos (by simpa using hm)];simp [hm]
  rw [if_neg (by simpa using hm)];simp [hm]
 have hi:=(zQQ.1 he).1;rw [if_pos (by omega),aJ he,aA ⟨ho e (zQM he),hx⟩];by_cases h1:e=x
 ·rw [if_pos h1,if_pos (by simpa using h1)];rfl
 rw [if_neg h1,if_neg (by simpa using h1),aA (bU hi h)]
theorem qRZ {l:List Aa} (h:Asc l) (P:Aa->Bool):Asc (l.filter P):=List.Pairwise.filter P h
theorem qSO (t:Al) (s:Az) (h:TOk t) (ho:SOk t) (hc:fG t=0) {i:Nat} {r:Ai} {x:Ak} (hr:t.Ab[i]?=some r) (hx:s.Ab[i]?=some x) (hf:dU x r.Ac.length=true):nB t s (i:Int)=some (jM t r x):=by
 have hm:=zQM hr;have hs:=h.each r hm;obtain⟨_,_,h3,_⟩:=mL hc;have hrel:=yN hf;have hlen:(fX r).length<=6000000:=by have:=hs.Ad;have:=hs.over;have:=hs.At;simp [fX];omega
 have hlen':=Nat.le_trans (qGD (fX r)) hlen;unfold nB jM;rw [aJ hx];by_cases h0:x.state=0
 ·rw [if_pos h0,if_pos h0]
 rw [if_neg h0, if_neg h0, aJ hr, aJ hx, aA ⟨by omega, hrel.1, hrel.2⟩, qIF r hs, aF];obtain⟨n,hn⟩:=Int.eq_ofNat_of_zero_le hrel.1;have hok:∀ e∈fX r,Aa.ok e:=ho r hm;rw [qCI (iB (fX r)) (λe=>(decide (e∈r.Ad)&&rC t r x e)||decide (e∈r.Aj)||decide (e∈r.At)) (by omega) (λi e b he hb=>?_) (λb=>by dsimp only;rw [if_neg (by omega)];rfl),aF]
 ·congr 1
  refine qUQ (qRZ (qAB _) _) λe=>?_;simp only [List.mem_filter,ascS_mem,fX,zQN,Bool.or_eq_true,zQA,decide_eq_true_eq]
  grind
 dsimp only;have hi:i < (iB (fX r)).length:=(zQQ.1 he).1;have hin:e∈fX r:=ascS_mem.1 (zQM he);obtain⟨k,hk,hkl⟩:=sX (h3 r hm).2 hin;have hh:=qOY hc hk;have hsec:=hs.secs;have hkb:rC t r x e=!decide (qBN t e.el∈r.Ac.take n):=by unfold rC;rw [hn];rfl
 have hpo:∀ s∈r.Ad,Aa.ok s:=λs h=>hok s (by simp [fX,h]);have hoo:∀ s∈r.Aj,Aa.ok s:=λs h=>hok s (by simp [fX,h]);have hfo:∀ s∈r.At,Aa.ok s:=λs h=>hok s (by simp [fX,h]);have hp:=hs.Ad;have hov:=hs.over;have hfl:=hs.At;rw [if_pos (by omega),aJ he,xW t e.el (by have:=h.Ad;unfold Cnt;omega),aF,hk,show uB (some k)=(k:Int) from rfl,aJ he];rw [qFJ r.Ad e (by unfold Cnt;omega) hpo (hok e hin),aF]
 have e1:(if decide (e∈r.Ad)=true then aU t.A1 (k:Int) λe23=>aB (gG (sub r.Ac 0 x.rel) e23) λr24=>some !r24 else some false)=some (decide (e∈r.Ad)&&rC t r x e):=by
  rw [aJ hh,hn,qMI,zJ _ _ (by unfold Cnt;rw [List.length_take];omega),aF,hkb];by_cases h5:e∈r.Ad<;>simp [h5]
 rw [e1,aF]
 have e2:(if (decide (e∈r.Ad)&&rC t r x e)=true then some true else aU (iB (fX r)) (i:Int) λe28=>aB (jG r.Aj e28) λr29=>if r29=true then some true else aU (iB (fX r)) (i:Int) λe31=>aB (jG r.At e31) λr32=>some r32)=some ((decide (e∈r.Ad)&&rC t r x e)||decide (e∈r.Aj)||decide (e∈r.At)):=by
  rw [aJ he,qFJ r.Aj e (by unfold Cnt;omega) hoo (hok e hin),aF,aJ he,qFJ r.At e (by unfold Cnt;omega) hfo (hok e hin),aF];cases (decide (e∈r.Ad)&&rC t r x e)<;>by_cases h6:e∈r.Aj<;>simp [h6]
 rw [e2,aF];split
 ·rename_i h1;rw [aJ he,aA (by simp;omega),aA (bU hi (by omega))]
 rename_i h1;rw [aA (bU hi (by omega))]
theorem qGA (t:Al) (r:Ai) (x:Ak) (hs:Short r):(jM t r x).length<=6000000:=by
 unfold jM;split
 ·simp
 have h1:=qGD (r.Ad.filter (rC t r x)++r.Aj++r.At);have h2:=List.length_filter_le (rC t r x) r.Ad;have:=hs.Ad;have:=hs.over;have:=hs.At;simp only [zQL] at h1;omega
theorem qFZ {t:Al} {r:Ai} {x:Ak} {e:Aa} (h:e∈jM t r x):e∈fX r:=by
 unfold jM at h;split at h
 ·cases h
 rw [ascS_mem] at h;simp only [fX,zQN,List.mem_filter] at h ⊢
 grind
def kU (a b:List Int):Bool:=a.any λn=>decide (n∈b)
theorem xT (a b:List Int):kU a b=kU b a:=by
 rw [Bool.eq_iff_iff];simp only [kU,zQU,decide_eq_true_eq];grind
theorem qBG (a b:List Int) (ha:Cnt a) (hb:Cnt b):kF a b=some (kU a b):=by
 unfold kF;rw [fE a (λe=>decide (e∈b)) (.inr true) (.inl ()) ha (λi e he=>?_) (by rw [if_neg (by omega)];rfl)]
 ·unfold kU;cases a.any (λe=>decide (e∈b))<;>rfl
 have hi:=(zQQ.1 he).1;rw [if_pos (by omega),aJ he,zJ b e hb,aF];split
 ·rfl
 rw [aA (bU hi ha)]
def dZ (a b:Ai):Bool:=decide (0<=a.exit)&&decide (b.entry=a.exit)
theorem qFL (a b:Ai):gL a b=some (dZ a b):=rfl
theorem zL (t:Al) {i j:Nat} {a b:Ai} (ha:t.Ab[i]?=some a) (hb:t.Ab[j]?=some b):fZ t (i:Int) (j:Int)=some (dZ a b):=by
 unfold fZ dZ;rw [aJ ha,aJ hb,aJ ha];by_cases h:0<=a.exit<;>simp [h]
def oI (r:Ai) (x:Ak):List Ap:=(nK r x).map (λn=>⟨n,0⟩)++(nL r x).map (λn=>⟨n,1⟩)
theorem qBC (r:Ai) (x:Ak) (h:Short r):(nK r x).length<=2000000:=by have:=h.secs;unfold nK;split<;>simp<;>omega
theorem qBD (r:Ai) (x:Ak) (h:Short r):(nL r x).length<=2000000:=by have:=h.secs;unfold nL;split<;>simp<;>omega
theorem qVZ (r:Ai) (x:Ak) (h:Short r) (hx:dU x r.Ac.length=true):lP r x=some (oI r x):=by
 have h1:=qBC r x h;have h2:=qBD r x h;unfold lP oI;rw [qZM r x h hx,aF,qOE (nK r x) (λn=>(⟨n,0⟩:Ap)) [] (by omega) (λi e b he hb=>?_) (λb=>by dsimp only;rw [if_neg (by omega)];rfl),aF]
 ·rw [qZN r x h, aF, qOE (nL r x) (fun n => (⟨n, 1⟩ : Ap)) _ (by omega) (fun i e b he hb => ?_) (fun b => by dsimp only; rw [if_neg (by omega)]; rfl), aF]
  ·rfl
  have hi:=(zQQ.1 he).1;dsimp only;rw [if_pos (by omega),aJ he,aA (by simp at hb ⊢;omega),aA (bU hi (by omega))]
 have hi:=(zQQ.1 he).1;dsimp only;rw [if_pos (by omega),aJ he,aA (by simp at hb ⊢;omega),aA (bU hi (by omega))]
theorem zAA (l:List Ap) (n p:Int) (h:Cnt l) (ho:∀ s∈l,Ap.ok s) (hx:Ap.ok ⟨n,p⟩):oS l n p=some (decide ((⟨n,p⟩:Ap)∈l)):=by
 unfold oS;rw [fE l (λe=>decide (e=⟨n,p⟩)) (.inr true) (.inl ()) h (λi e he=>?_) (by rw [if_neg (by omega)];rfl)]
 ·have e1 : (l.any fun e => decide (e = ⟨n, p⟩)) = decide ((⟨n, p⟩ : Ap) ∈ l) := by rw [Bool.eq_iff_iff]; simp
  rw [e1];by_cases hm:(⟨n,p⟩:Ap)∈l
  ·rw [if_pos (by simpa using hm)];simp [hm]
  rw [if_neg (by simpa using hm)];simp [hm]
 have hi:=(zQQ.1 he).1;rw [if_pos (by omega),aJ he,aA ⟨ho e (zQM he),hx⟩];by_cases h1:e=⟨n,p⟩
 ·rw [if_pos h1,if_pos (by simpa using h1)];rfl
 rw [if_neg h1,if_neg (by simpa using h1),aA (bU hi h)]
def vL (a b:Ai) (pa oa pb ob:List Int):Bool:=
 kU pa pb||(kU oa pb&&!dZ a b)||(kU pa ob&&!dZ b a)||(kU oa ob&&!dZ a b&&!dZ b a)
theorem qUU {n:Int} (h:I64 n) (p:Int) (hp:p=0\/p=1):Ap.ok ⟨n,p⟩:=by
 refine⟨h,?_⟩;rcases hp with rfl|rfl<;>(simp only;unfold I64;omega)
theorem zAM (a b:Ai) (pa oa pb ob:List Int) (hpa:pa.length<=2000000/\∀ n∈pa,I64 n) (hoa:oa.length<=2000000/\∀ n∈oa,I64 n) (hpb:pb.length<=2000000/\∀ n∈pb,I64 n) (hob:ob.length<=2000000/\∀ n∈ob,I64 n):
  kV a b (pa.map (λn=>⟨n,0⟩)++oa.map (λn=>⟨n,1⟩)) (pb.map (λn=>⟨n,0⟩)++ob.map (λn=>⟨n,1⟩))=some (vL a b pa oa pb ob):=by
 unfold kV;rw [qFL,aF,qFL,aF];generalize hL:(pa.map (λn=>(⟨n,0⟩:Ap))++oa.map (λn=>(⟨n,1⟩:Ap)))=la;generalize hM:(pb.map (λn=>(⟨n,0⟩:Ap))++ob.map (λn=>(⟨n,1⟩:Ap)))=lb;have hla:la.length<=4000000:=by rw [<- hL];simp;omega
 have hlb:lb.length<=4000000:=by rw [<- hM];simp;omega
 have hao:∀ e∈la,I64 e.a0:=by
  intro e he;rw [<- hL,zQN,List.mem_map,List.mem_map] at he;rcases he with ⟨n,hn,rfl⟩|⟨n,hn,rfl⟩
  ·exact hpa.2 n hn
  exact hoa.2 n hn
 have hbo:∀ e∈lb,Ap.ok e:=by
  intro e he;rw [<- hM,zQN,List.mem_map,List.mem_map] at he;rcases he with ⟨n,hn,rfl⟩|⟨n,hn,rfl⟩
  ·exact qUU (hpb.2 n hn) 0 (.inl rfl)
  exact qUU (hob.2 n hn) 1 (.inr rfl)
 rw [fE la (λe=>(decide ((⟨e.a0,0⟩:Ap)∈lb)&&(decide (e.a1=0)||!dZ a b))||(decide ((⟨e.a0,1⟩:Ap)∈lb)&&!dZ b a&&(decide (e.a1=0)||!dZ a b))) (.inr true) (.inl ()) (by omega) (λi e he=>?_) (by rw [if_neg (by omega)];rfl)]
 ·have e1:(la.any λe=>(decide ((⟨e.a0,0⟩:Ap)∈lb)&&(decide (e.a1=0)||!dZ a b))||(decide ((⟨e.a0,1⟩:Ap)∈lb)&&!dZ b a&&(decide (e.a1=0)||!dZ a b)))=vL a b pa oa pb ob:=by
   rw [<- hL,<- hM,List.any_append,List.any_map,List.any_map,Bool.eq_iff_iff];unfold vL kU;simp only [Bool.or_eq_true,zQA,zQU,Function.comp,zQN,List.mem_map,Ap.mk.injEq,decide_eq_true_eq,Bool.not_eq_true']
   grind
  rw [e1];cases vL a b pa oa pb ob<;>rfl
 have hi:=(zQQ.1 he).1;have hm:=zQM he;rw [if_pos (by omega),aJ he,zAA lb e.a0 0 (by unfold Cnt;omega) hbo (qUU (hao e hm) 0 (.inl rfl)),aF,zAA lb e.a0 1 (by unfold Cnt;omega) hbo (qUU (hao e hm) 1 (.inr rfl)),aF];by_cases h1:e.a1=0<;>cases hA:dZ a b<;>cases hB:dZ b a<;>by_cases h2:(⟨e.a0,0⟩:Ap)∈lb<;>by_cases h3:(⟨e.a0,1⟩:Ap)∈lb<;>simp [h1,h2,h3,bU hi (show la.length<=9223372036854775807 by omega)]
def rAt (t:Al) (i:Nat):Ai:=(t.Ab[i]?).getD default
def xAt (s:Az) (i:Nat):Ak:=(s.Ab[i]?).getD default
theorem rAt_of {t:Al} {i:Nat} (h:i < t.Ab.length):t.Ab[i]?=some (rAt t i):=by unfold rAt;rw [zQR h];rfl
theorem xAt_of {s:Az} {i:Nat} (h:i < s.Ab.length):s.Ab[i]?=some (xAt s i):=by unfold xAt;rw [zQR h];rfl
structure FitsAt (t:Al) (s:Az) (i:Nat):Prop where
 r:t.Ab[i]?=some (rAt t i)
 x:s.Ab[i]?=some (xAt s i)
 mem:rAt t i∈t.Ab
 fits:dU (xAt s i) (rAt t i).Ac.length=true
theorem qBR {t:Al} {s:Az} (h:sM t s=true) {i:Nat} (hi:i < t.Ab.length):FitsAt t s i:=by
 have h':=fitsB_iff.1 h;have hr:=rAt_of hi;have hx:=xAt_of (s:=s) (i:=i) (by omega);refine⟨hr,hx,zQM hr,?_⟩;have:=h'.2.2.2.1 i (by omega)
 rwa [yI hx hr] at this
def iE (t:Al) (s:Az) (i:Nat):List Int:=nK (rAt t i) (xAt s i)
def iF (t:Al) (s:Az) (i:Nat):List Int:=nL (rAt t i) (xAt s i)
def mU (t:Al) (s:Az) (i:Nat):List Aa:=jM t (rAt t i) (xAt s i)
def lS (t:Al) (s:Az) (a b:Nat):Bool:=vL (rAt t a) (rAt t b) (iE t s a) (iF t s a) (iE t s b) (iF t s b)
def qOH (t:Al) (s:Az) (el:Int):Int:=((fM t.Ad el).bind (s.lies[·]?)).getD 0
def qB (t:Al) (s:Az) (e:Aa):Bool:=decide (qOH t s e.el=e.pos)
def lX (t:Al) (s:Az):Bool:=
 sM t s&&(fK t.Ab.length λa=>fK a λb=>!lS t s a b)&&fK t.Ab.length λa=>(mU t s a).all (qB t s)
theorem qTO {t:Al} {s:Az} (h:sM t s=true) {el:Int} {k:Nat} (hk:fM t.Ad el=some k):s.lies[k]?=some (qOH t s el):=by
 have h':=fitsB_iff.1 h;obtain⟨_,_,_,hlt⟩:=qLI hk;have:s.lies[k]?=some s.lies[k]:=by rw [zQR]
 simp [qOH,hk,this]
theorem qEF {t:Al} {r:Ai} (h:lH t r=true) (hl:qDA t=true):∀ n∈r.Ac++r.Ao,0<=n/\n < t.Ac/\n < 24:=by
 intro n hn;unfold lH at h;simp only [zQA] at h;obtain⟨i,hi,rfl⟩:=List.mem_iff_getElem.1 hn;have h1:=allB_iff.1 h.1.1.2 i hi;rw [qJQ (s:=(r.Ac++r.Ao)[i]) (by rw [zQR hi]),zQA] at h1;have h2:=of_decide_eq_true hl;have h3:0<=(r.Ac++r.Ao)[i]/\(r.Ac++r.Ao)[i] < t.Ac:=by simpa [inB] using h1.1
 omega
theorem qVO {r:Ai} {x:Ak} {n:Int} (h:n∈nK r x):n∈r.Ac:=by
 unfold nK at h;split at h
 ·cases h
 exact List.mem_of_mem_drop h
theorem qVS {r:Ai} {x:Ak} {n:Int} (h:n∈nL r x):n∈r.Ao:=by
 unfold nL at h;split at h
 ·cases h
 exact h
theorem qNS {t:Al} {r:Ai} (hc:fG t=0) (hr:r∈t.Ab) (h:Short r) (x:Ak):(nK r x).length<=2000000/\∀ n∈nK r x,I64 n:=by
 obtain⟨h1,_,h3,_⟩:=mL hc;refine⟨qBC r x h,λn hn=>?_⟩;have:=qEF (h3 r hr).1 h1 n (List.mem_append_left _ (qVO hn));unfold I64;omega
theorem qNW {t:Al} {r:Ai} (hc:fG t=0) (hr:r∈t.Ab) (h:Short r) (x:Ak):(nL r x).length<=2000000/\∀ n∈nL r x,I64 n:=by
 obtain⟨h1,_,h3,_⟩:=mL hc;refine⟨qBD r x h,λn hn=>?_⟩;have:=qEF (h3 r hr).1 h1 n (List.mem_append_right _ (qVS hn));unfold I64;omega
theorem qWR {t:Al} (h:TOk t) (hc:fG t=0) {a b:Ai} (ha:a∈t.Ab) (hb:b∈t.Ab) (x y:Ak):kV a b (oI a x) (oI b y)=some (vL a b (nK a x) (nL a x) (nK b y) (nL b y)):=
 zAM a b _ _ _ _ (qNS hc ha (h.each a ha) x) (qNW hc ha (h.each a ha) x) (qNS hc hb (h.each b hb) y) (qNW hc hb (h.each b hb) y)
theorem vS (n:Nat) (P:Nat->Bool):((List.range n).any P)=!fK n λi=>!P i:=by simp [fK,List.not_all_eq_any_not]
theorem qXY (t:Al) (s:Az) (h:TOk t) (ho:SOk t):nN t s=some (lX t s):=by
 unfold nN lX;rw [zDB t s h,aF];by_cases hf:sM t s=true
 ·have hc:=(fitsB_iff.1 hf).1;have hrl:=h.Ab;rw [hf,if_neg (by simp),Bool.true_and];rw [jB (b:=([]:List (List Ap))) (o:=(List.range t.Ab.length).map λi=>oI (rAt t i) (xAt s i)) t.Ab.length (λi=>(List.range i).map λi=>oI (rAt t i) (xAt s i)) rfl (by omega) (λi hi=>?_) (by dsimp only;rw [if_neg (by omega)];rfl),aF]
  ·have hb3:∀ i,i < t.Ab.length->((List.range t.Ab.length).map λi=>oI (rAt t i) (xAt s i))[i]?=some (oI (rAt t i) (xAt s i)):=by
    intro i hi;rw [zQP,List.getElem?_range hi];rfl
   generalize ((List.range t.Ab.length).map λi=>oI (rAt t i) (xAt s i))=b3 at hb3;rw [eZ t.Ab.length (λa=>(List.range a).any λb=>lS t s a b) (.inr false) (.inl ()) (by omega) (λa ha=>?_) (by rw [if_neg (by omega)];rfl)]
   ·rw [vS]
    have e1:(fK t.Ab.length λi=>!(List.range i).any λb=>lS t s i b)=fK t.Ab.length λa=>fK a λb=>!lS t s a b:=by
     unfold fK;congr 1;funext a;rw [vS];simp [fK]
    rw [e1];cases hA:(fK t.Ab.length λa=>fK a λb=>!lS t s a b)
    ·rfl
    rw [if_neg (by simp), oU];rw [eZ t.Ab.length (λa=>(mU t s a).any λe=>!qB t s e) (.inr false) (.inl ()) (by omega) (λa ha=>?_) (by rw [if_neg (by omega)];rfl)]
    ·rw [vS]
     have e2:(fK t.Ab.length λi=>!(mU t s i).any λe=>!qB t s e)=fK t.Ab.length λa=>(mU t s a).all (qB t s):=by
      unfold fK;congr 1;funext a;rw [jI];simp
     rw [e2];cases (fK t.Ab.length λa=>(mU t s a).all (qB t s))<;>rfl
    have H:=qBR hf ha;have hbl:=qGA t (rAt t a) (xAt s a) (h.each _ H.mem);rw [if_pos (by omega),aJ H.r,aJ H.x,qWC t _ _ h ho hc H.mem (yN H.fits),aF];rw [fE (jM t (rAt t a) (xAt s a)) (λe=>!qB t s e) (.inr (.inr (.inr false))) (.inl ()) (by omega) (λi e he=>?_) (by rw [if_neg (by omega)];rfl)]
    ·rw [show mU t s a=jM t (rAt t a) (xAt s a) from rfl];cases ((jM t (rAt t a) (xAt s a)).any λe=>!qB t s e)
     ·rw [if_neg (by simp),if_neg (by simp),oU,aA (bU ha (by omega))]
     rfl
    have hi:=(zQQ.1 he).1;obtain⟨k,hk,hkl⟩:=sX ((mL hc).2.2.1 _ H.mem).2 (qFZ (zQM he));have hp:=h.Ad;rw [if_pos (by omega),aJ he,vX t e.el (by unfold Cnt;omega),aF,hk,show uB (some k)=(k:Int) from rfl,aJ (qTO hf hk)];unfold qB;by_cases h1:qOH t s e.el=e.pos
    ·rw [if_pos h1,if_neg (by simpa using h1),aA (bU hi (by omega))]
    rw [if_neg h1,if_pos (by simpa using h1)];rfl
   rw [if_pos (by omega)];rw [eZ a (λb=>lS t s a b) (.inr (.inr (.inr false))) (.inl ()) (by omega) (λb hb=>?_) (by rw [if_neg (by omega)];rfl)]
   ·cases ((List.range a).any fun b => lS t s a b)
    ·rw [if_neg (by simp),if_neg (by simp),oU,aA (bU ha (by omega))]
    rfl
   have H:=qBR hf ha;have H':=qBR hf (i:=b) (by omega);rw [if_pos (by omega),aJ H.r,aJ H'.r,aJ (hb3 a ha),aJ (hb3 b (by omega)),qWR h hc H.mem H'.mem,aF];rw [show vL (rAt t a) (rAt t b) (nK (rAt t a) (xAt s a)) (nL (rAt t a) (xAt s a)) (nK (rAt t b) (xAt s b)) (nL (rAt t b) (xAt s b))=lS t s a b from rfl];have hg:I64 ((b:Int)+1):=bU hb (by omega);cases lS t s a b
   ·simp only [Bool.false_eq_true,if_false,aA hg]
   rw [if_pos rfl,if_pos rfl];rfl
  dsimp only;have H:=qBR hf hi;rw [if_pos (by omega),aJ H.r,aJ H.x,qVZ _ _ (h.each _ H.mem) H.fits,aF,aA (by simp;omega),aA (bU hi (by omega)),List.range_succ,List.map_append];rfl
 simp only [Bool.not_eq_true] at hf;rw [hf];rfl
def lT (t:Al) (s:Az) (a b:Nat):Bool:=
 !(kU (iE t s a) (iE t s b)||(kU (iF t s a) (iE t s b)&&!dZ (rAt t a) (rAt t b)))&&(!kU (iF t s a) (iF t s b)||dZ (rAt t a) (rAt t b)||dZ (rAt t b) (rAt t a))
theorem vK (t:Al) (s:Az) (a b:Nat):(!lS t s a b)=(lT t s a b&&lT t s b a):=by
 unfold lS vL lT;rw [xT (iE t s b) (iE t s a),xT (iF t s b) (iE t s a),xT (iF t s b) (iF t s a)];cases kU (iE t s a) (iE t s b)<;>cases kU (iF t s a) (iE t s b)<;>cases kU (iE t s a) (iF t s b)<;>cases kU (iF t s a) (iF t s b)<;>cases dZ (rAt t a) (rAt t b)<;>cases dZ (rAt t b) (rAt t a)<;>rfl
theorem qNT {t:Al} {s:Az} (h:TOk t) {i:Nat} (H:FitsAt t s i):iO t s (i:Int)=some (iE t s i):=qVP t s h H.r H.x H.fits
theorem qNX {t:Al} {s:Az} (h:TOk t) {i:Nat} (H:FitsAt t s i):iP t s (i:Int)=some (iF t s i):=qVT t s h H.r H.x
theorem qER {t:Al} {s:Az} (h:TOk t) {i:Nat} (H:FitsAt t s i):Cnt (iE t s i):=by have:=qBC _ (xAt s i) (h.each _ H.mem);unfold Cnt iE;omega
theorem qEU {t:Al} {s:Az} (h:TOk t) {i:Nat} (H:FitsAt t s i):Cnt (iF t s i):=by have:=qBD _ (xAt s i) (h.each _ H.mem);unfold Cnt iF;omega
theorem zAU {t:Al} {s:Az} (h:TOk t) {a b:Nat} (H:FitsAt t s a) (H':FitsAt t s b):nC t s (a:Int) (b:Int)=some (lT t s a b):=by
 have c1:=qER h H;have c2:=qER h H';have c3:=qEU h H;have c4:=qEU h H';unfold nC lT;rw [qNT h H,qNT h H',qNX h H,qNX h H',zL t H.r H'.r,zL t H'.r H.r];simp only [aF];rw [qBG _ _ c1 c2,qBG _ _ c3 c2,qBG _ _ c3 c4];simp only [aF];cases kU (iE t s a) (iE t s b)<;>cases kU (iF t s a) (iE t s b)<;>cases kU (iF t s a) (iF t s b)<;>cases dZ (rAt t a) (rAt t b)<;>cases dZ (rAt t b) (rAt t a)<;>rfl
theorem qUZ (t:Al) (s:Az):lX t s=(sM t s&&fK t.Ab.length λa=>(mU t s a).all (qB t s)&&fK t.Ab.length λb=>decide (a=b)||lT t s a b):=by
 unfold lX;rw [Bool.eq_iff_iff];simp only [zQA,allB_iff,Bool.or_eq_true,decide_eq_true_eq];constructor
 ·rintro⟨⟨h1,h2⟩,h3⟩;refine⟨h1,λa ha=>⟨h3 a ha,λb hb=>?_⟩⟩;rcases Nat.lt_trichotomy a b with hl|hl|hl
  ·have:=h2 b hb a hl;rw [vK,zQA] at this;exact .inr this.2
  ·exact .inl hl
  have:=h2 a ha b hl;rw [vK,zQA] at this;exact .inr this.1
 rintro⟨h1,h2⟩;refine⟨⟨h1,λa ha b hb=>?_⟩,λa ha=>(h2 a ha).1⟩;rw [vK,zQA];rcases (h2 a ha).2 b (by omega) with h|h
 ·omega
 rcases (h2 b (by omega)).2 a ha with h' | h'
 ·omega
 exact⟨h,h'⟩
theorem qDY (t:Al) (s:Az) (h:TOk t) (ho:SOk t):kP t s=some (lX t s):=by
 rw [qUZ];unfold kP;rw [qWI t s h,aF];by_cases hf:sM t s=true
 ·have hc:=(fitsB_iff.1 hf).1;have hrl:=h.Ab;rw [hf,if_neg (by simp),Bool.true_and];rw [eZ t.Ab.length (λa=>!((mU t s a).all (qB t s)&&fK t.Ab.length λb=>decide (a=b)||lT t s a b)) (.inr false) (.inl ()) (by omega) (λa ha=>?_) (by rw [if_neg (by omega)];rfl)]
  ·rw [vS];simp only [Bool.not_not];cases (fK t.Ab.length λa=>(mU t s a).all (qB t s)&&fK t.Ab.length λb=>decide (a=b)||lT t s a b)<;>rfl
  have H:=qBR hf ha;have hbl:=qGA t (rAt t a) (xAt s a) (h.each _ H.mem);rw [if_pos (by omega),qSO t s h ho hc H.r H.x H.fits,aF];rw [fE (jM t (rAt t a) (xAt s a)) (λe=>!qB t s e) (.inr (.inr (.inr (.inr false)))) (.inl ()) (by omega) (λi e he=>?_) (by rw [if_neg (by omega)];rfl)]
  ·rw [show mU t s a=jM t (rAt t a) (xAt s a) from rfl,jI (jM t (rAt t a) (xAt s a)) (qB t s)];cases hA:((jM t (rAt t a) (xAt s a)).all (qB t s))
   ·simp only [Bool.not_false,Bool.false_and,if_true];rfl
   rw [if_neg (by simp), oU, Bool.true_and];rw [eZ t.Ab.length (λb=>!(decide (a=b)||lT t s a b)) (.inr (.inr (.inr false))) (.inl ()) (by omega) (λb hb=>?_) (by rw [if_neg (by omega)];rfl)]
   ·rw [vS];simp only [Bool.not_not];have hg:I64 ((a:Int)+1):=bU ha (by omega);cases (fK t.Ab.length λb=>decide (a=b)||lT t s a b)
    ·simp only [Bool.not_false,Bool.false_and,if_true];rfl
    simp only [Bool.not_true,Bool.false_eq_true,if_false,oU,aA hg]
   have H':=qBR hf hb;have hg:I64 ((b:Int)+1):=bU hb (by omega);rw [if_pos (by omega),zAU h H H',aF];by_cases hab:a=b
   ·subst hab;simp [aA hg]
   rw [if_neg (by omega), aF, decide_eq_false hab, Bool.false_or];cases lT t s a b
   ·simp only [Bool.not_false,Bool.false_and,if_true];rfl
   simp only [Bool.not_true,Bool.false_eq_true,if_false,aA hg]
  have hi:=(zQQ.1 he).1;obtain⟨k,hk,hkl⟩:=sX ((mL hc).2.2.1 _ H.mem).2 (qFZ (zQM he));have hp:=h.Ad;rw [if_pos (by omega),aJ he,xW t e.el (by unfold Cnt;omega),aF,hk,show uB (some k)=(k:Int) from rfl,aJ (qTO hf hk),aJ he];unfold qB;by_cases h1:qOH t s e.el=e.pos
  ·rw [if_pos h1,if_neg (by simpa using h1),aA (bU hi (by omega))]
  rw [if_neg h1,if_pos (by simpa using h1)];rfl
 simp only [Bool.not_eq_true] at hf;rw [hf];rfl
end Go.Proofs.YtofndjhpbonpbaaGreatDoor
set_option linter.unusedVariables false
set_option linter.unusedSimpArgs false
set_option maxHeartbeats 1000000
set_option maxRecDepth 100000
namespace Go.Proofs.YtofndjhpbonpbaaGreatDoor
open Go Go.TL
def Tot {α:Type} (m:Option α) (Q:α->Prop):Prop:=∃ r,m=some r/\Q r
section
variable {α β σ ρ:Type}
theorem tot_some {a:α} {Q:α->Prop}:Tot (some a) Q↔Q a:=⟨λ⟨_,h,q⟩=>by cases h;exact q,λq=>⟨_,rfl,q⟩⟩
theorem tot_bind {m:Option α} {k:α->Option β} {Q:β->Prop}:Tot (aB m k) Q↔Tot m λa=>Tot (k a) Q:=by
 cases m with
 | none=>exact⟨λ⟨_,h,_⟩=>(by cases h),λ⟨_,h,_⟩=>(by cases h)⟩
 | some a=>exact⟨λh=>⟨a,rfl,h⟩,λ⟨_,h,q⟩=>(by cases h;exact q)⟩
theorem tot_bindS {m:Option (α ⊕ β)} {k:α->Option β} {Q:β->Prop}:Tot (bR m k) Q↔Tot m λo=>match o with|.inl a=>Tot (k a) Q|.inr b=>Q b:=by
 cases m with
 | none=>exact⟨λ⟨_,h,_⟩=>(by cases h),λ⟨_,h,_⟩=>(by cases h)⟩
 | some o=>
  cases o with
  | inl a=>exact⟨λh=>⟨_,rfl,h⟩,λ⟨_,h,q⟩=>(by cases h;exact q)⟩
  | inr b=>exact⟨λ⟨_,h,q⟩=>⟨_,rfl,by cases h;exact q⟩,λ⟨_,h,q⟩=>(by cases h;exact⟨_,rfl,q⟩)⟩
theorem gA {m:Option α} {P Q:α->Prop} (h:Tot m P) (hi:∀ a,P a->Q a):Tot m Q:=by
 obtain⟨r,h1,h2⟩:=h;exact⟨r,h1,hi r h2⟩
theorem aE {m:Option α} {k:α->Option β} {P:α->Prop} {Q:β->Prop} (h:Tot m P) (hi:∀ a,P a->Tot (k a) Q):Tot (aB m k) Q:=tot_bind.2 (gA h hi)
theorem bM {m:Option (α ⊕ β)} {k:α->Option β} {P:α ⊕ β->Prop} {Q:β->Prop} (h:Tot m P) (hi:∀ a,P (.inl a)->Tot (k a) Q) (hr:∀ b,P (.inr b)->Q b):Tot (bR m k) Q:=tot_bindS.2 (gA h λo=>by cases o with|inl a=>exact hi a|inr b=>exact hr b)
theorem cX {l:List α} {i:Int} {k:α->Option β} {Q:β->Prop} (h0:0<=i) (h1:i < (l.length:Int)) (h:∀ e∈l,l[i.toNat]?=some e->Tot (k e) Q):Tot (aU l i k) Q:=by
 have hx:=zQR (l:=l) (show i.toNat < l.length by omega);rw [hZ h0 hx];exact h _ (List.getElem_mem _) hx
theorem cA {f:σ->Option (σ ⊕ ρ)} {s:σ} {Q:ρ->Prop} (I:Nat->σ->Prop) (n:Nat) (hn:n<=1000000000000000) (h0:I 0 s) (hs:∀ i s,i < n->I i s->Tot (f s) λo=>match o with|.inl s'=>I (i+1) s'|.inr r=>Q r) (he:∀ s,I n s->Tot (f s) λo=>match o with|.inl _=>False|.inr r=>Q r):Tot (aZ f s) Q:=by
 have key:∀ (k i:Nat) s,i+k=n->I i s->∃ r,lV f (k+1) s=some r/\Q r:=by
  intro k
  induction k with
  | zero=>
   intro i s hi hI;obtain⟨o,h1,h2⟩:=he s (by rw [show n=i by omega];exact hI)
   cases o with
   | inl s'=>exact h2.elim
   | inr r=>exact⟨r,by simp [lV,h1],h2⟩
  | succ k ih=>
   intro i s hi hI;obtain⟨o,h1,h2⟩:=hs i s (by omega) hI
   cases o with
   | inl s'=>
    obtain⟨r,h3,h4⟩:=ih (i+1) s' (by omega) h2;exact⟨r,by rw [lV,h1];exact h3,h4⟩
   | inr r=>exact⟨r,by rw [lV,h1],h2⟩
 obtain⟨r,h1,h2⟩:=key n 0 s (by omega) h0;exact⟨r,uX h1 (by unfold lG;omega),h2⟩
theorem bZ {f:Int->Option (Int ⊕ ρ)} (l:List α) (hl:l.length<=1000000000000000) {Q:ρ->Prop} (I:Nat->Prop) (h0:I 0) (hs:∀ (i:Nat) (e:α),l[i]?=some e->I i->Tot (f (i:Int)) λo=>(o=.inl ((i:Int)+1)/\I (i+1))\/∃ r,o=.inr r/\Q r) (he:I l.length->Tot (f (l.length:Int)) λo=>∃ r,o=.inr r/\Q r):Tot (aZ f 0) Q:=by
 refine cA (λi s=>s=(i:Int)/\I i) l.length hl ⟨rfl,h0⟩ ?_ ?_
 ·rintro i s hi ⟨rfl,hI⟩;refine gA (hs i _ (zQR hi) hI) ?_;rintro o (⟨rfl,h⟩|⟨r,rfl,h⟩)
  ·exact⟨by push_cast;rfl,h⟩
  exact h
 rintro s ⟨rfl,hI⟩;refine gA (he hI) ?_;rintro o ⟨r,rfl,h⟩;exact h
theorem oM {f:Int->Option (Int ⊕ ρ)} (n:Nat) (hl:n<=1000000000000000) {Q:ρ->Prop} (I:Nat->Prop) (h0:I 0) (hs:∀ (i:Nat),i < n->I i->Tot (f (i:Int)) λo=>(o=.inl ((i:Int)+1)/\I (i+1))\/∃ r,o=.inr r/\Q r) (he:I n->Tot (f (n:Int)) λo=>∃ r,o=.inr r/\Q r):Tot (aZ f 0) Q:=by
 refine cA (λi s=>s=(i:Int)/\I i) n hl ⟨rfl,h0⟩ ?_ ?_
 ·rintro i s hi ⟨rfl,hI⟩;refine gA (hs i hi hI) ?_;rintro o (⟨rfl,h⟩|⟨r,rfl,h⟩)
  ·exact⟨by push_cast;rfl,h⟩
  exact h
 rintro s ⟨rfl,hI⟩;refine gA (he hI) ?_;rintro o ⟨r,rfl,h⟩;exact h
theorem bF {i n:Nat} (h:i < n) (hn:n<=1000000000000000):I64 ((i:Int)+1):=by unfold I64;omega
end
theorem zAY (s:BA) (h:s.size<=1000000000000000):Tot (mG s) λ_=>True:=by
 have hsz:s.data.toList.length=s.size:=by rw [Array.length_toList];rfl
 unfold mG;refine bM (P:=λ_=>True) (bZ s.data.toList (by omega) (λ_=>True) trivial ?_ ?_) (λ_ _=>tot_some.2 trivial) (λ_ _=>trivial)
 ·intro i e hx _;have hi:=(zQQ.1 hx).1;have hg:=bF (show i < s.size by omega) h;rw [if_pos (by omega)];simp only [aJ hx];refine aE (P:=λ_=>True) ?_ λx _=>?_
  ·split<;>exact tot_some.2 trivial
  refine aE (P := fun _ => True) ?_ fun y _ => ?_
  ·split
   ·split<;>exact tot_some.2 trivial
   exact tot_some.2 trivial
  split
  ·exact⟨_,rfl,.inr ⟨_,rfl,trivial⟩⟩
  rw [aA hg];exact⟨_,rfl,.inl ⟨rfl,trivial⟩⟩
 intro _;rw [if_neg (by omega)];exact⟨_,rfl,_,rfl,trivial⟩
def qAJ (k:Int):Int:=if k=1 then 2 else if k=2 then 3 else if k=3 then 4 else 0
theorem qGH (k:Int):jA k=some (qAJ k):=by
 unfold jA qAJ;split
 ·rfl
 split
 ·rfl
 split<;>rfl
theorem qMM (k:Int):0<=qAJ k/\qAJ k<=4:=by
 unfold qAJ;split
 ·omega
 split
 ·omega
 split<;>omega
theorem qST (k a b:Int):Tot (eO k a b) λr=>0<=r.1/\r.1<=2:=by
 unfold eO;split
 ·exact tot_some.2 (by dsimp only;omega)
 split
 ·exact tot_some.2 (by dsimp only;omega)
 split<;>exact tot_some.2 (by dsimp only;omega)
def eA (l:Ag) (e:End):Prop:=0<=e.el/\e.el < (l.Ae.length:Int)/\0<=e.side/\e.side < 4
theorem qBS {l:Ag} {e:End} (h:eA l e) (hl:l.Ae.length<=1000000):End.ok e:=by
 obtain⟨h1,h2,h3,h4⟩:=h;unfold End.ok I64;omega
theorem qGL (l:Ag) (e:End):Tot (gU l e) λr=>r=true->eA l e:=by
 unfold gU
 have key : Tot (if (0 : Int) <= e.el then
   if e.el < (l.Ae.length : Int) then
    if (0 : Int) <= e.side then
     aU l.Ae e.el fun e6 =>
     aB (jA e6.kind) fun r7 =>
     some (decide (e.side < r7))
    else
     some false
   else
    some false
  else
   some false) fun r => r = true -> eA l e := by
  split
  ·split
   ·split
    ·refine cX (by omega) (by omega) fun x hx _ => ?_;rw [qGH,aF];refine tot_some.2 λhs=>?_;have:=of_decide_eq_true hs;have:=qMM x.kind;exact⟨by omega,by omega,by omega,by omega⟩
    exact tot_some.2 (by simp)
   exact tot_some.2 (by simp)
  exact tot_some.2 (by simp)
 exact aE key λx hx=>tot_some.2 hx
theorem qMB (l:List BA) (hl:l.length<=1000000000):Tot (iW l) λ_=>True:=by
 unfold iW;refine bM (P:=λ_=>True) (bZ l (by omega) (λ_=>True) trivial ?_ ?_) (λ_ _=>tot_some.2 trivial) (λ_ _=>trivial)
 ·intro i e hx _;have hi:=(zQQ.1 hx).1;rw [if_pos (by omega)];refine bM (P:=λo=>match o with|.inl _=>True|.inr b=>∃ r,b=.inr r) (oM i (by omega) (λ_=>True) trivial ?_ ?_) ?_ ?_
  ·intro k hk _;have hk2:=zQR (l:=l) (show k < l.length by omega);rw [if_pos (by omega),aJ hx,aJ hk2];split
   ·exact⟨_,rfl,.inr ⟨_,rfl,_,rfl⟩⟩
   rw [aA (bF hk (by omega))];exact⟨_,rfl,.inl ⟨rfl,trivial⟩⟩
  ·intro _;rw [if_neg (by omega)];exact⟨_,rfl,_,rfl,trivial⟩
  ·intro a _;rw [aA (bF hi (by omega))];exact⟨_,rfl,.inl ⟨rfl,trivial⟩⟩
  rintro b ⟨r,rfl⟩;exact .inr ⟨_,rfl,trivial⟩
 intro _;rw [if_neg (by omega)];exact⟨_,rfl,_,rfl,trivial⟩
theorem qXE (l:List Int) (hl:l.length<=1000000000):Tot (jV l) λ_=>True:=by
 unfold jV;refine bM (P:=λ_=>True) (bZ l (by omega) (λ_=>True) trivial ?_ ?_) (λ_ _=>tot_some.2 trivial) (λ_ _=>trivial)
 ·intro i e hx _;have hi:=(zQQ.1 hx).1;rw [if_pos (by omega)];refine bM (P:=λo=>match o with|.inl _=>True|.inr b=>∃ r,b=.inr r) (oM i (by omega) (λ_=>True) trivial ?_ ?_) ?_ ?_
  ·intro k hk _;have hk2:=zQR (l:=l) (show k < l.length by omega);rw [if_pos (by omega),aJ hx,aJ hk2];split
   ·exact⟨_,rfl,.inr ⟨_,rfl,_,rfl⟩⟩
   rw [aA (bF hk (by omega))];exact⟨_,rfl,.inl ⟨rfl,trivial⟩⟩
  ·intro _;rw [if_neg (by omega)];exact⟨_,rfl,_,rfl,trivial⟩
  ·intro a _;rw [aA (bF hi (by omega))];exact⟨_,rfl,.inl ⟨rfl,trivial⟩⟩
  rintro b ⟨r,rfl⟩;exact .inr ⟨_,rfl,trivial⟩
 intro _;rw [if_neg (by omega)];exact⟨_,rfl,_,rfl,trivial⟩
theorem zBC (l:List End) (hl:l.length<=1000000000) (ho:∀ e∈l,End.ok e):Tot (mE l) λ_=>True:=by
 unfold mE;refine bM (P:=λ_=>True) (bZ l (by omega) (λ_=>True) trivial ?_ ?_) (λ_ _=>tot_some.2 trivial) (λ_ _=>trivial)
 ·intro i e hx _;have hi:=(zQQ.1 hx).1;rw [if_pos (by omega)];refine bM (P:=λo=>match o with|.inl _=>True|.inr b=>∃ r,b=.inr r) (oM i (by omega) (λ_=>True) trivial ?_ ?_) ?_ ?_
  ·intro k hk _;have hk2:=zQR (l:=l) (show k < l.length by omega);rw [if_pos (by omega),aJ hx,aJ hk2,aA ⟨ho _ (zQM hx),ho _ (zQM hk2)⟩];split
   ·exact⟨_,rfl,.inr ⟨_,rfl,_,rfl⟩⟩
   rw [aA (bF hk (by omega))];exact⟨_,rfl,.inl ⟨rfl,trivial⟩⟩
  ·intro _;rw [if_neg (by omega)];exact⟨_,rfl,_,rfl,trivial⟩
  ·intro a _;rw [aA (bF hi (by omega))];exact⟨_,rfl,.inl ⟨rfl,trivial⟩⟩
  rintro b ⟨r,rfl⟩;exact .inr ⟨_,rfl,trivial⟩
 intro _;rw [if_neg (by omega)];exact⟨_,rfl,_,rfl,trivial⟩
structure LayW (l:Ag):Prop where
 name:l.name.size<=1000000000000000
 Ac:∀ s∈l.Ac,s.size<=1000000000000000
 Ae:∀ x∈l.Ae,Aw.Wf x
 joints:l.joints.length<=100000000/\∀ j∈l.joints,End.ok j.a/\End.ok j.b
 Ah:∀ s∈l.Ah,A0.Wf s
 balises:∀ s∈l.balises,A4.Wf s
structure LayS (l:Ag):Prop where
 Ae:1<=l.Ae.length/\l.Ae.length<=32
 Ac:1<=l.Ac.length/\l.Ac.length<=24
 Ah:l.Ah.length<=20
 balises:l.balises.length<=24
theorem zER (l:Ag) (hs:LayS l):Tot (nF l) λr=>r.a0=l.Ac/\r.a1=l.Ae.map (·.name)/\r.a2=l.Ah.map (·.name):=by
 have h1:=hs.Ae;have h2:=hs.Ac;have h3:=hs.Ah;refine⟨⟨l.Ac,l.Ae.map (·.name),l.Ah.map (·.name)⟩,?_,rfl,rfl,rfl⟩;unfold nF;rw [List.nil_append,aA (by omega)];rw [jB l.Ae.length (λi=>(l.Ae.take i).map (·.name)) (o:=l.Ae.map (·.name)) (by simp) (by omega) (λi hi=>?_) (by dsimp only;rw [if_neg (by omega),List.take_length];rfl),aF]
 ·rw [jB l.Ah.length (fun i => (l.Ah.take i).map (·.name)) (o := l.Ah.map (·.name)) (by simp) (by omega) (fun i hi => ?_) (by dsimp only; rw [if_neg (by omega), List.take_length]; rfl), aF];have hx:=zQR hi;dsimp only;rw [if_pos (by omega),aJ hx,aA (by simp;omega),aA (bU hi (by omega)),List.take_add_one,hx,List.map_append];rfl
 have hx:=zQR hi;dsimp only;rw [if_pos (by omega),aJ hx,aA (by simp;omega),aA (bU hi (by omega)),List.take_add_one,hx,List.map_append];rfl
theorem zES (l:Ag) (hw:LayW l):Tot (nG l) λr=>r=0->LayS l:=by
 unfold nG;split
 ·exact tot_some.2 (by intro h;cases h)
 rename_i hc
 have hs:LayS l:=by
  simp only [Bool.or_eq_true,decide_eq_true_eq,not_or] at hc;exact⟨by omega,by omega,by omega,by omega⟩
 have h1:=hs.Ae;have h2:=hs.Ac;have h3:=hs.Ah;refine aE (zER l hs) ?_;rintro⟨a0,a1,a2⟩ ⟨q0,q1,q2⟩;dsimp only at q0 q1 q2 ⊢;have l0:a0.length<=24:=by rw [q0];omega
 have l1:a1.length<=32:=by rw [q1,zQC];omega
 have l2:a2.length<=20:=by rw [q2,zQC];omega
 have hsz:∀ s∈(([l.name]++a0)++a1)++a2,s.size<=1000000000000000:=by
  intro s hs;simp only [zQN,List.mem_singleton] at hs;rcases hs with ((rfl|hs)|hs)|hs
  ·exact hw.name
  ·rw [q0] at hs;exact hw.Ac s hs
  ·rw [q1] at hs;obtain⟨x,hx,rfl⟩:=List.mem_map.1 hs;have:=qC (hw.Ae x hx).name;exact Nat.le_trans this (by omega)
  rw [q2] at hs;obtain⟨x,hx,rfl⟩:=List.mem_map.1 hs;have:=qC (hw.Ah x hx).name;exact Nat.le_trans this (by omega)
 rw [aA (by simp;omega),aA (by simp;omega),aA (by simp;omega)];refine bM (P:=λo=>match o with|.inl _=>True|.inr b=>b≠0) (bZ ((([l.name]++a0)++a1)++a2) (by simp;omega) (λ_=>True) trivial ?_ ?_) ?_ ?_
 ·intro i e hx _;have hi:=(zQQ.1 hx).1;rw [if_pos (by omega),aJ hx];refine aE (zAY e (hsz e (zQM hx))) λb _=>?_;split
  ·exact⟨_,rfl,.inr ⟨_,rfl,by decide⟩⟩
  rw [aA (bF hi (by simp;omega))];exact⟨_,rfl,.inl ⟨rfl,trivial⟩⟩
 ·intro _;rw [if_neg (by omega)];exact⟨_,rfl,_,rfl,trivial⟩
 ·intro a _;refine aE (P:=λ_=>True) ?_ λb _=>?_
  ·refine aE (qMB a0 (by omega)) fun b _ => ?_;split
   ·exact tot_some.2 trivial
   refine aE (qMB a1 (by omega)) fun b _ => ?_;split
   ·exact tot_some.2 trivial
   exact aE (qMB a2 (by omega)) λb _=>tot_some.2 trivial
  split
  ·exact tot_some.2 λh=>by cases h
  exact tot_some.2 λ_=>hs
 intro b hb h0;exact absurd h0 hb
theorem zEQ (l:Ag) (x:Aw):Tot (nE l x) λr=>r=true->1<=x.kind/\x.kind<=3/\500<=x.length/\x.length<=1000000/\0<=x.Aq/\x.Aq < (l.Ac.length:Int):=by
 unfold nE;split
 ·exact tot_some.2 (by simp)
 rename_i hc;simp only [Bool.or_eq_true,decide_eq_true_eq,not_or] at hc;have:1<=x.kind/\x.kind<=3/\500<=x.length/\x.length<=1000000/\0<=x.Aq/\x.Aq < (l.Ac.length:Int):=by omega
 split<;>exact tot_some.2 λ_=>this
theorem qXF (l:Ag) (s:Int) (hl:l.Ae.length<=1000):Tot (jX l s) λr=>r.length<=l.Ae.length:=by
 unfold jX;refine aE (P:=λr=>r.length<=l.Ae.length) (cA (λi s=>s.1=(i:Int)/\s.2.length<=i) l.Ae.length (by omega) ⟨rfl,Nat.zero_le _⟩ ?_ ?_) λa h=>tot_some.2 h
 ·rintro i ⟨x,b⟩ hi ⟨h1,h2⟩;dsimp only at h1 h2;subst h1;dsimp only;rw [if_pos (by omega),aJ (zQR hi)];split
  ·rw [aA (by simp; omega), aA (bF hi (by omega))];exact tot_some.2 ⟨by push_cast;rfl,by simp;omega⟩
  rw [aA (bF hi (by omega))];exact tot_some.2 ⟨by push_cast;rfl,by show b.length<=i+1;omega⟩
 rintro⟨x,b⟩ ⟨h1,h2⟩;dsimp only at h1 h2;subst h1;dsimp only;rw [if_neg (by omega)];exact tot_some.2 h2
theorem qSU (l:Ag) (hw:LayW l) (hs:LayS l):Tot (iX l) λr=>r=0->(∀ x∈l.Ae,1<=x.kind/\x.kind<=3/\500<=x.length/\x.length<=1000000/\0<=x.Aq/\x.Aq < (l.Ac.length:Int))/\(∀ j∈l.joints,eA l j.a/\eA l j.b):=by
 have h1:=hs.Ae;have h2:=hs.Ac;have h3:=hw.joints;unfold iX;refine bM (P:=λo=>match o with|.inl _=>∀ x∈l.Ae,1<=x.kind/\x.kind<=3/\500<=x.length/\x.length<=1000000/\0<=x.Aq/\x.Aq < (l.Ac.length:Int)|.inr b=>b≠0) (bZ l.Ae (by omega) (λi=>∀ k x,k < i->l.Ae[k]?=some x->1<=x.kind/\x.kind<=3/\500<=x.length/\x.length<=1000000/\0<=x.Aq/\x.Aq < (l.Ac.length:Int)) (λk x hk=>absurd hk (zQV k)) ?_ ?_) ?_ (λb hb h0=>absurd h0 hb)
 ·intro i e hx hI;have hi:=(zQQ.1 hx).1;rw [if_pos (by omega),aJ hx];refine aE (zEQ l e) λr hr=>?_
  cases r with
  | false=>exact⟨_,rfl,.inr ⟨_,rfl,(by decide:(1:Int)≠0)⟩⟩
  | true=>
   rw [if_neg (by simp),aA (bF hi (by omega))];refine⟨_,rfl,.inl ⟨rfl,λk x hk hkx=>?_⟩⟩;rcases Nat.lt_or_ge k i with h|h
   ·exact hI k x h hkx
   obtain rfl : k = i := by omega
   rw [hx] at hkx;cases hkx;exact hr rfl
 ·intro hI;rw [if_neg (by omega)];refine⟨_,rfl,_,rfl,λx hx=>?_⟩;obtain⟨k,hk⟩:=List.getElem?_of_mem hx;exact hI k x (zQQ.1 hk).1 hk
 intro _ hright;refine bM (P:=λo=>match o with|.inl _=>True|.inr b=>b≠0) (oM l.Ac.length (by omega) (λ_=>True) trivial ?_ ?_) ?_ (λb hb h0=>absurd h0 hb)
 ·intro i hi _;rw [if_pos (by omega)];refine aE (qXF l i (by omega)) λr _=>?_;split
  ·exact⟨_,rfl,.inr ⟨_,rfl,(by decide:(1:Int)≠0)⟩⟩
  rw [aA (bF hi (by omega))];exact⟨_,rfl,.inl ⟨rfl,trivial⟩⟩
 ·intro _;rw [if_neg (by omega)];exact⟨_,rfl,_,rfl,trivial⟩
 intro _ _;refine bM (P:=λo=>match o with|.inl b=>(b.length=2 * l.joints.length/\∀ e∈b,End.ok e)/\∀ j∈l.joints,eA l j.a/\eA l j.b|.inr b=>b≠0) (cA (λi s=>s.1=(i:Int)/\s.2.length=2 * i/\(∀ e∈s.2,End.ok e)/\∀ k j,k < i->l.joints[k]?=some j->eA l j.a/\eA l j.b) l.joints.length (by omega) ⟨rfl,rfl,λe he=>(by cases he),λk x hk=>absurd hk (zQV k)⟩ ?_ ?_) ?_ (λb hb h0=>absurd h0 hb)
 ·rintro i ⟨x,b⟩ hi ⟨q1,q2,q3,q4⟩;dsimp only at q1 q2 q3 q4;subst q1;dsimp only;have hx:=zQR hi;have hm:=List.getElem_mem hi;rw [if_pos (by omega),aJ hx];refine aE (P:=λr=>r=false->eA l l.joints[i].a/\eA l l.joints[i].b) ?_ λr hr=>?_
  ·refine aE (qGL l _) fun r1 hr1 => ?_
   cases r1 with
   | false=>exact tot_some.2 (by simp)
   | true=>
    rw [if_neg (by simp)];refine aE (qGL l _) λr2 hr2=>?_
    cases r2 with
    | false=>exact tot_some.2 (by simp)
    | true=>
     rw [if_neg (by simp),aA (h3.2 _ hm)];exact tot_some.2 λ_=>⟨hr1 rfl,hr2 rfl⟩
  cases r with
  | true=>exact⟨_,rfl,(by decide:(1:Int)≠0)⟩
  | false=>
   rw [if_neg (by simp),aA (by simp;omega),aA (bF hi (by omega))];refine tot_some.2 ⟨by push_cast;rfl,by simp;omega,?_,?_⟩
   ·intro e he;rcases zQN.1 he with he|he
    ·exact q3 e he
    simp only [zQB,List.not_mem_nil,or_false] at he;rcases he with rfl|rfl
    ·exact (h3.2 _ hm).1
    exact (h3.2 _ hm).2
   intro k j hk hkx;rcases Nat.lt_or_ge k i with h|h
   ·exact q4 k j h hkx
   obtain rfl : k = i := by omega
   rw [hx] at hkx;cases hkx;exact hr rfl
 ·rintro⟨x,b⟩ ⟨q1,q2,q3,q4⟩;dsimp only at q1 q2 q3 q4;subst q1;dsimp only;rw [if_neg (by omega)];refine⟨_,rfl,⟨q2,q3⟩,λx hx=>?_⟩;obtain⟨k,hk⟩:=List.getElem?_of_mem hx;exact q4 k x (zQQ.1 hk).1 hk
 rintro b ⟨⟨q2,q3⟩,q4⟩;refine aE (zBC b (by omega) q3) λr _=>?_;split
 ·exact tot_some.2 λh=>by cases h
 exact tot_some.2 λ_=>⟨hright,q4⟩
theorem zAZ (l:Ag) (e:End) (hw:LayW l) (he:End.ok e):Tot (dV l e) λr=>(r.2=true->∃ j∈l.joints,r.1=j.a\/r.1=j.b)/\End.ok r.1:=by
 have h3:=hw.joints;unfold dV;refine bM (P:=λo=>match o with|.inl _=>True|.inr r=>(r.2=true->∃ j∈l.joints,r.1=j.a\/r.1=j.b)/\End.ok r.1) (bZ l.joints (by omega) (λ_=>True) trivial ?_ ?_) ?_ (λb hb=>hb)
 ·intro i j hx _;have hi:=(zQQ.1 hx).1;have hm:=zQM hx;have ho:=h3.2 j hm;rw [if_pos (by omega),aJ hx,aA ⟨ho.1,he⟩];split
  ·exact⟨_,rfl,.inr ⟨_,rfl,λ_=>⟨j,hm,.inr rfl⟩,ho.2⟩⟩
  rw [aA ⟨ho.2,he⟩];split
  ·exact⟨_,rfl,.inr ⟨_,rfl,λ_=>⟨j,hm,.inl rfl⟩,ho.1⟩⟩
  rw [aA (bF hi (by omega))];exact⟨_,rfl,.inl ⟨rfl,trivial⟩⟩
 ·intro _;rw [if_neg (by omega)];exact⟨_,rfl,_,rfl,trivial⟩
 intro _ _;exact tot_some.2 ⟨λh=>(by cases h),by show I64 0/\I64 0;unfold I64;omega⟩
structure LayK (l:Ag):Prop where
 w:LayW l
 s:LayS l
 right:∀ x∈l.Ae,1<=x.kind/\x.kind<=3/\500<=x.length/\x.length<=1000000/\0<=x.Aq/\x.Aq < (l.Ac.length:Int)
 joints:∀ j∈l.joints,eA l j.a/\eA l j.b
theorem sS (l:Ag) (e:End) (hk:LayK l) (he:End.ok e):Tot (dV l e) λr=>(r.2=true->eA l r.1)/\End.ok r.1:=
 gA (zAZ l e hk.w he) fun r ⟨h1, h2⟩ => ⟨fun h => by
  obtain ⟨j, hj, hr | hr⟩ := h1 h
  ·rw [hr]; exact (hk.joints j hj).1
  rw [hr]; exact (hk.joints j hj).2, h2⟩
theorem qXB (l:Ag) (hk:LayK l):Tot (jU l) λr=>r=0->∀ s∈l.Ah,eA l s.atV/\0<=s.overlap/\s.overlap<=1000000:=by
 have h1:=hk.s.Ae;have h2:=hk.s.Ah;unfold jU;refine bM (P:=λo=>match o with|.inl b=>b.length=l.Ah.length/\(∀ e∈b,eA l e)/\∀ s∈l.Ah,eA l s.atV/\0<=s.overlap/\s.overlap<=1000000|.inr b=>b≠0) (cA (λi s=>s.1=(i:Int)/\s.2.length=i/\(∀ e∈s.2,eA l e)/\∀ k j,k < i->l.Ah[k]?=some j->eA l j.atV/\0<=j.overlap/\j.overlap<=1000000) l.Ah.length (by omega) ⟨rfl,rfl,λe he=>(by cases he),λk x hk=>absurd hk (zQV k)⟩ ?_ ?_) ?_ (λb hb h0=>absurd h0 hb)
 ·rintro i ⟨x,b⟩ hi ⟨q1,q2,q3,q4⟩;dsimp only at q1 q2 q3 q4;subst q1;dsimp only;have hx:=zQR hi;rw [if_pos (by omega),aJ hx];refine aE (P:=λr=>r=false->eA l l.Ah[i].atV/\0<=l.Ah[i].overlap/\l.Ah[i].overlap<=1000000) ?_ λr hr=>?_
  ·refine aE (qGL l _) fun r1 hr1 => ?_
   cases r1 with
   | false=>exact tot_some.2 (by simp)
   | true=>
    rw [if_neg (by simp)];split
    ·exact tot_some.2 (by simp)
    exact tot_some.2 λh=>⟨hr1 rfl,by omega,by have:=of_decide_eq_false h;omega⟩
  cases r with
  | true=>exact⟨_,rfl,(by decide:(1:Int)≠0)⟩
  | false=>
   rw [if_neg (by simp),aA (by simp;omega),aA (bF hi (by omega))];refine tot_some.2 ⟨by push_cast;rfl,by simp;omega,?_,?_⟩
   ·intro e he;rcases zQN.1 he with he|he
    ·exact q3 e he
    rw [List.mem_singleton] at he;subst he;exact (hr rfl).1
   intro k j hk hkx;rcases Nat.lt_or_ge k i with h|h
   ·exact q4 k j h hkx
   obtain rfl : k = i := by omega
   rw [hx] at hkx;cases hkx;exact hr rfl
 ·rintro⟨x,b⟩ ⟨q1,q2,q3,q4⟩;dsimp only at q1 q2 q3 q4;subst q1;dsimp only;rw [if_neg (by omega)];refine⟨_,rfl,q2,q3,λx hx=>?_⟩;obtain⟨k,hk⟩:=List.getElem?_of_mem hx;exact q4 k x (zQQ.1 hk).1 hk
 rintro b ⟨q2,q3,q4⟩;have hok:∀ e∈b,End.ok e:=λe he=>qBS (q3 e he) (by omega);refine aE (zBC b (by omega) hok) λr _=>?_;split
 ·exact tot_some.2 λh=>by cases h
 refine bM (P := fun o => match o with | .inl _ => True | .inr b => b ≠ 0) (bZ b (by omega) (fun _ => True) trivial ?_ ?_) ?_ (fun b hb h0 => absurd h0 hb)
 ·intro i e hx _;have hi:=(zQQ.1 hx).1;have hm:=zQM hx;rw [if_pos (by omega),aJ hx];refine aE (sS l e hk (hok e hm)) ?_;rintro⟨f,y⟩ ⟨hf,_⟩;dsimp only at hf ⊢;refine aE (P:=λ_=>True) ?_ λr _=>?_
  ·cases y with
   | false=>exact tot_some.2 trivial
   | true=>
    have hf:=hf rfl;have he:=q3 e hm;rw [if_neg (by simp)];exact cX hf.1 hf.2.1 λ_ _ _=>cX he.1 he.2.1 λ_ _ _=>tot_some.2 trivial
  split
  ·exact⟨_,rfl,.inr ⟨_,rfl,(by decide:(14:Int)≠0)⟩⟩
  rw [aA (bF hi (by omega))];exact⟨_,rfl,.inl ⟨rfl,trivial⟩⟩
 ·intro _;rw [if_neg (by omega)];exact⟨_,rfl,_,rfl,trivial⟩
 intro _ _;exact tot_some.2 λ_=>q4
theorem qXI (l:Ag) (hk:LayK l):Tot (jW l) λ_=>True:=by
 have h1:=hk.s.balises;unfold jW;refine bM (P:=λo=>match o with|.inl b=>b.length=l.balises.length|.inr b=>True) (cA (λi s=>s.1=(i:Int)/\s.2.length=i) l.balises.length (by omega) ⟨rfl,rfl⟩ ?_ ?_) ?_ (λb hb=>trivial)
 ·rintro i ⟨x,b⟩ hi ⟨q1,q2⟩;dsimp only at q1 q2;subst q1;dsimp only;have hx:=zQR hi;rw [if_pos (by omega),aJ hx];refine aE (P:=λ_=>True) ?_ λr _=>?_
  ·split
   ·exact tot_some.2 trivial
   split
   ·exact tot_some.2 trivial
   split
   ·exact tot_some.2 trivial
   split
   ·exact tot_some.2 trivial
   split
   ·exact tot_some.2 trivial
   exact cX (by omega) (by omega) λ_ _ _=>tot_some.2 trivial
  split
  ·exact⟨_,rfl,trivial⟩
  rw [aA (by simp; omega), aA (bF hi (by omega))];exact tot_some.2 ⟨by push_cast;rfl,by simp;omega⟩
 ·rintro⟨x,b⟩ ⟨q1,q2⟩;dsimp only at q1 q2;subst q1;dsimp only;rw [if_neg (by omega)];exact⟨_,rfl,q2⟩
 intro b hb;have hb:b.length=l.balises.length:=hb;refine aE (qXE b (by omega)) λr _=>?_;split<;>exact tot_some.2 trivial
structure LayC (l:Ag):Prop where
 k:LayK l
 sigs:∀ s∈l.Ah,eA l s.atV/\0<=s.overlap/\s.overlap<=1000000
theorem qJH (l:Ag) (hw:LayW l):Tot (iZ l) λr=>r=0->LayC l:=by
 unfold iZ;refine aE (zES l hw) λr1 h1=>?_;split
 ·rename_i e1;have hs:=h1 e1;refine aE (qSU l hw hs) λr2 h2=>?_;split
  ·rename_i e2;have hk:LayK l:=⟨hw,hs,(h2 e2).1,(h2 e2).2⟩;refine aE (qXB l hk) λr3 h3=>?_;split
   ·rename_i e3;exact aE (qXI l hk) λr4 _=>tot_some.2 λ_=>⟨hk,h3 e3⟩
   rename_i e3;exact tot_some.2 λh=>absurd h e3
  rename_i e2;exact tot_some.2 λh=>absurd h e2
 rename_i e1;exact tot_some.2 λh=>absurd h e1
theorem qZU:∀ k:Fin 3,∀ a:Fin 4,((mF ((k.val:Int)+1) (a.val:Int)).any λr=>decide (r.length<=2)&&r.all λx=>decide (0<=x/\x < 4))=true:=by decide+kernel
theorem zAX {k a b:Int} (h:a < 0\/4<=a) (hb:0<=b/\b < 4):eO k a b=some (0,false):=by
 have h1:¬ (min a b=0/\max a b=1):=by omega
 have h2:¬ (min a b=2/\max a b=3):=by omega
 have h3:¬ (min a b=0/\max a b=2):=by omega
 unfold eO
 have e1:(bif decide (min a b=0) then (decide (max a b=1)||(decide (k=3)&&(decide (min a b=2)&&decide (max a b=3)))) else (decide (k=3)&&(decide (min a b=2)&&decide (max a b=3))))=false:=by
  by_cases q1:min a b=0
  ·have q2 : ¬ max a b = 1 := fun h => h1 ⟨q1, h⟩;have q3:¬ min a b=2:=by omega
   simp [q1,q2]
  by_cases q3:min a b=2
  ·have q4 : ¬ max a b = 3 := fun h => h2 ⟨q3, h⟩;simp [q3,q4]
  simp [q1,q3]
 rw [e1];split
 ·rfl
 rw [if_neg (by simp only [zQA,decide_eq_true_eq];omega),if_neg (by simp only [zQA,decide_eq_true_eq];omega)]
theorem Legs_t {k:Int} (a:Int) (hk:1<=k/\k<=3):Tot (mF k a) λr=>r.length<=2/\∀ x∈r,0<=x/\x < 4:=by
 by_cases ha:a < 0\/4<=a
 ·refine ⟨[], ?_, by simp, by simp⟩;unfold mF;rw [jB 4 (λ_=>[]) (o:=[]) rfl (by omega) (λi hi=>?_) (by dsimp only;rw [if_neg (by omega)];rfl)]
  ·rfl
  dsimp only;rw [if_pos (by omega),zAX ha (by omega),aF];dsimp only;rw [if_neg Bool.false_ne_true,aA (bF (n:=4) hi (by omega))]
 have h := qZU ⟨(k - 1).toNat, by omega⟩ ⟨a.toNat, by omega⟩;dsimp only at h;rw [show (((k - 1).toNat:Int)+1)=k by omega,show ((a.toNat:Int))=a by omega,Option.any_eq_true] at h;obtain⟨r,h1,h2⟩:=h;simp only [zQA,decide_eq_true_eq,zQT] at h2;exact⟨r,h1,h2⟩
def jE (l:Ag) (s:Am):Prop:=0<=s.el/\s.el < (l.Ae.length:Int)/\0<=s.out/\s.out < 4/\I64 s.inV
theorem yH {l:Ag} {s:Am} (hk:LayK l) (h:jE l s):End.ok ⟨s.el,s.out⟩:=by
 have:=hk.s.Ae;obtain⟨h1,h2,h3,h4,_⟩:=h;show I64 s.el/\I64 s.out;unfold I64;omega
theorem zQ (l:Ag) (i:Int):fU l i=some (decide (0<=i/\i < (l.Ae.length:Int))):=by
 unfold fU;rw [<- Bool.decide_and]
theorem qGO {l:Ag} (hk:LayK l) (e:End) (he:End.ok e):Tot (gE l e) λr=>r.length<=2/\∀ s∈r,jE l s:=by
 have hl:=hk.s.Ae;unfold gE;rw [zQ,aF];by_cases hx:0<=e.el/\e.el < (l.Ae.length:Int)
 ·rw [decide_eq_true hx, if_neg (by simp)];refine cX hx.1 hx.2 λx hxm _=>?_;have hr:=hk.right x hxm;refine aE (Legs_t e.side ⟨hr.1,hr.2.1⟩) ?_;rintro r ⟨h1,h2⟩;refine aE (P:=λr=>r.length<=2/\∀ s∈r,jE l s) (cA (λi s=>s.1=(i:Int)/\s.2.length<=i/\∀ x∈s.2,jE l x) r.length (by omega) ⟨rfl,Nat.zero_le _,λx h=>(by cases h)⟩ ?_ ?_) λa h=>tot_some.2 h
  ·rintro i ⟨y,b⟩ hi ⟨q1,q2,q3⟩;dsimp only at q1 q2 q3;subst q1;dsimp only;have hy:=zQR hi;have hm:=h2 _ (List.getElem_mem hi);rw [if_pos (by omega),aJ hy,aA (by simp;omega),aA (bF hi (by omega))];refine tot_some.2 ⟨by push_cast;rfl,by simp;omega,?_⟩;intro s hs;rcases zQN.1 hs with hs|hs
   ·exact q3 s hs
   rw [List.mem_singleton] at hs;subst hs;exact⟨hx.1,hx.2,hm.1,hm.2,he.2⟩
  rintro⟨y,b⟩ ⟨q1,q2,q3⟩;dsimp only at q1 q2 q3;subst q1;dsimp only;rw [if_neg (by omega)];exact⟨_,rfl,by omega,q3⟩
 rw [decide_eq_false hx, if_pos (by rfl)];exact tot_some.2 ⟨by simp,by simp⟩
theorem qEV (l:Ag) (s:Am):Tot (kJ l s) λr=>0<=r.1/\r.1<=2/\(r.2=true->0<=s.el/\s.el < (l.Ae.length:Int)):=by
 unfold kJ;rw [zQ,aF];by_cases hx:0<=s.el/\s.el < (l.Ae.length:Int)
 ·rw [decide_eq_true hx, if_neg (by simp)];refine cX hx.1 hx.2 λx _ _=>?_;refine aE (qST _ _ _) ?_;rintro⟨a,b⟩ ⟨h1,h2⟩;exact tot_some.2 ⟨h1,h2,λ_=>hx⟩
 rw [decide_eq_false hx, if_pos (by rfl)];exact tot_some.2 ⟨by decide,by decide,λh=>by cases h⟩
theorem qMC {l:Ag} (hk:LayK l) {s:Am} (h:jE l s):Tot (fD l s) λr=>(r.2=true->eA l r.1)/\End.ok r.1:=by
 unfold fD;refine aE (sS l _ hk (yH hk h)) ?_;rintro⟨a,b⟩ h;exact tot_some.2 h
theorem zEN {l:Ag} (hk:LayK l) {w:List Am} (h:∀ s∈w,jE l s):Tot (gO l w) λ_=>True:=by
 unfold gO;split
 ·exact tot_some.2 trivial
 rename_i hc;simp only [Bool.or_eq_true,decide_eq_true_eq,not_or] at hc;refine bM (P:=λ_=>True) (bZ w (by omega) (λ_=>True) trivial ?_ ?_) (λ_ _=>tot_some.2 trivial) (λ_ _=>trivial)
 ·intro i e hx _;have hi:=(zQQ.1 hx).1;rw [if_pos (by omega)];refine bM (P:=λo=>match o with|.inl _=>True|.inr b=>∃ r,b=.inr r) ?_ ?_ ?_
  ·rw [aJ hx];refine aE (qEV l e) ?_;rintro⟨a,b⟩ _;dsimp only;split
   ·exact⟨_,rfl,_,rfl⟩
   refine bM (P := fun o => match o with | .inl _ => True | .inr b => match b with | .inl _ => False | .inr c => ∃ r, c = .inr r) ?_ ?_ ?_
   ·split
    ·rename_i hz;have hy:=zQR (l:=w) (show i - 1 < w.length by omega);rw [aA (by unfold I64;omega),show (i:Int) - 1=((i - 1:Nat):Int) by omega,aJ hy];refine aE (qMC hk (h _ (List.getElem_mem _))) ?_;rintro⟨f,j⟩ _;dsimp only;refine aE (P:=λ_=>True) ?_ λr _=>?_
     ·split
      ·exact tot_some.2 trivial
      rw [aJ hx];split
      ·rw [aJ hx];exact tot_some.2 trivial
      exact tot_some.2 trivial
     split
     ·exact⟨_,rfl,_,rfl⟩
     exact⟨_,rfl,trivial⟩
    exact⟨_,rfl,trivial⟩
   ·intro _ _;refine oM i (by omega) (λ_=>True) trivial ?_ ?_
    ·intro k hk2 _;have hy:=zQR (l:=w) (show k < w.length by omega);rw [if_pos (by omega),aJ hy,aJ hx];split
     ·exact⟨_,rfl,.inr ⟨_,rfl,_,rfl⟩⟩
     rw [aA (bF hk2 (by omega))];exact⟨_,rfl,.inl ⟨rfl,trivial⟩⟩
    intro _;rw [if_neg (by omega)];exact⟨_,rfl,_,rfl,trivial⟩
   intro b hb
   cases b with
   | inl _=>exact hb.elim
   | inr c=>exact hb
  ·intro a _;rw [aA (bF hi (by omega))];exact⟨_,rfl,.inl ⟨rfl,trivial⟩⟩
  rintro b ⟨r,rfl⟩;exact .inr ⟨_,rfl,trivial⟩
 intro _;rw [if_neg (by omega)];exact⟨_,rfl,_,rfl,trivial⟩
theorem qXD {l:Ag} (i:Int):Tot (dA l i) λr=>(0<=i/\i < (l.Ae.length:Int)/\∃ x∈l.Ae,r=x.Aq)\/r=-1:=by
 unfold dA;split
 ·exact tot_some.2 (.inr rfl)
 rename_i hc;simp only [Bool.or_eq_true,decide_eq_true_eq,not_or] at hc;exact cX (by omega) (by omega) λx hx _=>tot_some.2 (.inl ⟨by omega,by omega,x,hx,rfl⟩)
theorem qJ {l:Ag} (i:Int):Tot (dA l i) λ_=>True:=gA (qXD i) λ_ _=>trivial
theorem zCY (l:List Int) (n:Int) (hl:l.length<=1000000000):Tot (sB l n) λ_=>True:=by
 unfold sB;refine bM (P:=λ_=>True) (bZ l (by omega) (λ_=>True) trivial ?_ ?_) (λ_ _=>tot_some.2 trivial) (λ_ _=>trivial)
 ·intro i e hx _;have hi:=(zQQ.1 hx).1;rw [if_pos (by omega),aJ hx];split
  ·exact⟨_,rfl,.inr ⟨_,rfl,trivial⟩⟩
  rw [aA (bF hi (by omega))];exact⟨_,rfl,.inl ⟨rfl,trivial⟩⟩
 intro _;rw [if_neg (by omega)];exact⟨_,rfl,_,rfl,trivial⟩
theorem yB {l:Ag} {w:List Am} (hw:w.length<=100000000):Tot (fC l w) λr=>r.length<=w.length:=by
 unfold fC;refine aE (P:=λr=>r.length<=w.length) (cA (λi s=>s.1=(i:Int)/\s.2.length<=i) w.length (by omega) ⟨rfl,Nat.zero_le _⟩ ?_ ?_) λa h=>tot_some.2 h
 ·rintro i ⟨y,b⟩ hi ⟨q1,q2⟩;dsimp only at q1 q2;subst q1;dsimp only;have hx:=zQR hi;rw [if_pos (by omega)];refine aE (P:=λr=>r=true->0<=w[i].el/\w[i].el < (l.Ae.length:Int)) ?_ λr hr=>?_
  ·rw [aJ hx,zQ,aF];by_cases hc:0<=w[i].el/\w[i].el < (l.Ae.length:Int)
   ·rw [decide_eq_true hc,if_pos rfl,aJ hx];refine cX hc.1 hc.2 λx _ _=>?_;exact aE (zCY _ _ (by omega)) λ_ _=>tot_some.2 λ_=>hc
   rw [decide_eq_false hc,if_neg Bool.false_ne_true];exact tot_some.2 (by simp)
  cases r with
  | false=>
   rw [if_neg Bool.false_ne_true,aA (bF hi (by omega))];exact tot_some.2 ⟨by push_cast;rfl,by show b.length<=i+1;omega⟩
  | true=>
   have hr:=hr rfl;rw [if_pos rfl,aJ hx];refine cX hr.1 hr.2 λx _ _=>?_;rw [aA (by simp;omega),aA (bF hi (by omega))];exact tot_some.2 ⟨by push_cast;rfl,by simp;omega⟩
 rintro⟨y,b⟩ ⟨q1,q2⟩;dsimp only at q1 q2;subst q1;dsimp only;rw [if_neg (by omega)];exact⟨_,rfl,q2⟩
theorem qGJ {l:Ag} (hk:LayK l) {w:List Am} (hw:w.length<=1000000):Tot (gT l w) λr=>0<=r/\r<=1000000 * (w.length:Int):=by
 unfold gT;refine aE (P:=λr=>0<=r/\r<=1000000 * (w.length:Int)) (cA (λi s=>s.2=(i:Int)/\0<=s.1/\s.1<=1000000 * (i:Int)) w.length (by omega) ⟨rfl,Int.le_refl _,Int.le_refl _⟩ ?_ ?_) λa h=>tot_some.2 h
 ·rintro i ⟨a,y⟩ hi ⟨q1,q2,q3⟩;dsimp only at q1 q2 q3;subst q1;dsimp only;have hx:=zQR hi;rw [if_pos (by omega),aJ hx,zQ,aF];by_cases hc:0<=w[i].el/\w[i].el < (l.Ae.length:Int)
  ·rw [decide_eq_true hc,if_pos rfl,aJ hx];refine cX hc.1 hc.2 λx hxm _=>?_;have hr:=hk.right x hxm;rw [aA (by unfold I64;omega),aA (bF hi (by omega))];refine tot_some.2 ⟨by push_cast;rfl,by show 0<=a+x.length;omega,by show a+x.length<=_;push_cast;omega⟩
  rw [decide_eq_false hc, if_neg Bool.false_ne_true, aA (bF hi (by omega))];exact tot_some.2 ⟨by push_cast;rfl,q2,by show a<=_;push_cast;omega⟩
 rintro⟨a,y⟩ ⟨q1,q2,q3⟩;dsimp only at q1 q2 q3;subst q1;dsimp only;rw [if_neg (by omega)];exact⟨_,rfl,q2,q3⟩
theorem qRU {l:List Aa} {s:Aa} (hl:l.length<=1000000) (ho:∀ x∈l,Aa.ok x) (hs:Aa.ok s):Tot (lK l s) λr=>r.length<=l.length+1/\∀ x∈r,Aa.ok x:=by
 unfold lK;refine aE (P:=λo=>0<=o.1/\o.1<=(l.length:Int)/\(o.2.length:Int)=o.1/\∀ x∈o.2,Aa.ok x) (cA (λi s=>s.1=(i:Int)/\s.2.length=i/\∀ x∈s.2,Aa.ok x) l.length (by omega) ⟨rfl,rfl,λx h=>(by cases h)⟩ ?_ ?_) ?_
 ·rintro i ⟨y,b⟩ hi ⟨q1,q2,q3⟩;dsimp only at q1 q2 q3;subst q1;dsimp only;have hx:=zQR hi;rw [if_pos (by omega)];refine aE (P:=λ_=>True) ?_ λr _=>?_
  ·rw [aJ hx];split
   ·exact tot_some.2 trivial
   rw [aJ hx];split
   ·rw [aJ hx];exact tot_some.2 trivial
   exact tot_some.2 trivial
  split
  ·rw [aJ hx, aA (by simp; omega), aA (bF hi (by omega))];refine tot_some.2 ⟨by push_cast;rfl,by simp;omega,?_⟩;intro x hxm;rcases zQN.1 hxm with hxm|hxm
   ·exact q3 x hxm
   rw [List.mem_singleton] at hxm;subst hxm;exact ho _ (List.getElem_mem hi)
  exact⟨_,rfl,by dsimp only;omega,by dsimp only;omega,by dsimp only;omega,q3⟩
 ·rintro⟨y,b⟩ ⟨q1,q2,q3⟩;dsimp only at q1 q2 q3;subst q1;dsimp only;rw [if_neg (by omega),aF,if_neg Bool.false_ne_true];exact⟨_,rfl,by dsimp only;omega,by dsimp only;omega,by dsimp only;omega,q3⟩
 rintro⟨i,b⟩ ⟨q1,q2,q3,q4⟩;dsimp only at q1 q2 q3 q4 ⊢;refine aE (P:=λr=>r.length<=b.length+1/\∀ x∈r,Aa.ok x) ?_ ?_
 ·refine aE (P := fun _ => True) ?_ fun r _ => ?_
  ·split
   ·exact tot_some.2 trivial
   refine cX q1 (by omega) fun x hx _ => ?_;rw [aA ⟨ho x hx,hs⟩];exact tot_some.2 trivial
  split
  ·rw [aA (by simp; omega)];refine tot_some.2 ⟨by simp,?_⟩;intro x hxm;rcases zQN.1 hxm with hxm|hxm
   ·exact q4 x hxm
   rw [List.mem_singleton] at hxm;subst hxm;exact hs
  exact tot_some.2 ⟨by omega,q4⟩
 rintro c ⟨c1,c2⟩
 have hsub:(sub l i (l.length:Int))=l.drop i.toNat:=by
  have:=lA l i.toNat;rw [show ((i.toNat:Nat):Int)=i by omega] at this;exact this
 have hlen:(sub l i (l.length:Int)).length=l.length - i.toNat:=by rw [hsub,List.length_drop]
 rw [aA ⟨q1,q2,Int.le_refl _⟩,aA (by rw [zQL,hlen];omega)];refine tot_some.2 ⟨by rw [zQL,hlen];omega,?_⟩;intro x hxm;rcases zQN.1 hxm with hxm|hxm
 ·exact c2 x hxm
 rw [hsub] at hxm;exact ho x (List.mem_of_mem_drop hxm)
theorem qAD {l:Ag} (hk:LayK l) {w:List Am} (hw:w.length<=1000):Tot (gD l w) λr=>r.length<=w.length/\∀ x∈r,Aa.ok x:=by
 have hl:=hk.s.Ae;unfold gD;refine aE (P:=λr=>r.length<=w.length/\∀ x∈r,Aa.ok x) (cA (λi s=>s.2=(i:Int)/\s.1.length<=i/\∀ x∈s.1,Aa.ok x) w.length (by omega) ⟨rfl,Nat.zero_le _,λx h=>(by cases h)⟩ ?_ ?_) λa h=>tot_some.2 h
 ·rintro i ⟨b,y⟩ hi ⟨q1,q2,q3⟩;dsimp only at q1 q2 q3;subst q1;dsimp only;have hx:=zQR hi;rw [if_pos (by omega),aJ hx];refine aE (qEV l _) ?_;rintro⟨p,ok⟩ ⟨p1,p2,p3⟩;dsimp only at p1 p2 p3 ⊢;split
  ·rename_i hc;simp only [zQA] at hc;have hr:=p3 hc.1;rw [aJ hx];refine aE (qRU (s:=⟨w[i].el,p⟩) (by omega) q3 (by show I64 _/\I64 _;unfold I64;dsimp only;omega)) ?_;rintro r ⟨r1,r2⟩;rw [aA (bF hi (by omega))];exact tot_some.2 ⟨by push_cast;rfl,by show r.length<=i+1;omega,r2⟩
  rw [aA (bF hi (by omega))];exact tot_some.2 ⟨by push_cast;rfl,by show b.length<=i+1;omega,q3⟩
 rintro⟨b,y⟩ ⟨q1,q2,q3⟩;dsimp only at q1 q2 q3;subst q1;dsimp only;rw [if_neg (by omega)];exact⟨_,rfl,q2,q3⟩
theorem qQI {l:Ag} (hk:LayK l) {e:End} (he:End.ok e):Tot (gV l e) λr=>-1<=r/\r < (l.Ah.length:Int):=by
 have hl:=hk.s.Ah;unfold gV;refine bM (P:=λo=>match o with|.inl _=>True|.inr r=>-1<=r/\r < (l.Ah.length:Int)) (bZ l.Ah (by omega) (λ_=>True) trivial ?_ ?_) (λ_ _=>tot_some.2 (by omega)) (λ_ h=>h)
 ·intro i s hx _;have hi:=(zQQ.1 hx).1;have hs:=(hk.w.Ah s (zQM hx)).atV;rw [if_pos (by omega),aJ hx,aA ⟨⟨hs.el,hs.side⟩,he⟩];split
  ·exact⟨_,rfl,.inr ⟨_,rfl,by omega,by omega⟩⟩
  rw [aA (bF hi (by omega))];exact⟨_,rfl,.inl ⟨rfl,trivial⟩⟩
 intro _;rw [if_neg (by omega)];exact⟨_,rfl,_,rfl,trivial⟩
theorem Fits_t {l:Ag} (hk:LayK l) (e:End) {w:List Am} (h:∀ s∈w,jE l s) (hw:w.length<=100):Tot (pQ l e w) λr=>r=true->w≠[]/\w.length<=12:=by
 unfold pQ;refine aE (P:=λr=>r=false->w≠[]/\w.length<=12) ?_ λr hr=>?_
 ·split
  ·exact tot_some.2 (by simp)
  rename_i h0;split
  ·exact tot_some.2 (by simp)
  rename_i h12;have hne:w≠[]/\w.length<=12:=⟨λe=>h0 (by rw [e];rfl),by omega⟩;refine cX (by omega) (by omega) λx _ _=>?_;split
  ·refine cX (by omega) (by omega) fun x _ _ => ?_;split
   ·exact aE (zEN hk h) λ_ _=>tot_some.2 λ_=>hne
   exact tot_some.2 (by simp)
  exact tot_some.2 (by simp)
 cases r with
 | true=>exact tot_some.2 (by simp)
 | false=>
  have hr:=hr rfl;have hpos:0 < w.length:=List.length_pos_iff.2 hr.1;rw [if_neg Bool.false_ne_true];refine aE (P:=λ_=>True) (cA (λi s=>s.2=(i:Int)+1/\0<=s.1/\s.1<=1+(i:Int)) (w.length - 1) (by omega) ⟨rfl,by decide,by decide⟩ ?_ ?_) λc _=>?_
  ·rintro i ⟨a,y⟩ hi ⟨q1,q2,q3⟩;dsimp only at q1 q2 q3;subst q1;dsimp only;have hx:=zQR (l:=w) (show i+1 < w.length by omega);have hy:=zQR (l:=w) (show i < w.length by omega);rw [if_pos (by omega),show (i:Int)+1=((i+1:Nat):Int) by omega,aJ hx];refine aE (qJ _) λr1 _=>?_;rw [aA (by unfold I64;omega),show (((i+1:Nat):Int) - 1)=(i:Int) by omega,aJ hy];refine aE (qJ _) λr2 _=>?_;split
   ·rw [aA (by unfold I64; omega)];exact tot_some.2 ⟨by push_cast;rfl,q2,by show a<=_;push_cast;omega⟩
   rw [aA (by unfold I64; omega), aA (by unfold I64; omega)];exact tot_some.2 ⟨by push_cast;rfl,by show 0<=a+1;omega,by show a+1<=_;push_cast;omega⟩
  ·rintro⟨a,y⟩ ⟨q1,q2,q3⟩;dsimp only at q1 q2 q3;subst q1;dsimp only;rw [if_neg (by omega)];exact⟨_,rfl,trivial⟩
  exact aE (yB (by omega)) λ_ _=>tot_some.2 λ_=>hr
theorem qGM {l:Ag} (hk:LayK l) {s:Am} (h:jE l s):Tot (iV l s) λr=>-1<=r.1/\r.1 < (l.Ah.length:Int):=by
 unfold iV;refine aE (qQI hk (yH hk h)) λr hr=>?_;refine aE (qMC hk h) ?_;rintro⟨a,b⟩ _;exact tot_some.2 hr
def qUT (l:Ag) (w:List Am):Prop:=w≠[]/\w.length<=12/\∀ s∈w,jE l s
theorem qYP (n:Nat):1<=2 ^ n:=Nat.one_le_two_pow
theorem qMO {l : Ag} (hk : LayK l) (e0 : End) : ∀ (fu : Nat) (p : Bp) (e : End) (w : List Am), End.ok e -> w.length <= 12 -> 13 <= fu + w.length -> (∀ s ∈ w, jE l s) -> (∀ x ∈ p.l, qUT l x) -> p.l.length + 2 ^ (13 - w.length) <= 1000000 -> Tot (cY fu p l e0 e w) fun r => r.l.length <= p.l.length + 2 ^ (13 - w.length) /\ ∀ x ∈ r.l, qUT l x
 | 0,p,e,w,he,h1,h2,_,_,_=>by omega
 | fu+1,p,e,w,he,h1,h2,hw,hp,hb=>by
  have h12:13 - w.length=(12 - w.length)+1:=by omega
  rw [h12,Nat.pow_succ] at hb ⊢;have hpos:=qYP (12 - w.length);generalize hE:2 ^ (12 - w.length)=E at hb hpos ⊢;unfold cY;refine aE (qGO hk e he) ?_;rintro r ⟨r1,r2⟩;refine cA (λi s=>s.1=(i:Int)/\s.2.length<=p.l.length+i * E/\∀ x∈s.2,qUT l x) r.length (by omega) ⟨rfl,Nat.le_add_right _ _,hp⟩ ?_ ?_
  ·rintro i ⟨y,b⟩ hi ⟨q1,q2,q3⟩;dsimp only at q1 q2 q3;subst q1;dsimp only;have hx:=zQR hi;have hs:=r2 _ (List.getElem_mem hi);have hi1:i<=1:=by omega
   have hiE:i * E<=E:=by
    rcases Nat.eq_zero_or_pos i with h|h
    ·rw [h,Nat.zero_mul];omega
    rw [show i=1 by omega,Nat.one_mul];omega
   have hlong:∀ s∈w++[r[i]],jE l s:=by
    intro s hsm;rcases zQN.1 hsm with hsm|hsm
    ·exact hw s hsm
    rw [List.mem_singleton] at hsm;subst hsm;exact hs
   have hll:(w++[r[i]]).length=w.length+1:=by simp
   rw [if_pos (by omega),List.nil_append,aA (by omega),aJ hx,aA (by omega)];refine aE (Fits_t hk e0 hlong (by omega)) λok hok=>?_
   cases ok with
   | false=>
    rw [if_pos (by rfl),aA (bF hi (by omega))];exact tot_some.2 ⟨by push_cast;rfl,by show b.length<=_;rw [Nat.add_mul];omega,q3⟩
   | true=>
    have hok:=hok rfl;have hway:qUT l (w++[r[i]]):=⟨hok.1,hok.2,hlong⟩;rw [if_neg (by simp),aJ hx];refine aE (qGM hk hs) ?_;rintro⟨g,ends⟩ _;dsimp only;split
    ·rw [aA (by simp; omega), aA (bF hi (by omega))];refine tot_some.2 ⟨by push_cast;rfl,by rw [Nat.add_mul];simp;omega,?_⟩;intro x hxm;rcases zQN.1 hxm with hxm|hxm
     ·exact q3 x hxm
     rw [List.mem_singleton] at hxm;subst hxm;exact hway
    rw [aJ hx];refine aE (qMC hk hs) ?_;rintro⟨f,j⟩ ⟨_,hf⟩;dsimp only at hf ⊢;have hE2:2 ^ (13 - (w++[r[i]]).length)=E:=by rw [hll,<- hE,show 13 - (w.length+1)=12 - w.length by omega]
    refine aE (qMO hk e0 fu ⟨b⟩ f (w++[r[i]]) hf (by omega) (by omega) hlong q3 (by rw [hE2];show b.length+E<=_;omega)) ?_;rintro⟨b'⟩ ⟨c1,c2⟩;rw [hE2] at c1;dsimp only at c1 c2 ⊢;rw [aA (bF hi (by omega))];exact tot_some.2 ⟨by push_cast;rfl,by show b'.length<=_;rw [Nat.add_mul];omega,c2⟩
  rintro⟨y,b⟩ ⟨q1,q2,q3⟩;dsimp only at q1 q2 q3;subst q1;dsimp only;have:r.length * E<=2 * E:=Nat.mul_le_mul_right _ r1;rw [if_neg (by omega)];exact⟨_,rfl,by dsimp only;omega,q3⟩
theorem rV (a b:BA):(a++b).size=a.size+b.size:=ByteArray.size_append
theorem qIT (l:List Int):(strOfNums l).size=l.length:=by
 show (l.map _).toArray.size=_;simp
theorem qWO {n:Int} (h0:0<=n) (h1:n<=1000000000):Tot (jS n) λr=>r.size<=1000000000:=by
 obtain⟨k,rfl⟩:∃ k:Nat,n=(k:Int):=⟨n.toNat,by omega⟩;unfold jS;refine aE (P:=λr=>r.size<=1000000000) (cA (λi s=>∃ m:Nat,s.1=(m:Int)/\m+i<=k/\s.2.size<=i) k (by omega) ⟨k,rfl,zQW _,zQW 0⟩ ?_ ?_) λa h=>tot_some.2 h
 ·rintro i ⟨y,b⟩ hi ⟨m,q1,q2,q3⟩;dsimp only at q1 q3;subst q1;dsimp only;split
  ·have e1:((m:Int).tmod 10)=((m % 10:Nat):Int):=rfl;have e2:((m:Int).tdiv 10)=((m / 10:Nat):Int):=rfl;have h10:¬ ((10:Int)=0):=by decide
   have e3:IntKind.i64.wrap ((m / 10:Nat):Int)=((m / 10:Nat):Int):=IntWalk.i64_in _ (by omega);rw [aA h10,e1,e2,e3,aA (by unfold I64;omega),aA (by rw [qIT];simp;omega),aA h10];refine tot_some.2 ⟨m / 10,rfl,by omega,?_⟩;show (_++b).size<=_;rw [rV,qIT];simp;omega
  exact⟨_,rfl,by show b.size<=_;omega⟩
 rintro⟨y,b⟩ ⟨m,q1,q2,q3⟩;dsimp only at q1 q3;subst q1;dsimp only;rw [if_neg (by omega)];exact⟨_,rfl,by show b.size<=_;omega⟩
theorem qQS {l:Ag} (hk:LayK l) {a b:Int} (ha:0<=a/\a < (l.Ah.length:Int)) (hb:b < (l.Ah.length:Int)):Tot (kG l a b) λr=>r.size<=1000000000000000:=by
 have hn:∀ s∈l.Ah,s.name.size<=140737488351232:=λs hs=>qC (hk.w.Ah s hs).name;have c1:(⟨#[45,101,110,100]⟩:BA).size=4:=rfl;have c2:(⟨#[45]⟩:BA).size=1:=rfl;unfold kG;split
 ·refine cX ha.1 ha.2 fun s hs _ => ?_;have:=hn s hs;rw [aA (by omega)];exact tot_some.2 (by rw [rV];omega)
 refine cX ha.1 ha.2 fun s hs _ => ?_;have:=hn s hs;rw [aA (by omega)];refine cX (by omega) hb λs' hs' _=>?_;have:=hn s' hs';rw [aA (by rw [rV];omega)];exact tot_some.2 (by rw [rV,rV];omega)
structure RtOk (l:Ag) (r:Ai):Prop where
 path:r.path.length<=12/\∀ s∈r.path,jE l s
 Ad:r.Ad.length<=1000/\∀ s∈r.Ad,Aa.ok s
 Ac:r.Ac.length<=1000
 over:r.over.length<=12/\∀ s∈r.over,jE l s
 Aj:r.Aj.length<=1000/\∀ s∈r.Aj,Aa.ok s
theorem From_t {l:Ag} (hc:LayC l) (g:Int):Tot (pP l g) λr=>r.length<=8192/\∀ x∈r,RtOk l x:=by
 have hk:=hc.k;have hl:=hk.s.Ae;have hsg:=hk.s.Ah;unfold pP;split
 ·exact tot_some.2 ⟨by simp,by simp⟩
 rename_i hg;simp only [Bool.or_eq_true,decide_eq_true_eq,not_or] at hg;have hg:0<=g/\g < (l.Ah.length:Int):=by omega
 refine cX hg.1 hg.2 λs hs hsx=>?_;refine aE (sS l _ hk (qBS (hc.sigs s hs).1 (by omega))) ?_;rintro⟨e,j⟩ ⟨_,he⟩;dsimp only at he ⊢;split
 ·exact tot_some.2 ⟨by simp,by simp⟩
 unfold kH;refine aE (qMO hk e lG ⟨[]⟩ e [] he (by simp) (by unfold lG;simp) (by simp) (by simp) (by decide)) ?_;rintro⟨W⟩ ⟨w1,w2⟩;have w1:W.length<=8192:=Nat.le_trans w1 (by decide);dsimp only at w2 ⊢
 have hlast:∀ w∈W,∃ x,w[w.length - 1]?=some x/\jE l x/\1<=w.length/\w.length<=12:=by
  intro w hw;obtain⟨a1,a2,a3⟩:=w2 w hw;have hp:0 < w.length:=List.length_pos_iff.2 a1;exact⟨_,zQR (show w.length - 1 < w.length by omega),a3 _ (List.getElem_mem _),hp,a2⟩
 refine aE (P:=λr=>r.length<=8192/\∀ x∈r,RtOk l x) (cA (λi s=>s.1=(i:Int)/\s.2.length=i/\∀ x∈s.2,RtOk l x) W.length (by omega) ⟨rfl,rfl,λx h=>(by cases h)⟩ ?_ ?_) λa h=>tot_some.2 h
 ·rintro i ⟨y,b⟩ hi ⟨q1,q2,q3⟩;dsimp only at q1 q2 q3;subst q1;dsimp only;have hx:=zQR hi;have hm:=List.getElem_mem hi;obtain⟨st,f1,f2,f3,f4⟩:=hlast _ hm;rw [if_pos (by omega)];refine aE (P:=λr=>r.length=i+1/\∀ x∈r,RtOk l x) ?_ λr hr=>?_
  ·rw [aJ hx, aA (by unfold I64; omega), show ((W[i].length : Int) - 1) = ((W[i].length - 1 : Nat) : Int) by omega, aJ f1];refine aE (qGM hk f2) ?_;rintro⟨g1,en⟩ ⟨g2,g3⟩;dsimp only at g2 g3 ⊢;refine aE (qQS hk hg g3) λnm hnm=>?_;refine aE (qAD hk (w:=W[i]) (by omega)) λps hps=>?_;refine aE (yB (l:=l) (w:=W[i]) (by omega)) λss hss=>?_;refine aE (qGJ hk (w:=W[i]) (by omega)) λlen _=>?_;refine cX hg.1 hg.2 λs2 _ _=>?_;refine aE (qJ _) λap _=>?_;refine aE (P:=λr=>0<=r/\r<=(i:Int)+1) (cA (λk s=>s.2=(k:Int)/\0<=s.1/\s.1<=(k:Int)+1) i (by omega) ⟨rfl,by decide,by decide⟩ ?_ ?_) ?_
   ·rintro k ⟨a,y⟩ hk2 ⟨p1,p2,p3⟩;dsimp only at p1 p2 p3;subst p1;dsimp only;have hx2:=zQR (l:=W) (show k < W.length by omega);obtain⟨st2,k1,k2,k3,k4⟩:=hlast _ (List.getElem_mem (show k < W.length by omega));rw [if_pos (by omega),aJ hx2,aJ hx2,aA (by unfold I64;omega),show ((W[k].length:Int) - 1)=((W[k].length - 1:Nat):Int) by omega,aJ k1];refine aE (qGM hk k2) ?_;rintro⟨m1,en2⟩ ⟨m2,m3⟩;dsimp only at m2 m3 ⊢;refine aE (qQS hk hg m3) λn1 _=>?_;refine aE (qQS hk hg g3) λn2 _=>?_;split
    ·rw [aA (by unfold I64; omega), aA (bF hk2 (by omega))];exact tot_some.2 ⟨by push_cast;rfl,by show 0<=a+1;omega,by show a+1<=_;push_cast;omega⟩
    rw [aA (bF hk2 (by omega))];exact tot_some.2 ⟨by push_cast;rfl,p2,by show a<=_;push_cast;omega⟩
   ·rintro⟨a,y⟩ ⟨p1,p2,p3⟩;dsimp only at p1 p2 p3;subst p1;dsimp only;rw [if_neg (by omega)];exact⟨_,rfl,p2,p3⟩
   rintro bf ⟨b1,b2⟩;refine aE (P:=λ_=>True) ?_ λnm2 _=>?_
   ·split
    ·have c1:(⟨#[46]⟩:BA).size=1:=rfl;rw [aA (by omega)];refine aE (qWO b1 (by omega)) λdg hdg=>?_;rw [aA (by rw [rV];omega)];exact tot_some.2 trivial
    exact tot_some.2 trivial
   rw [aA (by simp; omega)];refine tot_some.2 ⟨by simp;omega,?_⟩;intro x hxm;rcases zQN.1 hxm with hxm|hxm
   ·exact q3 x hxm
   rw [List.mem_singleton] at hxm;subst hxm;exact⟨⟨f4,(w2 _ hm).2.2⟩,⟨by have:=hps.1;show ps.length<=1000;omega,hps.2⟩,by show ss.length<=1000;omega,⟨by simp,by simp⟩,⟨by simp,by simp⟩⟩
  rw [aA (bF hi (by omega))];exact tot_some.2 ⟨by push_cast;rfl,hr⟩
 rintro⟨y,b⟩ ⟨q1,q2,q3⟩;dsimp only at q1 q2 q3;subst q1;dsimp only;rw [if_neg (by omega)];exact⟨_,rfl,by omega,q3⟩
theorem zEV {l:Ag} (hw:LayW l):Tot (sA l) λr=>r.2=0->LayC l/\r.1.length<=48/\∀ x∈r.1,RtOk l x:=by
 unfold sA;refine aE (qJH l hw) λr1 h1=>?_;split
 ·rename_i e1;have hc:=h1 e1;have hsg:=hc.k.s.Ah;refine aE (P:=λr=>∀ x∈r,RtOk l x) (cA (λi s=>s.1=(i:Int)/\s.2.length<=i * 8192/\∀ x∈s.2,RtOk l x) l.Ah.length (by omega) ⟨rfl,by simp,λx h=>(by cases h)⟩ ?_ ?_) λr hr=>?_
  ·rintro i ⟨y,b⟩ hi ⟨q1,q2,q3⟩;dsimp only at q1 q2 q3;subst q1;dsimp only;rw [if_pos (by omega)];refine aE (From_t hc i) ?_;rintro r ⟨r1,r2⟩;rw [aA (by rw [zQL];omega),aA (bF hi (by omega))];refine tot_some.2 ⟨by push_cast;rfl,by rw [zQL];omega,?_⟩;intro x hxm;rcases zQN.1 hxm with hxm|hxm
   ·exact q3 x hxm
   exact r2 x hxm
  ·rintro⟨y,b⟩ ⟨q1,q2,q3⟩;dsimp only at q1 q2 q3;subst q1;dsimp only;rw [if_neg (by omega)];exact⟨_,rfl,q3⟩
  split
  ·exact tot_some.2 λh=>by cases h
  exact tot_some.2 λ_=>⟨hc,by dsimp only;omega,hr⟩
 rename_i e1;exact tot_some.2 λh=>absurd h e1
theorem qSS {l:Ag} (hs:LayS l):Tot (lN l) λr=>r.length<=32:=by
 have hl:=hs.Ae;unfold lN;refine aE (P:=λr=>r.length<=32) (cA (λi s=>s.1=(i:Int)/\s.2.length<=i) l.Ae.length (by omega) ⟨rfl,Nat.zero_le _⟩ ?_ ?_) λa h=>tot_some.2 h
 ·rintro i ⟨y,b⟩ hi ⟨q1,q2⟩;dsimp only at q1 q2;subst q1;dsimp only;rw [if_pos (by omega),aJ (zQR hi)];split
  ·rw [aA (by simp; omega), aA (bF hi (by omega))];exact tot_some.2 ⟨by push_cast;rfl,by simp;omega⟩
  rw [aA (bF hi (by omega))];exact tot_some.2 ⟨by push_cast;rfl,by show b.length<=i+1;omega⟩
 rintro⟨y,b⟩ ⟨q1,q2⟩;dsimp only at q1 q2;subst q1;dsimp only;rw [if_neg (by omega)];exact⟨_,rfl,by omega⟩
theorem qXH {l:Ag} {r:Ai} {w:List Am} (el:Int) (hw:w.length<=1000) (hr:r.Ac.length<=1000):Tot (jR l r w el) λ_=>True:=by
 unfold jR;refine bM (P:=λ_=>True) (bZ w (by omega) (λ_=>True) trivial ?_ ?_) ?_ (λ_ _=>trivial)
 ·intro i e hx _;have hi:=(zQQ.1 hx).1;rw [if_pos (by omega),aJ hx];split
  ·exact⟨_,rfl,.inr ⟨_,rfl,trivial⟩⟩
  rw [aA (bF hi (by omega))];exact⟨_,rfl,.inl ⟨rfl,trivial⟩⟩
 ·intro _;rw [if_neg (by omega)];exact⟨_,rfl,_,rfl,trivial⟩
 intro _ _;refine bM (P:=λ_=>True) (bZ r.Ac (by omega) (λ_=>True) trivial ?_ ?_) (λ_ _=>tot_some.2 trivial) (λ_ _=>trivial)
 ·intro i e hx _;have hi:=(zQQ.1 hx).1;rw [if_pos (by omega),aJ hx];refine aE (qJ _) λs _=>?_;split
  ·exact⟨_,rfl,.inr ⟨_,rfl,trivial⟩⟩
  rw [aA (bF hi (by omega))];exact⟨_,rfl,.inl ⟨rfl,trivial⟩⟩
 intro _;rw [if_neg (by omega)];exact⟨_,rfl,_,rfl,trivial⟩
theorem zBB {l:Ag} (hc:LayC l) {r:Ai} (hr:RtOk l r):Tot (pN l r) λx=>RtOk l x:=by
 have hk:=hc.k;have hl:=hk.s.Ae;obtain⟨r1,r2,r3,r4,r5⟩:=hr;have hz:RtOk l ⟨r.name,r.entry,r.exit,r.path,r.Ad,r.Ac,r.A2,r.length,[],[],[],r.At,r.guards,r.gaps⟩:=⟨r1,r2,r3,⟨by simp,by simp⟩,⟨by simp,by simp⟩⟩;unfold pN tF;dsimp only;refine aE (P:=λx=>x.2=true->x.1∈l.Ah) ?_ ?_
 ·split
  ·exact tot_some.2 λh=>by cases h
  rename_i hg;simp only [Bool.or_eq_true,decide_eq_true_eq,not_or] at hg;exact cX (by omega) (by omega) λs hs _=>tot_some.2 λ_=>hs
 rintro⟨sg,ok⟩ hsg;dsimp only at hsg ⊢
 cases ok with
 | false=>rw [if_pos (by rfl)];exact tot_some.2 hz
 | true=>
  have hs:=hc.sigs sg (hsg rfl);rw [if_neg (by simp)];refine aE (sS l _ hk (qBS hs.1 (by omega))) ?_;rintro⟨e,j⟩ ⟨_,he⟩;dsimp only at he ⊢;refine aE (P:=λo=>o.1.length<=12/\∀ s∈o.1,jE l s) (cA (λi s=>s.2.2.2.length=i/\(∀ x∈s.2.2.2,jE l x)/\I64 s.2.1/\I64 s.2.2.1) 12 (by omega) ⟨rfl,λx h=>(by cases h),he.1,he.2⟩ ?_ ?_) ?_
  ·rintro i ⟨j,c1,c2,b⟩ hi ⟨q1,q2,q3,q4⟩;dsimp only at q1 q2 q3 q4 ⊢;refine aE (P:=λ_=>True) ?_ λgo _=>?_
   ·split
    ·refine aE (qGJ hk (w := b) (by omega)) fun len _ => ?_;split
     ·split
      ·exact aE (qXH _ (by omega) r3) λ_ _=>tot_some.2 trivial
      exact tot_some.2 trivial
     exact tot_some.2 trivial
    exact tot_some.2 trivial
   split
   ·refine aE (qGO hk _ ⟨q3,q4⟩) ?_;rintro br ⟨b1,b2⟩;split
    ·exact⟨_,rfl,by show b.length<=12;omega,q2⟩
    rename_i hne;refine cX (by omega) (by omega) λst hst hsx=>?_;rw [aA (by simp;omega)];refine cX (by omega) (by omega) λst2 hst2 _=>?_;refine aE (qMC hk (b2 st2 hst2)) ?_;rintro⟨f,j2⟩ ⟨_,hf⟩;refine tot_some.2 ⟨by simp;omega,?_,hf.1,hf.2⟩;intro x hxm;rcases zQN.1 hxm with hxm|hxm
    ·exact q2 x hxm
    rw [List.mem_singleton] at hxm;subst hxm;exact b2 _ hst
   exact⟨_,rfl,by show b.length<=12;omega,q2⟩
  ·rintro⟨j,c1,c2,b⟩ ⟨q1,q2,_⟩;dsimp only at q1 q2 ⊢;refine aE (P:=λr=>r=false) ?_ λgo hgo=>?_
   ·split
    ·refine aE (qGJ hk (w := b) (by omega)) fun len _ => ?_;split
     ·rw [if_neg (by omega)];exact tot_some.2 rfl
     exact tot_some.2 rfl
    exact tot_some.2 rfl
   subst hgo;rw [if_neg Bool.false_ne_true];exact⟨_,rfl,by show b.length<=12;omega,q2⟩
  rintro⟨b,c1,c2⟩ ⟨q1,q2⟩;dsimp only at q1 q2 ⊢;refine aE (qAD hk (w:=b) (by omega)) λps hps=>?_;refine aE (yB (l:=l) (w:=b) (by omega)) λss hss=>?_;exact tot_some.2 ⟨r1,r2,r3,⟨q1,q2⟩,⟨by have:=hps.1;show ps.length<=1000;omega,hps.2⟩⟩
theorem zBE {l:Ag} (hk:LayK l) (s:Am):Tot (gR l s) λr=>r.length<=4/\∀ e∈r,End.ok e:=by
 have hl:=hk.s.Ae;unfold gR;split
 ·exact tot_some.2 ⟨by simp,by simp⟩
 rename_i hg;simp only [Bool.or_eq_true,decide_eq_true_eq,not_or] at hg;refine cX (by omega) (by omega) λx _ _=>?_;refine aE (qST _ _ _) ?_;rintro⟨a,ok⟩ _;dsimp only;have hsd:=qMM x.kind;refine aE (P:=λr=>r.length<=4/\∀ e∈r,End.ok e) (cA (λi s=>s.1=(i:Int)/\s.2.length<=i/\∀ e∈s.2,End.ok e) (qAJ x.kind).toNat (by omega) ⟨rfl,Nat.zero_le _,λx h=>(by cases h)⟩ ?_ ?_) λa h=>tot_some.2 h
 ·rintro i ⟨y,b⟩ hi ⟨q1,q2,q3⟩;dsimp only at q1 q2 q3;subst q1;dsimp only;rw [qGH,aF,if_pos (by omega)];split
  ·rw [aA (by simp; omega), aA (bF hi (by omega))];refine tot_some.2 ⟨by push_cast;rfl,by simp;omega,?_⟩;intro e he;rcases zQN.1 he with he|he
   ·exact q3 e he
   rw [List.mem_singleton] at he;subst he;show I64 _/\I64 _;unfold I64;dsimp only;omega
  rw [aA (bF hi (by omega))];exact tot_some.2 ⟨by push_cast;rfl,by show b.length<=i+1;omega,q3⟩
 rintro⟨y,b⟩ ⟨q1,q2,q3⟩;dsimp only at q1 q2 q3;subst q1;dsimp only;rw [qGH,aF,if_neg (by omega)];exact⟨_,rfl,by omega,q3⟩
theorem qDZ {l : Ag} (hk : LayK l) {w : List Am} (hw : w.length <= 12) {b0 : List End} (h0 : b0.length <= 100) (ho : ∀ e ∈ b0, End.ok e) : Tot (aZ (fun ((i6 : Int), (b7 : List End)) =>
   if i6 < (w.length : Int) then
    aU w i6 fun e10 =>
    aB (gR l e10) fun r11 =>
    aC ((b7 ++ r11).length <= 1000000000) <|
    aC (I64 (i6 + (1 : Int))) <|
    some (.inl ((i6 + (1 : Int)), (b7 ++ r11)))
   else
    aP (
     some b7)) ((0 : Int), b0)) fun (r : List End) => r.length <= b0.length + 4 * w.length /\ ∀ e ∈ r, End.ok e := by
 refine cA (λi s=>s.1=(i:Int)/\s.2.length<=b0.length+4 * i/\∀ e∈s.2,End.ok e) w.length (by omega) ⟨rfl,Nat.le_add_right _ _,ho⟩ ?_ ?_
 ·rintro i ⟨y,b⟩ hi ⟨q1,q2,q3⟩;dsimp only at q1 q2 q3;subst q1;dsimp only;rw [if_pos (by omega),aJ (zQR hi)];refine aE (zBE hk _) ?_;rintro r ⟨r1,r2⟩;rw [aA (by rw [zQL];omega),aA (bF hi (by omega))];refine tot_some.2 ⟨by push_cast;rfl,by rw [zQL];omega,?_⟩;intro e he;rcases zQN.1 he with he|he
  ·exact q3 e he
  exact r2 e he
 rintro⟨y,b⟩ ⟨q1,q2,q3⟩;dsimp only at q1 q2 q3;subst q1;dsimp only;rw [if_neg (by omega)];exact⟨_,rfl,q2,q3⟩
theorem qXC {l:Ag} (hk:LayK l) {r:Ai} (hr:RtOk l r):Tot (nD l r) λr=>r.length<=100/\∀ e∈r,End.ok e:=by
 unfold nD;refine aE (qDZ hk hr.path.1 (b0:=[]) (by simp) (by simp)) ?_;rintro b ⟨b1,b2⟩;have h1:=hr.path.1;have h2:=hr.over.1;simp only [List.length_nil] at b1;refine aE (qDZ hk hr.over.1 (b0:=b) (by omega) b2) ?_;rintro c ⟨c1,c2⟩;exact tot_some.2 ⟨by omega,c2⟩
theorem qNY (w:List Am) (n:Int) (hl:w.length<=1000000000):Tot (mB w n) λ_=>True:=by
 unfold mB;refine bM (P:=λ_=>True) (bZ w (by omega) (λ_=>True) trivial ?_ ?_) (λ_ _=>tot_some.2 trivial) (λ_ _=>trivial)
 ·intro i e hx _;have hi:=(zQQ.1 hx).1;rw [if_pos (by omega),aJ hx];split
  ·exact⟨_,rfl,.inr ⟨_,rfl,trivial⟩⟩
  rw [aA (bF hi (by omega))];exact⟨_,rfl,.inl ⟨rfl,trivial⟩⟩
 intro _;rw [if_neg (by omega)];exact⟨_,rfl,_,rfl,trivial⟩
theorem qDO {l:List Aa} {s:Aa} (hl:l.length<=1000000000) (ho:∀ x∈l,Aa.ok x) (hs:Aa.ok s):Tot (kT l s) λ_=>True:=by
 unfold kT;refine bM (P:=λ_=>True) (bZ l (by omega) (λ_=>True) trivial ?_ ?_) (λ_ _=>tot_some.2 trivial) (λ_ _=>trivial)
 ·intro i e hx _;have hi:=(zQQ.1 hx).1;rw [if_pos (by omega),aJ hx,aA ⟨ho e (zQM hx),hs⟩];split
  ·exact⟨_,rfl,.inr ⟨_,rfl,trivial⟩⟩
  rw [aA (bF hi (by omega))];exact⟨_,rfl,.inl ⟨rfl,trivial⟩⟩
 intro _;rw [if_neg (by omega)];exact⟨_,rfl,_,rfl,trivial⟩
theorem leg_t {l:Ag} {r:Ai} (hr:RtOk l r) (hf:r.At.length<=1000/\∀ s∈r.At,Aa.ok s) {e:End} (he:End.ok e):Tot (oN r e) λx=>Aa.ok x.1/\x.2.1=-1:=by
 have ok1:∀ p:Int,(p=1\/p=2)->Aa.ok ⟨e.el,p⟩:=by
  intro p hp;refine⟨he.1,?_⟩;show I64 p;unfold I64;omega
 unfold oN;refine aE (P:=λx=>(x.1=1\/x.1=2)/\(x.2=1\/x.2=2)) ?_ ?_
 ·split
  ·exact tot_some.2 ⟨.inr rfl,.inl rfl⟩
  exact tot_some.2 ⟨.inl rfl,.inr rfl⟩
 rintro⟨p,q⟩ ⟨hp,hq⟩;dsimp only at hp hq ⊢;refine aE (P:=λ_=>True) ?_ λx _=>?_
 ·unfold qU;refine aE (P:=λ_=>True) ?_ λx _=>tot_some.2 trivial;refine aE (qDO (by have:=hr.Ad.1;omega) hr.Ad.2 (ok1 p hp)) λx _=>?_;split
  ·exact tot_some.2 trivial
  refine aE (qDO (by have := hr.Aj.1; omega) hr.Aj.2 (ok1 p hp)) fun x _ => ?_;split
  ·exact tot_some.2 trivial
  exact aE (qDO (by have:=hf.1;omega) hf.2 (ok1 p hp)) λx _=>tot_some.2 trivial
 split
 ·exact tot_some.2 ⟨by show I64 0/\I64 0;unfold I64;omega,rfl⟩
 exact tot_some.2 ⟨ok1 q hq,rfl⟩
theorem Out_t (k a p:Int):Tot (oO k a p) λr=>0<=r.1/\r.1 < 4:=by
 unfold oO;refine bM (P:=λo=>match o with|.inl _=>True|.inr r=>0<=r.1/\r.1 < 4) (oM 4 (by omega) (λ_=>True) trivial ?_ ?_) (λ_ _=>tot_some.2 (by decide)) (λ_ h=>h)
 ·intro i hi _;rw [if_pos (by omega)];refine aE (qST _ _ _) ?_;rintro⟨x,ok⟩ _;dsimp only;split
  ·exact⟨_,rfl,.inr ⟨_,rfl,by omega,by omega⟩⟩
  rw [aA (bF hi (by omega))];exact⟨_,rfl,.inl ⟨rfl,trivial⟩⟩
 intro _;rw [if_neg (by omega)];exact⟨_,rfl,_,rfl,trivial⟩
theorem qSR {l:Ag} (hk:LayK l) {r:Ai} (hr:RtOk l r) (hf:r.At.length<=1000/\∀ s∈r.At,Aa.ok s) {e:End} (he:End.ok e):Tot (lJ l r e) λx=>Aa.ok x.1/\-1<=x.2.1/\x.2.1 < (l.Ah.length:Int):=by
 have hl:=hk.s.Ae;have z0:Aa.ok ⟨0,0⟩:=by show I64 0/\I64 0;unfold I64;omega
 unfold lJ;refine bM (P:=λo=>match o with|.inl _=>True|.inr x=>Aa.ok x.1/\-1<=x.2.1/\x.2.1 < (l.Ah.length:Int)) (cA (λi s=>s.1=(i:Int)/\End.ok ⟨s.2.1,s.2.2⟩) 4 (by omega) ⟨rfl,he⟩ ?_ ?_) (λ_ _=>tot_some.2 ⟨z0,by dsimp only;omega⟩) (λ_ h=>h)
 ·rintro i ⟨n,c1,c2⟩ hi ⟨q1,q2⟩;dsimp only at q1 q2;subst q1;dsimp only;rw [if_pos (by omega)];refine aE (sS l _ hk q2) ?_;rintro⟨f,j⟩ ⟨_,hfo⟩;dsimp only at hfo ⊢;split
  ·exact⟨_,rfl,z0,by dsimp only;omega⟩
  refine aE (qQI hk hfo) fun g hg => ?_;split
  ·exact⟨_,rfl,z0,hg⟩
  refine aE (P := fun _ => True) ?_ fun x _ => ?_
  ·refine aE (qNY _ _ (by have := hr.path.1; omega)) fun x _ => ?_;split
   ·exact tot_some.2 trivial
   exact aE (qNY _ _ (by have:=hr.over.1;omega)) λx _=>tot_some.2 trivial
  split
  ·exact⟨_,rfl,z0,by dsimp only;omega⟩
  refine aE (P := fun r => r = false -> 0 <= f.el /\ f.el < (l.Ae.length : Int)) ?_ fun x hx => ?_
  ·split
   ·exact tot_some.2 (by simp)
   split
   ·exact tot_some.2 (by simp)
   refine cX (by omega) (by omega) fun x _ _ => ?_;split<;>exact tot_some.2 λ_=>by omega
  cases x with
  | true=>exact⟨_,rfl,z0,by dsimp only;omega⟩
  | false=>
   have hx:=hx rfl;rw [if_neg Bool.false_ne_true];refine cX hx.1 hx.2 λx _ _=>?_;split
   ·refine aE (leg_t hr hf hfo) ?_;rintro⟨a,b,c⟩ ⟨h1,h2⟩;dsimp only at h1 h2 ⊢;exact⟨_,rfl,h1,by dsimp only;omega⟩
   refine cX hx.1 hx.2 fun x _ _ => ?_;refine aE (Out_t _ _ _) ?_;rintro⟨a,b⟩ ⟨h1,h2⟩;dsimp only at h1 h2 ⊢;rw [aA (by unfold I64;omega)];refine tot_some.2 ⟨by push_cast;rfl,?_⟩;show I64 _/\I64 _;unfold I64;dsimp only;omega
 rintro⟨n,c1,c2⟩ ⟨q1,q2⟩;dsimp only at q1;subst q1;dsimp only;rw [if_neg (by omega)];exact⟨_,rfl,trivial⟩
theorem zCG {l:List Aa} {s:Aa} (hl:l.length<=1000000) (ho:∀ x∈l,Aa.ok x) (hs:Aa.ok s):Tot (rZ l s) λr=>r.length<=l.length+1/\∀ x∈r,Aa.ok x:=by
 unfold rZ;refine aE (qDO (by omega) ho hs) λx _=>?_;split
 ·exact tot_some.2 ⟨by omega,ho⟩
 refine aE (P := fun o => (o.2.length = l.length + if o.1 = true then 1 else 0) /\ ∀ x ∈ o.2, Aa.ok x) (cA (fun i s => s.2.1 = (i : Int) /\ (s.2.2.length = i + if s.1 = true then 1 else 0) /\ ∀ x ∈ s.2.2, Aa.ok x) l.length (by omega) ⟨rfl, rfl, fun x h => (by cases h)⟩ ?_ ?_) ?_
 ·rintro i ⟨dn,y,b⟩ hi ⟨q1,q2,q3⟩;dsimp only at q1 q2 q3;subst q1;dsimp only;have hx:=zQR hi;have hb:b.length<=i+1:=by split at q2<;>omega
  rw [if_pos (by omega)];refine aE (P:=λo=>(o.2.length=i+if o.1=true then 1 else 0)/\∀ x∈o.2,Aa.ok x) ?_ ?_
  ·refine aE (P := fun r => r = true -> dn = false) ?_ fun r hr => ?_
   ·cases dn with
    | false=>rw [if_pos (by rfl),aJ hx];exact tot_some.2 λ_=>rfl
    | true=>rw [if_neg (by simp)];exact tot_some.2 (by simp)
   cases r with
   | false=>rw [if_neg Bool.false_ne_true];exact tot_some.2 ⟨q2,q3⟩
   | true=>
    have hr:=hr rfl;subst hr;rw [if_neg Bool.false_ne_true] at q2;rw [if_pos rfl,aA (by simp;omega)];refine tot_some.2 ⟨by simp;omega,?_⟩;intro x hxm;rcases zQN.1 hxm with hxm|hxm
    ·exact q3 x hxm
    rw [List.mem_singleton] at hxm;subst hxm;exact hs
  rintro⟨d2,b2⟩ ⟨p1,p2⟩;dsimp only at p1 p2 ⊢;have hb2:b2.length<=i+1:=by split at p1<;>omega
  rw [aJ hx,aA (by simp;omega),aA (bF hi (by omega))];refine tot_some.2 ⟨by push_cast;rfl,by rw [zQL,p1];simp;omega,?_⟩;intro x hxm;rcases zQN.1 hxm with hxm|hxm
  ·exact p2 x hxm
  rw [List.mem_singleton] at hxm;subst hxm;exact ho _ (List.getElem_mem hi)
 ·rintro⟨dn,y,b⟩ ⟨q1,q2,q3⟩;dsimp only at q1 q2 q3;subst q1;dsimp only;rw [if_neg (by omega)];exact⟨_,rfl,q2,q3⟩
 rintro⟨dn,b⟩ ⟨p1,p2⟩;dsimp only at p1 p2 ⊢;have hb:b.length<=l.length+1:=by split at p1<;>omega
 cases dn with
 | true=>rw [if_neg (by simp)];exact tot_some.2 ⟨hb,p2⟩
 | false=>
  rw [if_neg Bool.false_ne_true] at p1;rw [if_pos (by rfl),aA (by simp;omega)];refine tot_some.2 ⟨by simp;omega,?_⟩;intro x hxm;rcases zQN.1 hxm with hxm|hxm
  ·exact p2 x hxm
  rw [List.mem_singleton] at hxm;subst hxm;exact hs
theorem zET (l:List Int) (n:Int) (hl:l.length<=1000000000):Tot (gG l n) λ_=>True:=by
 unfold gG;refine bM (P:=λ_=>True) (bZ l (by omega) (λ_=>True) trivial ?_ ?_) (λ_ _=>tot_some.2 trivial) (λ_ _=>trivial)
 ·intro i e hx _;have hi:=(zQQ.1 hx).1;rw [if_pos (by omega),aJ hx];split
  ·exact⟨_,rfl,.inr ⟨_,rfl,trivial⟩⟩
  rw [aA (bF hi (by omega))];exact⟨_,rfl,.inl ⟨rfl,trivial⟩⟩
 intro _;rw [if_neg (by omega)];exact⟨_,rfl,_,rfl,trivial⟩
theorem qFE (l:List Int) (n:Int) (hl:l.length<=1000000):Tot (eS l n) λr=>r.length<=l.length+1:=by
 unfold eS;refine aE (zET l n (by omega)) λx _=>?_;split
 ·exact tot_some.2 (by omega)
 refine aE (P := fun o => (o.2.length = l.length + if o.1 = true then 1 else 0)) (cA (fun i s => s.2.1 = (i : Int) /\ (s.2.2.length = i + if s.1 = true then 1 else 0)) l.length (by omega) ⟨rfl, rfl⟩ ?_ ?_) ?_
 ·rintro i ⟨dn,y,b⟩ hi ⟨q1,q2⟩;dsimp only at q1 q2;subst q1;dsimp only;have hx:=zQR hi;have hb:b.length<=i+1:=by split at q2<;>omega
  rw [if_pos (by omega)];refine aE (P:=λo=>(o.2.length=i+if o.1=true then 1 else 0)) ?_ ?_
  ·refine aE (P := fun r => r = true -> dn = false) ?_ fun r hr => ?_
   ·cases dn with
    | false=>rw [if_pos (by rfl),aJ hx];exact tot_some.2 λ_=>rfl
    | true=>rw [if_neg (by simp)];exact tot_some.2 (by simp)
   cases r with
   | false=>rw [if_neg Bool.false_ne_true];exact tot_some.2 q2
   | true=>
    have hr:=hr rfl;subst hr;rw [if_neg Bool.false_ne_true] at q2;rw [if_pos rfl,aA (by simp;omega)];exact tot_some.2 (by simp;omega)
  rintro⟨d2,b2⟩ p1;dsimp only at p1 ⊢;have hb2:b2.length<=i+1:=by split at p1<;>omega
  rw [aJ hx,aA (by simp;omega),aA (bF hi (by omega))];exact tot_some.2 ⟨by push_cast;rfl,by rw [zQL,p1];simp;omega⟩
 ·rintro⟨dn,y,b⟩ ⟨q1,q2⟩;dsimp only at q1 q2;subst q1;dsimp only;rw [if_neg (by omega)];exact⟨_,rfl,q2⟩
 rintro⟨dn,b⟩ p1;dsimp only at p1 ⊢;have hb:b.length<=l.length+1:=by split at p1<;>omega
 cases dn with
 | true=>rw [if_neg (by simp)];exact tot_some.2 hb
 | false=>
  rw [if_neg Bool.false_ne_true] at p1;rw [if_pos (by rfl),aA (by simp;omega)];exact tot_some.2 (by simp;omega)
theorem zEO (a b:List Int) (ha:a.length<=100000) (hb:b.length<=100000):Tot (nH a b) λr=>r.length<=a.length+b.length:=by
 unfold nH;refine aE (P:=λr=>r.length<=a.length) ?_ λm hm=>?_
 ·unfold kK;refine aE (P:=λr=>r.length<=a.length) (cA (λi s=>s.2=(i:Int)/\s.1.length<=i) a.length (by omega) ⟨rfl,Nat.zero_le _⟩ ?_ ?_) λa h=>tot_some.2 h
  ·rintro i ⟨b,y⟩ hi ⟨q1,q2⟩;dsimp only at q1 q2;subst q1;dsimp only;rw [if_pos (by omega),aJ (zQR hi)];refine aE (qFE _ _ (by omega)) λr hr=>?_;rw [aA (bF hi (by omega))];exact tot_some.2 ⟨by push_cast;rfl,by show r.length<=i+1;omega⟩
  rintro⟨b,y⟩ ⟨q1,q2⟩;dsimp only at q1 q2;subst q1;dsimp only;rw [if_neg (by omega)];exact⟨_,rfl,q2⟩
 refine aE (P := fun r => r.length <= a.length + b.length) (cA (fun i s => s.2 = (i : Int) /\ s.1.length <= a.length + i) b.length (by omega) ⟨rfl, hm⟩ ?_ ?_) fun a h => tot_some.2 h
 ·rintro i ⟨b,y⟩ hi ⟨q1,q2⟩;dsimp only at q1 q2;subst q1;dsimp only;rw [if_pos (by omega),aJ (zQR hi)];refine aE (qFE _ _ (by omega)) λr hr=>?_;rw [aA (bF hi (by omega))];exact tot_some.2 ⟨by push_cast;rfl,by show r.length<=a.length+(i+1);omega⟩
 rintro⟨b,y⟩ ⟨q1,q2⟩;dsimp only at q1 q2;subst q1;dsimp only;rw [if_neg (by omega)];exact⟨_,rfl,q2⟩
theorem qSZ {l:Ag} (hk:LayK l) {s:Am} (h:jE l s):Am.ok s:=⟨(yH hk h).1,h.2.2.2.2,(yH hk h).2⟩
structure RtCmp (r:Ai):Prop where
 path:∀ s∈r.path,Am.ok s
 Ad:∀ s∈r.Ad,Aa.ok s
 over:∀ s∈r.over,Am.ok s
 Aj:∀ s∈r.Aj,Aa.ok s
 At:∀ s∈r.At,Aa.ok s
 gaps:∀ s∈r.gaps,End.ok s
theorem zBA {l:Ag} (hk:LayK l) {r:Ai} (hr:RtOk l r):Tot (pM l r) λx=>RtCmp x:=by
 obtain⟨r1,r2,r3,r4,r5⟩:=hr;have hz:∀ a b c,RtOk l ⟨r.name,r.entry,r.exit,r.path,r.Ad,r.Ac,r.A2,r.length,r.over,r.Aj,r.Ao,a,b,c⟩:=λ_ _ _=>⟨r1,r2,r3,r4,r5⟩;unfold pM;refine aE (qXC hk (hz _ _ _)) ?_;rintro es ⟨e1,e2⟩;refine aE (P:=λo=>(∀ x∈o.1,Aa.ok x)/\∀ x∈o.2.2,End.ok x) (cA (λi s=>s.1=(i:Int)/\(s.2.1.length<=i/\∀ x∈s.2.1,Aa.ok x)/\s.2.2.1.length<=i/\s.2.2.2.length<=i/\∀ x∈s.2.2.2,End.ok x) es.length (by omega) ⟨rfl,⟨Nat.zero_le _,λx h=>(by cases h)⟩,Nat.zero_le _,Nat.zero_le _,λx h=>(by cases h)⟩ ?_ ?_) λo ho=>tot_some.2 ⟨λs hs=>qSZ hk (r1.2 s hs),r2.2,λs hs=>qSZ hk (r4.2 s hs),r5.2,ho.1,ho.2⟩
 ·rintro i ⟨y,fl,gd,gp⟩ hi ⟨q1,⟨q2,q3⟩,q4,q5,q6⟩;dsimp only at q1 q2 q3 q4 q5 q6;subst q1;dsimp only;have hx:=zQR hi;rw [if_pos (by omega),aJ hx];refine aE (qSR hk (hz fl gd gp) ⟨by show fl.length<=1000;omega,q3⟩ (e2 _ (List.getElem_mem hi))) ?_;rintro⟨s,g,ok⟩ ⟨s1,s2⟩;dsimp only at s1 s2 ⊢;refine aE (P:=λr=>r.length<=i+1/\∀ x∈r,End.ok x) ?_ λgp2 hgp=>?_
  ·split
   ·rw [aJ hx, aA (by simp; omega)];refine tot_some.2 ⟨by simp;omega,λx hxm=>?_⟩;rcases zQN.1 hxm with hxm|hxm
    ·exact q6 x hxm
    rw [List.mem_singleton] at hxm;subst hxm;exact e2 _ (List.getElem_mem hi)
   exact tot_some.2 ⟨by omega,q6⟩
  refine aE (P := fun r => r.length <= i + 1 /\ ∀ x ∈ r, Aa.ok x) ?_ ?_
  ·split
   ·exact tot_some.2 ⟨by omega,q3⟩
   refine aE (zCG (by omega) q3 s1) ?_;rintro r ⟨p1,p2⟩;exact tot_some.2 ⟨by omega,p2⟩
  rintro fl2 ⟨f1,f2⟩;split
  ·refine aE (zEO gd [g] (by omega) (by simp)) fun gd2 hgd => ?_;simp only [List.length_cons,List.length_nil] at hgd;rw [aA (bF hi (by omega))];exact tot_some.2 ⟨by push_cast;rfl,⟨f1,f2⟩,by show gd2.length<=i+1;omega,hgp.1,hgp.2⟩
  rw [aA (bF hi (by omega))];exact tot_some.2 ⟨by push_cast;rfl,⟨f1,f2⟩,by show gd.length<=i+1;omega,hgp.1,hgp.2⟩
 rintro⟨y,fl,gd,gp⟩ ⟨q1,⟨_,q3⟩,_,_,q6⟩;dsimp only at q1 q3 q6;subst q1;dsimp only;rw [if_neg (by omega)];exact⟨_,rfl,q3,q6⟩
theorem zEU {l:Ag} (hw:LayW l):Tot (kS l) λr=>r.2=0->LayC l/\r.1.Ac=(l.Ac.length:Int)/\r.1.Ah=(l.Ah.length:Int)/\∀ x∈r.1.Ab,RtCmp x:=by
 unfold kS;refine aE (zEV hw) ?_;rintro⟨rs,e⟩ h;dsimp only at h ⊢;split
 ·rename_i he;obtain⟨hc,h1,h2⟩:=h he;refine aE (qSS hc.k.s) λps hps=>?_;refine aE (P:=λo=>∀ x∈o,RtCmp x) (cA (λi s=>s.1=(i:Int)/\s.2.length=i/\∀ x∈s.2,RtCmp x) rs.length (by omega) ⟨rfl,rfl,λx h=>(by cases h)⟩ ?_ ?_) λrts hrts=>?_
  ·rintro i ⟨y,b⟩ hi ⟨q1,q2,q3⟩;dsimp only at q1 q2 q3;subst q1;dsimp only;rw [if_pos (by omega),aJ (zQR hi)];refine aE (zBB hc (h2 _ (List.getElem_mem hi))) λr13 hr13=>?_;refine aE (zBA hc.k hr13) λr14 h14=>?_;rw [aA (by simp;omega),aA (bF hi (by omega))];refine tot_some.2 ⟨by push_cast;rfl,by simp;omega,λx hxm=>?_⟩;rcases zQN.1 hxm with hxm|hxm
   ·exact q3 x hxm
   rw [List.mem_singleton] at hxm;subst hxm;exact h14
  ·rintro⟨y,b⟩ ⟨q1,q2,q3⟩;dsimp only at q1 q2 q3;subst q1;dsimp only;rw [if_neg (by omega)];exact⟨_,rfl,q3⟩
  refine aE (P := fun _ => True) (cA (fun i s => s.1 = (i : Int) /\ s.2.length = i) ps.length (by omega) ⟨rfl, rfl⟩ ?_ ?_) fun rts _ => ?_
  ·rintro i ⟨y,b⟩ hi ⟨q1,q2⟩;dsimp only at q1 q2;subst q1;dsimp only;rw [if_pos (by omega),aJ (zQR hi)];refine aE (qJ _) λr13 hr13=>?_;rw [aA (by simp;omega),aA (bF hi (by omega))];exact tot_some.2 ⟨by push_cast;rfl,by simp;omega⟩
  ·rintro⟨y,b⟩ ⟨q1,q2⟩;dsimp only at q1 q2;subst q1;dsimp only;rw [if_neg (by omega)];exact⟨_,rfl,trivial⟩
  exact tot_some.2 λ_=>⟨hc,rfl,rfl,hrts⟩
 rename_i he;exact tot_some.2 λh=>absurd h he
section maps
variable {α β:Type} [DecidableEq α]
theorem qJE (q:α):cM ([]:List (α×β)) q=none:=rfl
theorem mO (x:α×β) (r:List (α×β)) (q:α):cM (x :: r) q=if x.1=q then some x.2 else cM r q:=by
 unfold cM;rw [List.find?_cons];by_cases h:x.1=q<;>simp [h]
theorem qEP (k:α) (v:β):tJ ([]:List (α×β)) k v=[(k,v)]:=rfl
theorem qBB (x:α×β) (r:List (α×β)) (k:α) (v:β):tJ (x :: r) k v=if x.1=k then (k,v) :: r else x :: tJ r k v:=by
 unfold tJ;rw [List.findIdx?_cons];by_cases h:x.1=k
 ·simp [h]
 simp only [h,decide_false,Bool.false_eq_true,if_false];cases r.findIdx? (λx=>decide (x.1=k))<;>simp
theorem qJD (fs:List (α×β)) (k:α) (v:β) (q:α):cM (tJ fs k v) q=if q=k then some v else cM fs q:=by
 induction fs with
 | nil=>rw [qEP,mO,qJE];by_cases h:k=q<;>simp [h,eq_comm]
 | cons x r ih=>
  rw [qBB];by_cases h:x.1=k
  ·rw [if_pos h,mO,mO];by_cases h2:k=q
   ·simp [h2]
   rw [if_neg h2,if_neg (λe=>h2 e.symm),if_neg (by rw [h];exact h2)]
  rw [if_neg h,mO,mO,ih];by_cases h2:x.1=q
  ·rw [if_pos h2,if_pos h2,if_neg (λe=>h (h2.trans e))]
  rw [if_neg h2,if_neg h2]
theorem zCF {fs:List (α×β)} {k:α} {v:β} {x:α×β} (h:x∈tJ fs k v):x=(k,v)\/x∈fs:=by
 induction fs with
 | nil=>rw [qEP] at h;exact .inl (List.mem_singleton.1 h)
 | cons y r ih=>
  rw [qBB] at h;split at h
  ·rcases zQB.1 h with h|h
   ·exact .inl h
   exact .inr (List.mem_cons_of_mem _ h)
  rcases zQB.1 h with h|h
  ·exact .inr (h ▸ List.mem_cons_self ..)
  exact (ih h).imp id (List.mem_cons_of_mem _)
theorem qIR {fs:List (α×β)} (h:(fs.map (·.1)).Nodup) (k:α) (v:β):((tJ fs k v).map (·.1)).Nodup:=by
 induction fs with
 | nil=>rw [qEP];simp
 | cons y r ih=>
  rw [List.map_cons,List.nodup_cons] at h;rw [qBB];by_cases e:y.1=k
  ·rw [if_pos e,List.map_cons,List.nodup_cons];exact⟨by rw [<- e];exact h.1,h.2⟩
  rw [if_neg e,List.map_cons,List.nodup_cons];refine⟨λhm=>?_,ih h.2⟩;obtain⟨x,hx,he⟩:=List.mem_map.1 hm;rcases zCF hx with rfl|hx
  ·exact e he.symm
  exact h.1 (he ▸ List.mem_map_of_mem hx)
end maps
theorem qIQ {β:Type} (g:Nat->List β) (i:Nat):(List.range (i+1)).flatMap g=(List.range i).flatMap g++g i:=by
 rw [List.range_succ,List.flatMap_append];simp
theorem eM {β:Type} (g:Nat->List β) (m:Nat) (h:∀ i,(g i).length<=m):∀ n,((List.range n).flatMap g).length<=n * m
 | 0=>by simp
 | n+1=>by
  rw [qIQ,zQL,Nat.add_mul];have:=eM g m h n;have:=h n;omega
theorem pX {β ρ:Type} {f:Int×List β->Option ((Int×List β) ⊕ ρ)} (n:Nat) (g:Nat->List β) (b0:List β) {w:ρ} (hn:n<=1000000000) (hf:∀ i,i < n->f ((i:Int),b0++(List.range i).flatMap g)=some (.inl ((i:Int)+1,b0++((List.range i).flatMap g++g i)))) (he:f ((n:Int),b0++(List.range n).flatMap g)=some (.inr w)):aZ f (0,b0)=some w:=
 jB n (λi=>b0++(List.range i).flatMap g) (by simp) (by omega) (λi hi=>by rw [hf i hi,qIQ]) he
def mH (a b:List Int):Bool:=a.any λx=>decide (x∈b)
theorem meets_iff {a b:List Int}:mH a b=true↔∃ x,x∈a/\x∈b:=by simp [mH]
theorem qCG {a b c d:List Int} (h1:∀ x,x∈a↔x∈c) (h2:∀ x,x∈b↔x∈d):mH a b=mH c d:=by
 rw [Bool.eq_iff_iff,meets_iff,meets_iff];simp only [h1,h2]
theorem qRP (a b:List Int):mH a b=mH b a:=by
 rw [Bool.eq_iff_iff,meets_iff,meets_iff];exact⟨λ⟨x,h1,h2⟩=>⟨x,h2,h1⟩,λ⟨x,h1,h2⟩=>⟨x,h2,h1⟩⟩
theorem zCN (A B:List Int) (hA:yC A) (hB:yC B) (hl:A.length+B.length<=100000000):Tot (hU A B dN) λr=>(0 < r.length↔∃ x,x∈A/\x∈B):=by
 unfold hU;refine aE (P:=λr=>(0 < r.length↔∃ x,x∈A/\x∈B)) (cA (λi s=>yC s.1/\yC s.2.1/\s.1.length+s.2.1.length+i<=A.length+B.length/\s.2.2.length<=i/\((0 < s.2.2.length\/∃ x,x∈s.1/\x∈s.2.1)↔∃ x,x∈A/\x∈B)) (A.length+B.length) (by omega) ⟨hA,hB,by simp,by simp,by simp⟩ ?_ ?_) λr h=>tot_some.2 h
 ·rintro i ⟨a,b,o⟩ hi ⟨q1,q2,q3,q4,q5⟩;dsimp only at q1 q2 q3 q4 q5 ⊢
  match a,b,q1,q2,q3,q5 with
  | [],[],_,_,_,q5=>rw [if_neg (by simp)];exact⟨_,rfl,by simpa using q5⟩
  | [],y :: b,q1,q2,q3,q5=>
   have e:sub (y :: b) (1:Int) ((y :: b).length:Int)=b:=by rw [show (1:Int)=((1:Nat):Int) from rfl,lA];rfl
   have hg:aU (y :: b) (0:Int) (λe36=>aC (0<=(1:Int)/\(1:Int)<=((y :: b).length:Int)/\((y :: b).length:Int)<=((y :: b).length:Int)) <| some (sub (y :: b) (1:Int) ((y :: b).length:Int),e36))=some (b,y):=by
    rw [hZ (by omega) (show (y :: b)[(0:Int).toNat]?=some y from rfl),aA (by simp only [List.length_cons];omega),e]
   rw [if_pos (by simp)];simp only [List.length_nil,List.length_cons,Int.natCast_zero,Int.lt_irrefl,if_false,aF,if_pos (show (0:Int) < ((b.length+1:Nat):Int) by omega),if_true,Bool.false_eq_true] at hg ⊢;rw [hg];simp only [aF,dN,Bool.false_and,Bool.false_eq_true,if_false];refine⟨_,rfl,List.Pairwise.nil,(List.pairwise_cons.1 q2).2,?_,?_,?_⟩
   ·simp only [List.length_nil,List.length_cons] at q3 ⊢;omega
   ·show o.length<=i+1;omega
   simpa using q5
  | x :: a,[],q1,q2,q3,q5=>
   have e:sub (x :: a) (1:Int) ((x :: a).length:Int)=a:=by rw [show (1:Int)=((1:Nat):Int) from rfl,lA];rfl
   have hg:aU (x :: a) (0:Int) (λe36=>aC (0<=(1:Int)/\(1:Int)<=((x :: a).length:Int)/\((x :: a).length:Int)<=((x :: a).length:Int)) <| some (sub (x :: a) (1:Int) ((x :: a).length:Int),e36))=some (a,x):=by
    rw [hZ (by omega) (show (x :: a)[(0:Int).toNat]?=some x from rfl),aA (by simp only [List.length_cons];omega),e]
   rw [if_pos (by simp)];simp only [List.length_nil,List.length_cons,Int.natCast_zero,Int.lt_irrefl,if_false,aF,if_pos (show (0:Int) < ((a.length+1:Nat):Int) by omega),if_true,Bool.false_eq_true] at hg ⊢;rw [hg];simp only [aF,dN,Bool.and_false,Bool.false_eq_true,if_false];refine⟨_,rfl,(List.pairwise_cons.1 q1).2,List.Pairwise.nil,?_,?_,?_⟩
   ·simp only [List.length_nil,List.length_cons] at q3 ⊢;omega
   ·show o.length<=i+1;omega
   simpa using q5
  | x :: a,y :: b,q1,q2,q3,q5=>
   have ea:sub (x :: a) (1:Int) ((x :: a).length:Int)=a:=by rw [show (1:Int)=((1:Nat):Int) from rfl,lA];rfl
   have eb:sub (y :: b) (1:Int) ((y :: b).length:Int)=b:=by rw [show (1:Int)=((1:Nat):Int) from rfl,lA];rfl
   have hga:aU (x :: a) (0:Int) (λe36=>aC (0<=(1:Int)/\(1:Int)<=((x :: a).length:Int)/\((x :: a).length:Int)<=((x :: a).length:Int)) <| some (sub (x :: a) (1:Int) ((x :: a).length:Int),e36))=some (a,x):=by
    rw [hZ (by omega) (show (x :: a)[(0:Int).toNat]?=some x from rfl),aA (by simp only [List.length_cons];omega),ea]
   have hgb:∀ n:Int,aU (y :: b) (0:Int) (λe36=>aC (0<=(1:Int)/\(1:Int)<=((y :: b).length:Int)/\((y :: b).length:Int)<=((y :: b).length:Int)) <| some (sub (y :: b) (1:Int) ((y :: b).length:Int),e36))=some (b,y):=λ_=>by
    rw [hZ (by omega) (show (y :: b)[(0:Int).toNat]?=some y from rfl),aA (by simp only [List.length_cons];omega),eb]
   have g0:∀ {γ:Type} (k:Int->Option γ),aU (x :: a) (0:Int) k=k x:=λk=>hZ (by omega) rfl;have g1:∀ {γ:Type} (k:Int->Option γ),aU (y :: b) (0:Int) k=k y:=λk=>hZ (by omega) rfl;have pa:=List.pairwise_cons.1 q1;have pb:=List.pairwise_cons.1 q2;rw [if_pos (by simp)];rw [if_pos (show (0:Int) < ((x :: a).length:Int) by simp only [List.length_cons];omega),if_neg (show ¬ ((y :: b).length:Int)=0 by simp only [List.length_cons];omega),g0,g1,aF,if_pos (show (0:Int) < ((y :: b).length:Int) by simp only [List.length_cons];omega),if_neg (show ¬ ((x :: a).length:Int)=0 by simp only [List.length_cons];omega),g1,g0,aF,hga,hgb 0];rcases Int.lt_trichotomy x y with h|h|h
   ·rw [decide_eq_true (show x <= y by omega), decide_eq_false (show ¬ y <= x by omega)];simp only [if_true,Bool.false_eq_true,if_false,aF,dN,Bool.and_false];refine⟨_,rfl,pa.2,q2,?_,?_,?_⟩
    ·simp only [List.length_cons] at q3 ⊢;omega
    ·show o.length<=i+1;omega
    rw [<- q5];refine or_congr Iff.rfl ⟨λ⟨z,h1,h2⟩=>⟨z,List.mem_cons_of_mem _ h1,h2⟩,λ⟨z,h1,h2⟩=>?_⟩;rcases zQB.1 h1 with rfl|h1
    ·rcases zQB.1 h2 with rfl|h2
     ·omega
     have:=pb.1 z h2;omega
    exact⟨z,h1,h2⟩
   ·subst h;rw [decide_eq_true (Int.le_refl x)];simp only [if_true,aF,dN,Bool.and_true];rw [aA (by simp only [zQL,List.length_cons,List.length_nil];omega)];refine⟨_,rfl,pa.2,pb.2,?_,?_,?_⟩
    ·simp only [List.length_cons] at q3 ⊢;omega
    ·simp only [zQL,List.length_cons,List.length_nil];omega
    rw [<- q5];exact⟨λ_=>.inr ⟨x,List.mem_cons_self ..,List.mem_cons_self ..⟩,λ_=>.inl (by simp)⟩
   rw [decide_eq_false (show ¬ x <= y by omega), decide_eq_true (show y <= x by omega)];simp only [if_true,Bool.false_eq_true,if_false,aF,dN,Bool.false_and];refine⟨_,rfl,q1,pb.2,?_,?_,?_⟩
   ·simp only [List.length_cons] at q3 ⊢;omega
   ·show o.length<=i+1;omega
   rw [<- q5];refine or_congr Iff.rfl ⟨λ⟨z,h1,h2⟩=>⟨z,h1,List.mem_cons_of_mem _ h2⟩,λ⟨z,h1,h2⟩=>?_⟩;rcases zQB.1 h2 with rfl|h2
   ·rcases zQB.1 h1 with rfl|h1
    ·omega
    have:=pa.1 z h1;omega
   exact⟨z,h1,h2⟩
 rintro⟨a,b,o⟩ ⟨q1,q2,q3,q4,q5⟩;dsimp only at q1 q2 q3 q4 q5 ⊢;obtain rfl:a=[]:=List.eq_nil_of_length_eq_zero (by omega);obtain rfl:b=[]:=List.eq_nil_of_length_eq_zero (by omega);rw [if_neg (by simp)];exact⟨_,rfl,by simpa using q5⟩
theorem zBD (a b:List Int) (ha:a.length<=10000000) (hb:b.length<=10000000):Tot (lQ a b) λr=>(0 < r.length↔mH a b=true):=by
 unfold lQ;rw [xK a (by omega),aF,xK b (by omega),aF];have h1:=zZ a;have h2:=zZ b;refine aE (zCN _ _ (qAA a) (qAA b) (by omega)) λr hr=>tot_some.2 ?_;rw [hr,meets_iff];simp only [ascZ_mem]
theorem zAO (a b:List Int) (ha:a.length<=10000000) (hb:b.length<=10000000):Tot (gW a b) λr=>(0 < r.length↔mH a b=true):=by
 unfold gW oF;refine aE (P:=λr=>(0 < r.length↔mH a b=true)) ?_ λr h=>tot_some.2 h;refine aE (P:=λr=>(0 < r.length↔mH a b=true)) (cA (λi s=>s.2=(i:Int)/\yC s.1/\s.1.length<=i/\(0 < s.1.length↔mH (a.take i) b=true)) a.length (by omega) ⟨rfl,List.Pairwise.nil,zQW _,by simp [mH]⟩ ?_ ?_) λr h=>tot_some.2 h
 ·rintro i ⟨o,y⟩ hi ⟨q1,q2,q3,q4⟩;dsimp only at q1 q2 q3 q4;subst q1;dsimp only;have hx:=zQR hi;have ht:a.take (i+1)=a.take i++[a[i]]:=List.take_succ_eq_append_getElem hi;rw [if_pos (by omega),aJ hx,zJ b _ (by omega),aF];by_cases hm:a[i]∈b
  ·rw [decide_eq_true hm, if_pos (by rfl), aJ hx, qIX o _ q2 (by omega), aF, aA (bF hi (by omega))];refine tot_some.2 ⟨by push_cast;rfl,vD _ _ q2,by have:=vC a[i] o;show (jL a[i] o).length<=i+1;omega,?_⟩;have h1:0 < (jL a[i] o).length:=List.length_pos_iff.2 λh=>by have:=insZ_mem (s:=a[i]) (x:=a[i]) (l:=o);rw [h] at this;simp at this
   refine⟨λ_=>meets_iff.2 ⟨a[i],by rw [ht];exact List.mem_append_right _ (List.mem_singleton.2 rfl),hm⟩,λ_=>h1⟩
  rw [decide_eq_false hm, if_neg (by simp), aA (bF hi (by omega))];refine tot_some.2 ⟨by push_cast;rfl,q2,by show o.length<=i+1;omega,?_⟩;show 0 < o.length↔_;rw [q4,meets_iff,meets_iff,ht];constructor
  ·rintro⟨x,h1,h2⟩;exact⟨x,List.mem_append_left _ h1,h2⟩
  rintro⟨x,h1,h2⟩;rcases zQN.1 h1 with h1|h1
  ·exact⟨x,h1,h2⟩
  rw [List.mem_singleton] at h1;subst h1;exact absurd h2 hm
 rintro⟨o,y⟩ ⟨q1,q2,q3,q4⟩;dsimp only at q1 q2 q3 q4;subst q1;dsimp only;rw [if_neg (by omega)];refine⟨_,rfl,?_⟩;rw [List.take_length] at q4;exact q4
def wW (l:Ag) (s:Am):Option Int:=if 0<=s.el then (l.Ae[s.el.toNat]?).map (·.Aq) else none
def yJ (l:Ag) (w:List Am):List Int:=w.filterMap (wW l)
theorem rW (l:Ag) {w:List Am} {i:Nat} {s:Am} (h:w[i]?=some s) (x:Int):x∈yJ l (w.take (i+1))↔x∈yJ l (w.take i)\/wW l s=some x:=by
 obtain⟨hi,rfl⟩:=zQQ.1 h;rw [List.take_succ_eq_append_getElem hi];simp only [yJ,List.filterMap_append,zQN,List.mem_filterMap,List.mem_singleton,exists_eq_left]
theorem qJF (l:List Int) (x:Int):cM (l.map λy=>(y,true)) x=if x∈l then some true else none:=by
 induction l with
 | nil=>rfl
 | cons y r ih=>
  rw [List.map_cons,mO,ih];by_cases h:y=x
  ·subst h;simp
  rw [if_neg h];have:x≠y:=λe=>h e.symm;simp [this]
theorem qUV (l:Ag) (w:List Am) (hw:w.length<=1000000):Tot (jN l w) λr=>r.length<=w.length/\∀ x,x∈r↔x∈yJ l w:=by
 unfold jN;refine aE (P:=λo=>o.1.length<=w.length/\∀ x,x∈o.1↔x∈yJ l w) (cA (λi s=>s.1=(i:Int)/\s.2.1.length<=i/\s.2.1.Nodup/\s.2.2=s.2.1.map (λy=>(y,true))/\∀ x,x∈s.2.1↔x∈yJ l (w.take i)) w.length (by omega) ⟨rfl,zQW _,List.nodup_nil,rfl,by simp [yJ]⟩ ?_ ?_) ?_
 ·rintro i ⟨y,b,m⟩ hi ⟨q1,q2,q3,q4,q5⟩;dsimp only at q1 q2 q3 q4 q5;subst q1 q4;dsimp only;have hx:=zQR hi;rw [if_pos (by omega),aJ hx];unfold qP;rw [aF,<- Bool.decide_and];by_cases he:0<=w[i].el/\w[i].el < (l.Ae.length:Int)
  ·rw [decide_eq_true he, if_neg (by simp)];have hel:=zQR (l:=l.Ae) (show w[i].el.toNat < l.Ae.length by omega);have hs:wW l w[i]=some (l.Ae[w[i].el.toNat]'(by omega)).Aq:=by unfold wW;rw [if_pos he.1,hel];rfl
   have hnd:((b.map λy=>(y,true)).map (·.1)).Nodup:=by simpa [List.map_map,Function.comp_def] using q3
   rw [hZ he.1 hel,aA hnd,qJF];generalize (l.Ae[w[i].el.toNat]'(by omega)).Aq=z at hs;by_cases hz:z∈b
   ·rw [if_pos hz, if_neg (by simp), aA (bF hi (by omega))];refine tot_some.2 ⟨by push_cast;rfl,by show b.length<=i+1;omega,q3,rfl,λx=>?_⟩;rw [rW l hx,hs,<- q5];constructor
    ·exact .inl
    rintro (h|h)
    ·exact h
    cases h;exact hz
   rw [if_neg hz, if_pos (by simp), aA hnd, aA (by simp only [zQL, List.length_cons, List.length_nil]; omega), aA (bF hi (by omega)), qNO (by rw [qJF, if_neg hz])];refine tot_some.2 ⟨by push_cast;rfl,by simp only [zQL,List.length_cons,List.length_nil];omega,?_,by simp,λx=>?_⟩
   ·show (b++[z]).Nodup;rw [List.nodup_append];exact⟨q3,by simp,λa ha c hc=>by rw [List.mem_singleton] at hc;subst hc;rintro rfl;exact hz ha⟩
   rw [rW l hx,hs,<- q5,zQN,List.mem_singleton];refine or_congr Iff.rfl ⟨λh=>by rw [h],λh=>(Option.some.inj h).symm⟩
  rw [decide_eq_false he, if_pos (by rfl), aA (bF hi (by omega))]
  have hs:wW l w[i]=none:=by
   unfold wW;split
   ·rw [List.getElem?_eq_none (by omega)];rfl
   rfl
  refine tot_some.2 ⟨by push_cast;rfl,by show b.length<=i+1;omega,q3,rfl,λx=>?_⟩;rw [rW l hx,hs,<- q5];simp
 ·rintro⟨y,b,m⟩ ⟨q1,q2,q3,q4,q5⟩;dsimp only at q1 q2 q3 q4 q5;subst q1;dsimp only;rw [if_neg (by omega)];refine⟨_,rfl,q2,?_⟩;rw [List.take_length] at q5;exact q5
 rintro⟨b,m⟩ h;exact tot_some.2 h
theorem qJC (l:Ag) (b:Bc) (hw:b.steps.length<=1000000):Tot (iC l b) λr=>r.length<=1000000/\∀ x,x∈r↔x∈yJ l b.steps:=by
 unfold iC;refine aE (qUV l b.steps hw) ?_;rintro r ⟨h1,h2⟩;rw [aA (by omega)];exact tot_some.2 ⟨by rw [gP];omega,λx=>by rw [qIK,h2]⟩
theorem qMX (l:Ag) (b:Bc) (hw:b.steps.length<=1000000) (hp:∀ e∈l.Ae,0<=e.Aq):Tot (dL l b) λr=>r.length<=1000000/\∀ x,x∈r↔x∈yJ l b.steps:=by
 unfold dL;refine aE (P:=λo=>o.length<=b.steps.length/\∀ x,x∈o↔x∈yJ l b.steps) (cA (λi s=>s.1=(i:Int)/\s.2.length<=i/\∀ x,x∈s.2↔x∈yJ l (b.steps.take i)) b.steps.length (by omega) ⟨rfl,zQW _,by simp [yJ]⟩ ?_ ?_) ?_
 ·rintro i ⟨y,o⟩ hi ⟨q1,q2,q3⟩;dsimp only at q1 q2 q3;subst q1;dsimp only;have hx:=zQR hi;rw [if_pos (by omega),aJ hx];unfold dA;by_cases he:0<=b.steps[i].el/\b.steps[i].el < (l.Ae.length:Int)
  ·have hel := zQR (l := l.Ae) (show b.steps[i].el.toNat < l.Ae.length by omega);have hs:wW l b.steps[i]=some (l.Ae[b.steps[i].el.toNat]'(by omega)).Aq:=by unfold wW;rw [if_pos he.1,hel];rfl
   have h0:=hp _ (List.getElem_mem (show b.steps[i].el.toNat < l.Ae.length by omega));rw [if_neg (by simp only [Bool.or_eq_true,decide_eq_true_eq];omega),hZ he.1 hel,aF,if_pos h0,aA (by simp only [zQL,List.length_cons,List.length_nil];omega),aA (bF hi (by omega))];refine tot_some.2 ⟨by push_cast;rfl,by simp only [zQL,List.length_cons,List.length_nil];omega,λx=>?_⟩;rw [rW l hx,hs,<- q3,zQN,List.mem_singleton];refine or_congr Iff.rfl ⟨λh=>by rw [h],λh=>(Option.some.inj h).symm⟩
  rw [if_pos (by simp only [Bool.or_eq_true, decide_eq_true_eq]; omega), aF, if_neg (by omega), aA (bF hi (by omega))]
  have hs:wW l b.steps[i]=none:=by
   unfold wW;split
   ·rw [List.getElem?_eq_none (by omega)];rfl
   rfl
  refine tot_some.2 ⟨by push_cast;rfl,by show o.length<=i+1;omega,λx=>?_⟩;rw [rW l hx,hs,<- q3];simp
 ·rintro⟨y,o⟩ ⟨q1,q2,q3⟩;dsimp only at q1 q2 q3;subst q1;dsimp only;rw [if_neg (by omega)];refine⟨_,rfl,q2,?_⟩;rw [List.take_length] at q3;exact q3
 rintro r ⟨h1,h2⟩;rw [qVY r (by omega),aF];exact tot_some.2 ⟨by have:=zZ r;omega,λx=>by rw [ascZ_mem,h2]⟩
def tS (l:Ag) (a b:Bc):Bool:=mH (yJ l a.steps) (yJ l b.steps)
theorem qVX (l:Ag) (u v:Av) (w:An) (hl:w.layout=l) (h1:u.body.steps.length<=1000000) (h2:v.body.steps.length<=1000000):dP u v w=some (tS l u.body v.body):=by
 subst hl
 have:Tot (dP u v w) λr=>r=tS w.layout u.body v.body:=by
  unfold dP;refine aE (qJC _ _ h1) λr1 ⟨a1,a2⟩=>aE (qJC _ _ h2) λr2 ⟨b1,b2⟩=>aE (zBD r1 r2 (by omega) (by omega)) λr hr=>tot_some.2 ?_;rw [Bool.eq_iff_iff,decide_eq_true_eq];unfold tS;rw [<- qCG a2 b2,<- hr];omega
 obtain⟨r,h,rfl⟩:=this;exact h
theorem qZK (l:Ag) (a b:Bc) (h1:a.steps.length<=1000000) (h2:b.steps.length<=1000000) (hp:∀ e∈l.Ae,0<=e.Aq):Tot (dL l a) λr1=>Tot (dL l b) λr2=>Tot (gW r1 r2) λr=>decide ((0:Int) < (r.length:Int))=tS l a b:=
 gA (qMX l a h1 hp) λr1 ⟨a1,a2⟩=>gA (qMX l b h2 hp) λr2 ⟨b1,b2⟩=>gA (zAO r1 r2 (by omega) (by omega)) λr hr=>by
  rw [Bool.eq_iff_iff,decide_eq_true_eq];unfold tS;rw [<- qCG a2 b2,<- hr];omega
structure WOk (w:An):Prop where
 units:w.units.length<=10
 steps:∀ u∈w.units,u.body.steps.length<=100
 clear:w.clear.length<=40
 tracks:w.center.tracks.length<=10
 claims:∀ k∈w.center.tracks,k.Ab.length<=60
 Ab:w.Ar.Ab.length<=50
 iroutes:w.inter.Ab.length<=50
 Ad:w.Ar.Ad.length<=40
 machines:w.machines.length<=40
 Ae:w.layout.Ae.length<=40
 Ar:TOk w.Ar
 setts:SOk w.Ar
structure WVal (w:An):Prop where
 Ac:∀ e∈w.layout.Ae,0<=e.Aq
 Ae:w.layout.Ae.length<=32
 steps:∀ u∈w.units,∀ s∈u.body.steps,0<=s.el/\s.el < (w.layout.Ae.length:Int)
 sound:lX w.Ar w.inter=true
 same:w.inter.Ab.length=w.Ar.Ab.length
 some:w.units≠[]
def atF {α:Type} (l:List α) (f:α->List Af) (i:Nat):List Af:=match l[i]? with
 | some a=>f a
 | none=>[]
theorem qLY {α:Type} {l:List α} {f:α->List Af} {i:Nat} {a:α} (h:l[i]?=some a):atF l f i=f a:=by simp only [atF,h]
theorem qGB {α:Type} {l:List α} {f:α->List Af} {m:Nat} (h:∀ a∈l,(f a).length<=m) (i:Nat):(atF l f i).length<=m:=by
 unfold atF
 cases hx:l[i]? with
 | none=>simp
 | some a=>exact h a (zQM hx)
def qCD (w:An) (i j:Nat):List Af:=match w.units[i]?,w.units[j]? with
 | some a,some b=>if tS w.layout a.body b.body=true then [⟨1,a.cab.train.id,b.cab.train.id⟩] else []
 | _,_=>[]
theorem qNU (w:An) (i j:Nat):(qCD w i j).length<=1:=by
 unfold qCD;split
 ·split<;>simp
 simp
theorem qNV {w:An} {i j:Nat} {a b:Av} (ha:w.units[i]?=some a) (hb:w.units[j]?=some b):qCD w i j=if tS w.layout a.body b.body=true then [⟨1,a.cab.train.id,b.cab.train.id⟩] else []:=by simp only [qCD,ha,hb]
def qGW (w:An) (i:Nat):List Af:=(List.range (w.units.length - (i+1))).flatMap λk=>qCD w i (i+1+k)
theorem zCC {w:An} (h:WOk w) (i:Nat):(qGW w i).length<=10:=by
 have:=eM (λk=>qCD w i (i+1+k)) 1 (λ_=>qNU _ _ _) (w.units.length - (i+1));have:=h.units;unfold qGW;omega
def qDE (w:An):List Af:=(List.range w.units.length).flatMap (qGW w)
theorem qPJ {w:An} (h:WOk w) {i:Nat} (hi:i<=w.units.length):((List.range i).flatMap (qGW w)).length<=100:=by
 have:=eM (qGW w) 10 (zCC h) i;have:=h.units;omega
theorem qJA {w:An} (h:WOk w):dG w=some (qDE w):=by
 have hn:=h.units;unfold dG dI;rw [pX w.units.length (qGW w) [] (w:=qDE w) (by omega) ?_ ?_]
 ·rfl
 ·intro i hi;have hx:=zQR hi;have hl:=qPJ h (show i<=w.units.length by omega);dsimp only;rw [if_pos (by omega),aJ hx,aA (bF hi (by omega)),aA (by omega),show (i:Int)+1=((i+1:Nat):Int) by push_cast;rfl,lA];have hdl:(w.units.drop (i+1)).length=w.units.length - (i+1):=by simp
  rw [pX (w.units.length - (i+1)) (λk=>qCD w i (i+1+k)) ([]++(List.range i).flatMap (qGW w)) (w:=[]++((List.range i).flatMap (qGW w)++qGW w i)) (by omega) ?_ ?_]
  ·rw [aF,aA (by unfold I64;omega)]
  ·intro k hk;have hj:i+1+k < w.units.length:=by omega
   have hy:=zQR hj;have hz:(w.units.drop (i+1))[k]?=some w.units[i+1+k]:=by rw [List.getElem?_drop];exact hy
   have hkl:=eM (λk=>qCD w i (i+1+k)) 1 (λ_=>qNU _ _ _) k;dsimp only;rw [if_pos (by omega),aJ hz,qVX w.layout _ _ w rfl (by have:=h.steps _ (List.getElem_mem hi);omega) (by have:=h.steps _ (List.getElem_mem hj);omega),aF,qNV hx hy];by_cases hm:tS w.layout w.units[i].body w.units[i+1+k].body=true
   ·rw [if_pos hm,if_pos hm];unfold fS;rw [aF,aA (by simp only [zQL,List.length_cons,List.length_nil];omega),aA (by unfold I64;omega),List.append_assoc]
   rw [if_neg hm,if_neg hm,aA (by unfold I64;omega),List.append_nil]
  dsimp only;rw [if_neg (by omega),List.append_assoc];rfl
 dsimp only;rw [if_neg (by omega)];rfl
def ovF (u:Av):List Af:=if u.cab.mode=2/\u.cab.auth.endV < u.xV then [⟨2,u.cab.train.id,0⟩] else []
theorem qYZ (u:Av):ovF u=if u.cab.mode=2/\u.cab.auth.endV < u.xV then [⟨2,u.cab.train.id,0⟩] else []:=rfl
theorem qYY (u:Av):(ovF u).length<=1:=by unfold ovF;split<;>simp
def ovS (w:An):List Af:=(List.range w.units.length).flatMap (atF w.units ovF)
theorem qVR {w : An} (h : WOk w) {r : List Af} (hr : r.length <= 1000) : aZ (fun (x7, b8) =>
   if x7 < (w.units.length : Int) then
    aU w.units x7 fun e11 =>
    aB (
     aB (gK e11.cab.mode) fun r14 =>
     if r14 = true then
      some (decide (e11.cab.auth.endV < e11.xV))
     else
      some false) fun x12 =>
    if x12 = true then
     aC ((b8 ++ ([(⟨(2 : Int), e11.cab.train.id, (0 : Int)⟩ : Af)] : List Af)).length <= 1000000000) <|
     aC (I64 (x7 + (1 : Int))) <|
     some (.inl ((x7 + (1 : Int)), (b8 ++ ([(⟨(2 : Int), e11.cab.train.id, (0 : Int)⟩ : Af)] : List Af))))
    else
     aC (I64 (x7 + (1 : Int))) <|
     some (.inl ((x7 + (1 : Int)), b8))
   else
    aP (
     some b8)) ((0 : Int), r) = some (r ++ ovS w) := by
 have hn:=h.units;refine pX w.units.length (atF w.units ovF) r (by omega) (λi hi=>?_) ?_
 ·have hx:=zQR hi;have hl:=eM (atF w.units ovF) 1 (qGB λu _=>qYY u) i;dsimp only;rw [if_pos (by omega),aJ hx,qLY hx,qYZ];unfold gK;rw [aF];by_cases h1:w.units[i].cab.mode=2
  ·rw [decide_eq_true h1,if_pos rfl,aF];by_cases h2:w.units[i].cab.auth.endV < w.units[i].xV
   ·rw [decide_eq_true h2,if_pos rfl,if_pos ⟨h1,h2⟩,aA (by simp only [zQL,List.length_cons,List.length_nil];omega),aA (bF hi (by omega)),List.append_assoc]
   rw [decide_eq_false h2,if_neg Bool.false_ne_true,if_neg (λq=>h2 q.2),aA (bF hi (by omega)),List.append_nil]
  rw [decide_eq_false h1,if_neg Bool.false_ne_true,aF,if_neg Bool.false_ne_true,if_neg (λq=>h1 q.1),aA (bF hi (by omega)),List.append_nil]
 dsimp only;rw [if_neg (by omega)];rfl
def sG:List Int->List As->Int->Int
 | [],_,_=>0
 | p :: r, ms, el => if p = el then (match ms with
  | [] => 0
  | m :: _ => m.pos) else sG r ms.tail el
def qYR (t:Al) (ms:List As) (n:Nat):List Int:=if 32 < n then [] else (List.range n).map λ(e:Nat)=>sG t.Ad ms (e:Int)
theorem qOG:∀ (ps:List Int) (ms:List As) (el:Int),sG ps ms el=match fM ps el with
  | some k => (match ms[k]? with
   | some m => m.pos
   | none => 0)
  | none=>0
 | [],ms,el=>rfl
 | p :: r,ms,el=>by
  unfold sG fM;rw [List.findIdx?_cons];by_cases h:p=el
  ·rw [if_pos h, if_pos (by simpa using h)];cases ms<;>rfl
  rw [if_neg h, if_neg (by simpa using h), qOG r ms.tail el];unfold fM
  cases r.findIdx? (λy=>y == el) with
  | none=>rfl
  | some k=>cases ms<;>simp
theorem qVC (n:Nat) (F:Nat->Int) {i:Nat} (v:Int):((List.range n).map F).set i v=(List.range n).map λe=>if e=i then v else F e:=by
 apply List.ext_getElem (by simp);intro j h1 h2;simp only [List.getElem_set,List.getElem_map,List.getElem_range];by_cases h:i=j
 ·rw [if_pos h,if_pos h.symm]
 rw [if_neg h,if_neg (λe=>h e.symm)]
theorem qBH {n:Nat} {F G:Nat->Int} (h:∀ e,e < n->F e=G e):(List.range n).map F=(List.range n).map G:=List.map_congr_left λe he=>h e (List.mem_range.1 he)
theorem qYQ (t:Al) (ms:List As) (n:Nat) (ht:t.Ad.length<=1000) (hm:ms.length<=1000):iA t ms (n:Int)=some (qYR t ms n):=by
 unfold iA qYR;by_cases hn:32 < n
 ·rw [if_pos (by simp only [Bool.or_eq_true,decide_eq_true_eq];omega),if_pos hn]
 rw [if_neg (by simp only [Bool.or_eq_true, decide_eq_true_eq]; omega), if_neg hn, aA (by omega)];rw [jB n (λi=>(List.range n).map λe=>if e < i then sG t.Ad ms (e:Int) else 0) (o:=(List.range n).map λ(e:Nat)=>sG t.Ad ms (e:Int)) ?_ (by omega) ?_ ?_]
 ·rfl
 ·apply List.ext_getElem (by simp);intro j h1 h2;simp
 ·intro i hi;dsimp only;have hb:((List.range n).map λe=>if e < i then sG t.Ad ms (e:Int) else 0)[i]?=some 0:=by rw [zQP,List.getElem?_range hi];simp
  have hs:∀ v,v=sG t.Ad ms (i:Int)->((List.range n).map λe=>if e < i then sG t.Ad ms (e:Int) else 0).set i v=(List.range n).map λe=>if e < i+1 then sG t.Ad ms (e:Int) else 0:=λv hv=>by
   rw [qVC];refine qBH λe he=>?_;by_cases h:e=i
   ·rw [if_pos h,if_pos (by omega),h,hv]
   rw [if_neg h];by_cases h2:e < i
   ·rw [if_pos h2,if_pos (by omega)]
   rw [if_neg h2,if_neg (by omega)]
  have hz:sG t.Ad ms (i:Int)=0->((List.range n).map λe=>if e < i then sG t.Ad ms (e:Int) else 0)=(List.range n).map λe=>if e < i+1 then sG t.Ad ms (e:Int) else 0:=λhv=>by
   refine qBH λe he=>?_;by_cases h:e=i
   ·rw [if_neg (by omega),if_pos (by omega),h,hv]
   by_cases h2:e < i
   ·rw [if_pos h2,if_pos (by omega)]
   rw [if_neg h2,if_neg (by omega)]
  rw [if_pos (by simp;omega),vX t _ (by unfold Cnt;omega),aF];have hl:=qOG t.Ad ms (i:Int)
  cases hk:fM t.Ad (i:Int) with
  | none=>
   rw [hk] at hl;rw [if_neg (by simp [uB]),aA (bF hi (by omega)),hz hl]
  | some k=>
   rw [hk] at hl;by_cases hkm:k < ms.length
   ·have hy:=zQR hkm;dsimp only at hl;rw [hy] at hl;rw [if_pos (by simp [uB];omega)];show aU ms (k:Int) _=_;rw [aJ hy,aJ hb,aA (bF hi (by omega)),Int.toNat_natCast,hs _ hl.symm]
   dsimp only at hl;rw [List.getElem?_eq_none (by omega)] at hl;rw [if_neg (by simp [uB];omega),aA (bF hi (by omega)),hz hl]
 dsimp only;rw [if_neg (by simp)];show some (Sum.inr _)=_
 congr 2
 refine qBH λe he=>?_;rw [if_pos he]
end Go.Proofs.YtofndjhpbonpbaaGreatDoor
set_option linter.unusedVariables false
set_option linter.unusedSimpArgs false
set_option maxHeartbeats 2000000
set_option maxRecDepth 100000
namespace Go.Proofs.YtofndjhpbonpbaaGreatDoor
open Go Go.TL
def sF (k i o:Int):Int:=if k=2/\(i=0/\o=1\/i=1/\o=0) then 1 else if k=2/\(i=0/\o=2\/i=2/\o=0) then 2 else 0
def qES (k i o:Int) (p:Br):Bool:=decide (p.kind=k)&&(decide (p.inV=i)&&decide (p.out=o))
theorem qVQ:∀ p∈passages,p.need=sF p.kind p.inV p.out:=by decide
theorem qYV (k i o:Int) (h:sF k i o≠0):∃ p∈passages,qES k i o p=true:=by
 unfold sF at h;split at h
 ·rename_i q;obtain⟨rfl,⟨rfl,rfl⟩|⟨rfl,rfl⟩⟩:=q
  ·exact⟨⟨2,0,1,1⟩,by decide,by decide⟩
  exact⟨⟨2,1,0,1⟩,by decide,by decide⟩
 split at h
 ·rename_i q;obtain⟨rfl,⟨rfl,rfl⟩|⟨rfl,rfl⟩⟩:=q
  ·exact⟨⟨2,0,2,2⟩,by decide,by decide⟩
  exact⟨⟨2,2,0,2⟩,by decide,by decide⟩
 exact absurd rfl h
theorem qVW (k i o:Int):∃ r b,oP k i o=some (r,b)/\(if b=true then r else 0)=sF k i o:=by
 unfold oP;rw [qIV passages (λp=>if qES k i o p=true then some (.inr (p.need,true)) else none) (.inl ()) (by decide) ?_ ?_]
 ·cases hf:passages.findSome? (λp=>if qES k i o p=true then some (Sum.inr (p.need,true):(_root_.Unit ⊕ (Int×Bool))) else none) with
  | none=>
   refine⟨0,false,rfl,?_⟩;rw [if_neg Bool.false_ne_true];by_cases h:sF k i o=0
   ·exact h.symm
   obtain⟨p,hp,hb⟩:=qYV k i o h;have:=List.findSome?_eq_none_iff.1 hf p hp;rw [if_pos hb] at this;cases this
  | some v=>
   obtain⟨p,hp,he⟩:=List.exists_of_findSome?_eq_some hf;by_cases hb:qES k i o p=true
   ·rw [if_pos hb] at he;cases he;refine⟨p.need,true,rfl,?_⟩;rw [if_pos rfl,qVQ p hp];unfold qES at hb;simp only [zQA,decide_eq_true_eq] at hb;rw [hb.1,hb.2.1,hb.2.2]
   rw [if_neg hb] at he;cases he
 ·intro j e he;have hj:=(zQQ.1 he).1;have hj10:j < 10:=hj;rw [if_pos (by omega),aJ he];show (if qES k i o e=true then _ else _)=_;by_cases hb:qES k i o e=true
  ·rw [if_pos hb,if_pos hb];rfl
  rw [if_neg hb,if_neg hb,aA (bF hj (by decide))]
 rfl
def ptF (w:An) (u:Av) (s:Am):List Af:=match (if 0<=s.el then w.layout.Ae[s.el.toNat]? else none),(qYR w.Ar w.machines w.layout.Ae.length)[s.el.toNat]? with
 | some e,some p=>if sF e.kind s.inV s.out≠0/\p≠sF e.kind s.inV s.out then [⟨4,u.cab.train.id,s.el⟩] else []
 | _,_=>[]
theorem ptF_eq (w:An) (u:Av) (s:Am):ptF w u s=match (if 0<=s.el then w.layout.Ae[s.el.toNat]? else none),(qYR w.Ar w.machines w.layout.Ae.length)[s.el.toNat]? with
 | some e,some p=>if sF e.kind s.inV s.out≠0/\p≠sF e.kind s.inV s.out then [⟨4,u.cab.train.id,s.el⟩] else []
 | _,_=>[]:=rfl
theorem qYO (w:An) (u:Av) (s:Am):(ptF w u s).length<=1:=by
 unfold ptF;split
 ·split<;>simp
 simp
def ptU (w:An) (u:Av):List Af:=(List.range u.body.steps.length).flatMap (atF u.body.steps (ptF w u))
theorem ptU_le {w:An} (h:WOk w):∀ u∈w.units,(ptU w u).length<=100:=λu hu=>by
 have:=eM (atF u.body.steps (ptF w u)) 1 (qGB λs _=>qYO w u s) u.body.steps.length;have:=h.steps u hu;unfold ptU;omega
def ptS (w:An):List Af:=(List.range w.units.length).flatMap (atF w.units (ptU w))
theorem qTH {w:An} (h:WOk w) {i:Nat} (hi:i<=w.units.length):((List.range i).flatMap (atF w.units (ptU w))).length<=1000:=by
 have:=eM (atF w.units (ptU w)) 100 (qGB (ptU_le h)) i;have:=h.units;omega
theorem qNQ {w:An} (h:WOk w):jP w=some (ptS w):=by
 have hn:=h.units;have hE:=h.Ae;unfold jP;rw [qYQ w.Ar w.machines w.layout.Ae.length (by have:=h.Ad;omega) (by have:=h.machines;omega),aF];rw [pX w.units.length (atF w.units (ptU w)) [] (w:=ptS w) (by omega) ?_ ?_]
 ·rfl
 ·intro i hi;have hx:=zQR hi;have hl:=qTH h (show i<=w.units.length by omega);have hst:=h.steps _ (List.getElem_mem hi);dsimp only;rw [if_pos (by omega),aJ hx,qLY hx];rw [pX w.units[i].body.steps.length (atF w.units[i].body.steps (ptF w w.units[i])) ([]++(List.range i).flatMap (atF w.units (ptU w))) (w:=[]++((List.range i).flatMap (atF w.units (ptU w))++ptU w w.units[i])) (by omega) ?_ ?_]
  ·rw [aF,aA (bF hi (by omega))]
  ·intro k hk;have hy:=zQR hk;have hkl:=eM (atF w.units[i].body.steps (ptF w w.units[i])) 1 (qGB λs _=>qYO w _ s) k;dsimp only;rw [if_pos (by omega),aJ hy,qLY hy];generalize w.units[i].body.steps[k]=s;rw [ptF_eq];generalize qYR w.Ar w.machines w.layout.Ae.length=P;by_cases hs:0<=s.el/\s.el < (w.layout.Ae.length:Int)/\s.el < (P.length:Int)
   ·have he := zQR (l := w.layout.Ae) (show s.el.toNat < w.layout.Ae.length by omega);have hp:=zQR (l:=P) (show s.el.toNat < P.length by omega);rw [if_neg (by simp only [Bool.or_eq_true,decide_eq_true_eq];omega),hZ hs.1 he,if_pos hs.1,he,hp];dsimp only;obtain⟨r,b,e1,e2⟩:=qVW (w.layout.Ae[s.el.toNat]'(by omega)).kind s.inV s.out;rw [e1,aF]
    cases b with
    | false=>
     have h0:sF (w.layout.Ae[s.el.toNat]'(by omega)).kind s.inV s.out=0:=e2.symm.trans (if_neg Bool.false_ne_true);rw [if_neg Bool.false_ne_true,aF,if_neg Bool.false_ne_true,if_neg (λq=>q.1 h0),aA (bF hk (by omega)),List.append_nil]
    | true=>
     have hr:sF (w.layout.Ae[s.el.toNat]'(by omega)).kind s.inV s.out=r:=e2.symm.trans (if_pos rfl);rw [if_pos rfl];by_cases h0:r=0
     ·rw [if_pos h0,aF,if_neg Bool.false_ne_true,if_neg (λq=>q.1 (hr.trans h0)),aA (bF hk (by omega)),List.append_nil]
     rw [if_neg h0,hZ hs.1 hp,aF,hr];by_cases h1:r=P[s.el.toNat]'(by omega)
     ·rw [decide_eq_true h1,if_neg (by simp),if_neg (λq=>q.2 h1.symm),aA (bF hk (by omega)),List.append_nil]
     rw [decide_eq_false h1,if_pos (by rfl),if_pos ⟨h0,λq=>h1 q.symm⟩,aA (by simp only [zQL,List.length_cons,List.length_nil];omega),aA (bF hk (by omega)),List.append_assoc]
   rw [if_pos (by simp only [Bool.or_eq_true, decide_eq_true_eq]; omega), aA (bF hk (by omega))]
   have hnone : (match (if 0 <= s.el then w.layout.Ae[s.el.toNat]? else none), P[s.el.toNat]? with
    | some e, some p => if sF e.kind s.inV s.out ≠ 0 /\ p ≠ sF e.kind s.inV s.out then [(⟨4, w.units[i].cab.train.id, s.el⟩ : Af)] else []
    | _, _ => []) = [] := by
    by_cases h0:0<=s.el
    ·rw [if_pos h0];by_cases h1:s.el < (w.layout.Ae.length:Int)
     ·rw [List.getElem?_eq_none (l := P) (by omega)];split
      ·rename_i q;cases q
      rfl
     rw [List.getElem?_eq_none (l:=w.layout.Ae) (by omega)]
    rw [if_neg h0]
   rw [hnone,List.append_nil]
  dsimp only;rw [if_neg (by omega),List.append_assoc];rfl
 dsimp only;rw [if_neg (by omega)];rfl
def zS (w:An) (g:Int) (r:Nat):Bool:=match w.Ar.Ab[r]?,w.inter.Ab[r]? with
 | some a,some x=>decide (a.entry=g)&&decide (x.state=2)
 | _,_=>false
def vJ (w:An) (g:Int) (n:Nat):Bool:=(List.range n).any (zS w g)
theorem vI (w:An) (g:Int) (n:Nat):vJ w g (n+1)=(vJ w g n||zS w g n):=by
 unfold vJ;rw [List.range_succ,List.any_append];simp
def sgF (w:An) (g:Nat):List Af:=match w.clear[g]? with
 | some b=>if b=true/\vJ w (g:Int) w.Ar.Ab.length=false then [⟨5,(g:Int),0⟩] else []
 | none=>[]
theorem sgF_eq (w:An) (g:Nat):sgF w g=match w.clear[g]? with
 | some b=>if b=true/\vJ w (g:Int) w.Ar.Ab.length=false then [⟨5,(g:Int),0⟩] else []
 | none=>[]:=rfl
theorem qXZ (w:An) (g:Nat):(sgF w g).length<=1:=by
 unfold sgF;split
 ·split<;>simp
 simp
def sgS (w:An):List Af:=(List.range w.clear.length).flatMap (sgF w)
theorem qJO {w:An} (h:WOk w):gB w=some (sgS w):=by
 have hn:=h.Ab;have hc:=h.clear
 have:Tot (gB w) λr=>r=sgS w:=by
  unfold gB;refine aE (P:=λm=>(m.map (·.1)).Nodup/\∀ g,(cM m g).getD false=vJ w g w.Ar.Ab.length) (cA (λi s=>s.1=(i:Int)/\(s.2.map (·.1)).Nodup/\∀ g,(cM s.2 g).getD false=vJ w g i) w.Ar.Ab.length (by omega) ⟨rfl,by simp,λg=>rfl⟩ ?_ ?_) ?_
  ·rintro i ⟨y,m⟩ hi ⟨q1,q2,q3⟩;dsimp only at q1 q2 q3;subst q1;dsimp only;have hx:=zQR hi;rw [if_pos (by omega),aJ hx];by_cases hr:i < w.inter.Ab.length
   ·have hy:=zQR hr;rw [if_pos (by omega),aJ hy,aF];by_cases hs:w.inter.Ab[i].state=2
    ·rw [decide_eq_true hs, if_pos rfl, aA q2, aA (bF hi (by omega))];refine tot_some.2 ⟨by push_cast;rfl,qIR q2 _ _,λg=>?_⟩;show (cM (tJ m _ true) g).getD false=_;rw [qJD,vI,<- q3];unfold zS;rw [hx,hy];dsimp only;rw [decide_eq_true hs,Bool.and_true];by_cases hg:g=w.Ar.Ab[i].entry
     ·rw [if_pos hg,decide_eq_true hg.symm];simp
     rw [if_neg hg,decide_eq_false (λq=>hg q.symm)];simp
    rw [decide_eq_false hs, if_neg Bool.false_ne_true, aA (bF hi (by omega))];refine tot_some.2 ⟨by push_cast;rfl,q2,λg=>?_⟩;rw [vI,<- q3];unfold zS;rw [hx,hy];dsimp only;rw [decide_eq_false hs];simp
   rw [if_neg (by omega), aF, if_neg Bool.false_ne_true, aA (bF hi (by omega))];refine tot_some.2 ⟨by push_cast;rfl,q2,λg=>?_⟩;rw [vI,<- q3];unfold zS;rw [hx,List.getElem?_eq_none (by omega)];simp
  ·rintro⟨y,m⟩ ⟨q1,q2,q3⟩;dsimp only at q1 q2 q3;subst q1;dsimp only;rw [if_neg (by omega)];exact⟨_,rfl,q2,q3⟩
  rintro m ⟨h1,h2⟩;rw [pX w.clear.length (sgF w) [] (w:=sgS w) (by omega) ?_ ?_]
  ·exact tot_some.2 rfl
  ·intro i hi;have hx:=zQR hi;have hl:=eM (sgF w) 1 (qXZ w) i;dsimp only;rw [if_pos (by omega),aJ hx];rw [sgF_eq,hx];dsimp only
   cases hb:w.clear[i] with
   | false=>rw [if_neg Bool.false_ne_true,aF,if_neg Bool.false_ne_true,if_neg (λq=>Bool.false_ne_true q.1),aA (bF hi (by omega)),List.append_nil]
   | true=>
    rw [if_pos rfl,aA h1,aF,h2]
    cases vJ w (i:Int) w.Ar.Ab.length with
    | false=>rw [if_pos (by rfl),if_pos ⟨rfl,rfl⟩,aA (by simp only [zQL,List.length_cons,List.length_nil];omega),aA (bF hi (by omega)),List.append_assoc]
    | true=>rw [if_neg (by simp),if_neg (by simp),aA (bF hi (by omega)),List.append_nil]
  dsimp only;rw [if_neg (by omega)];rfl
 obtain⟨r,e,rfl⟩:=this;exact e
def iI (w:An) (n:Nat):List Int:=(w.center.tracks.take n).flatMap (·.Ab)
theorem qCN {w:An} {i:Nat} {k:A5} (h:w.center.tracks[i]?=some k):iI w (i+1)=iI w i++k.Ab:=by
 obtain⟨hi,rfl⟩:=zQQ.1 h;unfold iI;rw [List.take_succ_eq_append_getElem hi,List.flatMap_append];simp
theorem qFW {w:An} (h:WOk w):∀ i,(iI w i).length<=i * 60
 | 0=>by simp [iI]
 | i+1=>by
  have ih:=qFW h i;by_cases hi:i < w.center.tracks.length
  ·have hx:=zQR hi;have:=h.claims _ (List.getElem_mem hi);rw [qCN hx,zQL];omega
  have e : iI w (i + 1) = iI w i := by unfold iI; rw [List.take_of_length_le (by omega), List.take_of_length_le (by omega)]
  rw [e];omega
def qSF (w:An) (r:Int):Nat:=(iI w w.center.tracks.length).count r
def qFH (w:An) (r:Nat):Bool:=match w.inter.Ab[r]? with
 | some x=>decide (x.state=0)
 | none=>false
def clF (w:An) (r:Nat):List Af:=if 1 < qSF w (r:Int)\/qSF w (r:Int)=1/\qFH w r=true then [⟨6,(r:Int),0⟩] else []
theorem clF_eq (w:An) (r:Nat):clF w r=if 1 < qSF w (r:Int)\/qSF w (r:Int)=1/\qFH w r=true then [⟨6,(r:Int),0⟩] else []:=rfl
theorem zAN (w:An) (r:Nat):(clF w r).length<=1:=by unfold clF;split<;>simp
def clS (w:An):List Af:=(List.range w.Ar.Ab.length).flatMap (clF w)
theorem qQT {l:List Int} {i:Nat} {x:Int} (h:l[i]?=some x) (r:Int):(l.take (i+1)).count r=(l.take i).count r+(if x=r then 1 else 0):=by
 obtain⟨hi,rfl⟩:=zQQ.1 h;rw [List.take_succ_eq_append_getElem hi,List.count_append,List.count_singleton];simp
theorem qLT {w:An} (h:WOk w):gC w=some (clS w):=by
 have hn:=h.Ab;have ht:=h.tracks
 have:Tot (gC w) λr=>r=clS w:=by
  unfold gC;refine aE (P:=λm=>(m.map (·.1)).Nodup/\∀ g,(cM m g).getD 0=(qSF w g:Int)) (cA (λi s=>s.1=(i:Int)/\(s.2.map (·.1)).Nodup/\∀ g,(cM s.2 g).getD 0=((iI w i).count g:Int)) w.center.tracks.length (by omega) ⟨rfl,by simp,λg=>by simp [iI,qJE]⟩ ?_ ?_) ?_
  ·rintro i ⟨y,m⟩ hi ⟨q1,q2,q3⟩;dsimp only at q1 q2 q3;subst q1;dsimp only;have hx:=zQR hi;have hcl:=h.claims _ (List.getElem_mem hi);have hlen:=qFW h i;rw [if_pos (by omega),aJ hx];refine aE (P:=λm=>(m.map (·.1)).Nodup/\∀ g,(cM m g).getD 0=((iI w (i+1)).count g:Int)) (cA (λk s=>s.1=(k:Int)/\(s.2.map (·.1)).Nodup/\∀ g,(cM s.2 g).getD 0=((iI w i).count g+((w.center.tracks[i].Ab).take k).count g:Nat)) w.center.tracks[i].Ab.length (by omega) ⟨rfl,q2,λg=>by rw [q3];simp⟩ ?_ ?_) ?_
   ·rintro k ⟨y,m⟩ hk ⟨p1,p2,p3⟩;dsimp only at p1 p2 p3;subst p1;dsimp only;have hy:=zQR hk;have hb:=p3 w.center.tracks[i].Ab[k];have c1:=List.count_le_length (a:=w.center.tracks[i].Ab[k]) (l:=iI w i);have c2:=List.count_le_length (a:=w.center.tracks[i].Ab[k]) (l:=w.center.tracks[i].Ab.take k);rw [List.length_take] at c2;rw [if_pos (by omega),aJ hy,aA p2,aA (by rw [hb];unfold I64;omega),aA p2,aA (bF hk (by omega))];refine tot_some.2 ⟨by push_cast;rfl,qIR p2 _ _,λg=>?_⟩;show (cM (tJ m _ _) g).getD 0=_;rw [qJD,qQT hy,hb];by_cases hg:g=w.center.tracks[i].Ab[k]
    ·rw [if_pos hg,if_pos hg.symm,<- hg];show _+(1:Int)=_;push_cast;omega
    rw [if_neg hg,if_neg (λq=>hg q.symm),p3];simp
   ·rintro⟨y,m⟩ ⟨p1,p2,p3⟩;dsimp only at p1 p2 p3;subst p1;dsimp only;rw [if_neg (by omega)];refine⟨_,rfl,p2,λg=>?_⟩;rw [p3,qCN hx,List.take_length,List.count_append]
   rintro m2 ⟨h1,h2⟩;rw [aA (bF hi (by omega))];exact tot_some.2 ⟨by push_cast;rfl,h1,h2⟩
  ·rintro⟨y,m⟩ ⟨q1,q2,q3⟩;dsimp only at q1 q2 q3;subst q1;dsimp only;rw [if_neg (by omega)];exact⟨_,rfl,q2,q3⟩
  rintro m ⟨h1,h2⟩;rw [pX w.Ar.Ab.length (clF w) [] (w:=clS w) (by omega) ?_ ?_]
  ·exact tot_some.2 rfl
  ·intro i hi;have hl:=eM (clF w) 1 (zAN w) i;dsimp only;rw [if_pos (by omega)]
   have hidle:(if (i:Int) < (w.inter.Ab.length:Int) then aU w.inter.Ab (i:Int) λe40=>some (decide (e40.state=(0:Int))) else some false)=some (qFH w i):=by
    unfold qFH;by_cases hr:i < w.inter.Ab.length
    ·have hy:=zQR hr;rw [if_pos (by omega),aJ hy,hy]
    rw [if_neg (by omega),List.getElem?_eq_none (by omega)]
   rw [hidle,aF,aA h1,aA h1,h2,clF_eq];by_cases c1:1 < qSF w (i:Int)
   ·rw [if_pos (by omega),aF,if_pos rfl,if_pos (.inl c1),aA (by simp only [zQL,List.length_cons,List.length_nil];omega),aA (bF hi (by omega)),List.append_assoc]
   rw [if_neg (by omega)];by_cases c2:qSF w (i:Int)=1
   ·rw [if_pos (by omega), aF];by_cases c3:qFH w i=true
    ·rw [if_pos c3,if_pos (.inr ⟨c2,c3⟩),aA (by simp only [zQL,List.length_cons,List.length_nil];omega),aA (bF hi (by omega)),List.append_assoc]
    rw [if_neg c3,if_neg (λq=>q.elim c1 λq=>c3 q.2),aA (bF hi (by omega)),List.append_nil]
   rw [if_neg (by omega),aF,if_neg Bool.false_ne_true,if_neg (λq=>q.elim c1 λq=>c2 q.1),aA (bF hi (by omega)),List.append_nil]
  dsimp only;rw [if_neg (by omega)];rfl
 obtain⟨r,e,rfl⟩:=this;exact e
def qTM (w:An):List Af:=if lX w.Ar w.inter=true then [] else [⟨3,0,0⟩]
def qFO (w:An):List Af:=qDE w++ovS w++qTM w++ptS w++sgS w++clS w
theorem qYX {w:An} (h:WOk w):(qDE w).length<=100/\(ovS w).length<=10/\(ptS w).length<=1000/\(sgS w).length<=40/\(clS w).length<=50:=by
 have h1:=h.units;have h2:=h.clear;have h3:=h.Ab;have a1:=eM (atF w.units ovF) 1 (qGB λu _=>qYY u) w.units.length;have a2:=eM (sgF w) 1 (qXZ w) w.clear.length;have a3:=eM (clF w) 1 (zAN w) w.Ar.Ab.length;exact⟨qPJ h (zQW _),by unfold ovS;omega,qTH h (zQW _),by unfold sgS;omega,by unfold clS;omega⟩
theorem qSI {w:An} (h:WOk w):fT w=some (qFO w):=by
 obtain⟨l1,l2,l3,l4,l5⟩:=qYX h;have hL:qTM w=if lX w.Ar w.inter=true then [] else [⟨3,0,0⟩]:=rfl;have hLl:(qTM w).length<=1:=by rw [hL];split<;>simp
 have hm:(aB (some (lX w.Ar w.inter)) λr23=>if (!(r23))=true then aC (((qDE w++ovS w)++([(⟨(3:Int),(0:Int),(0:Int)⟩:Af)]:List Af)).length<=1000000000) <| some ((qDE w++ovS w)++([(⟨(3:Int),(0:Int),(0:Int)⟩:Af)]:List Af)) else some (qDE w++ovS w))=some (qDE w++ovS w++qTM w):=by
  rw [aF,hL];by_cases hs:lX w.Ar w.inter=true
  ·rw [if_pos hs,if_neg (by rw [hs];simp),List.append_nil]
  rw [if_neg hs,if_pos (by rw [Bool.not_eq_true] at hs;rw [hs];rfl),aA (by simp only [zQL,List.length_cons,List.length_nil];omega)]
 unfold fT;rw [qJA h,aF,qVR h (by omega),aF,qXY w.Ar w.inter h.Ar h.setts,hm,aF,qNQ h,aF,aA (by simp only [zQL];omega),qJO h,aF,aA (by simp only [zQL];omega),qLT h,aF,aA (by simp only [zQL];omega)];rfl
theorem qMR (a b:List Int) (hb:b.length<=1000000000000000):Tot (gF a b) λ_=>True:=by
 unfold gF;split
 ·rename_i hl;refine bM (P:=λ_=>True) (bZ a (by omega) (λ_=>True) trivial ?_ ?_) (λ_ _=>tot_some.2 trivial) (λ_ _=>trivial)
  ·intro i e he _;have hi:=(zQQ.1 he).1;have hy:=zQR (l:=b) (show i < b.length by omega);rw [if_pos (by omega),aJ he,aJ hy];split
   ·rw [aA (bF hi (by omega))];exact⟨_,rfl,.inl ⟨rfl,trivial⟩⟩
   exact⟨_,rfl,.inr ⟨_,rfl,trivial⟩⟩
  intro _;rw [if_neg (by omega)];exact⟨_,rfl,_,rfl,trivial⟩
 exact tot_some.2 trivial
theorem qEC (a b:List Int) (hb:b.length<=1000000000000000):Tot (fB a b) λ_=>True:=by
 unfold fB lM;refine aE (P:=λ_=>True) ?_ λ_ _=>tot_some.2 trivial;split
 ·rename_i hl;refine bM (P:=λ_=>True) (bZ a (by omega) (λ_=>True) trivial ?_ ?_) (λ_ _=>tot_some.2 trivial) (λ_ _=>trivial)
  ·intro i e he _;have hi:=(zQQ.1 he).1;have hy:=zQR (l:=b) (show i < b.length by omega);rw [if_pos (by omega),aJ he,aJ hy];split
   ·rw [aA (bF hi (by omega))];exact⟨_,rfl,.inl ⟨rfl,trivial⟩⟩
   exact⟨_,rfl,.inr ⟨_,rfl,trivial⟩⟩
  intro _;rw [if_neg (by omega)];exact⟨_,rfl,_,rfl,trivial⟩
 exact tot_some.2 trivial
theorem qTD (a b:List Am) (hb:b.length<=1000000000000000) (ha:∀ s∈a,Am.ok s) (hc:∀ s∈b,Am.ok s):Tot (fN a b) λ_=>True:=by
 unfold fN kC;refine aE (P:=λ_=>True) ?_ λ_ _=>tot_some.2 trivial;split
 ·rename_i hl;refine bM (P:=λ_=>True) (bZ a (by omega) (λ_=>True) trivial ?_ ?_) (λ_ _=>tot_some.2 trivial) (λ_ _=>trivial)
  ·intro i e he _;have hi:=(zQQ.1 he).1;have hy:=zQR (l:=b) (show i < b.length by omega);rw [if_pos (by omega),aJ he,aJ hy,aA ⟨ha _ (zQM he),hc _ (List.getElem_mem _)⟩];split
   ·rw [aA (bF hi (by omega))];exact⟨_,rfl,.inl ⟨rfl,trivial⟩⟩
   exact⟨_,rfl,.inr ⟨_,rfl,trivial⟩⟩
  intro _;rw [if_neg (by omega)];exact⟨_,rfl,_,rfl,trivial⟩
 exact tot_some.2 trivial
theorem qJR (a b:List Aa) (hb:b.length<=1000000000000000) (ha:∀ s∈a,Aa.ok s) (hc:∀ s∈b,Aa.ok s):Tot (dO a b) λ_=>True:=by
 unfold dO gS;refine aE (P:=λ_=>True) ?_ λ_ _=>tot_some.2 trivial;split
 ·rename_i hl;refine bM (P:=λ_=>True) (bZ a (by omega) (λ_=>True) trivial ?_ ?_) (λ_ _=>tot_some.2 trivial) (λ_ _=>trivial)
  ·intro i e he _;have hi:=(zQQ.1 he).1;have hy:=zQR (l:=b) (show i < b.length by omega);rw [if_pos (by omega),aJ he,aJ hy,aA ⟨ha _ (zQM he),hc _ (List.getElem_mem _)⟩];split
   ·rw [aA (bF hi (by omega))];exact⟨_,rfl,.inl ⟨rfl,trivial⟩⟩
   exact⟨_,rfl,.inr ⟨_,rfl,trivial⟩⟩
  intro _;rw [if_neg (by omega)];exact⟨_,rfl,_,rfl,trivial⟩
 exact tot_some.2 trivial
theorem zBY (a b:List End) (hb:b.length<=1000000000000000) (ha:∀ s∈a,End.ok s) (hc:∀ s∈b,End.ok s):Tot (iT a b) λ_=>True:=by
 unfold iT;split
 ·rename_i hl;refine bM (P:=λ_=>True) (bZ a (by omega) (λ_=>True) trivial ?_ ?_) (λ_ _=>tot_some.2 trivial) (λ_ _=>trivial)
  ·intro i e he _;have hi:=(zQQ.1 he).1;have hy:=zQR (l:=b) (show i < b.length by omega);rw [if_pos (by omega),aJ he,aJ hy,aA ⟨ha _ (zQM he),hc _ (List.getElem_mem _)⟩];split
   ·rw [aA (bF hi (by omega))];exact⟨_,rfl,.inl ⟨rfl,trivial⟩⟩
   exact⟨_,rfl,.inr ⟨_,rfl,trivial⟩⟩
  intro _;rw [if_neg (by omega)];exact⟨_,rfl,_,rfl,trivial⟩
 exact tot_some.2 trivial
theorem wf_cmp {r:Ai} (w:r.Wf):RtCmp r:=⟨λs h=>let q:=w.path.2 s h;⟨q.el,q.inV,q.out⟩,λs h=>let q:=w.Ad.2 s h;⟨q.el,q.pos⟩,λs h=>let q:=w.over.2 s h;⟨q.el,q.inV,q.out⟩,λs h=>let q:=w.Aj.2 s h;⟨q.el,q.pos⟩,λs h=>let q:=w.At.2 s h;⟨q.el,q.pos⟩,λs h=>let q:=w.gaps.2 s h;⟨q.el,q.side⟩⟩
theorem zBX {a b:Ai} (ha:RtCmp a) (wb:b.Wf):Tot (pO a b) λ_=>True:=by
 have hb:=wf_cmp wb;have L:∀ {n:Nat},n<=reachBytes->n<=1000000000000000:=λh=>by have:=qC h;omega
 unfold pO;split
 ·exact tot_some.2 trivial
 refine aE (P := fun _ => True) ?_ fun x _ => ?_
 ·refine aE (qTD _ _ (L wb.path.1) ha.path hb.path) fun r _ => ?_;split
  ·exact tot_some.2 trivial
  refine aE (qJR _ _ (L wb.Ad.1) ha.Ad hb.Ad) fun r _ => ?_;split
  ·exact tot_some.2 trivial
  exact aE (qEC _ _ (L wb.Ac.1)) λr _=>tot_some.2 trivial
 split
 ·exact tot_some.2 trivial
 refine aE (P := fun _ => True) ?_ fun y _ => tot_some.2 trivial;refine aE (qTD _ _ (L wb.over.1) ha.over hb.over) λr _=>?_;split
 ·refine aE (qJR _ _ (L wb.Aj.1) ha.Aj hb.Aj) fun r _ => ?_;split
  ·refine aE (qEC _ _ (L wb.Ao.1)) fun r _ => ?_;split
   ·refine aE (qJR _ _ (L wb.At.1) ha.At hb.At) fun r _ => ?_;split
    ·refine aE (qEC _ _ (L wb.guards.1)) fun r _ => ?_;split
     ·exact aE (zBY _ _ (L wb.gaps.1) ha.gaps hb.gaps) λr _=>tot_some.2 trivial
     exact tot_some.2 trivial
    exact tot_some.2 trivial
   exact tot_some.2 trivial
  exact tot_some.2 trivial
 exact tot_some.2 trivial
theorem zBW {t u:Al} (ht:∀ r∈t.Ab,RtCmp r) (wu:u.Wf):Tot (pL t u) λ_=>True:=by
 have L:∀ {n:Nat},n<=reachBytes->n<=1000000000000000:=λh=>by have:=qC h;omega
 unfold pL;refine aE (P:=λx=>x=false->t.Ab.length=u.Ab.length) ?_ λx hx=>?_
 ·split
  ·rename_i hl;refine aE (qMR _ _ (L wu.Ad.1)) λr _=>?_;split
   ·exact tot_some.2 λh=>by cases h
   refine aE (qMR _ _ (L wu.A1.1)) fun r _ => ?_;split
   ·exact tot_some.2 λh=>by cases h
   split
   ·exact tot_some.2 λ_=>by omega
   exact tot_some.2 λh=>by cases h
  exact tot_some.2 λh=>by cases h
 cases x with
 | true=>rw [if_pos rfl];exact tot_some.2 trivial
 | false=>
  have hl:=hx rfl;have:=L wu.Ab.1;rw [if_neg Bool.false_ne_true];refine bM (P:=λ_=>True) (bZ t.Ab (by omega) (λ_=>True) trivial ?_ ?_) (λ_ _=>tot_some.2 trivial) (λ_ _=>trivial)
  ·intro i e he _;have hi:=(zQQ.1 he).1;have hy:=zQR (l:=u.Ab) (show i < u.Ab.length by omega);rw [if_pos (by omega),aJ he,aJ hy];refine aE (zBX (ht _ (zQM he)) (wu.Ab.2 _ (List.getElem_mem _))) λr _=>?_;split
   ·exact⟨_,rfl,.inr ⟨_,rfl,trivial⟩⟩
   rw [aA (bF hi (by omega))];exact⟨_,rfl,.inl ⟨rfl,trivial⟩⟩
  intro _;rw [if_neg (by omega)];exact⟨_,rfl,_,rfl,trivial⟩
theorem qRQ (w:An) (h:w.machines.length<=1000):Tot (iM w) λ_=>True:=by
 unfold iM;refine bM (P:=λ_=>True) (bZ w.machines (by omega) (λ_=>True) trivial ?_ ?_) (λ_ _=>tot_some.2 trivial) (λ_ _=>trivial)
 ·intro i e he _;have hi:=(zQQ.1 he).1;rw [if_pos (by omega),aJ he];split
  ·exact⟨_,rfl,.inr ⟨_,rfl,trivial⟩⟩
  rw [aA (bF hi (by omega))];exact⟨_,rfl,.inl ⟨rfl,trivial⟩⟩
 intro _;rw [if_neg (by omega)];exact⟨_,rfl,_,rfl,trivial⟩
theorem tO (a b c:Int):Tot (hJ a b c) λ_=>True:=tot_some.2 trivial
theorem zBR (x:Bd) (h:x.name.size<=1000000000000000):Tot (gM x) λ_=>True:=by
 unfold gM;refine aE (zAY _ h) λr _=>?_;split
 ·exact tot_some.2 trivial
 refine aE (P := fun _ => True) ?_ fun r _ => ?_
 ·refine aE (tO _ _ _) fun r _ => ?_;split
  ·exact tot_some.2 trivial
  refine aE (tO _ _ _) fun r _ => ?_;split
  ·exact tot_some.2 trivial
  refine aE (tO _ _ _) fun r _ => ?_;split
  ·exact tot_some.2 trivial
  refine aE (tO _ _ _) fun r _ => ?_;split
  ·exact tot_some.2 trivial
  exact aE (tO _ _ _) λr _=>tot_some.2 trivial
 split
 ·exact tot_some.2 trivial
 refine aE (P := fun _ => True) ?_ fun r _ => ?_
 ·refine aE (tO _ _ _) fun r _ => ?_;split
  ·exact tot_some.2 trivial
  refine aE (tO _ _ _) fun r _ => ?_;split
  ·exact tot_some.2 trivial
  refine aE (tO _ _ _) fun r _ => ?_;split
  ·exact tot_some.2 trivial
  exact aE (tO _ _ _) λr _=>tot_some.2 trivial
 split<;>exact tot_some.2 trivial
theorem zCM {l:Ag} (hk:LayK l) {s:Am} (h:Am.ok s):Tot (fD l s) λ_=>True:=by
 unfold fD;refine aE (sS l _ hk ⟨h.1,h.2.2⟩) ?_;rintro⟨a,b⟩ _;exact tot_some.2 trivial
def rE (l:Ag) (s:Am):Prop:=0<=s.el/\s.el < (l.Ae.length:Int)
theorem wayW_t {l:Ag} (hk:LayK l) {w:List Am} (h:∀ s∈w,Am.ok s):Tot (gO l w) λr=>r=true->w≠[]/\w.length<=64/\∀ s∈w,rE l s:=by
 unfold gO;split
 ·exact tot_some.2 λh=>by cases h
 rename_i hc;simp only [Bool.or_eq_true,decide_eq_true_eq,not_or] at hc;have hne:w≠[]:=λe=>hc.1 (by rw [e];rfl);refine bM (P:=λo=>match o with|.inl _=>∀ j s,j < w.length->w[j]?=some s->rE l s|.inr b=>b=false) (bZ w (by omega) (λi=>∀ j s,j < i->w[j]?=some s->rE l s) (λj s hj=>absurd hj (zQV j)) ?_ ?_) (λ_ h=>tot_some.2 λ_=>⟨hne,by omega,λs hs=>?_⟩) (λb hb e=>by rw [hb] at e;cases e)
 ·intro i e hx hI;have hi:=(zQQ.1 hx).1;rw [if_pos (by omega)];refine bM (P:=λo=>match o with|.inl _=>rE l e|.inr b=>b=.inr (.inr false)) ?_ ?_ ?_
  ·rw [aJ hx];refine aE (qEV l e) ?_;rintro⟨a,b⟩ ⟨_,_,hin⟩;dsimp only at hin ⊢
   cases b with
   | false=>rw [if_pos (by rfl)];exact⟨_,rfl,rfl⟩
   | true=>
    have hin:=hin rfl;rw [if_neg (by simp)];refine bM (P:=λo=>match o with|.inl _=>True|.inr b=>b=.inr (.inr (.inr false))) ?_ ?_ ?_
    ·split
     ·rename_i hz;have hy:=zQR (l:=w) (show i - 1 < w.length by omega);rw [aA (by unfold I64;omega),show (i:Int) - 1=((i - 1:Nat):Int) by omega,aJ hy];refine aE (zCM hk (h _ (List.getElem_mem _))) ?_;rintro⟨f,j⟩ _;dsimp only;refine aE (P:=λ_=>True) ?_ λr _=>?_
      ·split
       ·exact tot_some.2 trivial
       rw [aJ hx];split
       ·rw [aJ hx];exact tot_some.2 trivial
       exact tot_some.2 trivial
      split
      ·exact⟨_,rfl,rfl⟩
      exact⟨_,rfl,trivial⟩
     exact⟨_,rfl,trivial⟩
    ·intro _ _;refine cA (λk s=>s=(k:Int)) i (by omega) rfl ?_ ?_
     ·rintro k s hk2 rfl;have hy:=zQR (l:=w) (show k < w.length by omega);rw [if_pos (by omega),aJ hy,aJ hx];split
      ·exact⟨_,rfl,rfl⟩
      rw [aA (bF hk2 (by omega))];exact⟨_,rfl,by push_cast;rfl⟩
     rintro s rfl;rw [if_neg (by omega)];exact⟨_,rfl,hin⟩
    rintro b rfl;rfl
  ·intro a ha;rw [aA (bF hi (by omega))];refine⟨_,rfl,.inl ⟨rfl,λj s hj hs=>?_⟩⟩;rcases Nat.lt_or_ge j i with h1|h1
   ·exact hI j s h1 hs
   obtain rfl : j = i := by omega
   rw [hx] at hs;cases hs;exact ha
  rintro b rfl;exact .inr ⟨_,rfl,rfl⟩
 ·intro hI;rw [if_neg (by omega)];exact⟨_,rfl,_,rfl,hI⟩
 obtain⟨j,hj⟩:=List.mem_iff_getElem?.1 hs;exact h j s (zQQ.1 hj).1 hj
theorem qRR {l:Ag} (hk:LayK l) {s:Am} (h:rE l s):Tot (kI l s) λr=>500<=r/\r<=1000000:=by
 unfold kI;exact cX h.1 h.2 λe he _=>tot_some.2 ⟨(hk.right e he).2.2.1,(hk.right e he).2.2.2.1⟩
theorem qUY {l:Ag} (hk:LayK l) {b:Bc} (h:∀ s∈b.steps,rE l s) (hl:b.steps.length<=64) (h0:1<=b.head/\b.head<=1000000):Tot (jT l b) λr=>0<=r/\r<=1000000000:=by
 unfold jT;refine aE (P:=λr=>0<=r/\r<=1000000000) (cA (λi s=>s.2=(i:Int)/\0<=s.1/\s.1<=1000000+(i:Int) * 1000000/\i<=b.steps.length) b.steps.length (by omega) ⟨rfl,by show 0<=b.head;omega,by show b.head<=_;omega,Nat.zero_le _⟩ ?_ ?_) λr h=>tot_some.2 h
 ·rintro i ⟨n,y⟩ hi ⟨q1,q2,q3,q4⟩;dsimp only at q1 q2 q3;subst q1;dsimp only;rw [aA (bF hi (by omega))];split
  ·have hx:=zQR hi;rw [aJ hx];refine aE (qRR hk (h _ (List.getElem_mem hi))) λr hr=>?_;rw [aA (by unfold I64;omega),aA (bF hi (by omega))];exact tot_some.2 ⟨by push_cast;rfl,by show 0<=n+r;omega,by show n+r<=_;push_cast;omega,by omega⟩
  exact⟨_,rfl,by show 0<=n;omega,by show n<=_;omega⟩
 rintro⟨n,y⟩ ⟨q1,q2,q3,q4⟩;dsimp only at q1 q2 q3;subst q1;dsimp only;rw [aA (by unfold I64;omega),if_neg (by omega)];exact⟨_,rfl,by show 0<=n;omega,by show n<=_;omega⟩
theorem body_t {l:Ag} (hk:LayK l) {b:Bc} (w:b.Wf):Tot (gN l b) λr=>r=0->∀ s∈b.steps,rE l s:=by
 have hok:∀ s∈b.steps,Am.ok s:=λs hs=>let q:=w.steps.2 s hs;⟨q.el,q.inV,q.out⟩;unfold gN;refine aE (P:=λx=>x=false->(b.steps≠[]/\b.steps.length<=64/\∀ s∈b.steps,rE l s)/\1<=b.head/\b.head<=1000000/\1<=b.length) ?_ λx hx=>?_
 ·refine aE (wayW_t hk hok) fun r hr => ?_
  cases r with
  | false=>rw [if_pos (by rfl)];exact tot_some.2 λh=>by cases h
  | true=>
   obtain⟨h1,h2,h3⟩:=hr rfl;have hp:=List.length_pos_iff.2 h1;rw [if_neg (by simp)];split
   ·exact tot_some.2 λh=>by cases h
   split
   ·exact tot_some.2 λh=>by cases h
   split
   ·exact tot_some.2 λh=>by cases h
   have hy := zQR (l := b.steps) (show b.steps.length - 1 < b.steps.length by omega);rw [aA (by unfold I64;omega),show ((b.steps.length:Int) - 1)=((b.steps.length - 1:Nat):Int) by omega,aJ hy];refine aE (qRR hk (h3 _ (List.getElem_mem _))) λr hr=>tot_some.2 λhd=>⟨⟨h1,h2,h3⟩,by omega,?_,by omega⟩;have:=of_decide_eq_false hd;omega
 cases x with
 | true=>rw [if_pos rfl];exact tot_some.2 λh=>by cases h
 | false=>
  obtain⟨⟨h1,h2,h3⟩,h4,h5,h6⟩:=hx rfl;have hp:=List.length_pos_iff.2 h1;rw [if_neg Bool.false_ne_true];refine aE (qUY hk h3 h2 ⟨h4,h5⟩) λn hn=>?_;refine aE (P:=λ_=>True) ?_ λy _=>?_
  ·split
   ·exact tot_some.2 trivial
   split
   ·have hy:=zQR hp;rw [show (0:Int)=((0:Nat):Int) from rfl,aJ hy];refine aE (qRR hk (h3 _ (List.getElem_mem hp))) λr hr=>?_;rw [aA (by unfold I64;omega)];exact tot_some.2 trivial
   exact tot_some.2 trivial
  split
  ·exact tot_some.2 λh=>by cases h
  exact tot_some.2 λ_=>h3
theorem zBQ {w:An} (hk:LayK w.layout) (hl:w.units.length<=1000) (hw:∀ u∈w.units,u.Wf):Tot (mX w) λr=>r=true->w.units≠[]/\∀ u∈w.units,∀ s∈u.body.steps,rE w.layout s:=by
 have hone:∀ u∈w.units,Tot (aB (gM u.cab.train) λr10=>if r10=(0:Int) then aB (gN w.layout u.body) λr12=>if r12=(0:Int) then some (!(decide (u.body.length=u.cab.train.length))) else some true else some true) λx=>x=false->∀ s∈u.body.steps,rE w.layout s:=λu hu=>by
  refine aE (zBR _ (by have:=qC (hw u hu).cab.train.name;omega)) λr _=>?_;split
  ·refine aE (body_t hk (hw u hu).body) fun r hr => ?_;split
   ·rename_i e;exact tot_some.2 λ_=>hr e
   exact tot_some.2 λh=>by cases h
  exact tot_some.2 λh=>by cases h
 unfold mX;refine bM (P:=λo=>match o with|.inl _=>∀ j u,j < w.units.length->w.units[j]?=some u->∀ s∈u.body.steps,rE w.layout s|.inr b=>b=false) (bZ w.units (by omega) (λi=>∀ j u,j < i->w.units[j]?=some u->∀ s∈u.body.steps,rE w.layout s) (λj u hj=>absurd hj (zQV j)) ?_ ?_) (λ_ h=>tot_some.2 λe=>⟨λe2=>?_,λu hu=>?_⟩) (λb hb e=>by rw [hb] at e;cases e)
 ·intro i u hx hI;have hi:=(zQQ.1 hx).1;have hm:=zQM hx;rw [if_pos (by omega),aJ hx];refine aE (P:=λx=>x=false->∀ s∈u.body.steps,rE w.layout s) ?_ λx hx2=>?_
  ·split
   ·have hy := zQR (l := w.units) (show i - 1 < w.units.length by omega);rw [aA (by unfold I64;omega),show (i:Int) - 1=((i - 1:Nat):Int) by omega,aJ hy];split
    ·exact tot_some.2 λh=>by cases h
    exact hone u hm
   exact hone u hm
  cases x with
  | true=>rw [if_pos rfl];exact⟨_,rfl,.inr ⟨_,rfl,rfl⟩⟩
  | false=>
   rw [if_neg Bool.false_ne_true,aA (bF hi (by omega))];refine⟨_,rfl,.inl ⟨rfl,λj v hj hv=>?_⟩⟩;rcases Nat.lt_or_ge j i with h1|h1
   ·exact hI j v h1 hv
   obtain rfl : j = i := by omega
   rw [hx] at hv;cases hv;exact hx2 rfl
 ·intro hI;rw [if_neg (by omega)];exact⟨_,rfl,_,rfl,hI⟩
 ·rw [e2] at e;simp at e
 obtain⟨j,hj⟩:=List.mem_iff_getElem?.1 hu;exact h j u (zQQ.1 hj).1 hj
theorem zAQ (w:An) (hl:w.units.length<=1000):Tot (lI w) λ_=>True:=by
 unfold lI;split
 ·exact tot_some.2 trivial
 rename_i hc;simp only [Bool.or_eq_true,Bool.not_eq_true',decide_eq_false_iff_not,not_or,Decidable.not_not] at hc;refine bM (P:=λ_=>True) (bZ w.units (by omega) (λ_=>True) trivial ?_ ?_) (λ_ _=>tot_some.2 trivial) (λ_ _=>trivial)
 ·intro i e he _;have hi:=(zQQ.1 he).1;have hy:=zQR (l:=w.center.tracks) (show i < w.center.tracks.length by omega);have hz:=zQR (l:=w.center.sessions) (show i < w.center.sessions.length by omega);rw [if_pos (by omega),aJ he];refine aE (P:=λ_=>True) ?_ λx _=>?_
  ·rw [aJ hy];split
   ·rw [aJ hz];exact tot_some.2 trivial
   exact tot_some.2 trivial
  split
  ·exact⟨_,rfl,.inr ⟨_,rfl,trivial⟩⟩
  rw [aA (bF hi (by omega))];exact⟨_,rfl,.inl ⟨rfl,trivial⟩⟩
 intro _;rw [if_neg (by omega)];exact⟨_,rfl,_,rfl,trivial⟩
structure WFew (w:An):Prop where
 ok:WOk w
 trips:w.trips.length<=6
 stops:∀ x∈w.trips,x.stops.length<=6
 joints:w.layout.joints.length<=80
def qBV (t:Al) (s:Stop):Prop:=0<=s.route/\s.route < (t.Ab.length:Int)
theorem qVH (t:Al) (x:A6) (h:x.stops.length<=1000):Tot (mZ t x) λr=>r=true->∀ s∈x.stops,qBV t s:=by
 unfold mZ;split
 ·exact tot_some.2 λh=>by cases h
 refine bM (P := fun o => match o with | .inl _ => ∀ j s, j < x.stops.length -> x.stops[j]? = some s -> qBV t s | .inr b => b = false) (bZ x.stops (by omega) (fun i => ∀ j s, j < i -> x.stops[j]? = some s -> qBV t s) (fun j s hj => absurd hj (zQV j)) ?_ ?_) (fun _ h => tot_some.2 fun e s hs => ?_) (fun b hb e => by rw [hb] at e; cases e)
 ·intro i e he hI;have hi:=(zQQ.1 he).1;rw [if_pos (by omega),aJ he];split
  ·exact⟨_,rfl,.inr ⟨_,rfl,rfl⟩⟩
  rename_i hc;simp only [Bool.or_eq_true,decide_eq_true_eq,not_or] at hc;rw [aA (bF hi (by omega))];refine⟨_,rfl,.inl ⟨rfl,λj v hj hv=>?_⟩⟩;rcases Nat.lt_or_ge j i with h1|h1
  ·exact hI j v h1 hv
  obtain rfl : j = i := by omega
  rw [he] at hv;cases hv;exact⟨by omega,by omega⟩
 ·intro hI;rw [if_neg (by omega)];exact⟨_,rfl,_,rfl,hI⟩
 obtain⟨j,hj⟩:=List.mem_iff_getElem?.1 hs;exact h j s (zQQ.1 hj).1 hj
theorem qXT (t:Al) (l:List A6) (n:Int) (h:l.length<=1000):Tot (pJ t l n) λ_=>True:=by
 unfold pJ;refine bM (P:=λ_=>True) (bZ l (by omega) (λ_=>True) trivial ?_ ?_) (λ_ _=>tot_some.2 trivial) (λ_ _=>trivial)
 ·intro i e he _;have hi:=(zQQ.1 he).1;rw [if_pos (by omega),aJ he];split
  ·exact⟨_,rfl,.inr ⟨_,rfl,trivial⟩⟩
  rw [aA (bF hi (by omega))];exact⟨_,rfl,.inl ⟨rfl,trivial⟩⟩
 intro _;rw [if_neg (by omega)];exact⟨_,rfl,_,rfl,trivial⟩
theorem qWT (t:Al) (l:List A6) (h:l.length<=1000) (hs:∀ x∈l,x.stops.length<=1000):Tot (iN t l) λ_=>True:=by
 unfold iN;split
 ·exact tot_some.2 trivial
 refine bM (P := fun _ => True) (bZ l (by omega) (fun _ => True) trivial ?_ ?_) (fun _ _ => ?_) (fun _ _ => trivial)
 ·intro i e he _;have hi:=(zQQ.1 he).1;rw [if_pos (by omega)];refine aE (P:=λ_=>True) ?_ λx _=>?_
  ·rw [aJ he];split
   ·exact tot_some.2 trivial
   rw [aJ he];exact tot_some.2 trivial
  split
  ·exact⟨_,rfl,.inr ⟨_,rfl,trivial⟩⟩
  rw [aA (bF hi (by omega))];exact⟨_,rfl,.inl ⟨rfl,trivial⟩⟩
 ·intro _;rw [if_neg (by omega)];exact⟨_,rfl,_,rfl,trivial⟩
 refine bM (P := fun o => match o with | .inl _ => ∀ j x, j < l.length -> l[j]? = some x -> ∀ s ∈ x.stops, qBV t s | .inr _ => True) (bZ l (by omega) (fun i => ∀ j x, j < i -> l[j]? = some x -> ∀ s ∈ x.stops, qBV t s) (fun j s hj => absurd hj (zQV j)) ?_ ?_) (fun _ hin => ?_) (fun _ _ => trivial)
 ·intro i e he hI;have hi:=(zQQ.1 he).1;rw [if_pos (by omega),aJ he];refine aE (qVH t e (hs _ (zQM he))) λr hr=>?_
  cases r with
  | false=>rw [if_pos (by rfl)];exact⟨_,rfl,.inr ⟨_,rfl,trivial⟩⟩
  | true=>
   rw [if_neg (by simp),aA (bF hi (by omega))];refine⟨_,rfl,.inl ⟨rfl,λj v hj hv=>?_⟩⟩;rcases Nat.lt_or_ge j i with h1|h1
   ·exact hI j v h1 hv
   obtain rfl : j = i := by omega
   rw [he] at hv;cases hv;exact hr rfl
 ·intro hI;rw [if_neg (by omega)];exact⟨_,rfl,_,rfl,hI⟩
 have hin:∀ x∈l,∀ s∈x.stops,qBV t s:=λx hx=>by
  obtain⟨j,hj⟩:=List.mem_iff_getElem?.1 hx;exact hin j x (zQQ.1 hj).1 hj
 refine bM (P:=λ_=>True) (bZ l (by omega) (λ_=>True) trivial ?_ ?_) (λ_ _=>?_) (λ_ _=>trivial)
 ·intro i e he _;have hi:=(zQQ.1 he).1;rw [if_pos (by omega),aJ he];refine aE (qXT t l _ h) λr _=>?_;split
  ·rw [aA (bF hi (by omega))];exact⟨_,rfl,.inl ⟨rfl,trivial⟩⟩
  exact⟨_,rfl,.inr ⟨_,rfl,trivial⟩⟩
 ·intro _;rw [if_neg (by omega)];exact⟨_,rfl,_,rfl,trivial⟩
 refine bM (P := fun _ => True) (bZ l (by omega) (fun _ => True) trivial ?_ ?_) (fun _ _ => ?_) (fun _ _ => trivial)
 ·intro i e he _;have hi:=(zQQ.1 he).1;have hm:=zQM he;have hst:=hs _ hm;rw [if_pos (by omega),aJ he];refine bM (P:=λo=>match o with|.inl _=>True|.inr b=>∃ r,b=.inr r) (cA (λk s=>s=(k:Int)+1) (e.stops.length - 1) (by omega) rfl ?_ ?_) ?_ ?_
  ·rintro k s hk rfl;have hx:=zQR (l:=e.stops) (show k < e.stops.length by omega);have hy:=zQR (l:=e.stops) (show k+1 < e.stops.length by omega);rw [if_pos (by omega),aA (by unfold I64;omega),show (k:Int)+1 - 1=(k:Int) by omega,aJ hx];refine cX (hin _ hm _ (List.getElem_mem _)).1 (hin _ hm _ (List.getElem_mem _)).2 λr1 _ _=>?_;rw [show (k:Int)+1=((k+1:Nat):Int) by push_cast;rfl,aJ hy];refine cX (hin _ hm _ (List.getElem_mem _)).1 (hin _ hm _ (List.getElem_mem _)).2 λr2 _ _=>?_;refine aE (P:=λ_=>True) (tot_some.2 trivial) λb _=>?_;split
   ·exact⟨_,rfl,_,rfl⟩
   rw [aA (by unfold I64;omega)];exact⟨_,rfl,rfl⟩
  ·rintro s rfl;rw [if_neg (by omega)];exact⟨_,rfl,trivial⟩
  ·intro _ _;rw [aA (bF hi (by omega))];exact⟨_,rfl,.inl ⟨rfl,trivial⟩⟩
  rintro b ⟨r,rfl⟩;exact .inr ⟨_,rfl,trivial⟩
 ·intro _;rw [if_neg (by omega)];exact⟨_,rfl,_,rfl,trivial⟩
 refine bM (P := fun _ => True) (bZ l (by omega) (fun _ => True) trivial ?_ ?_) (fun _ _ => tot_some.2 trivial) (fun _ _ => trivial)
 ·intro i e he _;have hi:=(zQQ.1 he).1;have hm:=zQM he;have hst:=hs _ hm;rw [if_pos (by omega),aJ he];refine bM (P:=λo=>match o with|.inl _=>True|.inr b=>∃ r,b=.inr r) (cA (λk s=>s=(k:Int)+1) (e.stops.length - 1) (by omega) rfl ?_ ?_) ?_ ?_
  ·rintro k s hk rfl;have hx:=zQR (l:=e.stops) (show k < e.stops.length by omega);have hy:=zQR (l:=e.stops) (show k+1 < e.stops.length by omega);rw [if_pos (by omega),show (k:Int)+1=((k+1:Nat):Int) by push_cast;rfl,aJ hy,aA (by unfold I64;omega),show ((k+1:Nat):Int) - 1=(k:Int) by push_cast;omega,aJ hx];split
   ·exact⟨_,rfl,_,rfl⟩
   rw [aA (by unfold I64;omega)];exact⟨_,rfl,rfl⟩
  ·rintro s rfl;rw [if_neg (by omega)];exact⟨_,rfl,trivial⟩
  ·intro _ _;rw [aA (bF hi (by omega))];exact⟨_,rfl,.inl ⟨rfl,trivial⟩⟩
  rintro b ⟨r,rfl⟩;exact .inr ⟨_,rfl,trivial⟩
 intro _;rw [if_neg (by omega)];exact⟨_,rfl,_,rfl,trivial⟩
theorem zBV (l:List A6) (s:List (List Int)) (h:l.length<=1000):Tot (nA l s) λr=>r=true->l.length=s.length/\∀ (j:Nat) (x:A6) (y:List Int),l[j]?=some x->s[j]?=some y->x.stops.length=y.length:=by
 unfold nA;split
 ·rename_i hl;refine bM (P:=λo=>match o with|.inl _=>∀ (j:Nat) (x:A6) (y:List Int),j < l.length->l[j]?=some x->s[j]?=some y->x.stops.length=y.length|.inr b=>b=false) (bZ l (by omega) (λi=>∀ (j:Nat) (x:A6) (y:List Int),j < i->l[j]?=some x->s[j]?=some y->x.stops.length=y.length) (λj x y hj=>absurd hj (zQV j)) ?_ ?_) (λ_ hq=>tot_some.2 λ_=>⟨by omega,λj x y hx hy=>hq j x y (zQQ.1 hx).1 hx hy⟩) (λb hb e=>by rw [hb] at e;cases e)
  ·intro i e he hI;have hi:=(zQQ.1 he).1;have hy:=zQR (l:=s) (show i < s.length by omega);rw [if_pos (by omega),aJ he,aJ hy];split
   ·rename_i hq;rw [aA (bF hi (by omega))];refine⟨_,rfl,.inl ⟨rfl,λj v u hj hv hu=>?_⟩⟩;rcases Nat.lt_or_ge j i with h1|h1
    ·exact hI j v u h1 hv hu
    obtain rfl : j = i := by omega
    rw [he] at hv;rw [hy] at hu;cases hv;cases hu;omega
   exact⟨_,rfl,.inr ⟨_,rfl,rfl⟩⟩
  intro hI;rw [if_neg (by omega)];exact⟨_,rfl,_,rfl,hI⟩
 exact tot_some.2 λh=>by cases h
theorem zDE (l:List A6) (s:List (List Int)) (h:l.length<=6) (hs:∀ x∈l,x.stops.length<=6):Tot (kO l s) λ_=>True:=by
 unfold kO;refine aE (zBV l s (by omega)) λr hr=>?_
 cases r with
 | false=>rw [if_pos (by rfl)];exact tot_some.2 trivial
 | true=>
  obtain⟨hl,hq⟩:=hr rfl;rw [if_neg (by simp)];refine bM (P:=λ_=>True) (cA (λi st=>st.2.2=(i:Int)/\-(i:Int) * 6000000000000<=st.1/\st.1<=(i:Int) * 6000000000000) l.length (by omega) ⟨rfl,by simp,by simp⟩ ?_ ?_) ?_ (λ_ _=>trivial)
  ·rintro i ⟨sm,ea,y⟩ hi ⟨q1,q2,q3⟩;dsimp only at q1 q2 q3;subst q1;dsimp only;have hx:=zQR hi;have hz:=zQR (l:=s) (show i < s.length by omega);have hst:=hs _ (List.getElem_mem hi);have hsl:=hq i _ _ hx hz;rw [if_pos (by omega)];refine bM (P:=λo=>match o with|.inl b=>-((i:Int)+1) * 6000000000000<=b.1/\b.1<=((i:Int)+1) * 6000000000000|.inr b=>∃ r,b=.inr r) (cA (λk st=>st.2.2=(k:Int)/\sm - (k:Int) * 1000000000000<=st.1/\st.1<=sm+(k:Int) * 1000000000000) l[i].stops.length (by omega) ⟨rfl,by simp,by simp⟩ ?_ ?_) ?_ ?_
   ·rintro k ⟨s2,e2,y2⟩ hk ⟨p1,p2,p3⟩;dsimp only at p1 p2 p3;subst p1;dsimp only;have ha:=zQR hk;have hb:=zQR (l:=s[i]'(by omega)) (show k < (s[i]'(by omega)).length by omega);rw [aJ hx,if_pos (by omega),aJ hx,aJ ha,aJ hz,aJ hb];generalize l[i].stops[k]=x;generalize (s[i]'(by omega))[k]'(by omega)=at_;split
    ·exact⟨_,rfl,_,rfl⟩
    rename_i hc;simp only [Bool.or_eq_true,decide_eq_true_eq,not_or] at hc;obtain⟨c1,c2,c3,c4,c5,c6⟩:=hc
    have m1:x.weight * (at_ - x.due)<=100 * 2147483648:=by
     by_cases hd:0<=at_ - x.due
     ·exact Int.mul_le_mul (by omega) (by omega) hd (by omega)
     have : x.weight * (at_ - x.due) <= 0 := Int.mul_nonpos_of_nonneg_of_nonpos (by omega) (by omega);omega
    have m2:-(100 * 2147483648)<=x.weight * (at_ - x.due):=by
     have:x.weight * (x.due - at_)<=100 * 2147483648:=by
      by_cases hd:0<=x.due - at_
      ·exact Int.mul_le_mul (by omega) (by omega) hd (by omega)
      have : x.weight * (x.due - at_) <= 0 := Int.mul_nonpos_of_nonneg_of_nonpos (by omega) (by omega);omega
     have e:x.weight * (at_ - x.due)=-(x.weight * (x.due - at_)):=by rw [<- Int.mul_neg];congr 1;omega
     omega
    generalize x.weight * (at_ - x.due)=m at m1 m2;rw [aA (by unfold I64;omega),aA (by unfold I64;omega),aA (by unfold I64;omega),aA (bF hk (by omega))];exact tot_some.2 ⟨by push_cast;rfl,by show _<=s2+m;push_cast;omega,by show s2+m<=_;push_cast;omega⟩
   ·rintro⟨s2,e2,y2⟩ ⟨p1,p2,p3⟩;dsimp only at p1 p2 p3;subst p1;dsimp only;rw [aJ hx,if_neg (by omega)];exact⟨_,rfl,by show _<=s2;omega,by show s2<=_;omega⟩
   ·rintro⟨s2,e2⟩ ⟨p1,p2⟩;dsimp only at p1 p2 ⊢;rw [aA (bF hi (by omega))];exact tot_some.2 ⟨by push_cast;rfl,by show _<=s2;push_cast;omega,by show s2<=_;push_cast;omega⟩
   rintro b ⟨r,rfl⟩;trivial
  ·rintro⟨sm,ea,y⟩ ⟨q1,q2,q3⟩;dsimp only at q1 q2 q3;subst q1;dsimp only;rw [if_neg (by omega)];exact⟨_,rfl,trivial⟩
  rintro⟨a,b⟩ _;dsimp only;split<;>exact tot_some.2 trivial
theorem qVN (w:An) (h:w.trips.length<=6) (hs:∀ x∈w.trips,x.stops.length<=6) (hp:w.progress.length<=reachBytes):Tot (jQ w) λ_=>True:=by
 have hp:=qC hp;unfold jQ;refine aE (zDE _ _ h hs) ?_;rintro⟨a,b⟩ _;dsimp only;refine bM (P:=λ_=>True) (bZ w.progress (by omega) (λ_=>True) trivial ?_ ?_) (λ_ _=>tot_some.2 trivial) (λ_ _=>trivial)
 ·intro i e he _;have hi:=(zQQ.1 he).1;rw [if_pos (by omega)];refine aE (P:=λ_=>True) ?_ λx _=>?_
  ·rw [aJ he];split
   ·exact tot_some.2 trivial
   rw [aJ he];exact tot_some.2 trivial
  split
  ·exact⟨_,rfl,.inr ⟨_,rfl,trivial⟩⟩
  rw [aA (bF hi (by omega))];exact⟨_,rfl,.inl ⟨rfl,trivial⟩⟩
 intro _;rw [if_neg (by omega)];exact⟨_,rfl,_,rfl,trivial⟩
theorem zCR {l:Ag} (w:l.Wf) (hj:l.joints.length<=80):LayW l:=by
 have L:∀ {n:Nat},n<=reachBytes->n<=1000000000000000:=λh=>by have:=qC h;omega
 exact⟨L w.name,λs hs=>L (w.Ac.2 s hs),w.Ae.2,⟨by omega,λj hj=>let q:=w.joints.2 j hj;⟨⟨q.a.el,q.a.side⟩,⟨q.b.el,q.b.side⟩⟩⟩,w.Ah.2,w.balises.2⟩
theorem qWS {w:An} (wf:w.Wf) (h:WFew w):Tot (mY w) λr=>r=0->WVal w:=by
 have hw:=zCR wf.layout h.joints;have ho:=h.ok;unfold mY;refine aE (qJH _ hw) λr1 h1=>?_;split
 ·refine aE (zEU hw) ?_;rintro⟨t,e⟩ hB;dsimp only at hB ⊢;refine aE (P:=λx=>x=false->LayC w.layout) ?_ λx hx=>?_
  ·split
   ·rename_i he;obtain⟨hc,_,_,hr⟩:=hB he;exact aE (zBW hr wf.Ar) λr _=>tot_some.2 λ_=>hc
   exact tot_some.2 λh=>by cases h
  cases x with
  | true=>rw [if_pos rfl];exact tot_some.2 λh=>by cases h
  | false=>
   have hc:=hx rfl;rw [if_neg Bool.false_ne_true];refine aE (P:=λx=>x=false->lX w.Ar w.inter=true) ?_ λx hs=>?_
   ·rw [qDY _ _ ho.Ar ho.setts,aF]
    cases lX w.Ar w.inter with
    | false=>rw [if_pos (by rfl)];exact tot_some.2 λh=>by cases h
    | true=>
     rw [if_neg (by simp)];exact aE (qRQ w (by have:=ho.machines;omega)) λr _=>tot_some.2 λ_=>rfl
   cases x with
   | true=>rw [if_pos rfl];exact tot_some.2 λh=>by cases h
   | false=>
    have hs:=hs rfl;rw [if_neg Bool.false_ne_true];refine aE (P:=λx=>x=false->w.units≠[]/\∀ u∈w.units,∀ s∈u.body.steps,rE w.layout s) ?_ λx hu=>?_
    ·refine aE (zBQ hc.k (by have := ho.units; omega) wf.units.2) fun r hr => ?_
     cases r with
     | false=>rw [if_pos (by rfl)];exact tot_some.2 λh=>by cases h
     | true=>
      rw [if_neg (by simp)];exact aE (zAQ w (by have:=ho.units;omega)) λr _=>tot_some.2 λ_=>hr rfl
    cases x with
    | true=>rw [if_pos rfl];exact tot_some.2 λh=>by cases h
    | false=>
     obtain⟨hu1,hu2⟩:=hu rfl;have hf:sM w.Ar w.inter=true:=by unfold lX at hs;simp only [zQA] at hs;first|exact hs.1|exact hs.1.1
     have hv:WVal w:=⟨λe he=>(hc.k.right e he).2.2.2.2.1,hc.k.s.Ae.2,hu2,hs,(fitsB_iff.1 hf).2.1,hu1⟩;rw [if_neg Bool.false_ne_true];refine aE (qWT _ _ (by have:=h.trips;omega) λx hx=>by have:=h.stops x hx;omega) λr _=>?_;split
     ·refine aE (qVN w h.trips h.stops wf.progress.1) fun r _ => ?_;split
      ·exact tot_some.2 λ_=>hv
      exact tot_some.2 λ_=>hv
     exact tot_some.2 λ_=>hv
 rename_i e;exact tot_some.2 λh=>absurd h e
end Go.Proofs.YtofndjhpbonpbaaGreatDoor
set_option linter.unusedVariables false
set_option linter.unusedSimpArgs false
set_option maxHeartbeats 4000000
set_option maxRecDepth 100000
namespace Go.Proofs.YtofndjhpbonpbaaGreatDoor
open Go Go.TL
theorem zEM:nP=some true:=by decide+kernel
theorem wf_sok {t:Al} (h:t.Wf):SOk t:=λr hr s hs=>by
 have hw:=h.Ab.2 r hr;simp only [fX,zQN] at hs;rcases hs with (hs|hs)|hs
 ·have:=hw.Ad.2 s hs;exact⟨this.el,this.pos⟩
 ·have:=hw.Aj.2 s hs;exact⟨this.el,this.pos⟩
 have:=hw.At.2 s hs;exact⟨this.el,this.pos⟩
theorem all_of {α:Type} {l:List α} {Q:α->Prop} (h:∀ (j:Nat) (x:α),j < l.length->l[j]?=some x->Q x):∀ x∈l,Q x:=λx hx=>by
 obtain⟨j,hj⟩:=List.mem_iff_getElem?.1 hx;exact h j x (zQQ.1 hj).1 hj
theorem yG {α:Type} {ρ:Type} {f:Int->Option (Int ⊕ (_root_.Unit ⊕ ρ))} (l:List α) (hl:l.length<=reachBytes) (Q:α->Prop) (v:ρ) (hs:∀ (i:Nat) (e:α),l[i]?=some e->Tot (f (i:Int)) λo=>(o=.inl ((i:Int)+1)/\Q e)\/o=.inr (.inr v)) (he:f (l.length:Int)=some (.inr (.inl ()))):Tot (aZ f 0) λo=>match o with|.inl _=>∀ x∈l,Q x|.inr b=>b=v:=by
 have hl:=qC hl;refine gA (bZ (Q:=λo=>match o with|.inl _=>∀ (j:Nat) (x:α),j < l.length->l[j]?=some x->Q x|.inr b=>b=v) l (by omega) (λi=>∀ (j:Nat) (x:α),j < i->l[j]?=some x->Q x) (λj x hj=>absurd hj (zQV j)) ?_ ?_) ?_
 ·intro i e hx hI;refine gA (hs i e hx) ?_;rintro o (⟨rfl,hq⟩|rfl)
  ·refine .inl ⟨rfl, fun j x hj hv => ?_⟩;rcases Nat.lt_or_ge j i with h1|h1
   ·exact hI j x h1 hv
   obtain rfl : j = i := by omega
   rw [hx] at hv;cases hv;exact hq
  exact .inr ⟨_,rfl,rfl⟩
 ·intro hI;rw [he];exact⟨_,rfl,_,rfl,hI⟩
 intro o ho
 cases o with
 | inl _=>exact all_of ho
 | inr b=>exact ho
theorem zBU {t:Al} {s:Az} (wt:t.Wf):Tot (nQ t s) λb=>b=true->TOk t/\t.Ab.length<=50/\t.Ad.length<=40/\s.Ab.length<=50:=by
 have hr:=qC wt.Ab.1;unfold nQ;refine bM (yG t.Ab wt.Ab.1 Short false ?_ ?_) (λ_ hq=>tot_some.2 λhb=>?_) (λb hb e=>by rw [hb] at e;cases e)
 ·intro i e he;have hi:=(zQQ.1 he).1;rw [if_pos (by omega),aJ he];split
  ·exact⟨_,rfl,.inr rfl⟩
  rename_i hc;simp only [Bool.or_eq_true,decide_eq_true_eq,not_or] at hc;rw [aA (bF hi (by omega))];exact⟨_,rfl,.inl ⟨rfl,⟨by omega,by omega,by omega,by omega⟩⟩⟩
 ·rw [if_neg (by omega)];rfl
 simp only [zQA,decide_eq_true_eq] at hb;exact⟨⟨by omega,by omega,hq⟩,by omega,by omega,by omega⟩
theorem qSK {c:Bg} (wc:c.Wf):Tot (sI c) λb=>b=true->c.tracks.length<=10/\∀ k∈c.tracks,k.Ab.length<=60:=by
 have hr:=qC wc.tracks.1;unfold sI;refine bM (yG c.tracks wc.tracks.1 (λk=>k.Ab.length<=60) false ?_ ?_) (λ_ hq=>tot_some.2 λhb=>?_) (λb hb e=>by rw [hb] at e;cases e)
 ·intro i e he;have hi:=(zQQ.1 he).1;rw [if_pos (by omega),aJ he];split
  ·exact⟨_,rfl,.inr rfl⟩
  rename_i hc;simp only [Bool.or_eq_true,decide_eq_true_eq,not_or] at hc;rw [aA (bF hi (by omega))];exact⟨_,rfl,.inl ⟨rfl,by omega⟩⟩
 ·rw [if_neg (by omega)];rfl
 simp only [zQA,decide_eq_true_eq] at hb;exact⟨by omega,hq⟩
theorem few58 {w:An} (wf:w.Wf):Tot (sH w) λb=>b=true->WFew w:=by
 unfold sH;split
 ·exact tot_some.2 λh=>by cases h
 rename_i hc;simp only [Bool.or_eq_true,decide_eq_true_eq,not_or] at hc;refine bM (yG w.units wf.units.1 (λu=>u.body.steps.length<=100) false ?_ ?_) (λ_ hu=>?_) (λb hb e=>by rw [hb] at e;cases e)
 ·intro i e he;have hi:=(zQQ.1 he).1;rw [if_pos (by omega)];refine aE (P:=λx=>x=false->e.body.steps.length<=100) ?_ λx hx=>?_
  ·rw [aJ he];split
   ·exact tot_some.2 λh=>by cases h
   rw [aJ he];split
   ·exact tot_some.2 λh=>by cases h
   rw [aJ he];exact tot_some.2 λ_=>by omega
  cases x with
  | true=>rw [if_pos rfl];exact⟨_,rfl,.inr rfl⟩
  | false=>rw [if_neg Bool.false_ne_true,aA (bF hi (by omega))];exact⟨_,rfl,.inl ⟨rfl,hx rfl⟩⟩
 ·rw [if_neg (by omega)];rfl
 refine bM (yG w.trips wf.trips.1 (fun x => x.stops.length <= 6) false ?_ ?_) (fun _ hs => ?_) (fun b hb e => by rw [hb] at e; cases e)
 ·intro i e he;have hi:=(zQQ.1 he).1;rw [if_pos (by omega),aJ he];split
  ·exact⟨_,rfl,.inr rfl⟩
  rw [aA (bF hi (by omega))];exact⟨_,rfl,.inl ⟨rfl,by omega⟩⟩
 ·rw [if_neg (by omega)];rfl
 refine bM (yG w.air wf.air.1 (fun _ => True) false ?_ ?_) (fun _ _ => ?_) (fun b hb e => by rw [hb] at e; cases e)
 ·intro i e he;have hi:=(zQQ.1 he).1;rw [if_pos (by omega),aJ he];split
  ·exact⟨_,rfl,.inr rfl⟩
  rw [aA (bF hi (by omega))];exact⟨_,rfl,.inl ⟨rfl,trivial⟩⟩
 ·rw [if_neg (by omega)];rfl
 refine aE (P := fun b => b = true -> WFew w) ?_ fun b hb => tot_some.2 hb;refine aE (P:=λb=>b=true->w.layout.Ae.length<=40/\w.layout.joints.length<=80) (tot_some.2 λhb=>?_) λb hL=>?_
 ·simp only [zQA,decide_eq_true_eq] at hb;exact⟨by omega,by omega⟩
 cases b with
 | false=>rw [if_neg Bool.false_ne_true];exact tot_some.2 λh=>by cases h
 | true=>
  obtain⟨l1,l2⟩:=hL rfl;rw [if_pos rfl];refine aE (zBU wf.Ar) λb hS=>?_
  cases b with
  | false=>rw [if_neg Bool.false_ne_true];exact tot_some.2 λh=>by cases h
  | true=>
   obtain⟨t1,t2,t3,t4⟩:=hS rfl;rw [if_pos rfl];refine aE (qSK wf.center) λb hC=>tot_some.2 λhb=>?_;obtain⟨c1,c2⟩:=hC hb;exact⟨⟨by omega,hu,by omega,c1,c2,t2,t4,t3,by omega,l1,t1,wf_sok wf.Ar⟩,by omega,hs,l2⟩
theorem qVD {w:An} (h:WOk w):iK w=some (decide (((qFO w).length:Int)=0)):=by
 unfold iK;rw [qSI h,aF]
theorem qWN {w:An} (h:WOk w):eN w=some (decide (((qDE w).length:Int)=0)):=by
 unfold eN;rw [qJA h,aF]
theorem qZG {w:An} (hz:qDE w=[]) {i j:Nat} {a b:Av} (hij:i < j) (ha:w.units[i]?=some a) (hb:w.units[j]?=some b):tS w.layout a.body b.body=false:=by
 have hj:=(zQQ.1 hb).1;unfold qDE qGW at hz;have h1:=List.flatMap_eq_nil_iff.1 hz i (List.mem_range.2 (by omega));have h2:=List.flatMap_eq_nil_iff.1 h1 (j - (i+1)) (List.mem_range.2 (by omega));rw [show i+1+(j - (i+1))=j by omega,qNV ha hb] at h2
 cases hm:tS w.layout a.body b.body with
 | false=>rfl
 | true=>rw [if_pos hm] at h2;cases h2
theorem zCJ {w:An} (hz:ovS w=[]) {i:Nat} {a:Av} (ha:w.units[i]?=some a):¬ (a.cab.mode=2/\a.cab.auth.endV < a.xV):=λhq=>by
 have hi:=(zQQ.1 ha).1;unfold ovS at hz;have h1:=List.flatMap_eq_nil_iff.1 hz i (List.mem_range.2 hi);rw [qLY ha,qYZ,if_pos hq] at h1;cases h1
theorem safe53 {w:An} (h:WOk w) (v:WVal w) (hz:qFO w=[]):mI w=some true:=by
 have hn:=h.units;unfold qFO at hz;simp only [List.append_eq_nil_iff] at hz;obtain⟨⟨⟨⟨⟨hc,ho⟩,_⟩,_⟩,_⟩,_⟩:=hz
 have:Tot (mI w) λr=>r=true:=by
  unfold mI;refine bM (P:=λo=>match o with|.inl _=>True|.inr b=>b=true) (bZ w.units (by omega) (λ_=>True) trivial ?_ ?_) (λ_ _=>?_) (λb hb=>hb)
  ·intro i e he _;have hi:=(zQQ.1 he).1;rw [if_pos (by omega)];refine bM (P:=λo=>match o with|.inl _=>True|.inr b=>False) ?_ (λ_ _=>?_) (λb hb=>hb.elim)
   ·rw [aJ he, if_neg (by rw [<- Bool.decide_and]; simpa using zCJ ho he)];refine cA (λk s=>s=(k:Int)) i (by omega) rfl ?_ ?_
    ·rintro k s hk rfl;have hy:=zQR (l:=w.units) (show k < w.units.length by omega);obtain⟨r1,e1,r2,e2,r,e3,e4⟩:=qZK w.layout e.body (w.units[k]'(by omega)).body (by have:=h.steps _ (zQM he);omega) (by have:=h.steps _ (List.getElem_mem (show k < w.units.length by omega));omega) v.Ac;have hm:=qZG hc hk hy he;have hm2:tS w.layout e.body (w.units[k]'(by omega)).body=false:=by unfold tS at hm ⊢;rw [qRP];exact hm
     rw [hm2] at e4;rw [if_pos (by omega),e1,aF,aJ hy,e2,aF,e3,aF,if_neg (of_decide_eq_false e4),aA (bF hk (by omega))];exact⟨_,rfl,by push_cast;rfl⟩
    rintro s rfl;rw [if_neg (by omega)];exact⟨_,rfl,trivial⟩
   rw [aA (bF hi (by omega))];exact⟨_,rfl,.inl ⟨rfl,trivial⟩⟩
  ·intro _;rw [if_neg (by omega)];exact⟨_,rfl,_,rfl,trivial⟩
  rw [qDY w.Ar w.inter h.Ar h.setts,aF];exact tot_some.2 v.sound
 obtain⟨r,e,rfl⟩:=this;exact e
theorem qQG {p0:An} (w0:p0.Wf):iH p0=some true:=by
 obtain⟨b,hf,hb⟩:=few58 w0;unfold iH;rw [hf,aF,zEM]
 cases b with
 | false=>rw [if_pos (by rfl),aF,if_pos rfl,aF]
 | true=>
  have hF:=hb rfl;have ho:=hF.ok;obtain⟨e,he,hv⟩:=qWS w0 hF;rw [if_neg (by simp),he,aF];by_cases h0:e=0
  ·have v:=hv h0;rw [if_pos h0,qVD ho,aF,aF];by_cases hz:qFO p0=[]
   ·have hc:qDE p0=[]:=by
     unfold qFO at hz;simp only [List.append_eq_nil_iff] at hz;exact hz.1.1.1.1.1
    rw [decide_eq_true (by rw [hz];rfl),if_neg (by simp),safe53 ho v hz,aF,if_pos rfl,qWN ho,decide_eq_true (by rw [hc];rfl),aF,if_pos rfl,aF,aF]
   have : ¬ ((qFO p0).length : Int) = 0 := fun q => hz (List.eq_nil_of_length_eq_zero (by omega));rw [decide_eq_false this,if_pos (by rfl),aF]
  rw [if_neg h0,aF,if_pos rfl,aF]
end Go.Proofs.YtofndjhpbonpbaaGreatDoor
