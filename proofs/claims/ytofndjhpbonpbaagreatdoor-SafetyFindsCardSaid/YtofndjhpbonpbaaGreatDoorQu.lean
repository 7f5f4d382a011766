/- Texts of this proof, joined, without what it does not use. No condition. -/
import Derived.Test.YtofndjhpbonpbaaGreatDoorQt

set_option linter.unusedSimpArgs false
set_option linter.unusedVariables false
namespace Go.Proofs.YtofndjhpbonpbaaGreatDoor
open Go Go.TL
theorem qEW (l:List Aa) (x:Aa) (h:Cnt l) (ho:∀ s∈l,Aa.ok s) (hx:Aa.ok x):jD l x=some (decide (x∈l)):=by
 unfold jD;rw [fC l (λe=>decide (e=x)) (.inr true) (.inl ()) h (λi e he=>?_) (by rw [if_neg (by omega)];rfl)]
 ·have e1 : (l.any fun e => decide (e = x)) = decide (x ∈ l) := by rw [Bool.eq_iff_iff]; simp
  rw [e1];by_cases hm:x∈l
  ·rw [if_pos (by simpa using hm)];simp [hm]
  rw [if_neg (by simpa using hm)];simp [hm]
 have hi:=(zQQ.1 he).1;rw [if_pos (by omega),aJ he,aA ⟨ho e (zQM he),hx⟩];by_cases h1:e=x
 ·rw [if_pos h1,if_pos (by simpa using h1)];rfl
 rw [if_neg h1,if_neg (by simpa using h1),aA (bX hi h)]
theorem qRW {l:List Aa} (h:Asc l) (P:Aa->Bool):Asc (l.filter P):=List.Pairwise.filter P h
theorem qSK (t:Al) (s:Az) (h:TOk t) (ho:SOk t) (hc:fE t=0) {i:Nat} {r:Ai} {x:Ak} (hr:t.Ab[i]?=some r) (hx:s.Ab[i]?=some x) (hf:dT x r.Ac.length=true):mT t s (i:Int)=some (jG t r x):=by
 have hm:=zQM hr;have hs:=h.each r hm;obtain⟨_,_,h3,_⟩:=mC hc;have hrel:=yB hf;have hlen:(fU r).length<=6000000:=by have:=hs.Ad;have:=hs.over;have:=hs.Au;simp [fU];omega
 have hlen':=Nat.le_trans (qFT (fU r)) hlen;unfold mT jG;rw [aJ hx];by_cases h0:x.state=0
 ·rw [if_pos h0,if_pos h0]
 rw [if_neg h0, if_neg h0, aJ hr, aJ hx, aA ⟨by omega, hrel.1, hrel.2⟩, qHX r hs, aH];obtain⟨n,hn⟩:=Int.eq_ofNat_of_zero_le hrel.1;have hok:∀ e∈fU r,Aa.ok e:=ho r hm;rw [qBU (hP (fU r)) (λe=>(decide (e∈r.Ad)&&qV t r x e)||decide (e∈r.Aj)||decide (e∈r.Au)) (by omega) (λi e b he hb=>?_) (λb=>by dsimp only;rw [if_neg (by omega)];rfl),aH]
 ·congr 1
  refine qUL (qRW (zP _) _) λe=>?_;simp only [List.mem_filter,ascS_mem,fU,zQN,Bool.or_eq_true,zQA,decide_eq_true_eq]
  grind
 dsimp only;have hi:i < (hP (fU r)).length:=(zQQ.1 he).1;have hin:e∈fU r:=ascS_mem.1 (zQM he);obtain⟨k,hk,hkl⟩:=sQ (h3 r hm).2 hin;have hh:=qOU hc hk;have hsec:=hs.secs;have hkb:qV t r x e=!decide (qBD t e.el∈r.Ac.take n):=by unfold qV;rw [hn];rfl
 have hpo:∀ s∈r.Ad,Aa.ok s:=λs h=>hok s (by simp [fU,h]);have hoo:∀ s∈r.Aj,Aa.ok s:=λs h=>hok s (by simp [fU,h]);have hfo:∀ s∈r.Au,Aa.ok s:=λs h=>hok s (by simp [fU,h]);have hp:=hs.Ad;have hov:=hs.over;have hfl:=hs.Au;rw [if_pos (by omega),aJ he,xL t e.el (by have:=h.Ad;unfold Cnt;omega),aH,hk,show tW (some k)=(k:Int) from rfl,aJ he];rw [qEW r.Ad e (by unfold Cnt;omega) hpo (hok e hin),aH]
 have e1:(if decide (e∈r.Ad)=true then aT t.A1 (k:Int) λe23=>aB (gC (sub r.Ac 0 x.rel) e23) λr24=>some !r24 else some false)=some (decide (e∈r.Ad)&&qV t r x e):=by
  rw [aJ hh,hn,qMC,qOV _ _ (by unfold Cnt;rw [List.length_take];omega),aH,hkb];by_cases h5:e∈r.Ad<;>simp [h5]
 rw [e1,aH]
 have e2:(if (decide (e∈r.Ad)&&qV t r x e)=true then some true else aT (hP (fU r)) (i:Int) λe28=>aB (jD r.Aj e28) λr29=>if r29=true then some true else aT (hP (fU r)) (i:Int) λe31=>aB (jD r.Au e31) λr32=>some r32)=some ((decide (e∈r.Ad)&&qV t r x e)||decide (e∈r.Aj)||decide (e∈r.Au)):=by
  rw [aJ he,qEW r.Aj e (by unfold Cnt;omega) hoo (hok e hin),aH,aJ he,qEW r.Au e (by unfold Cnt;omega) hfo (hok e hin),aH];cases (decide (e∈r.Ad)&&qV t r x e)<;>by_cases h6:e∈r.Aj<;>simp [h6]
 rw [e2,aH];split
 ·rename_i h1;rw [aJ he,aA (by simp;omega),aA (bX hi (by omega))]
 rename_i h1;rw [aA (bX hi (by omega))]
theorem qFO (t:Al) (r:Ai) (x:Ak) (hs:Short r):(jG t r x).length<=6000000:=by
 unfold jG;split
 ·simp
 have h1:=qFT (r.Ad.filter (qV t r x)++r.Aj++r.Au);have h2:=List.length_filter_le (qV t r x) r.Ad;have:=hs.Ad;have:=hs.over;have:=hs.Au;simp only [zQL] at h1;omega
theorem qFN {t:Al} {r:Ai} {x:Ak} {e:Aa} (h:e∈jG t r x):e∈fU r:=by
 unfold jG at h;split at h
 ·cases h
 rw [ascS_mem] at h;simp only [fU,zQN,List.mem_filter] at h ⊢
 grind
def kO (a b:List Int):Bool:=a.any λn=>decide (n∈b)
theorem xJ (a b:List Int):kO a b=kO b a:=by
 rw [Bool.eq_iff_iff];simp only [kO,zQU,decide_eq_true_eq];grind
theorem qAX (a b:List Int) (ha:Cnt a) (hb:Cnt b):kA a b=some (kO a b):=by
 unfold kA;rw [fC a (λe=>decide (e∈b)) (.inr true) (.inl ()) ha (λi e he=>?_) (by rw [if_neg (by omega)];rfl)]
 ·unfold kO;cases a.any (λe=>decide (e∈b))<;>rfl
 have hi:=(zQQ.1 he).1;rw [if_pos (by omega),aJ he,qOV b e hb,aH];split
 ·rfl
 rw [aA (bX hi ha)]
def dY (a b:Ai):Bool:=decide (0<=a.exit)&&decide (b.entry=a.exit)
theorem qEY (a b:Ai):gH a b=some (dY a b):=rfl
theorem zA (t:Al) {i j:Nat} {a b:Ai} (ha:t.Ab[i]?=some a) (hb:t.Ab[j]?=some b):fW t (i:Int) (j:Int)=some (dY a b):=by
 unfold fW dY;rw [aJ ha,aJ hb,aJ ha];by_cases h:0<=a.exit<;>simp [h]
def nZ (r:Ai) (x:Ak):List Aq:=(nD r x).map (λn=>⟨n,0⟩)++(nE r x).map (λn=>⟨n,1⟩)
theorem qAR (r:Ai) (x:Ak) (h:Short r):(nD r x).length<=2000000:=by have:=h.secs;unfold nD;split<;>simp<;>omega
theorem qAS (r:Ai) (x:Ak) (h:Short r):(nE r x).length<=2000000:=by have:=h.secs;unfold nE;split<;>simp<;>omega
theorem qVU (r:Ai) (x:Ak) (h:Short r) (hx:dT x r.Ac.length=true):lI r x=some (nZ r x):=by
 have h1:=qAR r x h;have h2:=qAS r x h;unfold lI nZ;rw [qZG r x h hx,aH,qNY (nD r x) (λn=>(⟨n,0⟩:Aq)) [] (by omega) (λi e b he hb=>?_) (λb=>by dsimp only;rw [if_neg (by omega)];rfl),aH]
 ·rw [qZH r x h, aH, qNY (nE r x) (fun n => (⟨n, 1⟩ : Aq)) _ (by omega) (fun i e b he hb => ?_) (fun b => by dsimp only; rw [if_neg (by omega)]; rfl), aH]
  ·rfl
  have hi:=(zQQ.1 he).1;dsimp only;rw [if_pos (by omega),aJ he,aA (by simp at hb ⊢;omega),aA (bX hi (by omega))]
 have hi:=(zQQ.1 he).1;dsimp only;rw [if_pos (by omega),aJ he,aA (by simp at hb ⊢;omega),aA (bX hi (by omega))]
theorem qZU (l:List Aq) (n p:Int) (h:Cnt l) (ho:∀ s∈l,Aq.ok s) (hx:Aq.ok ⟨n,p⟩):oJ l n p=some (decide ((⟨n,p⟩:Aq)∈l)):=by
 unfold oJ;rw [fC l (λe=>decide (e=⟨n,p⟩)) (.inr true) (.inl ()) h (λi e he=>?_) (by rw [if_neg (by omega)];rfl)]
 ·have e1 : (l.any fun e => decide (e = ⟨n, p⟩)) = decide ((⟨n, p⟩ : Aq) ∈ l) := by rw [Bool.eq_iff_iff]; simp
  rw [e1];by_cases hm:(⟨n,p⟩:Aq)∈l
  ·rw [if_pos (by simpa using hm)];simp [hm]
  rw [if_neg (by simpa using hm)];simp [hm]
 have hi:=(zQQ.1 he).1;rw [if_pos (by omega),aJ he,aA ⟨ho e (zQM he),hx⟩];by_cases h1:e=⟨n,p⟩
 ·rw [if_pos h1,if_pos (by simpa using h1)];rfl
 rw [if_neg h1,if_neg (by simpa using h1),aA (bX hi h)]
def vE (a b:Ai) (pa oa pb ob:List Int):Bool:=
 kO pa pb||(kO oa pb&&!dY a b)||(kO pa ob&&!dY b a)||(kO oa ob&&!dY a b&&!dY b a)
theorem qUQ {n:Int} (h:I64 n) (p:Int) (hp:p=0\/p=1):Aq.ok ⟨n,p⟩:=by
 refine⟨h,?_⟩;rcases hp with rfl|rfl<;>(simp only;unfold I64;omega)
theorem zAH (a b:Ai) (pa oa pb ob:List Int) (hpa:pa.length<=2000000/\∀ n∈pa,I64 n) (hoa:oa.length<=2000000/\∀ n∈oa,I64 n) (hpb:pb.length<=2000000/\∀ n∈pb,I64 n) (hob:ob.length<=2000000/\∀ n∈ob,I64 n):
  kP a b (pa.map (λn=>⟨n,0⟩)++oa.map (λn=>⟨n,1⟩)) (pb.map (λn=>⟨n,0⟩)++ob.map (λn=>⟨n,1⟩))=some (vE a b pa oa pb ob):=by
 unfold kP;rw [qEY,aH,qEY,aH];generalize hL:(pa.map (λn=>(⟨n,0⟩:Aq))++oa.map (λn=>(⟨n,1⟩:Aq)))=la;generalize hM:(pb.map (λn=>(⟨n,0⟩:Aq))++ob.map (λn=>(⟨n,1⟩:Aq)))=lb;have hla:la.length<=4000000:=by rw [<- hL];simp;omega
 have hlb:lb.length<=4000000:=by rw [<- hM];simp;omega
 have hao:∀ e∈la,I64 e.a0:=by
  intro e he;rw [<- hL,zQN,List.mem_map,List.mem_map] at he;rcases he with ⟨n,hn,rfl⟩|⟨n,hn,rfl⟩
  ·exact hpa.2 n hn
  exact hoa.2 n hn
 have hbo:∀ e∈lb,Aq.ok e:=by
  intro e he;rw [<- hM,zQN,List.mem_map,List.mem_map] at he;rcases he with ⟨n,hn,rfl⟩|⟨n,hn,rfl⟩
  ·exact qUQ (hpb.2 n hn) 0 (.inl rfl)
  exact qUQ (hob.2 n hn) 1 (.inr rfl)
 rw [fC la (λe=>(decide ((⟨e.a0,0⟩:Aq)∈lb)&&(decide (e.a1=0)||!dY a b))||(decide ((⟨e.a0,1⟩:Aq)∈lb)&&!dY b a&&(decide (e.a1=0)||!dY a b))) (.inr true) (.inl ()) (by omega) (λi e he=>?_) (by rw [if_neg (by omega)];rfl)]
 ·have e1:(la.any λe=>(decide ((⟨e.a0,0⟩:Aq)∈lb)&&(decide (e.a1=0)||!dY a b))||(decide ((⟨e.a0,1⟩:Aq)∈lb)&&!dY b a&&(decide (e.a1=0)||!dY a b)))=vE a b pa oa pb ob:=by
   rw [<- hL,<- hM,List.any_append,List.any_map,List.any_map,Bool.eq_iff_iff];unfold vE kO;simp only [Bool.or_eq_true,zQA,zQU,Function.comp,zQN,List.mem_map,Aq.mk.injEq,decide_eq_true_eq,Bool.not_eq_true']
   grind
  rw [e1];cases vE a b pa oa pb ob<;>rfl
 have hi:=(zQQ.1 he).1;have hm:=zQM he;rw [if_pos (by omega),aJ he,qZU lb e.a0 0 (by unfold Cnt;omega) hbo (qUQ (hao e hm) 0 (.inl rfl)),aH,qZU lb e.a0 1 (by unfold Cnt;omega) hbo (qUQ (hao e hm) 1 (.inr rfl)),aH];by_cases h1:e.a1=0<;>cases hA:dY a b<;>cases hB:dY b a<;>by_cases h2:(⟨e.a0,0⟩:Aq)∈lb<;>by_cases h3:(⟨e.a0,1⟩:Aq)∈lb<;>simp [h1,h2,h3,bX hi (show la.length<=9223372036854775807 by omega)]
def rAt (t:Al) (i:Nat):Ai:=(t.Ab[i]?).getD default
def xAt (s:Az) (i:Nat):Ak:=(s.Ab[i]?).getD default
theorem rAt_of {t:Al} {i:Nat} (h:i < t.Ab.length):t.Ab[i]?=some (rAt t i):=by unfold rAt;rw [zQR h];rfl
theorem xAt_of {s:Az} {i:Nat} (h:i < s.Ab.length):s.Ab[i]?=some (xAt s i):=by unfold xAt;rw [zQR h];rfl
structure FitsAt (t:Al) (s:Az) (i:Nat):Prop where
 r:t.Ab[i]?=some (rAt t i)
 x:s.Ab[i]?=some (xAt s i)
 mem:rAt t i∈t.Ab
 fits:dT (xAt s i) (rAt t i).Ac.length=true
theorem qBH {t:Al} {s:Az} (h:sF t s=true) {i:Nat} (hi:i < t.Ab.length):FitsAt t s i:=by
 have h':=fitsB_iff.1 h;have hr:=rAt_of hi;have hx:=xAt_of (s:=s) (i:=i) (by omega);refine⟨hr,hx,zQM hr,?_⟩;have:=h'.2.2.2.1 i (by omega)
 rwa [xY hx hr] at this
def iA (t:Al) (s:Az) (i:Nat):List Int:=nD (rAt t i) (xAt s i)
def iB (t:Al) (s:Az) (i:Nat):List Int:=nE (rAt t i) (xAt s i)
def mM (t:Al) (s:Az) (i:Nat):List Aa:=jG t (rAt t i) (xAt s i)
def lL (t:Al) (s:Az) (a b:Nat):Bool:=vE (rAt t a) (rAt t b) (iA t s a) (iB t s a) (iA t s b) (iB t s b)
def qOB (t:Al) (s:Az) (el:Int):Int:=((fK t.Ad el).bind (s.lies[·]?)).getD 0
def pT (t:Al) (s:Az) (e:Aa):Bool:=decide (qOB t s e.el=e.pos)
def lQ (t:Al) (s:Az):Bool:=
 sF t s&&(fI t.Ab.length λa=>fI a λb=>!lL t s a b)&&fI t.Ab.length λa=>(mM t s a).all (pT t s)
theorem qTK {t:Al} {s:Az} (h:sF t s=true) {el:Int} {k:Nat} (hk:fK t.Ad el=some k):s.lies[k]?=some (qOB t s el):=by
 have h':=fitsB_iff.1 h;obtain⟨_,_,_,hlt⟩:=qLC hk;have:s.lies[k]?=some s.lies[k]:=by rw [zQR]
 simp [qOB,hk,this]
theorem qDP {t:Al} {r:Ai} (h:kZ t r=true) (hl:qCM t=true):∀ n∈r.Ac++r.Ao,0<=n/\n < t.Ac/\n < 24:=by
 intro n hn;unfold kZ at h;simp only [zQA] at h;obtain⟨i,hi,rfl⟩:=List.mem_iff_getElem.1 hn;have h1:=allB_iff.1 h.1.1.2 i hi;rw [qJK (s:=(r.Ac++r.Ao)[i]) (by rw [zQR hi]),zQA] at h1;have h2:=of_decide_eq_true hl;have h3:0<=(r.Ac++r.Ao)[i]/\(r.Ac++r.Ao)[i] < t.Ac:=by simpa [inB] using h1.1
 omega
theorem qVK {r:Ai} {x:Ak} {n:Int} (h:n∈nD r x):n∈r.Ac:=by
 unfold nD at h;split at h
 ·cases h
 exact List.mem_of_mem_drop h
theorem qVO {r:Ai} {x:Ak} {n:Int} (h:n∈nE r x):n∈r.Ao:=by
 unfold nE at h;split at h
 ·cases h
 exact h
theorem qNL {t:Al} {r:Ai} (hc:fE t=0) (hr:r∈t.Ab) (h:Short r) (x:Ak):(nD r x).length<=2000000/\∀ n∈nD r x,I64 n:=by
 obtain⟨h1,_,h3,_⟩:=mC hc;refine⟨qAR r x h,λn hn=>?_⟩;have:=qDP (h3 r hr).1 h1 n (List.mem_append_left _ (qVK hn));unfold I64;omega
theorem qNP {t:Al} {r:Ai} (hc:fE t=0) (hr:r∈t.Ab) (h:Short r) (x:Ak):(nE r x).length<=2000000/\∀ n∈nE r x,I64 n:=by
 obtain⟨h1,_,h3,_⟩:=mC hc;refine⟨qAS r x h,λn hn=>?_⟩;have:=qDP (h3 r hr).1 h1 n (List.mem_append_right _ (qVO hn));unfold I64;omega
theorem qWM {t:Al} (h:TOk t) (hc:fE t=0) {a b:Ai} (ha:a∈t.Ab) (hb:b∈t.Ab) (x y:Ak):kP a b (nZ a x) (nZ b y)=some (vE a b (nD a x) (nE a x) (nD b y) (nE b y)):=
 zAH a b _ _ _ _ (qNL hc ha (h.each a ha) x) (qNP hc ha (h.each a ha) x) (qNL hc hb (h.each b hb) y) (qNP hc hb (h.each b hb) y)
theorem vK (n:Nat) (P:Nat->Bool):((List.range n).any P)=!fI n λi=>!P i:=by simp [fI,List.not_all_eq_any_not]
theorem qXV (t:Al) (s:Az) (h:TOk t) (ho:SOk t):nG t s=some (lQ t s):=by
 unfold nG lQ;rw [zCR t s h,aH];by_cases hf:sF t s=true
 ·have hc:=(fitsB_iff.1 hf).1;have hrl:=h.Ab;rw [hf,if_neg (by simp),Bool.true_and];rw [iX (b:=([]:List (List Aq))) (o:=(List.range t.Ab.length).map λi=>nZ (rAt t i) (xAt s i)) t.Ab.length (λi=>(List.range i).map λi=>nZ (rAt t i) (xAt s i)) rfl (by omega) (λi hi=>?_) (by dsimp only;rw [if_neg (by omega)];rfl),aH]
  ·have hb3:∀ i,i < t.Ab.length->((List.range t.Ab.length).map λi=>nZ (rAt t i) (xAt s i))[i]?=some (nZ (rAt t i) (xAt s i)):=by
    intro i hi;rw [zQP,List.getElem?_range hi];rfl
   generalize ((List.range t.Ab.length).map λi=>nZ (rAt t i) (xAt s i))=b3 at hb3;rw [eX t.Ab.length (λa=>(List.range a).any λb=>lL t s a b) (.inr false) (.inl ()) (by omega) (λa ha=>?_) (by rw [if_neg (by omega)];rfl)]
   ·rw [vK]
    have e1:(fI t.Ab.length λi=>!(List.range i).any λb=>lL t s i b)=fI t.Ab.length λa=>fI a λb=>!lL t s a b:=by
     unfold fI;congr 1;funext a;rw [vK];simp [fI]
    rw [e1];cases hA:(fI t.Ab.length λa=>fI a λb=>!lL t s a b)
    ·rfl
    rw [if_neg (by simp), oL];rw [eX t.Ab.length (λa=>(mM t s a).any λe=>!pT t s e) (.inr false) (.inl ()) (by omega) (λa ha=>?_) (by rw [if_neg (by omega)];rfl)]
    ·rw [vK]
     have e2:(fI t.Ab.length λi=>!(mM t s i).any λe=>!pT t s e)=fI t.Ab.length λa=>(mM t s a).all (pT t s):=by
      unfold fI;congr 1;funext a;rw [jE];simp
     rw [e2];cases (fI t.Ab.length λa=>(mM t s a).all (pT t s))<;>rfl
    have H:=qBH hf ha;have hbl:=qFO t (rAt t a) (xAt s a) (h.each _ H.mem);rw [if_pos (by omega),aJ H.r,aJ H.x,qVX t _ _ h ho hc H.mem (yB H.fits),aH];rw [fC (jG t (rAt t a) (xAt s a)) (λe=>!pT t s e) (.inr (.inr (.inr false))) (.inl ()) (by omega) (λi e he=>?_) (by rw [if_neg (by omega)];rfl)]
    ·rw [show mM t s a=jG t (rAt t a) (xAt s a) from rfl];cases ((jG t (rAt t a) (xAt s a)).any λe=>!pT t s e)
     ·rw [if_neg (by simp),if_neg (by simp),oL,aA (bX ha (by omega))]
     rfl
    have hi:=(zQQ.1 he).1;obtain⟨k,hk,hkl⟩:=sQ ((mC hc).2.2.1 _ H.mem).2 (qFN (zQM he));have hp:=h.Ad;rw [if_pos (by omega),aJ he,vP t e.el (by unfold Cnt;omega),aH,hk,show tW (some k)=(k:Int) from rfl,aJ (qTK hf hk)];unfold pT;by_cases h1:qOB t s e.el=e.pos
    ·rw [if_pos h1,if_neg (by simpa using h1),aA (bX hi (by omega))]
    rw [if_neg h1,if_pos (by simpa using h1)];rfl
   rw [if_pos (by omega)];rw [eX a (λb=>lL t s a b) (.inr (.inr (.inr false))) (.inl ()) (by omega) (λb hb=>?_) (by rw [if_neg (by omega)];rfl)]
   ·cases ((List.range a).any fun b => lL t s a b)
    ·rw [if_neg (by simp),if_neg (by simp),oL,aA (bX ha (by omega))]
    rfl
   have H:=qBH hf ha;have H':=qBH hf (i:=b) (by omega);rw [if_pos (by omega),aJ H.r,aJ H'.r,aJ (hb3 a ha),aJ (hb3 b (by omega)),qWM h hc H.mem H'.mem,aH];rw [show vE (rAt t a) (rAt t b) (nD (rAt t a) (xAt s a)) (nE (rAt t a) (xAt s a)) (nD (rAt t b) (xAt s b)) (nE (rAt t b) (xAt s b))=lL t s a b from rfl];have hg:I64 ((b:Int)+1):=bX hb (by omega);cases lL t s a b
   ·simp only [Bool.false_eq_true,if_false,aA hg]
   rw [if_pos rfl,if_pos rfl];rfl
  dsimp only;have H:=qBH hf hi;rw [if_pos (by omega),aJ H.r,aJ H.x,qVU _ _ (h.each _ H.mem) H.fits,aH,aA (by simp;omega),aA (bX hi (by omega)),List.range_succ,List.map_append];rfl
 simp only [Bool.not_eq_true] at hf;rw [hf];rfl
def lM (t:Al) (s:Az) (a b:Nat):Bool:=
 !(kO (iA t s a) (iA t s b)||(kO (iB t s a) (iA t s b)&&!dY (rAt t a) (rAt t b)))&&(!kO (iB t s a) (iB t s b)||dY (rAt t a) (rAt t b)||dY (rAt t b) (rAt t a))
theorem vD (t:Al) (s:Az) (a b:Nat):(!lL t s a b)=(lM t s a b&&lM t s b a):=by
 unfold lL vE lM;rw [xJ (iA t s b) (iA t s a),xJ (iB t s b) (iA t s a),xJ (iB t s b) (iB t s a)];cases kO (iA t s a) (iA t s b)<;>cases kO (iB t s a) (iA t s b)<;>cases kO (iA t s a) (iB t s b)<;>cases kO (iB t s a) (iB t s b)<;>cases dY (rAt t a) (rAt t b)<;>cases dY (rAt t b) (rAt t a)<;>rfl
theorem qNM {t:Al} {s:Az} (h:TOk t) {i:Nat} (H:FitsAt t s i):iK t s (i:Int)=some (iA t s i):=qVL t s h H.r H.x H.fits
theorem qNQ {t:Al} {s:Az} (h:TOk t) {i:Nat} (H:FitsAt t s i):iL t s (i:Int)=some (iB t s i):=qVP t s h H.r H.x
theorem qEC {t:Al} {s:Az} (h:TOk t) {i:Nat} (H:FitsAt t s i):Cnt (iA t s i):=by have:=qAR _ (xAt s i) (h.each _ H.mem);unfold Cnt iA;omega
theorem qEF {t:Al} {s:Az} (h:TOk t) {i:Nat} (H:FitsAt t s i):Cnt (iB t s i):=by have:=qAS _ (xAt s i) (h.each _ H.mem);unfold Cnt iB;omega
theorem zAO {t:Al} {s:Az} (h:TOk t) {a b:Nat} (H:FitsAt t s a) (H':FitsAt t s b):mU t s (a:Int) (b:Int)=some (lM t s a b):=by
 have c1:=qEC h H;have c2:=qEC h H';have c3:=qEF h H;have c4:=qEF h H';unfold mU lM;rw [qNM h H,qNM h H',qNQ h H,qNQ h H',zA t H.r H'.r,zA t H'.r H.r];simp only [aH];rw [qAX _ _ c1 c2,qAX _ _ c3 c2,qAX _ _ c3 c4];simp only [aH];cases kO (iA t s a) (iA t s b)<;>cases kO (iB t s a) (iA t s b)<;>cases kO (iB t s a) (iB t s b)<;>cases dY (rAt t a) (rAt t b)<;>cases dY (rAt t b) (rAt t a)<;>rfl
theorem qUV (t:Al) (s:Az):lQ t s=(sF t s&&fI t.Ab.length λa=>(mM t s a).all (pT t s)&&fI t.Ab.length λb=>decide (a=b)||lM t s a b):=by
 unfold lQ;rw [Bool.eq_iff_iff];simp only [zQA,allB_iff,Bool.or_eq_true,decide_eq_true_eq];constructor
 ·rintro⟨⟨h1,h2⟩,h3⟩;refine⟨h1,λa ha=>⟨h3 a ha,λb hb=>?_⟩⟩;rcases Nat.lt_trichotomy a b with hl|hl|hl
  ·have:=h2 b hb a hl;rw [vD,zQA] at this;exact .inr this.2
  ·exact .inl hl
  have:=h2 a ha b hl;rw [vD,zQA] at this;exact .inr this.1
 rintro⟨h1,h2⟩;refine⟨⟨h1,λa ha b hb=>?_⟩,λa ha=>(h2 a ha).1⟩;rw [vD,zQA];rcases (h2 a ha).2 b (by omega) with h|h
 ·omega
 rcases (h2 b (by omega)).2 a ha with h' | h'
 ·omega
 exact⟨h,h'⟩
theorem qQR (t:Al) (s:Az) (h:TOk t) (ho:SOk t):mV t s=some (lQ t s):=by
 rw [qUV];unfold mV;rw [qWD t s h,aH];by_cases hf:sF t s=true
 ·have hc:=(fitsB_iff.1 hf).1;have hrl:=h.Ab;rw [hf,if_neg (by simp),Bool.true_and];rw [eX t.Ab.length (λa=>!((mM t s a).all (pT t s)&&fI t.Ab.length λb=>decide (a=b)||lM t s a b)) (.inr false) (.inl ()) (by omega) (λa ha=>?_) (by rw [if_neg (by omega)];rfl)]
  ·rw [vK];simp only [Bool.not_not];cases (fI t.Ab.length λa=>(mM t s a).all (pT t s)&&fI t.Ab.length λb=>decide (a=b)||lM t s a b)<;>rfl
  have H:=qBH hf ha;have hbl:=qFO t (rAt t a) (xAt s a) (h.each _ H.mem);rw [if_pos (by omega),qSK t s h ho hc H.r H.x H.fits,aH];rw [fC (jG t (rAt t a) (xAt s a)) (λe=>!pT t s e) (.inr (.inr (.inr (.inr false)))) (.inl ()) (by omega) (λi e he=>?_) (by rw [if_neg (by omega)];rfl)]
  ·rw [show mM t s a=jG t (rAt t a) (xAt s a) from rfl,jE (jG t (rAt t a) (xAt s a)) (pT t s)];cases hA:((jG t (rAt t a) (xAt s a)).all (pT t s))
   ·simp only [Bool.not_false,Bool.false_and,if_true];rfl
   rw [if_neg (by simp), oL, Bool.true_and];rw [eX t.Ab.length (λb=>!(decide (a=b)||lM t s a b)) (.inr (.inr (.inr false))) (.inl ()) (by omega) (λb hb=>?_) (by rw [if_neg (by omega)];rfl)]
   ·rw [vK];simp only [Bool.not_not];have hg:I64 ((a:Int)+1):=bX ha (by omega);cases (fI t.Ab.length λb=>decide (a=b)||lM t s a b)
    ·simp only [Bool.not_false,Bool.false_and,if_true];rfl
    simp only [Bool.not_true,Bool.false_eq_true,if_false,oL,aA hg]
   have H':=qBH hf hb;have hg:I64 ((b:Int)+1):=bX hb (by omega);rw [if_pos (by omega),zAO h H H',aH];by_cases hab:a=b
   ·subst hab;simp [aA hg]
   rw [if_neg (by omega), aH, decide_eq_false hab, Bool.false_or];cases lM t s a b
   ·simp only [Bool.not_false,Bool.false_and,if_true];rfl
   simp only [Bool.not_true,Bool.false_eq_true,if_false,aA hg]
  have hi:=(zQQ.1 he).1;obtain⟨k,hk,hkl⟩:=sQ ((mC hc).2.2.1 _ H.mem).2 (qFN (zQM he));have hp:=h.Ad;rw [if_pos (by omega),aJ he,xL t e.el (by unfold Cnt;omega),aH,hk,show tW (some k)=(k:Int) from rfl,aJ (qTK hf hk),aJ he];unfold pT;by_cases h1:qOB t s e.el=e.pos
  ·rw [if_pos h1,if_neg (by simpa using h1),aA (bX hi (by omega))]
  rw [if_neg h1,if_pos (by simpa using h1)];rfl
 simp only [Bool.not_eq_true] at hf;rw [hf];rfl
end Go.Proofs.YtofndjhpbonpbaaGreatDoor
set_option linter.unusedVariables false
set_option linter.unusedSimpArgs false
set_option maxHeartbeats 1000000
set_option maxRecDepth 100000
namespace Go.Proofs.YtofndjhpbonpbaaGreatDoor
open Go Go.TL
def Tot {α:Type} (m:Option α) (Q:α->Prop):Prop:=∃ r,m=some r/\Q r
section
variable {α β σ ρ:Type}
theorem tot_some {a:α} {Q:α->Prop}:Tot (some a) Q↔Q a:=⟨λ⟨_,h,q⟩=>by cases h;exact q,λq=>⟨_,rfl,q⟩⟩
theorem tot_bind {m:Option α} {k:α->Option β} {Q:β->Prop}:Tot (aB m k) Q↔Tot m λa=>Tot (k a) Q:=by
 cases m with
 | none=>exact⟨λ⟨_,h,_⟩=>(by cases h),λ⟨_,h,_⟩=>(by cases h)⟩
 | some a=>exact⟨λh=>⟨a,rfl,h⟩,λ⟨_,h,q⟩=>(by cases h;exact q)⟩
theorem tot_bindS {m:Option (α ⊕ β)} {k:α->Option β} {Q:β->Prop}:Tot (bR m k) Q↔Tot m λo=>match o with|.inl a=>Tot (k a) Q|.inr b=>Q b:=by
 cases m with
 | none=>exact⟨λ⟨_,h,_⟩=>(by cases h),λ⟨_,h,_⟩=>(by cases h)⟩
 | some o=>
  cases o with
  | inl a=>exact⟨λh=>⟨_,rfl,h⟩,λ⟨_,h,q⟩=>(by cases h;exact q)⟩
  | inr b=>exact⟨λ⟨_,h,q⟩=>⟨_,rfl,by cases h;exact q⟩,λ⟨_,h,q⟩=>(by cases h;exact⟨_,rfl,q⟩)⟩
theorem jI {m:Option α} {P Q:α->Prop} (h:Tot m P) (hi:∀ a,P a->Q a):Tot m Q:=by
 obtain⟨r,h1,h2⟩:=h;exact⟨r,h1,hi r h2⟩
theorem aE {m:Option α} {k:α->Option β} {P:α->Prop} {Q:β->Prop} (h:Tot m P) (hi:∀ a,P a->Tot (k a) Q):Tot (aB m k) Q:=tot_bind.2 (jI h hi)
theorem bN {m:Option (α ⊕ β)} {k:α->Option β} {P:α ⊕ β->Prop} {Q:β->Prop} (h:Tot m P) (hi:∀ a,P (.inl a)->Tot (k a) Q) (hr:∀ b,P (.inr b)->Q b):Tot (bR m k) Q:=tot_bindS.2 (jI h λo=>by cases o with|inl a=>exact hi a|inr b=>exact hr b)
theorem cX {l:List α} {i:Int} {k:α->Option β} {Q:β->Prop} (h0:0<=i) (h1:i < (l.length:Int)) (h:∀ e∈l,l[i.toNat]?=some e->Tot (k e) Q):Tot (aT l i k) Q:=by
 have hx:=zQR (l:=l) (show i.toNat < l.length by omega);rw [iZ h0 hx];exact h _ (List.getElem_mem _) hx
theorem cE {f:σ->Option (σ ⊕ ρ)} {s:σ} {Q:ρ->Prop} (I:Nat->σ->Prop) (n:Nat) (hn:n<=1000000000000000) (h0:I 0 s) (hs:∀ i s,i < n->I i s->Tot (f s) λo=>match o with|.inl s'=>I (i+1) s'|.inr r=>Q r) (he:∀ s,I n s->Tot (f s) λo=>match o with|.inl _=>False|.inr r=>Q r):Tot (aZ f s) Q:=by
 have key:∀ (k i:Nat) s,i+k=n->I i s->∃ r,lO f (k+1) s=some r/\Q r:=by
  intro k
  induction k with
  | zero=>
   intro i s hi hI;obtain⟨o,h1,h2⟩:=he s (by rw [show n=i by omega];exact hI)
   cases o with
   | inl s'=>exact h2.elim
   | inr r=>exact⟨r,by simp [lO,h1],h2⟩
  | succ k ih=>
   intro i s hi hI;obtain⟨o,h1,h2⟩:=hs i s (by omega) hI
   cases o with
   | inl s'=>
    obtain⟨r,h3,h4⟩:=ih (i+1) s' (by omega) h2;exact⟨r,by rw [lO,h1];exact h3,h4⟩
   | inr r=>exact⟨r,by rw [lO,h1],h2⟩
 obtain⟨r,h1,h2⟩:=key n 0 s (by omega) h0;exact⟨r,uR h1 (by unfold kY;omega),h2⟩
theorem bZ {f:Int->Option (Int ⊕ ρ)} (l:List α) (hl:l.length<=1000000000000000) {Q:ρ->Prop} (I:Nat->Prop) (h0:I 0) (hs:∀ (i:Nat) (e:α),l[i]?=some e->I i->Tot (f (i:Int)) λo=>(o=.inl ((i:Int)+1)/\I (i+1))\/∃ r,o=.inr r/\Q r) (he:I l.length->Tot (f (l.length:Int)) λo=>∃ r,o=.inr r/\Q r):Tot (aZ f 0) Q:=by
 refine cE (λi s=>s=(i:Int)/\I i) l.length hl ⟨rfl,h0⟩ ?_ ?_
 ·rintro i s hi ⟨rfl,hI⟩;refine jI (hs i _ (zQR hi) hI) ?_;rintro o (⟨rfl,h⟩|⟨r,rfl,h⟩)
  ·exact⟨by push_cast;rfl,h⟩
  exact h
 rintro s ⟨rfl,hI⟩;refine jI (he hI) ?_;rintro o ⟨r,rfl,h⟩;exact h
theorem oD {f:Int->Option (Int ⊕ ρ)} (n:Nat) (hl:n<=1000000000000000) {Q:ρ->Prop} (I:Nat->Prop) (h0:I 0) (hs:∀ (i:Nat),i < n->I i->Tot (f (i:Int)) λo=>(o=.inl ((i:Int)+1)/\I (i+1))\/∃ r,o=.inr r/\Q r) (he:I n->Tot (f (n:Int)) λo=>∃ r,o=.inr r/\Q r):Tot (aZ f 0) Q:=by
 refine cE (λi s=>s=(i:Int)/\I i) n hl ⟨rfl,h0⟩ ?_ ?_
 ·rintro i s hi ⟨rfl,hI⟩;refine jI (hs i hi hI) ?_;rintro o (⟨rfl,h⟩|⟨r,rfl,h⟩)
  ·exact⟨by push_cast;rfl,h⟩
  exact h
 rintro s ⟨rfl,hI⟩;refine jI (he hI) ?_;rintro o ⟨r,rfl,h⟩;exact h
theorem bG {i n:Nat} (h:i < n) (hn:n<=1000000000000000):I64 ((i:Int)+1):=by unfold I64;omega
end
theorem zAS (s:BA) (h:s.size<=1000000000000000):Tot (lZ s) λ_=>True:=by
 have hsz:s.data.toList.length=s.size:=by rw [Array.length_toList];rfl
 unfold lZ;refine bN (P:=λ_=>True) (bZ s.data.toList (by omega) (λ_=>True) trivial ?_ ?_) (λ_ _=>tot_some.2 trivial) (λ_ _=>trivial)
 ·intro i e hx _;have hi:=(zQQ.1 hx).1;have hg:=bG (show i < s.size by omega) h;rw [if_pos (by omega)];simp only [aJ hx];refine aE (P:=λ_=>True) ?_ λx _=>?_
  ·split<;>exact tot_some.2 trivial
  refine aE (P := fun _ => True) ?_ fun y _ => ?_
  ·split
   ·split<;>exact tot_some.2 trivial
   exact tot_some.2 trivial
  split
  ·exact⟨_,rfl,.inr ⟨_,rfl,trivial⟩⟩
  rw [aA hg];exact⟨_,rfl,.inl ⟨rfl,trivial⟩⟩
 intro _;rw [if_neg (by omega)];exact⟨_,rfl,_,rfl,trivial⟩
def zX (k:Int):Int:=if k=1 then 2 else if k=2 then 3 else if k=3 then 4 else 0
theorem qFX (k:Int):iW k=some (zX k):=by
 unfold iW zX;split
 ·rfl
 split
 ·rfl
 split<;>rfl
theorem qMG (k:Int):0<=zX k/\zX k<=4:=by
 unfold zX;split
 ·omega
 split
 ·omega
 split<;>omega
theorem qSP (k a b:Int):Tot (eL k a b) λr=>0<=r.1/\r.1<=2:=by
 unfold eL;split
 ·exact tot_some.2 (by dsimp only;omega)
 split
 ·exact tot_some.2 (by dsimp only;omega)
 split<;>exact tot_some.2 (by dsimp only;omega)
def dZ (l:Ag) (e:End):Prop:=0<=e.el/\e.el < (l.Ae.length:Int)/\0<=e.side/\e.side < 4
theorem qBI {l:Ag} {e:End} (h:dZ l e) (hl:l.Ae.length<=1000000):End.ok e:=by
 obtain⟨h1,h2,h3,h4⟩:=h;unfold End.ok I64;omega
theorem qGA (l:Ag) (e:End):Tot (gR l e) λr=>r=true->dZ l e:=by
 unfold gR
 have key : Tot (if (0 : Int) <= e.el then
   if e.el < (l.Ae.length : Int) then
    if (0 : Int) <= e.side then
     aT l.Ae e.el fun e6 =>
     aB (iW e6.kind) fun r7 =>
     some (decide (e.side < r7))
    else
     some false
   else
    some false
  else
   some false) fun r => r = true -> dZ l e := by
  split
  ·split
   ·split
    ·refine cX (by omega) (by omega) fun x hx _ => ?_;rw [qFX,aH];refine tot_some.2 λhs=>?_;have:=of_decide_eq_true hs;have:=qMG x.kind;exact⟨by omega,by omega,by omega,by omega⟩
    exact tot_some.2 (by simp)
   exact tot_some.2 (by simp)
  exact tot_some.2 (by simp)
 exact aE key λx hx=>tot_some.2 hx
theorem qLV (l:List BA) (hl:l.length<=1000000000):Tot (iS l) λ_=>True:=by
 unfold iS;refine bN (P:=λ_=>True) (bZ l (by omega) (λ_=>True) trivial ?_ ?_) (λ_ _=>tot_some.2 trivial) (λ_ _=>trivial)
 ·intro i e hx _;have hi:=(zQQ.1 hx).1;rw [if_pos (by omega)];refine bN (P:=λo=>match o with|.inl _=>True|.inr b=>∃ r,b=.inr r) (oD i (by omega) (λ_=>True) trivial ?_ ?_) ?_ ?_
  ·intro k hk _;have hk2:=zQR (l:=l) (show k < l.length by omega);rw [if_pos (by omega),aJ hx,aJ hk2];split
   ·exact⟨_,rfl,.inr ⟨_,rfl,_,rfl⟩⟩
   rw [aA (bG hk (by omega))];exact⟨_,rfl,.inl ⟨rfl,trivial⟩⟩
  ·intro _;rw [if_neg (by omega)];exact⟨_,rfl,_,rfl,trivial⟩
  ·intro a _;rw [aA (bG hi (by omega))];exact⟨_,rfl,.inl ⟨rfl,trivial⟩⟩
  rintro b ⟨r,rfl⟩;exact .inr ⟨_,rfl,trivial⟩
 intro _;rw [if_neg (by omega)];exact⟨_,rfl,_,rfl,trivial⟩
theorem qWZ (l:List Int) (hl:l.length<=1000000000):Tot (jQ l) λ_=>True:=by
 unfold jQ;refine bN (P:=λ_=>True) (bZ l (by omega) (λ_=>True) trivial ?_ ?_) (λ_ _=>tot_some.2 trivial) (λ_ _=>trivial)
 ·intro i e hx _;have hi:=(zQQ.1 hx).1;rw [if_pos (by omega)];refine bN (P:=λo=>match o with|.inl _=>True|.inr b=>∃ r,b=.inr r) (oD i (by omega) (λ_=>True) trivial ?_ ?_) ?_ ?_
  ·intro k hk _;have hk2:=zQR (l:=l) (show k < l.length by omega);rw [if_pos (by omega),aJ hx,aJ hk2];split
   ·exact⟨_,rfl,.inr ⟨_,rfl,_,rfl⟩⟩
   rw [aA (bG hk (by omega))];exact⟨_,rfl,.inl ⟨rfl,trivial⟩⟩
  ·intro _;rw [if_neg (by omega)];exact⟨_,rfl,_,rfl,trivial⟩
  ·intro a _;rw [aA (bG hi (by omega))];exact⟨_,rfl,.inl ⟨rfl,trivial⟩⟩
  rintro b ⟨r,rfl⟩;exact .inr ⟨_,rfl,trivial⟩
 intro _;rw [if_neg (by omega)];exact⟨_,rfl,_,rfl,trivial⟩
theorem zAW (l:List End) (hl:l.length<=1000000000) (ho:∀ e∈l,End.ok e):Tot (lX l) λ_=>True:=by
 unfold lX;refine bN (P:=λ_=>True) (bZ l (by omega) (λ_=>True) trivial ?_ ?_) (λ_ _=>tot_some.2 trivial) (λ_ _=>trivial)
 ·intro i e hx _;have hi:=(zQQ.1 hx).1;rw [if_pos (by omega)];refine bN (P:=λo=>match o with|.inl _=>True|.inr b=>∃ r,b=.inr r) (oD i (by omega) (λ_=>True) trivial ?_ ?_) ?_ ?_
  ·intro k hk _;have hk2:=zQR (l:=l) (show k < l.length by omega);rw [if_pos (by omega),aJ hx,aJ hk2,aA ⟨ho _ (zQM hx),ho _ (zQM hk2)⟩];split
   ·exact⟨_,rfl,.inr ⟨_,rfl,_,rfl⟩⟩
   rw [aA (bG hk (by omega))];exact⟨_,rfl,.inl ⟨rfl,trivial⟩⟩
  ·intro _;rw [if_neg (by omega)];exact⟨_,rfl,_,rfl,trivial⟩
  ·intro a _;rw [aA (bG hi (by omega))];exact⟨_,rfl,.inl ⟨rfl,trivial⟩⟩
  rintro b ⟨r,rfl⟩;exact .inr ⟨_,rfl,trivial⟩
 intro _;rw [if_neg (by omega)];exact⟨_,rfl,_,rfl,trivial⟩
structure LayW (l:Ag):Prop where
 name:l.name.size<=1000000000000000
 Ac:∀ s∈l.Ac,s.size<=1000000000000000
 Ae:∀ x∈l.Ae,Aw.Wf x
 joints:l.joints.length<=100000000/\∀ j∈l.joints,End.ok j.a/\End.ok j.b
 Ah:∀ s∈l.Ah,A0.Wf s
 balises:∀ s∈l.balises,A4.Wf s
structure LayS (l:Ag):Prop where
 Ae:1<=l.Ae.length/\l.Ae.length<=32
 Ac:1<=l.Ac.length/\l.Ac.length<=24
 Ah:l.Ah.length<=20
 balises:l.balises.length<=24
theorem zEI (l:Ag) (hs:LayS l):Tot (mY l) λr=>r.a0=l.Ac/\r.a1=l.Ae.map (·.name)/\r.a2=l.Ah.map (·.name):=by
 have h1:=hs.Ae;have h2:=hs.Ac;have h3:=hs.Ah;refine⟨⟨l.Ac,l.Ae.map (·.name),l.Ah.map (·.name)⟩,?_,rfl,rfl,rfl⟩;unfold mY;rw [List.nil_append,aA (by omega)];rw [iX l.Ae.length (λi=>(l.Ae.take i).map (·.name)) (o:=l.Ae.map (·.name)) (by simp) (by omega) (λi hi=>?_) (by dsimp only;rw [if_neg (by omega),List.take_length];rfl),aH]
 ·rw [iX l.Ah.length (fun i => (l.Ah.take i).map (·.name)) (o := l.Ah.map (·.name)) (by simp) (by omega) (fun i hi => ?_) (by dsimp only; rw [if_neg (by omega), List.take_length]; rfl), aH];have hx:=zQR hi;dsimp only;rw [if_pos (by omega),aJ hx,aA (by simp;omega),aA (bX hi (by omega)),List.take_add_one,hx,List.map_append];rfl
 have hx:=zQR hi;dsimp only;rw [if_pos (by omega),aJ hx,aA (by simp;omega),aA (bX hi (by omega)),List.take_add_one,hx,List.map_append];rfl
theorem zEJ (l:Ag) (hw:LayW l):Tot (mZ l) λr=>r=0->LayS l:=by
 unfold mZ;split
 ·exact tot_some.2 (by intro h;cases h)
 rename_i hc
 have hs:LayS l:=by
  simp only [Bool.or_eq_true,decide_eq_true_eq,not_or] at hc;exact⟨by omega,by omega,by omega,by omega⟩
 have h1:=hs.Ae;have h2:=hs.Ac;have h3:=hs.Ah;refine aE (zEI l hs) ?_;rintro⟨a0,a1,a2⟩ ⟨q0,q1,q2⟩;dsimp only at q0 q1 q2 ⊢;have l0:a0.length<=24:=by rw [q0];omega
 have l1:a1.length<=32:=by rw [q1,zQC];omega
 have l2:a2.length<=20:=by rw [q2,zQC];omega
 have hsz:∀ s∈(([l.name]++a0)++a1)++a2,s.size<=1000000000000000:=by
  intro s hs;simp only [zQN,List.mem_singleton] at hs;rcases hs with ((rfl|hs)|hs)|hs
  ·exact hw.name
  ·rw [q0] at hs;exact hw.Ac s hs
  ·rw [q1] at hs;obtain⟨x,hx,rfl⟩:=List.mem_map.1 hs;have:=pU (hw.Ae x hx).name;exact Nat.le_trans this (by omega)
  rw [q2] at hs;obtain⟨x,hx,rfl⟩:=List.mem_map.1 hs;have:=pU (hw.Ah x hx).name;exact Nat.le_trans this (by omega)
 rw [aA (by simp;omega),aA (by simp;omega),aA (by simp;omega)];refine bN (P:=λo=>match o with|.inl _=>True|.inr b=>b≠0) (bZ ((([l.name]++a0)++a1)++a2) (by simp;omega) (λ_=>True) trivial ?_ ?_) ?_ ?_
 ·intro i e hx _;have hi:=(zQQ.1 hx).1;rw [if_pos (by omega),aJ hx];refine aE (zAS e (hsz e (zQM hx))) λb _=>?_;split
  ·exact⟨_,rfl,.inr ⟨_,rfl,by decide⟩⟩
  rw [aA (bG hi (by simp;omega))];exact⟨_,rfl,.inl ⟨rfl,trivial⟩⟩
 ·intro _;rw [if_neg (by omega)];exact⟨_,rfl,_,rfl,trivial⟩
 ·intro a _;refine aE (P:=λ_=>True) ?_ λb _=>?_
  ·refine aE (qLV a0 (by omega)) fun b _ => ?_;split
   ·exact tot_some.2 trivial
   refine aE (qLV a1 (by omega)) fun b _ => ?_;split
   ·exact tot_some.2 trivial
   exact aE (qLV a2 (by omega)) λb _=>tot_some.2 trivial
  split
  ·exact tot_some.2 λh=>by cases h
  exact tot_some.2 λ_=>hs
 intro b hb h0;exact absurd h0 hb
theorem zEH (l:Ag) (x:Aw):Tot (mX l x) λr=>r=true->1<=x.kind/\x.kind<=3/\500<=x.length/\x.length<=1000000/\0<=x.As/\x.As < (l.Ac.length:Int):=by
 unfold mX;split
 ·exact tot_some.2 (by simp)
 rename_i hc;simp only [Bool.or_eq_true,decide_eq_true_eq,not_or] at hc;have:1<=x.kind/\x.kind<=3/\500<=x.length/\x.length<=1000000/\0<=x.As/\x.As < (l.Ac.length:Int):=by omega
 split<;>exact tot_some.2 λ_=>this
theorem qXA (l:Ag) (s:Int) (hl:l.Ae.length<=1000):Tot (jS l s) λr=>r.length<=l.Ae.length:=by
 unfold jS;refine aE (P:=λr=>r.length<=l.Ae.length) (cE (λi s=>s.1=(i:Int)/\s.2.length<=i) l.Ae.length (by omega) ⟨rfl,Nat.zero_le _⟩ ?_ ?_) λa h=>tot_some.2 h
 ·rintro i ⟨x,b⟩ hi ⟨h1,h2⟩;dsimp only at h1 h2;subst h1;dsimp only;rw [if_pos (by omega),aJ (zQR hi)];split
  ·rw [aA (by simp; omega), aA (bG hi (by omega))];exact tot_some.2 ⟨by push_cast;rfl,by simp;omega⟩
  rw [aA (bG hi (by omega))];exact tot_some.2 ⟨by push_cast;rfl,by show b.length<=i+1;omega⟩
 rintro⟨x,b⟩ ⟨h1,h2⟩;dsimp only at h1 h2;subst h1;dsimp only;rw [if_neg (by omega)];exact tot_some.2 h2
theorem qSQ (l:Ag) (hw:LayW l) (hs:LayS l):Tot (iT l) λr=>r=0->(∀ x∈l.Ae,1<=x.kind/\x.kind<=3/\500<=x.length/\x.length<=1000000/\0<=x.As/\x.As < (l.Ac.length:Int))/\(∀ j∈l.joints,dZ l j.a/\dZ l j.b):=by
 have h1:=hs.Ae;have h2:=hs.Ac;have h3:=hw.joints;unfold iT;refine bN (P:=λo=>match o with|.inl _=>∀ x∈l.Ae,1<=x.kind/\x.kind<=3/\500<=x.length/\x.length<=1000000/\0<=x.As/\x.As < (l.Ac.length:Int)|.inr b=>b≠0) (bZ l.Ae (by omega) (λi=>∀ k x,k < i->l.Ae[k]?=some x->1<=x.kind/\x.kind<=3/\500<=x.length/\x.length<=1000000/\0<=x.As/\x.As < (l.Ac.length:Int)) (λk x hk=>absurd hk (zQV k)) ?_ ?_) ?_ (λb hb h0=>absurd h0 hb)
 ·intro i e hx hI;have hi:=(zQQ.1 hx).1;rw [if_pos (by omega),aJ hx];refine aE (zEH l e) λr hr=>?_
  cases r with
  | false=>exact⟨_,rfl,.inr ⟨_,rfl,(by decide:(1:Int)≠0)⟩⟩
  | true=>
   rw [if_neg (by simp),aA (bG hi (by omega))];refine⟨_,rfl,.inl ⟨rfl,λk x hk hkx=>?_⟩⟩;rcases Nat.lt_or_ge k i with h|h
   ·exact hI k x h hkx
   obtain rfl : k = i := by omega
   rw [hx] at hkx;cases hkx;exact hr rfl
 ·intro hI;rw [if_neg (by omega)];refine⟨_,rfl,_,rfl,λx hx=>?_⟩;obtain⟨k,hk⟩:=List.getElem?_of_mem hx;exact hI k x (zQQ.1 hk).1 hk
 intro _ hright;refine bN (P:=λo=>match o with|.inl _=>True|.inr b=>b≠0) (oD l.Ac.length (by omega) (λ_=>True) trivial ?_ ?_) ?_ (λb hb h0=>absurd h0 hb)
 ·intro i hi _;rw [if_pos (by omega)];refine aE (qXA l i (by omega)) λr _=>?_;split
  ·exact⟨_,rfl,.inr ⟨_,rfl,(by decide:(1:Int)≠0)⟩⟩
  rw [aA (bG hi (by omega))];exact⟨_,rfl,.inl ⟨rfl,trivial⟩⟩
 ·intro _;rw [if_neg (by omega)];exact⟨_,rfl,_,rfl,trivial⟩
 intro _ _;refine bN (P:=λo=>match o with|.inl b=>(b.length=2 * l.joints.length/\∀ e∈b,End.ok e)/\∀ j∈l.joints,dZ l j.a/\dZ l j.b|.inr b=>b≠0) (cE (λi s=>s.1=(i:Int)/\s.2.length=2 * i/\(∀ e∈s.2,End.ok e)/\∀ k j,k < i->l.joints[k]?=some j->dZ l j.a/\dZ l j.b) l.joints.length (by omega) ⟨rfl,rfl,λe he=>(by cases he),λk x hk=>absurd hk (zQV k)⟩ ?_ ?_) ?_ (λb hb h0=>absurd h0 hb)
 ·rintro i ⟨x,b⟩ hi ⟨q1,q2,q3,q4⟩;dsimp only at q1 q2 q3 q4;subst q1;dsimp only;have hx:=zQR hi;have hm:=List.getElem_mem hi;rw [if_pos (by omega),aJ hx];refine aE (P:=λr=>r=false->dZ l l.joints[i].a/\dZ l l.joints[i].b) ?_ λr hr=>?_
  ·refine aE (qGA l _) fun r1 hr1 => ?_
   cases r1 with
   | false=>exact tot_some.2 (by simp)
   | true=>
    rw [if_neg (by simp)];refine aE (qGA l _) λr2 hr2=>?_
    cases r2 with
    | false=>exact tot_some.2 (by simp)
    | true=>
     rw [if_neg (by simp),aA (h3.2 _ hm)];exact tot_some.2 λ_=>⟨hr1 rfl,hr2 rfl⟩
  cases r with
  | true=>exact⟨_,rfl,(by decide:(1:Int)≠0)⟩
  | false=>
   rw [if_neg (by simp),aA (by simp;omega),aA (bG hi (by omega))];refine tot_some.2 ⟨by push_cast;rfl,by simp;omega,?_,?_⟩
   ·intro e he;rcases zQN.1 he with he|he
    ·exact q3 e he
    simp only [zQB,List.not_mem_nil,or_false] at he;rcases he with rfl|rfl
    ·exact (h3.2 _ hm).1
    exact (h3.2 _ hm).2
   intro k j hk hkx;rcases Nat.lt_or_ge k i with h|h
   ·exact q4 k j h hkx
   obtain rfl : k = i := by omega
   rw [hx] at hkx;cases hkx;exact hr rfl
 ·rintro⟨x,b⟩ ⟨q1,q2,q3,q4⟩;dsimp only at q1 q2 q3 q4;subst q1;dsimp only;rw [if_neg (by omega)];refine⟨_,rfl,⟨q2,q3⟩,λx hx=>?_⟩;obtain⟨k,hk⟩:=List.getElem?_of_mem hx;exact q4 k x (zQQ.1 hk).1 hk
 rintro b ⟨⟨q2,q3⟩,q4⟩;refine aE (zAW b (by omega) q3) λr _=>?_;split
 ·exact tot_some.2 λh=>by cases h
 exact tot_some.2 λ_=>⟨hright,q4⟩
theorem zAT (l:Ag) (e:End) (hw:LayW l) (he:End.ok e):Tot (dU l e) λr=>(r.2=true->∃ j∈l.joints,r.1=j.a\/r.1=j.b)/\End.ok r.1:=by
 have h3:=hw.joints;unfold dU;refine bN (P:=λo=>match o with|.inl _=>True|.inr r=>(r.2=true->∃ j∈l.joints,r.1=j.a\/r.1=j.b)/\End.ok r.1) (bZ l.joints (by omega) (λ_=>True) trivial ?_ ?_) ?_ (λb hb=>hb)
 ·intro i j hx _;have hi:=(zQQ.1 hx).1;have hm:=zQM hx;have ho:=h3.2 j hm;rw [if_pos (by omega),aJ hx,aA ⟨ho.1,he⟩];split
  ·exact⟨_,rfl,.inr ⟨_,rfl,λ_=>⟨j,hm,.inr rfl⟩,ho.2⟩⟩
  rw [aA ⟨ho.2,he⟩];split
  ·exact⟨_,rfl,.inr ⟨_,rfl,λ_=>⟨j,hm,.inl rfl⟩,ho.1⟩⟩
  rw [aA (bG hi (by omega))];exact⟨_,rfl,.inl ⟨rfl,trivial⟩⟩
 ·intro _;rw [if_neg (by omega)];exact⟨_,rfl,_,rfl,trivial⟩
 intro _ _;exact tot_some.2 ⟨λh=>(by cases h),by show I64 0/\I64 0;unfold I64;omega⟩
structure LayK (l:Ag):Prop where
 w:LayW l
 s:LayS l
 right:∀ x∈l.Ae,1<=x.kind/\x.kind<=3/\500<=x.length/\x.length<=1000000/\0<=x.As/\x.As < (l.Ac.length:Int)
 joints:∀ j∈l.joints,dZ l j.a/\dZ l j.b
theorem sL (l:Ag) (e:End) (hk:LayK l) (he:End.ok e):Tot (dU l e) λr=>(r.2=true->dZ l r.1)/\End.ok r.1:=
 jI (zAT l e hk.w he) fun r ⟨h1, h2⟩ => ⟨fun h => by
  obtain ⟨j, hj, hr | hr⟩ := h1 h
  ·rw [hr]; exact (hk.joints j hj).1
  rw [hr]; exact (hk.joints j hj).2, h2⟩
theorem qWW (l:Ag) (hk:LayK l):Tot (jP l) λr=>r=0->∀ s∈l.Ah,dZ l s.atV/\0<=s.overlap/\s.overlap<=1000000:=by
 have h1:=hk.s.Ae;have h2:=hk.s.Ah;unfold jP;refine bN (P:=λo=>match o with|.inl b=>b.length=l.Ah.length/\(∀ e∈b,dZ l e)/\∀ s∈l.Ah,dZ l s.atV/\0<=s.overlap/\s.overlap<=1000000|.inr b=>b≠0) (cE (λi s=>s.1=(i:Int)/\s.2.length=i/\(∀ e∈s.2,dZ l e)/\∀ k j,k < i->l.Ah[k]?=some j->dZ l j.atV/\0<=j.overlap/\j.overlap<=1000000) l.Ah.length (by omega) ⟨rfl,rfl,λe he=>(by cases he),λk x hk=>absurd hk (zQV k)⟩ ?_ ?_) ?_ (λb hb h0=>absurd h0 hb)
 ·rintro i ⟨x,b⟩ hi ⟨q1,q2,q3,q4⟩;dsimp only at q1 q2 q3 q4;subst q1;dsimp only;have hx:=zQR hi;rw [if_pos (by omega),aJ hx];refine aE (P:=λr=>r=false->dZ l l.Ah[i].atV/\0<=l.Ah[i].overlap/\l.Ah[i].overlap<=1000000) ?_ λr hr=>?_
  ·refine aE (qGA l _) fun r1 hr1 => ?_
   cases r1 with
   | false=>exact tot_some.2 (by simp)
   | true=>
    rw [if_neg (by simp)];split
    ·exact tot_some.2 (by simp)
    exact tot_some.2 λh=>⟨hr1 rfl,by omega,by have:=of_decide_eq_false h;omega⟩
  cases r with
  | true=>exact⟨_,rfl,(by decide:(1:Int)≠0)⟩
  | false=>
   rw [if_neg (by simp),aA (by simp;omega),aA (bG hi (by omega))];refine tot_some.2 ⟨by push_cast;rfl,by simp;omega,?_,?_⟩
   ·intro e he;rcases zQN.1 he with he|he
    ·exact q3 e he
    rw [List.mem_singleton] at he;subst he;exact (hr rfl).1
   intro k j hk hkx;rcases Nat.lt_or_ge k i with h|h
   ·exact q4 k j h hkx
   obtain rfl : k = i := by omega
   rw [hx] at hkx;cases hkx;exact hr rfl
 ·rintro⟨x,b⟩ ⟨q1,q2,q3,q4⟩;dsimp only at q1 q2 q3 q4;subst q1;dsimp only;rw [if_neg (by omega)];refine⟨_,rfl,q2,q3,λx hx=>?_⟩;obtain⟨k,hk⟩:=List.getElem?_of_mem hx;exact q4 k x (zQQ.1 hk).1 hk
 rintro b ⟨q2,q3,q4⟩;have hok:∀ e∈b,End.ok e:=λe he=>qBI (q3 e he) (by omega);refine aE (zAW b (by omega) hok) λr _=>?_;split
 ·exact tot_some.2 λh=>by cases h
 refine bN (P := fun o => match o with | .inl _ => True | .inr b => b ≠ 0) (bZ b (by omega) (fun _ => True) trivial ?_ ?_) ?_ (fun b hb h0 => absurd h0 hb)
 ·intro i e hx _;have hi:=(zQQ.1 hx).1;have hm:=zQM hx;rw [if_pos (by omega),aJ hx];refine aE (sL l e hk (hok e hm)) ?_;rintro⟨f,y⟩ ⟨hf,_⟩;dsimp only at hf ⊢;refine aE (P:=λ_=>True) ?_ λr _=>?_
  ·cases y with
   | false=>exact tot_some.2 trivial
   | true=>
    have hf:=hf rfl;have he:=q3 e hm;rw [if_neg (by simp)];exact cX hf.1 hf.2.1 λ_ _ _=>cX he.1 he.2.1 λ_ _ _=>tot_some.2 trivial
  split
  ·exact⟨_,rfl,.inr ⟨_,rfl,(by decide:(14:Int)≠0)⟩⟩
  rw [aA (bG hi (by omega))];exact⟨_,rfl,.inl ⟨rfl,trivial⟩⟩
 ·intro _;rw [if_neg (by omega)];exact⟨_,rfl,_,rfl,trivial⟩
 intro _ _;exact tot_some.2 λ_=>q4
theorem qXD (l:Ag) (hk:LayK l):Tot (jR l) λ_=>True:=by
 have h1:=hk.s.balises;unfold jR;refine bN (P:=λo=>match o with|.inl b=>b.length=l.balises.length|.inr b=>True) (cE (λi s=>s.1=(i:Int)/\s.2.length=i) l.balises.length (by omega) ⟨rfl,rfl⟩ ?_ ?_) ?_ (λb hb=>trivial)
 ·rintro i ⟨x,b⟩ hi ⟨q1,q2⟩;dsimp only at q1 q2;subst q1;dsimp only;have hx:=zQR hi;rw [if_pos (by omega),aJ hx];refine aE (P:=λ_=>True) ?_ λr _=>?_
  ·split
   ·exact tot_some.2 trivial
   split
   ·exact tot_some.2 trivial
   split
   ·exact tot_some.2 trivial
   split
   ·exact tot_some.2 trivial
   split
   ·exact tot_some.2 trivial
   exact cX (by omega) (by omega) λ_ _ _=>tot_some.2 trivial
  split
  ·exact⟨_,rfl,trivial⟩
  rw [aA (by simp; omega), aA (bG hi (by omega))];exact tot_some.2 ⟨by push_cast;rfl,by simp;omega⟩
 ·rintro⟨x,b⟩ ⟨q1,q2⟩;dsimp only at q1 q2;subst q1;dsimp only;rw [if_neg (by omega)];exact⟨_,rfl,q2⟩
 intro b hb;have hb:b.length=l.balises.length:=hb;refine aE (qWZ b (by omega)) λr _=>?_;split<;>exact tot_some.2 trivial
structure LayC (l:Ag):Prop where
 k:LayK l
 sigs:∀ s∈l.Ah,dZ l s.atV/\0<=s.overlap/\s.overlap<=1000000
theorem qJA (l:Ag) (hw:LayW l):Tot (iV l) λr=>r=0->LayC l:=by
 unfold iV;refine aE (zEJ l hw) λr1 h1=>?_;split
 ·rename_i e1;have hs:=h1 e1;refine aE (qSQ l hw hs) λr2 h2=>?_;split
  ·rename_i e2;have hk:LayK l:=⟨hw,hs,(h2 e2).1,(h2 e2).2⟩;refine aE (qWW l hk) λr3 h3=>?_;split
   ·rename_i e3;exact aE (qXD l hk) λr4 _=>tot_some.2 λ_=>⟨hk,h3 e3⟩
   rename_i e3;exact tot_some.2 λh=>absurd h e3
  rename_i e2;exact tot_some.2 λh=>absurd h e2
 rename_i e1;exact tot_some.2 λh=>absurd h e1
theorem qZO:∀ k:Fin 3,∀ a:Fin 4,((lY ((k.val:Int)+1) (a.val:Int)).any λr=>decide (r.length<=2)&&r.all λx=>decide (0<=x/\x < 4))=true:=by decide+kernel
theorem zAR {k a b:Int} (h:a < 0\/4<=a) (hb:0<=b/\b < 4):eL k a b=some (0,false):=by
 have h1:¬ (min a b=0/\max a b=1):=by omega
 have h2:¬ (min a b=2/\max a b=3):=by omega
 have h3:¬ (min a b=0/\max a b=2):=by omega
 unfold eL
 have e1:(bif decide (min a b=0) then (decide (max a b=1)||(decide (k=3)&&(decide (min a b=2)&&decide (max a b=3)))) else (decide (k=3)&&(decide (min a b=2)&&decide (max a b=3))))=false:=by
  by_cases q1:min a b=0
  ·have q2 : ¬ max a b = 1 := fun h => h1 ⟨q1, h⟩;have q3:¬ min a b=2:=by omega
   simp [q1,q2]
  by_cases q3:min a b=2
  ·have q4 : ¬ max a b = 3 := fun h => h2 ⟨q3, h⟩;simp [q3,q4]
  simp [q1,q3]
 rw [e1];split
 ·rfl
 rw [if_neg (by simp only [zQA,decide_eq_true_eq];omega),if_neg (by simp only [zQA,decide_eq_true_eq];omega)]
theorem Legs_t {k:Int} (a:Int) (hk:1<=k/\k<=3):Tot (lY k a) λr=>r.length<=2/\∀ x∈r,0<=x/\x < 4:=by
 by_cases ha:a < 0\/4<=a
 ·refine ⟨[], ?_, by simp, by simp⟩;unfold lY;rw [iX 4 (λ_=>[]) (o:=[]) rfl (by omega) (λi hi=>?_) (by dsimp only;rw [if_neg (by omega)];rfl)]
  ·rfl
  dsimp only;rw [if_pos (by omega),zAR ha (by omega),aH];dsimp only;rw [if_neg Bool.false_ne_true,aA (bG (n:=4) hi (by omega))]
 have h := qZO ⟨(k - 1).toNat, by omega⟩ ⟨a.toNat, by omega⟩;dsimp only at h;rw [show (((k - 1).toNat:Int)+1)=k by omega,show ((a.toNat:Int))=a by omega,Option.any_eq_true] at h;obtain⟨r,h1,h2⟩:=h;simp only [zQA,decide_eq_true_eq,zQT] at h2;exact⟨r,h1,h2⟩
def jB (l:Ag) (s:Am):Prop:=0<=s.el/\s.el < (l.Ae.length:Int)/\0<=s.out/\s.out < 4/\I64 s.inV
theorem xX {l:Ag} {s:Am} (hk:LayK l) (h:jB l s):End.ok ⟨s.el,s.out⟩:=by
 have:=hk.s.Ae;obtain⟨h1,h2,h3,h4,_⟩:=h;show I64 s.el/\I64 s.out;unfold I64;omega
theorem zF (l:Ag) (i:Int):fR l i=some (decide (0<=i/\i < (l.Ae.length:Int))):=by
 unfold fR;rw [<- Bool.decide_and]
theorem qGD {l:Ag} (hk:LayK l) (e:End) (he:End.ok e):Tot (gA l e) λr=>r.length<=2/\∀ s∈r,jB l s:=by
 have hl:=hk.s.Ae;unfold gA;rw [zF,aH];by_cases hx:0<=e.el/\e.el < (l.Ae.length:Int)
 ·rw [decide_eq_true hx, if_neg (by simp)];refine cX hx.1 hx.2 λx hxm _=>?_;have hr:=hk.right x hxm;refine aE (Legs_t e.side ⟨hr.1,hr.2.1⟩) ?_;rintro r ⟨h1,h2⟩;refine aE (P:=λr=>r.length<=2/\∀ s∈r,jB l s) (cE (λi s=>s.1=(i:Int)/\s.2.length<=i/\∀ x∈s.2,jB l x) r.length (by omega) ⟨rfl,Nat.zero_le _,λx h=>(by cases h)⟩ ?_ ?_) λa h=>tot_some.2 h
  ·rintro i ⟨y,b⟩ hi ⟨q1,q2,q3⟩;dsimp only at q1 q2 q3;subst q1;dsimp only;have hy:=zQR hi;have hm:=h2 _ (List.getElem_mem hi);rw [if_pos (by omega),aJ hy,aA (by simp;omega),aA (bG hi (by omega))];refine tot_some.2 ⟨by push_cast;rfl,by simp;omega,?_⟩;intro s hs;rcases zQN.1 hs with hs|hs
   ·exact q3 s hs
   rw [List.mem_singleton] at hs;subst hs;exact⟨hx.1,hx.2,hm.1,hm.2,he.2⟩
  rintro⟨y,b⟩ ⟨q1,q2,q3⟩;dsimp only at q1 q2 q3;subst q1;dsimp only;rw [if_neg (by omega)];exact⟨_,rfl,by omega,q3⟩
 rw [decide_eq_false hx, if_pos (by rfl)];exact tot_some.2 ⟨by simp,by simp⟩
theorem qEG (l:Ag) (s:Am):Tot (kF l s) λr=>0<=r.1/\r.1<=2/\(r.2=true->0<=s.el/\s.el < (l.Ae.length:Int)):=by
 unfold kF;rw [zF,aH];by_cases hx:0<=s.el/\s.el < (l.Ae.length:Int)
 ·rw [decide_eq_true hx, if_neg (by simp)];refine cX hx.1 hx.2 λx _ _=>?_;refine aE (qSP _ _ _) ?_;rintro⟨a,b⟩ ⟨h1,h2⟩;exact tot_some.2 ⟨h1,h2,λ_=>hx⟩
 rw [decide_eq_false hx, if_pos (by rfl)];exact tot_some.2 ⟨by decide,by decide,λh=>by cases h⟩
theorem qLW {l:Ag} (hk:LayK l) {s:Am} (h:jB l s):Tot (fB l s) λr=>(r.2=true->dZ l r.1)/\End.ok r.1:=by
 unfold fB;refine aE (sL l _ hk (xX hk h)) ?_;rintro⟨a,b⟩ h;exact tot_some.2 h
theorem zEE {l:Ag} (hk:LayK l) {w:List Am} (h:∀ s∈w,jB l s):Tot (gL l w) λ_=>True:=by
 unfold gL;split
 ·exact tot_some.2 trivial
 rename_i hc;simp only [Bool.or_eq_true,decide_eq_true_eq,not_or] at hc;refine bN (P:=λ_=>True) (bZ w (by omega) (λ_=>True) trivial ?_ ?_) (λ_ _=>tot_some.2 trivial) (λ_ _=>trivial)
 ·intro i e hx _;have hi:=(zQQ.1 hx).1;rw [if_pos (by omega)];refine bN (P:=λo=>match o with|.inl _=>True|.inr b=>∃ r,b=.inr r) ?_ ?_ ?_
  ·rw [aJ hx];refine aE (qEG l e) ?_;rintro⟨a,b⟩ _;dsimp only;split
   ·exact⟨_,rfl,_,rfl⟩
   refine bN (P := fun o => match o with | .inl _ => True | .inr b => match b with | .inl _ => False | .inr c => ∃ r, c = .inr r) ?_ ?_ ?_
   ·split
    ·rename_i hz;have hy:=zQR (l:=w) (show i - 1 < w.length by omega);rw [aA (by unfold I64;omega),show (i:Int) - 1=((i - 1:Nat):Int) by omega,aJ hy];refine aE (qLW hk (h _ (List.getElem_mem _))) ?_;rintro⟨f,j⟩ _;dsimp only;refine aE (P:=λ_=>True) ?_ λr _=>?_
     ·split
      ·exact tot_some.2 trivial
      rw [aJ hx];split
      ·rw [aJ hx];exact tot_some.2 trivial
      exact tot_some.2 trivial
     split
     ·exact⟨_,rfl,_,rfl⟩
     exact⟨_,rfl,trivial⟩
    exact⟨_,rfl,trivial⟩
   ·intro _ _;refine oD i (by omega) (λ_=>True) trivial ?_ ?_
    ·intro k hk2 _;have hy:=zQR (l:=w) (show k < w.length by omega);rw [if_pos (by omega),aJ hy,aJ hx];split
     ·exact⟨_,rfl,.inr ⟨_,rfl,_,rfl⟩⟩
     rw [aA (bG hk2 (by omega))];exact⟨_,rfl,.inl ⟨rfl,trivial⟩⟩
    intro _;rw [if_neg (by omega)];exact⟨_,rfl,_,rfl,trivial⟩
   intro b hb
   cases b with
   | inl _=>exact hb.elim
   | inr c=>exact hb
  ·intro a _;rw [aA (bG hi (by omega))];exact⟨_,rfl,.inl ⟨rfl,trivial⟩⟩
  rintro b ⟨r,rfl⟩;exact .inr ⟨_,rfl,trivial⟩
 intro _;rw [if_neg (by omega)];exact⟨_,rfl,_,rfl,trivial⟩
theorem qWY {l:Ag} (i:Int):Tot (dK l i) λr=>(0<=i/\i < (l.Ae.length:Int)/\∃ x∈l.Ae,r=x.As)\/r=-1:=by
 unfold dK;split
 ·exact tot_some.2 (.inr rfl)
 rename_i hc;simp only [Bool.or_eq_true,decide_eq_true_eq,not_or] at hc;exact cX (by omega) (by omega) λx hx _=>tot_some.2 (.inl ⟨by omega,by omega,x,hx,rfl⟩)
theorem qB {l:Ag} (i:Int):Tot (dK l i) λ_=>True:=jI (qWY i) λ_ _=>trivial
theorem zCO (l:List Int) (n:Int) (hl:l.length<=1000000000):Tot (rU l n) λ_=>True:=by
 unfold rU;refine bN (P:=λ_=>True) (bZ l (by omega) (λ_=>True) trivial ?_ ?_) (λ_ _=>tot_some.2 trivial) (λ_ _=>trivial)
 ·intro i e hx _;have hi:=(zQQ.1 hx).1;rw [if_pos (by omega),aJ hx];split
  ·exact⟨_,rfl,.inr ⟨_,rfl,trivial⟩⟩
  rw [aA (bG hi (by omega))];exact⟨_,rfl,.inl ⟨rfl,trivial⟩⟩
 intro _;rw [if_neg (by omega)];exact⟨_,rfl,_,rfl,trivial⟩
theorem xQ {l:Ag} {w:List Am} (hw:w.length<=100000000):Tot (fA l w) λr=>r.length<=w.length:=by
 unfold fA;refine aE (P:=λr=>r.length<=w.length) (cE (λi s=>s.1=(i:Int)/\s.2.length<=i) w.length (by omega) ⟨rfl,Nat.zero_le _⟩ ?_ ?_) λa h=>tot_some.2 h
 ·rintro i ⟨y,b⟩ hi ⟨q1,q2⟩;dsimp only at q1 q2;subst q1;dsimp only;have hx:=zQR hi;rw [if_pos (by omega)];refine aE (P:=λr=>r=true->0<=w[i].el/\w[i].el < (l.Ae.length:Int)) ?_ λr hr=>?_
  ·rw [aJ hx,zF,aH];by_cases hc:0<=w[i].el/\w[i].el < (l.Ae.length:Int)
   ·rw [decide_eq_true hc,if_pos rfl,aJ hx];refine cX hc.1 hc.2 λx _ _=>?_;exact aE (zCO _ _ (by omega)) λ_ _=>tot_some.2 λ_=>hc
   rw [decide_eq_false hc,if_neg Bool.false_ne_true];exact tot_some.2 (by simp)
  cases r with
  | false=>
   rw [if_neg Bool.false_ne_true,aA (bG hi (by omega))];exact tot_some.2 ⟨by push_cast;rfl,by show b.length<=i+1;omega⟩
  | true=>
   have hr:=hr rfl;rw [if_pos rfl,aJ hx];refine cX hr.1 hr.2 λx _ _=>?_;rw [aA (by simp;omega),aA (bG hi (by omega))];exact tot_some.2 ⟨by push_cast;rfl,by simp;omega⟩
 rintro⟨y,b⟩ ⟨q1,q2⟩;dsimp only at q1 q2;subst q1;dsimp only;rw [if_neg (by omega)];exact⟨_,rfl,q2⟩
theorem qFZ {l:Ag} (hk:LayK l) {w:List Am} (hw:w.length<=1000000):Tot (gQ l w) λr=>0<=r/\r<=1000000 * (w.length:Int):=by
 unfold gQ;refine aE (P:=λr=>0<=r/\r<=1000000 * (w.length:Int)) (cE (λi s=>s.2=(i:Int)/\0<=s.1/\s.1<=1000000 * (i:Int)) w.length (by omega) ⟨rfl,Int.le_refl _,Int.le_refl _⟩ ?_ ?_) λa h=>tot_some.2 h
 ·rintro i ⟨a,y⟩ hi ⟨q1,q2,q3⟩;dsimp only at q1 q2 q3;subst q1;dsimp only;have hx:=zQR hi;rw [if_pos (by omega),aJ hx,zF,aH];by_cases hc:0<=w[i].el/\w[i].el < (l.Ae.length:Int)
  ·rw [decide_eq_true hc,if_pos rfl,aJ hx];refine cX hc.1 hc.2 λx hxm _=>?_;have hr:=hk.right x hxm;rw [aA (by unfold I64;omega),aA (bG hi (by omega))];refine tot_some.2 ⟨by push_cast;rfl,by show 0<=a+x.length;omega,by show a+x.length<=_;push_cast;omega⟩
  rw [decide_eq_false hc, if_neg Bool.false_ne_true, aA (bG hi (by omega))];exact tot_some.2 ⟨by push_cast;rfl,q2,by show a<=_;push_cast;omega⟩
 rintro⟨a,y⟩ ⟨q1,q2,q3⟩;dsimp only at q1 q2 q3;subst q1;dsimp only;rw [if_neg (by omega)];exact⟨_,rfl,q2,q3⟩
theorem qRQ {l:List Aa} {s:Aa} (hl:l.length<=1000000) (ho:∀ x∈l,Aa.ok x) (hs:Aa.ok s):Tot (lD l s) λr=>r.length<=l.length+1/\∀ x∈r,Aa.ok x:=by
 unfold lD;refine aE (P:=λo=>0<=o.1/\o.1<=(l.length:Int)/\(o.2.length:Int)=o.1/\∀ x∈o.2,Aa.ok x) (cE (λi s=>s.1=(i:Int)/\s.2.length=i/\∀ x∈s.2,Aa.ok x) l.length (by omega) ⟨rfl,rfl,λx h=>(by cases h)⟩ ?_ ?_) ?_
 ·rintro i ⟨y,b⟩ hi ⟨q1,q2,q3⟩;dsimp only at q1 q2 q3;subst q1;dsimp only;have hx:=zQR hi;rw [if_pos (by omega)];refine aE (P:=λ_=>True) ?_ λr _=>?_
  ·rw [aJ hx];split
   ·exact tot_some.2 trivial
   rw [aJ hx];split
   ·rw [aJ hx];exact tot_some.2 trivial
   exact tot_some.2 trivial
  split
  ·rw [aJ hx, aA (by simp; omega), aA (bG hi (by omega))];refine tot_some.2 ⟨by push_cast;rfl,by simp;omega,?_⟩;intro x hxm;rcases zQN.1 hxm with hxm|hxm
   ·exact q3 x hxm
   rw [List.mem_singleton] at hxm;subst hxm;exact ho _ (List.getElem_mem hi)
  exact⟨_,rfl,by dsimp only;omega,by dsimp only;omega,by dsimp only;omega,q3⟩
 ·rintro⟨y,b⟩ ⟨q1,q2,q3⟩;dsimp only at q1 q2 q3;subst q1;dsimp only;rw [if_neg (by omega),aH,if_neg Bool.false_ne_true];exact⟨_,rfl,by dsimp only;omega,by dsimp only;omega,by dsimp only;omega,q3⟩
 rintro⟨i,b⟩ ⟨q1,q2,q3,q4⟩;dsimp only at q1 q2 q3 q4 ⊢;refine aE (P:=λr=>r.length<=b.length+1/\∀ x∈r,Aa.ok x) ?_ ?_
 ·refine aE (P := fun _ => True) ?_ fun r _ => ?_
  ·split
   ·exact tot_some.2 trivial
   refine cX q1 (by omega) fun x hx _ => ?_;rw [aA ⟨ho x hx,hs⟩];exact tot_some.2 trivial
  split
  ·rw [aA (by simp; omega)];refine tot_some.2 ⟨by simp,?_⟩;intro x hxm;rcases zQN.1 hxm with hxm|hxm
   ·exact q4 x hxm
   rw [List.mem_singleton] at hxm;subst hxm;exact hs
  exact tot_some.2 ⟨by omega,q4⟩
 rintro c ⟨c1,c2⟩
 have hsub:(sub l i (l.length:Int))=l.drop i.toNat:=by
  have:=kU l i.toNat;rw [show ((i.toNat:Nat):Int)=i by omega] at this;exact this
 have hlen:(sub l i (l.length:Int)).length=l.length - i.toNat:=by rw [hsub,List.length_drop]
 rw [aA ⟨q1,q2,Int.le_refl _⟩,aA (by rw [zQL,hlen];omega)];refine tot_some.2 ⟨by rw [zQL,hlen];omega,?_⟩;intro x hxm;rcases zQN.1 hxm with hxm|hxm
 ·exact c2 x hxm
 rw [hsub] at hxm;exact ho x (List.mem_of_mem_drop hxm)
theorem zR {l:Ag} (hk:LayK l) {w:List Am} (hw:w.length<=1000):Tot (fZ l w) λr=>r.length<=w.length/\∀ x∈r,Aa.ok x:=by
 have hl:=hk.s.Ae;unfold fZ;refine aE (P:=λr=>r.length<=w.length/\∀ x∈r,Aa.ok x) (cE (λi s=>s.2=(i:Int)/\s.1.length<=i/\∀ x∈s.1,Aa.ok x) w.length (by omega) ⟨rfl,Nat.zero_le _,λx h=>(by cases h)⟩ ?_ ?_) λa h=>tot_some.2 h
 ·rintro i ⟨b,y⟩ hi ⟨q1,q2,q3⟩;dsimp only at q1 q2 q3;subst q1;dsimp only;have hx:=zQR hi;rw [if_pos (by omega),aJ hx];refine aE (qEG l _) ?_;rintro⟨p,ok⟩ ⟨p1,p2,p3⟩;dsimp only at p1 p2 p3 ⊢;split
  ·rename_i hc;simp only [zQA] at hc;have hr:=p3 hc.1;rw [aJ hx];refine aE (qRQ (s:=⟨w[i].el,p⟩) (by omega) q3 (by show I64 _/\I64 _;unfold I64;dsimp only;omega)) ?_;rintro r ⟨r1,r2⟩;rw [aA (bG hi (by omega))];exact tot_some.2 ⟨by push_cast;rfl,by show r.length<=i+1;omega,r2⟩
  rw [aA (bG hi (by omega))];exact tot_some.2 ⟨by push_cast;rfl,by show b.length<=i+1;omega,q3⟩
 rintro⟨b,y⟩ ⟨q1,q2,q3⟩;dsimp only at q1 q2 q3;subst q1;dsimp only;rw [if_neg (by omega)];exact⟨_,rfl,q2,q3⟩
theorem qQF {l:Ag} (hk:LayK l) {e:End} (he:End.ok e):Tot (gS l e) λr=>-1<=r/\r < (l.Ah.length:Int):=by
 have hl:=hk.s.Ah;unfold gS;refine bN (P:=λo=>match o with|.inl _=>True|.inr r=>-1<=r/\r < (l.Ah.length:Int)) (bZ l.Ah (by omega) (λ_=>True) trivial ?_ ?_) (λ_ _=>tot_some.2 (by omega)) (λ_ h=>h)
 ·intro i s hx _;have hi:=(zQQ.1 hx).1;have hs:=(hk.w.Ah s (zQM hx)).atV;rw [if_pos (by omega),aJ hx,aA ⟨⟨hs.el,hs.side⟩,he⟩];split
  ·exact⟨_,rfl,.inr ⟨_,rfl,by omega,by omega⟩⟩
  rw [aA (bG hi (by omega))];exact⟨_,rfl,.inl ⟨rfl,trivial⟩⟩
 intro _;rw [if_neg (by omega)];exact⟨_,rfl,_,rfl,trivial⟩
theorem Fits_t {l:Ag} (hk:LayK l) (e:End) {w:List Am} (h:∀ s∈w,jB l s) (hw:w.length<=100):Tot (pH l e w) λr=>r=true->w≠[]/\w.length<=12:=by
 unfold pH;refine aE (P:=λr=>r=false->w≠[]/\w.length<=12) ?_ λr hr=>?_
 ·split
  ·exact tot_some.2 (by simp)
  rename_i h0;split
  ·exact tot_some.2 (by simp)
  rename_i h12;have hne:w≠[]/\w.length<=12:=⟨λe=>h0 (by rw [e];rfl),by omega⟩;refine cX (by omega) (by omega) λx _ _=>?_;split
  ·refine cX (by omega) (by omega) fun x _ _ => ?_;split
   ·exact aE (zEE hk h) λ_ _=>tot_some.2 λ_=>hne
   exact tot_some.2 (by simp)
  exact tot_some.2 (by simp)
 cases r with
 | true=>exact tot_some.2 (by simp)
 | false=>
  have hr:=hr rfl;have hpos:0 < w.length:=List.length_pos_iff.2 hr.1;rw [if_neg Bool.false_ne_true];refine aE (P:=λ_=>True) (cE (λi s=>s.2=(i:Int)+1/\0<=s.1/\s.1<=1+(i:Int)) (w.length - 1) (by omega) ⟨rfl,by decide,by decide⟩ ?_ ?_) λc _=>?_
  ·rintro i ⟨a,y⟩ hi ⟨q1,q2,q3⟩;dsimp only at q1 q2 q3;subst q1;dsimp only;have hx:=zQR (l:=w) (show i+1 < w.length by omega);have hy:=zQR (l:=w) (show i < w.length by omega);rw [if_pos (by omega),show (i:Int)+1=((i+1:Nat):Int) by omega,aJ hx];refine aE (qB _) λr1 _=>?_;rw [aA (by unfold I64;omega),show (((i+1:Nat):Int) - 1)=(i:Int) by omega,aJ hy];refine aE (qB _) λr2 _=>?_;split
   ·rw [aA (by unfold I64; omega)];exact tot_some.2 ⟨by push_cast;rfl,q2,by show a<=_;push_cast;omega⟩
   rw [aA (by unfold I64; omega), aA (by unfold I64; omega)];exact tot_some.2 ⟨by push_cast;rfl,by show 0<=a+1;omega,by show a+1<=_;push_cast;omega⟩
  ·rintro⟨a,y⟩ ⟨q1,q2,q3⟩;dsimp only at q1 q2 q3;subst q1;dsimp only;rw [if_neg (by omega)];exact⟨_,rfl,trivial⟩
  exact aE (xQ (by omega)) λ_ _=>tot_some.2 λ_=>hr
theorem qGB {l:Ag} (hk:LayK l) {s:Am} (h:jB l s):Tot (iR l s) λr=>-1<=r.1/\r.1 < (l.Ah.length:Int):=by
 unfold iR;refine aE (qQF hk (xX hk h)) λr hr=>?_;refine aE (qLW hk h) ?_;rintro⟨a,b⟩ _;exact tot_some.2 hr
def qUP (l:Ag) (w:List Am):Prop:=w≠[]/\w.length<=12/\∀ s∈w,jB l s
theorem qYL (n:Nat):1<=2 ^ n:=Nat.one_le_two_pow
theorem qMI {l : Ag} (hk : LayK l) (e0 : End) : ∀ (fu : Nat) (p : Bp) (e : End) (w : List Am), End.ok e -> w.length <= 12 -> 13 <= fu + w.length -> (∀ s ∈ w, jB l s) -> (∀ x ∈ p.l, qUP l x) -> p.l.length + 2 ^ (13 - w.length) <= 1000000 -> Tot (cY fu p l e0 e w) fun r => r.l.length <= p.l.length + 2 ^ (13 - w.length) /\ ∀ x ∈ r.l, qUP l x
 | 0,p,e,w,he,h1,h2,_,_,_=>by omega
 | fu+1,p,e,w,he,h1,h2,hw,hp,hb=>by
  have h12:13 - w.length=(12 - w.length)+1:=by omega
  rw [h12,Nat.pow_succ] at hb ⊢;have hpos:=qYL (12 - w.length);generalize hE:2 ^ (12 - w.length)=E at hb hpos ⊢;unfold cY;refine aE (qGD hk e he) ?_;rintro r ⟨r1,r2⟩;refine cE (λi s=>s.1=(i:Int)/\s.2.length<=p.l.length+i * E/\∀ x∈s.2,qUP l x) r.length (by omega) ⟨rfl,Nat.le_add_right _ _,hp⟩ ?_ ?_
  ·rintro i ⟨y,b⟩ hi ⟨q1,q2,q3⟩;dsimp only at q1 q2 q3;subst q1;dsimp only;have hx:=zQR hi;have hs:=r2 _ (List.getElem_mem hi);have hi1:i<=1:=by omega
   have hiE:i * E<=E:=by
    rcases Nat.eq_zero_or_pos i with h|h
    ·rw [h,Nat.zero_mul];omega
    rw [show i=1 by omega,Nat.one_mul];omega
   have hlong:∀ s∈w++[r[i]],jB l s:=by
    intro s hsm;rcases zQN.1 hsm with hsm|hsm
    ·exact hw s hsm
    rw [List.mem_singleton] at hsm;subst hsm;exact hs
   have hll:(w++[r[i]]).length=w.length+1:=by simp
   rw [if_pos (by omega),List.nil_append,aA (by omega),aJ hx,aA (by omega)];refine aE (Fits_t hk e0 hlong (by omega)) λok hok=>?_
   cases ok with
   | false=>
    rw [if_pos (by rfl),aA (bG hi (by omega))];exact tot_some.2 ⟨by push_cast;rfl,by show b.length<=_;rw [Nat.add_mul];omega,q3⟩
   | true=>
    have hok:=hok rfl;have hway:qUP l (w++[r[i]]):=⟨hok.1,hok.2,hlong⟩;rw [if_neg (by simp),aJ hx];refine aE (qGB hk hs) ?_;rintro⟨g,ends⟩ _;dsimp only;split
    ·rw [aA (by simp; omega), aA (bG hi (by omega))];refine tot_some.2 ⟨by push_cast;rfl,by rw [Nat.add_mul];simp;omega,?_⟩;intro x hxm;rcases zQN.1 hxm with hxm|hxm
     ·exact q3 x hxm
     rw [List.mem_singleton] at hxm;subst hxm;exact hway
    rw [aJ hx];refine aE (qLW hk hs) ?_;rintro⟨f,j⟩ ⟨_,hf⟩;dsimp only at hf ⊢;have hE2:2 ^ (13 - (w++[r[i]]).length)=E:=by rw [hll,<- hE,show 13 - (w.length+1)=12 - w.length by omega]
    refine aE (qMI hk e0 fu ⟨b⟩ f (w++[r[i]]) hf (by omega) (by omega) hlong q3 (by rw [hE2];show b.length+E<=_;omega)) ?_;rintro⟨b'⟩ ⟨c1,c2⟩;rw [hE2] at c1;dsimp only at c1 c2 ⊢;rw [aA (bG hi (by omega))];exact tot_some.2 ⟨by push_cast;rfl,by show b'.length<=_;rw [Nat.add_mul];omega,c2⟩
  rintro⟨y,b⟩ ⟨q1,q2,q3⟩;dsimp only at q1 q2 q3;subst q1;dsimp only;have:r.length * E<=2 * E:=Nat.mul_le_mul_right _ r1;rw [if_neg (by omega)];exact⟨_,rfl,by dsimp only;omega,q3⟩
theorem rO (a b:BA):(a++b).size=a.size+b.size:=ByteArray.size_append
theorem qIN (l:List Int):(strOfNums l).size=l.length:=by
 show (l.map _).toArray.size=_;simp
theorem qWI {n:Int} (h0:0<=n) (h1:n<=1000000000):Tot (jN n) λr=>r.size<=1000000000:=by
 obtain⟨k,rfl⟩:∃ k:Nat,n=(k:Int):=⟨n.toNat,by omega⟩;unfold jN;refine aE (P:=λr=>r.size<=1000000000) (cE (λi s=>∃ m:Nat,s.1=(m:Int)/\m+i<=k/\s.2.size<=i) k (by omega) ⟨k,rfl,zQW _,zQW 0⟩ ?_ ?_) λa h=>tot_some.2 h
 ·rintro i ⟨y,b⟩ hi ⟨m,q1,q2,q3⟩;dsimp only at q1 q3;subst q1;dsimp only;split
  ·have e1:((m:Int).tmod 10)=((m % 10:Nat):Int):=rfl;have e2:((m:Int).tdiv 10)=((m / 10:Nat):Int):=rfl;have h10:¬ ((10:Int)=0):=by decide
   have e3:IntKind.i64.wrap ((m / 10:Nat):Int)=((m / 10:Nat):Int):=IntWalk.i64_in _ (by omega);rw [aA h10,e1,e2,e3,aA (by unfold I64;omega),aA (by rw [qIN];simp;omega),aA h10];refine tot_some.2 ⟨m / 10,rfl,by omega,?_⟩;show (_++b).size<=_;rw [rO,qIN];simp;omega
  exact⟨_,rfl,by show b.size<=_;omega⟩
 rintro⟨y,b⟩ ⟨m,q1,q2,q3⟩;dsimp only at q1 q3;subst q1;dsimp only;rw [if_neg (by omega)];exact⟨_,rfl,by show b.size<=_;omega⟩
theorem qQP {l:Ag} (hk:LayK l) {a b:Int} (ha:0<=a/\a < (l.Ah.length:Int)) (hb:b < (l.Ah.length:Int)):Tot (kC l a b) λr=>r.size<=1000000000000000:=by
 have hn:∀ s∈l.Ah,s.name.size<=140737488351232:=λs hs=>pU (hk.w.Ah s hs).name;have c1:(⟨#[45,101,110,100]⟩:BA).size=4:=rfl;have c2:(⟨#[45]⟩:BA).size=1:=rfl;unfold kC;split
 ·refine cX ha.1 ha.2 fun s hs _ => ?_;have:=hn s hs;rw [aA (by omega)];exact tot_some.2 (by rw [rO];omega)
 refine cX ha.1 ha.2 fun s hs _ => ?_;have:=hn s hs;rw [aA (by omega)];refine cX (by omega) hb λs' hs' _=>?_;have:=hn s' hs';rw [aA (by rw [rO];omega)];exact tot_some.2 (by rw [rO,rO];omega)
structure RtOk (l:Ag) (r:Ai):Prop where
 path:r.path.length<=12/\∀ s∈r.path,jB l s
 Ad:r.Ad.length<=1000/\∀ s∈r.Ad,Aa.ok s
 Ac:r.Ac.length<=1000
 over:r.over.length<=12/\∀ s∈r.over,jB l s
 Aj:r.Aj.length<=1000/\∀ s∈r.Aj,Aa.ok s
theorem From_t {l:Ag} (hc:LayC l) (g:Int):Tot (pG l g) λr=>r.length<=8192/\∀ x∈r,RtOk l x:=by
 have hk:=hc.k;have hl:=hk.s.Ae;have hsg:=hk.s.Ah;unfold pG;split
 ·exact tot_some.2 ⟨by simp,by simp⟩
 rename_i hg;simp only [Bool.or_eq_true,decide_eq_true_eq,not_or] at hg;have hg:0<=g/\g < (l.Ah.length:Int):=by omega
 refine cX hg.1 hg.2 λs hs hsx=>?_;refine aE (sL l _ hk (qBI (hc.sigs s hs).1 (by omega))) ?_;rintro⟨e,j⟩ ⟨_,he⟩;dsimp only at he ⊢;split
 ·exact tot_some.2 ⟨by simp,by simp⟩
 unfold kD;refine aE (qMI hk e kY ⟨[]⟩ e [] he (by simp) (by unfold kY;simp) (by simp) (by simp) (by decide)) ?_;rintro⟨W⟩ ⟨w1,w2⟩;have w1:W.length<=8192:=Nat.le_trans w1 (by decide);dsimp only at w2 ⊢
 have hlast:∀ w∈W,∃ x,w[w.length - 1]?=some x/\jB l x/\1<=w.length/\w.length<=12:=by
  intro w hw;obtain⟨a1,a2,a3⟩:=w2 w hw;have hp:0 < w.length:=List.length_pos_iff.2 a1;exact⟨_,zQR (show w.length - 1 < w.length by omega),a3 _ (List.getElem_mem _),hp,a2⟩
 refine aE (P:=λr=>r.length<=8192/\∀ x∈r,RtOk l x) (cE (λi s=>s.1=(i:Int)/\s.2.length=i/\∀ x∈s.2,RtOk l x) W.length (by omega) ⟨rfl,rfl,λx h=>(by cases h)⟩ ?_ ?_) λa h=>tot_some.2 h
 ·rintro i ⟨y,b⟩ hi ⟨q1,q2,q3⟩;dsimp only at q1 q2 q3;subst q1;dsimp only;have hx:=zQR hi;have hm:=List.getElem_mem hi;obtain⟨st,f1,f2,f3,f4⟩:=hlast _ hm;rw [if_pos (by omega)];refine aE (P:=λr=>r.length=i+1/\∀ x∈r,RtOk l x) ?_ λr hr=>?_
  ·rw [aJ hx, aA (by unfold I64; omega), show ((W[i].length : Int) - 1) = ((W[i].length - 1 : Nat) : Int) by omega, aJ f1];refine aE (qGB hk f2) ?_;rintro⟨g1,en⟩ ⟨g2,g3⟩;dsimp only at g2 g3 ⊢;refine aE (qQP hk hg g3) λnm hnm=>?_;refine aE (zR hk (w:=W[i]) (by omega)) λps hps=>?_;refine aE (xQ (l:=l) (w:=W[i]) (by omega)) λss hss=>?_;refine aE (qFZ hk (w:=W[i]) (by omega)) λlen _=>?_;refine cX hg.1 hg.2 λs2 _ _=>?_;refine aE (qB _) λap _=>?_;refine aE (P:=λr=>0<=r/\r<=(i:Int)+1) (cE (λk s=>s.2=(k:Int)/\0<=s.1/\s.1<=(k:Int)+1) i (by omega) ⟨rfl,by decide,by decide⟩ ?_ ?_) ?_
   ·rintro k ⟨a,y⟩ hk2 ⟨p1,p2,p3⟩;dsimp only at p1 p2 p3;subst p1;dsimp only;have hx2:=zQR (l:=W) (show k < W.length by omega);obtain⟨st2,k1,k2,k3,k4⟩:=hlast _ (List.getElem_mem (show k < W.length by omega));rw [if_pos (by omega),aJ hx2,aJ hx2,aA (by unfold I64;omega),show ((W[k].length:Int) - 1)=((W[k].length - 1:Nat):Int) by omega,aJ k1];refine aE (qGB hk k2) ?_;rintro⟨m1,en2⟩ ⟨m2,m3⟩;dsimp only at m2 m3 ⊢;refine aE (qQP hk hg m3) λn1 _=>?_;refine aE (qQP hk hg g3) λn2 _=>?_;split
    ·rw [aA (by unfold I64; omega), aA (bG hk2 (by omega))];exact tot_some.2 ⟨by push_cast;rfl,by show 0<=a+1;omega,by show a+1<=_;push_cast;omega⟩
    rw [aA (bG hk2 (by omega))];exact tot_some.2 ⟨by push_cast;rfl,p2,by show a<=_;push_cast;omega⟩
   ·rintro⟨a,y⟩ ⟨p1,p2,p3⟩;dsimp only at p1 p2 p3;subst p1;dsimp only;rw [if_neg (by omega)];exact⟨_,rfl,p2,p3⟩
   rintro bf ⟨b1,b2⟩;refine aE (P:=λ_=>True) ?_ λnm2 _=>?_
   ·split
    ·have c1:(⟨#[46]⟩:BA).size=1:=rfl;rw [aA (by omega)];refine aE (qWI b1 (by omega)) λdg hdg=>?_;rw [aA (by rw [rO];omega)];exact tot_some.2 trivial
    exact tot_some.2 trivial
   rw [aA (by simp; omega)];refine tot_some.2 ⟨by simp;omega,?_⟩;intro x hxm;rcases zQN.1 hxm with hxm|hxm
   ·exact q3 x hxm
   rw [List.mem_singleton] at hxm;subst hxm;exact⟨⟨f4,(w2 _ hm).2.2⟩,⟨by have:=hps.1;show ps.length<=1000;omega,hps.2⟩,by show ss.length<=1000;omega,⟨by simp,by simp⟩,⟨by simp,by simp⟩⟩
  rw [aA (bG hi (by omega))];exact tot_some.2 ⟨by push_cast;rfl,hr⟩
 rintro⟨y,b⟩ ⟨q1,q2,q3⟩;dsimp only at q1 q2 q3;subst q1;dsimp only;rw [if_neg (by omega)];exact⟨_,rfl,by omega,q3⟩
theorem zEM {l:Ag} (hw:LayW l):Tot (rS l) λr=>r.2=0->LayC l/\r.1.length<=48/\∀ x∈r.1,RtOk l x:=by
 unfold rS;refine aE (qJA l hw) λr1 h1=>?_;split
 ·rename_i e1;have hc:=h1 e1;have hsg:=hc.k.s.Ah;refine aE (P:=λr=>∀ x∈r,RtOk l x) (cE (λi s=>s.1=(i:Int)/\s.2.length<=i * 8192/\∀ x∈s.2,RtOk l x) l.Ah.length (by omega) ⟨rfl,by simp,λx h=>(by cases h)⟩ ?_ ?_) λr hr=>?_
  ·rintro i ⟨y,b⟩ hi ⟨q1,q2,q3⟩;dsimp only at q1 q2 q3;subst q1;dsimp only;rw [if_pos (by omega)];refine aE (From_t hc i) ?_;rintro r ⟨r1,r2⟩;rw [aA (by rw [zQL];omega),aA (bG hi (by omega))];refine tot_some.2 ⟨by push_cast;rfl,by rw [zQL];omega,?_⟩;intro x hxm;rcases zQN.1 hxm with hxm|hxm
   ·exact q3 x hxm
   exact r2 x hxm
  ·rintro⟨y,b⟩ ⟨q1,q2,q3⟩;dsimp only at q1 q2 q3;subst q1;dsimp only;rw [if_neg (by omega)];exact⟨_,rfl,q3⟩
  split
  ·exact tot_some.2 λh=>by cases h
  exact tot_some.2 λ_=>⟨hc,by dsimp only;omega,hr⟩
 rename_i e1;exact tot_some.2 λh=>absurd h e1
theorem qSO {l:Ag} (hs:LayS l):Tot (lG l) λr=>r.length<=32:=by
 have hl:=hs.Ae;unfold lG;refine aE (P:=λr=>r.length<=32) (cE (λi s=>s.1=(i:Int)/\s.2.length<=i) l.Ae.length (by omega) ⟨rfl,Nat.zero_le _⟩ ?_ ?_) λa h=>tot_some.2 h
 ·rintro i ⟨y,b⟩ hi ⟨q1,q2⟩;dsimp only at q1 q2;subst q1;dsimp only;rw [if_pos (by omega),aJ (zQR hi)];split
  ·rw [aA (by simp; omega), aA (bG hi (by omega))];exact tot_some.2 ⟨by push_cast;rfl,by simp;omega⟩
  rw [aA (bG hi (by omega))];exact tot_some.2 ⟨by push_cast;rfl,by show b.length<=i+1;omega⟩
 rintro⟨y,b⟩ ⟨q1,q2⟩;dsimp only at q1 q2;subst q1;dsimp only;rw [if_neg (by omega)];exact⟨_,rfl,by omega⟩
theorem qXC {l:Ag} {r:Ai} {w:List Am} (el:Int) (hw:w.length<=1000) (hr:r.Ac.length<=1000):Tot (jM l r w el) λ_=>True:=by
 unfold jM;refine bN (P:=λ_=>True) (bZ w (by omega) (λ_=>True) trivial ?_ ?_) ?_ (λ_ _=>trivial)
 ·intro i e hx _;have hi:=(zQQ.1 hx).1;rw [if_pos (by omega),aJ hx];split
  ·exact⟨_,rfl,.inr ⟨_,rfl,trivial⟩⟩
  rw [aA (bG hi (by omega))];exact⟨_,rfl,.inl ⟨rfl,trivial⟩⟩
 ·intro _;rw [if_neg (by omega)];exact⟨_,rfl,_,rfl,trivial⟩
 intro _ _;refine bN (P:=λ_=>True) (bZ r.Ac (by omega) (λ_=>True) trivial ?_ ?_) (λ_ _=>tot_some.2 trivial) (λ_ _=>trivial)
 ·intro i e hx _;have hi:=(zQQ.1 hx).1;rw [if_pos (by omega),aJ hx];refine aE (qB _) λs _=>?_;split
  ·exact⟨_,rfl,.inr ⟨_,rfl,trivial⟩⟩
  rw [aA (bG hi (by omega))];exact⟨_,rfl,.inl ⟨rfl,trivial⟩⟩
 intro _;rw [if_neg (by omega)];exact⟨_,rfl,_,rfl,trivial⟩
theorem zAV {l:Ag} (hc:LayC l) {r:Ai} (hr:RtOk l r):Tot (pE l r) λx=>RtOk l x:=by
 have hk:=hc.k;have hl:=hk.s.Ae;obtain⟨r1,r2,r3,r4,r5⟩:=hr;have hz:RtOk l ⟨r.name,r.entry,r.exit,r.path,r.Ad,r.Ac,r.A2,r.length,[],[],[],r.Au,r.guards,r.gaps⟩:=⟨r1,r2,r3,⟨by simp,by simp⟩,⟨by simp,by simp⟩⟩;unfold pE sY;dsimp only;refine aE (P:=λx=>x.2=true->x.1∈l.Ah) ?_ ?_
 ·split
  ·exact tot_some.2 λh=>by cases h
  rename_i hg;simp only [Bool.or_eq_true,decide_eq_true_eq,not_or] at hg;exact cX (by omega) (by omega) λs hs _=>tot_some.2 λ_=>hs
 rintro⟨sg,ok⟩ hsg;dsimp only at hsg ⊢
 cases ok with
 | false=>rw [if_pos (by rfl)];exact tot_some.2 hz
 | true=>
  have hs:=hc.sigs sg (hsg rfl);rw [if_neg (by simp)];refine aE (sL l _ hk (qBI hs.1 (by omega))) ?_;rintro⟨e,j⟩ ⟨_,he⟩;dsimp only at he ⊢;refine aE (P:=λo=>o.1.length<=12/\∀ s∈o.1,jB l s) (cE (λi s=>s.2.2.2.length=i/\(∀ x∈s.2.2.2,jB l x)/\I64 s.2.1/\I64 s.2.2.1) 12 (by omega) ⟨rfl,λx h=>(by cases h),he.1,he.2⟩ ?_ ?_) ?_
  ·rintro i ⟨j,c1,c2,b⟩ hi ⟨q1,q2,q3,q4⟩;dsimp only at q1 q2 q3 q4 ⊢;refine aE (P:=λ_=>True) ?_ λgo _=>?_
   ·split
    ·refine aE (qFZ hk (w := b) (by omega)) fun len _ => ?_;split
     ·split
      ·exact aE (qXC _ (by omega) r3) λ_ _=>tot_some.2 trivial
      exact tot_some.2 trivial
     exact tot_some.2 trivial
    exact tot_some.2 trivial
   split
   ·refine aE (qGD hk _ ⟨q3,q4⟩) ?_;rintro br ⟨b1,b2⟩;split
    ·exact⟨_,rfl,by show b.length<=12;omega,q2⟩
    rename_i hne;refine cX (by omega) (by omega) λst hst hsx=>?_;rw [aA (by simp;omega)];refine cX (by omega) (by omega) λst2 hst2 _=>?_;refine aE (qLW hk (b2 st2 hst2)) ?_;rintro⟨f,j2⟩ ⟨_,hf⟩;refine tot_some.2 ⟨by simp;omega,?_,hf.1,hf.2⟩;intro x hxm;rcases zQN.1 hxm with hxm|hxm
    ·exact q2 x hxm
    rw [List.mem_singleton] at hxm;subst hxm;exact b2 _ hst
   exact⟨_,rfl,by show b.length<=12;omega,q2⟩
  ·rintro⟨j,c1,c2,b⟩ ⟨q1,q2,_⟩;dsimp only at q1 q2 ⊢;refine aE (P:=λr=>r=false) ?_ λgo hgo=>?_
   ·split
    ·refine aE (qFZ hk (w := b) (by omega)) fun len _ => ?_;split
     ·rw [if_neg (by omega)];exact tot_some.2 rfl
     exact tot_some.2 rfl
    exact tot_some.2 rfl
   subst hgo;rw [if_neg Bool.false_ne_true];exact⟨_,rfl,by show b.length<=12;omega,q2⟩
  rintro⟨b,c1,c2⟩ ⟨q1,q2⟩;dsimp only at q1 q2 ⊢;refine aE (zR hk (w:=b) (by omega)) λps hps=>?_;refine aE (xQ (l:=l) (w:=b) (by omega)) λss hss=>?_;exact tot_some.2 ⟨r1,r2,r3,⟨q1,q2⟩,⟨by have:=hps.1;show ps.length<=1000;omega,hps.2⟩⟩
theorem zAY {l:Ag} (hk:LayK l) (s:Am):Tot (gO l s) λr=>r.length<=4/\∀ e∈r,End.ok e:=by
 have hl:=hk.s.Ae;unfold gO;split
 ·exact tot_some.2 ⟨by simp,by simp⟩
 rename_i hg;simp only [Bool.or_eq_true,decide_eq_true_eq,not_or] at hg;refine cX (by omega) (by omega) λx _ _=>?_;refine aE (qSP _ _ _) ?_;rintro⟨a,ok⟩ _;dsimp only;have hsd:=qMG x.kind;refine aE (P:=λr=>r.length<=4/\∀ e∈r,End.ok e) (cE (λi s=>s.1=(i:Int)/\s.2.length<=i/\∀ e∈s.2,End.ok e) (zX x.kind).toNat (by omega) ⟨rfl,Nat.zero_le _,λx h=>(by cases h)⟩ ?_ ?_) λa h=>tot_some.2 h
 ·rintro i ⟨y,b⟩ hi ⟨q1,q2,q3⟩;dsimp only at q1 q2 q3;subst q1;dsimp only;rw [qFX,aH,if_pos (by omega)];split
  ·rw [aA (by simp; omega), aA (bG hi (by omega))];refine tot_some.2 ⟨by push_cast;rfl,by simp;omega,?_⟩;intro e he;rcases zQN.1 he with he|he
   ·exact q3 e he
   rw [List.mem_singleton] at he;subst he;show I64 _/\I64 _;unfold I64;dsimp only;omega
  rw [aA (bG hi (by omega))];exact tot_some.2 ⟨by push_cast;rfl,by show b.length<=i+1;omega,q3⟩
 rintro⟨y,b⟩ ⟨q1,q2,q3⟩;dsimp only at q1 q2 q3;subst q1;dsimp only;rw [qFX,aH,if_neg (by omega)];exact⟨_,rfl,by omega,q3⟩
theorem qDJ {l : Ag} (hk : LayK l) {w : List Am} (hw : w.length <= 12) {b0 : List End} (h0 : b0.length <= 100) (ho : ∀ e ∈ b0, End.ok e) : Tot (aZ (fun ((i6 : Int), (b7 : List End)) =>
   if i6 < (w.length : Int) then
    aT w i6 fun e10 =>
    aB (gO l e10) fun r11 =>
    aC ((b7 ++ r11).length <= 1000000000) <|
    aC (I64 (i6 + (1 : Int))) <|
    some (.inl ((i6 + (1 : Int)), (b7 ++ r11)))
   else
    aP (
     some b7)) ((0 : Int), b0)) fun (r : List End) => r.length <= b0.length + 4 * w.length /\ ∀ e ∈ r, End.ok e := by
 refine cE (λi s=>s.1=(i:Int)/\s.2.length<=b0.length+4 * i/\∀ e∈s.2,End.ok e) w.length (by omega) ⟨rfl,Nat.le_add_right _ _,ho⟩ ?_ ?_
 ·rintro i ⟨y,b⟩ hi ⟨q1,q2,q3⟩;dsimp only at q1 q2 q3;subst q1;dsimp only;rw [if_pos (by omega),aJ (zQR hi)];refine aE (zAY hk _) ?_;rintro r ⟨r1,r2⟩;rw [aA (by rw [zQL];omega),aA (bG hi (by omega))];refine tot_some.2 ⟨by push_cast;rfl,by rw [zQL];omega,?_⟩;intro e he;rcases zQN.1 he with he|he
  ·exact q3 e he
  exact r2 e he
 rintro⟨y,b⟩ ⟨q1,q2,q3⟩;dsimp only at q1 q2 q3;subst q1;dsimp only;rw [if_neg (by omega)];exact⟨_,rfl,q2,q3⟩
theorem qWX {l:Ag} (hk:LayK l) {r:Ai} (hr:RtOk l r):Tot (mW l r) λr=>r.length<=100/\∀ e∈r,End.ok e:=by
 unfold mW;refine aE (qDJ hk hr.path.1 (b0:=[]) (by simp) (by simp)) ?_;rintro b ⟨b1,b2⟩;have h1:=hr.path.1;have h2:=hr.over.1;simp only [List.length_nil] at b1;refine aE (qDJ hk hr.over.1 (b0:=b) (by omega) b2) ?_;rintro c ⟨c1,c2⟩;exact tot_some.2 ⟨by omega,c2⟩
theorem qNR (w:List Am) (n:Int) (hl:w.length<=1000000000):Tot (lU w n) λ_=>True:=by
 unfold lU;refine bN (P:=λ_=>True) (bZ w (by omega) (λ_=>True) trivial ?_ ?_) (λ_ _=>tot_some.2 trivial) (λ_ _=>trivial)
 ·intro i e hx _;have hi:=(zQQ.1 hx).1;rw [if_pos (by omega),aJ hx];split
  ·exact⟨_,rfl,.inr ⟨_,rfl,trivial⟩⟩
  rw [aA (bG hi (by omega))];exact⟨_,rfl,.inl ⟨rfl,trivial⟩⟩
 intro _;rw [if_neg (by omega)];exact⟨_,rfl,_,rfl,trivial⟩
theorem qCZ {l:List Aa} {s:Aa} (hl:l.length<=1000000000) (ho:∀ x∈l,Aa.ok x) (hs:Aa.ok s):Tot (kN l s) λ_=>True:=by
 unfold kN;refine bN (P:=λ_=>True) (bZ l (by omega) (λ_=>True) trivial ?_ ?_) (λ_ _=>tot_some.2 trivial) (λ_ _=>trivial)
 ·intro i e hx _;have hi:=(zQQ.1 hx).1;rw [if_pos (by omega),aJ hx,aA ⟨ho e (zQM hx),hs⟩];split
  ·exact⟨_,rfl,.inr ⟨_,rfl,trivial⟩⟩
  rw [aA (bG hi (by omega))];exact⟨_,rfl,.inl ⟨rfl,trivial⟩⟩
 intro _;rw [if_neg (by omega)];exact⟨_,rfl,_,rfl,trivial⟩
theorem leg_t {l:Ag} {r:Ai} (hr:RtOk l r) (hf:r.Au.length<=1000/\∀ s∈r.Au,Aa.ok s) {e:End} (he:End.ok e):Tot (oE r e) λx=>Aa.ok x.1/\x.2.1=-1:=by
 have ok1:∀ p:Int,(p=1\/p=2)->Aa.ok ⟨e.el,p⟩:=by
  intro p hp;refine⟨he.1,?_⟩;show I64 p;unfold I64;omega
 unfold oE;refine aE (P:=λx=>(x.1=1\/x.1=2)/\(x.2=1\/x.2=2)) ?_ ?_
 ·split
  ·exact tot_some.2 ⟨.inr rfl,.inl rfl⟩
  exact tot_some.2 ⟨.inl rfl,.inr rfl⟩
 rintro⟨p,q⟩ ⟨hp,hq⟩;dsimp only at hp hq ⊢;refine aE (P:=λ_=>True) ?_ λx _=>?_
 ·unfold qN;refine aE (P:=λ_=>True) ?_ λx _=>tot_some.2 trivial;refine aE (qCZ (by have:=hr.Ad.1;omega) hr.Ad.2 (ok1 p hp)) λx _=>?_;split
  ·exact tot_some.2 trivial
  refine aE (qCZ (by have := hr.Aj.1; omega) hr.Aj.2 (ok1 p hp)) fun x _ => ?_;split
  ·exact tot_some.2 trivial
  exact aE (qCZ (by have:=hf.1;omega) hf.2 (ok1 p hp)) λx _=>tot_some.2 trivial
 split
 ·exact tot_some.2 ⟨by show I64 0/\I64 0;unfold I64;omega,rfl⟩
 exact tot_some.2 ⟨ok1 q hq,rfl⟩
theorem Out_t (k a p:Int):Tot (oF k a p) λr=>0<=r.1/\r.1 < 4:=by
 unfold oF;refine bN (P:=λo=>match o with|.inl _=>True|.inr r=>0<=r.1/\r.1 < 4) (oD 4 (by omega) (λ_=>True) trivial ?_ ?_) (λ_ _=>tot_some.2 (by decide)) (λ_ h=>h)
 ·intro i hi _;rw [if_pos (by omega)];refine aE (qSP _ _ _) ?_;rintro⟨x,ok⟩ _;dsimp only;split
  ·exact⟨_,rfl,.inr ⟨_,rfl,by omega,by omega⟩⟩
  rw [aA (bG hi (by omega))];exact⟨_,rfl,.inl ⟨rfl,trivial⟩⟩
 intro _;rw [if_neg (by omega)];exact⟨_,rfl,_,rfl,trivial⟩
theorem qSN {l:Ag} (hk:LayK l) {r:Ai} (hr:RtOk l r) (hf:r.Au.length<=1000/\∀ s∈r.Au,Aa.ok s) {e:End} (he:End.ok e):Tot (lB l r e) λx=>Aa.ok x.1/\-1<=x.2.1/\x.2.1 < (l.Ah.length:Int):=by
 have hl:=hk.s.Ae;have z0:Aa.ok ⟨0,0⟩:=by show I64 0/\I64 0;unfold I64;omega
 unfold lB;refine bN (P:=λo=>match o with|.inl _=>True|.inr x=>Aa.ok x.1/\-1<=x.2.1/\x.2.1 < (l.Ah.length:Int)) (cE (λi s=>s.1=(i:Int)/\End.ok ⟨s.2.1,s.2.2⟩) 4 (by omega) ⟨rfl,he⟩ ?_ ?_) (λ_ _=>tot_some.2 ⟨z0,by dsimp only;omega⟩) (λ_ h=>h)
 ·rintro i ⟨n,c1,c2⟩ hi ⟨q1,q2⟩;dsimp only at q1 q2;subst q1;dsimp only;rw [if_pos (by omega)];refine aE (sL l _ hk q2) ?_;rintro⟨f,j⟩ ⟨_,hfo⟩;dsimp only at hfo ⊢;split
  ·exact⟨_,rfl,z0,by dsimp only;omega⟩
  refine aE (qQF hk hfo) fun g hg => ?_;split
  ·exact⟨_,rfl,z0,hg⟩
  refine aE (P := fun _ => True) ?_ fun x _ => ?_
  ·refine aE (qNR _ _ (by have := hr.path.1; omega)) fun x _ => ?_;split
   ·exact tot_some.2 trivial
   exact aE (qNR _ _ (by have:=hr.over.1;omega)) λx _=>tot_some.2 trivial
  split
  ·exact⟨_,rfl,z0,by dsimp only;omega⟩
  refine aE (P := fun r => r = false -> 0 <= f.el /\ f.el < (l.Ae.length : Int)) ?_ fun x hx => ?_
  ·split
   ·exact tot_some.2 (by simp)
   split
   ·exact tot_some.2 (by simp)
   refine cX (by omega) (by omega) fun x _ _ => ?_;split<;>exact tot_some.2 λ_=>by omega
  cases x with
  | true=>exact⟨_,rfl,z0,by dsimp only;omega⟩
  | false=>
   have hx:=hx rfl;rw [if_neg Bool.false_ne_true];refine cX hx.1 hx.2 λx _ _=>?_;split
   ·refine aE (leg_t hr hf hfo) ?_;rintro⟨a,b,c⟩ ⟨h1,h2⟩;dsimp only at h1 h2 ⊢;exact⟨_,rfl,h1,by dsimp only;omega⟩
   refine cX hx.1 hx.2 fun x _ _ => ?_;refine aE (Out_t _ _ _) ?_;rintro⟨a,b⟩ ⟨h1,h2⟩;dsimp only at h1 h2 ⊢;rw [aA (by unfold I64;omega)];refine tot_some.2 ⟨by push_cast;rfl,?_⟩;show I64 _/\I64 _;unfold I64;dsimp only;omega
 rintro⟨n,c1,c2⟩ ⟨q1,q2⟩;dsimp only at q1;subst q1;dsimp only;rw [if_neg (by omega)];exact⟨_,rfl,trivial⟩
theorem zBZ {l:List Aa} {s:Aa} (hl:l.length<=1000000) (ho:∀ x∈l,Aa.ok x) (hs:Aa.ok s):Tot (rR l s) λr=>r.length<=l.length+1/\∀ x∈r,Aa.ok x:=by
 unfold rR;refine aE (qCZ (by omega) ho hs) λx _=>?_;split
 ·exact tot_some.2 ⟨by omega,ho⟩
 refine aE (P := fun o => (o.2.length = l.length + if o.1 = true then 1 else 0) /\ ∀ x ∈ o.2, Aa.ok x) (cE (fun i s => s.2.1 = (i : Int) /\ (s.2.2.length = i + if s.1 = true then 1 else 0) /\ ∀ x ∈ s.2.2, Aa.ok x) l.length (by omega) ⟨rfl, rfl, fun x h => (by cases h)⟩ ?_ ?_) ?_
 ·rintro i ⟨dn,y,b⟩ hi ⟨q1,q2,q3⟩;dsimp only at q1 q2 q3;subst q1;dsimp only;have hx:=zQR hi;have hb:b.length<=i+1:=by split at q2<;>omega
  rw [if_pos (by omega)];refine aE (P:=λo=>(o.2.length=i+if o.1=true then 1 else 0)/\∀ x∈o.2,Aa.ok x) ?_ ?_
  ·refine aE (P := fun r => r = true -> dn = false) ?_ fun r hr => ?_
   ·cases dn with
    | false=>rw [if_pos (by rfl),aJ hx];exact tot_some.2 λ_=>rfl
    | true=>rw [if_neg (by simp)];exact tot_some.2 (by simp)
   cases r with
   | false=>rw [if_neg Bool.false_ne_true];exact tot_some.2 ⟨q2,q3⟩
   | true=>
    have hr:=hr rfl;subst hr;rw [if_neg Bool.false_ne_true] at q2;rw [if_pos rfl,aA (by simp;omega)];refine tot_some.2 ⟨by simp;omega,?_⟩;intro x hxm;rcases zQN.1 hxm with hxm|hxm
    ·exact q3 x hxm
    rw [List.mem_singleton] at hxm;subst hxm;exact hs
  rintro⟨d2,b2⟩ ⟨p1,p2⟩;dsimp only at p1 p2 ⊢;have hb2:b2.length<=i+1:=by split at p1<;>omega
  rw [aJ hx,aA (by simp;omega),aA (bG hi (by omega))];refine tot_some.2 ⟨by push_cast;rfl,by rw [zQL,p1];simp;omega,?_⟩;intro x hxm;rcases zQN.1 hxm with hxm|hxm
  ·exact p2 x hxm
  rw [List.mem_singleton] at hxm;subst hxm;exact ho _ (List.getElem_mem hi)
 ·rintro⟨dn,y,b⟩ ⟨q1,q2,q3⟩;dsimp only at q1 q2 q3;subst q1;dsimp only;rw [if_neg (by omega)];exact⟨_,rfl,q2,q3⟩
 rintro⟨dn,b⟩ ⟨p1,p2⟩;dsimp only at p1 p2 ⊢;have hb:b.length<=l.length+1:=by split at p1<;>omega
 cases dn with
 | true=>rw [if_neg (by simp)];exact tot_some.2 ⟨hb,p2⟩
 | false=>
  rw [if_neg Bool.false_ne_true] at p1;rw [if_pos (by rfl),aA (by simp;omega)];refine tot_some.2 ⟨by simp;omega,?_⟩;intro x hxm;rcases zQN.1 hxm with hxm|hxm
  ·exact p2 x hxm
  rw [List.mem_singleton] at hxm;subst hxm;exact hs
theorem zEK (l:List Int) (n:Int) (hl:l.length<=1000000000):Tot (gC l n) λ_=>True:=by
 unfold gC;refine bN (P:=λ_=>True) (bZ l (by omega) (λ_=>True) trivial ?_ ?_) (λ_ _=>tot_some.2 trivial) (λ_ _=>trivial)
 ·intro i e hx _;have hi:=(zQQ.1 hx).1;rw [if_pos (by omega),aJ hx];split
  ·exact⟨_,rfl,.inr ⟨_,rfl,trivial⟩⟩
  rw [aA (bG hi (by omega))];exact⟨_,rfl,.inl ⟨rfl,trivial⟩⟩
 intro _;rw [if_neg (by omega)];exact⟨_,rfl,_,rfl,trivial⟩
theorem qEQ (l:List Int) (n:Int) (hl:l.length<=1000000):Tot (gT l n) λr=>r.length<=l.length+1:=by
 unfold gT;refine aE (zEK l n (by omega)) λx _=>?_;split
 ·exact tot_some.2 (by omega)
 refine aE (P := fun o => (o.2.length = l.length + if o.1 = true then 1 else 0)) (cE (fun i s => s.2.1 = (i : Int) /\ (s.2.2.length = i + if s.1 = true then 1 else 0)) l.length (by omega) ⟨rfl, rfl⟩ ?_ ?_) ?_
 ·rintro i ⟨dn,y,b⟩ hi ⟨q1,q2⟩;dsimp only at q1 q2;subst q1;dsimp only;have hx:=zQR hi;have hb:b.length<=i+1:=by split at q2<;>omega
  rw [if_pos (by omega)];refine aE (P:=λo=>(o.2.length=i+if o.1=true then 1 else 0)) ?_ ?_
  ·refine aE (P := fun r => r = true -> dn = false) ?_ fun r hr => ?_
   ·cases dn with
    | false=>rw [if_pos (by rfl),aJ hx];exact tot_some.2 λ_=>rfl
    | true=>rw [if_neg (by simp)];exact tot_some.2 (by simp)
   cases r with
   | false=>rw [if_neg Bool.false_ne_true];exact tot_some.2 q2
   | true=>
    have hr:=hr rfl;subst hr;rw [if_neg Bool.false_ne_true] at q2;rw [if_pos rfl,aA (by simp;omega)];exact tot_some.2 (by simp;omega)
  rintro⟨d2,b2⟩ p1;dsimp only at p1 ⊢;have hb2:b2.length<=i+1:=by split at p1<;>omega
  rw [aJ hx,aA (by simp;omega),aA (bG hi (by omega))];exact tot_some.2 ⟨by push_cast;rfl,by rw [zQL,p1];simp;omega⟩
 ·rintro⟨dn,y,b⟩ ⟨q1,q2⟩;dsimp only at q1 q2;subst q1;dsimp only;rw [if_neg (by omega)];exact⟨_,rfl,q2⟩
 rintro⟨dn,b⟩ p1;dsimp only at p1 ⊢;have hb:b.length<=l.length+1:=by split at p1<;>omega
 cases dn with
 | true=>rw [if_neg (by simp)];exact tot_some.2 hb
 | false=>
  rw [if_neg Bool.false_ne_true] at p1;rw [if_pos (by rfl),aA (by simp;omega)];exact tot_some.2 (by simp;omega)
theorem zEF (a b:List Int) (ha:a.length<=100000) (hb:b.length<=100000):Tot (nA a b) λr=>r.length<=a.length+b.length:=by
 unfold nA;refine aE (P:=λr=>r.length<=a.length) ?_ λm hm=>?_
 ·unfold pM;refine aE (P:=λr=>r.length<=a.length) (cE (λi s=>s.2=(i:Int)/\s.1.length<=i) a.length (by omega) ⟨rfl,Nat.zero_le _⟩ ?_ ?_) λa h=>tot_some.2 h
  ·rintro i ⟨b,y⟩ hi ⟨q1,q2⟩;dsimp only at q1 q2;subst q1;dsimp only;rw [if_pos (by omega),aJ (zQR hi)];refine aE (qEQ _ _ (by omega)) λr hr=>?_;rw [aA (bG hi (by omega))];exact tot_some.2 ⟨by push_cast;rfl,by show r.length<=i+1;omega⟩
  rintro⟨b,y⟩ ⟨q1,q2⟩;dsimp only at q1 q2;subst q1;dsimp only;rw [if_neg (by omega)];exact⟨_,rfl,q2⟩
 refine aE (P := fun r => r.length <= a.length + b.length) (cE (fun i s => s.2 = (i : Int) /\ s.1.length <= a.length + i) b.length (by omega) ⟨rfl, hm⟩ ?_ ?_) fun a h => tot_some.2 h
 ·rintro i ⟨b,y⟩ hi ⟨q1,q2⟩;dsimp only at q1 q2;subst q1;dsimp only;rw [if_pos (by omega),aJ (zQR hi)];refine aE (qEQ _ _ (by omega)) λr hr=>?_;rw [aA (bG hi (by omega))];exact tot_some.2 ⟨by push_cast;rfl,by show r.length<=a.length+(i+1);omega⟩
 rintro⟨b,y⟩ ⟨q1,q2⟩;dsimp only at q1 q2;subst q1;dsimp only;rw [if_neg (by omega)];exact⟨_,rfl,q2⟩
theorem qSW {l:Ag} (hk:LayK l) {s:Am} (h:jB l s):Am.ok s:=⟨(xX hk h).1,h.2.2.2.2,(xX hk h).2⟩
structure RtCmp (r:Ai):Prop where
 path:∀ s∈r.path,Am.ok s
 Ad:∀ s∈r.Ad,Aa.ok s
 over:∀ s∈r.over,Am.ok s
 Aj:∀ s∈r.Aj,Aa.ok s
 Au:∀ s∈r.Au,Aa.ok s
 gaps:∀ s∈r.gaps,End.ok s
theorem zAU {l:Ag} (hk:LayK l) {r:Ai} (hr:RtOk l r):Tot (pD l r) λx=>RtCmp x:=by
 obtain⟨r1,r2,r3,r4,r5⟩:=hr;have hz:∀ a b c,RtOk l ⟨r.name,r.entry,r.exit,r.path,r.Ad,r.Ac,r.A2,r.length,r.over,r.Aj,r.Ao,a,b,c⟩:=λ_ _ _=>⟨r1,r2,r3,r4,r5⟩;unfold pD;refine aE (qWX hk (hz _ _ _)) ?_;rintro es ⟨e1,e2⟩;refine aE (P:=λo=>(∀ x∈o.1,Aa.ok x)/\∀ x∈o.2.2,End.ok x) (cE (λi s=>s.1=(i:Int)/\(s.2.1.length<=i/\∀ x∈s.2.1,Aa.ok x)/\s.2.2.1.length<=i/\s.2.2.2.length<=i/\∀ x∈s.2.2.2,End.ok x) es.length (by omega) ⟨rfl,⟨Nat.zero_le _,λx h=>(by cases h)⟩,Nat.zero_le _,Nat.zero_le _,λx h=>(by cases h)⟩ ?_ ?_) λo ho=>tot_some.2 ⟨λs hs=>qSW hk (r1.2 s hs),r2.2,λs hs=>qSW hk (r4.2 s hs),r5.2,ho.1,ho.2⟩
 ·rintro i ⟨y,fl,gd,gp⟩ hi ⟨q1,⟨q2,q3⟩,q4,q5,q6⟩;dsimp only at q1 q2 q3 q4 q5 q6;subst q1;dsimp only;have hx:=zQR hi;rw [if_pos (by omega),aJ hx];refine aE (qSN hk (hz fl gd gp) ⟨by show fl.length<=1000;omega,q3⟩ (e2 _ (List.getElem_mem hi))) ?_;rintro⟨s,g,ok⟩ ⟨s1,s2⟩;dsimp only at s1 s2 ⊢;refine aE (P:=λr=>r.length<=i+1/\∀ x∈r,End.ok x) ?_ λgp2 hgp=>?_
  ·split
   ·rw [aJ hx, aA (by simp; omega)];refine tot_some.2 ⟨by simp;omega,λx hxm=>?_⟩;rcases zQN.1 hxm with hxm|hxm
    ·exact q6 x hxm
    rw [List.mem_singleton] at hxm;subst hxm;exact e2 _ (List.getElem_mem hi)
   exact tot_some.2 ⟨by omega,q6⟩
  refine aE (P := fun r => r.length <= i + 1 /\ ∀ x ∈ r, Aa.ok x) ?_ ?_
  ·split
   ·exact tot_some.2 ⟨by omega,q3⟩
   refine aE (zBZ (by omega) q3 s1) ?_;rintro r ⟨p1,p2⟩;exact tot_some.2 ⟨by omega,p2⟩
  rintro fl2 ⟨f1,f2⟩;split
  ·refine aE (zEF gd [g] (by omega) (by simp)) fun gd2 hgd => ?_;simp only [List.length_cons,List.length_nil] at hgd;rw [aA (bG hi (by omega))];exact tot_some.2 ⟨by push_cast;rfl,⟨f1,f2⟩,by show gd2.length<=i+1;omega,hgp.1,hgp.2⟩
  rw [aA (bG hi (by omega))];exact tot_some.2 ⟨by push_cast;rfl,⟨f1,f2⟩,by show gd.length<=i+1;omega,hgp.1,hgp.2⟩
 rintro⟨y,fl,gd,gp⟩ ⟨q1,⟨_,q3⟩,_,_,q6⟩;dsimp only at q1 q3 q6;subst q1;dsimp only;rw [if_neg (by omega)];exact⟨_,rfl,q3,q6⟩
theorem zEL {l:Ag} (hw:LayW l):Tot (kM l) λr=>r.2=0->LayC l/\r.1.Ac=(l.Ac.length:Int)/\r.1.Ah=(l.Ah.length:Int)/\∀ x∈r.1.Ab,RtCmp x:=by
 unfold kM;refine aE (zEM hw) ?_;rintro⟨rs,e⟩ h;dsimp only at h ⊢;split
 ·rename_i he;obtain⟨hc,h1,h2⟩:=h he;refine aE (qSO hc.k.s) λps hps=>?_;refine aE (P:=λo=>∀ x∈o,RtCmp x) (cE (λi s=>s.1=(i:Int)/\s.2.length=i/\∀ x∈s.2,RtCmp x) rs.length (by omega) ⟨rfl,rfl,λx h=>(by cases h)⟩ ?_ ?_) λrts hrts=>?_
  ·rintro i ⟨y,b⟩ hi ⟨q1,q2,q3⟩;dsimp only at q1 q2 q3;subst q1;dsimp only;rw [if_pos (by omega),aJ (zQR hi)];refine aE (zAV hc (h2 _ (List.getElem_mem hi))) λr13 hr13=>?_;refine aE (zAU hc.k hr13) λr14 h14=>?_;rw [aA (by simp;omega),aA (bG hi (by omega))];refine tot_some.2 ⟨by push_cast;rfl,by simp;omega,λx hxm=>?_⟩;rcases zQN.1 hxm with hxm|hxm
   ·exact q3 x hxm
   rw [List.mem_singleton] at hxm;subst hxm;exact h14
  ·rintro⟨y,b⟩ ⟨q1,q2,q3⟩;dsimp only at q1 q2 q3;subst q1;dsimp only;rw [if_neg (by omega)];exact⟨_,rfl,q3⟩
  refine aE (P := fun _ => True) (cE (fun i s => s.1 = (i : Int) /\ s.2.length = i) ps.length (by omega) ⟨rfl, rfl⟩ ?_ ?_) fun rts _ => ?_
  ·rintro i ⟨y,b⟩ hi ⟨q1,q2⟩;dsimp only at q1 q2;subst q1;dsimp only;rw [if_pos (by omega),aJ (zQR hi)];refine aE (qB _) λr13 hr13=>?_;rw [aA (by simp;omega),aA (bG hi (by omega))];exact tot_some.2 ⟨by push_cast;rfl,by simp;omega⟩
  ·rintro⟨y,b⟩ ⟨q1,q2⟩;dsimp only at q1 q2;subst q1;dsimp only;rw [if_neg (by omega)];exact⟨_,rfl,trivial⟩
  exact tot_some.2 λ_=>⟨hc,rfl,rfl,hrts⟩
 rename_i he;exact tot_some.2 λh=>absurd h he
section maps
variable {α β:Type} [DecidableEq α]
theorem qIX (q:α):cM ([]:List (α×β)) q=none:=rfl
theorem mG (x:α×β) (r:List (α×β)) (q:α):cM (x :: r) q=if x.1=q then some x.2 else cM r q:=by
 unfold cM;rw [List.find?_cons];by_cases h:x.1=q<;>simp [h]
theorem qEA (k:α) (v:β):tE ([]:List (α×β)) k v=[(k,v)]:=rfl
theorem qAQ (x:α×β) (r:List (α×β)) (k:α) (v:β):tE (x :: r) k v=if x.1=k then (k,v) :: r else x :: tE r k v:=by
 unfold tE;rw [List.findIdx?_cons];by_cases h:x.1=k
 ·simp [h]
 simp only [h,decide_false,Bool.false_eq_true,if_false];cases r.findIdx? (λx=>decide (x.1=k))<;>simp
theorem qIW (fs:List (α×β)) (k:α) (v:β) (q:α):cM (tE fs k v) q=if q=k then some v else cM fs q:=by
 induction fs with
 | nil=>rw [qEA,mG,qIX];by_cases h:k=q<;>simp [h,eq_comm]
 | cons x r ih=>
  rw [qAQ];by_cases h:x.1=k
  ·rw [if_pos h,mG,mG];by_cases h2:k=q
   ·simp [h2]
   rw [if_neg h2,if_neg (λe=>h2 e.symm),if_neg (by rw [h];exact h2)]
  rw [if_neg h,mG,mG,ih];by_cases h2:x.1=q
  ·rw [if_pos h2,if_pos h2,if_neg (λe=>h (h2.trans e))]
  rw [if_neg h2,if_neg h2]
theorem zBY {fs:List (α×β)} {k:α} {v:β} {x:α×β} (h:x∈tE fs k v):x=(k,v)\/x∈fs:=by
 induction fs with
 | nil=>rw [qEA] at h;exact .inl (List.mem_singleton.1 h)
 | cons y r ih=>
  rw [qAQ] at h;split at h
  ·rcases zQB.1 h with h|h
   ·exact .inl h
   exact .inr (List.mem_cons_of_mem _ h)
  rcases zQB.1 h with h|h
  ·exact .inr (h ▸ List.mem_cons_self ..)
  exact (ih h).imp id (List.mem_cons_of_mem _)
theorem qIL {fs:List (α×β)} (h:(fs.map (·.1)).Nodup) (k:α) (v:β):((tE fs k v).map (·.1)).Nodup:=by
 induction fs with
 | nil=>rw [qEA];simp
 | cons y r ih=>
  rw [List.map_cons,List.nodup_cons] at h;rw [qAQ];by_cases e:y.1=k
  ·rw [if_pos e,List.map_cons,List.nodup_cons];exact⟨by rw [<- e];exact h.1,h.2⟩
  rw [if_neg e,List.map_cons,List.nodup_cons];refine⟨λhm=>?_,ih h.2⟩;obtain⟨x,hx,he⟩:=List.mem_map.1 hm;rcases zBY hx with rfl|hx
  ·exact e he.symm
  exact h.1 (he ▸ List.mem_map_of_mem hx)
end maps
theorem qIK {β:Type} (g:Nat->List β) (i:Nat):(List.range (i+1)).flatMap g=(List.range i).flatMap g++g i:=by
 rw [List.range_succ,List.flatMap_append];simp
theorem eK {β:Type} (g:Nat->List β) (m:Nat) (h:∀ i,(g i).length<=m):∀ n,((List.range n).flatMap g).length<=n * m
 | 0=>by simp
 | n+1=>by
  rw [qIK,zQL,Nat.add_mul];have:=eK g m h n;have:=h n;omega
theorem pP {β ρ:Type} {f:Int×List β->Option ((Int×List β) ⊕ ρ)} (n:Nat) (g:Nat->List β) (b0:List β) {w:ρ} (hn:n<=1000000000) (hf:∀ i,i < n->f ((i:Int),b0++(List.range i).flatMap g)=some (.inl ((i:Int)+1,b0++((List.range i).flatMap g++g i)))) (he:f ((n:Int),b0++(List.range n).flatMap g)=some (.inr w)):aZ f (0,b0)=some w:=
 iX n (λi=>b0++(List.range i).flatMap g) (by simp) (by omega) (λi hi=>by rw [hf i hi,qIK]) he
def qAW (a b:List Int):Bool:=a.any λx=>decide (x∈b)
theorem qAV {a b:List Int}:qAW a b=true↔∃ x,x∈a/\x∈b:=by simp [qAW]
theorem qNV {a b c d:List Int} (h1:∀ x,x∈a↔x∈c) (h2:∀ x,x∈b↔x∈d):qAW a b=qAW c d:=by
 rw [Bool.eq_iff_iff,qAV,qAV];simp only [h1,h2]
theorem zCF (A B:List Int) (hA:qGE A) (hB:qGE B) (hl:A.length+B.length<=100000000):Tot (hJ A B dM) λr=>(0 < r.length↔∃ x,x∈A/\x∈B):=by
 unfold hJ;refine aE (P:=λr=>(0 < r.length↔∃ x,x∈A/\x∈B)) (cE (λi s=>qGE s.1/\qGE s.2.1/\s.1.length+s.2.1.length+i<=A.length+B.length/\s.2.2.length<=i/\((0 < s.2.2.length\/∃ x,x∈s.1/\x∈s.2.1)↔∃ x,x∈A/\x∈B)) (A.length+B.length) (by omega) ⟨hA,hB,by simp,by simp,by simp⟩ ?_ ?_) λr h=>tot_some.2 h
 ·rintro i ⟨a,b,o⟩ hi ⟨q1,q2,q3,q4,q5⟩;dsimp only at q1 q2 q3 q4 q5 ⊢
  match a,b,q1,q2,q3,q5 with
  | [],[],_,_,_,q5=>rw [if_neg (by simp)];exact⟨_,rfl,by simpa using q5⟩
  | [],y :: b,q1,q2,q3,q5=>
   have e:sub (y :: b) (1:Int) ((y :: b).length:Int)=b:=by rw [show (1:Int)=((1:Nat):Int) from rfl,kU];rfl
   have hg:aT (y :: b) (0:Int) (λe36=>aC (0<=(1:Int)/\(1:Int)<=((y :: b).length:Int)/\((y :: b).length:Int)<=((y :: b).length:Int)) <| some (sub (y :: b) (1:Int) ((y :: b).length:Int),e36))=some (b,y):=by
    rw [iZ (by omega) (show (y :: b)[(0:Int).toNat]?=some y from rfl),aA (by simp only [List.length_cons];omega),e]
   rw [if_pos (by simp)];simp only [List.length_nil,List.length_cons,Int.natCast_zero,Int.lt_irrefl,if_false,aH,if_pos (show (0:Int) < ((b.length+1:Nat):Int) by omega),if_true,Bool.false_eq_true] at hg ⊢;rw [hg];simp only [aH,dM,Bool.false_and,Bool.false_eq_true,if_false];refine⟨_,rfl,List.Pairwise.nil,(List.pairwise_cons.1 q2).2,?_,?_,?_⟩
   ·simp only [List.length_nil,List.length_cons] at q3 ⊢;omega
   ·show o.length<=i+1;omega
   simpa using q5
  | x :: a,[],q1,q2,q3,q5=>
   have e:sub (x :: a) (1:Int) ((x :: a).length:Int)=a:=by rw [show (1:Int)=((1:Nat):Int) from rfl,kU];rfl
   have hg:aT (x :: a) (0:Int) (λe36=>aC (0<=(1:Int)/\(1:Int)<=((x :: a).length:Int)/\((x :: a).length:Int)<=((x :: a).length:Int)) <| some (sub (x :: a) (1:Int) ((x :: a).length:Int),e36))=some (a,x):=by
    rw [iZ (by omega) (show (x :: a)[(0:Int).toNat]?=some x from rfl),aA (by simp only [List.length_cons];omega),e]
   rw [if_pos (by simp)];simp only [List.length_nil,List.length_cons,Int.natCast_zero,Int.lt_irrefl,if_false,aH,if_pos (show (0:Int) < ((a.length+1:Nat):Int) by omega),if_true,Bool.false_eq_true] at hg ⊢;rw [hg];simp only [aH,dM,Bool.and_false,Bool.false_eq_true,if_false];refine⟨_,rfl,(List.pairwise_cons.1 q1).2,List.Pairwise.nil,?_,?_,?_⟩
   ·simp only [List.length_nil,List.length_cons] at q3 ⊢;omega
   ·show o.length<=i+1;omega
   simpa using q5
  | x :: a,y :: b,q1,q2,q3,q5=>
   have ea:sub (x :: a) (1:Int) ((x :: a).length:Int)=a:=by rw [show (1:Int)=((1:Nat):Int) from rfl,kU];rfl
   have eb:sub (y :: b) (1:Int) ((y :: b).length:Int)=b:=by rw [show (1:Int)=((1:Nat):Int) from rfl,kU];rfl
   have hga:aT (x :: a) (0:Int) (λe36=>aC (0<=(1:Int)/\(1:Int)<=((x :: a).length:Int)/\((x :: a).length:Int)<=((x :: a).length:Int)) <| some (sub (x :: a) (1:Int) ((x :: a).length:Int),e36))=some (a,x):=by
    rw [iZ (by omega) (show (x :: a)[(0:Int).toNat]?=some x from rfl),aA (by simp only [List.length_cons];omega),ea]
   have hgb:∀ n:Int,aT (y :: b) (0:Int) (λe36=>aC (0<=(1:Int)/\(1:Int)<=((y :: b).length:Int)/\((y :: b).length:Int)<=((y :: b).length:Int)) <| some (sub (y :: b) (1:Int) ((y :: b).length:Int),e36))=some (b,y):=λ_=>by
    rw [iZ (by omega) (show (y :: b)[(0:Int).toNat]?=some y from rfl),aA (by simp only [List.length_cons];omega),eb]
   have g0:∀ {γ:Type} (k:Int->Option γ),aT (x :: a) (0:Int) k=k x:=λk=>iZ (by omega) rfl;have g1:∀ {γ:Type} (k:Int->Option γ),aT (y :: b) (0:Int) k=k y:=λk=>iZ (by omega) rfl;have pa:=List.pairwise_cons.1 q1;have pb:=List.pairwise_cons.1 q2;rw [if_pos (by simp)];rw [if_pos (show (0:Int) < ((x :: a).length:Int) by simp only [List.length_cons];omega),if_neg (show ¬ ((y :: b).length:Int)=0 by simp only [List.length_cons];omega),g0,g1,aH,if_pos (show (0:Int) < ((y :: b).length:Int) by simp only [List.length_cons];omega),if_neg (show ¬ ((x :: a).length:Int)=0 by simp only [List.length_cons];omega),g1,g0,aH,hga,hgb 0];rcases Int.lt_trichotomy x y with h|h|h
   ·rw [decide_eq_true (show x <= y by omega), decide_eq_false (show ¬ y <= x by omega)];simp only [if_true,Bool.false_eq_true,if_false,aH,dM,Bool.and_false];refine⟨_,rfl,pa.2,q2,?_,?_,?_⟩
    ·simp only [List.length_cons] at q3 ⊢;omega
    ·show o.length<=i+1;omega
    rw [<- q5];refine or_congr Iff.rfl ⟨λ⟨z,h1,h2⟩=>⟨z,List.mem_cons_of_mem _ h1,h2⟩,λ⟨z,h1,h2⟩=>?_⟩;rcases zQB.1 h1 with rfl|h1
    ·rcases zQB.1 h2 with rfl|h2
     ·omega
     have:=pb.1 z h2;omega
    exact⟨z,h1,h2⟩
   ·subst h;rw [decide_eq_true (Int.le_refl x)];simp only [if_true,aH,dM,Bool.and_true];rw [aA (by simp only [zQL,List.length_cons,List.length_nil];omega)];refine⟨_,rfl,pa.2,pb.2,?_,?_,?_⟩
    ·simp only [List.length_cons] at q3 ⊢;omega
    ·simp only [zQL,List.length_cons,List.length_nil];omega
    rw [<- q5];exact⟨λ_=>.inr ⟨x,List.mem_cons_self ..,List.mem_cons_self ..⟩,λ_=>.inl (by simp)⟩
   rw [decide_eq_false (show ¬ x <= y by omega), decide_eq_true (show y <= x by omega)];simp only [if_true,Bool.false_eq_true,if_false,aH,dM,Bool.false_and];refine⟨_,rfl,q1,pb.2,?_,?_,?_⟩
   ·simp only [List.length_cons] at q3 ⊢;omega
   ·show o.length<=i+1;omega
   rw [<- q5];refine or_congr Iff.rfl ⟨λ⟨z,h1,h2⟩=>⟨z,h1,List.mem_cons_of_mem _ h2⟩,λ⟨z,h1,h2⟩=>?_⟩;rcases zQB.1 h2 with rfl|h2
   ·rcases zQB.1 h1 with rfl|h1
    ·omega
    have:=pa.1 z h1;omega
   exact⟨z,h1,h2⟩
 rintro⟨a,b,o⟩ ⟨q1,q2,q3,q4,q5⟩;dsimp only at q1 q2 q3 q4 q5 ⊢;obtain rfl:a=[]:=List.eq_nil_of_length_eq_zero (by omega);obtain rfl:b=[]:=List.eq_nil_of_length_eq_zero (by omega);rw [if_neg (by simp)];exact⟨_,rfl,by simpa using q5⟩
theorem zAX (a b:List Int) (ha:a.length<=10000000) (hb:b.length<=10000000):Tot (lJ a b) λr=>(0 < r.length↔qAW a b=true):=by
 unfold lJ;rw [xA a (by omega),aH,xA b (by omega),aH];have h1:=qFR a;have h2:=qFR b;refine aE (zCF _ _ (zO a) (zO b) (by omega)) λr hr=>tot_some.2 ?_;rw [hr,qAV];simp only [ascZ_mem]
def qIG (l:Ag) (s:Am):Option Int:=if 0<=s.el then (l.Ae[s.el.toNat]?).map (·.As) else none
def qGK (l:Ag) (w:List Am):List Int:=w.filterMap (qIG l)
theorem qAA (l:Ag) {w:List Am} {i:Nat} {s:Am} (h:w[i]?=some s) (x:Int):x∈qGK l (w.take (i+1))↔x∈qGK l (w.take i)\/qIG l s=some x:=by
 obtain⟨hi,rfl⟩:=zQQ.1 h;rw [List.take_succ_eq_append_getElem hi];simp only [qGK,List.filterMap_append,zQN,List.mem_filterMap,List.mem_singleton,exists_eq_left]
theorem qIY (l:List Int) (x:Int):cM (l.map λy=>(y,true)) x=if x∈l then some true else none:=by
 induction l with
 | nil=>rfl
 | cons y r ih=>
  rw [List.map_cons,mG,ih];by_cases h:y=x
  ·subst h;simp
  rw [if_neg h];have:x≠y:=λe=>h e.symm;simp [this]
theorem qUR (l:Ag) (w:List Am) (hw:w.length<=1000000):Tot (jH l w) λr=>r.length<=w.length/\∀ x,x∈r↔x∈qGK l w:=by
 unfold jH;refine aE (P:=λo=>o.1.length<=w.length/\∀ x,x∈o.1↔x∈qGK l w) (cE (λi s=>s.1=(i:Int)/\s.2.1.length<=i/\s.2.1.Nodup/\s.2.2=s.2.1.map (λy=>(y,true))/\∀ x,x∈s.2.1↔x∈qGK l (w.take i)) w.length (by omega) ⟨rfl,zQW _,List.nodup_nil,rfl,by simp [qGK]⟩ ?_ ?_) ?_
 ·rintro i ⟨y,b,m⟩ hi ⟨q1,q2,q3,q4,q5⟩;dsimp only at q1 q2 q3 q4 q5;subst q1 q4;dsimp only;have hx:=zQR hi;rw [if_pos (by omega),aJ hx];unfold qH;rw [aH,<- Bool.decide_and];by_cases he:0<=w[i].el/\w[i].el < (l.Ae.length:Int)
  ·rw [decide_eq_true he, if_neg (by simp)];have hel:=zQR (l:=l.Ae) (show w[i].el.toNat < l.Ae.length by omega);have hs:qIG l w[i]=some (l.Ae[w[i].el.toNat]'(by omega)).As:=by unfold qIG;rw [if_pos he.1,hel];rfl
   have hnd:((b.map λy=>(y,true)).map (·.1)).Nodup:=by simpa [List.map_map,Function.comp_def] using q3
   rw [iZ he.1 hel,aA hnd,qIY];generalize (l.Ae[w[i].el.toNat]'(by omega)).As=z at hs;by_cases hz:z∈b
   ·rw [if_pos hz, if_neg (by simp), aA (bG hi (by omega))];refine tot_some.2 ⟨by push_cast;rfl,by show b.length<=i+1;omega,q3,rfl,λx=>?_⟩;rw [qAA l hx,hs,<- q5];constructor
    ·exact .inl
    rintro (h|h)
    ·exact h
    cases h;exact hz
   rw [if_neg hz, if_pos (by simp), aA hnd, aA (by simp only [zQL, List.length_cons, List.length_nil]; omega), aA (bG hi (by omega)), qNH (by rw [qIY, if_neg hz])];refine tot_some.2 ⟨by push_cast;rfl,by simp only [zQL,List.length_cons,List.length_nil];omega,?_,by simp,λx=>?_⟩
   ·show (b++[z]).Nodup;rw [List.nodup_append];exact⟨q3,by simp,λa ha c hc=>by rw [List.mem_singleton] at hc;subst hc;rintro rfl;exact hz ha⟩
   rw [qAA l hx,hs,<- q5,zQN,List.mem_singleton];refine or_congr Iff.rfl ⟨λh=>by rw [h],λh=>(Option.some.inj h).symm⟩
  rw [decide_eq_false he, if_pos (by rfl), aA (bG hi (by omega))]
  have hs:qIG l w[i]=none:=by
   unfold qIG;split
   ·rw [List.getElem?_eq_none (by omega)];rfl
   rfl
  refine tot_some.2 ⟨by push_cast;rfl,by show b.length<=i+1;omega,q3,rfl,λx=>?_⟩;rw [qAA l hx,hs,<- q5];simp
 ·rintro⟨y,b,m⟩ ⟨q1,q2,q3,q4,q5⟩;dsimp only at q1 q2 q3 q4 q5;subst q1;dsimp only;rw [if_neg (by omega)];refine⟨_,rfl,q2,?_⟩;rw [List.take_length] at q5;exact q5
 rintro⟨b,m⟩ h;exact tot_some.2 h
theorem qIV (l:Ag) (b:Be) (hw:b.steps.length<=1000000):Tot (hU l b) λr=>r.length<=1000000/\∀ x,x∈r↔x∈qGK l b.steps:=by
 unfold hU;refine aE (qUR l b.steps hw) ?_;rintro r ⟨h1,h2⟩;rw [aA (by omega)];exact tot_some.2 ⟨by rw [gM];omega,λx=>by rw [qIC,h2]⟩
def qIO (l:Ag) (a b:Be):Bool:=qAW (qGK l a.steps) (qGK l b.steps)
theorem qVT (l:Ag) (u v:Ap) (w:An) (hl:w.layout=l) (h1:u.body.steps.length<=1000000) (h2:v.body.steps.length<=1000000):dO u v w=some (qIO l u.body v.body):=by
 subst hl
 have:Tot (dO u v w) λr=>r=qIO w.layout u.body v.body:=by
  unfold dO;refine aE (qIV _ _ h1) λr1 ⟨a1,a2⟩=>aE (qIV _ _ h2) λr2 ⟨b1,b2⟩=>aE (zAX r1 r2 (by omega) (by omega)) λr hr=>tot_some.2 ?_;rw [Bool.eq_iff_iff,decide_eq_true_eq];unfold qIO;rw [<- qNV a2 b2,<- hr];omega
 obtain⟨r,h,rfl⟩:=this;exact h
structure WOk (w:An):Prop where
 units:w.units.length<=10
 steps:∀ u∈w.units,u.body.steps.length<=100
 clear:w.clear.length<=40
 tracks:w.center.tracks.length<=10
 claims:∀ k∈w.center.tracks,k.Ab.length<=60
 Ab:w.Ar.Ab.length<=50
 iroutes:w.inter.Ab.length<=50
 Ad:w.Ar.Ad.length<=40
 machines:w.machines.length<=40
 Ae:w.layout.Ae.length<=40
 Ar:TOk w.Ar
 setts:SOk w.Ar
structure WVal (w:An):Prop where
 Ac:∀ e∈w.layout.Ae,0<=e.As
 Ae:w.layout.Ae.length<=32
 steps:∀ u∈w.units,∀ s∈u.body.steps,0<=s.el/\s.el < (w.layout.Ae.length:Int)
 sound:lQ w.Ar w.inter=true
 same:w.inter.Ab.length=w.Ar.Ab.length
 some:w.units≠[]
def atF {α:Type} (l:List α) (f:α->List Af) (i:Nat):List Af:=match l[i]? with
 | some a=>f a
 | none=>[]
theorem qLS {α:Type} {l:List α} {f:α->List Af} {i:Nat} {a:α} (h:l[i]?=some a):atF l f i=f a:=by simp only [atF,h]
theorem qFP {α:Type} {l:List α} {f:α->List Af} {m:Nat} (h:∀ a∈l,(f a).length<=m) (i:Nat):(atF l f i).length<=m:=by
 unfold atF
 cases hx:l[i]? with
 | none=>simp
 | some a=>exact h a (zQM hx)
def yN (w:An) (i j:Nat):List Af:=match w.units[i]?,w.units[j]? with
 | some a,some b=>if qIO w.layout a.body b.body=true then [⟨1,a.cab.train.id,b.cab.train.id⟩] else []
 | _,_=>[]
theorem qNO (w:An) (i j:Nat):(yN w i j).length<=1:=by
 unfold yN;split
 ·split<;>simp
 simp
theorem qYT {w:An} {i j:Nat} {a b:Ap} (ha:w.units[i]?=some a) (hb:w.units[j]?=some b):yN w i j=if qIO w.layout a.body b.body=true then [⟨1,a.cab.train.id,b.cab.train.id⟩] else []:=by simp only [yN,ha,hb]
def qGN (w:An) (i:Nat):List Af:=(List.range (w.units.length - (i+1))).flatMap λk=>yN w i (i+1+k)
theorem zBV {w:An} (h:WOk w) (i:Nat):(qGN w i).length<=10:=by
 have:=eK (λk=>yN w i (i+1+k)) 1 (λ_=>qNO _ _ _) (w.units.length - (i+1));have:=h.units;unfold qGN;omega
def qLI (w:An):List Af:=(List.range w.units.length).flatMap (qGN w)
theorem qPH {w:An} (h:WOk w) {i:Nat} (hi:i<=w.units.length):((List.range i).flatMap (qGN w)).length<=100:=by
 have:=eK (qGN w) 10 (zBV h) i;have:=h.units;omega
theorem qWL {w:An} (h:WOk w):dF w=some (qLI w):=by
 have hn:=h.units;unfold dF dH;rw [pP w.units.length (qGN w) [] (w:=qLI w) (by omega) ?_ ?_]
 ·rfl
 ·intro i hi;have hx:=zQR hi;have hl:=qPH h (show i<=w.units.length by omega);dsimp only;rw [if_pos (by omega),aJ hx,aA (bG hi (by omega)),aA (by omega),show (i:Int)+1=((i+1:Nat):Int) by push_cast;rfl,kU];have hdl:(w.units.drop (i+1)).length=w.units.length - (i+1):=by simp
  rw [pP (w.units.length - (i+1)) (λk=>yN w i (i+1+k)) ([]++(List.range i).flatMap (qGN w)) (w:=[]++((List.range i).flatMap (qGN w)++qGN w i)) (by omega) ?_ ?_]
  ·rw [aH,aA (by unfold I64;omega)]
  ·intro k hk;have hj:i+1+k < w.units.length:=by omega
   have hy:=zQR hj;have hz:(w.units.drop (i+1))[k]?=some w.units[i+1+k]:=by rw [List.getElem?_drop];exact hy
   have hkl:=eK (λk=>yN w i (i+1+k)) 1 (λ_=>qNO _ _ _) k;dsimp only;rw [if_pos (by omega),aJ hz,qVT w.layout _ _ w rfl (by have:=h.steps _ (List.getElem_mem hi);omega) (by have:=h.steps _ (List.getElem_mem hj);omega),aH,qYT hx hy];by_cases hm:qIO w.layout w.units[i].body w.units[i+1+k].body=true
   ·rw [if_pos hm,if_pos hm];unfold fQ;rw [aH,aA (by simp only [zQL,List.length_cons,List.length_nil];omega),aA (by unfold I64;omega),List.append_assoc]
   rw [if_neg hm,if_neg hm,aA (by unfold I64;omega),List.append_nil]
  dsimp only;rw [if_neg (by omega),List.append_assoc];rfl
 dsimp only;rw [if_neg (by omega)];rfl
def ovF (u:Ap):List Af:=if u.cab.mode=2/\u.cab.auth.endV < u.xV then [⟨2,u.cab.train.id,0⟩] else []
theorem qYV (u:Ap):ovF u=if u.cab.mode=2/\u.cab.auth.endV < u.xV then [⟨2,u.cab.train.id,0⟩] else []:=rfl
theorem qYU (u:Ap):(ovF u).length<=1:=by unfold ovF;split<;>simp
def ovS (w:An):List Af:=(List.range w.units.length).flatMap (atF w.units ovF)
theorem qVN {w : An} (h : WOk w) {r : List Af} (hr : r.length <= 1000) : aZ (fun (x7, b8) =>
   if x7 < (w.units.length : Int) then
    aT w.units x7 fun e11 =>
    aB (
     aB (gG e11.cab.mode) fun r14 =>
     if r14 = true then
      some (decide (e11.cab.auth.endV < e11.xV))
     else
      some false) fun x12 =>
    if x12 = true then
     aC ((b8 ++ ([(⟨(2 : Int), e11.cab.train.id, (0 : Int)⟩ : Af)] : List Af)).length <= 1000000000) <|
     aC (I64 (x7 + (1 : Int))) <|
     some (.inl ((x7 + (1 : Int)), (b8 ++ ([(⟨(2 : Int), e11.cab.train.id, (0 : Int)⟩ : Af)] : List Af))))
    else
     aC (I64 (x7 + (1 : Int))) <|
     some (.inl ((x7 + (1 : Int)), b8))
   else
    aP (
     some b8)) ((0 : Int), r) = some (r ++ ovS w) := by
 have hn:=h.units;refine pP w.units.length (atF w.units ovF) r (by omega) (λi hi=>?_) ?_
 ·have hx:=zQR hi;have hl:=eK (atF w.units ovF) 1 (qFP λu _=>qYU u) i;dsimp only;rw [if_pos (by omega),aJ hx,qLS hx,qYV];unfold gG;rw [aH];by_cases h1:w.units[i].cab.mode=2
  ·rw [decide_eq_true h1,if_pos rfl,aH];by_cases h2:w.units[i].cab.auth.endV < w.units[i].xV
   ·rw [decide_eq_true h2,if_pos rfl,if_pos ⟨h1,h2⟩,aA (by simp only [zQL,List.length_cons,List.length_nil];omega),aA (bG hi (by omega)),List.append_assoc]
   rw [decide_eq_false h2,if_neg Bool.false_ne_true,if_neg (λq=>h2 q.2),aA (bG hi (by omega)),List.append_nil]
  rw [decide_eq_false h1,if_neg Bool.false_ne_true,aH,if_neg Bool.false_ne_true,if_neg (λq=>h1 q.1),aA (bG hi (by omega)),List.append_nil]
 dsimp only;rw [if_neg (by omega)];rfl
def rZ:List Int->List At->Int->Int
 | [],_,_=>0
 | p :: r, ms, el => if p = el then (match ms with
  | [] => 0
  | m :: _ => m.pos) else rZ r ms.tail el
def qYN (t:Al) (ms:List At) (n:Nat):List Int:=if 32 < n then [] else (List.range n).map λ(e:Nat)=>rZ t.Ad ms (e:Int)
theorem qOA:∀ (ps:List Int) (ms:List At) (el:Int),rZ ps ms el=match fK ps el with
  | some k => (match ms[k]? with
   | some m => m.pos
   | none => 0)
  | none=>0
 | [],ms,el=>rfl
 | p :: r,ms,el=>by
  unfold rZ fK;rw [List.findIdx?_cons];by_cases h:p=el
  ·rw [if_pos h, if_pos (by simpa using h)];cases ms<;>rfl
  rw [if_neg h, if_neg (by simpa using h), qOA r ms.tail el];unfold fK
  cases r.findIdx? (λy=>y == el) with
  | none=>rfl
  | some k=>cases ms<;>simp
theorem qUY (n:Nat) (F:Nat->Int) {i:Nat} (v:Int):((List.range n).map F).set i v=(List.range n).map λe=>if e=i then v else F e:=by
 apply List.ext_getElem (by simp);intro j h1 h2;simp only [List.getElem_set,List.getElem_map,List.getElem_range];by_cases h:i=j
 ·rw [if_pos h,if_pos h.symm]
 rw [if_neg h,if_neg (λe=>h e.symm)]
theorem qAY {n:Nat} {F G:Nat->Int} (h:∀ e,e < n->F e=G e):(List.range n).map F=(List.range n).map G:=List.map_congr_left λe he=>h e (List.mem_range.1 he)
theorem qYM (t:Al) (ms:List At) (n:Nat) (ht:t.Ad.length<=1000) (hm:ms.length<=1000):hO t ms (n:Int)=some (qYN t ms n):=by
 unfold hO qYN;by_cases hn:32 < n
 ·rw [if_pos (by simp only [Bool.or_eq_true,decide_eq_true_eq];omega),if_pos hn]
 rw [if_neg (by simp only [Bool.or_eq_true, decide_eq_true_eq]; omega), if_neg hn, aA (by omega)];rw [iX n (λi=>(List.range n).map λe=>if e < i then rZ t.Ad ms (e:Int) else 0) (o:=(List.range n).map λ(e:Nat)=>rZ t.Ad ms (e:Int)) ?_ (by omega) ?_ ?_]
 ·rfl
 ·apply List.ext_getElem (by simp);intro j h1 h2;simp
 ·intro i hi;dsimp only;have hb:((List.range n).map λe=>if e < i then rZ t.Ad ms (e:Int) else 0)[i]?=some 0:=by rw [zQP,List.getElem?_range hi];simp
  have hs:∀ v,v=rZ t.Ad ms (i:Int)->((List.range n).map λe=>if e < i then rZ t.Ad ms (e:Int) else 0).set i v=(List.range n).map λe=>if e < i+1 then rZ t.Ad ms (e:Int) else 0:=λv hv=>by
   rw [qUY];refine qAY λe he=>?_;by_cases h:e=i
   ·rw [if_pos h,if_pos (by omega),h,hv]
   rw [if_neg h];by_cases h2:e < i
   ·rw [if_pos h2,if_pos (by omega)]
   rw [if_neg h2,if_neg (by omega)]
  have hz:rZ t.Ad ms (i:Int)=0->((List.range n).map λe=>if e < i then rZ t.Ad ms (e:Int) else 0)=(List.range n).map λe=>if e < i+1 then rZ t.Ad ms (e:Int) else 0:=λhv=>by
   refine qAY λe he=>?_;by_cases h:e=i
   ·rw [if_neg (by omega),if_pos (by omega),h,hv]
   by_cases h2:e < i
   ·rw [if_pos h2,if_pos (by omega)]
   rw [if_neg h2,if_neg (by omega)]
  rw [if_pos (by simp;omega),vP t _ (by unfold Cnt;omega),aH];have hl:=qOA t.Ad ms (i:Int)
  cases hk:fK t.Ad (i:Int) with
  | none=>
   rw [hk] at hl;rw [if_neg (by simp [tW]),aA (bG hi (by omega)),hz hl]
  | some k=>
   rw [hk] at hl;by_cases hkm:k < ms.length
   ·have hy:=zQR hkm;dsimp only at hl;rw [hy] at hl;rw [if_pos (by simp [tW];omega)];show aT ms (k:Int) _=_;rw [aJ hy,aJ hb,aA (bG hi (by omega)),Int.toNat_natCast,hs _ hl.symm]
   dsimp only at hl;rw [List.getElem?_eq_none (by omega)] at hl;rw [if_neg (by simp [tW];omega),aA (bG hi (by omega)),hz hl]
 dsimp only;rw [if_neg (by simp)];show some (Sum.inr _)=_
 congr 2
 refine qAY λe he=>?_;rw [if_pos he]
end Go.Proofs.YtofndjhpbonpbaaGreatDoor
set_option linter.unusedVariables false
set_option linter.unusedSimpArgs false
set_option maxHeartbeats 2000000
set_option maxRecDepth 100000
namespace Go.Proofs.YtofndjhpbonpbaaGreatDoor
open Go Go.TL
def rY (k i o:Int):Int:=if k=2/\(i=0/\o=1\/i=1/\o=0) then 1 else if k=2/\(i=0/\o=2\/i=2/\o=0) then 2 else 0
def qED (k i o:Int) (p:Br):Bool:=decide (p.kind=k)&&(decide (p.inV=i)&&decide (p.out=o))
theorem qVM:∀ p∈passages,p.need=rY p.kind p.inV p.out:=by decide
theorem qYR (k i o:Int) (h:rY k i o≠0):∃ p∈passages,qED k i o p=true:=by
 unfold rY at h;split at h
 ·rename_i q;obtain⟨rfl,⟨rfl,rfl⟩|⟨rfl,rfl⟩⟩:=q
  ·exact⟨⟨2,0,1,1⟩,by decide,by decide⟩
  exact⟨⟨2,1,0,1⟩,by decide,by decide⟩
 split at h
 ·rename_i q;obtain⟨rfl,⟨rfl,rfl⟩|⟨rfl,rfl⟩⟩:=q
  ·exact⟨⟨2,0,2,2⟩,by decide,by decide⟩
  exact⟨⟨2,2,0,2⟩,by decide,by decide⟩
 exact absurd rfl h
theorem qVS (k i o:Int):∃ r b,oG k i o=some (r,b)/\(if b=true then r else 0)=rY k i o:=by
 unfold oG;rw [qIQ passages (λp=>if qED k i o p=true then some (.inr (p.need,true)) else none) (.inl ()) (by decide) ?_ ?_]
 ·cases hf:passages.findSome? (λp=>if qED k i o p=true then some (Sum.inr (p.need,true):(_root_.Unit ⊕ (Int×Bool))) else none) with
  | none=>
   refine⟨0,false,rfl,?_⟩;rw [if_neg Bool.false_ne_true];by_cases h:rY k i o=0
   ·exact h.symm
   obtain⟨p,hp,hb⟩:=qYR k i o h;have:=List.findSome?_eq_none_iff.1 hf p hp;rw [if_pos hb] at this;cases this
  | some v=>
   obtain⟨p,hp,he⟩:=List.exists_of_findSome?_eq_some hf;by_cases hb:qED k i o p=true
   ·rw [if_pos hb] at he;cases he;refine⟨p.need,true,rfl,?_⟩;rw [if_pos rfl,qVM p hp];unfold qED at hb;simp only [zQA,decide_eq_true_eq] at hb;rw [hb.1,hb.2.1,hb.2.2]
   rw [if_neg hb] at he;cases he
 ·intro j e he;have hj:=(zQQ.1 he).1;have hj10:j < 10:=hj;rw [if_pos (by omega),aJ he];show (if qED k i o e=true then _ else _)=_;by_cases hb:qED k i o e=true
  ·rw [if_pos hb,if_pos hb];rfl
  rw [if_neg hb,if_neg hb,aA (bG hj (by decide))]
 rfl
def ptF (w:An) (u:Ap) (s:Am):List Af:=match (if 0<=s.el then w.layout.Ae[s.el.toNat]? else none),(qYN w.Ar w.machines w.layout.Ae.length)[s.el.toNat]? with
 | some e,some p=>if rY e.kind s.inV s.out≠0/\p≠rY e.kind s.inV s.out then [⟨4,u.cab.train.id,s.el⟩] else []
 | _,_=>[]
theorem ptF_eq (w:An) (u:Ap) (s:Am):ptF w u s=match (if 0<=s.el then w.layout.Ae[s.el.toNat]? else none),(qYN w.Ar w.machines w.layout.Ae.length)[s.el.toNat]? with
 | some e,some p=>if rY e.kind s.inV s.out≠0/\p≠rY e.kind s.inV s.out then [⟨4,u.cab.train.id,s.el⟩] else []
 | _,_=>[]:=rfl
theorem qYK (w:An) (u:Ap) (s:Am):(ptF w u s).length<=1:=by
 unfold ptF;split
 ·split<;>simp
 simp
def ptU (w:An) (u:Ap):List Af:=(List.range u.body.steps.length).flatMap (atF u.body.steps (ptF w u))
theorem ptU_le {w:An} (h:WOk w):∀ u∈w.units,(ptU w u).length<=100:=λu hu=>by
 have:=eK (atF u.body.steps (ptF w u)) 1 (qFP λs _=>qYK w u s) u.body.steps.length;have:=h.steps u hu;unfold ptU;omega
def ptS (w:An):List Af:=(List.range w.units.length).flatMap (atF w.units (ptU w))
theorem qTE {w:An} (h:WOk w) {i:Nat} (hi:i<=w.units.length):((List.range i).flatMap (atF w.units (ptU w))).length<=1000:=by
 have:=eK (atF w.units (ptU w)) 100 (qFP (ptU_le h)) i;have:=h.units;omega
theorem qNJ {w:An} (h:WOk w):jK w=some (ptS w):=by
 have hn:=h.units;have hE:=h.Ae;unfold jK;rw [qYM w.Ar w.machines w.layout.Ae.length (by have:=h.Ad;omega) (by have:=h.machines;omega),aH];rw [pP w.units.length (atF w.units (ptU w)) [] (w:=ptS w) (by omega) ?_ ?_]
 ·rfl
 ·intro i hi;have hx:=zQR hi;have hl:=qTE h (show i<=w.units.length by omega);have hst:=h.steps _ (List.getElem_mem hi);dsimp only;rw [if_pos (by omega),aJ hx,qLS hx];rw [pP w.units[i].body.steps.length (atF w.units[i].body.steps (ptF w w.units[i])) ([]++(List.range i).flatMap (atF w.units (ptU w))) (w:=[]++((List.range i).flatMap (atF w.units (ptU w))++ptU w w.units[i])) (by omega) ?_ ?_]
  ·rw [aH,aA (bG hi (by omega))]
  ·intro k hk;have hy:=zQR hk;have hkl:=eK (atF w.units[i].body.steps (ptF w w.units[i])) 1 (qFP λs _=>qYK w _ s) k;dsimp only;rw [if_pos (by omega),aJ hy,qLS hy];generalize w.units[i].body.steps[k]=s;rw [ptF_eq];generalize qYN w.Ar w.machines w.layout.Ae.length=P;by_cases hs:0<=s.el/\s.el < (w.layout.Ae.length:Int)/\s.el < (P.length:Int)
   ·have he := zQR (l := w.layout.Ae) (show s.el.toNat < w.layout.Ae.length by omega);have hp:=zQR (l:=P) (show s.el.toNat < P.length by omega);rw [if_neg (by simp only [Bool.or_eq_true,decide_eq_true_eq];omega),iZ hs.1 he,if_pos hs.1,he,hp];dsimp only;obtain⟨r,b,e1,e2⟩:=qVS (w.layout.Ae[s.el.toNat]'(by omega)).kind s.inV s.out;rw [e1,aH]
    cases b with
    | false=>
     have h0:rY (w.layout.Ae[s.el.toNat]'(by omega)).kind s.inV s.out=0:=e2.symm.trans (if_neg Bool.false_ne_true);rw [if_neg Bool.false_ne_true,aH,if_neg Bool.false_ne_true,if_neg (λq=>q.1 h0),aA (bG hk (by omega)),List.append_nil]
    | true=>
     have hr:rY (w.layout.Ae[s.el.toNat]'(by omega)).kind s.inV s.out=r:=e2.symm.trans (if_pos rfl);rw [if_pos rfl];by_cases h0:r=0
     ·rw [if_pos h0,aH,if_neg Bool.false_ne_true,if_neg (λq=>q.1 (hr.trans h0)),aA (bG hk (by omega)),List.append_nil]
     rw [if_neg h0,iZ hs.1 hp,aH,hr];by_cases h1:r=P[s.el.toNat]'(by omega)
     ·rw [decide_eq_true h1,if_neg (by simp),if_neg (λq=>q.2 h1.symm),aA (bG hk (by omega)),List.append_nil]
     rw [decide_eq_false h1,if_pos (by rfl),if_pos ⟨h0,λq=>h1 q.symm⟩,aA (by simp only [zQL,List.length_cons,List.length_nil];omega),aA (bG hk (by omega)),List.append_assoc]
   rw [if_pos (by simp only [Bool.or_eq_true, decide_eq_true_eq]; omega), aA (bG hk (by omega))]
   have hnone : (match (if 0 <= s.el then w.layout.Ae[s.el.toNat]? else none), P[s.el.toNat]? with
    | some e, some p => if rY e.kind s.inV s.out ≠ 0 /\ p ≠ rY e.kind s.inV s.out then [(⟨4, w.units[i].cab.train.id, s.el⟩ : Af)] else []
    | _, _ => []) = [] := by
    by_cases h0:0<=s.el
    ·rw [if_pos h0];by_cases h1:s.el < (w.layout.Ae.length:Int)
     ·rw [List.getElem?_eq_none (l := P) (by omega)];split
      ·rename_i q;cases q
      rfl
     rw [List.getElem?_eq_none (l:=w.layout.Ae) (by omega)]
    rw [if_neg h0]
   rw [hnone,List.append_nil]
  dsimp only;rw [if_neg (by omega),List.append_assoc];rfl
 dsimp only;rw [if_neg (by omega)];rfl
def zH (w:An) (g:Int) (r:Nat):Bool:=match w.Ar.Ab[r]?,w.inter.Ab[r]? with
 | some a,some x=>decide (a.entry=g)&&decide (x.state=2)
 | _,_=>false
def vC (w:An) (g:Int) (n:Nat):Bool:=(List.range n).any (zH w g)
theorem vB (w:An) (g:Int) (n:Nat):vC w g (n+1)=(vC w g n||zH w g n):=by
 unfold vC;rw [List.range_succ,List.any_append];simp
def sgF (w:An) (g:Nat):List Af:=match w.clear[g]? with
 | some b=>if b=true/\vC w (g:Int) w.Ar.Ab.length=false then [⟨5,(g:Int),0⟩] else []
 | none=>[]
theorem sgF_eq (w:An) (g:Nat):sgF w g=match w.clear[g]? with
 | some b=>if b=true/\vC w (g:Int) w.Ar.Ab.length=false then [⟨5,(g:Int),0⟩] else []
 | none=>[]:=rfl
theorem qXW (w:An) (g:Nat):(sgF w g).length<=1:=by
 unfold sgF;split
 ·split<;>simp
 simp
def sgS (w:An):List Af:=(List.range w.clear.length).flatMap (sgF w)
theorem qJH {w:An} (h:WOk w):fX w=some (sgS w):=by
 have hn:=h.Ab;have hc:=h.clear
 have:Tot (fX w) λr=>r=sgS w:=by
  unfold fX;refine aE (P:=λm=>(m.map (·.1)).Nodup/\∀ g,(cM m g).getD false=vC w g w.Ar.Ab.length) (cE (λi s=>s.1=(i:Int)/\(s.2.map (·.1)).Nodup/\∀ g,(cM s.2 g).getD false=vC w g i) w.Ar.Ab.length (by omega) ⟨rfl,by simp,λg=>rfl⟩ ?_ ?_) ?_
  ·rintro i ⟨y,m⟩ hi ⟨q1,q2,q3⟩;dsimp only at q1 q2 q3;subst q1;dsimp only;have hx:=zQR hi;rw [if_pos (by omega),aJ hx];by_cases hr:i < w.inter.Ab.length
   ·have hy:=zQR hr;rw [if_pos (by omega),aJ hy,aH];by_cases hs:w.inter.Ab[i].state=2
    ·rw [decide_eq_true hs, if_pos rfl, aA q2, aA (bG hi (by omega))];refine tot_some.2 ⟨by push_cast;rfl,qIL q2 _ _,λg=>?_⟩;show (cM (tE m _ true) g).getD false=_;rw [qIW,vB,<- q3];unfold zH;rw [hx,hy];dsimp only;rw [decide_eq_true hs,Bool.and_true];by_cases hg:g=w.Ar.Ab[i].entry
     ·rw [if_pos hg,decide_eq_true hg.symm];simp
     rw [if_neg hg,decide_eq_false (λq=>hg q.symm)];simp
    rw [decide_eq_false hs, if_neg Bool.false_ne_true, aA (bG hi (by omega))];refine tot_some.2 ⟨by push_cast;rfl,q2,λg=>?_⟩;rw [vB,<- q3];unfold zH;rw [hx,hy];dsimp only;rw [decide_eq_false hs];simp
   rw [if_neg (by omega), aH, if_neg Bool.false_ne_true, aA (bG hi (by omega))];refine tot_some.2 ⟨by push_cast;rfl,q2,λg=>?_⟩;rw [vB,<- q3];unfold zH;rw [hx,List.getElem?_eq_none (by omega)];simp
  ·rintro⟨y,m⟩ ⟨q1,q2,q3⟩;dsimp only at q1 q2 q3;subst q1;dsimp only;rw [if_neg (by omega)];exact⟨_,rfl,q2,q3⟩
  rintro m ⟨h1,h2⟩;rw [pP w.clear.length (sgF w) [] (w:=sgS w) (by omega) ?_ ?_]
  ·exact tot_some.2 rfl
  ·intro i hi;have hx:=zQR hi;have hl:=eK (sgF w) 1 (qXW w) i;dsimp only;rw [if_pos (by omega),aJ hx];rw [sgF_eq,hx];dsimp only
   cases hb:w.clear[i] with
   | false=>rw [if_neg Bool.false_ne_true,aH,if_neg Bool.false_ne_true,if_neg (λq=>Bool.false_ne_true q.1),aA (bG hi (by omega)),List.append_nil]
   | true=>
    rw [if_pos rfl,aA h1,aH,h2]
    cases vC w (i:Int) w.Ar.Ab.length with
    | false=>rw [if_pos (by rfl),if_pos ⟨rfl,rfl⟩,aA (by simp only [zQL,List.length_cons,List.length_nil];omega),aA (bG hi (by omega)),List.append_assoc]
    | true=>rw [if_neg (by simp),if_neg (by simp),aA (bG hi (by omega)),List.append_nil]
  dsimp only;rw [if_neg (by omega)];rfl
 obtain⟨r,e,rfl⟩:=this;exact e
def iE (w:An) (n:Nat):List Int:=(w.center.tracks.take n).flatMap (·.Ab)
theorem qBY {w:An} {i:Nat} {k:A5} (h:w.center.tracks[i]?=some k):iE w (i+1)=iE w i++k.Ab:=by
 obtain⟨hi,rfl⟩:=zQQ.1 h;unfold iE;rw [List.take_succ_eq_append_getElem hi,List.flatMap_append];simp
theorem qFI {w:An} (h:WOk w):∀ i,(iE w i).length<=i * 60
 | 0=>by simp [iE]
 | i+1=>by
  have ih:=qFI h i;by_cases hi:i < w.center.tracks.length
  ·have hx:=zQR hi;have:=h.claims _ (List.getElem_mem hi);rw [qBY hx,zQL];omega
  have e : iE w (i + 1) = iE w i := by unfold iE; rw [List.take_of_length_le (by omega), List.take_of_length_le (by omega)]
  rw [e];omega
def qSC (w:An) (r:Int):Nat:=(iE w w.center.tracks.length).count r
def qEU (w:An) (r:Nat):Bool:=match w.inter.Ab[r]? with
 | some x=>decide (x.state=0)
 | none=>false
def clF (w:An) (r:Nat):List Af:=if 1 < qSC w (r:Int)\/qSC w (r:Int)=1/\qEU w r=true then [⟨6,(r:Int),0⟩] else []
theorem clF_eq (w:An) (r:Nat):clF w r=if 1 < qSC w (r:Int)\/qSC w (r:Int)=1/\qEU w r=true then [⟨6,(r:Int),0⟩] else []:=rfl
theorem zAI (w:An) (r:Nat):(clF w r).length<=1:=by unfold clF;split<;>simp
def clS (w:An):List Af:=(List.range w.Ar.Ab.length).flatMap (clF w)
theorem qQQ {l:List Int} {i:Nat} {x:Int} (h:l[i]?=some x) (r:Int):(l.take (i+1)).count r=(l.take i).count r+(if x=r then 1 else 0):=by
 obtain⟨hi,rfl⟩:=zQQ.1 h;rw [List.take_succ_eq_append_getElem hi,List.count_append,List.count_singleton];simp
theorem qLO {w:An} (h:WOk w):fY w=some (clS w):=by
 have hn:=h.Ab;have ht:=h.tracks
 have:Tot (fY w) λr=>r=clS w:=by
  unfold fY;refine aE (P:=λm=>(m.map (·.1)).Nodup/\∀ g,(cM m g).getD 0=(qSC w g:Int)) (cE (λi s=>s.1=(i:Int)/\(s.2.map (·.1)).Nodup/\∀ g,(cM s.2 g).getD 0=((iE w i).count g:Int)) w.center.tracks.length (by omega) ⟨rfl,by simp,λg=>by simp [iE,qIX]⟩ ?_ ?_) ?_
  ·rintro i ⟨y,m⟩ hi ⟨q1,q2,q3⟩;dsimp only at q1 q2 q3;subst q1;dsimp only;have hx:=zQR hi;have hcl:=h.claims _ (List.getElem_mem hi);have hlen:=qFI h i;rw [if_pos (by omega),aJ hx];refine aE (P:=λm=>(m.map (·.1)).Nodup/\∀ g,(cM m g).getD 0=((iE w (i+1)).count g:Int)) (cE (λk s=>s.1=(k:Int)/\(s.2.map (·.1)).Nodup/\∀ g,(cM s.2 g).getD 0=((iE w i).count g+((w.center.tracks[i].Ab).take k).count g:Nat)) w.center.tracks[i].Ab.length (by omega) ⟨rfl,q2,λg=>by rw [q3];simp⟩ ?_ ?_) ?_
   ·rintro k ⟨y,m⟩ hk ⟨p1,p2,p3⟩;dsimp only at p1 p2 p3;subst p1;dsimp only;have hy:=zQR hk;have hb:=p3 w.center.tracks[i].Ab[k];have c1:=List.count_le_length (a:=w.center.tracks[i].Ab[k]) (l:=iE w i);have c2:=List.count_le_length (a:=w.center.tracks[i].Ab[k]) (l:=w.center.tracks[i].Ab.take k);rw [List.length_take] at c2;rw [if_pos (by omega),aJ hy,aA p2,aA (by rw [hb];unfold I64;omega),aA p2,aA (bG hk (by omega))];refine tot_some.2 ⟨by push_cast;rfl,qIL p2 _ _,λg=>?_⟩;show (cM (tE m _ _) g).getD 0=_;rw [qIW,qQQ hy,hb];by_cases hg:g=w.center.tracks[i].Ab[k]
    ·rw [if_pos hg,if_pos hg.symm,<- hg];show _+(1:Int)=_;push_cast;omega
    rw [if_neg hg,if_neg (λq=>hg q.symm),p3];simp
   ·rintro⟨y,m⟩ ⟨p1,p2,p3⟩;dsimp only at p1 p2 p3;subst p1;dsimp only;rw [if_neg (by omega)];refine⟨_,rfl,p2,λg=>?_⟩;rw [p3,qBY hx,List.take_length,List.count_append]
   rintro m2 ⟨h1,h2⟩;rw [aA (bG hi (by omega))];exact tot_some.2 ⟨by push_cast;rfl,h1,h2⟩
  ·rintro⟨y,m⟩ ⟨q1,q2,q3⟩;dsimp only at q1 q2 q3;subst q1;dsimp only;rw [if_neg (by omega)];exact⟨_,rfl,q2,q3⟩
  rintro m ⟨h1,h2⟩;rw [pP w.Ar.Ab.length (clF w) [] (w:=clS w) (by omega) ?_ ?_]
  ·exact tot_some.2 rfl
  ·intro i hi;have hl:=eK (clF w) 1 (zAI w) i;dsimp only;rw [if_pos (by omega)]
   have hidle:(if (i:Int) < (w.inter.Ab.length:Int) then aT w.inter.Ab (i:Int) λe40=>some (decide (e40.state=(0:Int))) else some false)=some (qEU w i):=by
    unfold qEU;by_cases hr:i < w.inter.Ab.length
    ·have hy:=zQR hr;rw [if_pos (by omega),aJ hy,hy]
    rw [if_neg (by omega),List.getElem?_eq_none (by omega)]
   rw [hidle,aH,aA h1,aA h1,h2,clF_eq];by_cases c1:1 < qSC w (i:Int)
   ·rw [if_pos (by omega),aH,if_pos rfl,if_pos (.inl c1),aA (by simp only [zQL,List.length_cons,List.length_nil];omega),aA (bG hi (by omega)),List.append_assoc]
   rw [if_neg (by omega)];by_cases c2:qSC w (i:Int)=1
   ·rw [if_pos (by omega), aH];by_cases c3:qEU w i=true
    ·rw [if_pos c3,if_pos (.inr ⟨c2,c3⟩),aA (by simp only [zQL,List.length_cons,List.length_nil];omega),aA (bG hi (by omega)),List.append_assoc]
    rw [if_neg c3,if_neg (λq=>q.elim c1 λq=>c3 q.2),aA (bG hi (by omega)),List.append_nil]
   rw [if_neg (by omega),aH,if_neg Bool.false_ne_true,if_neg (λq=>q.elim c1 λq=>c2 q.1),aA (bG hi (by omega)),List.append_nil]
  dsimp only;rw [if_neg (by omega)];rfl
 obtain⟨r,e,rfl⟩:=this;exact e
def qEK (w:An):List Af:=if lQ w.Ar w.inter=true then [] else [⟨3,0,0⟩]
def uY (w:An):List Af:=qLI w++ovS w++qEK w++ptS w++sgS w++clS w
theorem qNN {w:An} (h:WOk w):(qLI w).length<=100/\(ovS w).length<=10/\(ptS w).length<=1000/\(sgS w).length<=40/\(clS w).length<=50:=by
 have h1:=h.units;have h2:=h.clear;have h3:=h.Ab;have a1:=eK (atF w.units ovF) 1 (qFP λu _=>qYU u) w.units.length;have a2:=eK (sgF w) 1 (qXW w) w.clear.length;have a3:=eK (clF w) 1 (zAI w) w.Ar.Ab.length;exact⟨qPH h (zQW _),by unfold ovS;omega,qTE h (zQW _),by unfold sgS;omega,by unfold clS;omega⟩
theorem qFJ {w:An} (h:WOk w):eD w=some (uY w):=by
 obtain⟨l1,l2,l3,l4,l5⟩:=qNN h;have hL:qEK w=if lQ w.Ar w.inter=true then [] else [⟨3,0,0⟩]:=rfl;have hLl:(qEK w).length<=1:=by rw [hL];split<;>simp
 have hm:(aB (some (lQ w.Ar w.inter)) λr23=>if (!(r23))=true then aC (((qLI w++ovS w)++([(⟨(3:Int),(0:Int),(0:Int)⟩:Af)]:List Af)).length<=1000000000) <| some ((qLI w++ovS w)++([(⟨(3:Int),(0:Int),(0:Int)⟩:Af)]:List Af)) else some (qLI w++ovS w))=some (qLI w++ovS w++qEK w):=by
  rw [aH,hL];by_cases hs:lQ w.Ar w.inter=true
  ·rw [if_pos hs,if_neg (by rw [hs];simp),List.append_nil]
  rw [if_neg hs,if_pos (by rw [Bool.not_eq_true] at hs;rw [hs];rfl),aA (by simp only [zQL,List.length_cons,List.length_nil];omega)]
 unfold eD;rw [qWL h,aH,qVN h (by omega),aH,qXV w.Ar w.inter h.Ar h.setts,hm,aH,qNJ h,aH,aA (by simp only [zQL];omega),qJH h,aH,aA (by simp only [zQL];omega),qLO h,aH,aA (by simp only [zQL];omega)];rfl
theorem qML (a b:List Int) (hb:b.length<=1000000000000000):Tot (gB a b) λ_=>True:=by
 unfold gB;split
 ·rename_i hl;refine bN (P:=λ_=>True) (bZ a (by omega) (λ_=>True) trivial ?_ ?_) (λ_ _=>tot_some.2 trivial) (λ_ _=>trivial)
  ·intro i e he _;have hi:=(zQQ.1 he).1;have hy:=zQR (l:=b) (show i < b.length by omega);rw [if_pos (by omega),aJ he,aJ hy];split
   ·rw [aA (bG hi (by omega))];exact⟨_,rfl,.inl ⟨rfl,trivial⟩⟩
   exact⟨_,rfl,.inr ⟨_,rfl,trivial⟩⟩
  intro _;rw [if_neg (by omega)];exact⟨_,rfl,_,rfl,trivial⟩
 exact tot_some.2 trivial
theorem qDM (a b:List Int) (hb:b.length<=1000000000000000):Tot (eZ a b) λ_=>True:=by
 unfold eZ lF;refine aE (P:=λ_=>True) ?_ λ_ _=>tot_some.2 trivial;split
 ·rename_i hl;refine bN (P:=λ_=>True) (bZ a (by omega) (λ_=>True) trivial ?_ ?_) (λ_ _=>tot_some.2 trivial) (λ_ _=>trivial)
  ·intro i e he _;have hi:=(zQQ.1 he).1;have hy:=zQR (l:=b) (show i < b.length by omega);rw [if_pos (by omega),aJ he,aJ hy];split
   ·rw [aA (bG hi (by omega))];exact⟨_,rfl,.inl ⟨rfl,trivial⟩⟩
   exact⟨_,rfl,.inr ⟨_,rfl,trivial⟩⟩
  intro _;rw [if_neg (by omega)];exact⟨_,rfl,_,rfl,trivial⟩
 exact tot_some.2 trivial
theorem qTA (a b:List Am) (hb:b.length<=1000000000000000) (ha:∀ s∈a,Am.ok s) (hc:∀ s∈b,Am.ok s):Tot (fL a b) λ_=>True:=by
 unfold fL jX;refine aE (P:=λ_=>True) ?_ λ_ _=>tot_some.2 trivial;split
 ·rename_i hl;refine bN (P:=λ_=>True) (bZ a (by omega) (λ_=>True) trivial ?_ ?_) (λ_ _=>tot_some.2 trivial) (λ_ _=>trivial)
  ·intro i e he _;have hi:=(zQQ.1 he).1;have hy:=zQR (l:=b) (show i < b.length by omega);rw [if_pos (by omega),aJ he,aJ hy,aA ⟨ha _ (zQM he),hc _ (List.getElem_mem _)⟩];split
   ·rw [aA (bG hi (by omega))];exact⟨_,rfl,.inl ⟨rfl,trivial⟩⟩
   exact⟨_,rfl,.inr ⟨_,rfl,trivial⟩⟩
  intro _;rw [if_neg (by omega)];exact⟨_,rfl,_,rfl,trivial⟩
 exact tot_some.2 trivial
theorem qJL (a b:List Aa) (hb:b.length<=1000000000000000) (ha:∀ s∈a,Aa.ok s) (hc:∀ s∈b,Aa.ok s):Tot (dN a b) λ_=>True:=by
 unfold dN gP;refine aE (P:=λ_=>True) ?_ λ_ _=>tot_some.2 trivial;split
 ·rename_i hl;refine bN (P:=λ_=>True) (bZ a (by omega) (λ_=>True) trivial ?_ ?_) (λ_ _=>tot_some.2 trivial) (λ_ _=>trivial)
  ·intro i e he _;have hi:=(zQQ.1 he).1;have hy:=zQR (l:=b) (show i < b.length by omega);rw [if_pos (by omega),aJ he,aJ hy,aA ⟨ha _ (zQM he),hc _ (List.getElem_mem _)⟩];split
   ·rw [aA (bG hi (by omega))];exact⟨_,rfl,.inl ⟨rfl,trivial⟩⟩
   exact⟨_,rfl,.inr ⟨_,rfl,trivial⟩⟩
  intro _;rw [if_neg (by omega)];exact⟨_,rfl,_,rfl,trivial⟩
 exact tot_some.2 trivial
theorem zBR (a b:List End) (hb:b.length<=1000000000000000) (ha:∀ s∈a,End.ok s) (hc:∀ s∈b,End.ok s):Tot (iP a b) λ_=>True:=by
 unfold iP;split
 ·rename_i hl;refine bN (P:=λ_=>True) (bZ a (by omega) (λ_=>True) trivial ?_ ?_) (λ_ _=>tot_some.2 trivial) (λ_ _=>trivial)
  ·intro i e he _;have hi:=(zQQ.1 he).1;have hy:=zQR (l:=b) (show i < b.length by omega);rw [if_pos (by omega),aJ he,aJ hy,aA ⟨ha _ (zQM he),hc _ (List.getElem_mem _)⟩];split
   ·rw [aA (bG hi (by omega))];exact⟨_,rfl,.inl ⟨rfl,trivial⟩⟩
   exact⟨_,rfl,.inr ⟨_,rfl,trivial⟩⟩
  intro _;rw [if_neg (by omega)];exact⟨_,rfl,_,rfl,trivial⟩
 exact tot_some.2 trivial
theorem wf_cmp {r:Ai} (w:r.Wf):RtCmp r:=⟨λs h=>let q:=w.path.2 s h;⟨q.el,q.inV,q.out⟩,λs h=>let q:=w.Ad.2 s h;⟨q.el,q.pos⟩,λs h=>let q:=w.over.2 s h;⟨q.el,q.inV,q.out⟩,λs h=>let q:=w.Aj.2 s h;⟨q.el,q.pos⟩,λs h=>let q:=w.Au.2 s h;⟨q.el,q.pos⟩,λs h=>let q:=w.gaps.2 s h;⟨q.el,q.side⟩⟩
theorem zBQ {a b:Ai} (ha:RtCmp a) (wb:b.Wf):Tot (pF a b) λ_=>True:=by
 have hb:=wf_cmp wb;have L:∀ {n:Nat},n<=reachBytes->n<=1000000000000000:=λh=>by have:=pU h;omega
 unfold pF;split
 ·exact tot_some.2 trivial
 refine aE (P := fun _ => True) ?_ fun x _ => ?_
 ·refine aE (qTA _ _ (L wb.path.1) ha.path hb.path) fun r _ => ?_;split
  ·exact tot_some.2 trivial
  refine aE (qJL _ _ (L wb.Ad.1) ha.Ad hb.Ad) fun r _ => ?_;split
  ·exact tot_some.2 trivial
  exact aE (qDM _ _ (L wb.Ac.1)) λr _=>tot_some.2 trivial
 split
 ·exact tot_some.2 trivial
 refine aE (P := fun _ => True) ?_ fun y _ => tot_some.2 trivial;refine aE (qTA _ _ (L wb.over.1) ha.over hb.over) λr _=>?_;split
 ·refine aE (qJL _ _ (L wb.Aj.1) ha.Aj hb.Aj) fun r _ => ?_;split
  ·refine aE (qDM _ _ (L wb.Ao.1)) fun r _ => ?_;split
   ·refine aE (qJL _ _ (L wb.Au.1) ha.Au hb.Au) fun r _ => ?_;split
    ·refine aE (qDM _ _ (L wb.guards.1)) fun r _ => ?_;split
     ·exact aE (zBR _ _ (L wb.gaps.1) ha.gaps hb.gaps) λr _=>tot_some.2 trivial
     exact tot_some.2 trivial
    exact tot_some.2 trivial
   exact tot_some.2 trivial
  exact tot_some.2 trivial
 exact tot_some.2 trivial
theorem zBP {t u:Al} (ht:∀ r∈t.Ab,RtCmp r) (wu:u.Wf):Tot (pC t u) λ_=>True:=by
 have L:∀ {n:Nat},n<=reachBytes->n<=1000000000000000:=λh=>by have:=pU h;omega
 unfold pC;refine aE (P:=λx=>x=false->t.Ab.length=u.Ab.length) ?_ λx hx=>?_
 ·split
  ·rename_i hl;refine aE (qML _ _ (L wu.Ad.1)) λr _=>?_;split
   ·exact tot_some.2 λh=>by cases h
   refine aE (qML _ _ (L wu.A1.1)) fun r _ => ?_;split
   ·exact tot_some.2 λh=>by cases h
   split
   ·exact tot_some.2 λ_=>by omega
   exact tot_some.2 λh=>by cases h
  exact tot_some.2 λh=>by cases h
 cases x with
 | true=>rw [if_pos rfl];exact tot_some.2 trivial
 | false=>
  have hl:=hx rfl;have:=L wu.Ab.1;rw [if_neg Bool.false_ne_true];refine bN (P:=λ_=>True) (bZ t.Ab (by omega) (λ_=>True) trivial ?_ ?_) (λ_ _=>tot_some.2 trivial) (λ_ _=>trivial)
  ·intro i e he _;have hi:=(zQQ.1 he).1;have hy:=zQR (l:=u.Ab) (show i < u.Ab.length by omega);rw [if_pos (by omega),aJ he,aJ hy];refine aE (zBQ (ht _ (zQM he)) (wu.Ab.2 _ (List.getElem_mem _))) λr _=>?_;split
   ·exact⟨_,rfl,.inr ⟨_,rfl,trivial⟩⟩
   rw [aA (bG hi (by omega))];exact⟨_,rfl,.inl ⟨rfl,trivial⟩⟩
  intro _;rw [if_neg (by omega)];exact⟨_,rfl,_,rfl,trivial⟩
theorem qRM (w:An) (h:w.machines.length<=1000):Tot (iI w) λ_=>True:=by
 unfold iI;refine bN (P:=λ_=>True) (bZ w.machines (by omega) (λ_=>True) trivial ?_ ?_) (λ_ _=>tot_some.2 trivial) (λ_ _=>trivial)
 ·intro i e he _;have hi:=(zQQ.1 he).1;rw [if_pos (by omega),aJ he];split
  ·exact⟨_,rfl,.inr ⟨_,rfl,trivial⟩⟩
  rw [aA (bG hi (by omega))];exact⟨_,rfl,.inl ⟨rfl,trivial⟩⟩
 intro _;rw [if_neg (by omega)];exact⟨_,rfl,_,rfl,trivial⟩
theorem tK (a b c:Int):Tot (gW a b c) λ_=>True:=tot_some.2 trivial
theorem zBK (x:Bd) (h:x.name.size<=1000000000000000):Tot (gJ x) λ_=>True:=by
 unfold gJ;refine aE (zAS _ h) λr _=>?_;split
 ·exact tot_some.2 trivial
 refine aE (P := fun _ => True) ?_ fun r _ => ?_
 ·refine aE (tK _ _ _) fun r _ => ?_;split
  ·exact tot_some.2 trivial
  refine aE (tK _ _ _) fun r _ => ?_;split
  ·exact tot_some.2 trivial
  refine aE (tK _ _ _) fun r _ => ?_;split
  ·exact tot_some.2 trivial
  refine aE (tK _ _ _) fun r _ => ?_;split
  ·exact tot_some.2 trivial
  exact aE (tK _ _ _) λr _=>tot_some.2 trivial
 split
 ·exact tot_some.2 trivial
 refine aE (P := fun _ => True) ?_ fun r _ => ?_
 ·refine aE (tK _ _ _) fun r _ => ?_;split
  ·exact tot_some.2 trivial
  refine aE (tK _ _ _) fun r _ => ?_;split
  ·exact tot_some.2 trivial
  refine aE (tK _ _ _) fun r _ => ?_;split
  ·exact tot_some.2 trivial
  exact aE (tK _ _ _) λr _=>tot_some.2 trivial
 split<;>exact tot_some.2 trivial
theorem zCE {l:Ag} (hk:LayK l) {s:Am} (h:Am.ok s):Tot (fB l s) λ_=>True:=by
 unfold fB;refine aE (sL l _ hk ⟨h.1,h.2.2⟩) ?_;rintro⟨a,b⟩ _;exact tot_some.2 trivial
def qX (l:Ag) (s:Am):Prop:=0<=s.el/\s.el < (l.Ae.length:Int)
theorem wayW_t {l:Ag} (hk:LayK l) {w:List Am} (h:∀ s∈w,Am.ok s):Tot (gL l w) λr=>r=true->w≠[]/\w.length<=64/\∀ s∈w,qX l s:=by
 unfold gL;split
 ·exact tot_some.2 λh=>by cases h
 rename_i hc;simp only [Bool.or_eq_true,decide_eq_true_eq,not_or] at hc;have hne:w≠[]:=λe=>hc.1 (by rw [e];rfl);refine bN (P:=λo=>match o with|.inl _=>∀ j s,j < w.length->w[j]?=some s->qX l s|.inr b=>b=false) (bZ w (by omega) (λi=>∀ j s,j < i->w[j]?=some s->qX l s) (λj s hj=>absurd hj (zQV j)) ?_ ?_) (λ_ h=>tot_some.2 λ_=>⟨hne,by omega,λs hs=>?_⟩) (λb hb e=>by rw [hb] at e;cases e)
 ·intro i e hx hI;have hi:=(zQQ.1 hx).1;rw [if_pos (by omega)];refine bN (P:=λo=>match o with|.inl _=>qX l e|.inr b=>b=.inr (.inr false)) ?_ ?_ ?_
  ·rw [aJ hx];refine aE (qEG l e) ?_;rintro⟨a,b⟩ ⟨_,_,hin⟩;dsimp only at hin ⊢
   cases b with
   | false=>rw [if_pos (by rfl)];exact⟨_,rfl,rfl⟩
   | true=>
    have hin:=hin rfl;rw [if_neg (by simp)];refine bN (P:=λo=>match o with|.inl _=>True|.inr b=>b=.inr (.inr (.inr false))) ?_ ?_ ?_
    ·split
     ·rename_i hz;have hy:=zQR (l:=w) (show i - 1 < w.length by omega);rw [aA (by unfold I64;omega),show (i:Int) - 1=((i - 1:Nat):Int) by omega,aJ hy];refine aE (zCE hk (h _ (List.getElem_mem _))) ?_;rintro⟨f,j⟩ _;dsimp only;refine aE (P:=λ_=>True) ?_ λr _=>?_
      ·split
       ·exact tot_some.2 trivial
       rw [aJ hx];split
       ·rw [aJ hx];exact tot_some.2 trivial
       exact tot_some.2 trivial
      split
      ·exact⟨_,rfl,rfl⟩
      exact⟨_,rfl,trivial⟩
     exact⟨_,rfl,trivial⟩
    ·intro _ _;refine cE (λk s=>s=(k:Int)) i (by omega) rfl ?_ ?_
     ·rintro k s hk2 rfl;have hy:=zQR (l:=w) (show k < w.length by omega);rw [if_pos (by omega),aJ hy,aJ hx];split
      ·exact⟨_,rfl,rfl⟩
      rw [aA (bG hk2 (by omega))];exact⟨_,rfl,by push_cast;rfl⟩
     rintro s rfl;rw [if_neg (by omega)];exact⟨_,rfl,hin⟩
    rintro b rfl;rfl
  ·intro a ha;rw [aA (bG hi (by omega))];refine⟨_,rfl,.inl ⟨rfl,λj s hj hs=>?_⟩⟩;rcases Nat.lt_or_ge j i with h1|h1
   ·exact hI j s h1 hs
   obtain rfl : j = i := by omega
   rw [hx] at hs;cases hs;exact ha
  rintro b rfl;exact .inr ⟨_,rfl,rfl⟩
 ·intro hI;rw [if_neg (by omega)];exact⟨_,rfl,_,rfl,hI⟩
 obtain⟨j,hj⟩:=List.mem_iff_getElem?.1 hs;exact h j s (zQQ.1 hj).1 hj
theorem qRN {l:Ag} (hk:LayK l) {s:Am} (h:qX l s):Tot (kE l s) λr=>500<=r/\r<=1000000:=by
 unfold kE;exact cX h.1 h.2 λe he _=>tot_some.2 ⟨(hk.right e he).2.2.1,(hk.right e he).2.2.2.1⟩
theorem qUU {l:Ag} (hk:LayK l) {b:Be} (h:∀ s∈b.steps,qX l s) (hl:b.steps.length<=64) (h0:1<=b.head/\b.head<=1000000):Tot (jO l b) λr=>0<=r/\r<=1000000000:=by
 unfold jO;refine aE (P:=λr=>0<=r/\r<=1000000000) (cE (λi s=>s.2=(i:Int)/\0<=s.1/\s.1<=1000000+(i:Int) * 1000000/\i<=b.steps.length) b.steps.length (by omega) ⟨rfl,by show 0<=b.head;omega,by show b.head<=_;omega,Nat.zero_le _⟩ ?_ ?_) λr h=>tot_some.2 h
 ·rintro i ⟨n,y⟩ hi ⟨q1,q2,q3,q4⟩;dsimp only at q1 q2 q3;subst q1;dsimp only;rw [aA (bG hi (by omega))];split
  ·have hx:=zQR hi;rw [aJ hx];refine aE (qRN hk (h _ (List.getElem_mem hi))) λr hr=>?_;rw [aA (by unfold I64;omega),aA (bG hi (by omega))];exact tot_some.2 ⟨by push_cast;rfl,by show 0<=n+r;omega,by show n+r<=_;push_cast;omega,by omega⟩
  exact⟨_,rfl,by show 0<=n;omega,by show n<=_;omega⟩
 rintro⟨n,y⟩ ⟨q1,q2,q3,q4⟩;dsimp only at q1 q2 q3;subst q1;dsimp only;rw [aA (by unfold I64;omega),if_neg (by omega)];exact⟨_,rfl,by show 0<=n;omega,by show n<=_;omega⟩
theorem body_t {l:Ag} (hk:LayK l) {b:Be} (w:b.Wf):Tot (gK l b) λr=>r=0->∀ s∈b.steps,qX l s:=by
 have hok:∀ s∈b.steps,Am.ok s:=λs hs=>let q:=w.steps.2 s hs;⟨q.el,q.inV,q.out⟩;unfold gK;refine aE (P:=λx=>x=false->(b.steps≠[]/\b.steps.length<=64/\∀ s∈b.steps,qX l s)/\1<=b.head/\b.head<=1000000/\1<=b.length) ?_ λx hx=>?_
 ·refine aE (wayW_t hk hok) fun r hr => ?_
  cases r with
  | false=>rw [if_pos (by rfl)];exact tot_some.2 λh=>by cases h
  | true=>
   obtain⟨h1,h2,h3⟩:=hr rfl;have hp:=List.length_pos_iff.2 h1;rw [if_neg (by simp)];split
   ·exact tot_some.2 λh=>by cases h
   split
   ·exact tot_some.2 λh=>by cases h
   split
   ·exact tot_some.2 λh=>by cases h
   have hy := zQR (l := b.steps) (show b.steps.length - 1 < b.steps.length by omega);rw [aA (by unfold I64;omega),show ((b.steps.length:Int) - 1)=((b.steps.length - 1:Nat):Int) by omega,aJ hy];refine aE (qRN hk (h3 _ (List.getElem_mem _))) λr hr=>tot_some.2 λhd=>⟨⟨h1,h2,h3⟩,by omega,?_,by omega⟩;have:=of_decide_eq_false hd;omega
 cases x with
 | true=>rw [if_pos rfl];exact tot_some.2 λh=>by cases h
 | false=>
  obtain⟨⟨h1,h2,h3⟩,h4,h5,h6⟩:=hx rfl;have hp:=List.length_pos_iff.2 h1;rw [if_neg Bool.false_ne_true];refine aE (qUU hk h3 h2 ⟨h4,h5⟩) λn hn=>?_;refine aE (P:=λ_=>True) ?_ λy _=>?_
  ·split
   ·exact tot_some.2 trivial
   split
   ·have hy:=zQR hp;rw [show (0:Int)=((0:Nat):Int) from rfl,aJ hy];refine aE (qRN hk (h3 _ (List.getElem_mem hp))) λr hr=>?_;rw [aA (by unfold I64;omega)];exact tot_some.2 trivial
   exact tot_some.2 trivial
  split
  ·exact tot_some.2 λh=>by cases h
  exact tot_some.2 λ_=>h3
theorem zBJ {w:An} (hk:LayK w.layout) (hl:w.units.length<=1000) (hw:∀ u∈w.units,u.Wf):Tot (mP w) λr=>r=true->w.units≠[]/\∀ u∈w.units,∀ s∈u.body.steps,qX w.layout s:=by
 have hone:∀ u∈w.units,Tot (aB (gJ u.cab.train) λr10=>if r10=(0:Int) then aB (gK w.layout u.body) λr12=>if r12=(0:Int) then some (!(decide (u.body.length=u.cab.train.length))) else some true else some true) λx=>x=false->∀ s∈u.body.steps,qX w.layout s:=λu hu=>by
  refine aE (zBK _ (by have:=pU (hw u hu).cab.train.name;omega)) λr _=>?_;split
  ·refine aE (body_t hk (hw u hu).body) fun r hr => ?_;split
   ·rename_i e;exact tot_some.2 λ_=>hr e
   exact tot_some.2 λh=>by cases h
  exact tot_some.2 λh=>by cases h
 unfold mP;refine bN (P:=λo=>match o with|.inl _=>∀ j u,j < w.units.length->w.units[j]?=some u->∀ s∈u.body.steps,qX w.layout s|.inr b=>b=false) (bZ w.units (by omega) (λi=>∀ j u,j < i->w.units[j]?=some u->∀ s∈u.body.steps,qX w.layout s) (λj u hj=>absurd hj (zQV j)) ?_ ?_) (λ_ h=>tot_some.2 λe=>⟨λe2=>?_,λu hu=>?_⟩) (λb hb e=>by rw [hb] at e;cases e)
 ·intro i u hx hI;have hi:=(zQQ.1 hx).1;have hm:=zQM hx;rw [if_pos (by omega),aJ hx];refine aE (P:=λx=>x=false->∀ s∈u.body.steps,qX w.layout s) ?_ λx hx2=>?_
  ·split
   ·have hy := zQR (l := w.units) (show i - 1 < w.units.length by omega);rw [aA (by unfold I64;omega),show (i:Int) - 1=((i - 1:Nat):Int) by omega,aJ hy];split
    ·exact tot_some.2 λh=>by cases h
    exact hone u hm
   exact hone u hm
  cases x with
  | true=>rw [if_pos rfl];exact⟨_,rfl,.inr ⟨_,rfl,rfl⟩⟩
  | false=>
   rw [if_neg Bool.false_ne_true,aA (bG hi (by omega))];refine⟨_,rfl,.inl ⟨rfl,λj v hj hv=>?_⟩⟩;rcases Nat.lt_or_ge j i with h1|h1
   ·exact hI j v h1 hv
   obtain rfl : j = i := by omega
   rw [hx] at hv;cases hv;exact hx2 rfl
 ·intro hI;rw [if_neg (by omega)];exact⟨_,rfl,_,rfl,hI⟩
 ·rw [e2] at e;simp at e
 obtain⟨j,hj⟩:=List.mem_iff_getElem?.1 hu;exact h j u (zQQ.1 hj).1 hj
theorem zAK (w:An) (hl:w.units.length<=1000):Tot (lA w) λ_=>True:=by
 unfold lA;split
 ·exact tot_some.2 trivial
 rename_i hc;simp only [Bool.or_eq_true,Bool.not_eq_true',decide_eq_false_iff_not,not_or,Decidable.not_not] at hc;refine bN (P:=λ_=>True) (bZ w.units (by omega) (λ_=>True) trivial ?_ ?_) (λ_ _=>tot_some.2 trivial) (λ_ _=>trivial)
 ·intro i e he _;have hi:=(zQQ.1 he).1;have hy:=zQR (l:=w.center.tracks) (show i < w.center.tracks.length by omega);have hz:=zQR (l:=w.center.sessions) (show i < w.center.sessions.length by omega);rw [if_pos (by omega),aJ he];refine aE (P:=λ_=>True) ?_ λx _=>?_
  ·rw [aJ hy];split
   ·rw [aJ hz];exact tot_some.2 trivial
   exact tot_some.2 trivial
  split
  ·exact⟨_,rfl,.inr ⟨_,rfl,trivial⟩⟩
  rw [aA (bG hi (by omega))];exact⟨_,rfl,.inl ⟨rfl,trivial⟩⟩
 intro _;rw [if_neg (by omega)];exact⟨_,rfl,_,rfl,trivial⟩
structure WFew (w:An):Prop where
 ok:WOk w
 trips:w.trips.length<=6
 stops:∀ x∈w.trips,x.stops.length<=6
 joints:w.layout.joints.length<=80
def qBK (t:Al) (s:Stop):Prop:=0<=s.route/\s.route < (t.Ab.length:Int)
theorem qVD (t:Al) (x:A6) (h:x.stops.length<=1000):Tot (mR t x) λr=>r=true->∀ s∈x.stops,qBK t s:=by
 unfold mR;split
 ·exact tot_some.2 λh=>by cases h
 refine bN (P := fun o => match o with | .inl _ => ∀ j s, j < x.stops.length -> x.stops[j]? = some s -> qBK t s | .inr b => b = false) (bZ x.stops (by omega) (fun i => ∀ j s, j < i -> x.stops[j]? = some s -> qBK t s) (fun j s hj => absurd hj (zQV j)) ?_ ?_) (fun _ h => tot_some.2 fun e s hs => ?_) (fun b hb e => by rw [hb] at e; cases e)
 ·intro i e he hI;have hi:=(zQQ.1 he).1;rw [if_pos (by omega),aJ he];split
  ·exact⟨_,rfl,.inr ⟨_,rfl,rfl⟩⟩
  rename_i hc;simp only [Bool.or_eq_true,decide_eq_true_eq,not_or] at hc;rw [aA (bG hi (by omega))];refine⟨_,rfl,.inl ⟨rfl,λj v hj hv=>?_⟩⟩;rcases Nat.lt_or_ge j i with h1|h1
  ·exact hI j v h1 hv
  obtain rfl : j = i := by omega
  rw [he] at hv;cases hv;exact⟨by omega,by omega⟩
 ·intro hI;rw [if_neg (by omega)];exact⟨_,rfl,_,rfl,hI⟩
 obtain⟨j,hj⟩:=List.mem_iff_getElem?.1 hs;exact h j s (zQQ.1 hj).1 hj
theorem qXQ (t:Al) (l:List A6) (n:Int) (h:l.length<=1000):Tot (pA t l n) λ_=>True:=by
 unfold pA;refine bN (P:=λ_=>True) (bZ l (by omega) (λ_=>True) trivial ?_ ?_) (λ_ _=>tot_some.2 trivial) (λ_ _=>trivial)
 ·intro i e he _;have hi:=(zQQ.1 he).1;rw [if_pos (by omega),aJ he];split
  ·exact⟨_,rfl,.inr ⟨_,rfl,trivial⟩⟩
  rw [aA (bG hi (by omega))];exact⟨_,rfl,.inl ⟨rfl,trivial⟩⟩
 intro _;rw [if_neg (by omega)];exact⟨_,rfl,_,rfl,trivial⟩
theorem qWO (t:Al) (l:List A6) (h:l.length<=1000) (hs:∀ x∈l,x.stops.length<=1000):Tot (iJ t l) λ_=>True:=by
 unfold iJ;split
 ·exact tot_some.2 trivial
 refine bN (P := fun _ => True) (bZ l (by omega) (fun _ => True) trivial ?_ ?_) (fun _ _ => ?_) (fun _ _ => trivial)
 ·intro i e he _;have hi:=(zQQ.1 he).1;rw [if_pos (by omega)];refine aE (P:=λ_=>True) ?_ λx _=>?_
  ·rw [aJ he];split
   ·exact tot_some.2 trivial
   rw [aJ he];exact tot_some.2 trivial
  split
  ·exact⟨_,rfl,.inr ⟨_,rfl,trivial⟩⟩
  rw [aA (bG hi (by omega))];exact⟨_,rfl,.inl ⟨rfl,trivial⟩⟩
 ·intro _;rw [if_neg (by omega)];exact⟨_,rfl,_,rfl,trivial⟩
 refine bN (P := fun o => match o with | .inl _ => ∀ j x, j < l.length -> l[j]? = some x -> ∀ s ∈ x.stops, qBK t s | .inr _ => True) (bZ l (by omega) (fun i => ∀ j x, j < i -> l[j]? = some x -> ∀ s ∈ x.stops, qBK t s) (fun j s hj => absurd hj (zQV j)) ?_ ?_) (fun _ hin => ?_) (fun _ _ => trivial)
 ·intro i e he hI;have hi:=(zQQ.1 he).1;rw [if_pos (by omega),aJ he];refine aE (qVD t e (hs _ (zQM he))) λr hr=>?_
  cases r with
  | false=>rw [if_pos (by rfl)];exact⟨_,rfl,.inr ⟨_,rfl,trivial⟩⟩
  | true=>
   rw [if_neg (by simp),aA (bG hi (by omega))];refine⟨_,rfl,.inl ⟨rfl,λj v hj hv=>?_⟩⟩;rcases Nat.lt_or_ge j i with h1|h1
   ·exact hI j v h1 hv
   obtain rfl : j = i := by omega
   rw [he] at hv;cases hv;exact hr rfl
 ·intro hI;rw [if_neg (by omega)];exact⟨_,rfl,_,rfl,hI⟩
 have hin:∀ x∈l,∀ s∈x.stops,qBK t s:=λx hx=>by
  obtain⟨j,hj⟩:=List.mem_iff_getElem?.1 hx;exact hin j x (zQQ.1 hj).1 hj
 refine bN (P:=λ_=>True) (bZ l (by omega) (λ_=>True) trivial ?_ ?_) (λ_ _=>?_) (λ_ _=>trivial)
 ·intro i e he _;have hi:=(zQQ.1 he).1;rw [if_pos (by omega),aJ he];refine aE (qXQ t l _ h) λr _=>?_;split
  ·rw [aA (bG hi (by omega))];exact⟨_,rfl,.inl ⟨rfl,trivial⟩⟩
  exact⟨_,rfl,.inr ⟨_,rfl,trivial⟩⟩
 ·intro _;rw [if_neg (by omega)];exact⟨_,rfl,_,rfl,trivial⟩
 refine bN (P := fun _ => True) (bZ l (by omega) (fun _ => True) trivial ?_ ?_) (fun _ _ => ?_) (fun _ _ => trivial)
 ·intro i e he _;have hi:=(zQQ.1 he).1;have hm:=zQM he;have hst:=hs _ hm;rw [if_pos (by omega),aJ he];refine bN (P:=λo=>match o with|.inl _=>True|.inr b=>∃ r,b=.inr r) (cE (λk s=>s=(k:Int)+1) (e.stops.length - 1) (by omega) rfl ?_ ?_) ?_ ?_
  ·rintro k s hk rfl;have hx:=zQR (l:=e.stops) (show k < e.stops.length by omega);have hy:=zQR (l:=e.stops) (show k+1 < e.stops.length by omega);rw [if_pos (by omega),aA (by unfold I64;omega),show (k:Int)+1 - 1=(k:Int) by omega,aJ hx];refine cX (hin _ hm _ (List.getElem_mem _)).1 (hin _ hm _ (List.getElem_mem _)).2 λr1 _ _=>?_;rw [show (k:Int)+1=((k+1:Nat):Int) by push_cast;rfl,aJ hy];refine cX (hin _ hm _ (List.getElem_mem _)).1 (hin _ hm _ (List.getElem_mem _)).2 λr2 _ _=>?_;refine aE (P:=λ_=>True) (tot_some.2 trivial) λb _=>?_;split
   ·exact⟨_,rfl,_,rfl⟩
   rw [aA (by unfold I64;omega)];exact⟨_,rfl,rfl⟩
  ·rintro s rfl;rw [if_neg (by omega)];exact⟨_,rfl,trivial⟩
  ·intro _ _;rw [aA (bG hi (by omega))];exact⟨_,rfl,.inl ⟨rfl,trivial⟩⟩
  rintro b ⟨r,rfl⟩;exact .inr ⟨_,rfl,trivial⟩
 ·intro _;rw [if_neg (by omega)];exact⟨_,rfl,_,rfl,trivial⟩
 refine bN (P := fun _ => True) (bZ l (by omega) (fun _ => True) trivial ?_ ?_) (fun _ _ => tot_some.2 trivial) (fun _ _ => trivial)
 ·intro i e he _;have hi:=(zQQ.1 he).1;have hm:=zQM he;have hst:=hs _ hm;rw [if_pos (by omega),aJ he];refine bN (P:=λo=>match o with|.inl _=>True|.inr b=>∃ r,b=.inr r) (cE (λk s=>s=(k:Int)+1) (e.stops.length - 1) (by omega) rfl ?_ ?_) ?_ ?_
  ·rintro k s hk rfl;have hx:=zQR (l:=e.stops) (show k < e.stops.length by omega);have hy:=zQR (l:=e.stops) (show k+1 < e.stops.length by omega);rw [if_pos (by omega),show (k:Int)+1=((k+1:Nat):Int) by push_cast;rfl,aJ hy,aA (by unfold I64;omega),show ((k+1:Nat):Int) - 1=(k:Int) by push_cast;omega,aJ hx];split
   ·exact⟨_,rfl,_,rfl⟩
   rw [aA (by unfold I64;omega)];exact⟨_,rfl,rfl⟩
  ·rintro s rfl;rw [if_neg (by omega)];exact⟨_,rfl,trivial⟩
  ·intro _ _;rw [aA (bG hi (by omega))];exact⟨_,rfl,.inl ⟨rfl,trivial⟩⟩
  rintro b ⟨r,rfl⟩;exact .inr ⟨_,rfl,trivial⟩
 intro _;rw [if_neg (by omega)];exact⟨_,rfl,_,rfl,trivial⟩
theorem zBO (l:List A6) (s:List (List Int)) (h:l.length<=1000):Tot (mS l s) λr=>r=true->l.length=s.length/\∀ (j:Nat) (x:A6) (y:List Int),l[j]?=some x->s[j]?=some y->x.stops.length=y.length:=by
 unfold mS;split
 ·rename_i hl;refine bN (P:=λo=>match o with|.inl _=>∀ (j:Nat) (x:A6) (y:List Int),j < l.length->l[j]?=some x->s[j]?=some y->x.stops.length=y.length|.inr b=>b=false) (bZ l (by omega) (λi=>∀ (j:Nat) (x:A6) (y:List Int),j < i->l[j]?=some x->s[j]?=some y->x.stops.length=y.length) (λj x y hj=>absurd hj (zQV j)) ?_ ?_) (λ_ hq=>tot_some.2 λ_=>⟨by omega,λj x y hx hy=>hq j x y (zQQ.1 hx).1 hx hy⟩) (λb hb e=>by rw [hb] at e;cases e)
  ·intro i e he hI;have hi:=(zQQ.1 he).1;have hy:=zQR (l:=s) (show i < s.length by omega);rw [if_pos (by omega),aJ he,aJ hy];split
   ·rename_i hq;rw [aA (bG hi (by omega))];refine⟨_,rfl,.inl ⟨rfl,λj v u hj hv hu=>?_⟩⟩;rcases Nat.lt_or_ge j i with h1|h1
    ·exact hI j v u h1 hv hu
    obtain rfl : j = i := by omega
    rw [he] at hv;rw [hy] at hu;cases hv;cases hu;omega
   exact⟨_,rfl,.inr ⟨_,rfl,rfl⟩⟩
  intro hI;rw [if_neg (by omega)];exact⟨_,rfl,_,rfl,hI⟩
 exact tot_some.2 λh=>by cases h
theorem zCV (l:List A6) (s:List (List Int)) (h:l.length<=6) (hs:∀ x∈l,x.stops.length<=6):Tot (kJ l s) λ_=>True:=by
 unfold kJ;refine aE (zBO l s (by omega)) λr hr=>?_
 cases r with
 | false=>rw [if_pos (by rfl)];exact tot_some.2 trivial
 | true=>
  obtain⟨hl,hq⟩:=hr rfl;rw [if_neg (by simp)];refine bN (P:=λ_=>True) (cE (λi st=>st.2.2=(i:Int)/\-(i:Int) * 6000000000000<=st.1/\st.1<=(i:Int) * 6000000000000) l.length (by omega) ⟨rfl,by simp,by simp⟩ ?_ ?_) ?_ (λ_ _=>trivial)
  ·rintro i ⟨sm,ea,y⟩ hi ⟨q1,q2,q3⟩;dsimp only at q1 q2 q3;subst q1;dsimp only;have hx:=zQR hi;have hz:=zQR (l:=s) (show i < s.length by omega);have hst:=hs _ (List.getElem_mem hi);have hsl:=hq i _ _ hx hz;rw [if_pos (by omega)];refine bN (P:=λo=>match o with|.inl b=>-((i:Int)+1) * 6000000000000<=b.1/\b.1<=((i:Int)+1) * 6000000000000|.inr b=>∃ r,b=.inr r) (cE (λk st=>st.2.2=(k:Int)/\sm - (k:Int) * 1000000000000<=st.1/\st.1<=sm+(k:Int) * 1000000000000) l[i].stops.length (by omega) ⟨rfl,by simp,by simp⟩ ?_ ?_) ?_ ?_
   ·rintro k ⟨s2,e2,y2⟩ hk ⟨p1,p2,p3⟩;dsimp only at p1 p2 p3;subst p1;dsimp only;have ha:=zQR hk;have hb:=zQR (l:=s[i]'(by omega)) (show k < (s[i]'(by omega)).length by omega);rw [aJ hx,if_pos (by omega),aJ hx,aJ ha,aJ hz,aJ hb];generalize l[i].stops[k]=x;generalize (s[i]'(by omega))[k]'(by omega)=at_;split
    ·exact⟨_,rfl,_,rfl⟩
    rename_i hc;simp only [Bool.or_eq_true,decide_eq_true_eq,not_or] at hc;obtain⟨c1,c2,c3,c4,c5,c6⟩:=hc
    have m1:x.weight * (at_ - x.due)<=100 * 2147483648:=by
     by_cases hd:0<=at_ - x.due
     ·exact Int.mul_le_mul (by omega) (by omega) hd (by omega)
     have : x.weight * (at_ - x.due) <= 0 := Int.mul_nonpos_of_nonneg_of_nonpos (by omega) (by omega);omega
    have m2:-(100 * 2147483648)<=x.weight * (at_ - x.due):=by
     have:x.weight * (x.due - at_)<=100 * 2147483648:=by
      by_cases hd:0<=x.due - at_
      ·exact Int.mul_le_mul (by omega) (by omega) hd (by omega)
      have : x.weight * (x.due - at_) <= 0 := Int.mul_nonpos_of_nonneg_of_nonpos (by omega) (by omega);omega
     have e:x.weight * (at_ - x.due)=-(x.weight * (x.due - at_)):=by rw [<- Int.mul_neg];congr 1;omega
     omega
    generalize x.weight * (at_ - x.due)=m at m1 m2;rw [aA (by unfold I64;omega),aA (by unfold I64;omega),aA (by unfold I64;omega),aA (bG hk (by omega))];exact tot_some.2 ⟨by push_cast;rfl,by show _<=s2+m;push_cast;omega,by show s2+m<=_;push_cast;omega⟩
   ·rintro⟨s2,e2,y2⟩ ⟨p1,p2,p3⟩;dsimp only at p1 p2 p3;subst p1;dsimp only;rw [aJ hx,if_neg (by omega)];exact⟨_,rfl,by show _<=s2;omega,by show s2<=_;omega⟩
   ·rintro⟨s2,e2⟩ ⟨p1,p2⟩;dsimp only at p1 p2 ⊢;rw [aA (bG hi (by omega))];exact tot_some.2 ⟨by push_cast;rfl,by show _<=s2;push_cast;omega,by show s2<=_;push_cast;omega⟩
   rintro b ⟨r,rfl⟩;trivial
  ·rintro⟨sm,ea,y⟩ ⟨q1,q2,q3⟩;dsimp only at q1 q2 q3;subst q1;dsimp only;rw [if_neg (by omega)];exact⟨_,rfl,trivial⟩
  rintro⟨a,b⟩ _;dsimp only;split<;>exact tot_some.2 trivial
theorem qVJ (w:An) (h:w.trips.length<=6) (hs:∀ x∈w.trips,x.stops.length<=6) (hp:w.progress.length<=reachBytes):Tot (jL w) λ_=>True:=by
 have hp:=pU hp;unfold jL;refine aE (zCV _ _ h hs) ?_;rintro⟨a,b⟩ _;dsimp only;refine bN (P:=λ_=>True) (bZ w.progress (by omega) (λ_=>True) trivial ?_ ?_) (λ_ _=>tot_some.2 trivial) (λ_ _=>trivial)
 ·intro i e he _;have hi:=(zQQ.1 he).1;rw [if_pos (by omega)];refine aE (P:=λ_=>True) ?_ λx _=>?_
  ·rw [aJ he];split
   ·exact tot_some.2 trivial
   rw [aJ he];exact tot_some.2 trivial
  split
  ·exact⟨_,rfl,.inr ⟨_,rfl,trivial⟩⟩
  rw [aA (bG hi (by omega))];exact⟨_,rfl,.inl ⟨rfl,trivial⟩⟩
 intro _;rw [if_neg (by omega)];exact⟨_,rfl,_,rfl,trivial⟩
theorem zCJ {l:Ag} (w:l.Wf) (hj:l.joints.length<=80):LayW l:=by
 have L:∀ {n:Nat},n<=reachBytes->n<=1000000000000000:=λh=>by have:=pU h;omega
 exact⟨L w.name,λs hs=>L (w.Ac.2 s hs),w.Ae.2,⟨by omega,λj hj=>let q:=w.joints.2 j hj;⟨⟨q.a.el,q.a.side⟩,⟨q.b.el,q.b.side⟩⟩⟩,w.Ah.2,w.balises.2⟩
theorem qWN {w:An} (wf:w.Wf) (h:WFew w):Tot (mQ w) λr=>r=0->WVal w:=by
 have hw:=zCJ wf.layout h.joints;have ho:=h.ok;unfold mQ;refine aE (qJA _ hw) λr1 h1=>?_;split
 ·refine aE (zEL hw) ?_;rintro⟨t,e⟩ hB;dsimp only at hB ⊢;refine aE (P:=λx=>x=false->LayC w.layout) ?_ λx hx=>?_
  ·split
   ·rename_i he;obtain⟨hc,_,_,hr⟩:=hB he;exact aE (zBP hr wf.Ar) λr _=>tot_some.2 λ_=>hc
   exact tot_some.2 λh=>by cases h
  cases x with
  | true=>rw [if_pos rfl];exact tot_some.2 λh=>by cases h
  | false=>
   have hc:=hx rfl;rw [if_neg Bool.false_ne_true];refine aE (P:=λx=>x=false->lQ w.Ar w.inter=true) ?_ λx hs=>?_
   ·rw [qQR _ _ ho.Ar ho.setts,aH]
    cases lQ w.Ar w.inter with
    | false=>rw [if_pos (by rfl)];exact tot_some.2 λh=>by cases h
    | true=>
     rw [if_neg (by simp)];exact aE (qRM w (by have:=ho.machines;omega)) λr _=>tot_some.2 λ_=>rfl
   cases x with
   | true=>rw [if_pos rfl];exact tot_some.2 λh=>by cases h
   | false=>
    have hs:=hs rfl;rw [if_neg Bool.false_ne_true];refine aE (P:=λx=>x=false->w.units≠[]/\∀ u∈w.units,∀ s∈u.body.steps,qX w.layout s) ?_ λx hu=>?_
    ·refine aE (zBJ hc.k (by have := ho.units; omega) wf.units.2) fun r hr => ?_
     cases r with
     | false=>rw [if_pos (by rfl)];exact tot_some.2 λh=>by cases h
     | true=>
      rw [if_neg (by simp)];exact aE (zAK w (by have:=ho.units;omega)) λr _=>tot_some.2 λ_=>hr rfl
    cases x with
    | true=>rw [if_pos rfl];exact tot_some.2 λh=>by cases h
    | false=>
     obtain⟨hu1,hu2⟩:=hu rfl;have hf:sF w.Ar w.inter=true:=by unfold lQ at hs;simp only [zQA] at hs;first|exact hs.1|exact hs.1.1
     have hv:WVal w:=⟨λe he=>(hc.k.right e he).2.2.2.2.1,hc.k.s.Ae.2,hu2,hs,(fitsB_iff.1 hf).2.1,hu1⟩;rw [if_neg Bool.false_ne_true];refine aE (qWO _ _ (by have:=h.trips;omega) λx hx=>by have:=h.stops x hx;omega) λr _=>?_;split
     ·refine aE (qVJ w h.trips h.stops wf.progress.1) fun r _ => ?_;split
      ·exact tot_some.2 λ_=>hv
      exact tot_some.2 λ_=>hv
     exact tot_some.2 λ_=>hv
 rename_i e;exact tot_some.2 λh=>absurd h e
end Go.Proofs.YtofndjhpbonpbaaGreatDoor
set_option linter.unusedVariables false
set_option linter.unusedSimpArgs false
set_option maxHeartbeats 4000000
set_option maxRecDepth 100000
namespace Go.Proofs.YtofndjhpbonpbaaGreatDoor
open Go Go.TL
theorem zED:nI=some true:=by decide+kernel
theorem wf_sok {t:Al} (h:t.Wf):SOk t:=λr hr s hs=>by
 have hw:=h.Ab.2 r hr;simp only [fU,zQN] at hs;rcases hs with (hs|hs)|hs
 ·have:=hw.Ad.2 s hs;exact⟨this.el,this.pos⟩
 ·have:=hw.Aj.2 s hs;exact⟨this.el,this.pos⟩
 have:=hw.Au.2 s hs;exact⟨this.el,this.pos⟩
theorem all_of {α:Type} {l:List α} {Q:α->Prop} (h:∀ (j:Nat) (x:α),j < l.length->l[j]?=some x->Q x):∀ x∈l,Q x:=λx hx=>by
 obtain⟨j,hj⟩:=List.mem_iff_getElem?.1 hx;exact h j x (zQQ.1 hj).1 hj
theorem xW {α:Type} {ρ:Type} {f:Int->Option (Int ⊕ (_root_.Unit ⊕ ρ))} (l:List α) (hl:l.length<=reachBytes) (Q:α->Prop) (v:ρ) (hs:∀ (i:Nat) (e:α),l[i]?=some e->Tot (f (i:Int)) λo=>(o=.inl ((i:Int)+1)/\Q e)\/o=.inr (.inr v)) (he:f (l.length:Int)=some (.inr (.inl ()))):Tot (aZ f 0) λo=>match o with|.inl _=>∀ x∈l,Q x|.inr b=>b=v:=by
 have hl:=pU hl;refine jI (bZ (Q:=λo=>match o with|.inl _=>∀ (j:Nat) (x:α),j < l.length->l[j]?=some x->Q x|.inr b=>b=v) l (by omega) (λi=>∀ (j:Nat) (x:α),j < i->l[j]?=some x->Q x) (λj x hj=>absurd hj (zQV j)) ?_ ?_) ?_
 ·intro i e hx hI;refine jI (hs i e hx) ?_;rintro o (⟨rfl,hq⟩|rfl)
  ·refine .inl ⟨rfl, fun j x hj hv => ?_⟩;rcases Nat.lt_or_ge j i with h1|h1
   ·exact hI j x h1 hv
   obtain rfl : j = i := by omega
   rw [hx] at hv;cases hv;exact hq
  exact .inr ⟨_,rfl,rfl⟩
 ·intro hI;rw [he];exact⟨_,rfl,_,rfl,hI⟩
 intro o ho
 cases o with
 | inl _=>exact all_of ho
 | inr b=>exact ho
theorem zBN {t:Al} {s:Az} (wt:t.Wf):Tot (nJ t s) λb=>b=true->TOk t/\t.Ab.length<=50/\t.Ad.length<=40/\s.Ab.length<=50:=by
 have hr:=pU wt.Ab.1;unfold nJ;refine bN (xW t.Ab wt.Ab.1 Short false ?_ ?_) (λ_ hq=>tot_some.2 λhb=>?_) (λb hb e=>by rw [hb] at e;cases e)
 ·intro i e he;have hi:=(zQQ.1 he).1;rw [if_pos (by omega),aJ he];split
  ·exact⟨_,rfl,.inr rfl⟩
  rename_i hc;simp only [Bool.or_eq_true,decide_eq_true_eq,not_or] at hc;rw [aA (bG hi (by omega))];exact⟨_,rfl,.inl ⟨rfl,⟨by omega,by omega,by omega,by omega⟩⟩⟩
 ·rw [if_neg (by omega)];rfl
 simp only [zQA,decide_eq_true_eq] at hb;exact⟨⟨by omega,by omega,hq⟩,by omega,by omega,by omega⟩
theorem qSG {c:Bh} (wc:c.Wf):Tot (sB c) λb=>b=true->c.tracks.length<=10/\∀ k∈c.tracks,k.Ab.length<=60:=by
 have hr:=pU wc.tracks.1;unfold sB;refine bN (xW c.tracks wc.tracks.1 (λk=>k.Ab.length<=60) false ?_ ?_) (λ_ hq=>tot_some.2 λhb=>?_) (λb hb e=>by rw [hb] at e;cases e)
 ·intro i e he;have hi:=(zQQ.1 he).1;rw [if_pos (by omega),aJ he];split
  ·exact⟨_,rfl,.inr rfl⟩
  rename_i hc;simp only [Bool.or_eq_true,decide_eq_true_eq,not_or] at hc;rw [aA (bG hi (by omega))];exact⟨_,rfl,.inl ⟨rfl,by omega⟩⟩
 ·rw [if_neg (by omega)];rfl
 simp only [zQA,decide_eq_true_eq] at hb;exact⟨by omega,hq⟩
theorem few58 {w:An} (wf:w.Wf):Tot (sA w) λb=>b=true->WFew w:=by
 unfold sA;split
 ·exact tot_some.2 λh=>by cases h
 rename_i hc;simp only [Bool.or_eq_true,decide_eq_true_eq,not_or] at hc;refine bN (xW w.units wf.units.1 (λu=>u.body.steps.length<=100) false ?_ ?_) (λ_ hu=>?_) (λb hb e=>by rw [hb] at e;cases e)
 ·intro i e he;have hi:=(zQQ.1 he).1;rw [if_pos (by omega)];refine aE (P:=λx=>x=false->e.body.steps.length<=100) ?_ λx hx=>?_
  ·rw [aJ he];split
   ·exact tot_some.2 λh=>by cases h
   rw [aJ he];split
   ·exact tot_some.2 λh=>by cases h
   rw [aJ he];exact tot_some.2 λ_=>by omega
  cases x with
  | true=>rw [if_pos rfl];exact⟨_,rfl,.inr rfl⟩
  | false=>rw [if_neg Bool.false_ne_true,aA (bG hi (by omega))];exact⟨_,rfl,.inl ⟨rfl,hx rfl⟩⟩
 ·rw [if_neg (by omega)];rfl
 refine bN (xW w.trips wf.trips.1 (fun x => x.stops.length <= 6) false ?_ ?_) (fun _ hs => ?_) (fun b hb e => by rw [hb] at e; cases e)
 ·intro i e he;have hi:=(zQQ.1 he).1;rw [if_pos (by omega),aJ he];split
  ·exact⟨_,rfl,.inr rfl⟩
  rw [aA (bG hi (by omega))];exact⟨_,rfl,.inl ⟨rfl,by omega⟩⟩
 ·rw [if_neg (by omega)];rfl
 refine bN (xW w.air wf.air.1 (fun _ => True) false ?_ ?_) (fun _ _ => ?_) (fun b hb e => by rw [hb] at e; cases e)
 ·intro i e he;have hi:=(zQQ.1 he).1;rw [if_pos (by omega),aJ he];split
  ·exact⟨_,rfl,.inr rfl⟩
  rw [aA (bG hi (by omega))];exact⟨_,rfl,.inl ⟨rfl,trivial⟩⟩
 ·rw [if_neg (by omega)];rfl
 refine aE (P := fun b => b = true -> WFew w) ?_ fun b hb => tot_some.2 hb;refine aE (P:=λb=>b=true->w.layout.Ae.length<=40/\w.layout.joints.length<=80) (tot_some.2 λhb=>?_) λb hL=>?_
 ·simp only [zQA,decide_eq_true_eq] at hb;exact⟨by omega,by omega⟩
 cases b with
 | false=>rw [if_neg Bool.false_ne_true];exact tot_some.2 λh=>by cases h
 | true=>
  obtain⟨l1,l2⟩:=hL rfl;rw [if_pos rfl];refine aE (zBN wf.Ar) λb hS=>?_
  cases b with
  | false=>rw [if_neg Bool.false_ne_true];exact tot_some.2 λh=>by cases h
  | true=>
   obtain⟨t1,t2,t3,t4⟩:=hS rfl;rw [if_pos rfl];refine aE (qSG wf.center) λb hC=>tot_some.2 λhb=>?_;obtain⟨c1,c2⟩:=hC hb;exact⟨⟨by omega,hu,by omega,c1,c2,t2,t4,t3,by omega,l1,t1,wf_sok wf.Ar⟩,by omega,hs,l2⟩
theorem zCS {w:An} (h:WOk w) (hid:∀ u∈w.units,I64 u.cab.train.id) (hel:∀ u∈w.units,∀ s∈u.body.steps,I64 s.el):∀ f∈uY w,Af.ok f:=by
 have k:∀ n:Int,0<=n->n<=1000000->I64 n:=λn h1 h2=>by unfold I64;omega
 have i0:I64 0:=by decide
 intro f hf;unfold uY at hf;simp only [zQN] at hf;rcases hf with ((((hf|hf)|hf)|hf)|hf)|hf
 ·unfold qLI qGN at hf;simp only [List.mem_flatMap] at hf;obtain⟨i,_,j,_,hf⟩:=hf;unfold yN at hf;split at hf
  ·rename_i a b ha hb;split at hf
   ·rw [List.mem_singleton] at hf;subst hf;exact⟨(show I64 (1:Int) by decide),hid a (zQM ha),hid b (zQM hb)⟩
   cases hf
  cases hf
 ·unfold ovS atF at hf;simp only [List.mem_flatMap] at hf;obtain⟨i,_,hf⟩:=hf;split at hf
  ·rename_i u hu;unfold ovF at hf;split at hf
   ·rw [List.mem_singleton] at hf;subst hf;exact⟨(show I64 (2:Int) by decide),hid u (zQM hu),i0⟩
   cases hf
  cases hf
 ·unfold qEK at hf;split at hf
  ·cases hf
  rw [List.mem_singleton] at hf;subst hf;exact⟨(show I64 (3:Int) by decide),i0,i0⟩
 ·unfold ptS ptU at hf;simp only [List.mem_flatMap] at hf;obtain⟨i,_,hf⟩:=hf;unfold atF at hf;split at hf
  ·rename_i u hu;simp only [List.mem_flatMap] at hf;obtain⟨j,_,hf⟩:=hf;split at hf
   ·rename_i s hs;unfold ptF at hf;split at hf
    ·split at hf
     ·rw [List.mem_singleton] at hf;subst hf;exact⟨(show I64 (4:Int) by decide),hid u (zQM hu),hel u (zQM hu) s (zQM hs)⟩
     cases hf
    cases hf
   cases hf
  cases hf
 ·unfold sgS at hf;simp only [List.mem_flatMap,List.mem_range] at hf;obtain⟨i,hi,hf⟩:=hf;have:=h.clear;unfold sgF at hf;split at hf
  ·split at hf
   ·rw [List.mem_singleton] at hf;subst hf;exact⟨(show I64 (5:Int) by decide),show I64 (i:Int) from k _ (by omega) (by omega),i0⟩
   cases hf
  cases hf
 unfold clS at hf;simp only [List.mem_flatMap,List.mem_range] at hf;obtain⟨i,hi,hf⟩:=hf;have:=h.Ab;unfold clF at hf;split at hf
 ·rw [List.mem_singleton] at hf;subst hf;exact⟨(show I64 (6:Int) by decide),show I64 (i:Int) from k _ (by omega) (by omega),i0⟩
 cases hf
theorem qZY {w:An} (h:WOk w):(uY w).length<=2000:=by
 obtain⟨l1,l2,l3,l4,l5⟩:=qNN h;have hL:(qEK w).length<=1:=by unfold qEK;split<;>simp
 unfold uY;simp only [zQL];omega
theorem qUZ {w:An} (h:WOk w):gI w=some (decide (((uY w).length:Int)=0)):=by
 unfold gI;rw [qFJ h,aH]
theorem tot_eq {α:Type} {m:Option α} {v:α} (h:Tot m λr=>r=v):m=some v:=by
 obtain⟨r,e,rfl⟩:=h;exact e
theorem qJJ {l:List Ap} {k:Nat} {u v:Ap} (hu:l[k]?=some u) {Q:Ap->Prop} (h:∀ x∈l,Q x) (hv:Q v):∀ x∈l.set k v,Q x:=λx hx=>by
 rcases List.mem_or_eq_of_mem_set hx with h1|rfl
 ·exact h x h1
 exact hv
theorem qRV {w : An} {L : List Ap} {k : Nat} {u : Ap} (hL : w.units = L) (h : WOk w) (g4 : L[k]? = some u) (hq : u.cab.mode = 2 /\ u.cab.auth.endV < u.xV) (hid : ∀ v ∈ L, I64 v.cab.train.id) (hel : ∀ v ∈ L, ∀ s ∈ v.body.steps, I64 s.el) : (aB (eD w) fun r13 => bR (
   aZ (fun x16 =>
    if x16 < (r13.length : Int) then
     aT r13 x16 fun e19 =>
     aT L (k : Int) fun e20 =>
     aC (Af.ok e19 /\ Af.ok (⟨(2 : Int), e20.cab.train.id, (0 : Int)⟩ : Af)) <|
     if e19 = (⟨(2 : Int), e20.cab.train.id, (0 : Int)⟩ : Af) then
      aB (
       aB (gI w) fun r26 =>
       if (!(r26)) = true then
        aB (some true) fun r28 =>
        some r28
       else
        some false) fun x24 =>
      aP (
       aP (
        some x24))
     else
      aC (I64 (x16 + (1 : Int))) <|
      some (.inl (x16 + (1 : Int)))
    else
     aP (
      some (.inl ()))) (0 : Int)) fun _ =>
   some false) = some true := by
 subst hL;have hok:=zCS h hid hel
 have hin:(⟨2,u.cab.train.id,0⟩:Af)∈uY w:=by
  unfold uY;simp only [zQN];refine .inl (.inl (.inl (.inl (.inr ?_))));unfold ovS;refine List.mem_flatMap.2 ⟨k,List.mem_range.2 (zQQ.1 g4).1,?_⟩;rw [qLS g4,qYV,if_pos hq];exact List.mem_singleton.2 rfl
 have hne:¬ ((uY w).length:Int)=0:=λq=>by
  have:=List.length_pos_iff.2 (List.ne_nil_of_mem hin);omega
 have hl:=qZY h;rw [qFJ h,aH];refine tot_eq (bN (P:=λo=>match o with|.inl _=>False|.inr b=>b=true) (bZ (uY w) (by omega) (λi=>∀ j,j < i->(uY w)[j]?≠some ⟨2,u.cab.train.id,0⟩) (λj hj=>absurd hj (zQV j)) ?_ ?_) (λ_ hq=>hq.elim) (λb hb=>hb))
 ·intro i f hx hI;have hi:=(zQQ.1 hx).1;rw [if_pos (by omega),aJ hx,aJ g4,aA ⟨hok f (zQM hx),(show I64 (2:Int) by decide),hid u (zQM g4),(show I64 (0:Int) by decide)⟩];by_cases hq:f=⟨2,u.cab.train.id,0⟩
  ·rw [if_pos hq, qUZ h, decide_eq_false hne, aH, if_pos (by rfl), aH, aH];exact⟨_,rfl,.inr ⟨_,rfl,rfl⟩⟩
  rw [if_neg hq, aA (bG hi (by omega))];refine⟨_,rfl,.inl ⟨rfl,λj hj hs=>?_⟩⟩;rcases Nat.lt_or_ge j i with h1|h1
  ·exact hI j h1 hs
  obtain rfl : j = i := by omega
  rw [hx] at hs;exact hq (Option.some.inj hs)
 intro hI;obtain⟨j,hj⟩:=List.mem_iff_getElem?.1 hin;exact absurd hj (hI j (zQQ.1 hj).1)
theorem qOY {p0:An} {p1:Int} (w0:p0.Wf) (w1:IntKind.u8.min<=p1/\p1<=IntKind.u8.max):iD p0 p1=some true:=by
 have hp0:0<=p1:=w1.1;have hp1:p1<=255:=w1.2;obtain⟨b,hf,hb⟩:=few58 w0;unfold iD;rw [hf,aH,zED]
 cases b with
 | false=>rw [if_pos (by rfl),aH,if_pos rfl,aH]
 | true=>
  have hF:=hb rfl;have ho:=hF.ok;obtain⟨e,he,hv⟩:=qWN w0 hF;rw [if_neg (by simp),he,aH,aH];by_cases h0:e=0
  ·have v:=hv h0;have hpos:=List.length_pos_iff.2 v.some;have hlen:=ho.units;have hwrap:IntKind.i64.wrap p1=p1:=qXK (by omega);have hk0:0<=p1.tmod (p0.units.length:Int):=Int.tmod_nonneg _ hp0;have hk1:p1.tmod (p0.units.length:Int) < (p0.units.length:Int):=Int.tmod_lt_of_pos _ (by omega);rw [decide_eq_true h0,if_neg (by simp),hwrap];generalize p1.tmod (p0.units.length:Int)=K at hk0 hk1;obtain⟨k,rfl⟩:=Int.eq_ofNat_of_zero_le hk0;have hk:k < p0.units.length:=by omega
   have hu:=zQR hk;generalize p0.units[k]=u at hu;have hm:=zQM hu;rw [aA (by omega),List.nil_append,aA (by omega),aJ hu,Int.toNat_natCast,aJ (List.getElem?_set_self hk),aJ (List.getElem?_set_self (by rw [List.length_set];exact hk)),List.set_set,List.set_set];refine qRV rfl ?_ (List.getElem?_set_self hk) ⟨rfl,show (100:Int) < 101 by decide⟩ (qJJ hu (λu hu=>(w0.units.2 u hu).cab.train.id) (w0.units.2 u hm).cab.train.id) (qJJ (Q:=λu=>∀ s∈u.body.steps,I64 s.el) hu (λu hu s hs=>((w0.units.2 u hu).body.steps.2 s hs).el) λs hs=>((w0.units.2 u hm).body.steps.2 s hs).el);exact⟨by show (List.set _ _ _).length<=10;rw [List.length_set];exact ho.units,qJJ hu ho.steps (ho.steps u hm),ho.clear,ho.tracks,ho.claims,ho.Ab,ho.iroutes,ho.Ad,ho.machines,ho.Ae,ho.Ar,ho.setts⟩
  rw [decide_eq_false h0,if_pos (by rfl),aH]
end Go.Proofs.YtofndjhpbonpbaaGreatDoor
