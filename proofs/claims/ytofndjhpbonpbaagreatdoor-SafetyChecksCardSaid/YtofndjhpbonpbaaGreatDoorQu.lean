/- Texts of this proof, joined, without what it does not use. No condition. -/
import Derived.Test.YtofndjhpbonpbaaGreatDoorQt

set_option linter.unusedVariables false
set_option linter.unusedSimpArgs false
set_option maxHeartbeats 400000
set_option maxRecDepth 100000
namespace Go.Proofs.YtofndjhpbonpbaaGreatDoor
open Go Go.TL
def jW (x:Int):List Int->List Int
 | []=>[x]
 | y :: r=>if x < y then x :: y :: r else if x=y then y :: r else y :: jW x r
def qCX:List Int->List Int
 | []=>[]
 | x :: r=>jW x (qCX r)
abbrev yX (l:List Int):Prop:=l.Pairwise (· < ·)
theorem insZ_mem {s x:Int}:∀ {l},s∈jW x l↔s=x\/s∈l
 | []=>by simp [jW]
 | y :: r=>by
  unfold jW;split
  ·simp
  split
  ·rename_i e;subst e;simp
  simp only [zQB,insZ_mem];grind
theorem ascZ_mem {s:Int}:∀ {l},s∈qCX l↔s∈l
 | []=>by simp [qCX]
 | x :: r=>by simp [qCX,insZ_mem,ascZ_mem]
theorem vW (x:Int):∀ l,yX l->yX (jW x l)
 | [],_=>by simp [jW]
 | y :: r,h=>by
  have h':=List.pairwise_cons.1 h;unfold jW;split
  ·rename_i hlt;refine List.pairwise_cons.2 ⟨λa ha=>?_,h⟩;rcases zQB.1 ha with rfl|ha
   ·exact hlt
   have:=h'.1 a ha;omega
  split
  ·exact h
  refine List.pairwise_cons.2 ⟨fun a ha => ?_, vW x r h'.2⟩;rcases insZ_mem.1 ha with rfl|ha
  ·omega
  exact h'.1 a ha
theorem qAW:∀ l,yX (qCX l)
 | []=>.nil
 | x :: r=>vW x _ (qAW r)
theorem wJ:∀ {l m:List Int},yX l->yX m->(∀ s,s∈l↔s∈m)->l=m
 | [],[],_,_,_=>rfl
 | [],y :: m,_,_,h=>absurd ((h y).2 (List.mem_cons_self ..)) (by simp)
 | x :: l,[],_,_,h=>absurd ((h x).1 (List.mem_cons_self ..)) (by simp)
 | x :: l,y :: m,h1,h2,h=>by
  have h1':=List.pairwise_cons.1 h1;have h2':=List.pairwise_cons.1 h2
  have hxy:x=y:=by
   rcases zQB.1 ((h x).1 (List.mem_cons_self ..)) with e|hx
   ·exact e
   rcases zQB.1 ((h y).2 (List.mem_cons_self ..)) with e|hy
   ·exact e.symm
   have:=h2'.1 x hx;have:=h1'.1 y hy;omega
  subst hxy
  congr 1
  refine wJ h1'.2 h2'.2 λs=>⟨λhs=>?_,λhs=>?_⟩
  ·rcases zQB.1 ((h s).1 (List.mem_cons_of_mem _ hs)) with e|hm
   ·have:=h1'.1 s hs;omega
   exact hm
  rcases zQB.1 ((h s).2 (List.mem_cons_of_mem _ hs)) with e|hm
  ·have:=h2'.1 s hs;omega
  exact hm
theorem qVW {l m:List Int} (h:yX m) (hm:∀ s,s∈m↔s∈l):m=qCX l:=
 wJ h (qAW l) λs=>(hm s).trans ascZ_mem.symm
theorem vV (x:Int):∀ l,(jW x l).length<=l.length+1
 | []=>by simp [jW]
 | y :: r=>by
  unfold jW;split
  ·simp
  split
  ·simp
  have:=vV x r;simp only [List.length_cons];omega
theorem qAV:∀ l,(qCX l).length<=l.length
 | []=>zQW _
 | x :: r=>by have h1:=qAV r;have h2:=vV x (qCX r);simp only [qCX,List.length_cons];omega
theorem qKP (l:List Int):(kZ l).Pairwise (·<=·):=by
 have:=oP qJQ l;exact this.imp fun {a b} h=>by rw [wU] at h;simpa using h
theorem qJO {s:Int} {l:List Int}:s∈kZ l↔s∈l:=(pP (m:=qWH) l).mem_iff
theorem qAO (L:List Int) (hs:L.Pairwise (·<=·)):∀ i,i<=L.length->yX (Go.Lib.compactUpTo L.toArray i)/\∀ s,s∈Go.Lib.compactUpTo L.toArray i↔s∈L.take i
 | 0,_=>⟨.nil,λs=>by simp [Go.Lib.compactUpTo]⟩
 | i+1,hi=>by
  obtain⟨h1,h2⟩:=qAO L hs i (by omega);have hil:i < L.length:=by omega
  have htake:L.take (i+1)=L.take i++[L[i]]:=List.take_succ_eq_append_getElem hil;have hget:L.toArray[i]! = L[i]:=by rw [getElem!_pos L.toArray i (by simpa using hil)];simp
  rw [Go.Lib.compactUpTo_succ,hget];have hle:=List.pairwise_iff_getElem.1 hs
  cases hk:Go.Lib.keeps L.toArray i with
  | true=>
   rw [if_pos rfl];refine⟨List.pairwise_append.2 ⟨h1,by simp,λa ha b hb=>?_⟩,λs=>by rw [htake,zQN,zQN,h2]⟩;simp only [List.mem_singleton] at hb;subst hb;obtain⟨j,hj,rfl⟩:=List.mem_take_iff_getElem.1 ((h2 a).1 ha);have hj':j < i:=by omega
   have hi0:i≠0:=by omega
   have hk':=of_decide_eq_true hk;rcases hk' with h0|hne
   ·exact absurd h0 hi0
   rw [hget, getElem!_pos L.toArray (i - 1) (by simp; omega)] at hne;simp only [List.getElem_toArray] at hne
   have a1:L[j]<=L[i - 1]:=by
    rcases Nat.lt_or_ge j (i - 1) with h|h
    ·exact hle j (i - 1) (by omega) (by omega) h
    have : j = i - 1 := by omega
    subst this;exact Int.le_refl _
   have a2:=hle (i - 1) i (by omega) (by omega) (by omega);omega
  | false=>
   rw [if_neg (by simp),List.append_nil];refine⟨h1,λs=>?_⟩;have hk':=of_decide_eq_false hk;have hi0:i≠0:=λe=>hk' (.inl e)
   have he:L.toArray[i]! = L.toArray[i - 1]!:=by
    by_cases h:L.toArray[i]! = L.toArray[i - 1]!
    ·exact h
    exact absurd (.inr h) hk'
   rw [hget,getElem!_pos L.toArray (i - 1) (by simp;omega)] at he;simp only [List.getElem_toArray] at he;rw [h2,htake,zQN];refine⟨.inl,λh=>?_⟩;rcases h with h|h
   ·exact h
   simp only [List.mem_singleton] at h;rw [h,he];exact List.mem_take_iff_getElem.2 ⟨i - 1,by omega,rfl⟩
theorem zAW (l:List Int):Go.Lib.compact (kZ l)=qCX l:=by
 have h:=qAO (kZ l) (qKP l) (kZ l).length (zQW _);refine qVW h.1 λs=>?_;show s∈Go.Lib.compactUpTo (kZ l).toArray (kZ l).length↔_;rw [h.2,List.take_length,qJO]
theorem yE (l:List Int) (h:l.length<=1000000000):mV l=some (qCX l):=by
 unfold mV;rw [qGY l h,aD,aA h,aA (by rw [gU];exact h),zAW]
def qDM (s:List Int) (n:Int) (i:Nat):Bool×List Int:=if (s.take i).any (λe=>decide (n < e))=true then (true,jW n (s.take i)) else (false,s.take i)
theorem zEG {n:Int} {s:List Int} (h:∀ e∈s,e < n):jW n s=s++[n]:=by
 induction s with
 | nil=>rfl
 | cons y r ih=>
  have:=h y (List.mem_cons_self ..);unfold jW;rw [if_neg (by omega),if_neg (by omega),ih λe he=>h e (List.mem_cons_of_mem _ he)];rfl
theorem zEH {n:Int} {s:List Int} (x:Int) (ha:yX (s++[x])) (hn:n∉s++[x]):jW n (s++[x])=if s.any (λe=>decide (n < e))=true then jW n s++[x] else if n < x then s++[n]++[x] else s++[x]++[n]:=by
 induction s with
 | nil=>
  simp only [List.nil_append,List.any_nil,Bool.false_eq_true,if_false];unfold jW;by_cases h:n < x
  ·rw [if_pos h,if_pos h];rfl
  rw [if_neg h,if_neg h,if_neg (λe=>hn (by rw [e];simp))];rfl
 | cons y r ih=>
  have ha':=List.pairwise_cons.1 ha;have ih:=ih ha'.2 (λh=>hn (List.mem_cons_of_mem _ h));have hy:n≠y:=λe=>hn (by rw [e];simp);simp only [List.cons_append,List.any_cons];by_cases h:n < y
  ·have h1 : jW n (y :: (r ++ [x])) = n :: y :: (r ++ [x]) := by unfold jW; rw [if_pos h]
   have h2:jW n (y :: r)=n :: y :: r:=by unfold jW;rw [if_pos h]
   rw [h1,h2,decide_eq_true h,Bool.true_or,if_pos rfl];rfl
  have h1 : jW n (y :: (r ++ [x])) = y :: jW n (r ++ [x]) := by rw [jW, if_neg h, if_neg hy]
  have h2:jW n (y :: r)=y :: jW n r:=by rw [jW,if_neg h,if_neg hy]
  rw [h1,h2,ih,decide_eq_false h,Bool.false_or];split
  ·rfl
  split<;>rfl
theorem qKA (s:List Int) (n:Int) (ha:yX s) (hl:s.length<=100000000):eV s n=some (jW n s):=by
 unfold eV;rw [qAG s n (by unfold Cnt;omega),aD];by_cases hm:n∈s
 ·rw [if_pos (by simpa using hm)]
  congr 1
  refine wJ ha (vW n s ha) λx=>?_;rw [insZ_mem];exact⟨.inr,λh=>h.elim (λe=>e ▸ hm) id⟩
 rw [if_neg (by simpa using hm)]
 have hlenT:∀ i,i<=s.length->(qDM s n i).2.length<=i+1:=by
  intro i hi;unfold qDM;split
  ·have:=vV n (s.take i);simp only [List.length_take] at this ⊢;omega
  simp only [List.length_take];omega
 rw [iP (λi:Nat=>((qDM s n i).1,(i:Int),(qDM s n i).2)) s.length (o:=qDM s n s.length) (by simp [qDM]) (by omega) (λi hi=>?_) ?_]
 ·rw [aD];have hlT:=hlenT s.length (zQW _);unfold qDM at hlT ⊢;rw [List.take_length] at hlT ⊢;by_cases hany:s.any (λe=>decide (n < e))=true
  ·rw [if_pos hany];rfl
  rw [if_neg hany] at hlT ⊢;simp only [Bool.not_false,if_true];rw [aA (by simp;omega)];rw [zEG λe he=>?_];have:¬ n < e:=λh=>hany (zQU.2 ⟨e,he,by simpa using h⟩);have hne:n≠e:=λh=>hm (h ▸ he);omega
 ·dsimp only;rw [if_neg (by omega)];rfl
 have hx:s[i]?=some s[i]:=zQR hi;have htake:s.take (i+1)=s.take i++[s[i]]:=List.take_succ_eq_append_getElem hi;have hlT:=hlenT i (by omega);dsimp only;rw [if_pos (by omega)];simp only [aH hx];have happ:=zEH (n:=n) (s:=s.take i) s[i] (by rw [<- htake];exact ha.sublist (List.take_sublist _ _)) (by rw [<- htake];exact λh=>hm (List.mem_of_mem_take h));unfold qDM at hlT ⊢;rw [htake,List.any_append];simp only [List.any_cons,List.any_nil,Bool.or_false];by_cases hany:(s.take i).any (λe=>decide (n < e))=true
 ·rw [if_pos hany] at hlT happ ⊢;dsimp only at hlT;rw [hany,Bool.true_or,if_pos rfl];simp only [Bool.not_true,Bool.false_eq_true,if_false,aD];rw [aA (by simp only [zQL,List.length_cons,List.length_nil];omega),aA (bW hi (by omega)),happ];rfl
 rw [if_neg hany] at hlT happ ⊢;dsimp only at hlT;have hany':(s.take i).any (λe=>decide (n < e))=false:=by simpa using hany
 rw [hany',Bool.false_or];simp only [Bool.not_false,if_true,aD];by_cases hlt:n < s[i]
 ·rw [if_pos hlt] at happ;rw [decide_eq_true hlt,if_pos rfl,if_pos rfl,aA (by simp only [zQL,List.length_cons,List.length_nil];omega)];simp only [aD];rw [aA (by simp only [zQL,List.length_cons,List.length_nil];omega),aA (bW hi (by omega)),happ];rfl
 rw [decide_eq_false hlt, if_neg (by simp), if_neg (by simp)];simp only [aD];rw [aA (by simp only [zQL,List.length_cons,List.length_nil];omega),aA (bW hi (by omega))];rfl
def jU (l:List Int) (i:Nat):List Int:=(l.take i).foldl (λb x=>jW x b) []
theorem qCI (l:List Int):∀ i,i<=l.length->yX (jU l i)/\(∀ s,s∈jU l i↔s∈l.take i)/\(jU l i).length<=i
 | 0,_=>⟨.nil,λs=>by simp [jU],by simp [jU]⟩
 | i+1,hi=>by
  obtain⟨h1,h2,h3⟩:=qCI l i (by omega);have hil:i < l.length:=by omega
  have hs:jU l (i+1)=jW l[i] (jU l i):=by
   unfold jU;rw [List.take_succ_eq_append_getElem hil,List.foldl_append];rfl
  rw [hs];refine⟨vW _ _ h1,λs=>?_,?_⟩
  ·rw [insZ_mem,h2,List.take_succ_eq_append_getElem hil,zQN,List.mem_singleton];exact Or.comm
  have:=vV l[i] (jU l i);omega
theorem qXE (l:List Int) (h:l.length<=10000000):kW l=some (qCX l):=by
 unfold kW;have hall:=qCI l l.length (zQW _);have hE:jU l l.length=qCX l:=qVW hall.1 λs=>by rw [hall.2.1,List.take_length]
 rw [iP (λi:Nat=>(jU l i,(i:Int))) l.length (o:=jU l l.length) (by simp [jU]) (by omega) (λi hi=>?_) (by dsimp only;rw [if_neg (by omega)];rfl)]
 ·rw [aD,hE]
 have hx:l[i]?=some l[i]:=zQR hi;obtain⟨h1,h2,h3⟩:=qCI l i (by omega);dsimp only;rw [if_pos (by omega),aH hx,qKA _ _ h1 (by omega),aD,aA (bW hi (by omega))]
 have:jU l (i+1)=jW l[i] (jU l i):=by
  unfold jU;rw [List.take_succ_eq_append_getElem hi,List.foldl_append];rfl
 rw [this];rfl
def ltS (x y:Aa):Bool:=decide (x.el < y.el)||(decide (x.el=y.el)&&decide (x.pos < y.pos))
theorem zW {x y:Aa}:ltS x y=true↔x.el < y.el\/x.el=y.el/\x.pos < y.pos:=by simp [ltS]
theorem qN (x:Aa):ltS x x=false:=by simp [ltS]
theorem qCJ {x y z:Aa} (h1:ltS x y=true) (h2:ltS y z=true):ltS x z=true:=by rw [zW] at *; omega
theorem qJX {x y:Aa} (h1:ltS x y=true) (h2:ltS y x=true):False:=by rw [zW] at *; omega
theorem zBR {x y:Aa} (h1:x.el=y.el) (h2:x.pos=y.pos):x=y:=by
 obtain⟨a,b⟩:=x;obtain⟨c,d⟩:=y;simp_all
theorem qMF {x y:Aa} (h1:ltS x y=false) (h2:ltS y x=false):x=y:=by
 have h1':¬ (x.el < y.el\/x.el=y.el/\x.pos < y.pos):=λh=>by rw [<- zW,h1] at h;cases h
 have h2':¬ (y.el < x.el\/y.el=x.el/\y.pos < x.pos):=λh=>by rw [<- zW,h2] at h;cases h
 exact zBR (by omega) (by omega)
def qGK (x:Aa):List Aa->List Aa
 | []=>[x]
 | y :: r=>if ltS x y=true then x :: y :: r else if x=y then y :: r else y :: qGK x r
def iJ:List Aa->List Aa
 | []=>[]
 | x :: r=>qGK x (iJ r)
abbrev Asc (l:List Aa):Prop:=l.Pairwise (λa b=>ltS a b=true)
theorem insS_mem {s x:Aa}:∀ {l},s∈qGK x l↔s=x\/s∈l
 | []=>by simp [qGK]
 | y :: r=>by
  unfold qGK;split
  ·simp
  split
  ·rename_i e;subst e;simp
  simp only [zQB,insS_mem];grind
theorem ascS_mem {s:Aa}:∀ {l},s∈iJ l↔s∈l
 | []=>by simp [iJ]
 | x :: r=>by simp [iJ,insS_mem,ascS_mem]
theorem qPY (x:Aa):∀ l,Asc l->Asc (qGK x l)
 | [],_=>by simp [qGK]
 | y :: r,h=>by
  have h':=List.pairwise_cons.1 h;unfold qGK;split
  ·rename_i hxy;refine List.pairwise_cons.2 ⟨λb hb=>?_,h⟩;rcases zQB.1 hb with rfl|hb
   ·exact hxy
   exact qCJ hxy (h'.1 b hb)
  split
  ·exact h
  rename_i h1 h2;refine List.pairwise_cons.2 ⟨λb hb=>?_,qPY x r h'.2⟩;rcases insS_mem.1 hb with rfl|hb
  ·cases h3:ltS y b with
   | true=>rfl
   | false=>exact absurd (qMF (by simpa using h1) h3) h2
  exact h'.1 b hb
theorem qAX:∀ l,Asc (iJ l)
 | []=>.nil
 | x :: r=>qPY x _ (qAX r)
theorem qHE:∀ {l m:List Aa},Asc l->Asc m->(∀ s,s∈l↔s∈m)->l=m
 | [],[],_,_,_=>rfl
 | [],y :: m,_,_,h=>absurd ((h y).2 (List.mem_cons_self ..)) (by simp)
 | x :: l,[],_,_,h=>absurd ((h x).1 (List.mem_cons_self ..)) (by simp)
 | x :: l,y :: m,h1,h2,h=>by
  have h1':=List.pairwise_cons.1 h1;have h2':=List.pairwise_cons.1 h2
  have e:x=y:=by
   rcases zQB.1 ((h x).1 (List.mem_cons_self ..)) with e|hx
   ·exact e
   rcases zQB.1 ((h y).2 (List.mem_cons_self ..)) with e|hy
   ·exact e.symm
   exact (qJX (h2'.1 x hx) (h1'.1 y hy)).elim
  subst e
  have := qHE h1'.2 h2'.2 fun s => ⟨fun hs => by
   rcases zQB.1 ((h s).1 (List.mem_cons_of_mem _ hs)) with e | h3
   ·subst e; have := h1'.1 s hs; rw [qN] at this; cases this
   ·exact h3, fun hs => by
   rcases zQB.1 ((h s).2 (List.mem_cons_of_mem _ hs)) with e | h3
   ·subst e; have := h2'.1 s hs; rw [qN] at this; cases this
   exact h3⟩
  rw [this]
theorem qVX {l m:List Aa} (h:Asc m) (hm:∀ s,s∈m↔s∈l):m=iJ l:=qHE h (qAX l) λs=>by rw [hm,ascS_mem]
theorem qHF (l:List Aa):(iJ l).length<=l.length:=by
 induction l with
 | nil=>simp [iJ]
 | cons x r ih=>
  have:∀ m,(qGK x m).length<=m.length+1:=by
   intro m
   induction m with
   | nil=>simp [qGK]
   | cons y q ih=>unfold qGK;split<;>(try split)<;>simp<;>omega
  have h:=this (iJ r);simp only [iJ,List.length_cons];omega
theorem qMG (x y:Aa):ltM cG x y=ltS x y:=by
 rw [Bool.eq_iff_iff,zW];simp only [ltM,pT,Option.getD_some,sgn,decide_eq_true_eq];split<;>split<;>(try split)<;>(try split)<;>omega
def mJ (L:List Aa):Nat->List Aa
 | 0=>[]
 | i+1=>match L[i]? with
  | none=>mJ L i
  | some e=>if i=0\/¬ L[i - 1]?=some e then mJ L i++[e] else mJ L i
theorem qKC (L:List Aa):∀ i,(mJ L i).length<=i
 | 0=>zQW _
 | i+1=>by
  have:=qKC L i;unfold mJ;split
  ·omega
  split
  ·simp;omega
  omega
theorem qQJ (L : List Aa) (hs : L.Pairwise (fun a b => ltS b a = false)) : ∀ i, i <= L.length -> Asc (mJ L i) /\ ∀ s, s ∈ mJ L i ↔ s ∈ L.take i
 | 0,_=>⟨.nil,λs=>by simp [mJ]⟩
 | i+1,hi=>by
  obtain⟨h1,h2⟩:=qQJ L hs i (by omega);have he:L[i]?=some L[i]:=by simp
  rw [List.pairwise_iff_getElem] at hs;have htake:L.take (i+1)=L.take i++[L[i]]:=by rw [List.take_add_one,he];rfl
  unfold mJ;rw [he];simp only;split
  ·rename_i hc;refine⟨List.pairwise_append.2 ⟨h1,by simp,λa ha b hb=>?_⟩,λs=>by rw [htake,zQN,zQN,h2]⟩;simp only [List.mem_singleton] at hb;subst hb;rcases hc with h0|hc
   ·subst h0;simp [mJ] at ha
   have hi0 : i ≠ 0 := fun e => by subst e; simp [mJ] at ha
   obtain⟨j,hj,rfl⟩:=List.mem_take_iff_getElem.1 ((h2 a).1 ha);have e1:L[i - 1]?=some L[i - 1]:=by rw [zQR]
   have hne:L[i - 1]≠L[i]:=λe=>hc (by rw [e1,e])
   have hlt:ltS L[i - 1] L[i]=true:=by
    cases h3:ltS L[i - 1] L[i] with
    | true=>rfl
    | false=>exact absurd (qMF h3 (hs (i - 1) i (by omega) (by omega) (by omega))) hne
   by_cases hj':j=i - 1
   ·subst hj';exact hlt
   have h4 := hs j (i - 1) (by omega) (by omega) (by omega)
   cases h5:ltS L[j] L[i - 1] with
   | true=>exact qCJ h5 hlt
   | false=>rw [qMF h5 h4];exact hlt
  rename_i hc;refine⟨h1,λs=>?_⟩;rw [htake,zQN,h2];have hi0:i≠0:=λe=>hc (.inl e)
  have e1:L[i - 1]?=some L[i]:=by
   cases h:decide (L[i - 1]?=some L[i]) with
   | true=>exact of_decide_eq_true h
   | false=>exact absurd (.inr (of_decide_eq_false h)) hc
  have hm:L[i]∈L.take i:=List.mem_take_iff_getElem.2 ⟨i - 1,by omega,by rw [zQR (by omega)] at e1;exact Option.some.inj e1⟩;refine⟨.inl,λh=>?_⟩;rcases h with h|h
  ·exact h
  simp only [List.mem_singleton] at h;subst h;exact hm
abbrev gB (r:Ai):List Aa:=r.Ae++r.Aj++r.At
theorem qTJ (xss:List (List Aa)) (h:xss.length<=1000/\xss.flatten.length<=1000000000):fM xss=some xss.flatten:=aA h
theorem qNS (r:Ai) (h:Short r) (ho:∀ s∈gB r,Aa.ok s):iQ r=some (iJ (gB r)):=by
 have hfl:[r.Ae,r.Aj,r.At].flatten=gB r:=by simp [gB]
 have hlen:(gB r).length<=6000000:=by have:=h.Ae;have:=h.over;have:=h.At;simp [gB];omega
 unfold iQ;rw [qTJ _ ⟨by simp,by rw [hfl];omega⟩,aD,hfl,aA (by omega)];generalize hL:pQ cG (gB r)=L;have hLl:L.length=(gB r).length:=by rw [<- hL,oQ]
 have hmem:∀ s,s∈L↔s∈gB r:=λs=>by rw [<- hL];exact (pP _).mem_iff
 have hsort:L.Pairwise (λa b=>ltS b a=false):=by
  rw [<- hL];have:=oP lL (gB r);exact this.imp fun {a b} hab=>by rw [<- qMG];exact hab
 obtain⟨h1,h2⟩:=qQJ L hsort L.length (zQW _);have hfin:mJ L L.length=iJ (gB r):=qVX h1 λs=>by rw [h2,List.take_length,hmem]
 rw [jK (b:=([]:List Aa)) (o:=iJ (gB r)) L.length (mJ L) rfl (by omega) (λi hi=>?_) (by dsimp only;rw [if_neg (by omega),hfin];rfl)]
 ·rfl
 have he : L[i]? = some L[i] := by simp
 have hg:(mJ L i++[L[i]]).length<=1000000000:=by have:=qKC L i;simp;omega
 dsimp only;rw [if_pos (by omega),aH he]
 have hcond:(if (i:Int)=0 then some true else aC (I64 ((i:Int) - 1)) (aU L ((i:Int) - 1) λe17=>aC (Aa.ok L[i]/\Aa.ok e17) (some (!decide (L[i]=e17)))))=some (decide (i=0\/¬ L[i - 1]?=some L[i])):=by
  by_cases h0:i=0
  ·subst h0;simp
  have e1 : L[i - 1]? = some L[i - 1] := by rw [zQR]
  have e2:((i:Int) - 1)=((i - 1:Nat):Int):=by omega
  rw [if_neg (by omega),aA (by unfold I64;omega),e2,aH e1,aA ⟨ho _ ((hmem _).1 (List.getElem_mem _)),ho _ ((hmem _).1 (List.getElem_mem _))⟩,e1];have e3:(L[i]=L[i - 1])=(L[i - 1]=L[i]):=propext eq_comm;simp only [Option.some.injEq,h0,false_or,e3,decide_not]
 rw [hcond,aD];have hstep:mJ L (i+1)=if i=0\/¬ L[i - 1]?=some L[i] then mJ L i++[L[i]] else mJ L i:=by rw [mJ,he]
 by_cases hc:i=0\/¬ L[i - 1]?=some L[i]
 ·rw [if_pos (by simpa using hc),aA hg,aA (bW (n:=L.length) hi (by omega)),hstep,if_pos hc]
 rw [if_neg (by simpa using hc),aA (bW (n:=L.length) hi (by omega)),hstep,if_neg hc]
theorem zCF {D:List Aa} (h:Asc D) {i j:Nat} (hi:i < D.length) (hj:j < D.length):ltS D[i] D[j]=true↔i < j:=by
  rw [Asc,List.pairwise_iff_getElem] at h;constructor
  · intro hl
    rcases Nat.lt_trichotomy i j with h1|h1|h1
    · exact h1
    · subst h1;rw [qN] at hl;cases hl
    exact (qJX hl (h j i hj hi h1)).elim
  exact λhl=>h i j hi hj hl
def uK (out:List Aa) (e:Aa):Bool:=out.isEmpty||(out.getLast?).any λl=>ltS l e
def eS (A out:List Aa):Nat->Int
  | 0=>-1
  | i+1=>match A[i]? with
    | none=>eS A out i
    | some e=>if uK out e=true/\(eS A out i < 0\/(A[(eS A out i).toNat]?).any (λb=>ltS e b)=true) then (i:Int) else eS A out i
theorem qCV (A out:List Aa):∀ i,i<=A.length->(eS A out i=-1/\∀ j,j < i->(A[j]?).any (uK out)=false)\/
    ∃ b:Nat,eS A out i=(b:Int)/\b < i/\∃ e,A[b]?=some e/\uK out e=true/\∀ j e',j < i->A[j]?=some e'->uK out e'=true->ltS e' e=false
  | 0,_=>.inl ⟨rfl,λj hj=>absurd hj (zQV j)⟩
  | i+1,hi=>by
    have he:A[i]?=some A[i]:=by simp
    have ih:=qCV A out i (by omega);unfold eS;rw [he];simp only;by_cases hc:uK out A[i]=true
    · rcases ih with ⟨h1,h2⟩|⟨b,h1,h2,e,h3,h4,h5⟩
      · rw [if_pos ⟨hc, .inl (by omega)⟩]
        refine .inr ⟨i,rfl,by omega,A[i],he,hc,λj e' hj hj' hc'=>?_⟩;rcases Nat.lt_or_ge j i with h|h
        · have:=h2 j h;rw [hj'] at this;simp [hc'] at this
        have : j = i := by omega
        subst this;rw [he] at hj';cases hj';exact qN _
      rw [h1];have e1:A[((b:Int)).toNat]?=some e:=by simpa using h3
      rw [e1];by_cases hl:ltS A[i] e=true
      · rw [if_pos ⟨hc, .inr (by simpa using hl)⟩]
        refine .inr ⟨i,rfl,by omega,A[i],he,hc,λj e' hj hj' hc'=>?_⟩;rcases Nat.lt_or_ge j i with h|h
        · cases h6:ltS e' A[i] with
          | false=>rfl
          | true=>have h7:=h5 j e' h hj' hc';rw [qCJ h6 hl] at h7;cases h7
        have : j = i := by omega
        subst this;rw [he] at hj';cases hj';exact qN _
      rw [if_neg (by rintro ⟨_, h | h⟩; · omega
                     · exact hl (by simpa using h))]
      refine .inr ⟨b,rfl,by omega,e,h3,h4,λj e' hj hj' hc'=>?_⟩;rcases Nat.lt_or_ge j i with h|h
      · exact h5 j e' h hj' hc'
      have : j = i := by omega
      subst this;rw [he] at hj';cases hj';simpa using hl
    rw [if_neg (fun h => hc h.1)];rcases ih with ⟨h1,h2⟩|⟨b,h1,h2,e,h3,h4,h5⟩
    · refine .inl ⟨h1, fun j hj => ?_⟩
      rcases Nat.lt_or_ge j i with h|h
      · exact h2 j h
      have : j = i := by omega
      subst this;rw [he];simpa using hc
    refine .inr ⟨b, h1, by omega, e, h3, h4, fun j e' hj hj' hc' => ?_⟩;rcases Nat.lt_or_ge j i with h|h
    · exact h5 j e' h hj' hc'
    have : j = i := by omega
    subst this;rw [he] at hj';cases hj';exact absurd hc' hc
theorem qVU (A:List Aa) {k:Nat} (hk:k<=(iJ A).length):
    (k=(iJ A).length->eS A ((iJ A).take k) A.length=-1)/\
    ∀ hlt:k < (iJ A).length,∃ b:Nat,eS A ((iJ A).take k) A.length=(b:Int)/\A[b]?=some (iJ A)[k]:=by
  have hasc:=qAX A
  have hcand:∀ j (hj:j < (iJ A).length),uK ((iJ A).take k) (iJ A)[j]=decide (k<=j):=by
    intro j hj;unfold uK;by_cases h0:k=0
    · subst h0;simp
    have hl:((iJ A).take k).getLast?=some (iJ A)[k - 1]:=by
      rw [List.getLast?_eq_getElem?,List.length_take,Nat.min_eq_left hk,List.getElem?_take_of_lt (by omega),zQR (by omega)]
    have he:((iJ A).take k).isEmpty=false:=by
      cases h:(iJ A).take k with
      | nil=>rw [h] at hl;cases hl
      | cons=>rfl
    rw [hl,he,Bool.eq_iff_iff];simp only [Bool.false_or,Option.any_some,zCF hasc (show k - 1 < _ by omega) hj,decide_eq_true_eq];omega
  have hin:∀ (j:Nat) (e:Aa),A[j]?=some e->∃ i,∃ hi:i < (iJ A).length,e=(iJ A)[i]:=by
    intro j e he;obtain⟨i,hi,h⟩:=List.mem_iff_getElem.1 (ascS_mem.2 (zQM he));exact⟨i,hi,h.symm⟩
  rcases qCV A ((iJ A).take k) A.length (zQW _) with ⟨h1,h2⟩|⟨b,h1,h2,e,h3,h4,h5⟩
  · refine ⟨fun _ => h1, fun hlt => ?_⟩
    obtain⟨j,hj,h⟩:=List.mem_iff_getElem.1 (ascS_mem.1 (List.getElem_mem hlt));have:=h2 j hj;rw [zQR hj,h,Option.any_some,hcand k hlt] at this;simp at this
  obtain⟨i,hi,rfl⟩:=hin b e h3;rw [hcand i hi] at h4;have h4':=of_decide_eq_true h4;refine⟨λh=>by omega,λhlt=>⟨b,h1,?_⟩⟩;obtain⟨j,hj,h⟩:=List.mem_iff_getElem.1 (ascS_mem.1 (List.getElem_mem hlt));have h6:=h5 j (iJ A)[k] hj (by rw [zQR hj,h]) (by rw [hcand k hlt];simp);have h7:¬ k < i:=λhc=>by rw [(zCF hasc hlt hi).2 hc] at h6;cases h6
  have:i=k:=by omega
  subst this;exact h3
theorem qUU (x y:Aa):eG x y=some (ltS x y):=rfl
theorem qUI (A out : List Aa) (hA : A.length <= 6000000) (ho : out.length <= 6000000) : aY (fun (found11, x12) =>
        if x12 < (A.length : Int) then
          aU A x12 fun e15 =>
          aB (
            if (out.length : Int) = (0 : Int) then
              if found11 < (0 : Int) then
                some true
              else
                aU A found11 fun e27 =>
                aB (eG e15 e27) fun r28 =>
                some r28
            else
              aC (I64 ((out.length : Int) - (1 : Int))) <|
              aU out ((out.length : Int) - (1 : Int)) fun e20 =>
              aB (eG e20 e15) fun r21 =>
              if r21 = true then
                if found11 < (0 : Int) then
                  some true
                else
                  aU A found11 fun e24 =>
                  aB (eG e15 e24) fun r25 =>
                  some r25
              else
                some false) fun x16 =>
          if x16 = true then
            aC (I64 (x12 + (1 : Int))) <|
            some (.inl (x12, (x12 + (1 : Int))))
          else
            aC (I64 (x12 + (1 : Int))) <|
            some (.inl (found11, (x12 + (1 : Int))))
        else
          aQ (
            some found11)) ((-1 : Int), (0 : Int)) = some (eS A out A.length) := by
  refine iP (λi=>(eS A out i,(i:Int))) A.length rfl (by omega) (λi hi=>?_) (by dsimp only;rw [if_neg (by omega)];rfl);dsimp only;have he:A[i]?=some A[i]:=by simp
  have hstep:eS A out (i+1)=if uK out A[i]=true/\(eS A out i < 0\/(A[(eS A out i).toNat]?).any (λb=>ltS A[i] b)=true) then (i:Int) else eS A out i:=by rw [eS,he]
  have hinner:∀ f:Int,f=eS A out i->(if f < (0:Int) then some true else aU A f λe27=>aB (eG A[i] e27) λr28=>some r28)=some (decide (eS A out i < 0\/(A[(eS A out i).toNat]?).any (λb=>ltS A[i] b)=true)):=by
    rintro f rfl;rcases qCV A out i (by omega) with ⟨h1,_⟩|⟨b,h1,h2,e,h3,_,_⟩
    · rw [h1];simp
    rw [h1, if_neg (by omega), aH h3, qUU, aD];have h3':A[((b:Int)).toNat]?=some e:=by simpa using h3
    rw [h3']
    congr 1
    rw [Bool.eq_iff_iff,decide_eq_true_eq];simp only [Option.any_some];constructor
    · exact .inr
    rintro (h|h)
    · omega
    exact h
  have hcond : (if (out.length : Int) = (0 : Int) then
              (if eS A out i < (0 : Int) then some true else aU A (eS A out i) fun e27 => aB (eG A[i] e27) fun r28 => some r28)
            else
              aC (I64 ((out.length : Int) - (1 : Int))) <|
              aU out ((out.length : Int) - (1 : Int)) fun e20 =>
              aB (eG e20 A[i]) fun r21 =>
              if r21 = true then (if eS A out i < (0 : Int) then some true else aU A (eS A out i) fun e24 => aB (eG A[i] e24) fun r25 => some r25)
              else some false) = some (decide (uK out A[i] = true /\ (eS A out i < 0 \/ (A[(eS A out i).toNat]?).any (fun b => ltS A[i] b) = true))) := by
    rw [hinner _ rfl];by_cases h0:out=[]
    · subst h0;simp [uK]
    have hl:0 < out.length:=List.length_pos_iff.2 h0;have h1:out[out.length - 1]?=some (out[out.length - 1]):=by rw [zQR]
    have e2:((out.length:Int) - 1)=((out.length - 1:Nat):Int):=by omega
    rw [if_neg (by omega),aA (by unfold I64;omega),e2,aH h1,qUU,aD]
    have hcb:uK out A[i]=ltS out[out.length - 1] A[i]:=by
      unfold uK;rw [List.getLast?_eq_getElem?,h1,Option.any_some]
      cases out with
      | nil=>exact absurd rfl h0
      | cons=>rfl
    rw [hcb];cases ltS out[out.length - 1] A[i]<;>simp
  rw [if_pos (by omega),aH he,hcond,aD,hstep];split
  · rename_i h
    rw [if_pos (of_decide_eq_true h),aA (bW (n:=A.length) hi (by omega))];rfl
  rename_i h;rw [if_neg (λh'=>h (decide_eq_true h')),aA (bW (n:=A.length) hi (by omega))];rfl
theorem qJJ (r:Ai) (h:Short r):jA r=some (iJ (gB r)):=by
  have hlen:(gB r).length<=6000000:=by have:=h.Ae;have:=h.over;have:=h.At;simp [gB];omega
  have hl1:(r.Ae++r.Aj).length<=6000000:=by have:=h.Ae;have:=h.over;simp;omega
  have hl2:r.Ae.length<=6000000:=by have:=h.Ae;omega
  unfold jA;simp only [List.nil_append];rw [aA (by omega),aA (by omega),aA (show (gB r).length<=1000000000 by omega)];have hDl:=qHF (gB r);refine iP (λk=>(iJ (gB r)).take k) (iJ (gB r)).length (by simp) (by omega) (λk hk=>?_) ?_
  · rw [qUI (gB r) _ hlen (by rw [List.length_take]; omega), aD]
    obtain⟨b,h1,h2⟩:=(qVU (gB r) (Nat.le_of_lt hk)).2 hk;rw [h1,if_neg (by omega),aH h2,aA (by rw [zQL,List.length_take];simp only [List.length_cons,List.length_nil];omega),List.take_add_one,zQR hk];rfl
  rw [qUI (gB r) _ hlen (by rw [List.length_take]; omega), aD, (qVU (gB r) (zQW _)).1 rfl, List.take_length];rfl
theorem qDJ {α:Type} {f:Int×List α->Option ((Int×List α) ⊕ List α)} (l:List α) (P:α->Bool) (hn:l.length<=1000000000) (hf:∀ (i:Nat) (e:α) (b:List α),l[i]?=some e->b.length<=i->f ((i:Int),b)=some (.inl ((i:Int)+1,if P e=true then b++[e] else b))) (he:∀ b,f ((l.length:Int),b)=some (.inr b)):aY f (0,[])=some (l.filter P):=by
 refine jK l.length (λi=>(l.take i).filter P) (by simp) (by omega) (λi hi=>?_) (by rw [he];simp);have e1:l[i]?=some l[i]:=by simp
 rw [hf i l[i] _ e1 (Nat.le_trans (List.length_filter_le _ _) (by rw [List.length_take];omega)),List.take_add_one,e1,List.filter_append]
 congr 3
 split
 ·rename_i h;simp [h]
 rename_i h;simp [h]
theorem qPK {α β:Type} {f:Int×List β->Option ((Int×List β) ⊕ List β)} (l:List α) (g:α->β) (b0:List β) (hn:l.length<=1000000000) (hf:∀ (i:Nat) (e:α) (b:List β),l[i]?=some e->b.length=b0.length+i->f ((i:Int),b)=some (.inl ((i:Int)+1,b++[g e]))) (he:∀ b,f ((l.length:Int),b)=some (.inr b)):aY f (0,b0)=some (b0++l.map g):=by
 refine jK l.length (λi=>b0++(l.take i).map g) (by simp) (by omega) (λi hi=>?_) (by rw [he];simp);have e1:l[i]?=some l[i]:=by simp
 rw [hf i l[i] _ e1 (by rw [zQL,zQC,List.length_take,Nat.min_eq_left (by omega)]),List.take_add_one,e1];simp only [Option.toList_some,List.map_append,List.map_cons,List.map_nil,List.append_assoc]
theorem mX {t:Al} (h:fK t=0):qEC t=true/\nD t=true/\(∀ r∈t.Ab,lS t r=true/\oG t r=true)/\(∀ r∈t.Ab,nH r=true)/\vO t.Ab=true:=by
 unfold fK at h;split at h
 ·cases h
 split at h
 ·cases h
 split at h
 ·cases h
 split at h
 ·cases h
 split at h
 ·cases h
 rename_i h1 h2 h3 h4 h5;simp only [Bool.not_eq_false] at h1 h2 h3 h4 h5;rw [zQT] at h3 h4;exact⟨h1,h2,λr hr=>by have:=h3 r hr;rwa [zQA] at this,h4,h5⟩
theorem qBI {t:Al} {l:List Aa} (h:eO t l=true) {s:Aa} (hs:s∈l):(fQ t.Ae s.el).isSome=true/\1<=s.pos/\s.pos<=2:=by
 obtain⟨i,hi,rfl⟩:=List.mem_iff_getElem.1 hs;have h1:=allB_iff.1 h i hi;rw [qFB (x:=l[i]) (y:=l[i - 1]) (by simp) (by rw [zQR])] at h1;have:=of_decide_eq_true h1;exact⟨this.1,this.2.1,this.2.2.1⟩
theorem tO {t:Al} {r:Ai} (h:oG t r=true) {s:Aa} (hs:s∈gB r):∃ k,fQ t.Ae s.el=some k/\k < t.Ae.length:=by
 unfold oG at h;rw [zQA,zQA] at h
 have:(fQ t.Ae s.el).isSome=true:=by
  simp only [gB,zQN] at hs;rcases hs with (hs|hs)|hs
  ·exact (qBI h.1.1 hs).1
  ·exact (qBI h.1.2 hs).1
  exact (qBI h.2 hs).1
 obtain⟨k,hk⟩:=Option.isSome_iff_exists.1 this;exact⟨k,hk,by obtain⟨_,_,_,h⟩:=qMM hk;exact h⟩
def SOk (t:Al):Prop:=∀ r∈t.Ab,∀ s∈gB r,Aa.ok s
def qCN (t:Al) (el:Int):Int:=((fQ t.Ae el).bind (t.A1[·]?)).getD 0
theorem qXQ {t:Al} {el:Int} {k:Nat} (h:fQ t.Ae el=some k) {x:Int} (hx:t.A1[k]?=some x):qCN t el=x:=by simp [qCN,h,hx]
def rS (t:Al) (r:Ai) (x:Ak) (s:Aa):Bool:=!decide (qCN t s.el∈r.Ad.take x.rel.toNat)
def jX (t:Al) (r:Ai) (x:Ak):List Aa:=if x.state=0 then [] else iJ (r.Ae.filter (rS t r x)++r.Aj++r.At)
theorem qQE {t:Al} (h:fK t=0) {el:Int} {k:Nat} (hk:fQ t.Ae el=some k):t.A1[k]?=some (qCN t el):=by
 obtain⟨_,h2,_⟩:=mX h;unfold nD at h2;rw [zQA,decide_eq_true_eq] at h2;obtain⟨_,_,_,hlt⟩:=qMM hk;have:t.A1[k]?=some t.A1[k]:=by rw [zQR]
 rw [qXQ hk this,this]
theorem qMN (l:List Int) (x:Int) (h:Cnt l):tB l x=some (decide (x∈l)):=by simp [tB,qQM l x h]
theorem qXL (t:Al) (r:Ai) (x:Ak) (h:TOk t) (ho:SOk t) (hc:fK t=0) (hr:r∈t.Ab) (hx:0<=x.rel/\x.rel<=r.Ad.length):nZ t r x=some (jX t r x):=by
 have hs:=h.each r hr;obtain⟨_,_,h3,_⟩:=mX hc;unfold nZ jX;by_cases h0:x.state=0
 ·rw [if_pos h0,if_pos h0]
 rw [if_neg h0,if_neg h0];obtain⟨n,hn⟩:=Int.eq_ofNat_of_zero_le hx.1;rw [qDJ r.Ae (rS t r x) (by have:=hs.Ae;omega) (λi e b he hb=>?_) (λb=>by dsimp only;rw [if_neg (by omega)];rfl),aD]
 ·have hR := qNS (⟨⟨#[]⟩, 0, 0, [], r.Ae.filter (rS t r x), [], 0, 0, [], r.Aj, [], r.At, [], []⟩ : Ai) ⟨Nat.zero_le _, Nat.le_trans (List.length_filter_le _ _) hs.Ae, hs.over, hs.At⟩ (fun s hm => ?_)
  ·rw [hR];rfl
  refine ho r hr s ?_;simp only [gB,zQN,List.mem_filter] at hm ⊢
  grind
 dsimp only;have hi:i < r.Ae.length:=(zQQ.1 he).1;obtain⟨k,hk,hkl⟩:=tO (h3 r hr).2 (s:=e) (by simp [gB,zQM he]);have hh:=qQE hc hk;have hsec:=hs.secs;have hp:=hs.Ae;rw [if_pos (by omega),aH he,aA ⟨by omega,hx.1,hx.2⟩,wO t e.el (by have:=h.Ae;unfold Cnt;omega),aD,hk];rw [show uR (some k)=(k:Int) from rfl,aH hh,hn,qNM,qMN _ _ (by unfold Cnt;rw [List.length_take];omega),aD];have hkb:rS t r x e=!decide (qCN t e.el∈r.Ad.take n):=by unfold rS;rw [hn];rfl
 rw [hkb];split
 ·rename_i h1;rw [aA (by simp;omega),aA (bW hi (by omega))]
 rename_i h1;rw [aA (bW hi (by omega))]
theorem qGN (l:List Aa) (x:Aa) (h:Cnt l) (ho:∀ s∈l,Aa.ok s) (hx:Aa.ok x):jQ l x=some (decide (x∈l)):=by
 unfold jQ;rw [fI l (λe=>decide (e=x)) (.inr true) (.inl ()) h (λi e he=>?_) (by rw [if_neg (by omega)];rfl)]
 ·have e1 : (l.any fun e => decide (e = x)) = decide (x ∈ l) := by rw [Bool.eq_iff_iff]; simp
  rw [e1];by_cases hm:x∈l
  ·rw [if_pos (by simpa using hm)];simp [hm]
  rw [if_neg (by simpa using hm)];simp [hm]
 have hi:=(zQQ.1 he).1;rw [if_pos (by omega),aH he,aA ⟨ho e (zQM he),hx⟩];by_cases h1:e=x
 ·rw [if_pos h1,if_pos (by simpa using h1)];rfl
 rw [if_neg h1,if_neg (by simpa using h1),aA (bW hi h)]
theorem qTG {l:List Aa} (h:Asc l) (P:Aa->Bool):Asc (l.filter P):=List.Pairwise.filter P h
theorem qTU (t:Al) (s:Az) (h:TOk t) (ho:SOk t) (hc:fK t=0) {i:Nat} {r:Ai} {x:Ak} (hr:t.Ab[i]?=some r) (hx:s.Ab[i]?=some x) (hf:dZ x r.Ad.length=true):nO t s (i:Int)=some (jX t r x):=by
 have hm:=zQM hr;have hs:=h.each r hm;obtain⟨_,_,h3,_⟩:=mX hc;have hrel:=zI hf;have hlen:(gB r).length<=6000000:=by have:=hs.Ae;have:=hs.over;have:=hs.At;simp [gB];omega
 have hlen':=Nat.le_trans (qHF (gB r)) hlen;unfold nO jX;rw [aH hx];by_cases h0:x.state=0
 ·rw [if_pos h0,if_pos h0]
 rw [if_neg h0, if_neg h0, aH hr, aH hx, aA ⟨by omega, hrel.1, hrel.2⟩, qJJ r hs, aD];obtain⟨n,hn⟩:=Int.eq_ofNat_of_zero_le hrel.1;have hok:∀ e∈gB r,Aa.ok e:=ho r hm;rw [qDJ (iJ (gB r)) (λe=>(decide (e∈r.Ae)&&rS t r x e)||decide (e∈r.Aj)||decide (e∈r.At)) (by omega) (λi e b he hb=>?_) (λb=>by dsimp only;rw [if_neg (by omega)];rfl),aD]
 ·congr 1
  refine qVX (qTG (qAX _) _) λe=>?_;simp only [List.mem_filter,ascS_mem,gB,zQN,Bool.or_eq_true,zQA,decide_eq_true_eq]
  grind
 dsimp only;have hi:i < (iJ (gB r)).length:=(zQQ.1 he).1;have hin:e∈gB r:=ascS_mem.1 (zQM he);obtain⟨k,hk,hkl⟩:=tO (h3 r hm).2 hin;have hh:=qQE hc hk;have hsec:=hs.secs;have hkb:rS t r x e=!decide (qCN t e.el∈r.Ad.take n):=by unfold rS;rw [hn];rfl
 have hpo:∀ s∈r.Ae,Aa.ok s:=λs h=>hok s (by simp [gB,h]);have hoo:∀ s∈r.Aj,Aa.ok s:=λs h=>hok s (by simp [gB,h]);have hfo:∀ s∈r.At,Aa.ok s:=λs h=>hok s (by simp [gB,h]);have hp:=hs.Ae;have hov:=hs.over;have hfl:=hs.At;rw [if_pos (by omega),aH he,yP t e.el (by have:=h.Ae;unfold Cnt;omega),aD,hk,show uR (some k)=(k:Int) from rfl,aH he];rw [qGN r.Ae e (by unfold Cnt;omega) hpo (hok e hin),aD]
 have e1:(if decide (e∈r.Ae)=true then aU t.A1 (k:Int) λe23=>aB (gK (sub r.Ad 0 x.rel) e23) λr24=>some !r24 else some false)=some (decide (e∈r.Ae)&&rS t r x e):=by
  rw [aH hh,hn,qNM,qAG _ _ (by unfold Cnt;rw [List.length_take];omega),aD,hkb];by_cases h5:e∈r.Ae<;>simp [h5]
 rw [e1,aD]
 have e2:(if (decide (e∈r.Ae)&&rS t r x e)=true then some true else aU (iJ (gB r)) (i:Int) λe28=>aB (jQ r.Aj e28) λr29=>if r29=true then some true else aU (iJ (gB r)) (i:Int) λe31=>aB (jQ r.At e31) λr32=>some r32)=some ((decide (e∈r.Ae)&&rS t r x e)||decide (e∈r.Aj)||decide (e∈r.At)):=by
  rw [aH he,qGN r.Aj e (by unfold Cnt;omega) hoo (hok e hin),aD,aH he,qGN r.At e (by unfold Cnt;omega) hfo (hok e hin),aD];cases (decide (e∈r.Ae)&&rS t r x e)<;>by_cases h6:e∈r.Aj<;>simp [h6]
 rw [e2,aD];split
 ·rename_i h1;rw [aH he,aA (by simp;omega),aA (bW hi (by omega))]
 rename_i h1;rw [aA (bW hi (by omega))]
theorem qHD (t:Al) (r:Ai) (x:Ak) (hs:Short r):(jX t r x).length<=6000000:=by
 unfold jX;split
 ·simp
 have h1:=qHF (r.Ae.filter (rS t r x)++r.Aj++r.At);have h2:=List.length_filter_le (rS t r x) r.Ae;have:=hs.Ae;have:=hs.over;have:=hs.At;simp only [zQL] at h1;omega
theorem qHC {t:Al} {r:Ai} {x:Ak} {e:Aa} (h:e∈jX t r x):e∈gB r:=by
 unfold jX at h;split at h
 ·cases h
 rw [ascS_mem] at h;simp only [gB,zQN,List.mem_filter] at h ⊢
 grind
def lG (a b:List Int):Bool:=a.any λn=>decide (n∈b)
theorem yN (a b:List Int):lG a b=lG b a:=by
 rw [Bool.eq_iff_iff];simp only [lG,zQU,decide_eq_true_eq];grind
theorem qCH (a b:List Int) (ha:Cnt a) (hb:Cnt b):kR a b=some (lG a b):=by
 unfold kR;rw [fI a (λe=>decide (e∈b)) (.inr true) (.inl ()) ha (λi e he=>?_) (by rw [if_neg (by omega)];rfl)]
 ·unfold lG;cases a.any (λe=>decide (e∈b))<;>rfl
 have hi:=(zQQ.1 he).1;rw [if_pos (by omega),aH he,qAG b e hb,aD];split
 ·rfl
 rw [aA (bW hi ha)]
def eE (a b:Ai):Bool:=decide (0<=a.exit)&&decide (b.entry=a.exit)
theorem qGP (a b:Ai):gQ a b=some (eE a b):=rfl
theorem qAI (t:Al) {i j:Nat} {a b:Ai} (ha:t.Ab[i]?=some a) (hb:t.Ab[j]?=some b):gD t (i:Int) (j:Int)=some (eE a b):=by
 unfold gD eE;rw [aH ha,aH hb,aH ha];by_cases h:0<=a.exit<;>simp [h]
def oW (r:Ai) (x:Ak):List Ap:=(nX r x).map (λn=>⟨n,0⟩)++(nY r x).map (λn=>⟨n,1⟩)
theorem qCD (r:Ai) (x:Ak) (h:Short r):(nX r x).length<=2000000:=by have:=h.secs;unfold nX;split<;>simp<;>omega
theorem qCE (r:Ai) (x:Ak) (h:Short r):(nY r x).length<=2000000:=by have:=h.secs;unfold nY;split<;>simp<;>omega
theorem qXI (r:Ai) (x:Ak) (h:Short r) (hx:dZ x r.Ad.length=true):mB r x=some (oW r x):=by
 have h1:=qCD r x h;have h2:=qCE r x h;unfold mB oW;rw [zAX r x h hx,aD,qPK (nX r x) (λn=>(⟨n,0⟩:Ap)) [] (by omega) (λi e b he hb=>?_) (λb=>by dsimp only;rw [if_neg (by omega)];rfl),aD]
 ·rw [zAY r x h, aD, qPK (nY r x) (fun n => (⟨n, 1⟩ : Ap)) _ (by omega) (fun i e b he hb => ?_) (fun b => by dsimp only; rw [if_neg (by omega)]; rfl), aD]
  ·rfl
  have hi:=(zQQ.1 he).1;dsimp only;rw [if_pos (by omega),aH he,aA (by simp at hb ⊢;omega),aA (bW hi (by omega))]
 have hi:=(zQQ.1 he).1;dsimp only;rw [if_pos (by omega),aH he,aA (by simp at hb ⊢;omega),aA (bW hi (by omega))]
theorem zBM (l:List Ap) (n p:Int) (h:Cnt l) (ho:∀ s∈l,Ap.ok s) (hx:Ap.ok ⟨n,p⟩):pG l n p=some (decide ((⟨n,p⟩:Ap)∈l)):=by
 unfold pG;rw [fI l (λe=>decide (e=⟨n,p⟩)) (.inr true) (.inl ()) h (λi e he=>?_) (by rw [if_neg (by omega)];rfl)]
 ·have e1 : (l.any fun e => decide (e = ⟨n, p⟩)) = decide ((⟨n, p⟩ : Ap) ∈ l) := by rw [Bool.eq_iff_iff]; simp
  rw [e1];by_cases hm:(⟨n,p⟩:Ap)∈l
  ·rw [if_pos (by simpa using hm)];simp [hm]
  rw [if_neg (by simpa using hm)];simp [hm]
 have hi:=(zQQ.1 he).1;rw [if_pos (by omega),aH he,aA ⟨ho e (zQM he),hx⟩];by_cases h1:e=⟨n,p⟩
 ·rw [if_pos h1,if_pos (by simpa using h1)];rfl
 rw [if_neg h1,if_neg (by simpa using h1),aA (bW hi h)]
def wD (a b:Ai) (pa oa pb ob:List Int):Bool:=
 lG pa pb||(lG oa pb&&!eE a b)||(lG pa ob&&!eE b a)||(lG oa ob&&!eE a b&&!eE b a)
theorem qWB {n:Int} (h:I64 n) (p:Int) (hp:p=0\/p=1):Ap.ok ⟨n,p⟩:=by
 refine⟨h,?_⟩;rcases hp with rfl|rfl<;>(simp only;unfold I64;omega)
theorem zBZ (a b:Ai) (pa oa pb ob:List Int) (hpa:pa.length<=2000000/\∀ n∈pa,I64 n) (hoa:oa.length<=2000000/\∀ n∈oa,I64 n) (hpb:pb.length<=2000000/\∀ n∈pb,I64 n) (hob:ob.length<=2000000/\∀ n∈ob,I64 n):
  lI a b (pa.map (λn=>⟨n,0⟩)++oa.map (λn=>⟨n,1⟩)) (pb.map (λn=>⟨n,0⟩)++ob.map (λn=>⟨n,1⟩))=some (wD a b pa oa pb ob):=by
 unfold lI;rw [qGP,aD,qGP,aD];generalize hL:(pa.map (λn=>(⟨n,0⟩:Ap))++oa.map (λn=>(⟨n,1⟩:Ap)))=la;generalize hM:(pb.map (λn=>(⟨n,0⟩:Ap))++ob.map (λn=>(⟨n,1⟩:Ap)))=lb;have hla:la.length<=4000000:=by rw [<- hL];simp;omega
 have hlb:lb.length<=4000000:=by rw [<- hM];simp;omega
 have hao:∀ e∈la,I64 e.a0:=by
  intro e he;rw [<- hL,zQN,List.mem_map,List.mem_map] at he;rcases he with ⟨n,hn,rfl⟩|⟨n,hn,rfl⟩
  ·exact hpa.2 n hn
  exact hoa.2 n hn
 have hbo:∀ e∈lb,Ap.ok e:=by
  intro e he;rw [<- hM,zQN,List.mem_map,List.mem_map] at he;rcases he with ⟨n,hn,rfl⟩|⟨n,hn,rfl⟩
  ·exact qWB (hpb.2 n hn) 0 (.inl rfl)
  exact qWB (hob.2 n hn) 1 (.inr rfl)
 rw [fI la (λe=>(decide ((⟨e.a0,0⟩:Ap)∈lb)&&(decide (e.a1=0)||!eE a b))||(decide ((⟨e.a0,1⟩:Ap)∈lb)&&!eE b a&&(decide (e.a1=0)||!eE a b))) (.inr true) (.inl ()) (by omega) (λi e he=>?_) (by rw [if_neg (by omega)];rfl)]
 ·have e1:(la.any λe=>(decide ((⟨e.a0,0⟩:Ap)∈lb)&&(decide (e.a1=0)||!eE a b))||(decide ((⟨e.a0,1⟩:Ap)∈lb)&&!eE b a&&(decide (e.a1=0)||!eE a b)))=wD a b pa oa pb ob:=by
   rw [<- hL,<- hM,List.any_append,List.any_map,List.any_map,Bool.eq_iff_iff];unfold wD lG;simp only [Bool.or_eq_true,zQA,zQU,Function.comp,zQN,List.mem_map,Ap.mk.injEq,decide_eq_true_eq,Bool.not_eq_true']
   grind
  rw [e1];cases wD a b pa oa pb ob<;>rfl
 have hi:=(zQQ.1 he).1;have hm:=zQM he;rw [if_pos (by omega),aH he,zBM lb e.a0 0 (by unfold Cnt;omega) hbo (qWB (hao e hm) 0 (.inl rfl)),aD,zBM lb e.a0 1 (by unfold Cnt;omega) hbo (qWB (hao e hm) 1 (.inr rfl)),aD];by_cases h1:e.a1=0<;>cases hA:eE a b<;>cases hB:eE b a<;>by_cases h2:(⟨e.a0,0⟩:Ap)∈lb<;>by_cases h3:(⟨e.a0,1⟩:Ap)∈lb<;>simp [h1,h2,h3,bW hi (show la.length<=9223372036854775807 by omega)]
def rAt (t:Al) (i:Nat):Ai:=(t.Ab[i]?).getD default
def xAt (s:Az) (i:Nat):Ak:=(s.Ab[i]?).getD default
theorem rAt_of {t:Al} {i:Nat} (h:i < t.Ab.length):t.Ab[i]?=some (rAt t i):=by unfold rAt;rw [zQR h];rfl
theorem xAt_of {s:Az} {i:Nat} (h:i < s.Ab.length):s.Ab[i]?=some (xAt s i):=by unfold xAt;rw [zQR h];rfl
structure FitsAt (t:Al) (s:Az) (i:Nat):Prop where
 r:t.Ab[i]?=some (rAt t i)
 x:s.Ab[i]?=some (xAt s i)
 mem:rAt t i∈t.Ab
 fits:dZ (xAt s i) (rAt t i).Ad.length=true
theorem qCS {t:Al} {s:Az} (h:tD t s=true) {i:Nat} (hi:i < t.Ab.length):FitsAt t s i:=by
 have h':=fitsB_iff.1 h;have hr:=rAt_of hi;have hx:=xAt_of (s:=s) (i:=i) (by omega);refine⟨hr,hx,zQM hr,?_⟩;have:=h'.2.2.2.1 i (by omega)
 rwa [zD hx hr] at this
def iM (t:Al) (s:Az) (i:Nat):List Int:=nX (rAt t i) (xAt s i)
def iN (t:Al) (s:Az) (i:Nat):List Int:=nY (rAt t i) (xAt s i)
def nG (t:Al) (s:Az) (i:Nat):List Aa:=jX t (rAt t i) (xAt s i)
def mE (t:Al) (s:Az) (a b:Nat):Bool:=wD (rAt t a) (rAt t b) (iM t s a) (iN t s a) (iM t s b) (iN t s b)
def qPN (t:Al) (s:Az) (el:Int):Int:=((fQ t.Ae el).bind (s.lies[·]?)).getD 0
def qR (t:Al) (s:Az) (e:Aa):Bool:=decide (qPN t s e.el=e.pos)
def mK (t:Al) (s:Az):Bool:=
 tD t s&&(fO t.Ab.length λa=>fO a λb=>!mE t s a b)&&fO t.Ab.length λa=>(nG t s a).all (qR t s)
theorem qUT {t:Al} {s:Az} (h:tD t s=true) {el:Int} {k:Nat} (hk:fQ t.Ae el=some k):s.lies[k]?=some (qPN t s el):=by
 have h':=fitsB_iff.1 h;obtain⟨_,_,_,hlt⟩:=qMM hk;have:s.lies[k]?=some s.lies[k]:=by rw [zQR]
 simp [qPN,hk,this]
theorem qFG {t:Al} {r:Ai} (h:lS t r=true) (hl:qEC t=true):∀ n∈r.Ad++r.Ao,0<=n/\n < t.Ad/\n < 24:=by
 intro n hn;unfold lS at h;simp only [zQA] at h;obtain⟨i,hi,rfl⟩:=List.mem_iff_getElem.1 hn;have h1:=allB_iff.1 h.1.1.2 i hi;rw [qKT (s:=(r.Ad++r.Ao)[i]) (by rw [zQR hi]),zQA] at h1;have h2:=of_decide_eq_true hl;have h3:0<=(r.Ad++r.Ao)[i]/\(r.Ad++r.Ao)[i] < t.Ad:=by simpa [inB] using h1.1
 omega
theorem qWU {r:Ai} {x:Ak} {n:Int} (h:n∈nX r x):n∈r.Ad:=by
 unfold nX at h;split at h
 ·cases h
 exact List.mem_of_mem_drop h
theorem qWY {r:Ai} {x:Ak} {n:Int} (h:n∈nY r x):n∈r.Ao:=by
 unfold nY at h;split at h
 ·cases h
 exact h
theorem qOY {t:Al} {r:Ai} (hc:fK t=0) (hr:r∈t.Ab) (h:Short r) (x:Ak):(nX r x).length<=2000000/\∀ n∈nX r x,I64 n:=by
 obtain⟨h1,_,h3,_⟩:=mX hc;refine⟨qCD r x h,λn hn=>?_⟩;have:=qFG (h3 r hr).1 h1 n (List.mem_append_left _ (qWU hn));unfold I64;omega
theorem qPB {t:Al} {r:Ai} (hc:fK t=0) (hr:r∈t.Ab) (h:Short r) (x:Ak):(nY r x).length<=2000000/\∀ n∈nY r x,I64 n:=by
 obtain⟨h1,_,h3,_⟩:=mX hc;refine⟨qCE r x h,λn hn=>?_⟩;have:=qFG (h3 r hr).1 h1 n (List.mem_append_right _ (qWY hn));unfold I64;omega
theorem qYB {t:Al} (h:TOk t) (hc:fK t=0) {a b:Ai} (ha:a∈t.Ab) (hb:b∈t.Ab) (x y:Ak):lI a b (oW a x) (oW b y)=some (wD a b (nX a x) (nY a x) (nX b y) (nY b y)):=
 zBZ a b _ _ _ _ (qOY hc ha (h.each a ha) x) (qPB hc ha (h.each a ha) x) (qOY hc hb (h.each b hb) y) (qPB hc hb (h.each b hb) y)
theorem wK (n:Nat) (P:Nat->Bool):((List.range n).any P)=!fO n λi=>!P i:=by simp [fO,List.not_all_eq_any_not]
theorem qZL (t:Al) (s:Az) (h:TOk t) (ho:SOk t):oA t s=some (mK t s):=by
 unfold oA mK;rw [zEM t s h,aD];by_cases hf:tD t s=true
 ·have hc:=(fitsB_iff.1 hf).1;have hrl:=h.Ab;rw [hf,if_neg (by simp),Bool.true_and];rw [jK (b:=([]:List (List Ap))) (o:=(List.range t.Ab.length).map λi=>oW (rAt t i) (xAt s i)) t.Ab.length (λi=>(List.range i).map λi=>oW (rAt t i) (xAt s i)) rfl (by omega) (λi hi=>?_) (by dsimp only;rw [if_neg (by omega)];rfl),aD]
  ·have hb3:∀ i,i < t.Ab.length->((List.range t.Ab.length).map λi=>oW (rAt t i) (xAt s i))[i]?=some (oW (rAt t i) (xAt s i)):=by
    intro i hi;rw [zQP,List.getElem?_range hi];rfl
   generalize ((List.range t.Ab.length).map λi=>oW (rAt t i) (xAt s i))=b3 at hb3;rw [fD t.Ab.length (λa=>(List.range a).any λb=>mE t s a b) (.inr false) (.inl ()) (by omega) (λa ha=>?_) (by rw [if_neg (by omega)];rfl)]
   ·rw [wK]
    have e1:(fO t.Ab.length λi=>!(List.range i).any λb=>mE t s i b)=fO t.Ab.length λa=>fO a λb=>!mE t s a b:=by
     unfold fO;congr 1;funext a;rw [wK];simp [fO]
    rw [e1];cases hA:(fO t.Ab.length λa=>fO a λb=>!mE t s a b)
    ·rfl
    rw [if_neg (by simp), pI];rw [fD t.Ab.length (λa=>(nG t s a).any λe=>!qR t s e) (.inr false) (.inl ()) (by omega) (λa ha=>?_) (by rw [if_neg (by omega)];rfl)]
    ·rw [wK]
     have e2:(fO t.Ab.length λi=>!(nG t s i).any λe=>!qR t s e)=fO t.Ab.length λa=>(nG t s a).all (qR t s):=by
      unfold fO;congr 1;funext a;rw [jS];simp
     rw [e2];cases (fO t.Ab.length λa=>(nG t s a).all (qR t s))<;>rfl
    have H:=qCS hf ha;have hbl:=qHD t (rAt t a) (xAt s a) (h.each _ H.mem);rw [if_pos (by omega),aH H.r,aH H.x,qXL t _ _ h ho hc H.mem (zI H.fits),aD];rw [fI (jX t (rAt t a) (xAt s a)) (λe=>!qR t s e) (.inr (.inr (.inr false))) (.inl ()) (by omega) (λi e he=>?_) (by rw [if_neg (by omega)];rfl)]
    ·rw [show nG t s a=jX t (rAt t a) (xAt s a) from rfl];cases ((jX t (rAt t a) (xAt s a)).any λe=>!qR t s e)
     ·rw [if_neg (by simp),if_neg (by simp),pI,aA (bW ha (by omega))]
     rfl
    have hi:=(zQQ.1 he).1;obtain⟨k,hk,hkl⟩:=tO ((mX hc).2.2.1 _ H.mem).2 (qHC (zQM he));have hp:=h.Ae;rw [if_pos (by omega),aH he,wO t e.el (by unfold Cnt;omega),aD,hk,show uR (some k)=(k:Int) from rfl,aH (qUT hf hk)];unfold qR;by_cases h1:qPN t s e.el=e.pos
    ·rw [if_pos h1,if_neg (by simpa using h1),aA (bW hi (by omega))]
    rw [if_neg h1,if_pos (by simpa using h1)];rfl
   rw [if_pos (by omega)];rw [fD a (λb=>mE t s a b) (.inr (.inr (.inr false))) (.inl ()) (by omega) (λb hb=>?_) (by rw [if_neg (by omega)];rfl)]
   ·cases ((List.range a).any fun b => mE t s a b)
    ·rw [if_neg (by simp),if_neg (by simp),pI,aA (bW ha (by omega))]
    rfl
   have H:=qCS hf ha;have H':=qCS hf (i:=b) (by omega);rw [if_pos (by omega),aH H.r,aH H'.r,aH (hb3 a ha),aH (hb3 b (by omega)),qYB h hc H.mem H'.mem,aD];rw [show wD (rAt t a) (rAt t b) (nX (rAt t a) (xAt s a)) (nY (rAt t a) (xAt s a)) (nX (rAt t b) (xAt s b)) (nY (rAt t b) (xAt s b))=mE t s a b from rfl];have hg:I64 ((b:Int)+1):=bW hb (by omega);cases mE t s a b
   ·simp only [Bool.false_eq_true,if_false,aA hg]
   rw [if_pos rfl,if_pos rfl];rfl
  dsimp only;have H:=qCS hf hi;rw [if_pos (by omega),aH H.r,aH H.x,qXI _ _ (h.each _ H.mem) H.fits,aD,aA (by simp;omega),aA (bW hi (by omega)),List.range_succ,List.map_append];rfl
 simp only [Bool.not_eq_true] at hf;rw [hf];rfl
def mF (t:Al) (s:Az) (a b:Nat):Bool:=
 !(lG (iM t s a) (iM t s b)||(lG (iN t s a) (iM t s b)&&!eE (rAt t a) (rAt t b)))&&(!lG (iN t s a) (iN t s b)||eE (rAt t a) (rAt t b)||eE (rAt t b) (rAt t a))
theorem wC (t:Al) (s:Az) (a b:Nat):(!mE t s a b)=(mF t s a b&&mF t s b a):=by
 unfold mE wD mF;rw [yN (iM t s b) (iM t s a),yN (iN t s b) (iM t s a),yN (iN t s b) (iN t s a)];cases lG (iM t s a) (iM t s b)<;>cases lG (iN t s a) (iM t s b)<;>cases lG (iM t s a) (iN t s b)<;>cases lG (iN t s a) (iN t s b)<;>cases eE (rAt t a) (rAt t b)<;>cases eE (rAt t b) (rAt t a)<;>rfl
theorem qOZ {t:Al} {s:Az} (h:TOk t) {i:Nat} (H:FitsAt t s i):iX t s (i:Int)=some (iM t s i):=qWV t s h H.r H.x H.fits
theorem qPC {t:Al} {s:Az} (h:TOk t) {i:Nat} (H:FitsAt t s i):iY t s (i:Int)=some (iN t s i):=qWZ t s h H.r H.x
theorem qFU {t:Al} {s:Az} (h:TOk t) {i:Nat} (H:FitsAt t s i):Cnt (iM t s i):=by have:=qCD _ (xAt s i) (h.each _ H.mem);unfold Cnt iM;omega
theorem qFZ {t:Al} {s:Az} (h:TOk t) {i:Nat} (H:FitsAt t s i):Cnt (iN t s i):=by have:=qCE _ (xAt s i) (h.each _ H.mem);unfold Cnt iN;omega
theorem zCH {t:Al} {s:Az} (h:TOk t) {a b:Nat} (H:FitsAt t s a) (H':FitsAt t s b):nP t s (a:Int) (b:Int)=some (mF t s a b):=by
 have c1:=qFU h H;have c2:=qFU h H';have c3:=qFZ h H;have c4:=qFZ h H';unfold nP mF;rw [qOZ h H,qOZ h H',qPC h H,qPC h H',qAI t H.r H'.r,qAI t H'.r H.r];simp only [aD];rw [qCH _ _ c1 c2,qCH _ _ c3 c2,qCH _ _ c3 c4];simp only [aD];cases lG (iM t s a) (iM t s b)<;>cases lG (iN t s a) (iM t s b)<;>cases lG (iN t s a) (iN t s b)<;>cases eE (rAt t a) (rAt t b)<;>cases eE (rAt t b) (rAt t a)<;>rfl
theorem qWG (t:Al) (s:Az):mK t s=(tD t s&&fO t.Ab.length λa=>(nG t s a).all (qR t s)&&fO t.Ab.length λb=>decide (a=b)||mF t s a b):=by
 unfold mK;rw [Bool.eq_iff_iff];simp only [zQA,allB_iff,Bool.or_eq_true,decide_eq_true_eq];constructor
 ·rintro⟨⟨h1,h2⟩,h3⟩;refine⟨h1,λa ha=>⟨h3 a ha,λb hb=>?_⟩⟩;rcases Nat.lt_trichotomy a b with hl|hl|hl
  ·have:=h2 b hb a hl;rw [wC,zQA] at this;exact .inr this.2
  ·exact .inl hl
  have:=h2 a ha b hl;rw [wC,zQA] at this;exact .inr this.1
 rintro⟨h1,h2⟩;refine⟨⟨h1,λa ha b hb=>?_⟩,λa ha=>(h2 a ha).1⟩;rw [wC,zQA];rcases (h2 a ha).2 b (by omega) with h|h
 ·omega
 rcases (h2 b (by omega)).2 a ha with h' | h'
 ·omega
 exact⟨h,h'⟩
theorem qEZ (t:Al) (s:Az) (h:TOk t) (ho:SOk t):lB t s=some (mK t s):=by
 rw [qWG];unfold lB;rw [qXS t s h,aD];by_cases hf:tD t s=true
 ·have hc:=(fitsB_iff.1 hf).1;have hrl:=h.Ab;rw [hf,if_neg (by simp),Bool.true_and];rw [fD t.Ab.length (λa=>!((nG t s a).all (qR t s)&&fO t.Ab.length λb=>decide (a=b)||mF t s a b)) (.inr false) (.inl ()) (by omega) (λa ha=>?_) (by rw [if_neg (by omega)];rfl)]
  ·rw [wK];simp only [Bool.not_not];cases (fO t.Ab.length λa=>(nG t s a).all (qR t s)&&fO t.Ab.length λb=>decide (a=b)||mF t s a b)<;>rfl
  have H:=qCS hf ha;have hbl:=qHD t (rAt t a) (xAt s a) (h.each _ H.mem);rw [if_pos (by omega),qTU t s h ho hc H.r H.x H.fits,aD];rw [fI (jX t (rAt t a) (xAt s a)) (λe=>!qR t s e) (.inr (.inr (.inr (.inr false)))) (.inl ()) (by omega) (λi e he=>?_) (by rw [if_neg (by omega)];rfl)]
  ·rw [show nG t s a=jX t (rAt t a) (xAt s a) from rfl,jS (jX t (rAt t a) (xAt s a)) (qR t s)];cases hA:((jX t (rAt t a) (xAt s a)).all (qR t s))
   ·simp only [Bool.not_false,Bool.false_and,if_true];rfl
   rw [if_neg (by simp), pI, Bool.true_and];rw [fD t.Ab.length (λb=>!(decide (a=b)||mF t s a b)) (.inr (.inr (.inr false))) (.inl ()) (by omega) (λb hb=>?_) (by rw [if_neg (by omega)];rfl)]
   ·rw [wK];simp only [Bool.not_not];have hg:I64 ((a:Int)+1):=bW ha (by omega);cases (fO t.Ab.length λb=>decide (a=b)||mF t s a b)
    ·simp only [Bool.not_false,Bool.false_and,if_true];rfl
    simp only [Bool.not_true,Bool.false_eq_true,if_false,pI,aA hg]
   have H':=qCS hf hb;have hg:I64 ((b:Int)+1):=bW hb (by omega);rw [if_pos (by omega),zCH h H H',aD];by_cases hab:a=b
   ·subst hab;simp [aA hg]
   rw [if_neg (by omega), aD, decide_eq_false hab, Bool.false_or];cases mF t s a b
   ·simp only [Bool.not_false,Bool.false_and,if_true];rfl
   simp only [Bool.not_true,Bool.false_eq_true,if_false,aA hg]
  have hi:=(zQQ.1 he).1;obtain⟨k,hk,hkl⟩:=tO ((mX hc).2.2.1 _ H.mem).2 (qHC (zQM he));have hp:=h.Ae;rw [if_pos (by omega),aH he,yP t e.el (by unfold Cnt;omega),aD,hk,show uR (some k)=(k:Int) from rfl,aH (qUT hf hk),aH he];unfold qR;by_cases h1:qPN t s e.el=e.pos
  ·rw [if_pos h1,if_neg (by simpa using h1),aA (bW hi (by omega))]
  rw [if_neg h1,if_pos (by simpa using h1)];rfl
 simp only [Bool.not_eq_true] at hf;rw [hf];rfl
end Go.Proofs.YtofndjhpbonpbaaGreatDoor
set_option linter.unusedVariables false
set_option linter.unusedSimpArgs false
set_option maxHeartbeats 1000000
set_option maxRecDepth 100000
namespace Go.Proofs.YtofndjhpbonpbaaGreatDoor
open Go Go.TL
def Tot {α:Type} (m:Option α) (Q:α->Prop):Prop:=∃ r,m=some r/\Q r
section
variable {α β σ ρ:Type}
theorem tot_some {a:α} {Q:α->Prop}:Tot (some a) Q↔Q a:=⟨λ⟨_,h,q⟩=>by cases h;exact q,λq=>⟨_,rfl,q⟩⟩
theorem tot_bind {m:Option α} {k:α->Option β} {Q:β->Prop}:Tot (aB m k) Q↔Tot m λa=>Tot (k a) Q:=by
 cases m with
 | none=>exact⟨λ⟨_,h,_⟩=>(by cases h),λ⟨_,h,_⟩=>(by cases h)⟩
 | some a=>exact⟨λh=>⟨a,rfl,h⟩,λ⟨_,h,q⟩=>(by cases h;exact q)⟩
theorem tot_bindS {m:Option (α ⊕ β)} {k:α->Option β} {Q:β->Prop}:Tot (bS m k) Q↔Tot m λo=>match o with|.inl a=>Tot (k a) Q|.inr b=>Q b:=by
 cases m with
 | none=>exact⟨λ⟨_,h,_⟩=>(by cases h),λ⟨_,h,_⟩=>(by cases h)⟩
 | some o=>
  cases o with
  | inl a=>exact⟨λh=>⟨_,rfl,h⟩,λ⟨_,h,q⟩=>(by cases h;exact q)⟩
  | inr b=>exact⟨λ⟨_,h,q⟩=>⟨_,rfl,by cases h;exact q⟩,λ⟨_,h,q⟩=>(by cases h;exact⟨_,rfl,q⟩)⟩
theorem gE {m:Option α} {P Q:α->Prop} (h:Tot m P) (hi:∀ a,P a->Q a):Tot m Q:=by
 obtain⟨r,h1,h2⟩:=h;exact⟨r,h1,hi r h2⟩
theorem aF {m:Option α} {k:α->Option β} {P:α->Prop} {Q:β->Prop} (h:Tot m P) (hi:∀ a,P a->Tot (k a) Q):Tot (aB m k) Q:=tot_bind.2 (gE h hi)
theorem bO {m:Option (α ⊕ β)} {k:α->Option β} {P:α ⊕ β->Prop} {Q:β->Prop} (h:Tot m P) (hi:∀ a,P (.inl a)->Tot (k a) Q) (hr:∀ b,P (.inr b)->Q b):Tot (bS m k) Q:=tot_bindS.2 (gE h λo=>by cases o with|inl a=>exact hi a|inr b=>exact hr b)
theorem cY {l:List α} {i:Int} {k:α->Option β} {Q:β->Prop} (h0:0<=i) (h1:i < (l.length:Int)) (h:∀ e∈l,l[i.toNat]?=some e->Tot (k e) Q):Tot (aU l i k) Q:=by
 have hx:=zQR (l:=l) (show i.toNat < l.length by omega);rw [gA h0 hx];exact h _ (List.getElem_mem _) hx
theorem cC {f:σ->Option (σ ⊕ ρ)} {s:σ} {Q:ρ->Prop} (I:Nat->σ->Prop) (n:Nat) (hn:n<=1000000000000000) (h0:I 0 s) (hs:∀ i s,i < n->I i s->Tot (f s) λo=>match o with|.inl s'=>I (i+1) s'|.inr r=>Q r) (he:∀ s,I n s->Tot (f s) λo=>match o with|.inl _=>False|.inr r=>Q r):Tot (aY f s) Q:=by
 have key:∀ (k i:Nat) s,i+k=n->I i s->∃ r,mI f (k+1) s=some r/\Q r:=by
  intro k
  induction k with
  | zero=>
   intro i s hi hI;obtain⟨o,h1,h2⟩:=he s (by rw [show n=i by omega];exact hI)
   cases o with
   | inl s'=>exact h2.elim
   | inr r=>exact⟨r,by simp [mI,h1],h2⟩
  | succ k ih=>
   intro i s hi hI;obtain⟨o,h1,h2⟩:=hs i s (by omega) hI
   cases o with
   | inl s'=>
    obtain⟨r,h3,h4⟩:=ih (i+1) s' (by omega) h2;exact⟨r,by rw [mI,h1];exact h3,h4⟩
   | inr r=>exact⟨r,by rw [mI,h1],h2⟩
 obtain⟨r,h1,h2⟩:=key n 0 s (by omega) h0;exact⟨r,vP h1 (by unfold lR;omega),h2⟩
theorem cA {f:Int->Option (Int ⊕ ρ)} (l:List α) (hl:l.length<=1000000000000000) {Q:ρ->Prop} (I:Nat->Prop) (h0:I 0) (hs:∀ (i:Nat) (e:α),l[i]?=some e->I i->Tot (f (i:Int)) λo=>(o=.inl ((i:Int)+1)/\I (i+1))\/∃ r,o=.inr r/\Q r) (he:I l.length->Tot (f (l.length:Int)) λo=>∃ r,o=.inr r/\Q r):Tot (aY f 0) Q:=by
 refine cC (λi s=>s=(i:Int)/\I i) l.length hl ⟨rfl,h0⟩ ?_ ?_
 ·rintro i s hi ⟨rfl,hI⟩;refine gE (hs i _ (zQR hi) hI) ?_;rintro o (⟨rfl,h⟩|⟨r,rfl,h⟩)
  ·exact⟨by push_cast;rfl,h⟩
  exact h
 rintro s ⟨rfl,hI⟩;refine gE (he hI) ?_;rintro o ⟨r,rfl,h⟩;exact h
theorem oZ {f:Int->Option (Int ⊕ ρ)} (n:Nat) (hl:n<=1000000000000000) {Q:ρ->Prop} (I:Nat->Prop) (h0:I 0) (hs:∀ (i:Nat),i < n->I i->Tot (f (i:Int)) λo=>(o=.inl ((i:Int)+1)/\I (i+1))\/∃ r,o=.inr r/\Q r) (he:I n->Tot (f (n:Int)) λo=>∃ r,o=.inr r/\Q r):Tot (aY f 0) Q:=by
 refine cC (λi s=>s=(i:Int)/\I i) n hl ⟨rfl,h0⟩ ?_ ?_
 ·rintro i s hi ⟨rfl,hI⟩;refine gE (hs i hi hI) ?_;rintro o (⟨rfl,h⟩|⟨r,rfl,h⟩)
  ·exact⟨by push_cast;rfl,h⟩
  exact h
 rintro s ⟨rfl,hI⟩;refine gE (he hI) ?_;rintro o ⟨r,rfl,h⟩;exact h
theorem bB {i n:Nat} (h:i < n) (hn:n<=1000000000000000):I64 ((i:Int)+1):=by unfold I64;omega
end
theorem zCL (s:BA) (h:s.size<=1000000000000000):Tot (mU s) λ_=>True:=by
 have hsz:s.data.toList.length=s.size:=by rw [Array.length_toList];rfl
 unfold mU;refine bO (P:=λ_=>True) (cA s.data.toList (by omega) (λ_=>True) trivial ?_ ?_) (λ_ _=>tot_some.2 trivial) (λ_ _=>trivial)
 ·intro i e hx _;have hi:=(zQQ.1 hx).1;have hg:=bB (show i < s.size by omega) h;rw [if_pos (by omega)];simp only [aH hx];refine aF (P:=λ_=>True) ?_ λx _=>?_
  ·split<;>exact tot_some.2 trivial
  refine aF (P := fun _ => True) ?_ fun y _ => ?_
  ·split
   ·split<;>exact tot_some.2 trivial
   exact tot_some.2 trivial
  split
  ·exact⟨_,rfl,.inr ⟨_,rfl,trivial⟩⟩
  rw [aA hg];exact⟨_,rfl,.inl ⟨rfl,trivial⟩⟩
 intro _;rw [if_neg (by omega)];exact⟨_,rfl,_,rfl,trivial⟩
def qBH (k:Int):Int:=if k=1 then 2 else if k=2 then 3 else if k=3 then 4 else 0
theorem qHJ (k:Int):jJ k=some (qBH k):=by
 unfold jJ qBH;split
 ·rfl
 split
 ·rfl
 split<;>rfl
theorem qNR (k:Int):0<=qBH k/\qBH k<=4:=by
 unfold qBH;split
 ·omega
 split
 ·omega
 split<;>omega
theorem qTZ (k a b:Int):Tot (dU k a b) λr=>0<=r.1/\r.1<=2:=by
 unfold dU;split
 ·exact tot_some.2 (by dsimp only;omega)
 split
 ·exact tot_some.2 (by dsimp only;omega)
 split<;>exact tot_some.2 (by dsimp only;omega)
def eF (l:Ag) (e:End):Prop:=0<=e.el/\e.el < (l.Af.length:Int)/\0<=e.side/\e.side < 4
theorem qCT {l:Ag} {e:End} (h:eF l e) (hl:l.Af.length<=1000000):End.ok e:=by
 obtain⟨h1,h2,h3,h4⟩:=h;unfold End.ok I64;omega
theorem qHN (l:Ag) (e:End):Tot (hJ l e) λr=>r=true->eF l e:=by
 unfold hJ
 have key : Tot (if (0 : Int) <= e.el then
   if e.el < (l.Af.length : Int) then
    if (0 : Int) <= e.side then
     aU l.Af e.el fun e6 =>
     aB (jJ e6.kind) fun r7 =>
     some (decide (e.side < r7))
    else
     some false
   else
    some false
  else
   some false) fun r => r = true -> eF l e := by
  split
  ·split
   ·split
    ·refine cY (by omega) (by omega) fun x hx _ => ?_;rw [qHJ,aD];refine tot_some.2 λhs=>?_;have:=of_decide_eq_true hs;have:=qNR x.kind;exact⟨by omega,by omega,by omega,by omega⟩
    exact tot_some.2 (by simp)
   exact tot_some.2 (by simp)
  exact tot_some.2 (by simp)
 exact aF key λx hx=>tot_some.2 hx
theorem qNG (l:List BA) (hl:l.length<=1000000000):Tot (jF l) λ_=>True:=by
 unfold jF;refine bO (P:=λ_=>True) (cA l (by omega) (λ_=>True) trivial ?_ ?_) (λ_ _=>tot_some.2 trivial) (λ_ _=>trivial)
 ·intro i e hx _;have hi:=(zQQ.1 hx).1;rw [if_pos (by omega)];refine bO (P:=λo=>match o with|.inl _=>True|.inr b=>∃ r,b=.inr r) (oZ i (by omega) (λ_=>True) trivial ?_ ?_) ?_ ?_
  ·intro k hk _;have hk2:=zQR (l:=l) (show k < l.length by omega);rw [if_pos (by omega),aH hx,aH hk2];split
   ·exact⟨_,rfl,.inr ⟨_,rfl,_,rfl⟩⟩
   rw [aA (bB hk (by omega))];exact⟨_,rfl,.inl ⟨rfl,trivial⟩⟩
  ·intro _;rw [if_neg (by omega)];exact⟨_,rfl,_,rfl,trivial⟩
  ·intro a _;rw [aA (bB hi (by omega))];exact⟨_,rfl,.inl ⟨rfl,trivial⟩⟩
  rintro b ⟨r,rfl⟩;exact .inr ⟨_,rfl,trivial⟩
 intro _;rw [if_neg (by omega)];exact⟨_,rfl,_,rfl,trivial⟩
theorem qYP (l:List Int) (hl:l.length<=1000000000):Tot (kI l) λ_=>True:=by
 unfold kI;refine bO (P:=λ_=>True) (cA l (by omega) (λ_=>True) trivial ?_ ?_) (λ_ _=>tot_some.2 trivial) (λ_ _=>trivial)
 ·intro i e hx _;have hi:=(zQQ.1 hx).1;rw [if_pos (by omega)];refine bO (P:=λo=>match o with|.inl _=>True|.inr b=>∃ r,b=.inr r) (oZ i (by omega) (λ_=>True) trivial ?_ ?_) ?_ ?_
  ·intro k hk _;have hk2:=zQR (l:=l) (show k < l.length by omega);rw [if_pos (by omega),aH hx,aH hk2];split
   ·exact⟨_,rfl,.inr ⟨_,rfl,_,rfl⟩⟩
   rw [aA (bB hk (by omega))];exact⟨_,rfl,.inl ⟨rfl,trivial⟩⟩
  ·intro _;rw [if_neg (by omega)];exact⟨_,rfl,_,rfl,trivial⟩
  ·intro a _;rw [aA (bB hi (by omega))];exact⟨_,rfl,.inl ⟨rfl,trivial⟩⟩
  rintro b ⟨r,rfl⟩;exact .inr ⟨_,rfl,trivial⟩
 intro _;rw [if_neg (by omega)];exact⟨_,rfl,_,rfl,trivial⟩
theorem zCP (l:List End) (hl:l.length<=1000000000) (ho:∀ e∈l,End.ok e):Tot (mS l) λ_=>True:=by
 unfold mS;refine bO (P:=λ_=>True) (cA l (by omega) (λ_=>True) trivial ?_ ?_) (λ_ _=>tot_some.2 trivial) (λ_ _=>trivial)
 ·intro i e hx _;have hi:=(zQQ.1 hx).1;rw [if_pos (by omega)];refine bO (P:=λo=>match o with|.inl _=>True|.inr b=>∃ r,b=.inr r) (oZ i (by omega) (λ_=>True) trivial ?_ ?_) ?_ ?_
  ·intro k hk _;have hk2:=zQR (l:=l) (show k < l.length by omega);rw [if_pos (by omega),aH hx,aH hk2,aA ⟨ho _ (zQM hx),ho _ (zQM hk2)⟩];split
   ·exact⟨_,rfl,.inr ⟨_,rfl,_,rfl⟩⟩
   rw [aA (bB hk (by omega))];exact⟨_,rfl,.inl ⟨rfl,trivial⟩⟩
  ·intro _;rw [if_neg (by omega)];exact⟨_,rfl,_,rfl,trivial⟩
  ·intro a _;rw [aA (bB hi (by omega))];exact⟨_,rfl,.inl ⟨rfl,trivial⟩⟩
  rintro b ⟨r,rfl⟩;exact .inr ⟨_,rfl,trivial⟩
 intro _;rw [if_neg (by omega)];exact⟨_,rfl,_,rfl,trivial⟩
structure LayW (l:Ag):Prop where
 name:l.name.size<=1000000000000000
 Ad:∀ s∈l.Ad,s.size<=1000000000000000
 Af:∀ x∈l.Af,Aw.Wf x
 joints:l.joints.length<=100000000/\∀ j∈l.joints,End.ok j.a/\End.ok j.b
 Ah:∀ s∈l.Ah,A0.Wf s
 balises:∀ s∈l.balises,A4.Wf s
structure LayS (l:Ag):Prop where
 Af:1<=l.Af.length/\l.Af.length<=32
 Ad:1<=l.Ad.length/\l.Ad.length<=24
 Ah:l.Ah.length<=20
 balises:l.balises.length<=24
theorem zGD (l:Ag) (hs:LayS l):Tot (nS l) λr=>r.a0=l.Ad/\r.a1=l.Af.map (·.name)/\r.a2=l.Ah.map (·.name):=by
 have h1:=hs.Af;have h2:=hs.Ad;have h3:=hs.Ah;refine⟨⟨l.Ad,l.Af.map (·.name),l.Ah.map (·.name)⟩,?_,rfl,rfl,rfl⟩;unfold nS;rw [List.nil_append,aA (by omega)];rw [jK l.Af.length (λi=>(l.Af.take i).map (·.name)) (o:=l.Af.map (·.name)) (by simp) (by omega) (λi hi=>?_) (by dsimp only;rw [if_neg (by omega),List.take_length];rfl),aD]
 ·rw [jK l.Ah.length (fun i => (l.Ah.take i).map (·.name)) (o := l.Ah.map (·.name)) (by simp) (by omega) (fun i hi => ?_) (by dsimp only; rw [if_neg (by omega), List.take_length]; rfl), aD];have hx:=zQR hi;dsimp only;rw [if_pos (by omega),aH hx,aA (by simp;omega),aA (bW hi (by omega)),List.take_add_one,hx,List.map_append];rfl
 have hx:=zQR hi;dsimp only;rw [if_pos (by omega),aH hx,aA (by simp;omega),aA (bW hi (by omega)),List.take_add_one,hx,List.map_append];rfl
theorem zGE (l:Ag) (hw:LayW l):Tot (nT l) λr=>r=0->LayS l:=by
 unfold nT;split
 ·exact tot_some.2 (by intro h;cases h)
 rename_i hc
 have hs:LayS l:=by
  simp only [Bool.or_eq_true,decide_eq_true_eq,not_or] at hc;exact⟨by omega,by omega,by omega,by omega⟩
 have h1:=hs.Af;have h2:=hs.Ad;have h3:=hs.Ah;refine aF (zGD l hs) ?_;rintro⟨a0,a1,a2⟩ ⟨q0,q1,q2⟩;dsimp only at q0 q1 q2 ⊢;have l0:a0.length<=24:=by rw [q0];omega
 have l1:a1.length<=32:=by rw [q1,zQC];omega
 have l2:a2.length<=20:=by rw [q2,zQC];omega
 have hsz:∀ s∈(([l.name]++a0)++a1)++a2,s.size<=1000000000000000:=by
  intro s hs;simp only [zQN,List.mem_singleton] at hs;rcases hs with ((rfl|hs)|hs)|hs
  ·exact hw.name
  ·rw [q0] at hs;exact hw.Ad s hs
  ·rw [q1] at hs;obtain⟨x,hx,rfl⟩:=List.mem_map.1 hs;have:=qS (hw.Af x hx).name;exact Nat.le_trans this (by omega)
  rw [q2] at hs;obtain⟨x,hx,rfl⟩:=List.mem_map.1 hs;have:=qS (hw.Ah x hx).name;exact Nat.le_trans this (by omega)
 rw [aA (by simp;omega),aA (by simp;omega),aA (by simp;omega)];refine bO (P:=λo=>match o with|.inl _=>True|.inr b=>b≠0) (cA ((([l.name]++a0)++a1)++a2) (by simp;omega) (λ_=>True) trivial ?_ ?_) ?_ ?_
 ·intro i e hx _;have hi:=(zQQ.1 hx).1;rw [if_pos (by omega),aH hx];refine aF (zCL e (hsz e (zQM hx))) λb _=>?_;split
  ·exact⟨_,rfl,.inr ⟨_,rfl,by decide⟩⟩
  rw [aA (bB hi (by simp;omega))];exact⟨_,rfl,.inl ⟨rfl,trivial⟩⟩
 ·intro _;rw [if_neg (by omega)];exact⟨_,rfl,_,rfl,trivial⟩
 ·intro a _;refine aF (P:=λ_=>True) ?_ λb _=>?_
  ·refine aF (qNG a0 (by omega)) fun b _ => ?_;split
   ·exact tot_some.2 trivial
   refine aF (qNG a1 (by omega)) fun b _ => ?_;split
   ·exact tot_some.2 trivial
   exact aF (qNG a2 (by omega)) λb _=>tot_some.2 trivial
  split
  ·exact tot_some.2 λh=>by cases h
  exact tot_some.2 λ_=>hs
 intro b hb h0;exact absurd h0 hb
theorem zGC (l:Ag) (x:Aw):Tot (nR l x) λr=>r=true->1<=x.kind/\x.kind<=3/\500<=x.length/\x.length<=1000000/\0<=x.As/\x.As < (l.Ad.length:Int):=by
 unfold nR;split
 ·exact tot_some.2 (by simp)
 rename_i hc;simp only [Bool.or_eq_true,decide_eq_true_eq,not_or] at hc;have:1<=x.kind/\x.kind<=3/\500<=x.length/\x.length<=1000000/\0<=x.As/\x.As < (l.Ad.length:Int):=by omega
 split<;>exact tot_some.2 λ_=>this
theorem qYQ (l:Ag) (s:Int) (hl:l.Af.length<=1000):Tot (kK l s) λr=>r.length<=l.Af.length:=by
 unfold kK;refine aF (P:=λr=>r.length<=l.Af.length) (cC (λi s=>s.1=(i:Int)/\s.2.length<=i) l.Af.length (by omega) ⟨rfl,Nat.zero_le _⟩ ?_ ?_) λa h=>tot_some.2 h
 ·rintro i ⟨x,b⟩ hi ⟨h1,h2⟩;dsimp only at h1 h2;subst h1;dsimp only;rw [if_pos (by omega),aH (zQR hi)];split
  ·rw [aA (by simp; omega), aA (bB hi (by omega))];exact tot_some.2 ⟨by push_cast;rfl,by simp;omega⟩
  rw [aA (bB hi (by omega))];exact tot_some.2 ⟨by push_cast;rfl,by show b.length<=i+1;omega⟩
 rintro⟨x,b⟩ ⟨h1,h2⟩;dsimp only at h1 h2;subst h1;dsimp only;rw [if_neg (by omega)];exact tot_some.2 h2
theorem qUB (l:Ag) (hw:LayW l) (hs:LayS l):Tot (jG l) λr=>r=0->(∀ x∈l.Af,1<=x.kind/\x.kind<=3/\500<=x.length/\x.length<=1000000/\0<=x.As/\x.As < (l.Ad.length:Int))/\(∀ j∈l.joints,eF l j.a/\eF l j.b):=by
 have h1:=hs.Af;have h2:=hs.Ad;have h3:=hw.joints;unfold jG;refine bO (P:=λo=>match o with|.inl _=>∀ x∈l.Af,1<=x.kind/\x.kind<=3/\500<=x.length/\x.length<=1000000/\0<=x.As/\x.As < (l.Ad.length:Int)|.inr b=>b≠0) (cA l.Af (by omega) (λi=>∀ k x,k < i->l.Af[k]?=some x->1<=x.kind/\x.kind<=3/\500<=x.length/\x.length<=1000000/\0<=x.As/\x.As < (l.Ad.length:Int)) (λk x hk=>absurd hk (zQV k)) ?_ ?_) ?_ (λb hb h0=>absurd h0 hb)
 ·intro i e hx hI;have hi:=(zQQ.1 hx).1;rw [if_pos (by omega),aH hx];refine aF (zGC l e) λr hr=>?_
  cases r with
  | false=>exact⟨_,rfl,.inr ⟨_,rfl,(by decide:(1:Int)≠0)⟩⟩
  | true=>
   rw [if_neg (by simp),aA (bB hi (by omega))];refine⟨_,rfl,.inl ⟨rfl,λk x hk hkx=>?_⟩⟩;rcases Nat.lt_or_ge k i with h|h
   ·exact hI k x h hkx
   obtain rfl : k = i := by omega
   rw [hx] at hkx;cases hkx;exact hr rfl
 ·intro hI;rw [if_neg (by omega)];refine⟨_,rfl,_,rfl,λx hx=>?_⟩;obtain⟨k,hk⟩:=List.getElem?_of_mem hx;exact hI k x (zQQ.1 hk).1 hk
 intro _ hright;refine bO (P:=λo=>match o with|.inl _=>True|.inr b=>b≠0) (oZ l.Ad.length (by omega) (λ_=>True) trivial ?_ ?_) ?_ (λb hb h0=>absurd h0 hb)
 ·intro i hi _;rw [if_pos (by omega)];refine aF (qYQ l i (by omega)) λr _=>?_;split
  ·exact⟨_,rfl,.inr ⟨_,rfl,(by decide:(1:Int)≠0)⟩⟩
  rw [aA (bB hi (by omega))];exact⟨_,rfl,.inl ⟨rfl,trivial⟩⟩
 ·intro _;rw [if_neg (by omega)];exact⟨_,rfl,_,rfl,trivial⟩
 intro _ _;refine bO (P:=λo=>match o with|.inl b=>(b.length=2 * l.joints.length/\∀ e∈b,End.ok e)/\∀ j∈l.joints,eF l j.a/\eF l j.b|.inr b=>b≠0) (cC (λi s=>s.1=(i:Int)/\s.2.length=2 * i/\(∀ e∈s.2,End.ok e)/\∀ k j,k < i->l.joints[k]?=some j->eF l j.a/\eF l j.b) l.joints.length (by omega) ⟨rfl,rfl,λe he=>(by cases he),λk x hk=>absurd hk (zQV k)⟩ ?_ ?_) ?_ (λb hb h0=>absurd h0 hb)
 ·rintro i ⟨x,b⟩ hi ⟨q1,q2,q3,q4⟩;dsimp only at q1 q2 q3 q4;subst q1;dsimp only;have hx:=zQR hi;have hm:=List.getElem_mem hi;rw [if_pos (by omega),aH hx];refine aF (P:=λr=>r=false->eF l l.joints[i].a/\eF l l.joints[i].b) ?_ λr hr=>?_
  ·refine aF (qHN l _) fun r1 hr1 => ?_
   cases r1 with
   | false=>exact tot_some.2 (by simp)
   | true=>
    rw [if_neg (by simp)];refine aF (qHN l _) λr2 hr2=>?_
    cases r2 with
    | false=>exact tot_some.2 (by simp)
    | true=>
     rw [if_neg (by simp),aA (h3.2 _ hm)];exact tot_some.2 λ_=>⟨hr1 rfl,hr2 rfl⟩
  cases r with
  | true=>exact⟨_,rfl,(by decide:(1:Int)≠0)⟩
  | false=>
   rw [if_neg (by simp),aA (by simp;omega),aA (bB hi (by omega))];refine tot_some.2 ⟨by push_cast;rfl,by simp;omega,?_,?_⟩
   ·intro e he;rcases zQN.1 he with he|he
    ·exact q3 e he
    simp only [zQB,List.not_mem_nil,or_false] at he;rcases he with rfl|rfl
    ·exact (h3.2 _ hm).1
    exact (h3.2 _ hm).2
   intro k j hk hkx;rcases Nat.lt_or_ge k i with h|h
   ·exact q4 k j h hkx
   obtain rfl : k = i := by omega
   rw [hx] at hkx;cases hkx;exact hr rfl
 ·rintro⟨x,b⟩ ⟨q1,q2,q3,q4⟩;dsimp only at q1 q2 q3 q4;subst q1;dsimp only;rw [if_neg (by omega)];refine⟨_,rfl,⟨q2,q3⟩,λx hx=>?_⟩;obtain⟨k,hk⟩:=List.getElem?_of_mem hx;exact q4 k x (zQQ.1 hk).1 hk
 rintro b ⟨⟨q2,q3⟩,q4⟩;refine aF (zCP b (by omega) q3) λr _=>?_;split
 ·exact tot_some.2 λh=>by cases h
 exact tot_some.2 λ_=>⟨hright,q4⟩
theorem zCM (l:Ag) (e:End) (hw:LayW l) (he:End.ok e):Tot (eA l e) λr=>(r.2=true->∃ j∈l.joints,r.1=j.a\/r.1=j.b)/\End.ok r.1:=by
 have h3:=hw.joints;unfold eA;refine bO (P:=λo=>match o with|.inl _=>True|.inr r=>(r.2=true->∃ j∈l.joints,r.1=j.a\/r.1=j.b)/\End.ok r.1) (cA l.joints (by omega) (λ_=>True) trivial ?_ ?_) ?_ (λb hb=>hb)
 ·intro i j hx _;have hi:=(zQQ.1 hx).1;have hm:=zQM hx;have ho:=h3.2 j hm;rw [if_pos (by omega),aH hx,aA ⟨ho.1,he⟩];split
  ·exact⟨_,rfl,.inr ⟨_,rfl,λ_=>⟨j,hm,.inr rfl⟩,ho.2⟩⟩
  rw [aA ⟨ho.2,he⟩];split
  ·exact⟨_,rfl,.inr ⟨_,rfl,λ_=>⟨j,hm,.inl rfl⟩,ho.1⟩⟩
  rw [aA (bB hi (by omega))];exact⟨_,rfl,.inl ⟨rfl,trivial⟩⟩
 ·intro _;rw [if_neg (by omega)];exact⟨_,rfl,_,rfl,trivial⟩
 intro _ _;exact tot_some.2 ⟨λh=>(by cases h),by show I64 0/\I64 0;unfold I64;omega⟩
structure LayK (l:Ag):Prop where
 w:LayW l
 s:LayS l
 right:∀ x∈l.Af,1<=x.kind/\x.kind<=3/\500<=x.length/\x.length<=1000000/\0<=x.As/\x.As < (l.Ad.length:Int)
 joints:∀ j∈l.joints,eF l j.a/\eF l j.b
theorem tJ (l:Ag) (e:End) (hk:LayK l) (he:End.ok e):Tot (eA l e) λr=>(r.2=true->eF l r.1)/\End.ok r.1:=
 gE (zCM l e hk.w he) fun r ⟨h1, h2⟩ => ⟨fun h => by
  obtain ⟨j, hj, hr | hr⟩ := h1 h
  ·rw [hr]; exact (hk.joints j hj).1
  rw [hr]; exact (hk.joints j hj).2, h2⟩
theorem qYM (l:Ag) (hk:LayK l):Tot (kH l) λr=>r=0->∀ s∈l.Ah,eF l s.atV/\0<=s.overlap/\s.overlap<=1000000:=by
 have h1:=hk.s.Af;have h2:=hk.s.Ah;unfold kH;refine bO (P:=λo=>match o with|.inl b=>b.length=l.Ah.length/\(∀ e∈b,eF l e)/\∀ s∈l.Ah,eF l s.atV/\0<=s.overlap/\s.overlap<=1000000|.inr b=>b≠0) (cC (λi s=>s.1=(i:Int)/\s.2.length=i/\(∀ e∈s.2,eF l e)/\∀ k j,k < i->l.Ah[k]?=some j->eF l j.atV/\0<=j.overlap/\j.overlap<=1000000) l.Ah.length (by omega) ⟨rfl,rfl,λe he=>(by cases he),λk x hk=>absurd hk (zQV k)⟩ ?_ ?_) ?_ (λb hb h0=>absurd h0 hb)
 ·rintro i ⟨x,b⟩ hi ⟨q1,q2,q3,q4⟩;dsimp only at q1 q2 q3 q4;subst q1;dsimp only;have hx:=zQR hi;rw [if_pos (by omega),aH hx];refine aF (P:=λr=>r=false->eF l l.Ah[i].atV/\0<=l.Ah[i].overlap/\l.Ah[i].overlap<=1000000) ?_ λr hr=>?_
  ·refine aF (qHN l _) fun r1 hr1 => ?_
   cases r1 with
   | false=>exact tot_some.2 (by simp)
   | true=>
    rw [if_neg (by simp)];split
    ·exact tot_some.2 (by simp)
    exact tot_some.2 λh=>⟨hr1 rfl,by omega,by have:=of_decide_eq_false h;omega⟩
  cases r with
  | true=>exact⟨_,rfl,(by decide:(1:Int)≠0)⟩
  | false=>
   rw [if_neg (by simp),aA (by simp;omega),aA (bB hi (by omega))];refine tot_some.2 ⟨by push_cast;rfl,by simp;omega,?_,?_⟩
   ·intro e he;rcases zQN.1 he with he|he
    ·exact q3 e he
    rw [List.mem_singleton] at he;subst he;exact (hr rfl).1
   intro k j hk hkx;rcases Nat.lt_or_ge k i with h|h
   ·exact q4 k j h hkx
   obtain rfl : k = i := by omega
   rw [hx] at hkx;cases hkx;exact hr rfl
 ·rintro⟨x,b⟩ ⟨q1,q2,q3,q4⟩;dsimp only at q1 q2 q3 q4;subst q1;dsimp only;rw [if_neg (by omega)];refine⟨_,rfl,q2,q3,λx hx=>?_⟩;obtain⟨k,hk⟩:=List.getElem?_of_mem hx;exact q4 k x (zQQ.1 hk).1 hk
 rintro b ⟨q2,q3,q4⟩;have hok:∀ e∈b,End.ok e:=λe he=>qCT (q3 e he) (by omega);refine aF (zCP b (by omega) hok) λr _=>?_;split
 ·exact tot_some.2 λh=>by cases h
 refine bO (P := fun o => match o with | .inl _ => True | .inr b => b ≠ 0) (cA b (by omega) (fun _ => True) trivial ?_ ?_) ?_ (fun b hb h0 => absurd h0 hb)
 ·intro i e hx _;have hi:=(zQQ.1 hx).1;have hm:=zQM hx;rw [if_pos (by omega),aH hx];refine aF (tJ l e hk (hok e hm)) ?_;rintro⟨f,y⟩ ⟨hf,_⟩;dsimp only at hf ⊢;refine aF (P:=λ_=>True) ?_ λr _=>?_
  ·cases y with
   | false=>exact tot_some.2 trivial
   | true=>
    have hf:=hf rfl;have he:=q3 e hm;rw [if_neg (by simp)];exact cY hf.1 hf.2.1 λ_ _ _=>cY he.1 he.2.1 λ_ _ _=>tot_some.2 trivial
  split
  ·exact⟨_,rfl,.inr ⟨_,rfl,(by decide:(14:Int)≠0)⟩⟩
  rw [aA (bB hi (by omega))];exact⟨_,rfl,.inl ⟨rfl,trivial⟩⟩
 ·intro _;rw [if_neg (by omega)];exact⟨_,rfl,_,rfl,trivial⟩
 intro _ _;exact tot_some.2 λ_=>q4
theorem qYT (l:Ag) (hk:LayK l):Tot (kJ l) λ_=>True:=by
 have h1:=hk.s.balises;unfold kJ;refine bO (P:=λo=>match o with|.inl b=>b.length=l.balises.length|.inr b=>True) (cC (λi s=>s.1=(i:Int)/\s.2.length=i) l.balises.length (by omega) ⟨rfl,rfl⟩ ?_ ?_) ?_ (λb hb=>trivial)
 ·rintro i ⟨x,b⟩ hi ⟨q1,q2⟩;dsimp only at q1 q2;subst q1;dsimp only;have hx:=zQR hi;rw [if_pos (by omega),aH hx];refine aF (P:=λ_=>True) ?_ λr _=>?_
  ·split
   ·exact tot_some.2 trivial
   split
   ·exact tot_some.2 trivial
   split
   ·exact tot_some.2 trivial
   split
   ·exact tot_some.2 trivial
   split
   ·exact tot_some.2 trivial
   exact cY (by omega) (by omega) λ_ _ _=>tot_some.2 trivial
  split
  ·exact⟨_,rfl,trivial⟩
  rw [aA (by simp; omega), aA (bB hi (by omega))];exact tot_some.2 ⟨by push_cast;rfl,by simp;omega⟩
 ·rintro⟨x,b⟩ ⟨q1,q2⟩;dsimp only at q1 q2;subst q1;dsimp only;rw [if_neg (by omega)];exact⟨_,rfl,q2⟩
 intro b hb;have hb:b.length=l.balises.length:=hb;refine aF (qYP b (by omega)) λr _=>?_;split<;>exact tot_some.2 trivial
structure LayC (l:Ag):Prop where
 k:LayK l
 sigs:∀ s∈l.Ah,eF l s.atV/\0<=s.overlap/\s.overlap<=1000000
theorem qKK (l:Ag) (hw:LayW l):Tot (jI l) λr=>r=0->LayC l:=by
 unfold jI;refine aF (zGE l hw) λr1 h1=>?_;split
 ·rename_i e1;have hs:=h1 e1;refine aF (qUB l hw hs) λr2 h2=>?_;split
  ·rename_i e2;have hk:LayK l:=⟨hw,hs,(h2 e2).1,(h2 e2).2⟩;refine aF (qYM l hk) λr3 h3=>?_;split
   ·rename_i e3;exact aF (qYT l hk) λr4 _=>tot_some.2 λ_=>⟨hk,h3 e3⟩
   rename_i e3;exact tot_some.2 λh=>absurd h e3
  rename_i e2;exact tot_some.2 λh=>absurd h e2
 rename_i e1;exact tot_some.2 λh=>absurd h e1
theorem zBF:∀ k:Fin 3,∀ a:Fin 4,((mT ((k.val:Int)+1) (a.val:Int)).any λr=>decide (r.length<=2)&&r.all λx=>decide (0<=x/\x < 4))=true:=by decide+kernel
theorem zCK {k a b:Int} (h:a < 0\/4<=a) (hb:0<=b/\b < 4):dU k a b=some (0,false):=by
 have h1:¬ (min a b=0/\max a b=1):=by omega
 have h2:¬ (min a b=2/\max a b=3):=by omega
 have h3:¬ (min a b=0/\max a b=2):=by omega
 unfold dU
 have e1:(bif decide (min a b=0) then (decide (max a b=1)||(decide (k=3)&&(decide (min a b=2)&&decide (max a b=3)))) else (decide (k=3)&&(decide (min a b=2)&&decide (max a b=3))))=false:=by
  by_cases q1:min a b=0
  ·have q2 : ¬ max a b = 1 := fun h => h1 ⟨q1, h⟩;have q3:¬ min a b=2:=by omega
   simp [q1,q2]
  by_cases q3:min a b=2
  ·have q4 : ¬ max a b = 3 := fun h => h2 ⟨q3, h⟩;simp [q3,q4]
  simp [q1,q3]
 rw [e1];split
 ·rfl
 rw [if_neg (by simp only [zQA,decide_eq_true_eq];omega),if_neg (by simp only [zQA,decide_eq_true_eq];omega)]
theorem Legs_t {k:Int} (a:Int) (hk:1<=k/\k<=3):Tot (mT k a) λr=>r.length<=2/\∀ x∈r,0<=x/\x < 4:=by
 by_cases ha:a < 0\/4<=a
 ·refine ⟨[], ?_, by simp, by simp⟩;unfold mT;rw [jK 4 (λ_=>[]) (o:=[]) rfl (by omega) (λi hi=>?_) (by dsimp only;rw [if_neg (by omega)];rfl)]
  ·rfl
  dsimp only;rw [if_pos (by omega),zCK ha (by omega),aD];dsimp only;rw [if_neg Bool.false_ne_true,aA (bB (n:=4) hi (by omega))]
 have h := zBF ⟨(k - 1).toNat, by omega⟩ ⟨a.toNat, by omega⟩;dsimp only at h;rw [show (((k - 1).toNat:Int)+1)=k by omega,show ((a.toNat:Int))=a by omega,Option.any_eq_true] at h;obtain⟨r,h1,h2⟩:=h;simp only [zQA,decide_eq_true_eq,zQT] at h2;exact⟨r,h1,h2⟩
def jO (l:Ag) (s:An):Prop:=0<=s.el/\s.el < (l.Af.length:Int)/\0<=s.out/\s.out < 4/\I64 s.inV
theorem zC {l:Ag} {s:An} (hk:LayK l) (h:jO l s):End.ok ⟨s.el,s.out⟩:=by
 have:=hk.s.Af;obtain⟨h1,h2,h3,h4,_⟩:=h;show I64 s.el/\I64 s.out;unfold I64;omega
theorem qAN (l:Ag) (i:Int):fX l i=some (decide (0<=i/\i < (l.Af.length:Int))):=by
 unfold fX;rw [<- Bool.decide_and]
theorem qHQ {l:Ag} (hk:LayK l) (e:End) (he:End.ok e):Tot (gI l e) λr=>r.length<=2/\∀ s∈r,jO l s:=by
 have hl:=hk.s.Af;unfold gI;rw [qAN,aD];by_cases hx:0<=e.el/\e.el < (l.Af.length:Int)
 ·rw [decide_eq_true hx, if_neg (by simp)];refine cY hx.1 hx.2 λx hxm _=>?_;have hr:=hk.right x hxm;refine aF (Legs_t e.side ⟨hr.1,hr.2.1⟩) ?_;rintro r ⟨h1,h2⟩;refine aF (P:=λr=>r.length<=2/\∀ s∈r,jO l s) (cC (λi s=>s.1=(i:Int)/\s.2.length<=i/\∀ x∈s.2,jO l x) r.length (by omega) ⟨rfl,Nat.zero_le _,λx h=>(by cases h)⟩ ?_ ?_) λa h=>tot_some.2 h
  ·rintro i ⟨y,b⟩ hi ⟨q1,q2,q3⟩;dsimp only at q1 q2 q3;subst q1;dsimp only;have hy:=zQR hi;have hm:=h2 _ (List.getElem_mem hi);rw [if_pos (by omega),aH hy,aA (by simp;omega),aA (bB hi (by omega))];refine tot_some.2 ⟨by push_cast;rfl,by simp;omega,?_⟩;intro s hs;rcases zQN.1 hs with hs|hs
   ·exact q3 s hs
   rw [List.mem_singleton] at hs;subst hs;exact⟨hx.1,hx.2,hm.1,hm.2,he.2⟩
  rintro⟨y,b⟩ ⟨q1,q2,q3⟩;dsimp only at q1 q2 q3;subst q1;dsimp only;rw [if_neg (by omega)];exact⟨_,rfl,by omega,q3⟩
 rw [decide_eq_false hx, if_pos (by rfl)];exact tot_some.2 ⟨by simp,by simp⟩
theorem qGA (l:Ag) (s:An):Tot (kV l s) λr=>0<=r.1/\r.1<=2/\(r.2=true->0<=s.el/\s.el < (l.Af.length:Int)):=by
 unfold kV;rw [qAN,aD];by_cases hx:0<=s.el/\s.el < (l.Af.length:Int)
 ·rw [decide_eq_true hx, if_neg (by simp)];refine cY hx.1 hx.2 λx _ _=>?_;refine aF (qTZ _ _ _) ?_;rintro⟨a,b⟩ ⟨h1,h2⟩;exact tot_some.2 ⟨h1,h2,λ_=>hx⟩
 rw [decide_eq_false hx, if_pos (by rfl)];exact tot_some.2 ⟨by decide,by decide,λh=>by cases h⟩
theorem qNH {l:Ag} (hk:LayK l) {s:An} (h:jO l s):Tot (fH l s) λr=>(r.2=true->eF l r.1)/\End.ok r.1:=by
 unfold fH;refine aF (tJ l _ hk (zC hk h)) ?_;rintro⟨a,b⟩ h;exact tot_some.2 h
theorem zFZ {l:Ag} (hk:LayK l) {w:List An} (h:∀ s∈w,jO l s):Tot (gT l w) λ_=>True:=by
 unfold gT;split
 ·exact tot_some.2 trivial
 rename_i hc;simp only [Bool.or_eq_true,decide_eq_true_eq,not_or] at hc;refine bO (P:=λ_=>True) (cA w (by omega) (λ_=>True) trivial ?_ ?_) (λ_ _=>tot_some.2 trivial) (λ_ _=>trivial)
 ·intro i e hx _;have hi:=(zQQ.1 hx).1;rw [if_pos (by omega)];refine bO (P:=λo=>match o with|.inl _=>True|.inr b=>∃ r,b=.inr r) ?_ ?_ ?_
  ·rw [aH hx];refine aF (qGA l e) ?_;rintro⟨a,b⟩ _;dsimp only;split
   ·exact⟨_,rfl,_,rfl⟩
   refine bO (P := fun o => match o with | .inl _ => True | .inr b => match b with | .inl _ => False | .inr c => ∃ r, c = .inr r) ?_ ?_ ?_
   ·split
    ·rename_i hz;have hy:=zQR (l:=w) (show i - 1 < w.length by omega);rw [aA (by unfold I64;omega),show (i:Int) - 1=((i - 1:Nat):Int) by omega,aH hy];refine aF (qNH hk (h _ (List.getElem_mem _))) ?_;rintro⟨f,j⟩ _;dsimp only;refine aF (P:=λ_=>True) ?_ λr _=>?_
     ·split
      ·exact tot_some.2 trivial
      rw [aH hx];split
      ·rw [aH hx];exact tot_some.2 trivial
      exact tot_some.2 trivial
     split
     ·exact⟨_,rfl,_,rfl⟩
     exact⟨_,rfl,trivial⟩
    exact⟨_,rfl,trivial⟩
   ·intro _ _;refine oZ i (by omega) (λ_=>True) trivial ?_ ?_
    ·intro k hk2 _;have hy:=zQR (l:=w) (show k < w.length by omega);rw [if_pos (by omega),aH hy,aH hx];split
     ·exact⟨_,rfl,.inr ⟨_,rfl,_,rfl⟩⟩
     rw [aA (bB hk2 (by omega))];exact⟨_,rfl,.inl ⟨rfl,trivial⟩⟩
    intro _;rw [if_neg (by omega)];exact⟨_,rfl,_,rfl,trivial⟩
   intro b hb
   cases b with
   | inl _=>exact hb.elim
   | inr c=>exact hb
  ·intro a _;rw [aA (bB hi (by omega))];exact⟨_,rfl,.inl ⟨rfl,trivial⟩⟩
  rintro b ⟨r,rfl⟩;exact .inr ⟨_,rfl,trivial⟩
 intro _;rw [if_neg (by omega)];exact⟨_,rfl,_,rfl,trivial⟩
theorem qYO {l:Ag} (i:Int):Tot (dB l i) λr=>(0<=i/\i < (l.Af.length:Int)/\∃ x∈l.Af,r=x.As)\/r=-1:=by
 unfold dB;split
 ·exact tot_some.2 (.inr rfl)
 rename_i hc;simp only [Bool.or_eq_true,decide_eq_true_eq,not_or] at hc;exact cY (by omega) (by omega) λx hx _=>tot_some.2 (.inl ⟨by omega,by omega,x,hx,rfl⟩)
theorem qZ {l:Ag} (i:Int):Tot (dB l i) λ_=>True:=gE (qYO i) λ_ _=>trivial
theorem zEJ (l:List Int) (n:Int) (hl:l.length<=1000000000):Tot (sU l n) λ_=>True:=by
 unfold sU;refine bO (P:=λ_=>True) (cA l (by omega) (λ_=>True) trivial ?_ ?_) (λ_ _=>tot_some.2 trivial) (λ_ _=>trivial)
 ·intro i e hx _;have hi:=(zQQ.1 hx).1;rw [if_pos (by omega),aH hx];split
  ·exact⟨_,rfl,.inr ⟨_,rfl,trivial⟩⟩
  rw [aA (bB hi (by omega))];exact⟨_,rfl,.inl ⟨rfl,trivial⟩⟩
 intro _;rw [if_neg (by omega)];exact⟨_,rfl,_,rfl,trivial⟩
theorem yW {l:Ag} {w:List An} (hw:w.length<=100000000):Tot (fG l w) λr=>r.length<=w.length:=by
 unfold fG;refine aF (P:=λr=>r.length<=w.length) (cC (λi s=>s.1=(i:Int)/\s.2.length<=i) w.length (by omega) ⟨rfl,Nat.zero_le _⟩ ?_ ?_) λa h=>tot_some.2 h
 ·rintro i ⟨y,b⟩ hi ⟨q1,q2⟩;dsimp only at q1 q2;subst q1;dsimp only;have hx:=zQR hi;rw [if_pos (by omega)];refine aF (P:=λr=>r=true->0<=w[i].el/\w[i].el < (l.Af.length:Int)) ?_ λr hr=>?_
  ·rw [aH hx,qAN,aD];by_cases hc:0<=w[i].el/\w[i].el < (l.Af.length:Int)
   ·rw [decide_eq_true hc,if_pos rfl,aH hx];refine cY hc.1 hc.2 λx _ _=>?_;exact aF (zEJ _ _ (by omega)) λ_ _=>tot_some.2 λ_=>hc
   rw [decide_eq_false hc,if_neg Bool.false_ne_true];exact tot_some.2 (by simp)
  cases r with
  | false=>
   rw [if_neg Bool.false_ne_true,aA (bB hi (by omega))];exact tot_some.2 ⟨by push_cast;rfl,by show b.length<=i+1;omega⟩
  | true=>
   have hr:=hr rfl;rw [if_pos rfl,aH hx];refine cY hr.1 hr.2 λx _ _=>?_;rw [aA (by simp;omega),aA (bB hi (by omega))];exact tot_some.2 ⟨by push_cast;rfl,by simp;omega⟩
 rintro⟨y,b⟩ ⟨q1,q2⟩;dsimp only at q1 q2;subst q1;dsimp only;rw [if_neg (by omega)];exact⟨_,rfl,q2⟩
theorem qHL {l:Ag} (hk:LayK l) {w:List An} (hw:w.length<=1000000):Tot (gZ l w) λr=>0<=r/\r<=1000000 * (w.length:Int):=by
 unfold gZ;refine aF (P:=λr=>0<=r/\r<=1000000 * (w.length:Int)) (cC (λi s=>s.2=(i:Int)/\0<=s.1/\s.1<=1000000 * (i:Int)) w.length (by omega) ⟨rfl,Int.le_refl _,Int.le_refl _⟩ ?_ ?_) λa h=>tot_some.2 h
 ·rintro i ⟨a,y⟩ hi ⟨q1,q2,q3⟩;dsimp only at q1 q2 q3;subst q1;dsimp only;have hx:=zQR hi;rw [if_pos (by omega),aH hx,qAN,aD];by_cases hc:0<=w[i].el/\w[i].el < (l.Af.length:Int)
  ·rw [decide_eq_true hc,if_pos rfl,aH hx];refine cY hc.1 hc.2 λx hxm _=>?_;have hr:=hk.right x hxm;rw [aA (by unfold I64;omega),aA (bB hi (by omega))];refine tot_some.2 ⟨by push_cast;rfl,by show 0<=a+x.length;omega,by show a+x.length<=_;push_cast;omega⟩
  rw [decide_eq_false hc, if_neg Bool.false_ne_true, aA (bB hi (by omega))];exact tot_some.2 ⟨by push_cast;rfl,q2,by show a<=_;push_cast;omega⟩
 rintro⟨a,y⟩ ⟨q1,q2,q3⟩;dsimp only at q1 q2 q3;subst q1;dsimp only;rw [if_neg (by omega)];exact⟨_,rfl,q2,q3⟩
theorem qTB {l:List Aa} {s:Aa} (hl:l.length<=1000000) (ho:∀ x∈l,Aa.ok x) (hs:Aa.ok s):Tot (lX l s) λr=>r.length<=l.length+1/\∀ x∈r,Aa.ok x:=by
 unfold lX;refine aF (P:=λo=>0<=o.1/\o.1<=(l.length:Int)/\(o.2.length:Int)=o.1/\∀ x∈o.2,Aa.ok x) (cC (λi s=>s.1=(i:Int)/\s.2.length=i/\∀ x∈s.2,Aa.ok x) l.length (by omega) ⟨rfl,rfl,λx h=>(by cases h)⟩ ?_ ?_) ?_
 ·rintro i ⟨y,b⟩ hi ⟨q1,q2,q3⟩;dsimp only at q1 q2 q3;subst q1;dsimp only;have hx:=zQR hi;rw [if_pos (by omega)];refine aF (P:=λ_=>True) ?_ λr _=>?_
  ·rw [aH hx];split
   ·exact tot_some.2 trivial
   rw [aH hx];split
   ·rw [aH hx];exact tot_some.2 trivial
   exact tot_some.2 trivial
  split
  ·rw [aH hx, aA (by simp; omega), aA (bB hi (by omega))];refine tot_some.2 ⟨by push_cast;rfl,by simp;omega,?_⟩;intro x hxm;rcases zQN.1 hxm with hxm|hxm
   ·exact q3 x hxm
   rw [List.mem_singleton] at hxm;subst hxm;exact ho _ (List.getElem_mem hi)
  exact⟨_,rfl,by dsimp only;omega,by dsimp only;omega,by dsimp only;omega,q3⟩
 ·rintro⟨y,b⟩ ⟨q1,q2,q3⟩;dsimp only at q1 q2 q3;subst q1;dsimp only;rw [if_neg (by omega),aD,if_neg Bool.false_ne_true];exact⟨_,rfl,by dsimp only;omega,by dsimp only;omega,by dsimp only;omega,q3⟩
 rintro⟨i,b⟩ ⟨q1,q2,q3,q4⟩;dsimp only at q1 q2 q3 q4 ⊢;refine aF (P:=λr=>r.length<=b.length+1/\∀ x∈r,Aa.ok x) ?_ ?_
 ·refine aF (P := fun _ => True) ?_ fun r _ => ?_
  ·split
   ·exact tot_some.2 trivial
   refine cY q1 (by omega) fun x hx _ => ?_;rw [aA ⟨ho x hx,hs⟩];exact tot_some.2 trivial
  split
  ·rw [aA (by simp; omega)];refine tot_some.2 ⟨by simp,?_⟩;intro x hxm;rcases zQN.1 hxm with hxm|hxm
   ·exact q4 x hxm
   rw [List.mem_singleton] at hxm;subst hxm;exact hs
  exact tot_some.2 ⟨by omega,q4⟩
 rintro c ⟨c1,c2⟩
 have hsub:(sub l i (l.length:Int))=l.drop i.toNat:=by
  have:=lM l i.toNat;rw [show ((i.toNat:Nat):Int)=i by omega] at this;exact this
 have hlen:(sub l i (l.length:Int)).length=l.length - i.toNat:=by rw [hsub,List.length_drop]
 rw [aA ⟨q1,q2,Int.le_refl _⟩,aA (by rw [zQL,hlen];omega)];refine tot_some.2 ⟨by rw [zQL,hlen];omega,?_⟩;intro x hxm;rcases zQN.1 hxm with hxm|hxm
 ·exact c2 x hxm
 rw [hsub] at hxm;exact ho x (List.mem_of_mem_drop hxm)
theorem qAZ {l:Ag} (hk:LayK l) {w:List An} (hw:w.length<=1000):Tot (gH l w) λr=>r.length<=w.length/\∀ x∈r,Aa.ok x:=by
 have hl:=hk.s.Af;unfold gH;refine aF (P:=λr=>r.length<=w.length/\∀ x∈r,Aa.ok x) (cC (λi s=>s.2=(i:Int)/\s.1.length<=i/\∀ x∈s.1,Aa.ok x) w.length (by omega) ⟨rfl,Nat.zero_le _,λx h=>(by cases h)⟩ ?_ ?_) λa h=>tot_some.2 h
 ·rintro i ⟨b,y⟩ hi ⟨q1,q2,q3⟩;dsimp only at q1 q2 q3;subst q1;dsimp only;have hx:=zQR hi;rw [if_pos (by omega),aH hx];refine aF (qGA l _) ?_;rintro⟨p,ok⟩ ⟨p1,p2,p3⟩;dsimp only at p1 p2 p3 ⊢;split
  ·rename_i hc;simp only [zQA] at hc;have hr:=p3 hc.1;rw [aH hx];refine aF (qTB (s:=⟨w[i].el,p⟩) (by omega) q3 (by show I64 _/\I64 _;unfold I64;dsimp only;omega)) ?_;rintro r ⟨r1,r2⟩;rw [aA (bB hi (by omega))];exact tot_some.2 ⟨by push_cast;rfl,by show r.length<=i+1;omega,r2⟩
  rw [aA (bB hi (by omega))];exact tot_some.2 ⟨by push_cast;rfl,by show b.length<=i+1;omega,q3⟩
 rintro⟨b,y⟩ ⟨q1,q2,q3⟩;dsimp only at q1 q2 q3;subst q1;dsimp only;rw [if_neg (by omega)];exact⟨_,rfl,q2,q3⟩
theorem qRN {l:Ag} (hk:LayK l) {e:End} (he:End.ok e):Tot (hO l e) λr=>-1<=r/\r < (l.Ah.length:Int):=by
 have hl:=hk.s.Ah;unfold hO;refine bO (P:=λo=>match o with|.inl _=>True|.inr r=>-1<=r/\r < (l.Ah.length:Int)) (cA l.Ah (by omega) (λ_=>True) trivial ?_ ?_) (λ_ _=>tot_some.2 (by omega)) (λ_ h=>h)
 ·intro i s hx _;have hi:=(zQQ.1 hx).1;have hs:=(hk.w.Ah s (zQM hx)).atV;rw [if_pos (by omega),aH hx,aA ⟨⟨hs.el,hs.side⟩,he⟩];split
  ·exact⟨_,rfl,.inr ⟨_,rfl,by omega,by omega⟩⟩
  rw [aA (bB hi (by omega))];exact⟨_,rfl,.inl ⟨rfl,trivial⟩⟩
 intro _;rw [if_neg (by omega)];exact⟨_,rfl,_,rfl,trivial⟩
theorem Fits_t {l:Ag} (hk:LayK l) (e:End) {w:List An} (h:∀ s∈w,jO l s) (hw:w.length<=100):Tot (qE l e w) λr=>r=true->w≠[]/\w.length<=12:=by
 unfold qE;refine aF (P:=λr=>r=false->w≠[]/\w.length<=12) ?_ λr hr=>?_
 ·split
  ·exact tot_some.2 (by simp)
  rename_i h0;split
  ·exact tot_some.2 (by simp)
  rename_i h12;have hne:w≠[]/\w.length<=12:=⟨λe=>h0 (by rw [e];rfl),by omega⟩;refine cY (by omega) (by omega) λx _ _=>?_;split
  ·refine cY (by omega) (by omega) fun x _ _ => ?_;split
   ·exact aF (zFZ hk h) λ_ _=>tot_some.2 λ_=>hne
   exact tot_some.2 (by simp)
  exact tot_some.2 (by simp)
 cases r with
 | true=>exact tot_some.2 (by simp)
 | false=>
  have hr:=hr rfl;have hpos:0 < w.length:=List.length_pos_iff.2 hr.1;rw [if_neg Bool.false_ne_true];refine aF (P:=λ_=>True) (cC (λi s=>s.2=(i:Int)+1/\0<=s.1/\s.1<=1+(i:Int)) (w.length - 1) (by omega) ⟨rfl,by decide,by decide⟩ ?_ ?_) λc _=>?_
  ·rintro i ⟨a,y⟩ hi ⟨q1,q2,q3⟩;dsimp only at q1 q2 q3;subst q1;dsimp only;have hx:=zQR (l:=w) (show i+1 < w.length by omega);have hy:=zQR (l:=w) (show i < w.length by omega);rw [if_pos (by omega),show (i:Int)+1=((i+1:Nat):Int) by omega,aH hx];refine aF (qZ _) λr1 _=>?_;rw [aA (by unfold I64;omega),show (((i+1:Nat):Int) - 1)=(i:Int) by omega,aH hy];refine aF (qZ _) λr2 _=>?_;split
   ·rw [aA (by unfold I64; omega)];exact tot_some.2 ⟨by push_cast;rfl,q2,by show a<=_;push_cast;omega⟩
   rw [aA (by unfold I64; omega), aA (by unfold I64; omega)];exact tot_some.2 ⟨by push_cast;rfl,by show 0<=a+1;omega,by show a+1<=_;push_cast;omega⟩
  ·rintro⟨a,y⟩ ⟨q1,q2,q3⟩;dsimp only at q1 q2 q3;subst q1;dsimp only;rw [if_neg (by omega)];exact⟨_,rfl,trivial⟩
  exact aF (yW (by omega)) λ_ _=>tot_some.2 λ_=>hr
theorem qHO {l:Ag} (hk:LayK l) {s:An} (h:jO l s):Tot (jE l s) λr=>-1<=r.1/\r.1 < (l.Ah.length:Int):=by
 unfold jE;refine aF (qRN hk (zC hk h)) λr hr=>?_;refine aF (qNH hk h) ?_;rintro⟨a,b⟩ _;exact tot_some.2 hr
def qWA (l:Ag) (w:List An):Prop:=w≠[]/\w.length<=12/\∀ s∈w,jO l s
theorem zAC (n:Nat):1<=2 ^ n:=Nat.one_le_two_pow
theorem qNT {l : Ag} (hk : LayK l) (e0 : End) : ∀ (fu : Nat) (p : Bp) (e : End) (w : List An), End.ok e -> w.length <= 12 -> 13 <= fu + w.length -> (∀ s ∈ w, jO l s) -> (∀ x ∈ p.l, qWA l x) -> p.l.length + 2 ^ (13 - w.length) <= 1000000 -> Tot (cZ fu p l e0 e w) fun r => r.l.length <= p.l.length + 2 ^ (13 - w.length) /\ ∀ x ∈ r.l, qWA l x
 | 0,p,e,w,he,h1,h2,_,_,_=>by omega
 | fu+1,p,e,w,he,h1,h2,hw,hp,hb=>by
  have h12:13 - w.length=(12 - w.length)+1:=by omega
  rw [h12,Nat.pow_succ] at hb ⊢;have hpos:=zAC (12 - w.length);generalize hE:2 ^ (12 - w.length)=E at hb hpos ⊢;unfold cZ;refine aF (qHQ hk e he) ?_;rintro r ⟨r1,r2⟩;refine cC (λi s=>s.1=(i:Int)/\s.2.length<=p.l.length+i * E/\∀ x∈s.2,qWA l x) r.length (by omega) ⟨rfl,Nat.le_add_right _ _,hp⟩ ?_ ?_
  ·rintro i ⟨y,b⟩ hi ⟨q1,q2,q3⟩;dsimp only at q1 q2 q3;subst q1;dsimp only;have hx:=zQR hi;have hs:=r2 _ (List.getElem_mem hi);have hi1:i<=1:=by omega
   have hiE:i * E<=E:=by
    rcases Nat.eq_zero_or_pos i with h|h
    ·rw [h,Nat.zero_mul];omega
    rw [show i=1 by omega,Nat.one_mul];omega
   have hlong:∀ s∈w++[r[i]],jO l s:=by
    intro s hsm;rcases zQN.1 hsm with hsm|hsm
    ·exact hw s hsm
    rw [List.mem_singleton] at hsm;subst hsm;exact hs
   have hll:(w++[r[i]]).length=w.length+1:=by simp
   rw [if_pos (by omega),List.nil_append,aA (by omega),aH hx,aA (by omega)];refine aF (Fits_t hk e0 hlong (by omega)) λok hok=>?_
   cases ok with
   | false=>
    rw [if_pos (by rfl),aA (bB hi (by omega))];exact tot_some.2 ⟨by push_cast;rfl,by show b.length<=_;rw [Nat.add_mul];omega,q3⟩
   | true=>
    have hok:=hok rfl;have hway:qWA l (w++[r[i]]):=⟨hok.1,hok.2,hlong⟩;rw [if_neg (by simp),aH hx];refine aF (qHO hk hs) ?_;rintro⟨g,ends⟩ _;dsimp only;split
    ·rw [aA (by simp; omega), aA (bB hi (by omega))];refine tot_some.2 ⟨by push_cast;rfl,by rw [Nat.add_mul];simp;omega,?_⟩;intro x hxm;rcases zQN.1 hxm with hxm|hxm
     ·exact q3 x hxm
     rw [List.mem_singleton] at hxm;subst hxm;exact hway
    rw [aH hx];refine aF (qNH hk hs) ?_;rintro⟨f,j⟩ ⟨_,hf⟩;dsimp only at hf ⊢;have hE2:2 ^ (13 - (w++[r[i]]).length)=E:=by rw [hll,<- hE,show 13 - (w.length+1)=12 - w.length by omega]
    refine aF (qNT hk e0 fu ⟨b⟩ f (w++[r[i]]) hf (by omega) (by omega) hlong q3 (by rw [hE2];show b.length+E<=_;omega)) ?_;rintro⟨b'⟩ ⟨c1,c2⟩;rw [hE2] at c1;dsimp only at c1 c2 ⊢;rw [aA (bB hi (by omega))];exact tot_some.2 ⟨by push_cast;rfl,by show b'.length<=_;rw [Nat.add_mul];omega,c2⟩
  rintro⟨y,b⟩ ⟨q1,q2,q3⟩;dsimp only at q1 q2 q3;subst q1;dsimp only;have:r.length * E<=2 * E:=Nat.mul_le_mul_right _ r1;rw [if_neg (by omega)];exact⟨_,rfl,by dsimp only;omega,q3⟩
theorem sN (a b:BA):(a++b).size=a.size+b.size:=ByteArray.size_append
theorem qJW (l:List Int):(strOfNums l).size=l.length:=by
 show (l.map _).toArray.size=_;simp
theorem qXY {n:Int} (h0:0<=n) (h1:n<=1000000000):Tot (kF n) λr=>r.size<=1000000000:=by
 obtain⟨k,rfl⟩:∃ k:Nat,n=(k:Int):=⟨n.toNat,by omega⟩;unfold kF;refine aF (P:=λr=>r.size<=1000000000) (cC (λi s=>∃ m:Nat,s.1=(m:Int)/\m+i<=k/\s.2.size<=i) k (by omega) ⟨k,rfl,zQW _,zQW 0⟩ ?_ ?_) λa h=>tot_some.2 h
 ·rintro i ⟨y,b⟩ hi ⟨m,q1,q2,q3⟩;dsimp only at q1 q3;subst q1;dsimp only;split
  ·have e1:((m:Int).tmod 10)=((m % 10:Nat):Int):=rfl;have e2:((m:Int).tdiv 10)=((m / 10:Nat):Int):=rfl;have h10:¬ ((10:Int)=0):=by decide
   have e3:IntKind.i64.wrap ((m / 10:Nat):Int)=((m / 10:Nat):Int):=IntWalk.i64_in _ (by omega);rw [aA h10,e1,e2,e3,aA (by unfold I64;omega),aA (by rw [qJW];simp;omega),aA h10];refine tot_some.2 ⟨m / 10,rfl,by omega,?_⟩;show (_++b).size<=_;rw [sN,qJW];simp;omega
  exact⟨_,rfl,by show b.size<=_;omega⟩
 rintro⟨y,b⟩ ⟨m,q1,q2,q3⟩;dsimp only at q1 q3;subst q1;dsimp only;rw [if_neg (by omega)];exact⟨_,rfl,by show b.size<=_;omega⟩
theorem qRY {l:Ag} (hk:LayK l) {a b:Int} (ha:0<=a/\a < (l.Ah.length:Int)) (hb:b < (l.Ah.length:Int)):Tot (kS l a b) λr=>r.size<=1000000000000000:=by
 have hn:∀ s∈l.Ah,s.name.size<=140737488351232:=λs hs=>qS (hk.w.Ah s hs).name;have c1:(⟨#[45,101,110,100]⟩:BA).size=4:=rfl;have c2:(⟨#[45]⟩:BA).size=1:=rfl;unfold kS;split
 ·refine cY ha.1 ha.2 fun s hs _ => ?_;have:=hn s hs;rw [aA (by omega)];exact tot_some.2 (by rw [sN];omega)
 refine cY ha.1 ha.2 fun s hs _ => ?_;have:=hn s hs;rw [aA (by omega)];refine cY (by omega) hb λs' hs' _=>?_;have:=hn s' hs';rw [aA (by rw [sN];omega)];exact tot_some.2 (by rw [sN,sN];omega)
structure RtOk (l:Ag) (r:Ai):Prop where
 path:r.path.length<=12/\∀ s∈r.path,jO l s
 Ae:r.Ae.length<=1000/\∀ s∈r.Ae,Aa.ok s
 Ad:r.Ad.length<=1000
 over:r.over.length<=12/\∀ s∈r.over,jO l s
 Aj:r.Aj.length<=1000/\∀ s∈r.Aj,Aa.ok s
theorem From_t {l:Ag} (hc:LayC l) (g:Int):Tot (qD l g) λr=>r.length<=8192/\∀ x∈r,RtOk l x:=by
 have hk:=hc.k;have hl:=hk.s.Af;have hsg:=hk.s.Ah;unfold qD;split
 ·exact tot_some.2 ⟨by simp,by simp⟩
 rename_i hg;simp only [Bool.or_eq_true,decide_eq_true_eq,not_or] at hg;have hg:0<=g/\g < (l.Ah.length:Int):=by omega
 refine cY hg.1 hg.2 λs hs hsx=>?_;refine aF (tJ l _ hk (qCT (hc.sigs s hs).1 (by omega))) ?_;rintro⟨e,j⟩ ⟨_,he⟩;dsimp only at he ⊢;split
 ·exact tot_some.2 ⟨by simp,by simp⟩
 unfold kT;refine aF (qNT hk e lR ⟨[]⟩ e [] he (by simp) (by unfold lR;simp) (by simp) (by simp) (by decide)) ?_;rintro⟨W⟩ ⟨w1,w2⟩;have w1:W.length<=8192:=Nat.le_trans w1 (by decide);dsimp only at w2 ⊢
 have hlast:∀ w∈W,∃ x,w[w.length - 1]?=some x/\jO l x/\1<=w.length/\w.length<=12:=by
  intro w hw;obtain⟨a1,a2,a3⟩:=w2 w hw;have hp:0 < w.length:=List.length_pos_iff.2 a1;exact⟨_,zQR (show w.length - 1 < w.length by omega),a3 _ (List.getElem_mem _),hp,a2⟩
 refine aF (P:=λr=>r.length<=8192/\∀ x∈r,RtOk l x) (cC (λi s=>s.1=(i:Int)/\s.2.length=i/\∀ x∈s.2,RtOk l x) W.length (by omega) ⟨rfl,rfl,λx h=>(by cases h)⟩ ?_ ?_) λa h=>tot_some.2 h
 ·rintro i ⟨y,b⟩ hi ⟨q1,q2,q3⟩;dsimp only at q1 q2 q3;subst q1;dsimp only;have hx:=zQR hi;have hm:=List.getElem_mem hi;obtain⟨st,f1,f2,f3,f4⟩:=hlast _ hm;rw [if_pos (by omega)];refine aF (P:=λr=>r.length=i+1/\∀ x∈r,RtOk l x) ?_ λr hr=>?_
  ·rw [aH hx, aA (by unfold I64; omega), show ((W[i].length : Int) - 1) = ((W[i].length - 1 : Nat) : Int) by omega, aH f1];refine aF (qHO hk f2) ?_;rintro⟨g1,en⟩ ⟨g2,g3⟩;dsimp only at g2 g3 ⊢;refine aF (qRY hk hg g3) λnm hnm=>?_;refine aF (qAZ hk (w:=W[i]) (by omega)) λps hps=>?_;refine aF (yW (l:=l) (w:=W[i]) (by omega)) λss hss=>?_;refine aF (qHL hk (w:=W[i]) (by omega)) λlen _=>?_;refine cY hg.1 hg.2 λs2 _ _=>?_;refine aF (qZ _) λap _=>?_;refine aF (P:=λr=>0<=r/\r<=(i:Int)+1) (cC (λk s=>s.2=(k:Int)/\0<=s.1/\s.1<=(k:Int)+1) i (by omega) ⟨rfl,by decide,by decide⟩ ?_ ?_) ?_
   ·rintro k ⟨a,y⟩ hk2 ⟨p1,p2,p3⟩;dsimp only at p1 p2 p3;subst p1;dsimp only;have hx2:=zQR (l:=W) (show k < W.length by omega);obtain⟨st2,k1,k2,k3,k4⟩:=hlast _ (List.getElem_mem (show k < W.length by omega));rw [if_pos (by omega),aH hx2,aH hx2,aA (by unfold I64;omega),show ((W[k].length:Int) - 1)=((W[k].length - 1:Nat):Int) by omega,aH k1];refine aF (qHO hk k2) ?_;rintro⟨m1,en2⟩ ⟨m2,m3⟩;dsimp only at m2 m3 ⊢;refine aF (qRY hk hg m3) λn1 _=>?_;refine aF (qRY hk hg g3) λn2 _=>?_;split
    ·rw [aA (by unfold I64; omega), aA (bB hk2 (by omega))];exact tot_some.2 ⟨by push_cast;rfl,by show 0<=a+1;omega,by show a+1<=_;push_cast;omega⟩
    rw [aA (bB hk2 (by omega))];exact tot_some.2 ⟨by push_cast;rfl,p2,by show a<=_;push_cast;omega⟩
   ·rintro⟨a,y⟩ ⟨p1,p2,p3⟩;dsimp only at p1 p2 p3;subst p1;dsimp only;rw [if_neg (by omega)];exact⟨_,rfl,p2,p3⟩
   rintro bf ⟨b1,b2⟩;refine aF (P:=λ_=>True) ?_ λnm2 _=>?_
   ·split
    ·have c1:(⟨#[46]⟩:BA).size=1:=rfl;rw [aA (by omega)];refine aF (qXY b1 (by omega)) λdg hdg=>?_;rw [aA (by rw [sN];omega)];exact tot_some.2 trivial
    exact tot_some.2 trivial
   rw [aA (by simp; omega)];refine tot_some.2 ⟨by simp;omega,?_⟩;intro x hxm;rcases zQN.1 hxm with hxm|hxm
   ·exact q3 x hxm
   rw [List.mem_singleton] at hxm;subst hxm;exact⟨⟨f4,(w2 _ hm).2.2⟩,⟨by have:=hps.1;show ps.length<=1000;omega,hps.2⟩,by show ss.length<=1000;omega,⟨by simp,by simp⟩,⟨by simp,by simp⟩⟩
  rw [aA (bB hi (by omega))];exact tot_some.2 ⟨by push_cast;rfl,hr⟩
 rintro⟨y,b⟩ ⟨q1,q2,q3⟩;dsimp only at q1 q2 q3;subst q1;dsimp only;rw [if_neg (by omega)];exact⟨_,rfl,by omega,q3⟩
theorem zGH {l:Ag} (hw:LayW l):Tot (sT l) λr=>r.2=0->LayC l/\r.1.length<=48/\∀ x∈r.1,RtOk l x:=by
 unfold sT;refine aF (qKK l hw) λr1 h1=>?_;split
 ·rename_i e1;have hc:=h1 e1;have hsg:=hc.k.s.Ah;refine aF (P:=λr=>∀ x∈r,RtOk l x) (cC (λi s=>s.1=(i:Int)/\s.2.length<=i * 8192/\∀ x∈s.2,RtOk l x) l.Ah.length (by omega) ⟨rfl,by simp,λx h=>(by cases h)⟩ ?_ ?_) λr hr=>?_
  ·rintro i ⟨y,b⟩ hi ⟨q1,q2,q3⟩;dsimp only at q1 q2 q3;subst q1;dsimp only;rw [if_pos (by omega)];refine aF (From_t hc i) ?_;rintro r ⟨r1,r2⟩;rw [aA (by rw [zQL];omega),aA (bB hi (by omega))];refine tot_some.2 ⟨by push_cast;rfl,by rw [zQL];omega,?_⟩;intro x hxm;rcases zQN.1 hxm with hxm|hxm
   ·exact q3 x hxm
   exact r2 x hxm
  ·rintro⟨y,b⟩ ⟨q1,q2,q3⟩;dsimp only at q1 q2 q3;subst q1;dsimp only;rw [if_neg (by omega)];exact⟨_,rfl,q3⟩
  split
  ·exact tot_some.2 λh=>by cases h
  exact tot_some.2 λ_=>⟨hc,by dsimp only;omega,hr⟩
 rename_i e1;exact tot_some.2 λh=>absurd h e1
theorem qTY {l:Ag} (hs:LayS l):Tot (mA l) λr=>r.length<=32:=by
 have hl:=hs.Af;unfold mA;refine aF (P:=λr=>r.length<=32) (cC (λi s=>s.1=(i:Int)/\s.2.length<=i) l.Af.length (by omega) ⟨rfl,Nat.zero_le _⟩ ?_ ?_) λa h=>tot_some.2 h
 ·rintro i ⟨y,b⟩ hi ⟨q1,q2⟩;dsimp only at q1 q2;subst q1;dsimp only;rw [if_pos (by omega),aH (zQR hi)];split
  ·rw [aA (by simp; omega), aA (bB hi (by omega))];exact tot_some.2 ⟨by push_cast;rfl,by simp;omega⟩
  rw [aA (bB hi (by omega))];exact tot_some.2 ⟨by push_cast;rfl,by show b.length<=i+1;omega⟩
 rintro⟨y,b⟩ ⟨q1,q2⟩;dsimp only at q1 q2;subst q1;dsimp only;rw [if_neg (by omega)];exact⟨_,rfl,by omega⟩
theorem qYS {l:Ag} {r:Ai} {w:List An} (el:Int) (hw:w.length<=1000) (hr:r.Ad.length<=1000):Tot (kE l r w el) λ_=>True:=by
 unfold kE;refine bO (P:=λ_=>True) (cA w (by omega) (λ_=>True) trivial ?_ ?_) ?_ (λ_ _=>trivial)
 ·intro i e hx _;have hi:=(zQQ.1 hx).1;rw [if_pos (by omega),aH hx];split
  ·exact⟨_,rfl,.inr ⟨_,rfl,trivial⟩⟩
  rw [aA (bB hi (by omega))];exact⟨_,rfl,.inl ⟨rfl,trivial⟩⟩
 ·intro _;rw [if_neg (by omega)];exact⟨_,rfl,_,rfl,trivial⟩
 intro _ _;refine bO (P:=λ_=>True) (cA r.Ad (by omega) (λ_=>True) trivial ?_ ?_) (λ_ _=>tot_some.2 trivial) (λ_ _=>trivial)
 ·intro i e hx _;have hi:=(zQQ.1 hx).1;rw [if_pos (by omega),aH hx];refine aF (qZ _) λs _=>?_;split
  ·exact⟨_,rfl,.inr ⟨_,rfl,trivial⟩⟩
  rw [aA (bB hi (by omega))];exact⟨_,rfl,.inl ⟨rfl,trivial⟩⟩
 intro _;rw [if_neg (by omega)];exact⟨_,rfl,_,rfl,trivial⟩
theorem zCO {l:Ag} (hc:LayC l) {r:Ai} (hr:RtOk l r):Tot (qB l r) λx=>RtOk l x:=by
 have hk:=hc.k;have hl:=hk.s.Af;obtain⟨r1,r2,r3,r4,r5⟩:=hr;have hz:RtOk l ⟨r.name,r.entry,r.exit,r.path,r.Ae,r.Ad,r.A2,r.length,[],[],[],r.At,r.guards,r.gaps⟩:=⟨r1,r2,r3,⟨by simp,by simp⟩,⟨by simp,by simp⟩⟩;unfold qB tW;dsimp only;refine aF (P:=λx=>x.2=true->x.1∈l.Ah) ?_ ?_
 ·split
  ·exact tot_some.2 λh=>by cases h
  rename_i hg;simp only [Bool.or_eq_true,decide_eq_true_eq,not_or] at hg;exact cY (by omega) (by omega) λs hs _=>tot_some.2 λ_=>hs
 rintro⟨sg,ok⟩ hsg;dsimp only at hsg ⊢
 cases ok with
 | false=>rw [if_pos (by rfl)];exact tot_some.2 hz
 | true=>
  have hs:=hc.sigs sg (hsg rfl);rw [if_neg (by simp)];refine aF (tJ l _ hk (qCT hs.1 (by omega))) ?_;rintro⟨e,j⟩ ⟨_,he⟩;dsimp only at he ⊢;refine aF (P:=λo=>o.1.length<=12/\∀ s∈o.1,jO l s) (cC (λi s=>s.2.2.2.length=i/\(∀ x∈s.2.2.2,jO l x)/\I64 s.2.1/\I64 s.2.2.1) 12 (by omega) ⟨rfl,λx h=>(by cases h),he.1,he.2⟩ ?_ ?_) ?_
  ·rintro i ⟨j,c1,c2,b⟩ hi ⟨q1,q2,q3,q4⟩;dsimp only at q1 q2 q3 q4 ⊢;refine aF (P:=λ_=>True) ?_ λgo _=>?_
   ·split
    ·refine aF (qHL hk (w := b) (by omega)) fun len _ => ?_;split
     ·split
      ·exact aF (qYS _ (by omega) r3) λ_ _=>tot_some.2 trivial
      exact tot_some.2 trivial
     exact tot_some.2 trivial
    exact tot_some.2 trivial
   split
   ·refine aF (qHQ hk _ ⟨q3,q4⟩) ?_;rintro br ⟨b1,b2⟩;split
    ·exact⟨_,rfl,by show b.length<=12;omega,q2⟩
    rename_i hne;refine cY (by omega) (by omega) λst hst hsx=>?_;rw [aA (by simp;omega)];refine cY (by omega) (by omega) λst2 hst2 _=>?_;refine aF (qNH hk (b2 st2 hst2)) ?_;rintro⟨f,j2⟩ ⟨_,hf⟩;refine tot_some.2 ⟨by simp;omega,?_,hf.1,hf.2⟩;intro x hxm;rcases zQN.1 hxm with hxm|hxm
    ·exact q2 x hxm
    rw [List.mem_singleton] at hxm;subst hxm;exact b2 _ hst
   exact⟨_,rfl,by show b.length<=12;omega,q2⟩
  ·rintro⟨j,c1,c2,b⟩ ⟨q1,q2,_⟩;dsimp only at q1 q2 ⊢;refine aF (P:=λr=>r=false) ?_ λgo hgo=>?_
   ·split
    ·refine aF (qHL hk (w := b) (by omega)) fun len _ => ?_;split
     ·rw [if_neg (by omega)];exact tot_some.2 rfl
     exact tot_some.2 rfl
    exact tot_some.2 rfl
   subst hgo;rw [if_neg Bool.false_ne_true];exact⟨_,rfl,by show b.length<=12;omega,q2⟩
  rintro⟨b,c1,c2⟩ ⟨q1,q2⟩;dsimp only at q1 q2 ⊢;refine aF (qAZ hk (w:=b) (by omega)) λps hps=>?_;refine aF (yW (l:=l) (w:=b) (by omega)) λss hss=>?_;exact tot_some.2 ⟨r1,r2,r3,⟨q1,q2⟩,⟨by have:=hps.1;show ps.length<=1000;omega,hps.2⟩⟩
theorem zCR {l:Ag} (hk:LayK l) (s:An):Tot (gW l s) λr=>r.length<=4/\∀ e∈r,End.ok e:=by
 have hl:=hk.s.Af;unfold gW;split
 ·exact tot_some.2 ⟨by simp,by simp⟩
 rename_i hg;simp only [Bool.or_eq_true,decide_eq_true_eq,not_or] at hg;refine cY (by omega) (by omega) λx _ _=>?_;refine aF (qTZ _ _ _) ?_;rintro⟨a,ok⟩ _;dsimp only;have hsd:=qNR x.kind;refine aF (P:=λr=>r.length<=4/\∀ e∈r,End.ok e) (cC (λi s=>s.1=(i:Int)/\s.2.length<=i/\∀ e∈s.2,End.ok e) (qBH x.kind).toNat (by omega) ⟨rfl,Nat.zero_le _,λx h=>(by cases h)⟩ ?_ ?_) λa h=>tot_some.2 h
 ·rintro i ⟨y,b⟩ hi ⟨q1,q2,q3⟩;dsimp only at q1 q2 q3;subst q1;dsimp only;rw [qHJ,aD,if_pos (by omega)];split
  ·rw [aA (by simp; omega), aA (bB hi (by omega))];refine tot_some.2 ⟨by push_cast;rfl,by simp;omega,?_⟩;intro e he;rcases zQN.1 he with he|he
   ·exact q3 e he
   rw [List.mem_singleton] at he;subst he;show I64 _/\I64 _;unfold I64;dsimp only;omega
  rw [aA (bB hi (by omega))];exact tot_some.2 ⟨by push_cast;rfl,by show b.length<=i+1;omega,q3⟩
 rintro⟨y,b⟩ ⟨q1,q2,q3⟩;dsimp only at q1 q2 q3;subst q1;dsimp only;rw [qHJ,aD,if_neg (by omega)];exact⟨_,rfl,by omega,q3⟩
theorem qFA {l : Ag} (hk : LayK l) {w : List An} (hw : w.length <= 12) {b0 : List End} (h0 : b0.length <= 100) (ho : ∀ e ∈ b0, End.ok e) : Tot (aY (fun ((i6 : Int), (b7 : List End)) =>
   if i6 < (w.length : Int) then
    aU w i6 fun e10 =>
    aB (gW l e10) fun r11 =>
    aC ((b7 ++ r11).length <= 1000000000) <|
    aC (I64 (i6 + (1 : Int))) <|
    some (.inl ((i6 + (1 : Int)), (b7 ++ r11)))
   else
    aQ (
     some b7)) ((0 : Int), b0)) fun (r : List End) => r.length <= b0.length + 4 * w.length /\ ∀ e ∈ r, End.ok e := by
 refine cC (λi s=>s.1=(i:Int)/\s.2.length<=b0.length+4 * i/\∀ e∈s.2,End.ok e) w.length (by omega) ⟨rfl,Nat.le_add_right _ _,ho⟩ ?_ ?_
 ·rintro i ⟨y,b⟩ hi ⟨q1,q2,q3⟩;dsimp only at q1 q2 q3;subst q1;dsimp only;rw [if_pos (by omega),aH (zQR hi)];refine aF (zCR hk _) ?_;rintro r ⟨r1,r2⟩;rw [aA (by rw [zQL];omega),aA (bB hi (by omega))];refine tot_some.2 ⟨by push_cast;rfl,by rw [zQL];omega,?_⟩;intro e he;rcases zQN.1 he with he|he
  ·exact q3 e he
  exact r2 e he
 rintro⟨y,b⟩ ⟨q1,q2,q3⟩;dsimp only at q1 q2 q3;subst q1;dsimp only;rw [if_neg (by omega)];exact⟨_,rfl,q2,q3⟩
theorem qYN {l:Ag} (hk:LayK l) {r:Ai} (hr:RtOk l r):Tot (nQ l r) λr=>r.length<=100/\∀ e∈r,End.ok e:=by
 unfold nQ;refine aF (qFA hk hr.path.1 (b0:=[]) (by simp) (by simp)) ?_;rintro b ⟨b1,b2⟩;have h1:=hr.path.1;have h2:=hr.over.1;simp only [List.length_nil] at b1;refine aF (qFA hk hr.over.1 (b0:=b) (by omega) b2) ?_;rintro c ⟨c1,c2⟩;exact tot_some.2 ⟨by omega,c2⟩
theorem qPD (w:List An) (n:Int) (hl:w.length<=1000000000):Tot (mP w n) λ_=>True:=by
 unfold mP;refine bO (P:=λ_=>True) (cA w (by omega) (λ_=>True) trivial ?_ ?_) (λ_ _=>tot_some.2 trivial) (λ_ _=>trivial)
 ·intro i e hx _;have hi:=(zQQ.1 hx).1;rw [if_pos (by omega),aH hx];split
  ·exact⟨_,rfl,.inr ⟨_,rfl,trivial⟩⟩
  rw [aA (bB hi (by omega))];exact⟨_,rfl,.inl ⟨rfl,trivial⟩⟩
 intro _;rw [if_neg (by omega)];exact⟨_,rfl,_,rfl,trivial⟩
theorem qEP {l:List Aa} {s:Aa} (hl:l.length<=1000000000) (ho:∀ x∈l,Aa.ok x) (hs:Aa.ok s):Tot (lF l s) λ_=>True:=by
 unfold lF;refine bO (P:=λ_=>True) (cA l (by omega) (λ_=>True) trivial ?_ ?_) (λ_ _=>tot_some.2 trivial) (λ_ _=>trivial)
 ·intro i e hx _;have hi:=(zQQ.1 hx).1;rw [if_pos (by omega),aH hx,aA ⟨ho e (zQM hx),hs⟩];split
  ·exact⟨_,rfl,.inr ⟨_,rfl,trivial⟩⟩
  rw [aA (bB hi (by omega))];exact⟨_,rfl,.inl ⟨rfl,trivial⟩⟩
 intro _;rw [if_neg (by omega)];exact⟨_,rfl,_,rfl,trivial⟩
theorem leg_t {l:Ag} {r:Ai} (hr:RtOk l r) (hf:r.At.length<=1000/\∀ s∈r.At,Aa.ok s) {e:End} (he:End.ok e):Tot (pA r e) λx=>Aa.ok x.1/\x.2.1=-1:=by
 have ok1:∀ p:Int,(p=1\/p=2)->Aa.ok ⟨e.el,p⟩:=by
  intro p hp;refine⟨he.1,?_⟩;show I64 p;unfold I64;omega
 unfold pA;refine aF (P:=λx=>(x.1=1\/x.1=2)/\(x.2=1\/x.2=2)) ?_ ?_
 ·split
  ·exact tot_some.2 ⟨.inr rfl,.inl rfl⟩
  exact tot_some.2 ⟨.inl rfl,.inr rfl⟩
 rintro⟨p,q⟩ ⟨hp,hq⟩;dsimp only at hp hq ⊢;refine aF (P:=λ_=>True) ?_ λx _=>?_
 ·unfold rK;refine aF (P:=λ_=>True) ?_ λx _=>tot_some.2 trivial;refine aF (qEP (by have:=hr.Ae.1;omega) hr.Ae.2 (ok1 p hp)) λx _=>?_;split
  ·exact tot_some.2 trivial
  refine aF (qEP (by have := hr.Aj.1; omega) hr.Aj.2 (ok1 p hp)) fun x _ => ?_;split
  ·exact tot_some.2 trivial
  exact aF (qEP (by have:=hf.1;omega) hf.2 (ok1 p hp)) λx _=>tot_some.2 trivial
 split
 ·exact tot_some.2 ⟨by show I64 0/\I64 0;unfold I64;omega,rfl⟩
 exact tot_some.2 ⟨ok1 q hq,rfl⟩
theorem Out_t (k a p:Int):Tot (pB k a p) λr=>0<=r.1/\r.1 < 4:=by
 unfold pB;refine bO (P:=λo=>match o with|.inl _=>True|.inr r=>0<=r.1/\r.1 < 4) (oZ 4 (by omega) (λ_=>True) trivial ?_ ?_) (λ_ _=>tot_some.2 (by decide)) (λ_ h=>h)
 ·intro i hi _;rw [if_pos (by omega)];refine aF (qTZ _ _ _) ?_;rintro⟨x,ok⟩ _;dsimp only;split
  ·exact⟨_,rfl,.inr ⟨_,rfl,by omega,by omega⟩⟩
  rw [aA (bB hi (by omega))];exact⟨_,rfl,.inl ⟨rfl,trivial⟩⟩
 intro _;rw [if_neg (by omega)];exact⟨_,rfl,_,rfl,trivial⟩
theorem qTX {l:Ag} (hk:LayK l) {r:Ai} (hr:RtOk l r) (hf:r.At.length<=1000/\∀ s∈r.At,Aa.ok s) {e:End} (he:End.ok e):Tot (lW l r e) λx=>Aa.ok x.1/\-1<=x.2.1/\x.2.1 < (l.Ah.length:Int):=by
 have hl:=hk.s.Af;have z0:Aa.ok ⟨0,0⟩:=by show I64 0/\I64 0;unfold I64;omega
 unfold lW;refine bO (P:=λo=>match o with|.inl _=>True|.inr x=>Aa.ok x.1/\-1<=x.2.1/\x.2.1 < (l.Ah.length:Int)) (cC (λi s=>s.1=(i:Int)/\End.ok ⟨s.2.1,s.2.2⟩) 4 (by omega) ⟨rfl,he⟩ ?_ ?_) (λ_ _=>tot_some.2 ⟨z0,by dsimp only;omega⟩) (λ_ h=>h)
 ·rintro i ⟨n,c1,c2⟩ hi ⟨q1,q2⟩;dsimp only at q1 q2;subst q1;dsimp only;rw [if_pos (by omega)];refine aF (tJ l _ hk q2) ?_;rintro⟨f,j⟩ ⟨_,hfo⟩;dsimp only at hfo ⊢;split
  ·exact⟨_,rfl,z0,by dsimp only;omega⟩
  refine aF (qRN hk hfo) fun g hg => ?_;split
  ·exact⟨_,rfl,z0,hg⟩
  refine aF (P := fun _ => True) ?_ fun x _ => ?_
  ·refine aF (qPD _ _ (by have := hr.path.1; omega)) fun x _ => ?_;split
   ·exact tot_some.2 trivial
   exact aF (qPD _ _ (by have:=hr.over.1;omega)) λx _=>tot_some.2 trivial
  split
  ·exact⟨_,rfl,z0,by dsimp only;omega⟩
  refine aF (P := fun r => r = false -> 0 <= f.el /\ f.el < (l.Af.length : Int)) ?_ fun x hx => ?_
  ·split
   ·exact tot_some.2 (by simp)
   split
   ·exact tot_some.2 (by simp)
   refine cY (by omega) (by omega) fun x _ _ => ?_;split<;>exact tot_some.2 λ_=>by omega
  cases x with
  | true=>exact⟨_,rfl,z0,by dsimp only;omega⟩
  | false=>
   have hx:=hx rfl;rw [if_neg Bool.false_ne_true];refine cY hx.1 hx.2 λx _ _=>?_;split
   ·refine aF (leg_t hr hf hfo) ?_;rintro⟨a,b,c⟩ ⟨h1,h2⟩;dsimp only at h1 h2 ⊢;exact⟨_,rfl,h1,by dsimp only;omega⟩
   refine cY hx.1 hx.2 fun x _ _ => ?_;refine aF (Out_t _ _ _) ?_;rintro⟨a,b⟩ ⟨h1,h2⟩;dsimp only at h1 h2 ⊢;rw [aA (by unfold I64;omega)];refine tot_some.2 ⟨by push_cast;rfl,?_⟩;show I64 _/\I64 _;unfold I64;dsimp only;omega
 rintro⟨n,c1,c2⟩ ⟨q1,q2⟩;dsimp only at q1;subst q1;dsimp only;rw [if_neg (by omega)];exact⟨_,rfl,trivial⟩
theorem zDS {l:List Aa} {s:Aa} (hl:l.length<=1000000) (ho:∀ x∈l,Aa.ok x) (hs:Aa.ok s):Tot (sS l s) λr=>r.length<=l.length+1/\∀ x∈r,Aa.ok x:=by
 unfold sS;refine aF (qEP (by omega) ho hs) λx _=>?_;split
 ·exact tot_some.2 ⟨by omega,ho⟩
 refine aF (P := fun o => (o.2.length = l.length + if o.1 = true then 1 else 0) /\ ∀ x ∈ o.2, Aa.ok x) (cC (fun i s => s.2.1 = (i : Int) /\ (s.2.2.length = i + if s.1 = true then 1 else 0) /\ ∀ x ∈ s.2.2, Aa.ok x) l.length (by omega) ⟨rfl, rfl, fun x h => (by cases h)⟩ ?_ ?_) ?_
 ·rintro i ⟨dn,y,b⟩ hi ⟨q1,q2,q3⟩;dsimp only at q1 q2 q3;subst q1;dsimp only;have hx:=zQR hi;have hb:b.length<=i+1:=by split at q2<;>omega
  rw [if_pos (by omega)];refine aF (P:=λo=>(o.2.length=i+if o.1=true then 1 else 0)/\∀ x∈o.2,Aa.ok x) ?_ ?_
  ·refine aF (P := fun r => r = true -> dn = false) ?_ fun r hr => ?_
   ·cases dn with
    | false=>rw [if_pos (by rfl),aH hx];exact tot_some.2 λ_=>rfl
    | true=>rw [if_neg (by simp)];exact tot_some.2 (by simp)
   cases r with
   | false=>rw [if_neg Bool.false_ne_true];exact tot_some.2 ⟨q2,q3⟩
   | true=>
    have hr:=hr rfl;subst hr;rw [if_neg Bool.false_ne_true] at q2;rw [if_pos rfl,aA (by simp;omega)];refine tot_some.2 ⟨by simp;omega,?_⟩;intro x hxm;rcases zQN.1 hxm with hxm|hxm
    ·exact q3 x hxm
    rw [List.mem_singleton] at hxm;subst hxm;exact hs
  rintro⟨d2,b2⟩ ⟨p1,p2⟩;dsimp only at p1 p2 ⊢;have hb2:b2.length<=i+1:=by split at p1<;>omega
  rw [aH hx,aA (by simp;omega),aA (bB hi (by omega))];refine tot_some.2 ⟨by push_cast;rfl,by rw [zQL,p1];simp;omega,?_⟩;intro x hxm;rcases zQN.1 hxm with hxm|hxm
  ·exact p2 x hxm
  rw [List.mem_singleton] at hxm;subst hxm;exact ho _ (List.getElem_mem hi)
 ·rintro⟨dn,y,b⟩ ⟨q1,q2,q3⟩;dsimp only at q1 q2 q3;subst q1;dsimp only;rw [if_neg (by omega)];exact⟨_,rfl,q2,q3⟩
 rintro⟨dn,b⟩ ⟨p1,p2⟩;dsimp only at p1 p2 ⊢;have hb:b.length<=l.length+1:=by split at p1<;>omega
 cases dn with
 | true=>rw [if_neg (by simp)];exact tot_some.2 ⟨hb,p2⟩
 | false=>
  rw [if_neg Bool.false_ne_true] at p1;rw [if_pos (by rfl),aA (by simp;omega)];refine tot_some.2 ⟨by simp;omega,?_⟩;intro x hxm;rcases zQN.1 hxm with hxm|hxm
  ·exact p2 x hxm
  rw [List.mem_singleton] at hxm;subst hxm;exact hs
theorem zGF (l:List Int) (n:Int) (hl:l.length<=1000000000):Tot (gK l n) λ_=>True:=by
 unfold gK;refine bO (P:=λ_=>True) (cA l (by omega) (λ_=>True) trivial ?_ ?_) (λ_ _=>tot_some.2 trivial) (λ_ _=>trivial)
 ·intro i e hx _;have hi:=(zQQ.1 hx).1;rw [if_pos (by omega),aH hx];split
  ·exact⟨_,rfl,.inr ⟨_,rfl,trivial⟩⟩
  rw [aA (bB hi (by omega))];exact⟨_,rfl,.inl ⟨rfl,trivial⟩⟩
 intro _;rw [if_neg (by omega)];exact⟨_,rfl,_,rfl,trivial⟩
theorem qGJ (l:List Int) (n:Int) (hl:l.length<=1000000):Tot (eV l n) λr=>r.length<=l.length+1:=by
 unfold eV;refine aF (zGF l n (by omega)) λx _=>?_;split
 ·exact tot_some.2 (by omega)
 refine aF (P := fun o => (o.2.length = l.length + if o.1 = true then 1 else 0)) (cC (fun i s => s.2.1 = (i : Int) /\ (s.2.2.length = i + if s.1 = true then 1 else 0)) l.length (by omega) ⟨rfl, rfl⟩ ?_ ?_) ?_
 ·rintro i ⟨dn,y,b⟩ hi ⟨q1,q2⟩;dsimp only at q1 q2;subst q1;dsimp only;have hx:=zQR hi;have hb:b.length<=i+1:=by split at q2<;>omega
  rw [if_pos (by omega)];refine aF (P:=λo=>(o.2.length=i+if o.1=true then 1 else 0)) ?_ ?_
  ·refine aF (P := fun r => r = true -> dn = false) ?_ fun r hr => ?_
   ·cases dn with
    | false=>rw [if_pos (by rfl),aH hx];exact tot_some.2 λ_=>rfl
    | true=>rw [if_neg (by simp)];exact tot_some.2 (by simp)
   cases r with
   | false=>rw [if_neg Bool.false_ne_true];exact tot_some.2 q2
   | true=>
    have hr:=hr rfl;subst hr;rw [if_neg Bool.false_ne_true] at q2;rw [if_pos rfl,aA (by simp;omega)];exact tot_some.2 (by simp;omega)
  rintro⟨d2,b2⟩ p1;dsimp only at p1 ⊢;have hb2:b2.length<=i+1:=by split at p1<;>omega
  rw [aH hx,aA (by simp;omega),aA (bB hi (by omega))];exact tot_some.2 ⟨by push_cast;rfl,by rw [zQL,p1];simp;omega⟩
 ·rintro⟨dn,y,b⟩ ⟨q1,q2⟩;dsimp only at q1 q2;subst q1;dsimp only;rw [if_neg (by omega)];exact⟨_,rfl,q2⟩
 rintro⟨dn,b⟩ p1;dsimp only at p1 ⊢;have hb:b.length<=l.length+1:=by split at p1<;>omega
 cases dn with
 | true=>rw [if_neg (by simp)];exact tot_some.2 hb
 | false=>
  rw [if_neg Bool.false_ne_true] at p1;rw [if_pos (by rfl),aA (by simp;omega)];exact tot_some.2 (by simp;omega)
theorem zGA (a b:List Int) (ha:a.length<=100000) (hb:b.length<=100000):Tot (nU a b) λr=>r.length<=a.length+b.length:=by
 unfold nU;refine aF (P:=λr=>r.length<=a.length) ?_ λm hm=>?_
 ·unfold kW;refine aF (P:=λr=>r.length<=a.length) (cC (λi s=>s.2=(i:Int)/\s.1.length<=i) a.length (by omega) ⟨rfl,Nat.zero_le _⟩ ?_ ?_) λa h=>tot_some.2 h
  ·rintro i ⟨b,y⟩ hi ⟨q1,q2⟩;dsimp only at q1 q2;subst q1;dsimp only;rw [if_pos (by omega),aH (zQR hi)];refine aF (qGJ _ _ (by omega)) λr hr=>?_;rw [aA (bB hi (by omega))];exact tot_some.2 ⟨by push_cast;rfl,by show r.length<=i+1;omega⟩
  rintro⟨b,y⟩ ⟨q1,q2⟩;dsimp only at q1 q2;subst q1;dsimp only;rw [if_neg (by omega)];exact⟨_,rfl,q2⟩
 refine aF (P := fun r => r.length <= a.length + b.length) (cC (fun i s => s.2 = (i : Int) /\ s.1.length <= a.length + i) b.length (by omega) ⟨rfl, hm⟩ ?_ ?_) fun a h => tot_some.2 h
 ·rintro i ⟨b,y⟩ hi ⟨q1,q2⟩;dsimp only at q1 q2;subst q1;dsimp only;rw [if_pos (by omega),aH (zQR hi)];refine aF (qGJ _ _ (by omega)) λr hr=>?_;rw [aA (bB hi (by omega))];exact tot_some.2 ⟨by push_cast;rfl,by show r.length<=a.length+(i+1);omega⟩
 rintro⟨b,y⟩ ⟨q1,q2⟩;dsimp only at q1 q2;subst q1;dsimp only;rw [if_neg (by omega)];exact⟨_,rfl,q2⟩
theorem qUG {l:Ag} (hk:LayK l) {s:An} (h:jO l s):An.ok s:=⟨(zC hk h).1,h.2.2.2.2,(zC hk h).2⟩
structure RtCmp (r:Ai):Prop where
 path:∀ s∈r.path,An.ok s
 Ae:∀ s∈r.Ae,Aa.ok s
 over:∀ s∈r.over,An.ok s
 Aj:∀ s∈r.Aj,Aa.ok s
 At:∀ s∈r.At,Aa.ok s
 gaps:∀ s∈r.gaps,End.ok s
theorem zCN {l:Ag} (hk:LayK l) {r:Ai} (hr:RtOk l r):Tot (qA l r) λx=>RtCmp x:=by
 obtain⟨r1,r2,r3,r4,r5⟩:=hr;have hz:∀ a b c,RtOk l ⟨r.name,r.entry,r.exit,r.path,r.Ae,r.Ad,r.A2,r.length,r.over,r.Aj,r.Ao,a,b,c⟩:=λ_ _ _=>⟨r1,r2,r3,r4,r5⟩;unfold qA;refine aF (qYN hk (hz _ _ _)) ?_;rintro es ⟨e1,e2⟩;refine aF (P:=λo=>(∀ x∈o.1,Aa.ok x)/\∀ x∈o.2.2,End.ok x) (cC (λi s=>s.1=(i:Int)/\(s.2.1.length<=i/\∀ x∈s.2.1,Aa.ok x)/\s.2.2.1.length<=i/\s.2.2.2.length<=i/\∀ x∈s.2.2.2,End.ok x) es.length (by omega) ⟨rfl,⟨Nat.zero_le _,λx h=>(by cases h)⟩,Nat.zero_le _,Nat.zero_le _,λx h=>(by cases h)⟩ ?_ ?_) λo ho=>tot_some.2 ⟨λs hs=>qUG hk (r1.2 s hs),r2.2,λs hs=>qUG hk (r4.2 s hs),r5.2,ho.1,ho.2⟩
 ·rintro i ⟨y,fl,gd,gp⟩ hi ⟨q1,⟨q2,q3⟩,q4,q5,q6⟩;dsimp only at q1 q2 q3 q4 q5 q6;subst q1;dsimp only;have hx:=zQR hi;rw [if_pos (by omega),aH hx];refine aF (qTX hk (hz fl gd gp) ⟨by show fl.length<=1000;omega,q3⟩ (e2 _ (List.getElem_mem hi))) ?_;rintro⟨s,g,ok⟩ ⟨s1,s2⟩;dsimp only at s1 s2 ⊢;refine aF (P:=λr=>r.length<=i+1/\∀ x∈r,End.ok x) ?_ λgp2 hgp=>?_
  ·split
   ·rw [aH hx, aA (by simp; omega)];refine tot_some.2 ⟨by simp;omega,λx hxm=>?_⟩;rcases zQN.1 hxm with hxm|hxm
    ·exact q6 x hxm
    rw [List.mem_singleton] at hxm;subst hxm;exact e2 _ (List.getElem_mem hi)
   exact tot_some.2 ⟨by omega,q6⟩
  refine aF (P := fun r => r.length <= i + 1 /\ ∀ x ∈ r, Aa.ok x) ?_ ?_
  ·split
   ·exact tot_some.2 ⟨by omega,q3⟩
   refine aF (zDS (by omega) q3 s1) ?_;rintro r ⟨p1,p2⟩;exact tot_some.2 ⟨by omega,p2⟩
  rintro fl2 ⟨f1,f2⟩;split
  ·refine aF (zGA gd [g] (by omega) (by simp)) fun gd2 hgd => ?_;simp only [List.length_cons,List.length_nil] at hgd;rw [aA (bB hi (by omega))];exact tot_some.2 ⟨by push_cast;rfl,⟨f1,f2⟩,by show gd2.length<=i+1;omega,hgp.1,hgp.2⟩
  rw [aA (bB hi (by omega))];exact tot_some.2 ⟨by push_cast;rfl,⟨f1,f2⟩,by show gd.length<=i+1;omega,hgp.1,hgp.2⟩
 rintro⟨y,fl,gd,gp⟩ ⟨q1,⟨_,q3⟩,_,_,q6⟩;dsimp only at q1 q3 q6;subst q1;dsimp only;rw [if_neg (by omega)];exact⟨_,rfl,q3,q6⟩
theorem zGG {l:Ag} (hw:LayW l):Tot (lE l) λr=>r.2=0->LayC l/\r.1.Ad=(l.Ad.length:Int)/\r.1.Ah=(l.Ah.length:Int)/\∀ x∈r.1.Ab,RtCmp x:=by
 unfold lE;refine aF (zGH hw) ?_;rintro⟨rs,e⟩ h;dsimp only at h ⊢;split
 ·rename_i he;obtain⟨hc,h1,h2⟩:=h he;refine aF (qTY hc.k.s) λps hps=>?_;refine aF (P:=λo=>∀ x∈o,RtCmp x) (cC (λi s=>s.1=(i:Int)/\s.2.length=i/\∀ x∈s.2,RtCmp x) rs.length (by omega) ⟨rfl,rfl,λx h=>(by cases h)⟩ ?_ ?_) λrts hrts=>?_
  ·rintro i ⟨y,b⟩ hi ⟨q1,q2,q3⟩;dsimp only at q1 q2 q3;subst q1;dsimp only;rw [if_pos (by omega),aH (zQR hi)];refine aF (zCO hc (h2 _ (List.getElem_mem hi))) λr13 hr13=>?_;refine aF (zCN hc.k hr13) λr14 h14=>?_;rw [aA (by simp;omega),aA (bB hi (by omega))];refine tot_some.2 ⟨by push_cast;rfl,by simp;omega,λx hxm=>?_⟩;rcases zQN.1 hxm with hxm|hxm
   ·exact q3 x hxm
   rw [List.mem_singleton] at hxm;subst hxm;exact h14
  ·rintro⟨y,b⟩ ⟨q1,q2,q3⟩;dsimp only at q1 q2 q3;subst q1;dsimp only;rw [if_neg (by omega)];exact⟨_,rfl,q3⟩
  refine aF (P := fun _ => True) (cC (fun i s => s.1 = (i : Int) /\ s.2.length = i) ps.length (by omega) ⟨rfl, rfl⟩ ?_ ?_) fun rts _ => ?_
  ·rintro i ⟨y,b⟩ hi ⟨q1,q2⟩;dsimp only at q1 q2;subst q1;dsimp only;rw [if_pos (by omega),aH (zQR hi)];refine aF (qZ _) λr13 hr13=>?_;rw [aA (by simp;omega),aA (bB hi (by omega))];exact tot_some.2 ⟨by push_cast;rfl,by simp;omega⟩
  ·rintro⟨y,b⟩ ⟨q1,q2⟩;dsimp only at q1 q2;subst q1;dsimp only;rw [if_neg (by omega)];exact⟨_,rfl,trivial⟩
  exact tot_some.2 λ_=>⟨hc,rfl,rfl,hrts⟩
 rename_i he;exact tot_some.2 λh=>absurd h he
section maps
variable {α β:Type} [DecidableEq α]
theorem qKH (q:α):cO ([]:List (α×β)) q=none:=rfl
theorem nA (x:α×β) (r:List (α×β)) (q:α):cO (x :: r) q=if x.1=q then some x.2 else cO r q:=by
 unfold cO;rw [List.find?_cons];by_cases h:x.1=q<;>simp [h]
theorem qFS (k:α) (v:β):uA ([]:List (α×β)) k v=[(k,v)]:=rfl
theorem qCC (x:α×β) (r:List (α×β)) (k:α) (v:β):uA (x :: r) k v=if x.1=k then (k,v) :: r else x :: uA r k v:=by
 unfold uA;rw [List.findIdx?_cons];by_cases h:x.1=k
 ·simp [h]
 simp only [h,decide_false,Bool.false_eq_true,if_false];cases r.findIdx? (λx=>decide (x.1=k))<;>simp
theorem qKG (fs:List (α×β)) (k:α) (v:β) (q:α):cO (uA fs k v) q=if q=k then some v else cO fs q:=by
 induction fs with
 | nil=>rw [qFS,nA,qKH];by_cases h:k=q<;>simp [h,eq_comm]
 | cons x r ih=>
  rw [qCC];by_cases h:x.1=k
  ·rw [if_pos h,nA,nA];by_cases h2:k=q
   ·simp [h2]
   rw [if_neg h2,if_neg (λe=>h2 e.symm),if_neg (by rw [h];exact h2)]
  rw [if_neg h,nA,nA,ih];by_cases h2:x.1=q
  ·rw [if_pos h2,if_pos h2,if_neg (λe=>h (h2.trans e))]
  rw [if_neg h2,if_neg h2]
theorem zDR {fs:List (α×β)} {k:α} {v:β} {x:α×β} (h:x∈uA fs k v):x=(k,v)\/x∈fs:=by
 induction fs with
 | nil=>rw [qFS] at h;exact .inl (List.mem_singleton.1 h)
 | cons y r ih=>
  rw [qCC] at h;split at h
  ·rcases zQB.1 h with h|h
   ·exact .inl h
   exact .inr (List.mem_cons_of_mem _ h)
  rcases zQB.1 h with h|h
  ·exact .inr (h ▸ List.mem_cons_self ..)
  exact (ih h).imp id (List.mem_cons_of_mem _)
theorem qJU {fs:List (α×β)} (h:(fs.map (·.1)).Nodup) (k:α) (v:β):((uA fs k v).map (·.1)).Nodup:=by
 induction fs with
 | nil=>rw [qFS];simp
 | cons y r ih=>
  rw [List.map_cons,List.nodup_cons] at h;rw [qCC];by_cases e:y.1=k
  ·rw [if_pos e,List.map_cons,List.nodup_cons];exact⟨by rw [<- e];exact h.1,h.2⟩
  rw [if_neg e,List.map_cons,List.nodup_cons];refine⟨λhm=>?_,ih h.2⟩;obtain⟨x,hx,he⟩:=List.mem_map.1 hm;rcases zDR hx with rfl|hx
  ·exact e he.symm
  exact h.1 (he ▸ List.mem_map_of_mem hx)
end maps
theorem qCB {β:Type} (g:Nat->List β) (i:Nat):(List.range (i+1)).flatMap g=(List.range i).flatMap g++g i:=by
 rw [List.range_succ,List.flatMap_append];simp
theorem dS {β:Type} (g:Nat->List β) (m:Nat) (h:∀ i,(g i).length<=m):∀ n,((List.range n).flatMap g).length<=n * m
 | 0=>by simp
 | n+1=>by
  rw [qCB,zQL,Nat.add_mul];have:=dS g m h n;have:=h n;omega
theorem gP {β ρ:Type} {f:Int×List β->Option ((Int×List β) ⊕ ρ)} (n:Nat) (g:Nat->List β) (b0:List β) {w:ρ} (hn:n<=1000000000) (hf:∀ i,i < n->f ((i:Int),b0++(List.range i).flatMap g)=some (.inl ((i:Int)+1,b0++((List.range i).flatMap g++g i)))) (he:f ((n:Int),b0++(List.range n).flatMap g)=some (.inr w)):aY f (0,b0)=some w:=
 jK n (λi=>b0++(List.range i).flatMap g) (by simp) (by omega) (λi hi=>by rw [hf i hi,qCB]) he
def qM (a b:List Int):Bool:=a.any λx=>decide (x∈b)
theorem meets_iff {a b:List Int}:qM a b=true↔∃ x,x∈a/\x∈b:=by simp [qM]
theorem qDH {a b c d:List Int} (h1:∀ x,x∈a↔x∈c) (h2:∀ x,x∈b↔x∈d):qM a b=qM c d:=by
 rw [Bool.eq_iff_iff,meets_iff,meets_iff];simp only [h1,h2]
theorem zDZ (A B:List Int) (hA:yX A) (hB:yX B) (hl:A.length+B.length<=100000000):Tot (iH A B dR) λr=>(0 < r.length↔∃ x,x∈A/\x∈B):=by
 unfold iH;refine aF (P:=λr=>(0 < r.length↔∃ x,x∈A/\x∈B)) (cC (λi s=>yX s.1/\yX s.2.1/\s.1.length+s.2.1.length+i<=A.length+B.length/\s.2.2.length<=i/\((0 < s.2.2.length\/∃ x,x∈s.1/\x∈s.2.1)↔∃ x,x∈A/\x∈B)) (A.length+B.length) (by omega) ⟨hA,hB,by simp,by simp,by simp⟩ ?_ ?_) λr h=>tot_some.2 h
 ·rintro i ⟨a,b,o⟩ hi ⟨q1,q2,q3,q4,q5⟩;dsimp only at q1 q2 q3 q4 q5 ⊢
  match a,b,q1,q2,q3,q5 with
  | [],[],_,_,_,q5=>rw [if_neg (by simp)];exact⟨_,rfl,by simpa using q5⟩
  | [],y :: b,q1,q2,q3,q5=>
   have e:sub (y :: b) (1:Int) ((y :: b).length:Int)=b:=by rw [show (1:Int)=((1:Nat):Int) from rfl,lM];rfl
   have hg:aU (y :: b) (0:Int) (λe36=>aC (0<=(1:Int)/\(1:Int)<=((y :: b).length:Int)/\((y :: b).length:Int)<=((y :: b).length:Int)) <| some (sub (y :: b) (1:Int) ((y :: b).length:Int),e36))=some (b,y):=by
    rw [gA (by omega) (show (y :: b)[(0:Int).toNat]?=some y from rfl),aA (by simp only [List.length_cons];omega),e]
   rw [if_pos (by simp)];simp only [List.length_nil,List.length_cons,Int.natCast_zero,Int.lt_irrefl,if_false,aD,if_pos (show (0:Int) < ((b.length+1:Nat):Int) by omega),if_true,Bool.false_eq_true] at hg ⊢;rw [hg];simp only [aD,dR,Bool.false_and,Bool.false_eq_true,if_false];refine⟨_,rfl,List.Pairwise.nil,(List.pairwise_cons.1 q2).2,?_,?_,?_⟩
   ·simp only [List.length_nil,List.length_cons] at q3 ⊢;omega
   ·show o.length<=i+1;omega
   simpa using q5
  | x :: a,[],q1,q2,q3,q5=>
   have e:sub (x :: a) (1:Int) ((x :: a).length:Int)=a:=by rw [show (1:Int)=((1:Nat):Int) from rfl,lM];rfl
   have hg:aU (x :: a) (0:Int) (λe36=>aC (0<=(1:Int)/\(1:Int)<=((x :: a).length:Int)/\((x :: a).length:Int)<=((x :: a).length:Int)) <| some (sub (x :: a) (1:Int) ((x :: a).length:Int),e36))=some (a,x):=by
    rw [gA (by omega) (show (x :: a)[(0:Int).toNat]?=some x from rfl),aA (by simp only [List.length_cons];omega),e]
   rw [if_pos (by simp)];simp only [List.length_nil,List.length_cons,Int.natCast_zero,Int.lt_irrefl,if_false,aD,if_pos (show (0:Int) < ((a.length+1:Nat):Int) by omega),if_true,Bool.false_eq_true] at hg ⊢;rw [hg];simp only [aD,dR,Bool.and_false,Bool.false_eq_true,if_false];refine⟨_,rfl,(List.pairwise_cons.1 q1).2,List.Pairwise.nil,?_,?_,?_⟩
   ·simp only [List.length_nil,List.length_cons] at q3 ⊢;omega
   ·show o.length<=i+1;omega
   simpa using q5
  | x :: a,y :: b,q1,q2,q3,q5=>
   have ea:sub (x :: a) (1:Int) ((x :: a).length:Int)=a:=by rw [show (1:Int)=((1:Nat):Int) from rfl,lM];rfl
   have eb:sub (y :: b) (1:Int) ((y :: b).length:Int)=b:=by rw [show (1:Int)=((1:Nat):Int) from rfl,lM];rfl
   have hga:aU (x :: a) (0:Int) (λe36=>aC (0<=(1:Int)/\(1:Int)<=((x :: a).length:Int)/\((x :: a).length:Int)<=((x :: a).length:Int)) <| some (sub (x :: a) (1:Int) ((x :: a).length:Int),e36))=some (a,x):=by
    rw [gA (by omega) (show (x :: a)[(0:Int).toNat]?=some x from rfl),aA (by simp only [List.length_cons];omega),ea]
   have hgb:∀ n:Int,aU (y :: b) (0:Int) (λe36=>aC (0<=(1:Int)/\(1:Int)<=((y :: b).length:Int)/\((y :: b).length:Int)<=((y :: b).length:Int)) <| some (sub (y :: b) (1:Int) ((y :: b).length:Int),e36))=some (b,y):=λ_=>by
    rw [gA (by omega) (show (y :: b)[(0:Int).toNat]?=some y from rfl),aA (by simp only [List.length_cons];omega),eb]
   have g0:∀ {γ:Type} (k:Int->Option γ),aU (x :: a) (0:Int) k=k x:=λk=>gA (by omega) rfl;have g1:∀ {γ:Type} (k:Int->Option γ),aU (y :: b) (0:Int) k=k y:=λk=>gA (by omega) rfl;have pa:=List.pairwise_cons.1 q1;have pb:=List.pairwise_cons.1 q2;rw [if_pos (by simp)];rw [if_pos (show (0:Int) < ((x :: a).length:Int) by simp only [List.length_cons];omega),if_neg (show ¬ ((y :: b).length:Int)=0 by simp only [List.length_cons];omega),g0,g1,aD,if_pos (show (0:Int) < ((y :: b).length:Int) by simp only [List.length_cons];omega),if_neg (show ¬ ((x :: a).length:Int)=0 by simp only [List.length_cons];omega),g1,g0,aD,hga,hgb 0];rcases Int.lt_trichotomy x y with h|h|h
   ·rw [decide_eq_true (show x <= y by omega), decide_eq_false (show ¬ y <= x by omega)];simp only [if_true,Bool.false_eq_true,if_false,aD,dR,Bool.and_false];refine⟨_,rfl,pa.2,q2,?_,?_,?_⟩
    ·simp only [List.length_cons] at q3 ⊢;omega
    ·show o.length<=i+1;omega
    rw [<- q5];refine or_congr Iff.rfl ⟨λ⟨z,h1,h2⟩=>⟨z,List.mem_cons_of_mem _ h1,h2⟩,λ⟨z,h1,h2⟩=>?_⟩;rcases zQB.1 h1 with rfl|h1
    ·rcases zQB.1 h2 with rfl|h2
     ·omega
     have:=pb.1 z h2;omega
    exact⟨z,h1,h2⟩
   ·subst h;rw [decide_eq_true (Int.le_refl x)];simp only [if_true,aD,dR,Bool.and_true];rw [aA (by simp only [zQL,List.length_cons,List.length_nil];omega)];refine⟨_,rfl,pa.2,pb.2,?_,?_,?_⟩
    ·simp only [List.length_cons] at q3 ⊢;omega
    ·simp only [zQL,List.length_cons,List.length_nil];omega
    rw [<- q5];exact⟨λ_=>.inr ⟨x,List.mem_cons_self ..,List.mem_cons_self ..⟩,λ_=>.inl (by simp)⟩
   rw [decide_eq_false (show ¬ x <= y by omega), decide_eq_true (show y <= x by omega)];simp only [if_true,Bool.false_eq_true,if_false,aD,dR,Bool.false_and];refine⟨_,rfl,q1,pb.2,?_,?_,?_⟩
   ·simp only [List.length_cons] at q3 ⊢;omega
   ·show o.length<=i+1;omega
   rw [<- q5];refine or_congr Iff.rfl ⟨λ⟨z,h1,h2⟩=>⟨z,h1,List.mem_cons_of_mem _ h2⟩,λ⟨z,h1,h2⟩=>?_⟩;rcases zQB.1 h2 with rfl|h2
   ·rcases zQB.1 h1 with rfl|h1
    ·omega
    have:=pa.1 z h1;omega
   exact⟨z,h1,h2⟩
 rintro⟨a,b,o⟩ ⟨q1,q2,q3,q4,q5⟩;dsimp only at q1 q2 q3 q4 q5 ⊢;obtain rfl:a=[]:=List.eq_nil_of_length_eq_zero (by omega);obtain rfl:b=[]:=List.eq_nil_of_length_eq_zero (by omega);rw [if_neg (by simp)];exact⟨_,rfl,by simpa using q5⟩
theorem zCQ (a b:List Int) (ha:a.length<=10000000) (hb:b.length<=10000000):Tot (mC a b) λr=>(0 < r.length↔qM a b=true):=by
 unfold mC;rw [yE a (by omega),aD,yE b (by omega),aD];have h1:=qAV a;have h2:=qAV b;refine aF (zDZ _ _ (qAW a) (qAW b) (by omega)) λr hr=>tot_some.2 ?_;rw [hr,meets_iff];simp only [ascZ_mem]
theorem zCB (a b:List Int) (ha:a.length<=10000000) (hb:b.length<=10000000):Tot (hU a b) λr=>(0 < r.length↔qM a b=true):=by
 unfold hU oT;refine aF (P:=λr=>(0 < r.length↔qM a b=true)) ?_ λr h=>tot_some.2 h;refine aF (P:=λr=>(0 < r.length↔qM a b=true)) (cC (λi s=>s.2=(i:Int)/\yX s.1/\s.1.length<=i/\(0 < s.1.length↔qM (a.take i) b=true)) a.length (by omega) ⟨rfl,List.Pairwise.nil,zQW _,by simp [qM]⟩ ?_ ?_) λr h=>tot_some.2 h
 ·rintro i ⟨o,y⟩ hi ⟨q1,q2,q3,q4⟩;dsimp only at q1 q2 q3 q4;subst q1;dsimp only;have hx:=zQR hi;have ht:a.take (i+1)=a.take i++[a[i]]:=List.take_succ_eq_append_getElem hi;rw [if_pos (by omega),aH hx,qAG b _ (by omega),aD];by_cases hm:a[i]∈b
  ·rw [decide_eq_true hm, if_pos (by rfl), aH hx, qKA o _ q2 (by omega), aD, aA (bB hi (by omega))];refine tot_some.2 ⟨by push_cast;rfl,vW _ _ q2,by have:=vV a[i] o;show (jW a[i] o).length<=i+1;omega,?_⟩;have h1:0 < (jW a[i] o).length:=List.length_pos_iff.2 λh=>by have:=insZ_mem (s:=a[i]) (x:=a[i]) (l:=o);rw [h] at this;simp at this
   refine⟨λ_=>meets_iff.2 ⟨a[i],by rw [ht];exact List.mem_append_right _ (List.mem_singleton.2 rfl),hm⟩,λ_=>h1⟩
  rw [decide_eq_false hm, if_neg (by simp), aA (bB hi (by omega))];refine tot_some.2 ⟨by push_cast;rfl,q2,by show o.length<=i+1;omega,?_⟩;show 0 < o.length↔_;rw [q4,meets_iff,meets_iff,ht];constructor
  ·rintro⟨x,h1,h2⟩;exact⟨x,List.mem_append_left _ h1,h2⟩
  rintro⟨x,h1,h2⟩;rcases zQN.1 h1 with h1|h1
  ·exact⟨x,h1,h2⟩
  rw [List.mem_singleton] at h1;subst h1;exact absurd h2 hm
 rintro⟨o,y⟩ ⟨q1,q2,q3,q4⟩;dsimp only at q1 q2 q3 q4;subst q1;dsimp only;rw [if_neg (by omega)];refine⟨_,rfl,?_⟩;rw [List.take_length] at q4;exact q4
def xQ (l:Ag) (s:An):Option Int:=if 0<=s.el then (l.Af[s.el.toNat]?).map (·.As) else none
def zE (l:Ag) (w:List An):List Int:=w.filterMap (xQ l)
theorem sO (l:Ag) {w:List An} {i:Nat} {s:An} (h:w[i]?=some s) (x:Int):x∈zE l (w.take (i+1))↔x∈zE l (w.take i)\/xQ l s=some x:=by
 obtain⟨hi,rfl⟩:=zQQ.1 h;rw [List.take_succ_eq_append_getElem hi];simp only [zE,List.filterMap_append,zQN,List.mem_filterMap,List.mem_singleton,exists_eq_left]
theorem qKI (l:List Int) (x:Int):cO (l.map λy=>(y,true)) x=if x∈l then some true else none:=by
 induction l with
 | nil=>rfl
 | cons y r ih=>
  rw [List.map_cons,nA,ih];by_cases h:y=x
  ·subst h;simp
  rw [if_neg h];have:x≠y:=λe=>h e.symm;simp [this]
theorem qWC (l:Ag) (w:List An) (hw:w.length<=1000000):Tot (jY l w) λr=>r.length<=w.length/\∀ x,x∈r↔x∈zE l w:=by
 unfold jY;refine aF (P:=λo=>o.1.length<=w.length/\∀ x,x∈o.1↔x∈zE l w) (cC (λi s=>s.1=(i:Int)/\s.2.1.length<=i/\s.2.1.Nodup/\s.2.2=s.2.1.map (λy=>(y,true))/\∀ x,x∈s.2.1↔x∈zE l (w.take i)) w.length (by omega) ⟨rfl,zQW _,List.nodup_nil,rfl,by simp [zE]⟩ ?_ ?_) ?_
 ·rintro i ⟨y,b,m⟩ hi ⟨q1,q2,q3,q4,q5⟩;dsimp only at q1 q2 q3 q4 q5;subst q1 q4;dsimp only;have hx:=zQR hi;rw [if_pos (by omega),aH hx];unfold rF;rw [aD,<- Bool.decide_and];by_cases he:0<=w[i].el/\w[i].el < (l.Af.length:Int)
  ·rw [decide_eq_true he, if_neg (by simp)];have hel:=zQR (l:=l.Af) (show w[i].el.toNat < l.Af.length by omega);have hs:xQ l w[i]=some (l.Af[w[i].el.toNat]'(by omega)).As:=by unfold xQ;rw [if_pos he.1,hel];rfl
   have hnd:((b.map λy=>(y,true)).map (·.1)).Nodup:=by simpa [List.map_map,Function.comp_def] using q3
   rw [gA he.1 hel,aA hnd,qKI];generalize (l.Af[w[i].el.toNat]'(by omega)).As=z at hs;by_cases hz:z∈b
   ·rw [if_pos hz, if_neg (by simp), aA (bB hi (by omega))];refine tot_some.2 ⟨by push_cast;rfl,by show b.length<=i+1;omega,q3,rfl,λx=>?_⟩;rw [sO l hx,hs,<- q5];constructor
    ·exact .inl
    rintro (h|h)
    ·exact h
    cases h;exact hz
   rw [if_neg hz, if_pos (by simp), aA hnd, aA (by simp only [zQL, List.length_cons, List.length_nil]; omega), aA (bB hi (by omega)), qOU (by rw [qKI, if_neg hz])];refine tot_some.2 ⟨by push_cast;rfl,by simp only [zQL,List.length_cons,List.length_nil];omega,?_,by simp,λx=>?_⟩
   ·show (b++[z]).Nodup;rw [List.nodup_append];exact⟨q3,by simp,λa ha c hc=>by rw [List.mem_singleton] at hc;subst hc;rintro rfl;exact hz ha⟩
   rw [sO l hx,hs,<- q5,zQN,List.mem_singleton];refine or_congr Iff.rfl ⟨λh=>by rw [h],λh=>(Option.some.inj h).symm⟩
  rw [decide_eq_false he, if_pos (by rfl), aA (bB hi (by omega))]
  have hs:xQ l w[i]=none:=by
   unfold xQ;split
   ·rw [List.getElem?_eq_none (by omega)];rfl
   rfl
  refine tot_some.2 ⟨by push_cast;rfl,by show b.length<=i+1;omega,q3,rfl,λx=>?_⟩;rw [sO l hx,hs,<- q5];simp
 ·rintro⟨y,b,m⟩ ⟨q1,q2,q3,q4,q5⟩;dsimp only at q1 q2 q3 q4 q5;subst q1;dsimp only;rw [if_neg (by omega)];refine⟨_,rfl,q2,?_⟩;rw [List.take_length] at q5;exact q5
 rintro⟨b,m⟩ h;exact tot_some.2 h
theorem qKF (l:Ag) (b:Bc) (hw:b.steps.length<=1000000):Tot (iK l b) λr=>r.length<=1000000/\∀ x,x∈r↔x∈zE l b.steps:=by
 unfold iK;refine aF (qWC l b.steps hw) ?_;rintro r ⟨h1,h2⟩;rw [aA (by omega)];exact tot_some.2 ⟨by rw [gU];omega,λx=>by rw [qJO,h2]⟩
theorem qOD (l:Ag) (b:Bc) (hw:b.steps.length<=1000000) (hp:∀ e∈l.Af,0<=e.As):Tot (dP l b) λr=>r.length<=1000000/\∀ x,x∈r↔x∈zE l b.steps:=by
 unfold dP;refine aF (P:=λo=>o.length<=b.steps.length/\∀ x,x∈o↔x∈zE l b.steps) (cC (λi s=>s.1=(i:Int)/\s.2.length<=i/\∀ x,x∈s.2↔x∈zE l (b.steps.take i)) b.steps.length (by omega) ⟨rfl,zQW _,by simp [zE]⟩ ?_ ?_) ?_
 ·rintro i ⟨y,o⟩ hi ⟨q1,q2,q3⟩;dsimp only at q1 q2 q3;subst q1;dsimp only;have hx:=zQR hi;rw [if_pos (by omega),aH hx];unfold dB;by_cases he:0<=b.steps[i].el/\b.steps[i].el < (l.Af.length:Int)
  ·have hel := zQR (l := l.Af) (show b.steps[i].el.toNat < l.Af.length by omega);have hs:xQ l b.steps[i]=some (l.Af[b.steps[i].el.toNat]'(by omega)).As:=by unfold xQ;rw [if_pos he.1,hel];rfl
   have h0:=hp _ (List.getElem_mem (show b.steps[i].el.toNat < l.Af.length by omega));rw [if_neg (by simp only [Bool.or_eq_true,decide_eq_true_eq];omega),gA he.1 hel,aD,if_pos h0,aA (by simp only [zQL,List.length_cons,List.length_nil];omega),aA (bB hi (by omega))];refine tot_some.2 ⟨by push_cast;rfl,by simp only [zQL,List.length_cons,List.length_nil];omega,λx=>?_⟩;rw [sO l hx,hs,<- q3,zQN,List.mem_singleton];refine or_congr Iff.rfl ⟨λh=>by rw [h],λh=>(Option.some.inj h).symm⟩
  rw [if_pos (by simp only [Bool.or_eq_true, decide_eq_true_eq]; omega), aD, if_neg (by omega), aA (bB hi (by omega))]
  have hs:xQ l b.steps[i]=none:=by
   unfold xQ;split
   ·rw [List.getElem?_eq_none (by omega)];rfl
   rfl
  refine tot_some.2 ⟨by push_cast;rfl,by show o.length<=i+1;omega,λx=>?_⟩;rw [sO l hx,hs,<- q3];simp
 ·rintro⟨y,o⟩ ⟨q1,q2,q3⟩;dsimp only at q1 q2 q3;subst q1;dsimp only;rw [if_neg (by omega)];refine⟨_,rfl,q2,?_⟩;rw [List.take_length] at q3;exact q3
 rintro r ⟨h1,h2⟩;rw [qXE r (by omega),aD];exact tot_some.2 ⟨by have:=qAV r;omega,λx=>by rw [ascZ_mem,h2]⟩
def zV (l:Ag) (a b:Bc):Bool:=qM (zE l a.steps) (zE l b.steps)
theorem qXD (l:Ag) (u v:Av) (w:Am) (hl:w.layout=l) (h1:u.body.steps.length<=1000000) (h2:v.body.steps.length<=1000000):dV u v w=some (zV l u.body v.body):=by
 subst hl
 have:Tot (dV u v w) λr=>r=zV w.layout u.body v.body:=by
  unfold dV;refine aF (qKF _ _ h1) λr1 ⟨a1,a2⟩=>aF (qKF _ _ h2) λr2 ⟨b1,b2⟩=>aF (zCQ r1 r2 (by omega) (by omega)) λr hr=>tot_some.2 ?_;rw [Bool.eq_iff_iff,decide_eq_true_eq];unfold zV;rw [<- qDH a2 b2,<- hr];omega
 obtain⟨r,h,rfl⟩:=this;exact h
theorem zAV (l:Ag) (a b:Bc) (h1:a.steps.length<=1000000) (h2:b.steps.length<=1000000) (hp:∀ e∈l.Af,0<=e.As):Tot (dP l a) λr1=>Tot (dP l b) λr2=>Tot (hU r1 r2) λr=>decide ((0:Int) < (r.length:Int))=zV l a b:=
 gE (qOD l a h1 hp) λr1 ⟨a1,a2⟩=>gE (qOD l b h2 hp) λr2 ⟨b1,b2⟩=>gE (zCB r1 r2 (by omega) (by omega)) λr hr=>by
  rw [Bool.eq_iff_iff,decide_eq_true_eq];unfold zV;rw [<- qDH a2 b2,<- hr];omega
structure WOk (w:Am):Prop where
 units:w.units.length<=10
 steps:∀ u∈w.units,u.body.steps.length<=100
 clear:w.clear.length<=40
 tracks:w.center.tracks.length<=10
 claims:∀ k∈w.center.tracks,k.Ab.length<=60
 Ab:w.Aq.Ab.length<=50
 iroutes:w.inter.Ab.length<=50
 Ae:w.Aq.Ae.length<=40
 machines:w.machines.length<=40
 Af:w.layout.Af.length<=40
 Aq:TOk w.Aq
 setts:SOk w.Aq
structure WVal (w:Am):Prop where
 Ad:∀ e∈w.layout.Af,0<=e.As
 Af:w.layout.Af.length<=32
 steps:∀ u∈w.units,∀ s∈u.body.steps,0<=s.el/\s.el < (w.layout.Af.length:Int)
 sound:mK w.Aq w.inter=true
 same:w.inter.Ab.length=w.Aq.Ab.length
 some:w.units≠[]
theorem qXF {β ρ:Type} {f:Int×List β->Option ((Int×List β) ⊕ ρ)} (o n:Nat) (g:Nat->List β) (b0:List β) {w:ρ} {s:Int} (hs:s=(o:Int)) (hn:n<=1000000000) (hf:∀ i,i < n->f (((o+i:Nat):Int),b0++(List.range i).flatMap g)=some (.inl (((o+i:Nat):Int)+1,b0++((List.range i).flatMap g++g i)))) (he:f (((o+n:Nat):Int),b0++(List.range n).flatMap g)=some (.inr w)):aY f (s,b0)=some w:=
 iP (λi=>(((o+i:Nat):Int),b0++(List.range i).flatMap g)) n (by rw [hs];simp) (by omega) (λi hi=>by rw [hf i hi,qCB];rfl) he
def atF {α:Type} (l:List α) (f:α->List Ac) (i:Nat):List Ac:=match l[i]? with
 | some a=>f a
 | none=>[]
theorem qCW {α:Type} {l:List α} {f:α->List Ac} {i:Nat} {a:α} (h:l[i]?=some a):atF l f i=f a:=by simp only [atF,h]
theorem yT {α:Type} {l:List α} {f:α->List Ac} {m:Nat} (h:∀ a∈l,(f a).length<=m) (i:Nat):(atF l f i).length<=m:=by
 unfold atF
 cases hx:l[i]? with
 | none=>simp
 | some a=>exact h a (zQM hx)
def vN (w:Am) (i j:Nat):List Ac:=match w.units[i]?,w.units[j]? with
 | some a,some b=>if zV w.layout a.body b.body=true then [⟨1,a.cab.train.id,b.cab.train.id⟩] else []
 | _,_=>[]
theorem qFY (w:Am) (i j:Nat):(vN w i j).length<=1:=by
 unfold vN;split
 ·split<;>simp
 simp
theorem qPA {w:Am} {i j:Nat} {a b:Av} (ha:w.units[i]?=some a) (hb:w.units[j]?=some b):vN w i j=if zV w.layout a.body b.body=true then [⟨1,a.cab.train.id,b.cab.train.id⟩] else []:=by simp only [vN,ha,hb]
def zG (w:Am) (i:Nat):List Ac:=(List.range (w.units.length - (i+1))).flatMap λk=>vN w i (i+1+k)
theorem zDO {w:Am} (h:WOk w) (i:Nat):(zG w i).length<=10:=by
 have:=dS (λk=>vN w i (i+1+k)) 1 (λ_=>qFY _ _ _) (w.units.length - (i+1));have:=h.units;unfold zG;omega
def qCU (w:Am):List Ac:=(List.range w.units.length).flatMap (zG w)
theorem qGW {w:Am} (h:WOk w) {i:Nat} (hi:i<=w.units.length):((List.range i).flatMap (zG w)).length<=100:=by
 have:=dS (zG w) 10 (zDO h) i;have:=h.units;omega
theorem qKD {w:Am} (h:WOk w):dI w=some (qCU w):=by
 have hn:=h.units;unfold dI dL;rw [gP w.units.length (zG w) [] (w:=qCU w) (by omega) ?_ ?_]
 ·rfl
 ·intro i hi;have hx:=zQR hi;have hl:=qGW h (show i<=w.units.length by omega);dsimp only;rw [if_pos (by omega),aH hx,aA (bB hi (by omega)),aA (by omega),show (i:Int)+1=((i+1:Nat):Int) by push_cast;rfl,lM];have hdl:(w.units.drop (i+1)).length=w.units.length - (i+1):=by simp
  rw [gP (w.units.length - (i+1)) (λk=>vN w i (i+1+k)) ([]++(List.range i).flatMap (zG w)) (w:=[]++((List.range i).flatMap (zG w)++zG w i)) (by omega) ?_ ?_]
  ·rw [aD,aA (by unfold I64;omega)]
  ·intro k hk;have hj:i+1+k < w.units.length:=by omega
   have hy:=zQR hj;have hz:(w.units.drop (i+1))[k]?=some w.units[i+1+k]:=by rw [List.getElem?_drop];exact hy
   have hkl:=dS (λk=>vN w i (i+1+k)) 1 (λ_=>qFY _ _ _) k;dsimp only;rw [if_pos (by omega),aH hz,qXD w.layout _ _ w rfl (by have:=h.steps _ (List.getElem_mem hi);omega) (by have:=h.steps _ (List.getElem_mem hj);omega),aD,qPA hx hy];by_cases hm:zV w.layout w.units[i].body w.units[i+1+k].body=true
   ·rw [if_pos hm,if_pos hm];unfold fW;rw [aD,aA (by simp only [zQL,List.length_cons,List.length_nil];omega),aA (by unfold I64;omega),List.append_assoc]
   rw [if_neg hm,if_neg hm,aA (by unfold I64;omega),List.append_nil]
  dsimp only;rw [if_neg (by omega),List.append_assoc];rfl
 dsimp only;rw [if_neg (by omega)];rfl
theorem qQP {w:Am} (h:WOk w) (v:WVal w):dX w=some (qCU w):=by
 have hn:=h.units;unfold dX;rw [gP w.units.length (zG w) [] (w:=qCU w) (by omega) ?_ ?_]
 ·rfl
 ·intro i hi;have hx:=zQR hi;have hl:=qGW h (show i<=w.units.length by omega);dsimp only;rw [if_pos (by omega),aA (bB hi (by omega))];rw [qXF (i+1) (w.units.length - (i+1)) (λk=>vN w i (i+1+k)) ([]++(List.range i).flatMap (zG w)) (w:=[]++((List.range i).flatMap (zG w)++zG w i)) (by push_cast;rfl) (by omega) ?_ ?_]
  ·rw [aD,aA (by unfold I64;omega)]
  ·intro k hk;have hj:i+1+k < w.units.length:=by omega
   have hy:=zQR hj;have hkl:=dS (λk=>vN w i (i+1+k)) 1 (λ_=>qFY _ _ _) k;dsimp only;obtain⟨r1,e1,r2,e2,r,e3,e4⟩:=zAV w.layout w.units[i].body w.units[i+1+k].body (by have:=h.steps _ (List.getElem_mem hi);omega) (by have:=h.steps _ (List.getElem_mem hj);omega) v.Ad;rw [if_pos (by omega),aH hx,e1,aD,aH hy,e2,aD,e3,aD,qPA hx hy];by_cases hm:zV w.layout w.units[i].body w.units[i+1+k].body=true
   ·rw [hm] at e4;rw [if_pos (of_decide_eq_true e4),if_pos hm,aH hx,aH hy,aA (by simp only [zQL,List.length_cons,List.length_nil];omega),aA (by unfold I64;omega),List.append_assoc]
   rw [Bool.not_eq_true] at hm;rw [hm] at e4;rw [if_neg (of_decide_eq_false e4),hm,if_neg Bool.false_ne_true,aA (by unfold I64;omega),List.append_nil]
  dsimp only;rw [if_neg (by omega),List.append_assoc];rfl
 dsimp only;rw [if_neg (by omega)];rfl
def ovF (u:Av):List Ac:=if u.cab.mode=2/\u.cab.auth.endV < u.xV then [⟨2,u.cab.train.id,0⟩] else []
theorem zAK (u:Av):ovF u=if u.cab.mode=2/\u.cab.auth.endV < u.xV then [⟨2,u.cab.train.id,0⟩] else []:=rfl
theorem qSS (u:Av):(ovF u).length<=1:=by unfold ovF;split<;>simp
def ovS (w:Am):List Ac:=(List.range w.units.length).flatMap (atF w.units ovF)
theorem qWX {w : Am} (h : WOk w) {r : List Ac} (hr : r.length <= 1000) : aY (fun (x7, b8) =>
   if x7 < (w.units.length : Int) then
    aU w.units x7 fun e11 =>
    aB (
     aB (gO e11.cab.mode) fun r14 =>
     if r14 = true then
      some (decide (e11.cab.auth.endV < e11.xV))
     else
      some false) fun x12 =>
    if x12 = true then
     aC ((b8 ++ ([(⟨(2 : Int), e11.cab.train.id, (0 : Int)⟩ : Ac)] : List Ac)).length <= 1000000000) <|
     aC (I64 (x7 + (1 : Int))) <|
     some (.inl ((x7 + (1 : Int)), (b8 ++ ([(⟨(2 : Int), e11.cab.train.id, (0 : Int)⟩ : Ac)] : List Ac))))
    else
     aC (I64 (x7 + (1 : Int))) <|
     some (.inl ((x7 + (1 : Int)), b8))
   else
    aQ (
     some b8)) ((0 : Int), r) = some (r ++ ovS w) := by
 have hn:=h.units;refine gP w.units.length (atF w.units ovF) r (by omega) (λi hi=>?_) ?_
 ·have hx:=zQR hi;have hl:=dS (atF w.units ovF) 1 (yT λu _=>qSS u) i;dsimp only;rw [if_pos (by omega),aH hx,qCW hx,zAK];unfold gO;rw [aD];by_cases h1:w.units[i].cab.mode=2
  ·rw [decide_eq_true h1,if_pos rfl,aD];by_cases h2:w.units[i].cab.auth.endV < w.units[i].xV
   ·rw [decide_eq_true h2,if_pos rfl,if_pos ⟨h1,h2⟩,aA (by simp only [zQL,List.length_cons,List.length_nil];omega),aA (bB hi (by omega)),List.append_assoc]
   rw [decide_eq_false h2,if_neg Bool.false_ne_true,if_neg (λq=>h2 q.2),aA (bB hi (by omega)),List.append_nil]
  rw [decide_eq_false h1,if_neg Bool.false_ne_true,aD,if_neg Bool.false_ne_true,if_neg (λq=>h1 q.1),aA (bB hi (by omega)),List.append_nil]
 dsimp only;rw [if_neg (by omega)];rfl
theorem zAJ {w:Am} (h:WOk w):iT w=some (ovS w):=by
 have hn:=h.units;unfold iT;rw [gP w.units.length (atF w.units ovF) [] (w:=ovS w) (by omega) ?_ ?_]
 ·rfl
 ·intro i hi;have hx:=zQR hi;have hl:=dS (atF w.units ovF) 1 (yT λu _=>qSS u) i;dsimp only;rw [if_pos (by omega),aH hx,qCW hx,zAK,<- Bool.decide_and];by_cases h1:w.units[i].cab.mode=2/\w.units[i].cab.auth.endV < w.units[i].xV
  ·rw [decide_eq_true h1,if_pos rfl,if_pos h1,aA (by simp only [zQL,List.length_cons,List.length_nil];omega),aA (bB hi (by omega)),List.append_assoc]
  rw [decide_eq_false h1,if_neg Bool.false_ne_true,if_neg h1,aA (bB hi (by omega)),List.append_nil]
 dsimp only;rw [if_neg (by omega)];rfl
def lH:List Int->List Ar->Int->Int
 | [],_,_=>0
 | p :: r, ms, el => if p = el then (match ms with
  | [] => 0
  | m :: _ => m.pos) else lH r ms.tail el
def qIV (t:Al) (ms:List Ar) (n:Nat):List Int:=if 32 < n then [] else (List.range n).map λ(e:Nat)=>lH t.Ae ms (e:Int)
theorem qXH (p : Int) (r : List Int) (ms : List Ar) (el : Int) : lH (p :: r) ms el = if p = el then (match ms with
  | [] => 0
  | m :: _ => m.pos) else lH r ms.tail el := rfl
theorem qPM:∀ (ps:List Int) (ms:List Ar) (el:Int),lH ps ms el=match fQ ps el with
  | some k => (match ms[k]? with
   | some m => m.pos
   | none => 0)
  | none=>0
 | [],ms,el=>rfl
 | p :: r,ms,el=>by
  unfold lH fQ;rw [List.findIdx?_cons];by_cases h:p=el
  ·rw [if_pos h, if_pos (by simpa using h)];cases ms<;>rfl
  rw [if_neg h, if_neg (by simpa using h), qPM r ms.tail el];unfold fQ
  cases r.findIdx? (λy=>y == el) with
  | none=>rfl
  | some k=>cases ms<;>simp
theorem wP (n:Nat) (F:Nat->Int) {i:Nat} (v:Int):((List.range n).map F).set i v=(List.range n).map λe=>if e=i then v else F e:=by
 apply List.ext_getElem (by simp);intro j h1 h2;simp only [List.getElem_set,List.getElem_map,List.getElem_range];by_cases h:i=j
 ·rw [if_pos h,if_pos h.symm]
 rw [if_neg h,if_neg (λe=>h e.symm)]
theorem pF {n:Nat} {F G:Nat->Int} (h:∀ e,e < n->F e=G e):(List.range n).map F=(List.range n).map G:=List.map_congr_left λe he=>h e (List.mem_range.1 he)
theorem zAD (t:Al) (ms:List Ar) (n:Nat) (ht:t.Ae.length<=1000) (hm:ms.length<=1000):iI t ms (n:Int)=some (qIV t ms n):=by
 unfold iI qIV;by_cases hn:32 < n
 ·rw [if_pos (by simp only [Bool.or_eq_true,decide_eq_true_eq];omega),if_pos hn]
 rw [if_neg (by simp only [Bool.or_eq_true, decide_eq_true_eq]; omega), if_neg hn, aA (by omega)];rw [jK n (λi=>(List.range n).map λe=>if e < i then lH t.Ae ms (e:Int) else 0) (o:=(List.range n).map λ(e:Nat)=>lH t.Ae ms (e:Int)) ?_ (by omega) ?_ ?_]
 ·rfl
 ·apply List.ext_getElem (by simp);intro j h1 h2;simp
 ·intro i hi;dsimp only;have hb:((List.range n).map λe=>if e < i then lH t.Ae ms (e:Int) else 0)[i]?=some 0:=by rw [zQP,List.getElem?_range hi];simp
  have hs:∀ v,v=lH t.Ae ms (i:Int)->((List.range n).map λe=>if e < i then lH t.Ae ms (e:Int) else 0).set i v=(List.range n).map λe=>if e < i+1 then lH t.Ae ms (e:Int) else 0:=λv hv=>by
   rw [wP];refine pF λe he=>?_;by_cases h:e=i
   ·rw [if_pos h,if_pos (by omega),h,hv]
   rw [if_neg h];by_cases h2:e < i
   ·rw [if_pos h2,if_pos (by omega)]
   rw [if_neg h2,if_neg (by omega)]
  have hz:lH t.Ae ms (i:Int)=0->((List.range n).map λe=>if e < i then lH t.Ae ms (e:Int) else 0)=(List.range n).map λe=>if e < i+1 then lH t.Ae ms (e:Int) else 0:=λhv=>by
   refine pF λe he=>?_;by_cases h:e=i
   ·rw [if_neg (by omega),if_pos (by omega),h,hv]
   by_cases h2:e < i
   ·rw [if_pos h2,if_pos (by omega)]
   rw [if_neg h2,if_neg (by omega)]
  rw [if_pos (by simp;omega),wO t _ (by unfold Cnt;omega),aD];have hl:=qPM t.Ae ms (i:Int)
  cases hk:fQ t.Ae (i:Int) with
  | none=>
   rw [hk] at hl;rw [if_neg (by simp [uR]),aA (bB hi (by omega)),hz hl]
  | some k=>
   rw [hk] at hl;by_cases hkm:k < ms.length
   ·have hy:=zQR hkm;dsimp only at hl;rw [hy] at hl;rw [if_pos (by simp [uR];omega)];show aU ms (k:Int) _=_;rw [aH hy,aH hb,aA (bB hi (by omega)),Int.toNat_natCast,hs _ hl.symm]
   dsimp only at hl;rw [List.getElem?_eq_none (by omega)] at hl;rw [if_neg (by simp [uR];omega),aA (bB hi (by omega)),hz hl]
 dsimp only;rw [if_neg (by simp)];show some (Sum.inr _)=_
 congr 2
 refine pF λe he=>?_;rw [if_pos he]
theorem qXG (ps : List Int) (ms : List Ar) {j : Nat} {p : Int} (h : ps[j]? = some p) (el : Int) : lH (ps.drop j) (ms.drop j) el = if p = el then (match ms[j]? with
  | some m => m.pos
  | none => 0) else lH (ps.drop (j + 1)) (ms.drop (j + 1)) el := by
 obtain⟨hj,rfl⟩:=zQQ.1 h;rw [List.drop_eq_getElem_cons hj,qXH,List.tail_drop];split
 ·by_cases hm:j < ms.length
  ·rw [List.drop_eq_getElem_cons hm,zQR hm]
  rw [List.drop_eq_nil_of_le (by omega),List.getElem?_eq_none (by omega)]
 rfl
theorem zDU (t:Al) (ms:List Ar) (n:Nat) (ht:t.Ae.length<=1000) (hm:ms.length<=1000):iE t ms (n:Int)=some (qIV t ms n):=by
 unfold iE qIV;by_cases hn:32 < n
 ·rw [if_pos (by simp only [Bool.or_eq_true,decide_eq_true_eq];omega),if_pos hn]
 rw [if_neg (by simp only [Bool.or_eq_true, decide_eq_true_eq]; omega), if_neg hn, aA (by omega), aA (by unfold I64; omega)];rw [iP (λk=>((t.Ae.length:Int) - 1 - (k:Int),(List.range n).map λ(e:Nat)=>lH (t.Ae.drop (t.Ae.length - k)) (ms.drop (t.Ae.length - k)) (e:Int))) t.Ae.length (o:=(List.range n).map λ(e:Nat)=>lH t.Ae ms (e:Int)) ?_ (by omega) ?_ ?_]
 ·rfl
 ·rw [Nat.sub_zero,List.drop_length];simp only [Prod.mk.injEq,Int.natCast_zero,Int.sub_zero,true_and];apply List.ext_getElem (by simp);intro j h1 h2;simp [lH]
 ·intro k hk;have hj:t.Ae.length - (k+1) < t.Ae.length:=by omega
  have hx:=zQR hj;have hjk:t.Ae.length - k=t.Ae.length - (k+1)+1:=by omega
  have hd:=qXG t.Ae ms hx;dsimp only;rw [hjk];generalize hP:t.Ae[t.Ae.length - (k+1)]=p at hx hd;have hidx:(t.Ae.length:Int) - 1 - (k:Int)=((t.Ae.length - (k+1):Nat):Int):=by omega
  have hnext:(t.Ae.length:Int) - 1 - ((k+1:Nat):Int)=((t.Ae.length - (k+1):Nat):Int) - 1:=by omega
  rw [hidx,hnext,if_pos (by omega),aH hx];by_cases hp:0<=p/\p < (n:Int)
  ·rw [if_neg (by simp only [Bool.or_eq_true, decide_eq_true_eq]; omega)];obtain⟨q,rfl⟩:=Int.eq_ofNat_of_zero_le hp.1;have hq:q < n:=by omega
   have hg:∀ (F:Nat->Int),((List.range n).map F)[q]?=some (F q):=λF=>by rw [zQP,List.getElem?_range hq];rfl
   rw [aH (hg _)];by_cases hjm:t.Ae.length - (k+1) < ms.length
   ·have hy:=zQR hjm;rw [if_pos (by omega),aH hy,Int.toNat_natCast,wP,aH (hg _),aA (by unfold I64;omega),wP];refine congrArg some (congrArg Sum.inl (Prod.ext rfl (pF λe he=>?_)));rw [hd,hy];by_cases h:e=q
    ·rw [if_pos h,if_pos (by rw [h])]
    rw [if_neg h,if_neg h,if_neg (by omega)]
   rw [if_neg (by omega), Int.toNat_natCast, wP, aA (by unfold I64; omega)];refine congrArg some (congrArg Sum.inl (Prod.ext rfl (pF λe he=>?_)));rw [hd,List.getElem?_eq_none (by omega)];by_cases h:e=q
   ·rw [if_pos h,if_pos (by rw [h])]
   rw [if_neg h,if_neg (by omega)]
  rw [if_pos (by simp only [Bool.or_eq_true, decide_eq_true_eq]; omega), aA (by unfold I64; omega)];refine congrArg some (congrArg Sum.inl (Prod.ext rfl (pF λe he=>?_)));rw [hd,if_neg (by omega)]
 dsimp only;rw [if_neg (by omega),Nat.sub_self,List.drop_zero,List.drop_zero];rfl
end Go.Proofs.YtofndjhpbonpbaaGreatDoor
set_option linter.unusedVariables false
set_option linter.unusedSimpArgs false
set_option maxHeartbeats 2000000
set_option maxRecDepth 100000
namespace Go.Proofs.YtofndjhpbonpbaaGreatDoor
open Go Go.TL
def jT (k i o:Int):Int:=if k=2/\(i=0/\o=1\/i=1/\o=0) then 1 else if k=2/\(i=0/\o=2\/i=2/\o=0) then 2 else 0
theorem zAS (k i o:Int):∃ b,dU k i o=some (jT k i o,b):=by
 have e0:¬ (k=2/\(i=0/\o=1\/i=1/\o=0))->¬ (k=2/\(i=0/\o=2\/i=2/\o=0))->jT k i o=0:=λh1 h2=>by unfold jT;rw [if_neg h1,if_neg h2]
 have e1:(k=2/\(i=0/\o=1\/i=1/\o=0))->jT k i o=1:=λh1=>by unfold jT;rw [if_pos h1]
 have e2:¬ (k=2/\(i=0/\o=1\/i=1/\o=0))->(k=2/\(i=0/\o=2\/i=2/\o=0))->jT k i o=2:=λh1 h2=>by unfold jT;rw [if_neg h1,if_pos h2]
 unfold dU;by_cases h1:k=1\/k=3
 ·rw [if_pos (by simpa using h1), e0 (by omega) (by omega)];exact⟨_,rfl⟩
 rw [if_neg (by simpa using h1)];by_cases h2:k=2/\min i o=0/\max i o=1
 ·rw [if_pos (by simpa using h2), e1 (by omega)];exact⟨_,rfl⟩
 rw [if_neg (by simpa using h2)];by_cases h3:k=2/\min i o=0/\max i o=2
 ·rw [if_pos (by simpa using h3), e2 (by omega) (by omega)];exact⟨_,rfl⟩
 rw [if_neg (by simpa using h3), e0 (by omega) (by omega)];exact⟨_,rfl⟩
def qFV (k i o:Int) (p:Br):Bool:=decide (p.kind=k)&&(decide (p.inV=i)&&decide (p.out=o))
theorem qWW:∀ p∈passages,p.need=jT p.kind p.inV p.out:=by decide
theorem zAH (k i o:Int) (h:jT k i o≠0):∃ p∈passages,qFV k i o p=true:=by
 unfold jT at h;split at h
 ·rename_i q;obtain⟨rfl,⟨rfl,rfl⟩|⟨rfl,rfl⟩⟩:=q
  ·exact⟨⟨2,0,1,1⟩,by decide,by decide⟩
  exact⟨⟨2,1,0,1⟩,by decide,by decide⟩
 split at h
 ·rename_i q;obtain⟨rfl,⟨rfl,rfl⟩|⟨rfl,rfl⟩⟩:=q
  ·exact⟨⟨2,0,2,2⟩,by decide,by decide⟩
  exact⟨⟨2,2,0,2⟩,by decide,by decide⟩
 exact absurd rfl h
theorem qXC (k i o:Int):∃ r b,pC k i o=some (r,b)/\(if b=true then r else 0)=jT k i o:=by
 unfold pC;rw [qJY passages (λp=>if qFV k i o p=true then some (.inr (p.need,true)) else none) (.inl ()) (by decide) ?_ ?_]
 ·cases hf:passages.findSome? (λp=>if qFV k i o p=true then some (Sum.inr (p.need,true):(_root_.Unit ⊕ (Int×Bool))) else none) with
  | none=>
   refine⟨0,false,rfl,?_⟩;rw [if_neg Bool.false_ne_true];by_cases h:jT k i o=0
   ·exact h.symm
   obtain⟨p,hp,hb⟩:=zAH k i o h;have:=List.findSome?_eq_none_iff.1 hf p hp;rw [if_pos hb] at this;cases this
  | some v=>
   obtain⟨p,hp,he⟩:=List.exists_of_findSome?_eq_some hf;by_cases hb:qFV k i o p=true
   ·rw [if_pos hb] at he;cases he;refine⟨p.need,true,rfl,?_⟩;rw [if_pos rfl,qWW p hp];unfold qFV at hb;simp only [zQA,decide_eq_true_eq] at hb;rw [hb.1,hb.2.1,hb.2.2]
   rw [if_neg hb] at he;cases he
 ·intro j e he;have hj:=(zQQ.1 he).1;have hj10:j < 10:=hj;rw [if_pos (by omega),aH he];show (if qFV k i o e=true then _ else _)=_;by_cases hb:qFV k i o e=true
  ·rw [if_pos hb,if_pos hb];rfl
  rw [if_neg hb,if_neg hb,aA (bB hj (by decide))]
 rfl
def ptF (w:Am) (u:Av) (s:An):List Ac:=match (if 0<=s.el then w.layout.Af[s.el.toNat]? else none),(qIV w.Aq w.machines w.layout.Af.length)[s.el.toNat]? with
 | some e,some p=>if jT e.kind s.inV s.out≠0/\p≠jT e.kind s.inV s.out then [⟨4,u.cab.train.id,s.el⟩] else []
 | _,_=>[]
theorem zAB (w:Am) (u:Av) (s:An):ptF w u s=match (if 0<=s.el then w.layout.Af[s.el.toNat]? else none),(qIV w.Aq w.machines w.layout.Af.length)[s.el.toNat]? with
 | some e,some p=>if jT e.kind s.inV s.out≠0/\p≠jT e.kind s.inV s.out then [⟨4,u.cab.train.id,s.el⟩] else []
 | _,_=>[]:=rfl
theorem qSO (w:Am) (u:Av) (s:An):(ptF w u s).length<=1:=by
 unfold ptF;split
 ·split<;>simp
 simp
def ptU (w:Am) (u:Av):List Ac:=(List.range u.body.steps.length).flatMap (atF u.body.steps (ptF w u))
theorem ptU_le {w:Am} (h:WOk w):∀ u∈w.units,(ptU w u).length<=100:=λu hu=>by
 have:=dS (atF u.body.steps (ptF w u)) 1 (yT λs _=>qSO w u s) u.body.steps.length;have:=h.steps u hu;unfold ptU;omega
def ptS (w:Am):List Ac:=(List.range w.units.length).flatMap (atF w.units (ptU w))
theorem qLV {w:Am} (h:WOk w) {i:Nat} (hi:i<=w.units.length):((List.range i).flatMap (atF w.units (ptU w))).length<=1000:=by
 have:=dS (atF w.units (ptU w)) 100 (yT (ptU_le h)) i;have:=h.units;omega
theorem qOW {w:Am} (h:WOk w):kA w=some (ptS w):=by
 have hn:=h.units;have hE:=h.Af;unfold kA;rw [zAD w.Aq w.machines w.layout.Af.length (by have:=h.Ae;omega) (by have:=h.machines;omega),aD];rw [gP w.units.length (atF w.units (ptU w)) [] (w:=ptS w) (by omega) ?_ ?_]
 ·rfl
 ·intro i hi;have hx:=zQR hi;have hl:=qLV h (show i<=w.units.length by omega);have hst:=h.steps _ (List.getElem_mem hi);dsimp only;rw [if_pos (by omega),aH hx,qCW hx];rw [gP w.units[i].body.steps.length (atF w.units[i].body.steps (ptF w w.units[i])) ([]++(List.range i).flatMap (atF w.units (ptU w))) (w:=[]++((List.range i).flatMap (atF w.units (ptU w))++ptU w w.units[i])) (by omega) ?_ ?_]
  ·rw [aD,aA (bB hi (by omega))]
  ·intro k hk;have hy:=zQR hk;have hkl:=dS (atF w.units[i].body.steps (ptF w w.units[i])) 1 (yT λs _=>qSO w _ s) k;dsimp only;rw [if_pos (by omega),aH hy,qCW hy];generalize w.units[i].body.steps[k]=s;rw [zAB];generalize qIV w.Aq w.machines w.layout.Af.length=P;by_cases hs:0<=s.el/\s.el < (w.layout.Af.length:Int)/\s.el < (P.length:Int)
   ·have he := zQR (l := w.layout.Af) (show s.el.toNat < w.layout.Af.length by omega);have hp:=zQR (l:=P) (show s.el.toNat < P.length by omega);rw [if_neg (by simp only [Bool.or_eq_true,decide_eq_true_eq];omega),gA hs.1 he,if_pos hs.1,he,hp];dsimp only;obtain⟨r,b,e1,e2⟩:=qXC (w.layout.Af[s.el.toNat]'(by omega)).kind s.inV s.out;rw [e1,aD]
    cases b with
    | false=>
     have h0:jT (w.layout.Af[s.el.toNat]'(by omega)).kind s.inV s.out=0:=e2.symm.trans (if_neg Bool.false_ne_true);rw [if_neg Bool.false_ne_true,aD,if_neg Bool.false_ne_true,if_neg (λq=>q.1 h0),aA (bB hk (by omega)),List.append_nil]
    | true=>
     have hr:jT (w.layout.Af[s.el.toNat]'(by omega)).kind s.inV s.out=r:=e2.symm.trans (if_pos rfl);rw [if_pos rfl];by_cases h0:r=0
     ·rw [if_pos h0,aD,if_neg Bool.false_ne_true,if_neg (λq=>q.1 (hr.trans h0)),aA (bB hk (by omega)),List.append_nil]
     rw [if_neg h0,gA hs.1 hp,aD,hr];by_cases h1:r=P[s.el.toNat]'(by omega)
     ·rw [decide_eq_true h1,if_neg (by simp),if_neg (λq=>q.2 h1.symm),aA (bB hk (by omega)),List.append_nil]
     rw [decide_eq_false h1,if_pos (by rfl),if_pos ⟨h0,λq=>h1 q.symm⟩,aA (by simp only [zQL,List.length_cons,List.length_nil];omega),aA (bB hk (by omega)),List.append_assoc]
   rw [if_pos (by simp only [Bool.or_eq_true, decide_eq_true_eq]; omega), aA (bB hk (by omega))]
   have hnone : (match (if 0 <= s.el then w.layout.Af[s.el.toNat]? else none), P[s.el.toNat]? with
    | some e, some p => if jT e.kind s.inV s.out ≠ 0 /\ p ≠ jT e.kind s.inV s.out then [(⟨4, w.units[i].cab.train.id, s.el⟩ : Ac)] else []
    | _, _ => []) = [] := by
    by_cases h0:0<=s.el
    ·rw [if_pos h0];by_cases h1:s.el < (w.layout.Af.length:Int)
     ·rw [List.getElem?_eq_none (l := P) (by omega)];split
      ·rename_i q;cases q
      rfl
     rw [List.getElem?_eq_none (l:=w.layout.Af) (by omega)]
    rw [if_neg h0]
   rw [hnone,List.append_nil]
  dsimp only;rw [if_neg (by omega),List.append_assoc];rfl
 dsimp only;rw [if_neg (by omega)];rfl
theorem qSP {w:Am} (h:WOk w) (v:WVal w):lT w=some (ptS w):=by
 have hn:=h.units;have hE:=v.Af;unfold lT;rw [zDU w.Aq w.machines w.layout.Af.length (by have:=h.Ae;omega) (by have:=h.machines;omega),aD];rw [gP w.units.length (atF w.units (ptU w)) [] (w:=ptS w) (by omega) ?_ ?_]
 ·rfl
 ·intro i hi;have hx:=zQR hi;have hl:=qLV h (show i<=w.units.length by omega);have hst:=h.steps _ (List.getElem_mem hi);dsimp only;rw [if_pos (by omega),aH hx,qCW hx];rw [gP w.units[i].body.steps.length (atF w.units[i].body.steps (ptF w w.units[i])) ([]++(List.range i).flatMap (atF w.units (ptU w))) (w:=[]++((List.range i).flatMap (atF w.units (ptU w))++ptU w w.units[i])) (by omega) ?_ ?_]
  ·rw [aD,aA (bB hi (by omega))]
  ·intro k hk;have hy:=zQR hk;have hkl:=dS (atF w.units[i].body.steps (ptF w w.units[i])) 1 (yT λs _=>qSO w _ s) k;have hs:=v.steps _ (List.getElem_mem hi) _ (List.getElem_mem hk);have hpl:(qIV w.Aq w.machines w.layout.Af.length).length=w.layout.Af.length:=by unfold qIV;rw [if_neg (by omega)];simp
   dsimp only;rw [if_pos (by omega),aH hy,qCW hy];generalize hgs:w.units[i].body.steps[k]=s at hs hy;rw [zAB];generalize qIV w.Aq w.machines w.layout.Af.length=P at hpl;have he:=zQR (l:=w.layout.Af) (show s.el.toNat < w.layout.Af.length by omega);have hp:=zQR (l:=P) (show s.el.toNat < P.length by omega);obtain⟨b,e1⟩:=zAS (w.layout.Af[s.el.toNat]'(by omega)).kind s.inV s.out;rw [gA hs.1 he,aH hy,aH hy,e1,aD,if_pos hs.1,he,hp];dsimp only;by_cases h0:jT (w.layout.Af[s.el.toNat]'(by omega)).kind s.inV s.out=0
   ·rw [if_pos h0,aD,if_neg Bool.false_ne_true,if_neg (λq=>q.1 h0),aA (bB hk (by omega)),List.append_nil]
   rw [if_neg h0,aH hy,gA hs.1 hp,aD];by_cases h1:P[s.el.toNat]'(by omega)=jT (w.layout.Af[s.el.toNat]'(by omega)).kind s.inV s.out
   ·rw [decide_eq_true h1,if_neg (by simp),if_neg (λq=>q.2 h1),aA (bB hk (by omega)),List.append_nil]
   rw [decide_eq_false h1,if_pos (by rfl),if_pos ⟨h0,h1⟩,aH hx,aH hy,aA (by simp only [zQL,List.length_cons,List.length_nil];omega),aA (bB hk (by omega)),List.append_assoc]
  dsimp only;rw [if_neg (by omega),List.append_assoc];rfl
 dsimp only;rw [if_neg (by omega)];rfl
def xD (w:Am) (g:Int) (r:Nat):Bool:=match w.Aq.Ab[r]?,w.inter.Ab[r]? with
 | some a,some x=>decide (a.entry=g)&&decide (x.state=2)
 | _,_=>false
def oL (w:Am) (g:Int) (n:Nat):Bool:=(List.range n).any (xD w g)
theorem rU (w:Am) (g:Int) (n:Nat):oL w g (n+1)=(oL w g n||xD w g n):=by
 unfold oL;rw [List.range_succ,List.any_append];simp
def sgF (w:Am) (g:Nat):List Ac:=match w.clear[g]? with
 | some b=>if b=true/\oL w (g:Int) w.Aq.Ab.length=false then [⟨5,(g:Int),0⟩] else []
 | none=>[]
theorem qZM (w:Am) (g:Nat):sgF w g=match w.clear[g]? with
 | some b=>if b=true/\oL w (g:Int) w.Aq.Ab.length=false then [⟨5,(g:Int),0⟩] else []
 | none=>[]:=rfl
theorem qRZ (w:Am) (g:Nat):(sgF w g).length<=1:=by
 unfold sgF;split
 ·split<;>simp
 simp
def sgS (w:Am):List Ac:=(List.range w.clear.length).flatMap (sgF w)
theorem qKR {w:Am} (h:WOk w):gF w=some (sgS w):=by
 have hn:=h.Ab;have hc:=h.clear
 have:Tot (gF w) λr=>r=sgS w:=by
  unfold gF;refine aF (P:=λm=>(m.map (·.1)).Nodup/\∀ g,(cO m g).getD false=oL w g w.Aq.Ab.length) (cC (λi s=>s.1=(i:Int)/\(s.2.map (·.1)).Nodup/\∀ g,(cO s.2 g).getD false=oL w g i) w.Aq.Ab.length (by omega) ⟨rfl,by simp,λg=>rfl⟩ ?_ ?_) ?_
  ·rintro i ⟨y,m⟩ hi ⟨q1,q2,q3⟩;dsimp only at q1 q2 q3;subst q1;dsimp only;have hx:=zQR hi;rw [if_pos (by omega),aH hx];by_cases hr:i < w.inter.Ab.length
   ·have hy:=zQR hr;rw [if_pos (by omega),aH hy,aD];by_cases hs:w.inter.Ab[i].state=2
    ·rw [decide_eq_true hs, if_pos rfl, aA q2, aA (bB hi (by omega))];refine tot_some.2 ⟨by push_cast;rfl,qJU q2 _ _,λg=>?_⟩;show (cO (uA m _ true) g).getD false=_;rw [qKG,rU,<- q3];unfold xD;rw [hx,hy];dsimp only;rw [decide_eq_true hs,Bool.and_true];by_cases hg:g=w.Aq.Ab[i].entry
     ·rw [if_pos hg,decide_eq_true hg.symm];simp
     rw [if_neg hg,decide_eq_false (λq=>hg q.symm)];simp
    rw [decide_eq_false hs, if_neg Bool.false_ne_true, aA (bB hi (by omega))];refine tot_some.2 ⟨by push_cast;rfl,q2,λg=>?_⟩;rw [rU,<- q3];unfold xD;rw [hx,hy];dsimp only;rw [decide_eq_false hs];simp
   rw [if_neg (by omega), aD, if_neg Bool.false_ne_true, aA (bB hi (by omega))];refine tot_some.2 ⟨by push_cast;rfl,q2,λg=>?_⟩;rw [rU,<- q3];unfold xD;rw [hx,List.getElem?_eq_none (by omega)];simp
  ·rintro⟨y,m⟩ ⟨q1,q2,q3⟩;dsimp only at q1 q2 q3;subst q1;dsimp only;rw [if_neg (by omega)];exact⟨_,rfl,q2,q3⟩
  rintro m ⟨h1,h2⟩;rw [gP w.clear.length (sgF w) [] (w:=sgS w) (by omega) ?_ ?_]
  ·exact tot_some.2 rfl
  ·intro i hi;have hx:=zQR hi;have hl:=dS (sgF w) 1 (qRZ w) i;dsimp only;rw [if_pos (by omega),aH hx];rw [qZM,hx];dsimp only
   cases hb:w.clear[i] with
   | false=>rw [if_neg Bool.false_ne_true,aD,if_neg Bool.false_ne_true,if_neg (λq=>Bool.false_ne_true q.1),aA (bB hi (by omega)),List.append_nil]
   | true=>
    rw [if_pos rfl,aA h1,aD,h2]
    cases oL w (i:Int) w.Aq.Ab.length with
    | false=>rw [if_pos (by rfl),if_pos ⟨rfl,rfl⟩,aA (by simp only [zQL,List.length_cons,List.length_nil];omega),aA (bB hi (by omega)),List.append_assoc]
    | true=>rw [if_neg (by simp),if_neg (by simp),aA (bB hi (by omega)),List.append_nil]
  dsimp only;rw [if_neg (by omega)];rfl
 obtain⟨r,e,rfl⟩:=this;exact e
theorem qNQ {w:Am} (h:WOk w) (v:WVal w):kC w=some (sgS w):=by
 have hn:=h.Ab;have hc:=h.clear;unfold kC;rw [gP w.clear.length (sgF w) [] (w:=sgS w) (by omega) ?_ ?_]
 ·rfl
 ·intro i hi;have hx:=zQR hi;have hl:=dS (sgF w) 1 (qRZ w) i;dsimp only;rw [if_pos (by omega)];rw [iP (s:=(false,(0:Int))) (λk=>(oL w (i:Int) k,(k:Int))) w.Aq.Ab.length (o:=oL w (i:Int) w.Aq.Ab.length) rfl (by omega) ?_ ?_]
  ·rw [aD,aH hx];rw [qZM,hx];dsimp only
   cases hb:w.clear[i] with
   | false=>rw [if_neg Bool.false_ne_true,aD,if_neg Bool.false_ne_true,aD,if_neg (λq=>Bool.false_ne_true q.1),aA (bB hi (by omega)),List.append_nil]
   | true=>
    rw [if_pos rfl,aD]
    cases oL w (i:Int) w.Aq.Ab.length with
    | false=>rw [if_pos (by rfl),if_pos ⟨rfl,rfl⟩,aA (by simp only [zQL,List.length_cons,List.length_nil];omega),aD,aA (bB hi (by omega)),List.append_assoc]
    | true=>rw [if_neg (by simp),if_neg (by simp),aD,aA (bB hi (by omega)),List.append_nil]
  ·intro k hk;have hy:=zQR hk;have hz:=zQR (l:=w.inter.Ab) (show k < w.inter.Ab.length by rw [v.same];exact hk);dsimp only;rw [if_pos (by omega),rU]
   cases oL w (i:Int) k with
   | true=>rw [if_pos rfl,aA (bB hk (by omega))];simp
   | false=>
    rw [if_neg Bool.false_ne_true,aH hy];unfold xD;rw [hy,hz];dsimp only;by_cases he:w.Aq.Ab[k].entry=(i:Int)
    ·rw [if_pos he,aH hz,aA (bB hk (by omega)),decide_eq_true he];simp
    rw [if_neg he,aA (bB hk (by omega)),decide_eq_false he];simp
  dsimp only;rw [if_neg (by omega)];rfl
 dsimp only;rw [if_neg (by omega)];rfl
def eP (w:Am) (n:Nat):List Int:=(w.center.tracks.take n).flatMap (·.Ab)
theorem wE {w:Am} {i:Nat} {k:A5} (h:w.center.tracks[i]?=some k):eP w (i+1)=eP w i++k.Ab:=by
 obtain⟨hi,rfl⟩:=zQQ.1 h;unfold eP;rw [List.take_succ_eq_append_getElem hi,List.flatMap_append];simp
theorem yR {w:Am} (h:WOk w):∀ i,(eP w i).length<=i * 60
 | 0=>by simp [eP]
 | i+1=>by
  have ih:=yR h i;by_cases hi:i < w.center.tracks.length
  ·have hx:=zQR hi;have:=h.claims _ (List.getElem_mem hi);rw [wE hx,zQL];omega
  have e : eP w (i + 1) = eP w i := by unfold eP; rw [List.take_of_length_le (by omega), List.take_of_length_le (by omega)]
  rw [e];omega
def qJI (w:Am) (r:Int):Nat:=(eP w w.center.tracks.length).count r
def vY (w:Am) (r:Nat):Bool:=match w.inter.Ab[r]? with
 | some x=>decide (x.state=0)
 | none=>false
def clF (w:Am) (r:Nat):List Ac:=if 1 < qJI w (r:Int)\/qJI w (r:Int)=1/\vY w r=true then [⟨6,(r:Int),0⟩] else []
theorem zCA (w:Am) (r:Nat):clF w r=if 1 < qJI w (r:Int)\/qJI w (r:Int)=1/\vY w r=true then [⟨6,(r:Int),0⟩] else []:=rfl
theorem qTO (w:Am) (r:Nat):(clF w r).length<=1:=by unfold clF;split<;>simp
def clS (w:Am):List Ac:=(List.range w.Aq.Ab.length).flatMap (clF w)
theorem qEY {l:List Int} {i:Nat} {x:Int} (h:l[i]?=some x) (r:Int):(l.take (i+1)).count r=(l.take i).count r+(if x=r then 1 else 0):=by
 obtain⟨hi,rfl⟩:=zQQ.1 h;rw [List.take_succ_eq_append_getElem hi,List.count_append,List.count_singleton];simp
theorem qMY {w:Am} (h:WOk w):gG w=some (clS w):=by
 have hn:=h.Ab;have ht:=h.tracks
 have:Tot (gG w) λr=>r=clS w:=by
  unfold gG;refine aF (P:=λm=>(m.map (·.1)).Nodup/\∀ g,(cO m g).getD 0=(qJI w g:Int)) (cC (λi s=>s.1=(i:Int)/\(s.2.map (·.1)).Nodup/\∀ g,(cO s.2 g).getD 0=((eP w i).count g:Int)) w.center.tracks.length (by omega) ⟨rfl,by simp,λg=>by simp [eP,qKH]⟩ ?_ ?_) ?_
  ·rintro i ⟨y,m⟩ hi ⟨q1,q2,q3⟩;dsimp only at q1 q2 q3;subst q1;dsimp only;have hx:=zQR hi;have hcl:=h.claims _ (List.getElem_mem hi);have hlen:=yR h i;rw [if_pos (by omega),aH hx];refine aF (P:=λm=>(m.map (·.1)).Nodup/\∀ g,(cO m g).getD 0=((eP w (i+1)).count g:Int)) (cC (λk s=>s.1=(k:Int)/\(s.2.map (·.1)).Nodup/\∀ g,(cO s.2 g).getD 0=((eP w i).count g+((w.center.tracks[i].Ab).take k).count g:Nat)) w.center.tracks[i].Ab.length (by omega) ⟨rfl,q2,λg=>by rw [q3];simp⟩ ?_ ?_) ?_
   ·rintro k ⟨y,m⟩ hk ⟨p1,p2,p3⟩;dsimp only at p1 p2 p3;subst p1;dsimp only;have hy:=zQR hk;have hb:=p3 w.center.tracks[i].Ab[k];have c1:=List.count_le_length (a:=w.center.tracks[i].Ab[k]) (l:=eP w i);have c2:=List.count_le_length (a:=w.center.tracks[i].Ab[k]) (l:=w.center.tracks[i].Ab.take k);rw [List.length_take] at c2;rw [if_pos (by omega),aH hy,aA p2,aA (by rw [hb];unfold I64;omega),aA p2,aA (bB hk (by omega))];refine tot_some.2 ⟨by push_cast;rfl,qJU p2 _ _,λg=>?_⟩;show (cO (uA m _ _) g).getD 0=_;rw [qKG,qEY hy,hb];by_cases hg:g=w.center.tracks[i].Ab[k]
    ·rw [if_pos hg,if_pos hg.symm,<- hg];show _+(1:Int)=_;push_cast;omega
    rw [if_neg hg,if_neg (λq=>hg q.symm),p3];simp
   ·rintro⟨y,m⟩ ⟨p1,p2,p3⟩;dsimp only at p1 p2 p3;subst p1;dsimp only;rw [if_neg (by omega)];refine⟨_,rfl,p2,λg=>?_⟩;rw [p3,wE hx,List.take_length,List.count_append]
   rintro m2 ⟨h1,h2⟩;rw [aA (bB hi (by omega))];exact tot_some.2 ⟨by push_cast;rfl,h1,h2⟩
  ·rintro⟨y,m⟩ ⟨q1,q2,q3⟩;dsimp only at q1 q2 q3;subst q1;dsimp only;rw [if_neg (by omega)];exact⟨_,rfl,q2,q3⟩
  rintro m ⟨h1,h2⟩;rw [gP w.Aq.Ab.length (clF w) [] (w:=clS w) (by omega) ?_ ?_]
  ·exact tot_some.2 rfl
  ·intro i hi;have hl:=dS (clF w) 1 (qTO w) i;dsimp only;rw [if_pos (by omega)]
   have hidle:(if (i:Int) < (w.inter.Ab.length:Int) then aU w.inter.Ab (i:Int) λe40=>some (decide (e40.state=(0:Int))) else some false)=some (vY w i):=by
    unfold vY;by_cases hr:i < w.inter.Ab.length
    ·have hy:=zQR hr;rw [if_pos (by omega),aH hy,hy]
    rw [if_neg (by omega),List.getElem?_eq_none (by omega)]
   rw [hidle,aD,aA h1,aA h1,h2,zCA];by_cases c1:1 < qJI w (i:Int)
   ·rw [if_pos (by omega),aD,if_pos rfl,if_pos (.inl c1),aA (by simp only [zQL,List.length_cons,List.length_nil];omega),aA (bB hi (by omega)),List.append_assoc]
   rw [if_neg (by omega)];by_cases c2:qJI w (i:Int)=1
   ·rw [if_pos (by omega), aD];by_cases c3:vY w i=true
    ·rw [if_pos c3,if_pos (.inr ⟨c2,c3⟩),aA (by simp only [zQL,List.length_cons,List.length_nil];omega),aA (bB hi (by omega)),List.append_assoc]
    rw [if_neg c3,if_neg (λq=>q.elim c1 λq=>c3 q.2),aA (bB hi (by omega)),List.append_nil]
   rw [if_neg (by omega),aD,if_neg Bool.false_ne_true,if_neg (λq=>q.elim c1 λq=>c2 q.1),aA (bB hi (by omega)),List.append_nil]
  dsimp only;rw [if_neg (by omega)];rfl
 obtain⟨r,e,rfl⟩:=this;exact e
theorem qTN {w:Am} (h:WOk w) (v:WVal w):lU w=some (clS w):=by
 have hn:=h.Ab;have ht:=h.tracks;unfold lU;rw [gP w.Aq.Ab.length (clF w) [] (w:=clS w) (by omega) ?_ ?_]
 ·rfl
 ·intro i hi;have hl:=dS (clF w) 1 (qTO w) i;have hz:=zQR (l:=w.inter.Ab) (show i < w.inter.Ab.length by rw [v.same];exact hi);dsimp only;rw [if_pos (by omega)];rw [iP (s:=((0:Int),(0:Int))) (λk=>(((eP w k).count (i:Int):Int),(k:Int))) w.center.tracks.length (o:=(qJI w (i:Int):Int)) (by simp [eP]) (by omega) ?_ ?_]
  ·rw [aD,zCA];have hid:vY w i=decide ((w.inter.Ab[i]'(by rw [v.same];exact hi)).state=0):=by unfold vY;rw [hz]
   by_cases c1:1 < qJI w (i:Int)
   ·rw [if_pos (by omega),aD,if_pos rfl,if_pos (.inl c1),aA (by simp only [zQL,List.length_cons,List.length_nil];omega),aD,aA (bB hi (by omega)),List.append_assoc]
   rw [if_neg (by omega)];by_cases c2:qJI w (i:Int)=1
   ·rw [if_pos (by omega), aH hz, aD, <- hid];by_cases c3:vY w i=true
    ·rw [if_pos c3,if_pos (.inr ⟨c2,c3⟩),aA (by simp only [zQL,List.length_cons,List.length_nil];omega),aD,aA (bB hi (by omega)),List.append_assoc]
    rw [if_neg c3,if_neg (λq=>q.elim c1 λq=>c3 q.2),aD,aA (bB hi (by omega)),List.append_nil]
   rw [if_neg (by omega),aD,if_neg Bool.false_ne_true,if_neg (λq=>q.elim c1 λq=>c2 q.1),aD,aA (bB hi (by omega)),List.append_nil]
  ·intro k hk;have hx:=zQR hk;have hcl:=h.claims _ (List.getElem_mem hk);have hlen:=yR h k;have c1:=List.count_le_length (a:=(i:Int)) (l:=eP w k);dsimp only;rw [if_pos (by omega),aH hx];rw [iP (s:=(((eP w k).count (i:Int):Int),(0:Int))) (λj=>((((eP w k).count (i:Int)+((w.center.tracks[k].Ab).take j).count (i:Int):Nat):Int),(j:Int))) w.center.tracks[k].Ab.length (o:=((eP w (k+1)).count (i:Int):Int)) (by simp) (by omega) ?_ ?_]
   ·rw [aD,aA (bB hk (by omega))];push_cast;rfl
   ·intro j hj;have hy:=zQR hj;have c2:=List.count_le_length (a:=(i:Int)) (l:=w.center.tracks[k].Ab.take j);rw [List.length_take] at c2;dsimp only;rw [if_pos (by omega),aH hy,qEY hy];by_cases he:w.center.tracks[k].Ab[j]=(i:Int)
    ·rw [if_pos he,if_pos he,aA (by unfold I64;omega),aA (bB hj (by omega))];push_cast;rfl
    rw [if_neg he,if_neg he,aA (bB hj (by omega))];push_cast;rfl
   dsimp only;rw [if_neg (by omega),List.take_length,wE hx,List.count_append];rfl
  dsimp only;rw [if_neg (by omega)];rfl
 dsimp only;rw [if_neg (by omega)];rfl
def zY (w:Am):List Ac:=if mK w.Aq w.inter=true then [] else [⟨3,0,0⟩]
def qDO (w:Am):List Ac:=qCU w++ovS w++zY w++ptS w++sgS w++clS w
theorem qFW {w:Am} (h:WOk w):(qCU w).length<=100/\(ovS w).length<=10/\(ptS w).length<=1000/\(sgS w).length<=40/\(clS w).length<=50:=by
 have h1:=h.units;have h2:=h.clear;have h3:=h.Ab;have a1:=dS (atF w.units ovF) 1 (yT λu _=>qSS u) w.units.length;have a2:=dS (sgF w) 1 (qRZ w) w.clear.length;have a3:=dS (clF w) 1 (qTO w) w.Aq.Ab.length;exact⟨qGW h (zQW _),by unfold ovS;omega,qLV h (zQW _),by unfold sgS;omega,by unfold clS;omega⟩
theorem qGZ {w:Am} (h:WOk w):eU w=some (qDO w):=by
 obtain⟨l1,l2,l3,l4,l5⟩:=qFW h;have hL:zY w=if mK w.Aq w.inter=true then [] else [⟨3,0,0⟩]:=rfl;have hLl:(zY w).length<=1:=by rw [hL];split<;>simp
 have hm:(aB (some (mK w.Aq w.inter)) λr23=>if (!(r23))=true then aC (((qCU w++ovS w)++([(⟨(3:Int),(0:Int),(0:Int)⟩:Ac)]:List Ac)).length<=1000000000) <| some ((qCU w++ovS w)++([(⟨(3:Int),(0:Int),(0:Int)⟩:Ac)]:List Ac)) else some (qCU w++ovS w))=some (qCU w++ovS w++zY w):=by
  rw [aD,hL];by_cases hs:mK w.Aq w.inter=true
  ·rw [if_pos hs,if_neg (by rw [hs];simp),List.append_nil]
  rw [if_neg hs,if_pos (by rw [Bool.not_eq_true] at hs;rw [hs];rfl),aA (by simp only [zQL,List.length_cons,List.length_nil];omega)]
 unfold eU;rw [qKD h,aD,qWX h (by omega),aD,qZL w.Aq w.inter h.Aq h.setts,hm,aD,qOW h,aD,aA (by simp only [zQL];omega),qKR h,aD,aA (by simp only [zQL];omega),qMY h,aD,aA (by simp only [zQL];omega)];rfl
theorem qYC {w:Am} (h:WOk w) (v:WVal w):nJ w=some (qDO w):=by
 obtain⟨l1,l2,l3,l4,l5⟩:=qFW h;have hL:zY w=[]:=by unfold zY;exact if_pos v.sound
 unfold nJ;rw [qQP h v,aD,zAJ h,aD,aA (by simp only [zQL];omega),qEZ w.Aq w.inter h.Aq h.setts,aD,v.sound,if_neg (by simp),aD,qSP h v,aD,aA (by simp only [zQL];omega),qNQ h v,aD,aA (by simp only [zQL];omega),qTN h v,aD,aA (by simp only [zQL];omega)];unfold qDO;rw [hL,List.append_nil]
theorem qNW (a b:List Int) (hb:b.length<=1000000000000000):Tot (gJ a b) λ_=>True:=by
 unfold gJ;split
 ·rename_i hl;refine bO (P:=λ_=>True) (cA a (by omega) (λ_=>True) trivial ?_ ?_) (λ_ _=>tot_some.2 trivial) (λ_ _=>trivial)
  ·intro i e he _;have hi:=(zQQ.1 he).1;have hy:=zQR (l:=b) (show i < b.length by omega);rw [if_pos (by omega),aH he,aH hy];split
   ·rw [aA (bB hi (by omega))];exact⟨_,rfl,.inl ⟨rfl,trivial⟩⟩
   exact⟨_,rfl,.inr ⟨_,rfl,trivial⟩⟩
  intro _;rw [if_neg (by omega)];exact⟨_,rfl,_,rfl,trivial⟩
 exact tot_some.2 trivial
theorem qFD (a b:List Int) (hb:b.length<=1000000000000000):Tot (fF a b) λ_=>True:=by
 unfold fF lZ;refine aF (P:=λ_=>True) ?_ λ_ _=>tot_some.2 trivial;split
 ·rename_i hl;refine bO (P:=λ_=>True) (cA a (by omega) (λ_=>True) trivial ?_ ?_) (λ_ _=>tot_some.2 trivial) (λ_ _=>trivial)
  ·intro i e he _;have hi:=(zQQ.1 he).1;have hy:=zQR (l:=b) (show i < b.length by omega);rw [if_pos (by omega),aH he,aH hy];split
   ·rw [aA (bB hi (by omega))];exact⟨_,rfl,.inl ⟨rfl,trivial⟩⟩
   exact⟨_,rfl,.inr ⟨_,rfl,trivial⟩⟩
  intro _;rw [if_neg (by omega)];exact⟨_,rfl,_,rfl,trivial⟩
 exact tot_some.2 trivial
theorem qUK (a b:List An) (hb:b.length<=1000000000000000) (ha:∀ s∈a,An.ok s) (hc:∀ s∈b,An.ok s):Tot (fR a b) λ_=>True:=by
 unfold fR kO;refine aF (P:=λ_=>True) ?_ λ_ _=>tot_some.2 trivial;split
 ·rename_i hl;refine bO (P:=λ_=>True) (cA a (by omega) (λ_=>True) trivial ?_ ?_) (λ_ _=>tot_some.2 trivial) (λ_ _=>trivial)
  ·intro i e he _;have hi:=(zQQ.1 he).1;have hy:=zQR (l:=b) (show i < b.length by omega);rw [if_pos (by omega),aH he,aH hy,aA ⟨ha _ (zQM he),hc _ (List.getElem_mem _)⟩];split
   ·rw [aA (bB hi (by omega))];exact⟨_,rfl,.inl ⟨rfl,trivial⟩⟩
   exact⟨_,rfl,.inr ⟨_,rfl,trivial⟩⟩
  intro _;rw [if_neg (by omega)];exact⟨_,rfl,_,rfl,trivial⟩
 exact tot_some.2 trivial
theorem qKU (a b:List Aa) (hb:b.length<=1000000000000000) (ha:∀ s∈a,Aa.ok s) (hc:∀ s∈b,Aa.ok s):Tot (dT a b) λ_=>True:=by
 unfold dT gY;refine aF (P:=λ_=>True) ?_ λ_ _=>tot_some.2 trivial;split
 ·rename_i hl;refine bO (P:=λ_=>True) (cA a (by omega) (λ_=>True) trivial ?_ ?_) (λ_ _=>tot_some.2 trivial) (λ_ _=>trivial)
  ·intro i e he _;have hi:=(zQQ.1 he).1;have hy:=zQR (l:=b) (show i < b.length by omega);rw [if_pos (by omega),aH he,aH hy,aA ⟨ha _ (zQM he),hc _ (List.getElem_mem _)⟩];split
   ·rw [aA (bB hi (by omega))];exact⟨_,rfl,.inl ⟨rfl,trivial⟩⟩
   exact⟨_,rfl,.inr ⟨_,rfl,trivial⟩⟩
  intro _;rw [if_neg (by omega)];exact⟨_,rfl,_,rfl,trivial⟩
 exact tot_some.2 trivial
theorem zDK (a b:List End) (hb:b.length<=1000000000000000) (ha:∀ s∈a,End.ok s) (hc:∀ s∈b,End.ok s):Tot (jC a b) λ_=>True:=by
 unfold jC;split
 ·rename_i hl;refine bO (P:=λ_=>True) (cA a (by omega) (λ_=>True) trivial ?_ ?_) (λ_ _=>tot_some.2 trivial) (λ_ _=>trivial)
  ·intro i e he _;have hi:=(zQQ.1 he).1;have hy:=zQR (l:=b) (show i < b.length by omega);rw [if_pos (by omega),aH he,aH hy,aA ⟨ha _ (zQM he),hc _ (List.getElem_mem _)⟩];split
   ·rw [aA (bB hi (by omega))];exact⟨_,rfl,.inl ⟨rfl,trivial⟩⟩
   exact⟨_,rfl,.inr ⟨_,rfl,trivial⟩⟩
  intro _;rw [if_neg (by omega)];exact⟨_,rfl,_,rfl,trivial⟩
 exact tot_some.2 trivial
theorem wf_cmp {r:Ai} (w:r.Wf):RtCmp r:=⟨λs h=>let q:=w.path.2 s h;⟨q.el,q.inV,q.out⟩,λs h=>let q:=w.Ae.2 s h;⟨q.el,q.pos⟩,λs h=>let q:=w.over.2 s h;⟨q.el,q.inV,q.out⟩,λs h=>let q:=w.Aj.2 s h;⟨q.el,q.pos⟩,λs h=>let q:=w.At.2 s h;⟨q.el,q.pos⟩,λs h=>let q:=w.gaps.2 s h;⟨q.el,q.side⟩⟩
theorem zDJ {a b:Ai} (ha:RtCmp a) (wb:b.Wf):Tot (qC a b) λ_=>True:=by
 have hb:=wf_cmp wb;have L:∀ {n:Nat},n<=reachBytes->n<=1000000000000000:=λh=>by have:=qS h;omega
 unfold qC;split
 ·exact tot_some.2 trivial
 refine aF (P := fun _ => True) ?_ fun x _ => ?_
 ·refine aF (qUK _ _ (L wb.path.1) ha.path hb.path) fun r _ => ?_;split
  ·exact tot_some.2 trivial
  refine aF (qKU _ _ (L wb.Ae.1) ha.Ae hb.Ae) fun r _ => ?_;split
  ·exact tot_some.2 trivial
  exact aF (qFD _ _ (L wb.Ad.1)) λr _=>tot_some.2 trivial
 split
 ·exact tot_some.2 trivial
 refine aF (P := fun _ => True) ?_ fun y _ => tot_some.2 trivial;refine aF (qUK _ _ (L wb.over.1) ha.over hb.over) λr _=>?_;split
 ·refine aF (qKU _ _ (L wb.Aj.1) ha.Aj hb.Aj) fun r _ => ?_;split
  ·refine aF (qFD _ _ (L wb.Ao.1)) fun r _ => ?_;split
   ·refine aF (qKU _ _ (L wb.At.1) ha.At hb.At) fun r _ => ?_;split
    ·refine aF (qFD _ _ (L wb.guards.1)) fun r _ => ?_;split
     ·exact aF (zDK _ _ (L wb.gaps.1) ha.gaps hb.gaps) λr _=>tot_some.2 trivial
     exact tot_some.2 trivial
    exact tot_some.2 trivial
   exact tot_some.2 trivial
  exact tot_some.2 trivial
 exact tot_some.2 trivial
theorem zDI {t u:Al} (ht:∀ r∈t.Ab,RtCmp r) (wu:u.Wf):Tot (pZ t u) λ_=>True:=by
 have L:∀ {n:Nat},n<=reachBytes->n<=1000000000000000:=λh=>by have:=qS h;omega
 unfold pZ;refine aF (P:=λx=>x=false->t.Ab.length=u.Ab.length) ?_ λx hx=>?_
 ·split
  ·rename_i hl;refine aF (qNW _ _ (L wu.Ae.1)) λr _=>?_;split
   ·exact tot_some.2 λh=>by cases h
   refine aF (qNW _ _ (L wu.A1.1)) fun r _ => ?_;split
   ·exact tot_some.2 λh=>by cases h
   split
   ·exact tot_some.2 λ_=>by omega
   exact tot_some.2 λh=>by cases h
  exact tot_some.2 λh=>by cases h
 cases x with
 | true=>rw [if_pos rfl];exact tot_some.2 trivial
 | false=>
  have hl:=hx rfl;have:=L wu.Ab.1;rw [if_neg Bool.false_ne_true];refine bO (P:=λ_=>True) (cA t.Ab (by omega) (λ_=>True) trivial ?_ ?_) (λ_ _=>tot_some.2 trivial) (λ_ _=>trivial)
  ·intro i e he _;have hi:=(zQQ.1 he).1;have hy:=zQR (l:=u.Ab) (show i < u.Ab.length by omega);rw [if_pos (by omega),aH he,aH hy];refine aF (zDJ (ht _ (zQM he)) (wu.Ab.2 _ (List.getElem_mem _))) λr _=>?_;split
   ·exact⟨_,rfl,.inr ⟨_,rfl,trivial⟩⟩
   rw [aA (bB hi (by omega))];exact⟨_,rfl,.inl ⟨rfl,trivial⟩⟩
  intro _;rw [if_neg (by omega)];exact⟨_,rfl,_,rfl,trivial⟩
theorem qSX (w:Am) (h:w.machines.length<=1000):Tot (iV w) λ_=>True:=by
 unfold iV;refine bO (P:=λ_=>True) (cA w.machines (by omega) (λ_=>True) trivial ?_ ?_) (λ_ _=>tot_some.2 trivial) (λ_ _=>trivial)
 ·intro i e he _;have hi:=(zQQ.1 he).1;rw [if_pos (by omega),aH he];split
  ·exact⟨_,rfl,.inr ⟨_,rfl,trivial⟩⟩
  rw [aA (bB hi (by omega))];exact⟨_,rfl,.inl ⟨rfl,trivial⟩⟩
 intro _;rw [if_neg (by omega)];exact⟨_,rfl,_,rfl,trivial⟩
theorem uF (a b c:Int):Tot (iD a b c) λ_=>True:=tot_some.2 trivial
theorem zDD (x:Bd) (h:x.name.size<=1000000000000000):Tot (gR x) λ_=>True:=by
 unfold gR;refine aF (zCL _ h) λr _=>?_;split
 ·exact tot_some.2 trivial
 refine aF (P := fun _ => True) ?_ fun r _ => ?_
 ·refine aF (uF _ _ _) fun r _ => ?_;split
  ·exact tot_some.2 trivial
  refine aF (uF _ _ _) fun r _ => ?_;split
  ·exact tot_some.2 trivial
  refine aF (uF _ _ _) fun r _ => ?_;split
  ·exact tot_some.2 trivial
  refine aF (uF _ _ _) fun r _ => ?_;split
  ·exact tot_some.2 trivial
  exact aF (uF _ _ _) λr _=>tot_some.2 trivial
 split
 ·exact tot_some.2 trivial
 refine aF (P := fun _ => True) ?_ fun r _ => ?_
 ·refine aF (uF _ _ _) fun r _ => ?_;split
  ·exact tot_some.2 trivial
  refine aF (uF _ _ _) fun r _ => ?_;split
  ·exact tot_some.2 trivial
  refine aF (uF _ _ _) fun r _ => ?_;split
  ·exact tot_some.2 trivial
  exact aF (uF _ _ _) λr _=>tot_some.2 trivial
 split<;>exact tot_some.2 trivial
theorem zDY {l:Ag} (hk:LayK l) {s:An} (h:An.ok s):Tot (fH l s) λ_=>True:=by
 unfold fH;refine aF (tJ l _ hk ⟨h.1,h.2.2⟩) ?_;rintro⟨a,b⟩ _;exact tot_some.2 trivial
def rV (l:Ag) (s:An):Prop:=0<=s.el/\s.el < (l.Af.length:Int)
theorem wayW_t {l:Ag} (hk:LayK l) {w:List An} (h:∀ s∈w,An.ok s):Tot (gT l w) λr=>r=true->w≠[]/\w.length<=64/\∀ s∈w,rV l s:=by
 unfold gT;split
 ·exact tot_some.2 λh=>by cases h
 rename_i hc;simp only [Bool.or_eq_true,decide_eq_true_eq,not_or] at hc;have hne:w≠[]:=λe=>hc.1 (by rw [e];rfl);refine bO (P:=λo=>match o with|.inl _=>∀ j s,j < w.length->w[j]?=some s->rV l s|.inr b=>b=false) (cA w (by omega) (λi=>∀ j s,j < i->w[j]?=some s->rV l s) (λj s hj=>absurd hj (zQV j)) ?_ ?_) (λ_ h=>tot_some.2 λ_=>⟨hne,by omega,λs hs=>?_⟩) (λb hb e=>by rw [hb] at e;cases e)
 ·intro i e hx hI;have hi:=(zQQ.1 hx).1;rw [if_pos (by omega)];refine bO (P:=λo=>match o with|.inl _=>rV l e|.inr b=>b=.inr (.inr false)) ?_ ?_ ?_
  ·rw [aH hx];refine aF (qGA l e) ?_;rintro⟨a,b⟩ ⟨_,_,hin⟩;dsimp only at hin ⊢
   cases b with
   | false=>rw [if_pos (by rfl)];exact⟨_,rfl,rfl⟩
   | true=>
    have hin:=hin rfl;rw [if_neg (by simp)];refine bO (P:=λo=>match o with|.inl _=>True|.inr b=>b=.inr (.inr (.inr false))) ?_ ?_ ?_
    ·split
     ·rename_i hz;have hy:=zQR (l:=w) (show i - 1 < w.length by omega);rw [aA (by unfold I64;omega),show (i:Int) - 1=((i - 1:Nat):Int) by omega,aH hy];refine aF (zDY hk (h _ (List.getElem_mem _))) ?_;rintro⟨f,j⟩ _;dsimp only;refine aF (P:=λ_=>True) ?_ λr _=>?_
      ·split
       ·exact tot_some.2 trivial
       rw [aH hx];split
       ·rw [aH hx];exact tot_some.2 trivial
       exact tot_some.2 trivial
      split
      ·exact⟨_,rfl,rfl⟩
      exact⟨_,rfl,trivial⟩
     exact⟨_,rfl,trivial⟩
    ·intro _ _;refine cC (λk s=>s=(k:Int)) i (by omega) rfl ?_ ?_
     ·rintro k s hk2 rfl;have hy:=zQR (l:=w) (show k < w.length by omega);rw [if_pos (by omega),aH hy,aH hx];split
      ·exact⟨_,rfl,rfl⟩
      rw [aA (bB hk2 (by omega))];exact⟨_,rfl,by push_cast;rfl⟩
     rintro s rfl;rw [if_neg (by omega)];exact⟨_,rfl,hin⟩
    rintro b rfl;rfl
  ·intro a ha;rw [aA (bB hi (by omega))];refine⟨_,rfl,.inl ⟨rfl,λj s hj hs=>?_⟩⟩;rcases Nat.lt_or_ge j i with h1|h1
   ·exact hI j s h1 hs
   obtain rfl : j = i := by omega
   rw [hx] at hs;cases hs;exact ha
  rintro b rfl;exact .inr ⟨_,rfl,rfl⟩
 ·intro hI;rw [if_neg (by omega)];exact⟨_,rfl,_,rfl,hI⟩
 obtain⟨j,hj⟩:=List.mem_iff_getElem?.1 hs;exact h j s (zQQ.1 hj).1 hj
theorem qSY {l:Ag} (hk:LayK l) {s:An} (h:rV l s):Tot (kU l s) λr=>500<=r/\r<=1000000:=by
 unfold kU;exact cY h.1 h.2 λe he _=>tot_some.2 ⟨(hk.right e he).2.2.1,(hk.right e he).2.2.2.1⟩
theorem qWF {l:Ag} (hk:LayK l) {b:Bc} (h:∀ s∈b.steps,rV l s) (hl:b.steps.length<=64) (h0:1<=b.head/\b.head<=1000000):Tot (kG l b) λr=>0<=r/\r<=1000000000:=by
 unfold kG;refine aF (P:=λr=>0<=r/\r<=1000000000) (cC (λi s=>s.2=(i:Int)/\0<=s.1/\s.1<=1000000+(i:Int) * 1000000/\i<=b.steps.length) b.steps.length (by omega) ⟨rfl,by show 0<=b.head;omega,by show b.head<=_;omega,Nat.zero_le _⟩ ?_ ?_) λr h=>tot_some.2 h
 ·rintro i ⟨n,y⟩ hi ⟨q1,q2,q3,q4⟩;dsimp only at q1 q2 q3;subst q1;dsimp only;rw [aA (bB hi (by omega))];split
  ·have hx:=zQR hi;rw [aH hx];refine aF (qSY hk (h _ (List.getElem_mem hi))) λr hr=>?_;rw [aA (by unfold I64;omega),aA (bB hi (by omega))];exact tot_some.2 ⟨by push_cast;rfl,by show 0<=n+r;omega,by show n+r<=_;push_cast;omega,by omega⟩
  exact⟨_,rfl,by show 0<=n;omega,by show n<=_;omega⟩
 rintro⟨n,y⟩ ⟨q1,q2,q3,q4⟩;dsimp only at q1 q2 q3;subst q1;dsimp only;rw [aA (by unfold I64;omega),if_neg (by omega)];exact⟨_,rfl,by show 0<=n;omega,by show n<=_;omega⟩
theorem body_t {l:Ag} (hk:LayK l) {b:Bc} (w:b.Wf):Tot (gS l b) λr=>r=0->∀ s∈b.steps,rV l s:=by
 have hok:∀ s∈b.steps,An.ok s:=λs hs=>let q:=w.steps.2 s hs;⟨q.el,q.inV,q.out⟩;unfold gS;refine aF (P:=λx=>x=false->(b.steps≠[]/\b.steps.length<=64/\∀ s∈b.steps,rV l s)/\1<=b.head/\b.head<=1000000/\1<=b.length) ?_ λx hx=>?_
 ·refine aF (wayW_t hk hok) fun r hr => ?_
  cases r with
  | false=>rw [if_pos (by rfl)];exact tot_some.2 λh=>by cases h
  | true=>
   obtain⟨h1,h2,h3⟩:=hr rfl;have hp:=List.length_pos_iff.2 h1;rw [if_neg (by simp)];split
   ·exact tot_some.2 λh=>by cases h
   split
   ·exact tot_some.2 λh=>by cases h
   split
   ·exact tot_some.2 λh=>by cases h
   have hy := zQR (l := b.steps) (show b.steps.length - 1 < b.steps.length by omega);rw [aA (by unfold I64;omega),show ((b.steps.length:Int) - 1)=((b.steps.length - 1:Nat):Int) by omega,aH hy];refine aF (qSY hk (h3 _ (List.getElem_mem _))) λr hr=>tot_some.2 λhd=>⟨⟨h1,h2,h3⟩,by omega,?_,by omega⟩;have:=of_decide_eq_false hd;omega
 cases x with
 | true=>rw [if_pos rfl];exact tot_some.2 λh=>by cases h
 | false=>
  obtain⟨⟨h1,h2,h3⟩,h4,h5,h6⟩:=hx rfl;have hp:=List.length_pos_iff.2 h1;rw [if_neg Bool.false_ne_true];refine aF (qWF hk h3 h2 ⟨h4,h5⟩) λn hn=>?_;refine aF (P:=λ_=>True) ?_ λy _=>?_
  ·split
   ·exact tot_some.2 trivial
   split
   ·have hy:=zQR hp;rw [show (0:Int)=((0:Nat):Int) from rfl,aH hy];refine aF (qSY hk (h3 _ (List.getElem_mem hp))) λr hr=>?_;rw [aA (by unfold I64;omega)];exact tot_some.2 trivial
   exact tot_some.2 trivial
  split
  ·exact tot_some.2 λh=>by cases h
  exact tot_some.2 λ_=>h3
theorem zDC {w:Am} (hk:LayK w.layout) (hl:w.units.length<=1000) (hw:∀ u∈w.units,u.Wf):Tot (nK w) λr=>r=true->w.units≠[]/\∀ u∈w.units,∀ s∈u.body.steps,rV w.layout s:=by
 have hone:∀ u∈w.units,Tot (aB (gR u.cab.train) λr10=>if r10=(0:Int) then aB (gS w.layout u.body) λr12=>if r12=(0:Int) then some (!(decide (u.body.length=u.cab.train.length))) else some true else some true) λx=>x=false->∀ s∈u.body.steps,rV w.layout s:=λu hu=>by
  refine aF (zDD _ (by have:=qS (hw u hu).cab.train.name;omega)) λr _=>?_;split
  ·refine aF (body_t hk (hw u hu).body) fun r hr => ?_;split
   ·rename_i e;exact tot_some.2 λ_=>hr e
   exact tot_some.2 λh=>by cases h
  exact tot_some.2 λh=>by cases h
 unfold nK;refine bO (P:=λo=>match o with|.inl _=>∀ j u,j < w.units.length->w.units[j]?=some u->∀ s∈u.body.steps,rV w.layout s|.inr b=>b=false) (cA w.units (by omega) (λi=>∀ j u,j < i->w.units[j]?=some u->∀ s∈u.body.steps,rV w.layout s) (λj u hj=>absurd hj (zQV j)) ?_ ?_) (λ_ h=>tot_some.2 λe=>⟨λe2=>?_,λu hu=>?_⟩) (λb hb e=>by rw [hb] at e;cases e)
 ·intro i u hx hI;have hi:=(zQQ.1 hx).1;have hm:=zQM hx;rw [if_pos (by omega),aH hx];refine aF (P:=λx=>x=false->∀ s∈u.body.steps,rV w.layout s) ?_ λx hx2=>?_
  ·split
   ·have hy := zQR (l := w.units) (show i - 1 < w.units.length by omega);rw [aA (by unfold I64;omega),show (i:Int) - 1=((i - 1:Nat):Int) by omega,aH hy];split
    ·exact tot_some.2 λh=>by cases h
    exact hone u hm
   exact hone u hm
  cases x with
  | true=>rw [if_pos rfl];exact⟨_,rfl,.inr ⟨_,rfl,rfl⟩⟩
  | false=>
   rw [if_neg Bool.false_ne_true,aA (bB hi (by omega))];refine⟨_,rfl,.inl ⟨rfl,λj v hj hv=>?_⟩⟩;rcases Nat.lt_or_ge j i with h1|h1
   ·exact hI j v h1 hv
   obtain rfl : j = i := by omega
   rw [hx] at hv;cases hv;exact hx2 rfl
 ·intro hI;rw [if_neg (by omega)];exact⟨_,rfl,_,rfl,hI⟩
 ·rw [e2] at e;simp at e
 obtain⟨j,hj⟩:=List.mem_iff_getElem?.1 hu;exact h j u (zQQ.1 hj).1 hj
theorem zCD (w:Am) (hl:w.units.length<=1000):Tot (lV w) λ_=>True:=by
 unfold lV;split
 ·exact tot_some.2 trivial
 rename_i hc;simp only [Bool.or_eq_true,Bool.not_eq_true',decide_eq_false_iff_not,not_or,Decidable.not_not] at hc;refine bO (P:=λ_=>True) (cA w.units (by omega) (λ_=>True) trivial ?_ ?_) (λ_ _=>tot_some.2 trivial) (λ_ _=>trivial)
 ·intro i e he _;have hi:=(zQQ.1 he).1;have hy:=zQR (l:=w.center.tracks) (show i < w.center.tracks.length by omega);have hz:=zQR (l:=w.center.sessions) (show i < w.center.sessions.length by omega);rw [if_pos (by omega),aH he];refine aF (P:=λ_=>True) ?_ λx _=>?_
  ·rw [aH hy];split
   ·rw [aH hz];exact tot_some.2 trivial
   exact tot_some.2 trivial
  split
  ·exact⟨_,rfl,.inr ⟨_,rfl,trivial⟩⟩
  rw [aA (bB hi (by omega))];exact⟨_,rfl,.inl ⟨rfl,trivial⟩⟩
 intro _;rw [if_neg (by omega)];exact⟨_,rfl,_,rfl,trivial⟩
structure WFew (w:Am):Prop where
 ok:WOk w
 trips:w.trips.length<=6
 stops:∀ x∈w.trips,x.stops.length<=6
 joints:w.layout.joints.length<=80
def qCY (t:Al) (s:Stop):Prop:=0<=s.route/\s.route < (t.Ab.length:Int)
theorem qWN (t:Al) (x:A6) (h:x.stops.length<=1000):Tot (nM t x) λr=>r=true->∀ s∈x.stops,qCY t s:=by
 unfold nM;split
 ·exact tot_some.2 λh=>by cases h
 refine bO (P := fun o => match o with | .inl _ => ∀ j s, j < x.stops.length -> x.stops[j]? = some s -> qCY t s | .inr b => b = false) (cA x.stops (by omega) (fun i => ∀ j s, j < i -> x.stops[j]? = some s -> qCY t s) (fun j s hj => absurd hj (zQV j)) ?_ ?_) (fun _ h => tot_some.2 fun e s hs => ?_) (fun b hb e => by rw [hb] at e; cases e)
 ·intro i e he hI;have hi:=(zQQ.1 he).1;rw [if_pos (by omega),aH he];split
  ·exact⟨_,rfl,.inr ⟨_,rfl,rfl⟩⟩
  rename_i hc;simp only [Bool.or_eq_true,decide_eq_true_eq,not_or] at hc;rw [aA (bB hi (by omega))];refine⟨_,rfl,.inl ⟨rfl,λj v hj hv=>?_⟩⟩;rcases Nat.lt_or_ge j i with h1|h1
  ·exact hI j v h1 hv
  obtain rfl : j = i := by omega
  rw [he] at hv;cases hv;exact⟨by omega,by omega⟩
 ·intro hI;rw [if_neg (by omega)];exact⟨_,rfl,_,rfl,hI⟩
 obtain⟨j,hj⟩:=List.mem_iff_getElem?.1 hs;exact h j s (zQQ.1 hj).1 hj
theorem qZF (t:Al) (l:List A6) (n:Int) (h:l.length<=1000):Tot (pX t l n) λ_=>True:=by
 unfold pX;refine bO (P:=λ_=>True) (cA l (by omega) (λ_=>True) trivial ?_ ?_) (λ_ _=>tot_some.2 trivial) (λ_ _=>trivial)
 ·intro i e he _;have hi:=(zQQ.1 he).1;rw [if_pos (by omega),aH he];split
  ·exact⟨_,rfl,.inr ⟨_,rfl,trivial⟩⟩
  rw [aA (bB hi (by omega))];exact⟨_,rfl,.inl ⟨rfl,trivial⟩⟩
 intro _;rw [if_neg (by omega)];exact⟨_,rfl,_,rfl,trivial⟩
theorem qYE (t:Al) (l:List A6) (h:l.length<=1000) (hs:∀ x∈l,x.stops.length<=1000):Tot (iW t l) λ_=>True:=by
 unfold iW;split
 ·exact tot_some.2 trivial
 refine bO (P := fun _ => True) (cA l (by omega) (fun _ => True) trivial ?_ ?_) (fun _ _ => ?_) (fun _ _ => trivial)
 ·intro i e he _;have hi:=(zQQ.1 he).1;rw [if_pos (by omega)];refine aF (P:=λ_=>True) ?_ λx _=>?_
  ·rw [aH he];split
   ·exact tot_some.2 trivial
   rw [aH he];exact tot_some.2 trivial
  split
  ·exact⟨_,rfl,.inr ⟨_,rfl,trivial⟩⟩
  rw [aA (bB hi (by omega))];exact⟨_,rfl,.inl ⟨rfl,trivial⟩⟩
 ·intro _;rw [if_neg (by omega)];exact⟨_,rfl,_,rfl,trivial⟩
 refine bO (P := fun o => match o with | .inl _ => ∀ j x, j < l.length -> l[j]? = some x -> ∀ s ∈ x.stops, qCY t s | .inr _ => True) (cA l (by omega) (fun i => ∀ j x, j < i -> l[j]? = some x -> ∀ s ∈ x.stops, qCY t s) (fun j s hj => absurd hj (zQV j)) ?_ ?_) (fun _ hin => ?_) (fun _ _ => trivial)
 ·intro i e he hI;have hi:=(zQQ.1 he).1;rw [if_pos (by omega),aH he];refine aF (qWN t e (hs _ (zQM he))) λr hr=>?_
  cases r with
  | false=>rw [if_pos (by rfl)];exact⟨_,rfl,.inr ⟨_,rfl,trivial⟩⟩
  | true=>
   rw [if_neg (by simp),aA (bB hi (by omega))];refine⟨_,rfl,.inl ⟨rfl,λj v hj hv=>?_⟩⟩;rcases Nat.lt_or_ge j i with h1|h1
   ·exact hI j v h1 hv
   obtain rfl : j = i := by omega
   rw [he] at hv;cases hv;exact hr rfl
 ·intro hI;rw [if_neg (by omega)];exact⟨_,rfl,_,rfl,hI⟩
 have hin:∀ x∈l,∀ s∈x.stops,qCY t s:=λx hx=>by
  obtain⟨j,hj⟩:=List.mem_iff_getElem?.1 hx;exact hin j x (zQQ.1 hj).1 hj
 refine bO (P:=λ_=>True) (cA l (by omega) (λ_=>True) trivial ?_ ?_) (λ_ _=>?_) (λ_ _=>trivial)
 ·intro i e he _;have hi:=(zQQ.1 he).1;rw [if_pos (by omega),aH he];refine aF (qZF t l _ h) λr _=>?_;split
  ·rw [aA (bB hi (by omega))];exact⟨_,rfl,.inl ⟨rfl,trivial⟩⟩
  exact⟨_,rfl,.inr ⟨_,rfl,trivial⟩⟩
 ·intro _;rw [if_neg (by omega)];exact⟨_,rfl,_,rfl,trivial⟩
 refine bO (P := fun _ => True) (cA l (by omega) (fun _ => True) trivial ?_ ?_) (fun _ _ => ?_) (fun _ _ => trivial)
 ·intro i e he _;have hi:=(zQQ.1 he).1;have hm:=zQM he;have hst:=hs _ hm;rw [if_pos (by omega),aH he];refine bO (P:=λo=>match o with|.inl _=>True|.inr b=>∃ r,b=.inr r) (cC (λk s=>s=(k:Int)+1) (e.stops.length - 1) (by omega) rfl ?_ ?_) ?_ ?_
  ·rintro k s hk rfl;have hx:=zQR (l:=e.stops) (show k < e.stops.length by omega);have hy:=zQR (l:=e.stops) (show k+1 < e.stops.length by omega);rw [if_pos (by omega),aA (by unfold I64;omega),show (k:Int)+1 - 1=(k:Int) by omega,aH hx];refine cY (hin _ hm _ (List.getElem_mem _)).1 (hin _ hm _ (List.getElem_mem _)).2 λr1 _ _=>?_;rw [show (k:Int)+1=((k+1:Nat):Int) by push_cast;rfl,aH hy];refine cY (hin _ hm _ (List.getElem_mem _)).1 (hin _ hm _ (List.getElem_mem _)).2 λr2 _ _=>?_;refine aF (P:=λ_=>True) (tot_some.2 trivial) λb _=>?_;split
   ·exact⟨_,rfl,_,rfl⟩
   rw [aA (by unfold I64;omega)];exact⟨_,rfl,rfl⟩
  ·rintro s rfl;rw [if_neg (by omega)];exact⟨_,rfl,trivial⟩
  ·intro _ _;rw [aA (bB hi (by omega))];exact⟨_,rfl,.inl ⟨rfl,trivial⟩⟩
  rintro b ⟨r,rfl⟩;exact .inr ⟨_,rfl,trivial⟩
 ·intro _;rw [if_neg (by omega)];exact⟨_,rfl,_,rfl,trivial⟩
 refine bO (P := fun _ => True) (cA l (by omega) (fun _ => True) trivial ?_ ?_) (fun _ _ => tot_some.2 trivial) (fun _ _ => trivial)
 ·intro i e he _;have hi:=(zQQ.1 he).1;have hm:=zQM he;have hst:=hs _ hm;rw [if_pos (by omega),aH he];refine bO (P:=λo=>match o with|.inl _=>True|.inr b=>∃ r,b=.inr r) (cC (λk s=>s=(k:Int)+1) (e.stops.length - 1) (by omega) rfl ?_ ?_) ?_ ?_
  ·rintro k s hk rfl;have hx:=zQR (l:=e.stops) (show k < e.stops.length by omega);have hy:=zQR (l:=e.stops) (show k+1 < e.stops.length by omega);rw [if_pos (by omega),show (k:Int)+1=((k+1:Nat):Int) by push_cast;rfl,aH hy,aA (by unfold I64;omega),show ((k+1:Nat):Int) - 1=(k:Int) by push_cast;omega,aH hx];split
   ·exact⟨_,rfl,_,rfl⟩
   rw [aA (by unfold I64;omega)];exact⟨_,rfl,rfl⟩
  ·rintro s rfl;rw [if_neg (by omega)];exact⟨_,rfl,trivial⟩
  ·intro _ _;rw [aA (bB hi (by omega))];exact⟨_,rfl,.inl ⟨rfl,trivial⟩⟩
  rintro b ⟨r,rfl⟩;exact .inr ⟨_,rfl,trivial⟩
 intro _;rw [if_neg (by omega)];exact⟨_,rfl,_,rfl,trivial⟩
theorem zDH (l:List A6) (s:List (List Int)) (h:l.length<=1000):Tot (nN l s) λr=>r=true->l.length=s.length/\∀ (j:Nat) (x:A6) (y:List Int),l[j]?=some x->s[j]?=some y->x.stops.length=y.length:=by
 unfold nN;split
 ·rename_i hl;refine bO (P:=λo=>match o with|.inl _=>∀ (j:Nat) (x:A6) (y:List Int),j < l.length->l[j]?=some x->s[j]?=some y->x.stops.length=y.length|.inr b=>b=false) (cA l (by omega) (λi=>∀ (j:Nat) (x:A6) (y:List Int),j < i->l[j]?=some x->s[j]?=some y->x.stops.length=y.length) (λj x y hj=>absurd hj (zQV j)) ?_ ?_) (λ_ hq=>tot_some.2 λ_=>⟨by omega,λj x y hx hy=>hq j x y (zQQ.1 hx).1 hx hy⟩) (λb hb e=>by rw [hb] at e;cases e)
  ·intro i e he hI;have hi:=(zQQ.1 he).1;have hy:=zQR (l:=s) (show i < s.length by omega);rw [if_pos (by omega),aH he,aH hy];split
   ·rename_i hq;rw [aA (bB hi (by omega))];refine⟨_,rfl,.inl ⟨rfl,λj v u hj hv hu=>?_⟩⟩;rcases Nat.lt_or_ge j i with h1|h1
    ·exact hI j v u h1 hv hu
    obtain rfl : j = i := by omega
    rw [he] at hv;rw [hy] at hu;cases hv;cases hu;omega
   exact⟨_,rfl,.inr ⟨_,rfl,rfl⟩⟩
  intro hI;rw [if_neg (by omega)];exact⟨_,rfl,_,rfl,hI⟩
 exact tot_some.2 λh=>by cases h
theorem zEQ (l:List A6) (s:List (List Int)) (h:l.length<=6) (hs:∀ x∈l,x.stops.length<=6):Tot (lA l s) λ_=>True:=by
 unfold lA;refine aF (zDH l s (by omega)) λr hr=>?_
 cases r with
 | false=>rw [if_pos (by rfl)];exact tot_some.2 trivial
 | true=>
  obtain⟨hl,hq⟩:=hr rfl;rw [if_neg (by simp)];refine bO (P:=λ_=>True) (cC (λi st=>st.2.2=(i:Int)/\-(i:Int) * 6000000000000<=st.1/\st.1<=(i:Int) * 6000000000000) l.length (by omega) ⟨rfl,by simp,by simp⟩ ?_ ?_) ?_ (λ_ _=>trivial)
  ·rintro i ⟨sm,ea,y⟩ hi ⟨q1,q2,q3⟩;dsimp only at q1 q2 q3;subst q1;dsimp only;have hx:=zQR hi;have hz:=zQR (l:=s) (show i < s.length by omega);have hst:=hs _ (List.getElem_mem hi);have hsl:=hq i _ _ hx hz;rw [if_pos (by omega)];refine bO (P:=λo=>match o with|.inl b=>-((i:Int)+1) * 6000000000000<=b.1/\b.1<=((i:Int)+1) * 6000000000000|.inr b=>∃ r,b=.inr r) (cC (λk st=>st.2.2=(k:Int)/\sm - (k:Int) * 1000000000000<=st.1/\st.1<=sm+(k:Int) * 1000000000000) l[i].stops.length (by omega) ⟨rfl,by simp,by simp⟩ ?_ ?_) ?_ ?_
   ·rintro k ⟨s2,e2,y2⟩ hk ⟨p1,p2,p3⟩;dsimp only at p1 p2 p3;subst p1;dsimp only;have ha:=zQR hk;have hb:=zQR (l:=s[i]'(by omega)) (show k < (s[i]'(by omega)).length by omega);rw [aH hx,if_pos (by omega),aH hx,aH ha,aH hz,aH hb];generalize l[i].stops[k]=x;generalize (s[i]'(by omega))[k]'(by omega)=at_;split
    ·exact⟨_,rfl,_,rfl⟩
    rename_i hc;simp only [Bool.or_eq_true,decide_eq_true_eq,not_or] at hc;obtain⟨c1,c2,c3,c4,c5,c6⟩:=hc
    have m1:x.weight * (at_ - x.due)<=100 * 2147483648:=by
     by_cases hd:0<=at_ - x.due
     ·exact Int.mul_le_mul (by omega) (by omega) hd (by omega)
     have : x.weight * (at_ - x.due) <= 0 := Int.mul_nonpos_of_nonneg_of_nonpos (by omega) (by omega);omega
    have m2:-(100 * 2147483648)<=x.weight * (at_ - x.due):=by
     have:x.weight * (x.due - at_)<=100 * 2147483648:=by
      by_cases hd:0<=x.due - at_
      ·exact Int.mul_le_mul (by omega) (by omega) hd (by omega)
      have : x.weight * (x.due - at_) <= 0 := Int.mul_nonpos_of_nonneg_of_nonpos (by omega) (by omega);omega
     have e:x.weight * (at_ - x.due)=-(x.weight * (x.due - at_)):=by rw [<- Int.mul_neg];congr 1;omega
     omega
    generalize x.weight * (at_ - x.due)=m at m1 m2;rw [aA (by unfold I64;omega),aA (by unfold I64;omega),aA (by unfold I64;omega),aA (bB hk (by omega))];exact tot_some.2 ⟨by push_cast;rfl,by show _<=s2+m;push_cast;omega,by show s2+m<=_;push_cast;omega⟩
   ·rintro⟨s2,e2,y2⟩ ⟨p1,p2,p3⟩;dsimp only at p1 p2 p3;subst p1;dsimp only;rw [aH hx,if_neg (by omega)];exact⟨_,rfl,by show _<=s2;omega,by show s2<=_;omega⟩
   ·rintro⟨s2,e2⟩ ⟨p1,p2⟩;dsimp only at p1 p2 ⊢;rw [aA (bB hi (by omega))];exact tot_some.2 ⟨by push_cast;rfl,by show _<=s2;push_cast;omega,by show s2<=_;push_cast;omega⟩
   rintro b ⟨r,rfl⟩;trivial
  ·rintro⟨sm,ea,y⟩ ⟨q1,q2,q3⟩;dsimp only at q1 q2 q3;subst q1;dsimp only;rw [if_neg (by omega)];exact⟨_,rfl,trivial⟩
  rintro⟨a,b⟩ _;dsimp only;split<;>exact tot_some.2 trivial
theorem qWT (w:Am) (h:w.trips.length<=6) (hs:∀ x∈w.trips,x.stops.length<=6) (hp:w.progress.length<=reachBytes):Tot (kD w) λ_=>True:=by
 have hp:=qS hp;unfold kD;refine aF (zEQ _ _ h hs) ?_;rintro⟨a,b⟩ _;dsimp only;refine bO (P:=λ_=>True) (cA w.progress (by omega) (λ_=>True) trivial ?_ ?_) (λ_ _=>tot_some.2 trivial) (λ_ _=>trivial)
 ·intro i e he _;have hi:=(zQQ.1 he).1;rw [if_pos (by omega)];refine aF (P:=λ_=>True) ?_ λx _=>?_
  ·rw [aH he];split
   ·exact tot_some.2 trivial
   rw [aH he];exact tot_some.2 trivial
  split
  ·exact⟨_,rfl,.inr ⟨_,rfl,trivial⟩⟩
  rw [aA (bB hi (by omega))];exact⟨_,rfl,.inl ⟨rfl,trivial⟩⟩
 intro _;rw [if_neg (by omega)];exact⟨_,rfl,_,rfl,trivial⟩
theorem zED {l:Ag} (w:l.Wf) (hj:l.joints.length<=80):LayW l:=by
 have L:∀ {n:Nat},n<=reachBytes->n<=1000000000000000:=λh=>by have:=qS h;omega
 exact⟨L w.name,λs hs=>L (w.Ad.2 s hs),w.Af.2,⟨by omega,λj hj=>let q:=w.joints.2 j hj;⟨⟨q.a.el,q.a.side⟩,⟨q.b.el,q.b.side⟩⟩⟩,w.Ah.2,w.balises.2⟩
theorem qYD {w:Am} (wf:w.Wf) (h:WFew w):Tot (nL w) λr=>r=0->WVal w:=by
 have hw:=zED wf.layout h.joints;have ho:=h.ok;unfold nL;refine aF (qKK _ hw) λr1 h1=>?_;split
 ·refine aF (zGG hw) ?_;rintro⟨t,e⟩ hB;dsimp only at hB ⊢;refine aF (P:=λx=>x=false->LayC w.layout) ?_ λx hx=>?_
  ·split
   ·rename_i he;obtain⟨hc,_,_,hr⟩:=hB he;exact aF (zDI hr wf.Aq) λr _=>tot_some.2 λ_=>hc
   exact tot_some.2 λh=>by cases h
  cases x with
  | true=>rw [if_pos rfl];exact tot_some.2 λh=>by cases h
  | false=>
   have hc:=hx rfl;rw [if_neg Bool.false_ne_true];refine aF (P:=λx=>x=false->mK w.Aq w.inter=true) ?_ λx hs=>?_
   ·rw [qEZ _ _ ho.Aq ho.setts,aD]
    cases mK w.Aq w.inter with
    | false=>rw [if_pos (by rfl)];exact tot_some.2 λh=>by cases h
    | true=>
     rw [if_neg (by simp)];exact aF (qSX w (by have:=ho.machines;omega)) λr _=>tot_some.2 λ_=>rfl
   cases x with
   | true=>rw [if_pos rfl];exact tot_some.2 λh=>by cases h
   | false=>
    have hs:=hs rfl;rw [if_neg Bool.false_ne_true];refine aF (P:=λx=>x=false->w.units≠[]/\∀ u∈w.units,∀ s∈u.body.steps,rV w.layout s) ?_ λx hu=>?_
    ·refine aF (zDC hc.k (by have := ho.units; omega) wf.units.2) fun r hr => ?_
     cases r with
     | false=>rw [if_pos (by rfl)];exact tot_some.2 λh=>by cases h
     | true=>
      rw [if_neg (by simp)];exact aF (zCD w (by have:=ho.units;omega)) λr _=>tot_some.2 λ_=>hr rfl
    cases x with
    | true=>rw [if_pos rfl];exact tot_some.2 λh=>by cases h
    | false=>
     obtain⟨hu1,hu2⟩:=hu rfl;have hf:tD w.Aq w.inter=true:=by unfold mK at hs;simp only [zQA] at hs;first|exact hs.1|exact hs.1.1
     have hv:WVal w:=⟨λe he=>(hc.k.right e he).2.2.2.2.1,hc.k.s.Af.2,hu2,hs,(fitsB_iff.1 hf).2.1,hu1⟩;rw [if_neg Bool.false_ne_true];refine aF (qYE _ _ (by have:=h.trips;omega) λx hx=>by have:=h.stops x hx;omega) λr _=>?_;split
     ·refine aF (qWT w h.trips h.stops wf.progress.1) fun r _ => ?_;split
      ·exact tot_some.2 λ_=>hv
      exact tot_some.2 λ_=>hv
     exact tot_some.2 λ_=>hv
 rename_i e;exact tot_some.2 λh=>absurd h e
end Go.Proofs.YtofndjhpbonpbaaGreatDoor
set_option linter.unusedVariables false
set_option linter.unusedSimpArgs false
set_option maxHeartbeats 4000000
set_option maxRecDepth 100000
namespace Go.Proofs.YtofndjhpbonpbaaGreatDoor
open Go Go.TL
theorem zFY:oC=some true:=by decide+kernel
theorem wf_sok {t:Al} (h:t.Wf):SOk t:=λr hr s hs=>by
 have hw:=h.Ab.2 r hr;simp only [gB,zQN] at hs;rcases hs with (hs|hs)|hs
 ·have:=hw.Ae.2 s hs;exact⟨this.el,this.pos⟩
 ·have:=hw.Aj.2 s hs;exact⟨this.el,this.pos⟩
 have:=hw.At.2 s hs;exact⟨this.el,this.pos⟩
theorem all_of {α:Type} {l:List α} {Q:α->Prop} (h:∀ (j:Nat) (x:α),j < l.length->l[j]?=some x->Q x):∀ x∈l,Q x:=λx hx=>by
 obtain⟨j,hj⟩:=List.mem_iff_getElem?.1 hx;exact h j x (zQQ.1 hj).1 hj
theorem zB {α:Type} {ρ:Type} {f:Int->Option (Int ⊕ (_root_.Unit ⊕ ρ))} (l:List α) (hl:l.length<=reachBytes) (Q:α->Prop) (v:ρ) (hs:∀ (i:Nat) (e:α),l[i]?=some e->Tot (f (i:Int)) λo=>(o=.inl ((i:Int)+1)/\Q e)\/o=.inr (.inr v)) (he:f (l.length:Int)=some (.inr (.inl ()))):Tot (aY f 0) λo=>match o with|.inl _=>∀ x∈l,Q x|.inr b=>b=v:=by
 have hl:=qS hl;refine gE (cA (Q:=λo=>match o with|.inl _=>∀ (j:Nat) (x:α),j < l.length->l[j]?=some x->Q x|.inr b=>b=v) l (by omega) (λi=>∀ (j:Nat) (x:α),j < i->l[j]?=some x->Q x) (λj x hj=>absurd hj (zQV j)) ?_ ?_) ?_
 ·intro i e hx hI;refine gE (hs i e hx) ?_;rintro o (⟨rfl,hq⟩|rfl)
  ·refine .inl ⟨rfl, fun j x hj hv => ?_⟩;rcases Nat.lt_or_ge j i with h1|h1
   ·exact hI j x h1 hv
   obtain rfl : j = i := by omega
   rw [hx] at hv;cases hv;exact hq
  exact .inr ⟨_,rfl,rfl⟩
 ·intro hI;rw [he];exact⟨_,rfl,_,rfl,hI⟩
 intro o ho
 cases o with
 | inl _=>exact all_of ho
 | inr b=>exact ho
theorem zDG {t:Al} {s:Az} (wt:t.Wf):Tot (oD t s) λb=>b=true->TOk t/\t.Ab.length<=50/\t.Ae.length<=40/\s.Ab.length<=50:=by
 have hr:=qS wt.Ab.1;unfold oD;refine bO (zB t.Ab wt.Ab.1 Short false ?_ ?_) (λ_ hq=>tot_some.2 λhb=>?_) (λb hb e=>by rw [hb] at e;cases e)
 ·intro i e he;have hi:=(zQQ.1 he).1;rw [if_pos (by omega),aH he];split
  ·exact⟨_,rfl,.inr rfl⟩
  rename_i hc;simp only [Bool.or_eq_true,decide_eq_true_eq,not_or] at hc;rw [aA (bB hi (by omega))];exact⟨_,rfl,.inl ⟨rfl,⟨by omega,by omega,by omega,by omega⟩⟩⟩
 ·rw [if_neg (by omega)];rfl
 simp only [zQA,decide_eq_true_eq] at hb;exact⟨⟨by omega,by omega,hq⟩,by omega,by omega,by omega⟩
theorem qTQ {c:Bg} (wc:c.Wf):Tot (sZ c) λb=>b=true->c.tracks.length<=10/\∀ k∈c.tracks,k.Ab.length<=60:=by
 have hr:=qS wc.tracks.1;unfold sZ;refine bO (zB c.tracks wc.tracks.1 (λk=>k.Ab.length<=60) false ?_ ?_) (λ_ hq=>tot_some.2 λhb=>?_) (λb hb e=>by rw [hb] at e;cases e)
 ·intro i e he;have hi:=(zQQ.1 he).1;rw [if_pos (by omega),aH he];split
  ·exact⟨_,rfl,.inr rfl⟩
  rename_i hc;simp only [Bool.or_eq_true,decide_eq_true_eq,not_or] at hc;rw [aA (bB hi (by omega))];exact⟨_,rfl,.inl ⟨rfl,by omega⟩⟩
 ·rw [if_neg (by omega)];rfl
 simp only [zQA,decide_eq_true_eq] at hb;exact⟨by omega,hq⟩
theorem few58 {w:Am} (wf:w.Wf):Tot (sY w) λb=>b=true->WFew w:=by
 unfold sY;split
 ·exact tot_some.2 λh=>by cases h
 rename_i hc;simp only [Bool.or_eq_true,decide_eq_true_eq,not_or] at hc;refine bO (zB w.units wf.units.1 (λu=>u.body.steps.length<=100) false ?_ ?_) (λ_ hu=>?_) (λb hb e=>by rw [hb] at e;cases e)
 ·intro i e he;have hi:=(zQQ.1 he).1;rw [if_pos (by omega)];refine aF (P:=λx=>x=false->e.body.steps.length<=100) ?_ λx hx=>?_
  ·rw [aH he];split
   ·exact tot_some.2 λh=>by cases h
   rw [aH he];split
   ·exact tot_some.2 λh=>by cases h
   rw [aH he];exact tot_some.2 λ_=>by omega
  cases x with
  | true=>rw [if_pos rfl];exact⟨_,rfl,.inr rfl⟩
  | false=>rw [if_neg Bool.false_ne_true,aA (bB hi (by omega))];exact⟨_,rfl,.inl ⟨rfl,hx rfl⟩⟩
 ·rw [if_neg (by omega)];rfl
 refine bO (zB w.trips wf.trips.1 (fun x => x.stops.length <= 6) false ?_ ?_) (fun _ hs => ?_) (fun b hb e => by rw [hb] at e; cases e)
 ·intro i e he;have hi:=(zQQ.1 he).1;rw [if_pos (by omega),aH he];split
  ·exact⟨_,rfl,.inr rfl⟩
  rw [aA (bB hi (by omega))];exact⟨_,rfl,.inl ⟨rfl,by omega⟩⟩
 ·rw [if_neg (by omega)];rfl
 refine bO (zB w.air wf.air.1 (fun _ => True) false ?_ ?_) (fun _ _ => ?_) (fun b hb e => by rw [hb] at e; cases e)
 ·intro i e he;have hi:=(zQQ.1 he).1;rw [if_pos (by omega),aH he];split
  ·exact⟨_,rfl,.inr rfl⟩
  rw [aA (bB hi (by omega))];exact⟨_,rfl,.inl ⟨rfl,trivial⟩⟩
 ·rw [if_neg (by omega)];rfl
 refine aF (P := fun b => b = true -> WFew w) ?_ fun b hb => tot_some.2 hb;refine aF (P:=λb=>b=true->w.layout.Af.length<=40/\w.layout.joints.length<=80) (tot_some.2 λhb=>?_) λb hL=>?_
 ·simp only [zQA,decide_eq_true_eq] at hb;exact⟨by omega,by omega⟩
 cases b with
 | false=>rw [if_neg Bool.false_ne_true];exact tot_some.2 λh=>by cases h
 | true=>
  obtain⟨l1,l2⟩:=hL rfl;rw [if_pos rfl];refine aF (zDG wf.Aq) λb hS=>?_
  cases b with
  | false=>rw [if_neg Bool.false_ne_true];exact tot_some.2 λh=>by cases h
  | true=>
   obtain⟨t1,t2,t3,t4⟩:=hS rfl;rw [if_pos rfl];refine aF (qTQ wf.center) λb hC=>tot_some.2 λhb=>?_;obtain⟨c1,c2⟩:=hC hb;exact⟨⟨by omega,hu,by omega,c1,c2,t2,t4,t3,by omega,l1,t1,wf_sok wf.Aq⟩,by omega,hs,l2⟩
theorem zEN {w:Am} (h:WOk w) (hid:∀ u∈w.units,I64 u.cab.train.id) (hel:∀ u∈w.units,∀ s∈u.body.steps,I64 s.el):∀ f∈qDO w,Ac.ok f:=by
 have k:∀ n:Int,0<=n->n<=1000000->I64 n:=λn h1 h2=>by unfold I64;omega
 have i0:I64 0:=by decide
 intro f hf;unfold qDO at hf;simp only [zQN] at hf;rcases hf with ((((hf|hf)|hf)|hf)|hf)|hf
 ·unfold qCU zG at hf;simp only [List.mem_flatMap] at hf;obtain⟨i,_,j,_,hf⟩:=hf;unfold vN at hf;split at hf
  ·rename_i a b ha hb;split at hf
   ·rw [List.mem_singleton] at hf;subst hf;exact⟨(show I64 (1:Int) by decide),hid a (zQM ha),hid b (zQM hb)⟩
   cases hf
  cases hf
 ·unfold ovS atF at hf;simp only [List.mem_flatMap] at hf;obtain⟨i,_,hf⟩:=hf;split at hf
  ·rename_i u hu;unfold ovF at hf;split at hf
   ·rw [List.mem_singleton] at hf;subst hf;exact⟨(show I64 (2:Int) by decide),hid u (zQM hu),i0⟩
   cases hf
  cases hf
 ·unfold zY at hf;split at hf
  ·cases hf
  rw [List.mem_singleton] at hf;subst hf;exact⟨(show I64 (3:Int) by decide),i0,i0⟩
 ·unfold ptS ptU at hf;simp only [List.mem_flatMap] at hf;obtain⟨i,_,hf⟩:=hf;unfold atF at hf;split at hf
  ·rename_i u hu;simp only [List.mem_flatMap] at hf;obtain⟨j,_,hf⟩:=hf;split at hf
   ·rename_i s hs;unfold ptF at hf;split at hf
    ·split at hf
     ·rw [List.mem_singleton] at hf;subst hf;exact⟨(show I64 (4:Int) by decide),hid u (zQM hu),hel u (zQM hu) s (zQM hs)⟩
     cases hf
    cases hf
   cases hf
  cases hf
 ·unfold sgS at hf;simp only [List.mem_flatMap,List.mem_range] at hf;obtain⟨i,hi,hf⟩:=hf;have:=h.clear;unfold sgF at hf;split at hf
  ·split at hf
   ·rw [List.mem_singleton] at hf;subst hf;exact⟨(show I64 (5:Int) by decide),show I64 (i:Int) from k _ (by omega) (by omega),i0⟩
   cases hf
  cases hf
 unfold clS at hf;simp only [List.mem_flatMap,List.mem_range] at hf;obtain⟨i,hi,hf⟩:=hf;have:=h.Ab;unfold clF at hf;split at hf
 ·rw [List.mem_singleton] at hf;subst hf;exact⟨(show I64 (6:Int) by decide),show I64 (i:Int) from k _ (by omega) (by omega),i0⟩
 cases hf
theorem zBQ {w:Am} (h:WOk w):(qDO w).length<=2000:=by
 obtain⟨l1,l2,l3,l4,l5⟩:=qFW h;have hL:(zY w).length<=1:=by unfold zY;split<;>simp
 unfold qDO;simp only [zQL];omega
theorem same58 (l:List Ac) (hl:l.length<=1000000) (ho:∀ f∈l,Ac.ok f):mM l l=some true:=by
 have:Tot (mM l l) λr=>r=true:=by
  unfold mM;rw [if_pos rfl];refine bO (P:=λo=>match o with|.inl _=>True|.inr b=>b=true) (cA l (by omega) (λ_=>True) trivial ?_ ?_) (λ_ _=>tot_some.2 rfl) (λb hb=>hb)
  ·intro i e he _;have hi:=(zQQ.1 he).1;have hm:=ho _ (zQM he);rw [if_pos (by omega),aH he,aH he,aA ⟨hm,hm⟩,if_pos rfl,aA (bB hi (by omega))];exact⟨_,rfl,.inl ⟨rfl,trivial⟩⟩
  intro _;rw [if_neg (by omega)];exact⟨_,rfl,_,rfl,trivial⟩
 obtain⟨r,e,rfl⟩:=this;exact e
theorem qWJ {w:Am} (h:WOk w):iR w=some (decide (((qDO w).length:Int)=0)):=by
 unfold iR;rw [qGZ h,aD]
theorem qXX {w:Am} (h:WOk w):eQ w=some (decide (((qCU w).length:Int)=0)):=by
 unfold eQ;rw [qKD h,aD]
theorem zBV {w:Am} (h:WOk w) (v:WVal w):iU w=some (decide (((qCU w).length:Int)=0)):=by
 unfold iU;rw [qQP h v,aD]
theorem qMZ {p0:Am} (w0:p0.Wf):hZ p0=some true:=by
 obtain⟨b,hf,hb⟩:=few58 w0;unfold hZ;rw [hf,aD,zFY]
 cases b with
 | false=>rw [if_pos (by rfl),aD,if_pos rfl,aD]
 | true=>
  have hF:=hb rfl;have ho:=hF.ok;obtain⟨e,he,hv⟩:=qYD w0 hF;rw [if_neg (by simp),he,aD,aD];by_cases h0:e=0
  ·have v:=hv h0;rw [decide_eq_true h0,if_neg (by simp),qYC ho v,aD,qGZ ho,aD,same58 _ (by have:=zBQ ho;omega) (zEN ho (λu hu=>(w0.units.2 u hu).cab.train.id) λu hu s hs=>((w0.units.2 u hu).body.steps.2 s hs).el),aD,if_pos rfl,qWJ ho,aD,if_pos (beq_self_eq_true _),qXX ho,aD,zBV ho v,aD,if_pos (beq_self_eq_true _),aD,aD]
  rw [decide_eq_false h0,if_pos (by rfl),aD]
end Go.Proofs.YtofndjhpbonpbaaGreatDoor
