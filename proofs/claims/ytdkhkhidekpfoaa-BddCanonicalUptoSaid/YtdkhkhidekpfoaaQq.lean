/- Texts of this proof, joined, without what it does not use. No condition. -/
import Derived.IntWalk
import Derived.Test.YtdkhkhidekpfoaaQp

set_option linter.unusedVariables false
set_option linter.unusedSimpArgs false
set_option maxHeartbeats 400000
namespace Go.Proofs.Ytdkhkhidekpfoaa
open Go Go.TL
theorem qAZ (k m:Nat):(k:Int).fdiv (m:Int)=((k / m:Nat):Int):=by
 rw [Int.fdiv_eq_ediv_of_nonneg _ (by omega)];rfl
theorem bit_eq {k i:Nat} (hi:i≤62) (hk:k < 4611686018427387904):IntKind.i64.wrap ((BitVec.ofInt IntKind.i64.bits ((k:Int).fdiv (2 ^ (min ((i:Int)).toNat IntKind.i64.bits))) &&& BitVec.ofInt IntKind.i64.bits (1:Int)).toNat:Nat)=((k / 2 ^ i % 2:Nat):Int):=by
 have h1:min ((i:Int)).toNat IntKind.i64.bits=i:=by
  show min ((i:Int)).toNat 64=i;omega
 have h2:k / 2 ^ i≤k:=Nat.div_le_self _ _;rw [h1,show ((2:Int) ^ i)=((2 ^ i:Nat):Int) by simp,qAZ]
 have h3:(BitVec.ofInt IntKind.i64.bits ((k / 2 ^ i:Nat):Int) &&& BitVec.ofInt IntKind.i64.bits (1:Int)).toNat=k / 2 ^ i % 2:=by
  show (BitVec.ofInt 64 ((k / 2 ^ i:Nat):Int) &&& BitVec.ofInt 64 (1:Int)).toNat=_;rw [BitVec.ofInt_natCast,BitVec.toNat_and,BitVec.toNat_ofNat,Nat.mod_eq_of_lt (by omega)];exact Nat.and_one_is_mod _
 rw [h3,IntWalk.i64_in _ (by omega)]
theorem add_eq {d:Diagram} {n:Node} (ho:NOK d.nodes) (hk:Node.ok n) (hl:d.nodes.length+1≤1000000000):mL d n=some ((bH d.nodes n).2,⟨(bH d.nodes n).1,d.root⟩):=by
 unfold mL bH;by_cases h:n.lo=n.hi
 ·rw [if_pos h,if_pos h]
 rw [if_neg h,if_neg h];rw [yD (ρ:=Unit ⊕ (Int×Diagram)) d.nodes (λm=>decide (m=n)) (λi=>.inr ((i:Int)+2,d)) (.inl ()) (by omega) ?_ ?_]
 ·cases hf:d.nodes.findIdx? (λm=>decide (m=n)) with
  | some i=>rfl
  | none=>
   show cO (some (Sum.inl ())) _=_;rw [aU,aB (by simp;omega),aB (by simp;unfold I64;omega)];simp;omega
 ·intro i e he;have hi:=(zQQ.1 he).1;rw [if_pos (by omega),cA he,aB ⟨ho.at he,hk⟩];by_cases hx:e=n
  ·rw [if_pos hx, if_pos (by simpa using hx), aB (by unfold I64; omega)];rfl
  rw [if_neg hx,if_neg (by simpa using hx),aB (by unfold I64;omega)]
 rw [if_neg (by omega)];rfl
theorem wM {D:List Node} {n:Node} (h1:0≤n.lo∧n.lo < (D.length:Int)+2) (h2:0≤n.hi∧n.hi < (D.length:Int)+2):0≤(bH D n).2∧(bH D n).2 < ((bH D n).1.length:Int)+2:=by
 unfold bH;split
 ·exact h1
 cases hf:D.findIdx? (λm=>decide (m=n)) with
 | some i=>
  rw [List.findIdx?_eq_some_iff_getElem] at hf;obtain⟨hi,_⟩:=hf;dsimp only;omega
 | none=>
  dsimp only;simp;omega
theorem qEA {D:List Node} {n:Node} (h:NOK D) (hn:Node.ok n):NOK (bH D n).1:=by
 unfold bH;split
 ·exact h
 split
 ·exact h
 exact xF h hn
theorem mQ:∀ (k fu:Nat) (d:Diagram) (T:List Bool) (v:Int),k < fu→T.length=2 ^ k→NOK d.nodes→0≤v→v+k≤1000→d.nodes.length+2 ^ k≤1000000000→
  cW fu d T v=some ((eQ d.nodes k T v).2,⟨(eQ d.nodes k T v).1,d.root⟩)∧NOK (eQ d.nodes k T v).1∧d.nodes.length≤(eQ d.nodes k T v).1.length∧(eQ d.nodes k T v).1.length+1≤d.nodes.length+2 ^ k∧0≤(eQ d.nodes k T v).2∧(eQ d.nodes k T v).2 < ((eQ d.nodes k T v).1.length:Int)+2
 | _,0,d,T,v,hk,_,_,_,_,_=>by omega
 | 0,fu+1,d,T,v,hk,hT,ho,hv,hv2,hl=>by
  have h1:T.length=1:=hT;unfold cW eQ;have h0:=lY (l:=T) (i:=0) (by omega);refine⟨?_,ho,zQW _,by simp,?_⟩
  ·rw [if_pos (by omega), bX (by omega) h0];unfold aY;split<;>rfl
  unfold aY;split<;>omega
 | k+1,fu+1,d,T,v,hk,hT,ho,hv,hv2,hl=>by
  rw [Nat.pow_succ] at hT hl;have hp:0 < 2 ^ k:=Nat.pos_of_ne_zero (by simp)
  have hw:IntKind.i64.wrap ((T.length:Int).tdiv 2)=((2 ^ k:Nat):Int):=by
   rw [IntWalk.i64_quo _ _ (by omega),hT];omega
  have hs0:sub T 0 ((2 ^ k:Nat):Int)=T.take (2 ^ k):=zL T (2 ^ k);have hs1:sub T ((2 ^ k:Nat):Int) (T.length:Int)=T.drop (2 ^ k):=sU T (2 ^ k);obtain⟨e1,o1,l1,m1,r1⟩:=mQ k fu d (T.take (2 ^ k)) (v+1) (by omega) (by rw [List.length_take];omega) ho (by omega) (by omega) (by omega);unfold cW eQ;dsimp only;rw [if_neg (by omega),aB (by omega),hw,aB (by omega),aB (by unfold I64;omega),hs0,e1,aA];dsimp only;generalize eQ d.nodes k (T.take (2 ^ k)) (v+1)=a at e1 o1 l1 m1 r1;obtain⟨e2,o2,l2,m2,r2⟩:=mQ k fu ⟨a.1,d.root⟩ (T.drop (2 ^ k)) (v+1) (by omega) (by rw [List.length_drop];omega) o1 (by omega) (by omega) (by dsimp only;omega);dsimp only at e2 o2 l2 m2 r2;rw [aB (by omega),aB (by unfold I64;omega),hs1,e2,aA];dsimp only;generalize eQ a.1 k (T.drop (2 ^ k)) (v+1)=b at e2 o2 l2 m2 r2;have hok:Node.ok ⟨v,a.2,b.2⟩:=⟨by unfold I64;dsimp only;omega,by unfold I64;dsimp only;omega,by unfold I64;dsimp only;omega⟩;have hlen:=mH b.1 ⟨v,a.2,b.2⟩;have hpre:=(gF b.1 ⟨v,a.2,b.2⟩).length_le;rw [add_eq (d:=⟨b.1,d.root⟩) o2 hok (by dsimp only;omega),aA];dsimp only;refine⟨rfl,qEA o2 hok,by omega,by rw [Nat.pow_succ];omega,wM (by dsimp only;omega) (by dsimp only;omega)⟩
theorem qEH {N:Nat} (hN:N≤29) (f:Fn):oQ ((pI N).map f)=some ⟨(bV N f).1,(bV N f).2⟩∧NOK (bV N f).1:=by
 have h2:2 ^ N≤2 ^ 29:=Nat.pow_le_pow_right (by omega) hN;rw [← rS];obtain⟨e,o,_⟩:=mQ N aF ⟨[],0⟩ (kD f N) 0 (by unfold aF;omega) (lI N f) xE (by omega) (by omega) (by show 0+2 ^ N≤_;omega);unfold oQ oP;rw [e,aA];dsimp only at o ⊢;rw [pA] at o ⊢;exact⟨rfl,o⟩
theorem zA (D:List Node) {x:Int} (h:x < 2) (l:Int):cE D aF x l=some l:=by
 rw [show aF=73786976294838206463+1 from rfl];unfold cE;rw [if_pos (.inl h)]
theorem ValidD.nn {d:Diagram} (h:ValidD d):NN d.nodes:=λn hn=>by
 obtain⟨i,hi⟩:=List.getElem?_of_mem hn;exact⟨(h.2.1.1.lo i n hi).1,(h.2.1.1.hi i n hi).1⟩
def cG (N:Nat) (f:Fn):Diagram:=⟨(bV N f).1,(bV N f).2⟩
theorem vS {N:Nat} (hN:N≤29) (f:Fn):NOK (cG N f).nodes:=(qEH hN f).2
theorem mk_len {N:Nat} (hN:N≤29) (f:Fn):(cG N f).nodes.length≤4611686018427387903:=by
 have h2:2 ^ N≤2 ^ 29:=Nat.pow_le_pow_right (by omega) hN;have:=(jP N f (by omega)).len;show (bV N f).1.length≤_;omega
theorem tR {N:Nat} (hN:N≤14) (f:Fn):ValidD (cG N f):=by
 have ok:=jP N f (by omega);have hp:2 ^ N≤16384:=Nat.le_trans (Nat.pow_le_pow_right (by omega) hN) (by decide);have hlen:=ok.len;have hv:=ok.order aF (by unfold aF;omega);refine⟨?_,⟨ok.wf,ok.nodup⟩,?_⟩
 ·show (bV N f).1.length≤20000;omega
 show if (bV N f).1.length=0 then (bV N f).2=0∨(bV N f).2=1 else (bV N f).2=((bV N f).1.length:Int)+1∧_;have hr:=ok.root;split
 ·rename_i h0;have:=hr.1;have:=hr.2;omega
 rename_i h0;refine⟨?_,hv⟩;by_cases hx:(bV N f).2 < 2
 ·rw [zA _ hx] at hv;simp only [Option.some.injEq] at hv;omega
 rw [show aF=73786976294838206463+1 from rfl] at hv;unfold cE at hv;rw [if_neg (by omega)] at hv;obtain⟨n,hn⟩:=hr.get (by omega);rw [hn] at hv;dsimp only at hv;rw [Option.bind_eq_some_iff] at hv;obtain⟨l1,_,hv⟩:=hv;rw [Option.bind_eq_some_iff] at hv;obtain⟨l2,_,hv⟩:=hv;split at hv
 ·simp only [Option.some.injEq] at hv;omega
 cases hv
theorem mk_val {N:Nat} (hN:N≤64) (f:Fn) {l:List Bool} (hl:l.length=N):fnD (cG N f).nodes (cG N f).root 0 l=f l:=(jP N f hN).val l hl
theorem gN {N:Nat} {f g:Fn} (h:∀ l,l.length=N→f l=g l):cG N f=cG N g:=by
 unfold cG;rw [pG h]
end Go.Proofs.Ytdkhkhidekpfoaa
set_option linter.unusedVariables false
set_option linter.unusedSimpArgs false
set_option maxHeartbeats 400000
set_option maxRecDepth 100000
namespace Go.Proofs.Ytdkhkhidekpfoaa
open Go Go.TL
theorem qCF {n:Nat} (h:n≤reachBytes):n≤140737488351232:=h
def opB (v:List Bool) (op x:Int) (bs:List Bool):Bool:=
 if op=3 then decide (0≤x)&&v.getD x.toNat false
 else if op=4 then (match bs with|[]=>false|b :: _=>!b)
 else if op=5 then bs.all id
 else if op=6 then bs.any id
 else decide (op=2)
mutual
def evE (v:List Bool):Expr→Bool
 | ⟨op,x,l⟩=>opB v op x (evL v l)
def evL (v:List Bool):List Expr→List Bool
 | []=>[]
 | e :: r=>evE v e :: evL v r
end
mutual
def dpE:Expr→Nat
 | ⟨_,_,l⟩=>dpL l+1
def dpL:List Expr→Nat
 | []=>0
 | e :: r=>max (dpE e) (dpL r)
end
mutual
def szE:Expr→Nat
 | ⟨_,_,l⟩=>szL l+1
def szL:List Expr→Nat
 | []=>0
 | e :: r=>szE e+szL r
end
abbrev qAJ:Nat:=9223372036854775807
mutual
def okE:Expr→Prop
 | ⟨_,_,l⟩=>l.length≤qAJ∧okL l
def okL:List Expr→Prop
 | []=>True
 | e :: r=>okE e∧okL r
end
theorem xM (v:List Bool):∀ l,evL v l=l.map (evE v)
 | []=>by simp [evL]
 | e :: r=>by simp [evL,xM v r]
theorem kZ (v:List Bool) (e:Expr):evE v e=opB v e.op e.var (e.args.map (evE v)):=by
 cases e with
 | mk a b c=>rw [evE,xM]
theorem dpL_le {d:Nat}:∀ {l:List Expr},dpL l≤d↔∀ e∈l,dpE e≤d
 | []=>by simp [dpL]
 | e :: r=>by rw [dpL,Nat.max_le,dpL_le (l:=r)];simp
theorem eZ (e:Expr):dpE e=dpL e.args+1:=by
 cases e with
 | mk a b c=>rw [dpE]
theorem wR:∀ l:List Expr,szL l=(l.map szE).sum
 | []=>by simp [szL]
 | e :: r=>by simp [szL,wR r]
theorem kS (e:Expr):szE e=szL e.args+1:=by
 cases e with
 | mk a b c=>rw [szE]
theorem nV (a b:List Expr):szL (a++b)=szL a+szL b:=by simp [wR]
theorem xB:∀ {l:List Expr},okL l↔∀ e∈l,okE e
 | []=>by simp [okL]
 | e :: r=>by rw [okL,xB (l:=r)];simp
theorem okE_iff {e:Expr}:okE e↔e.args.length≤qAJ∧∀ x∈e.args,okE x:=by
 cases e with
 | mk a b c=>rw [okE,xB]
theorem rD {e:Expr} (h:Expr.Wf e):okE e:=by
 induction h with
 | mk x h0 h1 h2 g2 ih=>
  rw [okE_iff];exact⟨by have:=qCF h2;unfold qAJ;omega,ih⟩
def dO (n:Int) (op x:Int) (k:Nat):Bool:=
 if op=1∨op=2 then decide (x=0∧k=0)
 else if op=3 then decide (0≤x∧x < n∧k=0)
 else if op=4 then decide (k=1∧x=0)
 else if op=5∨op=6 then decide (x=0)
 else false
mutual
def cS (n:Int):Expr→Bool
 | ⟨op,x,l⟩=>dO n op x l.length&&pM n l
def pM (n:Int):List Expr→Bool
 | []=>true
 | e :: r=>cS n e&&pM n r
end
theorem mX {n:Int}:∀ {l:List Expr},pM n l=true↔∀ e∈l,cS n e=true
 | []=>by simp [pM]
 | e :: r=>by rw [pM,zQA,mX (l:=r)];simp
theorem goodE_iff {n:Int} {e:Expr}:cS n e=true↔dO n e.op e.var e.args.length=true∧∀ x∈e.args,cS n x=true:=by
 cases e with
 | mk a b c=>rw [cS,zQA,mX]
def eX (n:Int) (d left:Int) (e:Expr):Prop:=cS n e=true∧d+(dpE e:Int)≤13∧(szE e:Int)≤left
instance (n d left:Int) (e:Expr):Decidable (eX n d left e):=by unfold eX;infer_instance
theorem qCE {σ ρ:Type} {f:σ→Option (σ ⊕ ρ)} (P:ρ→Prop) (I:Nat→σ→Prop) {s:σ} (n:Nat) (hn:n≤qAJ) (h0:I 0 s) (hs:∀ i,i < n→∀ s,I i s→(∃ s',f s=some (.inl s')∧I (i+1) s')∨(∃ o,f s=some (.inr o)∧P o)) (he:∀ s,I n s→∃ o,f s=some (.inr o)∧P o):∃ o,bC f s=some o∧P o:=by
 suffices h:∀ k i s,i+k=n→I i s→∃ o,eU f (k+1) s=some o∧P o by
  obtain⟨o,h1,h2⟩:=h n 0 s (by omega) h0;exact⟨o,tT h1 (by unfold aF qAJ at *; omega),h2⟩
 intro k
 induction k with
 | zero=>
  intro i s hi hI;obtain⟨o,h1,h2⟩:=he s (by rw [show n=i by omega];exact hI);exact⟨o,by simp [eU,h1],h2⟩
 | succ k ih=>
  intro i s hi hI;rcases hs i (by omega) s hI with ⟨s',h1,h2⟩|⟨o,h1,h2⟩
  ·obtain ⟨o, h3, h4⟩ := ih (i + 1) s' (by omega) h2;exact⟨o,by rw [eU,h1];exact h3,h4⟩
  exact⟨o,by rw [eU,h1],h2⟩
theorem oJ (n:Int):∀ (fu:Nat) (e:Expr) (d left:Int),14≤(fu:Int)+d→0 < fu→1≤d→d≤13→0≤left→left≤1000000→okE e→∃ k,bS fu e n d left=some (decide (eX n d left e),k)∧0≤k∧k≤left∧(eX n d left e→k=left - (szE e:Int))
 | 0,e,d,left,hfu,hp,_,_,_,_,_=>by omega
 | fu+1,e,d,left,hfu,hp,hd1,hd13,h0,hm,ho=>by
  obtain⟨hl,hox⟩:=okE_iff.1 ho;have hdp:=eZ e;have hsz:=kS e;have hgd:=goodE_iff (n:=n) (e:=e);unfold bS;by_cases hx:12 < d∨left=0
  ·rw [if_pos (by simpa using hx)];have hno:¬ eX n d left e:=by unfold eX;omega
   exact⟨left,by rw [decide_eq_false hno],h0,by omega,λh=>absurd h hno⟩
  rw [if_neg (by simpa using hx), aB (by unfold I64; omega)]
  have args (hform : dO n e.op e.var e.args.length = true ↔ e.var = 0) (hform2 : 0 < e.args.length → 0 < fu) : ∃ k, (if e.var = (0 : Int) then
    cO (
     bC (fun ((x27 : Int), (c28 : Int)) =>
      if x27 < (e.args.length : Int) then
       bG e.args x27 fun e31 =>
       aC (I64 (d + (1 : Int))) <|
       aD ((bS fu) e31 n (d + (1 : Int)) c28) fun (r34, r35) =>
       if (!(r34)) = true then
        aI (
         aI (
          some (false, r35)))
       else
        aC (I64 (x27 + (1 : Int))) <|
        some (.inl ((x27 + (1 : Int)), r35))
      else
       aI (
        some (.inl c28))) ((0 : Int), (left - (1 : Int)))) fun c22 =>
    some (true, c22)
   else
    some (false, (left - (1 : Int)))) = some (decide (eX n d left e), k) ∧ 0 ≤ k ∧ k ≤ left ∧ (eX n d left e → k = left - (szE e : Int)) := by
   by_cases hv:e.var=0
   ·rw [if_pos hv]
    have hval:eX n d left e↔(∀ x∈e.args,cS n x=true)∧(∀ x∈e.args,d+1+(dpE x:Int)≤13)∧(szL e.args:Int)≤left - 1:=by
     unfold eX;rw [hgd,hform,hdp,hsz]
     have hdl:d+((dpL e.args+1:Nat):Int)≤13↔∀ x∈e.args,d+1+(dpE x:Int)≤13:=by
      have h1:=dpL_le (l:=e.args) (d:=(12 - d).toNat);constructor
      ·intro h x hx;have:=h1.1 (by omega) x hx;omega
      intro h;have:=h1.2 (λx hx=>by have:=h x hx;omega);omega
     rw [hdl];constructor
     ·rintro⟨⟨_,a⟩,b,c⟩;exact⟨a,b,by omega⟩
     rintro⟨a,b,c⟩;exact⟨⟨hv,a⟩,b,by omega⟩
    obtain ⟨o, ho1, ho2⟩ := qCE (f := fun ((x27 : Int), (c28 : Int)) =>
      if x27 < (e.args.length : Int) then
       bG e.args x27 fun e31 =>
       aC (I64 (d + (1 : Int))) <|
       aD ((bS fu) e31 n (d + (1 : Int)) c28) fun (r34, r35) =>
       if (!(r34)) = true then
        aI (
         aI (
          some (false, r35)))
       else
        aC (I64 (x27 + (1 : Int))) <|
        some (.inl ((x27 + (1 : Int)), r35))
      else
       aI (
        some (.inl c28))) (s := ((0 : Int), left - 1))
     (fun (o : Int ⊕ (Bool × Int)) => match o with
      | .inl c => eX n d left e ∧ c = left - (szE e : Int)
      | .inr r => ¬ eX n d left e ∧ r.1 = false ∧ 0 ≤ r.2 ∧ r.2 ≤ left)
     (fun i s => s.1 = (i : Int) ∧ s.2 = left - 1 - (szL (e.args.take i) : Int) ∧ 0 ≤ s.2 ∧ ∀ x ∈ e.args.take i, eX n (d + 1) 1000000 x ∧ cS n x = true ∧ d + 1 + (dpE x : Int) ≤ 13) e.args.length hl ⟨rfl, by simp [szL], by show 0 ≤ left - 1; omega, by simp⟩ (fun i hi s hI => by
      obtain ⟨x27, c28⟩ := s;obtain ⟨h1, h2, h3, h4⟩ := hI;dsimp only at h1 h2 h3;subst h1;have hxi := zQR hi;have hmem := List.getElem_mem hi;dsimp only;rw [if_pos (by omega), cA hxi, aB (by unfold I64; omega)];obtain ⟨k, hk1, hk2, hk3, hk4⟩ := oJ n fu e.args[i] (d + 1) c28 (by omega) (hform2 (by omega)) (by omega) (by omega) h3 (by omega) (hox _ hmem);rw [hk1, aA]
      have hsplit : szL (e.args.take (i + 1)) = szL (e.args.take i) + szE e.args[i] := by
       rw [List.take_add_one, hxi, nV];simp [szL]
      by_cases hV : eX n (d + 1) c28 e.args[i]
      ·left;rw [decide_eq_true hV, if_neg (by simp), aB (qCJ hi hl)];refine ⟨_, rfl, by push_cast; rfl, ?_, hk2, ?_⟩
       ·dsimp only;rw [hk4 hV, hsplit];omega
       intro x hx;rw [List.take_add_one, hxi] at hx;simp only [Option.toList_some, zQN, List.mem_singleton] at hx;rcases hx with hx | hx
       ·exact h4 x hx
       subst hx;exact ⟨⟨hV.1, hV.2.1, by have := hV.2.2; omega⟩, hV.1, hV.2.1⟩
      ·right;rw [decide_eq_false hV];simp only [Bool.not_false, if_true, aS];refine ⟨_, rfl, ?_, rfl, hk2, by omega⟩;intro hc;rw [hval] at hc;apply hV;refine ⟨hc.1 _ hmem, hc.2.1 _ hmem, ?_⟩
       have h5 : szL (e.args.take (i + 1)) ≤ szL e.args := by
        conv => rhs; rw [← List.take_append_drop (i + 1) e.args, nV]
        omega
       have h6 := hc.2.2
       omega) (fun s hI => by
      obtain ⟨x27, c28⟩ := s;obtain ⟨h1, h2, h3, h4⟩ := hI;dsimp only at h1 h2 h3;subst h1;rw [List.take_length] at h2 h4;dsimp only;rw [if_neg (by omega)];refine ⟨_, rfl, ?_, by rw [hsz]; omega⟩;rw [hval]
      exact ⟨fun x hx => (h4 x hx).2.1, fun x hx => (h4 x hx).2.2, by omega⟩)
    rw [ho1]
    cases o with
    | inl c=>
     dsimp only at ho2;rw [aU];have hsz2:(szE e:Int)≤left:=ho2.1.2.2;exact⟨c,by rw [decide_eq_true ho2.1],by omega,by omega,λ_=>ho2.2⟩
    | inr r=>
     obtain⟨r1,r2⟩:=r;dsimp only at ho2;obtain⟨p1,p2,p3,p4⟩:=ho2;subst p2;rw [aT];exact⟨r2,by rw [decide_eq_false p1],p3,p4,λh=>absurd h p1⟩
   rw [if_neg hv]
   have hno:¬ eX n d left e:=by
    unfold eX;rw [hgd,hform];intro h;exact hv h.1.1
   exact⟨left - 1,by rw [decide_eq_false hno],by omega,by omega,λh=>absurd h hno⟩
  have leaf (b:Bool) (hform:dO n e.op e.var e.args.length=b) (hb:b=true→e.args.length=0):∃ k,(some (b,left - 1):Option (Bool×Int))=some (decide (eX n d left e),k)∧0≤k∧k≤left∧(eX n d left e→k=left - (szE e:Int)):=by
   cases b with
   | true=>
    have hnil:e.args=[]:=List.eq_nil_of_length_eq_zero (hb rfl);have h1:dpE e=1:=by rw [hdp,hnil];rfl
    have h2:szE e=1:=by rw [hsz,hnil];rfl
    have hyes:eX n d left e:=⟨hgd.2 ⟨hform,by rw [hnil];simp⟩,by omega,by omega⟩;exact⟨left - 1,by rw [decide_eq_true hyes],by omega,by omega,λ_=>by omega⟩
   | false=>
    have hno:¬ eX n d left e:=by
     unfold eX;rw [hgd,hform];intro h;exact absurd h.1.1 (by simp)
    exact⟨left - 1,by rw [decide_eq_false hno],by omega,by omega,λh=>absurd h hno⟩
  have hpos:0 < e.args.length→0 < fu:=by intro _;omega
  unfold dO at args leaf;by_cases h12:e.op=1∨e.op=2
  ·have e1:(if e.op=(1:Int) then some (decide (e.op=(1:Int))) else some (decide (e.op=(2:Int))))=some true:=by
    rcases h12 with h|h<;>simp [h]
   rw [e1,aA,if_pos rfl,aS,aT];refine leaf _ ?_ ?_
   ·rw [if_pos h12,Bool.eq_iff_iff];simp only [decide_eq_true_eq,zQA];omega
   simp only [zQA,decide_eq_true_eq];omega
  have e1:(if e.op=(1:Int) then some (decide (e.op=(1:Int))) else some (decide (e.op=(2:Int))))=some false:=by
   rw [if_neg (by omega),decide_eq_false (by omega)]
  rw [e1,aA,if_neg (by simp)];by_cases h3:e.op=3
  ·rw [if_pos h3,aS,aT];refine leaf _ ?_ ?_
   ·rw [if_neg h12,if_pos h3,Bool.eq_iff_iff];simp only [decide_eq_true_eq,zQA];omega
   simp only [zQA,decide_eq_true_eq];omega
  rw [if_neg h3];by_cases h4:e.op=4
  ·rw [if_pos h4];by_cases h1:e.args.length=1
   ·rw [if_pos (by omega), aU];exact args (by rw [if_neg h12,if_neg h3,if_pos h4];simp [h1]) hpos
   rw [if_neg (by omega), aS, aT];exact leaf false (by rw [if_neg h12,if_neg h3,if_pos h4,decide_eq_false (by omega)]) (by simp)
  rw [if_neg h4];by_cases h5:e.op=5
  ·rw [if_pos h5,aU];exact args (by rw [if_neg h12,if_neg h3,if_neg h4,if_pos (.inl h5)];simp) hpos
  rw [if_neg h5];by_cases h6:e.op=6
  ·rw [if_pos h6,aU];exact args (by rw [if_neg h12,if_neg h3,if_neg h4,if_pos (.inr h6)];simp) hpos
  rw [if_neg h6,aS,aT];exact leaf false (by rw [if_neg h12,if_neg h3,if_neg h4,if_neg (by omega)]) (by simp)
abbrev zD (n:Int) (e:Expr):Bool:=decide (eX n 1 20000 e)
theorem yX (n:Int) {e:Expr} (ho:okE e):fS e n=some (zD n e):=by
 unfold fS kY;obtain⟨k,hk,_⟩:=oJ n aF e 1 20000 (by unfold aF;omega) (by unfold aF;omega) (by omega) (by omega) (by omega) (by omega) ho;rw [hk,aA]
mutual
theorem rT:∀ e:Expr,szE e≤e.encR.bulk
 | ⟨a,b,c⟩=>by
  have:=sT c;simp only [szE,Expr.encR,D.bulk,D.bulks];omega
theorem sT:∀ l:List Expr,szL l≤D.bulks (Expr.encsR l)
 | []=>by simp [szL]
 | e :: r=>by
  have:=rT e;have:=sT r;simp only [szL,Expr.encsR,D.bulks];omega
end
mutual
theorem pS:∀ e:Expr,dpE e≤szE e
 | ⟨a,b,c⟩=>by
  have:=qBD c;simp only [szE,dpE];omega
theorem qBD:∀ l:List Expr,dpL l≤szL l
 | []=>by simp [szL,dpL]
 | e :: r=>by
  have:=pS e;have:=qBD r;simp only [szL,dpL];omega
end
theorem sz_pos (e:Expr):1≤szE e:=by rw [kS];omega
theorem mU:∀ l:List Expr,l.length≤szL l
 | []=>by simp [szL]
 | e :: r=>by have:=sz_pos e;have:=mU r;simp only [szL,List.length_cons];omega
theorem iX:∀ {l:List Expr} {x:Expr},x∈l→szE x≤szL l
 | e :: r,x,h=>by
  rcases zQB.1 h with rfl|h
  ·simp only [szL];omega
  have:=iX h;simp only [szL];omega
theorem kW {l:List Expr} {x:Expr} (h:x∈l):dpE x≤dpL l:=(dpL_le.1 (zQW _)) x h
theorem qZ:∀ (fu:Nat) (e:Expr),dpE e≤fu→szE e≤1000000000→cH fu e=some (szE e:Int)
 | 0,e,h,_=>by rw [eZ] at h;omega
 | fu+1,e,h,hs=>by
  rw [eZ] at h;have hse:=kS e;have hl:=mU e.args;unfold cH;rw [fB (s:=((1:Int),(0:Int))) (λi=>((1:Int)+(szL (e.args.take i):Int),(i:Int))) e.args.length (o:=(1:Int)+(szL e.args:Int)) rfl (by omega) ?_ ?_]
  ·rw [aA]
   congr 1
   omega
  ·intro i hi;have hm:=List.getElem_mem hi;have h1:=kW hm;have h2:=iX hm;have hq:e.args.take (i+1)=e.args.take i++[e.args[i]]:=by rw [List.take_add_one,zQR hi];rfl
   have hn:szL (e.args.take (i+1))=szL (e.args.take i)+szE e.args[i]:=by rw [hq,nV];simp [szL]
   have hle:szL (e.args.take (i+1))≤szL e.args:=by
    have:=nV (e.args.take (i+1)) (e.args.drop (i+1));rw [List.take_append_drop] at this;omega
   dsimp only;rw [if_pos (by omega),cA (zQR hi),qZ fu e.args[i] (by omega) (by omega),aA,aB (by unfold I64;omega),aB (by unfold I64;omega)]
   congr 3
   omega
  dsimp only;rw [if_neg (by omega),List.take_length];rfl
theorem wT {e:Expr} (hs:szE e≤1000000000):fM e=some (szE e:Int):=by
 unfold fM;exact qZ aF e (by have:=pS e;unfold aF;omega) hs
theorem qCQ (a b:List Expr):dpL (a++b)=max (dpL a) (dpL b):=by
 induction a with
 | nil=>simp [dpL]
 | cons x r ih=>simp only [List.cons_append,dpL,ih];omega
theorem pT:∀ (fu:Nat) (e:Expr),dpE e≤fu→szE e≤1000000000→cC fu e=some (dpE e:Int)
 | 0,e,h,_=>by rw [eZ] at h;omega
 | fu+1,e,h,hs=>by
  rw [eZ] at h;have hse:=kS e;have hde:=eZ e;have hds:=pS e;have hl:=mU e.args;unfold cC;rw [fB (s:=((0:Int),(0:Int))) (λi=>((dpL (e.args.take i):Int),(i:Int))) e.args.length (o:=(dpL e.args:Int)) rfl (by omega) ?_ ?_]
  ·rw [aA, aB (by unfold I64; omega)]
   congr 1
   omega
  ·intro i hi;have hm:=List.getElem_mem hi;have h1:=kW hm;have h2:=iX hm;have hq:e.args.take (i+1)=e.args.take i++[e.args[i]]:=by rw [List.take_add_one,zQR hi];rfl
   have hn:dpL (e.args.take (i+1))=max (dpL (e.args.take i)) (dpE e.args[i]):=by rw [hq,qCQ];simp [dpL]
   dsimp only;rw [if_pos (by omega),cA (zQR hi),pT fu e.args[i] (by omega) (by omega),aA,aB (by unfold I64;omega)]
   congr 3
   omega
  dsimp only;rw [if_neg (by omega),List.take_length];rfl
theorem qBE {e:Expr} (hs:szE e≤1000000000):gD e=some (dpE e:Int):=by
 unfold gD;exact pT aF e (by have:=pS e;unfold aF;omega) hs
theorem rI (n:Int):∀ (fu:Nat) (e:Expr),dpE e≤fu→szE e≤1000000000→bZ fu e n=some (cS n e)
 | 0,e,h,_=>by rw [eZ] at h;omega
 | fu+1,e,h,hs=>by
  rw [eZ] at h;have hse:=kS e;have hl:=mU e.args;have hg:cS n e=(dO n e.op e.var e.args.length&&pM n e.args):=by cases e;rw [cS]
  have hgl:pM n e.args=!(e.args.any λx=>!cS n x):=by
   rw [Bool.eq_iff_iff,mX];simp
  have hloop : bC (ρ := Unit ⊕ Bool) (fun i20 =>
    if i20 < (e.args.length : Int) then
     bG e.args i20 fun e23 =>
     aD ((bZ fu) e23 n) fun r24 =>
     if (!(r24)) = true then
      aI (
       aI (
        some false))
     else
      aC (I64 (i20 + (1 : Int))) <|
      some (.inl (i20 + (1 : Int)))
    else
     aI (
      some (.inl ()))) (0 : Int) = some (if (e.args.any fun x => !cS n x) = true then (.inr false : Unit ⊕ Bool) else .inl ()) := by
   refine lS (ρ:=Unit ⊕ Bool) e.args (λx=>!cS n x) (Sum.inr false) (Sum.inl ()) (by omega) ?_ ?_
   ·intro i x hx;have hi:=(zQQ.1 hx).1;have hm:=zQM hx;have h1:=kW hm;have h2:=iX hm;rw [if_pos (by omega),cA hx,rI n fu x (by omega) (by omega),aA,aB (by unfold I64;omega)];cases cS n x<;>rfl
   rw [if_neg (by omega)];rfl
  unfold bZ;rw [hloop,hg,hgl]
  have leaf:e.op=1∨e.op=2→some ((decide (e.var=0))&&(decide ((e.args.length:Int)=0)))=some (dO n e.op e.var e.args.length&&!(e.args.any λx=>!cS n x)):=λh=>by
   have hf:dO n e.op e.var e.args.length=decide (e.var=0∧e.args.length=0):=by unfold dO;rw [if_pos h]
   rw [hf];by_cases hk:e.var=0∧e.args.length=0
   ·have ha:e.args=[]:=List.length_eq_zero_iff.1 hk.2;simp [hk.1,ha]
   rw [decide_eq_false hk,Bool.false_and]
   congr 1
   rw [Bool.and_eq_false_iff,decide_eq_false_iff_not,decide_eq_false_iff_not];omega
  by_cases h1:e.op=1
  ·rw [if_pos h1,aA,decide_eq_true h1,if_pos rfl,aS,aT];exact leaf (.inl h1)
  rw [if_neg h1,aA];by_cases h2:e.op=2
  ·rw [decide_eq_true h2,if_pos rfl,aS,aT];exact leaf (.inr h2)
  have h12 : ¬ (e.op = 1 ∨ e.op = 2) := by omega
  rw [decide_eq_false h2,if_neg Bool.false_ne_true];by_cases h3:e.op=3
  ·have hf : dO n e.op e.var e.args.length = decide (0 ≤ e.var ∧ e.var < n ∧ e.args.length = 0) := by unfold dO; rw [if_neg h12, if_pos h3]
   rw [if_pos h3,aS,aT,hf];by_cases hk:0≤e.var∧e.var < n∧e.args.length=0
   ·have ha:e.args=[]:=List.length_eq_zero_iff.1 hk.2.2;simp [hk.1,hk.2.1,ha]
   rw [decide_eq_false hk,Bool.false_and]
   congr 1
   rw [Bool.and_eq_false_iff,Bool.and_eq_false_iff,decide_eq_false_iff_not,decide_eq_false_iff_not,decide_eq_false_iff_not];omega
  rw [if_neg h3];by_cases h4:e.op=4
  ·have hf : dO n e.op e.var e.args.length = decide (e.args.length = 1 ∧ e.var = 0) := by unfold dO; rw [if_neg h12, if_neg h3, if_pos h4]
   rw [if_pos h4,hf];by_cases hk:e.args.length=1
   ·rw [if_pos (by omega), aU];cases e.args.any λx=>!cS n x<;>simp [hk]
   rw [if_neg (by omega), aS, aT];simp [hk]
  rw [if_neg h4];by_cases h5:e.op=5
  ·have hf : dO n e.op e.var e.args.length = decide (e.var = 0) := by unfold dO; rw [if_neg h12, if_neg h3, if_neg h4, if_pos (.inl h5)]
   rw [if_pos h5,aU,hf];cases e.args.any λx=>!cS n x<;>simp
  rw [if_neg h5];by_cases h6:e.op=6
  ·have hf : dO n e.op e.var e.args.length = decide (e.var = 0) := by unfold dO; rw [if_neg h12, if_neg h3, if_neg h4, if_pos (.inr h6)]
   rw [if_pos h6,aU,hf];cases e.args.any λx=>!cS n x<;>simp
  have hf : dO n e.op e.var e.args.length = false := by unfold dO; rw [if_neg h12, if_neg h3, if_neg h4, if_neg (by omega)]
  rw [if_neg h6,aS,aT,hf];rfl
theorem qCO (n:Int) {e:Expr} (hs:szE e≤1000000000):gY e n=some (cS n e):=by
 unfold gY;exact rI n aF e (by have:=pS e;unfold aF;omega) hs
theorem qG (n:Int) {e:Expr} (hs:szE e≤1000000000):dM e n=some (zD n e):=by
 unfold dM;rw [wT hs,aA];by_cases h1:(szE e:Int)≤20000
 ·rw [if_pos h1,qBE hs,aA];by_cases h2:(dpE e:Int)≤12
  ·rw [if_pos h2,qCO n hs,aA,aA]
   congr 1
   cases hg:cS n e with
   | false=>exact (decide_eq_false (show ¬ eX n 1 20000 e from λh=>by rw [h.1] at hg;cases hg)).symm
   | true=>exact (decide_eq_true (show eX n 1 20000 e from ⟨hg,by omega,h1⟩)).symm
  rw [if_neg h2,aA]
  congr 1
  exact (decide_eq_false (show ¬ eX n 1 20000 e from λh=>by have:=h.2.1;omega)).symm
 rw [if_neg h1,aA]
 congr 1
 exact (decide_eq_false (show ¬ eX n 1 20000 e from λh=>by have:=h.2.2;omega)).symm
theorem kT (v:List Bool):∀ (fu:Nat) (e:Expr),dpE e≤fu→szE e≤1000000000→bR fu e v=some (evE v e)
 | 0,e,h,_=>by rw [eZ] at h;omega
 | fu+1,e,h,hs=>by
  rw [eZ] at h;have hse:=kS e;have hl:=mU e.args;rw [kZ];unfold bR opB;by_cases h2:e.op=2
  ·rw [if_pos h2,aS,aT,if_neg (by omega),if_neg (by omega),if_neg (by omega),if_neg (by omega),decide_eq_true h2]
  rw [if_neg h2];by_cases h3:e.op=3
  ·rw [if_pos h3,if_pos h3];by_cases h0:0≤e.var
   ·rw [if_pos h0];by_cases hv:e.var < (v.length:Int)
    ·have hget:v[e.var.toNat]?=some (v.getD e.var.toNat false):=by
      rw [zQD,zQR (by omega)];rfl
     rw [if_pos hv,bX h0 hget,aA,aS,aT,decide_eq_true h0,Bool.true_and]
    rw [if_neg hv, aA, aS, aT, zQD, List.getElem?_eq_none (by omega)];simp
   rw [if_neg h0,aA,aS,aT,decide_eq_false h0,Bool.false_and]
  rw [if_neg h3,if_neg h3];by_cases h4:e.op=4
  ·rw [if_pos h4,if_pos h4]
   cases ha:e.args with
   | nil=>
    rw [if_neg (by simp),aA,aS,aT];rfl
   | cons x r=>
    have hm:x∈e.args:=by rw [ha];exact List.mem_cons_self ..
    have q1:=kW hm;have q2:=iX hm;rw [if_pos (by simp),bX (by omega) (by rfl),kT v fu x (by omega) (by omega),aA,aA,aS,aT];rfl
  rw [if_neg h4,if_neg h4]
  have hloop : ∀ c : Bool, bC (ρ := Unit ⊕ (Unit ⊕ Bool)) (fun i24 =>
      if i24 < (e.args.length : Int) then
       bG e.args i24 fun e27 =>
       aD ((bR fu) e27 v) fun r28 =>
       if ((r28 == c)) = true then
        aI (
         aI (
          aI (
           some c)))
       else
        aC (I64 (i24 + (1 : Int))) <|
        some (.inl (i24 + (1 : Int)))
      else
       aI (
        some (.inl ()))) (0 : Int) = some (if (e.args.any fun x => evE v x == c) = true then .inr (.inr c) else .inl ()) := fun c => by
   refine lS (ρ:=Unit ⊕ (Unit ⊕ Bool)) e.args (λx=>evE v x == c) (Sum.inr (Sum.inr c)) (Sum.inl ()) (by omega) ?_ ?_
   ·intro i x hx;have hi:=(zQQ.1 hx).1;have hm:=zQM hx;have q1:=kW hm;have q2:=iX hm;rw [if_pos (by omega),cA hx,kT v fu x (by omega) (by omega),aA,aB (by unfold I64;omega)];cases evE v x == c<;>rfl
   rw [if_neg (by omega)];rfl
  by_cases h5:e.op=5
  ·have h6 : ¬ e.op = 6 := by omega
   rw [if_pos h5,if_pos h5,aA,decide_eq_true h5,if_pos rfl,decide_eq_false h6,hloop false]
   have:(e.args.map (evE v)).all id=!(e.args.any λx=>evE v x == false):=by
    rw [List.all_map,List.all_eq_not_any_not]
    congr 2
    funext x
    show (!(evE v x))=(evE v x == false);cases evE v x<;>rfl
   rw [this];cases (e.args.any λx=>evE v x == false)<;>rfl
  rw [if_neg h5,if_neg h5,aA];by_cases h6:e.op=6
  ·rw [if_pos h6,decide_eq_true h6,if_pos rfl,decide_eq_false h5,hloop true]
   have:(e.args.map (evE v)).any id=(e.args.any λx=>evE v x == true):=by
    rw [List.any_map]
    congr 1
    funext x
    show evE v x=(evE v x == true);cases evE v x<;>rfl
   rw [this];cases (e.args.any λx=>evE v x == true)<;>rfl
  rw [if_neg h6,decide_eq_false h6,if_neg (by simp),aU,decide_eq_false h2]
theorem uV (v:List Bool) {e:Expr} (hs:szE e≤1000000000):eF e v=some (evE v e):=by
 unfold eF;exact kT v aF e (by have:=pS e;unfold aF;omega) hs
theorem qAI {N:Nat} (hN:N≤64) (f:Fn):MakeOk N f (cG N f).nodes (cG N f).root:=jP N f hN
theorem pC (N:Nat) (c:Bool):cG N (λ_=>c)=⟨[],aY c⟩:=by
 unfold cG;rw [vV]
theorem mk_opp {N:Nat} (hN:N≤14) (f:Fn):cX (cG N f)=some (cG N λl=>!f l):=by
 have hv:=tR hN f;have hr:=hv.root;have hr1:=hr.1;have hr2:=hr.2;have hl:=hv.1;rw [tL hv.nn (vS (by omega) f) hr1 (by unfold I64;omega) (by omega)];have:=qAL (qAI (N:=N) (by omega) f);unfold cG at this ⊢;rw [this]
def jJ (all:Bool) (args:List Expr) (l:List Bool):Bool:=args.foldl (λb x=>opQ all b (evE l x)) all
theorem qEE (all:Bool) (args:List Expr) (x:Expr) (l:List Bool):jJ all (args++[x]) l=opQ all (jJ all args l) (evE l x):=by
 unfold jJ;rw [List.foldl_append];rfl
theorem qED (args:List Expr) (l:List Bool):jJ true args l=(args.map (evE l)).all id:=by
 have h:=uF (args.map (evE l)) true;rw [Bool.true_and,List.foldl_map] at h;exact h
theorem qEC (args:List Expr) (l:List Bool):jJ false args l=(args.map (evE l)).any id:=by
 have h:=uE (args.map (evE l)) false;rw [Bool.false_or,List.foldl_map] at h;exact h
theorem iA {N : Nat} (hN : N ≤ 14) : ∀ (fu : Nat) (e : Expr), dpE e ≤ fu → szE e ≤ 1000000000 → cS (N : Int) e = true → bL fu e = some (cG N fun l => evE l e, true)
 | 0,e,h,_,_=>by rw [eZ] at h;omega
 | fu+1,e,h,hs,hg=>by
  rw [eZ] at h;have hse:=kS e;have hl:=mU e.args;have hgi:=goodE_iff.1 hg;have hf:=hgi.1;unfold dO at hf;unfold bL;by_cases h1:e.op=1
  ·rw [if_pos h1,aS,aT]
   have:(cG N λl=>evE l e)=⟨[],0⟩:=by
    rw [gN (g:=λ_=>false) λl _=>by rw [kZ];unfold opB;rw [if_neg (by omega),if_neg (by omega),if_neg (by omega),if_neg (by omega),decide_eq_false (by omega)],pC];rfl
   rw [this]
  rw [if_neg h1];by_cases h3:e.op=3
  ·rw [if_neg (by omega), if_pos h3] at hf;have hf:=of_decide_eq_true hf;rw [if_pos h3,aS,aT];obtain⟨v,hv⟩:∃ v:Nat,e.var=(v:Int):=⟨e.var.toNat,by omega⟩;have hm:=qAK (N:=N) (v:=v) (by omega) (by omega)
   have:(cG N λl=>evE l e)=⟨[⟨e.var,0,1⟩],2⟩:=by
    rw [gN (g := fun l => l.getD v false) fun l _ => by
     rw [kZ]; unfold opB; rw [if_pos h3, decide_eq_true hf.1, Bool.true_and, hv]; rfl]
    unfold cG;rw [hm,hv]
   rw [this]
  rw [if_neg h3];by_cases h4:e.op=4
  ·rw [if_neg (by omega), if_neg h3, if_pos h4] at hf;have hf:=of_decide_eq_true hf;rw [if_pos h4];obtain⟨x,hx⟩:∃ x,e.args[0]?=some x:=⟨_,zQR (by omega)⟩;have hm:=zQM hx;have q1:=kW hm;have q2:=iX hm;rw [bX (by omega) hx,iA hN fu x (by omega) (by omega) (hgi.2 x hm),aA];dsimp only;rw [mk_opp hN,aA,aS,aT]
   have:(cG N λl=>evE l e)=cG N λl=>!evE l x:=gN λl _=>by
    rw [kZ];unfold opB;rw [if_neg h3,if_pos h4]
    cases ha:e.args with
    | nil=>rw [ha] at hx;cases hx
    | cons y r=>rw [ha] at hx;cases hx;rfl
   rw [this]
  rw [if_neg h4]
  have loop : ∀ all : Bool, bC (ρ := (List Node × Int) ⊕ (Unit ⊕ (Diagram × Bool))) (fun (x25, c26, c27) =>
      if x25 < (e.args.length : Int) then
       bG e.args x25 fun e30 =>
       aD ((bL fu) e30) fun (r32, r33) =>
       if (!(r33)) = true then
        aI (
         aI (
          aI (
           some ((⟨([] : List Node), (0 : Int)⟩ : Diagram), false))))
       else
        aD (dR (⟨c26, c27⟩ : Diagram) r32 all) fun (r39, r40) =>
        if (!(r40)) = true then
         aI (
          aI (
           aI (
            some ((⟨([] : List Node), (0 : Int)⟩ : Diagram), false))))
        else
         aC (I64 (x25 + (1 : Int))) <|
         some (.inl ((x25 + (1 : Int)), r39.nodes, r39.root))
      else
       aI (
        some (.inl (c26, c27)))) ((0 : Int), ([] : List Node), aY all) = some (.inl ((cG N fun l => jJ all e.args l).nodes, (cG N fun l => jJ all e.args l).root)) := fun all => by
   refine fB (s:=((0:Int),([]:List Node),aY all)) (λi=>((i:Int),(cG N λl=>jJ all (e.args.take i) l).nodes,(cG N λl=>jJ all (e.args.take i) l).root)) e.args.length ?_ (by omega) ?_ ?_
   ·show _ = ((0 : Int), (cG N fun _ => all).nodes, (cG N fun _ => all).root);rw [pC]
   ·intro i hi;have hx:=zQR hi;generalize e.args[i]=x at hx;have hm:=zQM hx;have q1:=kW hm;have q2:=iX hm;have hc:=wD hN (qAI (N:=N) (by omega) λl=>jJ all (e.args.take i) l) (qAI (N:=N) (by omega) λl=>evE l x) all;have hq:e.args.take (i+1)=e.args.take i++[x]:=by rw [List.take_add_one,hx];rfl
    dsimp only;rw [if_pos (by omega),cA hx,iA hN fu x (by omega) (by omega) (hgi.2 x hm),aA];dsimp only;rw [if_neg (by simp)];have he:(⟨(cG N λl=>jJ all (e.args.take i) l).nodes,(cG N λl=>jJ all (e.args.take i) l).root⟩:Diagram)=cG N λl=>jJ all (e.args.take i) l:=rfl;rw [he,hc,aA];dsimp only;rw [if_neg (by simp),aB (by unfold I64;omega),hq];have:(λl=>jJ all (e.args.take i++[x]) l)=λl=>opQ all (jJ all (e.args.take i) l) (evE l x):=funext λl=>qEE all _ x l;rw [this];rfl
   dsimp only;rw [if_neg (by omega),List.take_length];rfl
  by_cases h5:e.op=5
  ·rw [if_pos h5,aA,decide_eq_true h5,if_pos rfl,jD,aA];dsimp only;rw [loop true,aU];dsimp only;rw [aS,aT]
   have:(cG N λl=>evE l e)=cG N λl=>jJ true e.args l:=gN λl _=>by
    rw [kZ,qED];unfold opB;rw [if_neg h3,if_neg h4,if_pos h5]
   rw [this]
  rw [if_neg h5,aA];by_cases h6:e.op=6
  ·rw [decide_eq_true h6,if_pos rfl,decide_eq_false h5,jD,aA];dsimp only;rw [loop false,aU];dsimp only;rw [aS,aT]
   have:(cG N λl=>evE l e)=cG N λl=>jJ false e.args l:=gN λl _=>by
    rw [kZ,qEC];unfold opB;rw [if_neg h3,if_neg h4,if_neg h5,if_pos h6]
   rw [this]
  have h2:e.op=2:=by
   rw [if_neg h3,if_neg h4,if_neg (show ¬ (e.op=5∨e.op=6) by omega)] at hf;by_cases h12:e.op=1∨e.op=2
   ·omega
   rw [if_neg h12] at hf;cases hf
  rw [decide_eq_false h6,if_neg (by simp),aU,jD,aA]
  have:(cG N λl=>evE l e)=⟨[],aY true⟩:=by
   rw [gN (g:=λ_=>true) λl _=>by rw [kZ];unfold opB;rw [if_neg h3,if_neg h4,if_neg h5,if_neg h6,decide_eq_true h2],pC]
  rw [this]
theorem wC {N:Nat} (hN:N≤14) {e:Expr} (hs:szE e≤1000000000) (hg:cS (N:Int) e=true):gE e=some (cG N λl=>evE l e,true):=by
 unfold gE;exact iA hN aF e (by have:=pS e;unfold aF;omega) hs hg
theorem qBP {N:Nat} (hN:N≤14) {e:Expr} (ho:okE e) (hs:szE e≤1000000000) (hv:zD (N:Int) e=true):lF e (N:Int)=some (cG N λl=>evE l e,0):=by
 have hV:=of_decide_eq_true hv;unfold lF;rw [if_neg (by omega),if_neg (by omega),yX (N:Int) ho,aA,hv,aA,if_neg (by simp),wC hN hs hV.1,aA];rfl
theorem qAY {e:Expr} (hs:szE e≤1000000000):fF e=some (decide ((szE e:Int)≤120)):=by
 unfold fF;rw [wT hs,aA]
theorem yN {k : Nat} (hk : k < 256) : bC (ρ := List Bool) (fun (x39, b40) =>
         if x39 < (8 : Int) then
          aC (0 ≤ x39) <|
          aC ((b40 ++ ([decide ((IntKind.i64.wrap (BitVec.ofInt IntKind.i64.bits ((k : Int).fdiv (2 ^ (min x39.toNat IntKind.i64.bits))) &&& BitVec.ofInt IntKind.i64.bits (1 : Int)).toNat) = (1 : Int))] : List Bool)).length ≤ 1000000000) <|
          aC (I64 (x39 + (1 : Int))) <|
          some (.inl ((x39 + (1 : Int)), (b40 ++ ([decide ((IntKind.i64.wrap (BitVec.ofInt IntKind.i64.bits ((k : Int).fdiv (2 ^ (min x39.toNat IntKind.i64.bits))) &&& BitVec.ofInt IntKind.i64.bits (1 : Int)).toNat) = (1 : Int))] : List Bool))))
         else
          aI (
           some b40)) ((0 : Int), ([] : List Bool)) = some (dQ 8 k) := by
 have hl:=jX 8 k;refine lT (b:=([]:List Bool)) 8 (λi=>(dQ 8 k).take i) rfl (by omega) ?_ ?_
 ·intro i hi
  have hq:(dQ 8 k).take (i+1)=(dQ 8 k).take i++[decide (k / 2 ^ i % 2=1)]:=by
   rw [List.take_add_one,rM];simp [hi]
  dsimp only;rw [if_pos (by omega),aB (by omega),bit_eq (by omega) (by omega),aB (by simp;omega),aB (by unfold I64;omega),hq]
  have:decide (((k / 2 ^ i % 2:Nat):Int)=1)=decide (k / 2 ^ i % 2=1):=by
   rw [decide_eq_decide];omega
  rw [this]
 dsimp only;rw [if_neg (by omega),List.take_of_length_le (by omega)];rfl
def uK (a b:Expr) (m:Nat):Bool:=(List.range m).all λk=>evE (dQ 8 k) a == evE (dQ 8 k) b
theorem yK (a b:Expr) (m:Nat):uK a b (m+1)=(uK a b m&&(evE (dQ 8 m) a == evE (dQ 8 m) b)):=by
 unfold uK;rw [List.range_succ,List.all_append];simp
theorem qS {a b:Expr} (wa:a.Wf) (wb:b.Wf) (hb:D.bulks [a.enc,b.enc]≤1048576):cJ a b=some true:=by
 have sa:szE a≤1048576:=by
  have:=rT a;rw [Expr.encR_eq] at this;simp only [D.bulks] at hb;omega
 have sb:szE b≤1048576:=by
  have:=rT b;rw [Expr.encR_eq] at this;simp only [D.bulks] at hb;omega
 have oa:=rD wa;have ob:=rD wb;have ra:=qG (8:Int) (e:=a) (by omega);have rb:=qG (8:Int) (e:=b) (by omega);unfold cJ;rw [qAY (by omega),aA,qAY (by omega),aA,ra,aA,rb,aA]
 cases decide ((szE a:Int)≤120) with
 | false=>rw [if_pos (by rfl),aA,if_pos rfl,mG];rfl
 | true=>
  rw [if_neg (by simp)]
  cases decide ((szE b:Int)≤120) with
  | false=>rw [if_pos (by rfl),aA,if_pos rfl,mG];rfl
  | true=>
   rw [if_neg (by simp)]
   cases hva:zD (8:Int) a with
   | false=>rw [if_pos (by rfl),aA,if_pos rfl,mG];rfl
   | true=>
    rw [if_neg (by simp),aA]
    cases hvb:zD (8:Int) b with
    | false=>rw [if_pos (by rfl),mG];rfl
    | true=>
     rw [if_neg (by simp)];have o1:=qBP (N:=8) (by omega) oa (by omega) hva;have o2:=qBP (N:=8) (by omega) ob (by omega) hvb;rw [show ((8:Nat):Int)=8 from rfl] at o1 o2;have vd:=tR (N:=8) (by omega) λl=>evE l a;have nd:=vS (N:=8) (by omega) λl=>evE l a;have ne:=vS (N:=8) (by omega) λl=>evE l b;obtain⟨w,ew,hw⟩:=uU nd;have hw1:w=true:=hw.2 vd;subst hw1;rw [o1,aA];dsimp only;rw [o2,aA];dsimp only;rw [if_pos rfl,if_pos rfl,ew,aA,aA,if_neg (by simp)]
     have hev:∀ k:Nat,gR (cG 8 λl=>evE l a) (dQ 8 k)=some (evE (dQ 8 k) a):=λk=>by
      obtain⟨c,e1,_,hc⟩:=yW nd (dQ 8 k);rw [e1,hc vd];have:=mk_val (N:=8) (by omega) (λl=>evE l a) (jX 8 k);rw [this]
     rw [fB (ρ:=Bool ⊕ Bool) (s:=(true,(0:Int))) (λm=>(uK a b m,(m:Int))) 256 (o:=.inl (uK a b 256)) rfl (by omega) ?_ ?_]
     ·rw [aU, qEF nd ne (mk_len (by omega) _), aA];have hiff:=qAN (n:=8) (by omega) (λl=>evE l a) (λl=>evE l b)
      have:decide ((cG 8 λl=>evE l a)=cG 8 λl=>evE l b)=uK a b 256:=by
       rw [Bool.eq_iff_iff,decide_eq_true_eq];unfold uK cG;rw [xN,zQT];constructor
       ·intro h k hk;rw [beq_iff_eq];exact hiff.1 (Prod.ext h.1 h.2) k (List.mem_range.1 hk)
       intro h
       have:=hiff.2 λk hk=>by
        have:=h k (List.mem_range.2 hk)
        rwa [beq_iff_eq] at this
       exact⟨by rw [this],by rw [this]⟩
      rw [this,if_pos (by simp),mG];rfl
     ·intro m hm;dsimp only;rw [if_pos (by omega),yN (by omega),aA,hev,aA,uV _ (by omega),aA,if_neg (by simp),yK]
      cases uK a b m with
      | true=>
       rw [if_pos rfl,aA,uV _ (by omega),aA,aU,aB (by unfold I64;omega)];rfl
      | false=>
       rw [if_neg (by simp),aU,aB (by unfold I64;omega)];rfl
     dsimp only;rw [if_neg (by omega)];rfl
end Go.Proofs.Ytdkhkhidekpfoaa
