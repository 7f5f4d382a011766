/- Texts of this proof, joined, without what it does not use. No condition. -/
import Derived.IntWalk
import Derived.Test.YtdkhkhidekpfoaaQp

set_option linter.unusedVariables false
set_option linter.unusedSimpArgs false
set_option maxHeartbeats 400000
namespace Go.Proofs.Ytdkhkhidekpfoaa
open Go Go.TL
theorem mE:∀ n k,(dX n k).length=n
 | 0,k=>rfl
 | n+1,k=>by show (dX n _).length+1=_;rw [mE n]
theorem qM:∀ (n k j:Nat),j < n→(dX n k)[j]?=some (decide (k / 2 ^ (n - 1 - j) % 2=1))
 | n+1,k,0,h=>by simp [dX]
 | n+1,k,j+1,h=>by
  show (dX n k)[j]?=_;rw [qM n k j (by omega),show n+1 - 1 - (j+1)=n - 1 - j by omega]
theorem qAA (k m:Nat):(k:Int).fdiv (m:Int)=((k / m:Nat):Int):=by
 rw [Int.fdiv_eq_ediv_of_nonneg _ (by omega)];rfl
theorem bit_eq {k i:Nat} (hi:i≤62) (hk:k < 4611686018427387904):IntKind.i64.wrap ((BitVec.ofInt IntKind.i64.bits ((k:Int).fdiv (2 ^ (min ((i:Int)).toNat IntKind.i64.bits))) &&& BitVec.ofInt IntKind.i64.bits (1:Int)).toNat:Nat)=((k / 2 ^ i % 2:Nat):Int):=by
 have h1:min ((i:Int)).toNat IntKind.i64.bits=i:=by
  show min ((i:Int)).toNat 64=i;omega
 have h2:k / 2 ^ i≤k:=Nat.div_le_self _ _;rw [h1,show ((2:Int) ^ i)=((2 ^ i:Nat):Int) by simp,qAA]
 have h3:(BitVec.ofInt IntKind.i64.bits ((k / 2 ^ i:Nat):Int) &&& BitVec.ofInt IntKind.i64.bits (1:Int)).toNat=k / 2 ^ i % 2:=by
  show (BitVec.ofInt 64 ((k / 2 ^ i:Nat):Int) &&& BitVec.ofInt 64 (1:Int)).toNat=_;rw [BitVec.ofInt_natCast,BitVec.toNat_and,BitVec.toNat_ofNat,Nat.mod_eq_of_lt (by omega)];exact Nat.and_one_is_mod _
 rw [h3,IntWalk.i64_in _ (by omega)]
theorem sO {n:Nat} (hn:n≤30):IntKind.i64.wrap ((1:Int) * (2 ^ (min ((n:Int)).toNat IntKind.i64.bits)))=((2 ^ n:Nat):Int):=by
 have h1:min ((n:Int)).toNat IntKind.i64.bits=n:=by
  show min ((n:Int)).toNat 64=n;omega
 have h2:2 ^ n≤1073741824:=Nat.le_trans (Nat.pow_le_pow_right (by omega) hn) (by decide);rw [h1,Int.one_mul,show ((2:Int) ^ n)=((2 ^ n:Nat):Int) by simp];generalize 2 ^ n=m at h2 ⊢;rw [IntWalk.i64_in _ (by omega)]
theorem qAT {n:Nat} (hn:n≤29):eJ (n:Int)=some (eB n):=by
 have h2:2 ^ n≤536870912:=Nat.le_trans (Nat.pow_le_pow_right (by omega) hn) (by decide);unfold eJ;rw [eG (s:=((0:Int),([]:List (List Bool)))) (λk=>((k:Int),((List.range (2 ^ n)).map (dX n)).take k)) (2 ^ n) (o:=(List.range (2 ^ n)).map (dX n)) rfl (by omega) ?_ ?_]
 ·rw [aA,tE]
 ·intro k hk;dsimp only;rw [aB (by omega),sO (by omega),if_pos (by omega),aB (by unfold I64;omega)];rw [eG (s:=((n:Int) - 1,([]:List Bool))) (λj=>((n:Int) - 1 - (j:Int),(dX n k).take j)) n (o:=dX n k) (by simp) (by omega) ?_ ?_]
  ·rw [aA, aB (by simp; omega), aA, aB (by unfold I64; omega), List.take_add_one (i := k)];simp [hk]
  ·intro j hj;dsimp only;have hi:(n:Int) - 1 - (j:Int)=((n - 1 - j:Nat):Int):=by omega
   have hl:=mE n k;rw [hi,if_pos (by omega),aB (by omega),bit_eq (by omega) (by omega),aB (by simp;omega),aB (by unfold I64;omega),List.take_add_one (i:=j),qM n k j hj]
   congr 3
   ·omega
   simp only [Option.toList_some]
   congr 2
   simp only [decide_eq_decide];omega
  dsimp only;rw [if_neg (by omega),List.take_of_length_le (by rw [mE];omega)];rfl
 dsimp only;rw [aB (by omega),sO (by omega),if_neg (by omega),List.take_of_length_le (by simp)];rfl
theorem add_eq {d:Diagram} {n:Node} (ho:NOK d.nodes) (hk:Node.ok n) (hl:d.nodes.length+1≤1000000000):gE d n=some ((bH d.nodes n).2,⟨(bH d.nodes n).1,d.root⟩):=by
 unfold gE bH;by_cases h:n.lo=n.hi
 ·rw [if_pos h,if_pos h]
 rw [if_neg h,if_neg h];rw [xJ (ρ:=Unit ⊕ (Int×Diagram)) d.nodes (λm=>decide (m=n)) (λi=>.inr ((i:Int)+2,d)) (.inl ()) (by omega) ?_ ?_]
 ·cases hf:d.nodes.findIdx? (λm=>decide (m=n)) with
  | some i=>rfl
  | none=>
   show eP (some (Sum.inl ())) _=_;rw [bZ,aB (by simp;omega),aB (by simp;unfold I64;omega)];simp;omega
 ·intro i e he;have hi:=(zQQ.1 he).1;rw [if_pos (by omega),dT he,aB ⟨ho.at he,hk⟩];by_cases hx:e=n
  ·rw [if_pos hx, if_pos (by simpa using hx), aB (by unfold I64; omega)];rfl
  rw [if_neg hx,if_neg (by simpa using hx),aB (by unfold I64;omega)]
 rw [if_neg (by omega)];rfl
theorem vT {D:List Node} {n:Node} (h1:0≤n.lo∧n.lo < (D.length:Int)+2) (h2:0≤n.hi∧n.hi < (D.length:Int)+2):0≤(bH D n).2∧(bH D n).2 < ((bH D n).1.length:Int)+2:=by
 unfold bH;split
 ·exact h1
 cases hf:D.findIdx? (λm=>decide (m=n)) with
 | some i=>
  rw [List.findIdx?_eq_some_iff_getElem] at hf;obtain⟨hi,_⟩:=hf;dsimp only;omega
 | none=>
  dsimp only;simp;omega
theorem qDI {D:List Node} {n:Node} (h:NOK D) (hn:Node.ok n):NOK (bH D n).1:=by
 unfold bH;split
 ·exact h
 split
 ·exact h
 exact wJ h hn
theorem lV:∀ (k fu:Nat) (d:Diagram) (T:List Bool) (v:Int),k < fu→T.length=2 ^ k→NOK d.nodes→0≤v→v+k≤1000→d.nodes.length+2 ^ k≤1000000000→
  bP fu d T v=some ((eM d.nodes k T v).2,⟨(eM d.nodes k T v).1,d.root⟩)∧NOK (eM d.nodes k T v).1∧d.nodes.length≤(eM d.nodes k T v).1.length∧(eM d.nodes k T v).1.length+1≤d.nodes.length+2 ^ k∧0≤(eM d.nodes k T v).2∧(eM d.nodes k T v).2 < ((eM d.nodes k T v).1.length:Int)+2
 | _,0,d,T,v,hk,_,_,_,_,_=>by omega
 | 0,fu+1,d,T,v,hk,hT,ho,hv,hv2,hl=>by
  have h1:T.length=1:=hT;unfold bP eM;have h0:=zW (l:=T) (i:=0) (by omega);refine⟨?_,ho,zQW _,by simp,?_⟩
  ·rw [if_pos (by omega), gL (by omega) h0];unfold aW;split<;>rfl
  unfold aW;split<;>omega
 | k+1,fu+1,d,T,v,hk,hT,ho,hv,hv2,hl=>by
  rw [Nat.pow_succ] at hT hl;have hp:0 < 2 ^ k:=Nat.pos_of_ne_zero (by simp)
  have hw:IntKind.i64.wrap ((T.length:Int).tdiv 2)=((2 ^ k:Nat):Int):=by
   rw [IntWalk.i64_quo _ _ (by omega),hT];omega
  have hs0:sub T 0 ((2 ^ k:Nat):Int)=T.take (2 ^ k):=yK T (2 ^ k);have hs1:sub T ((2 ^ k:Nat):Int) (T.length:Int)=T.drop (2 ^ k):=sA T (2 ^ k);obtain⟨e1,o1,l1,m1,r1⟩:=lV k fu d (T.take (2 ^ k)) (v+1) (by omega) (by rw [List.length_take];omega) ho (by omega) (by omega) (by omega);unfold bP eM;dsimp only;rw [if_neg (by omega),aB (by omega),hw,aB (by omega),aB (by unfold I64;omega),hs0,e1,aA];dsimp only;generalize eM d.nodes k (T.take (2 ^ k)) (v+1)=a at e1 o1 l1 m1 r1;obtain⟨e2,o2,l2,m2,r2⟩:=lV k fu ⟨a.1,d.root⟩ (T.drop (2 ^ k)) (v+1) (by omega) (by rw [List.length_drop];omega) o1 (by omega) (by omega) (by dsimp only;omega);dsimp only at e2 o2 l2 m2 r2;rw [aB (by omega),aB (by unfold I64;omega),hs1,e2,aA];dsimp only;generalize eM a.1 k (T.drop (2 ^ k)) (v+1)=b at e2 o2 l2 m2 r2;have hok:Node.ok ⟨v,a.2,b.2⟩:=⟨by unfold I64;dsimp only;omega,by unfold I64;dsimp only;omega,by unfold I64;dsimp only;omega⟩;have hlen:=lN b.1 ⟨v,a.2,b.2⟩;have hpre:=(fX b.1 ⟨v,a.2,b.2⟩).length_le;rw [add_eq (d:=⟨b.1,d.root⟩) o2 hok (by dsimp only;omega),aA];dsimp only;refine⟨rfl,qDI o2 hok,by omega,by rw [Nat.pow_succ];omega,vT (by dsimp only;omega) (by dsimp only;omega)⟩
theorem wW {N:Nat} (hN:N≤29) (f:Fn):fE ((eB N).map f)=some ⟨(cD N f).1,(cD N f).2⟩∧NOK (cD N f).1:=by
 have h2:2 ^ N≤2 ^ 29:=Nat.pow_le_pow_right (by omega) hN;rw [← qS];obtain⟨e,o,_⟩:=lV N aG ⟨[],0⟩ (jQ f N) 0 (by unfold aG;omega) (kS N f) nF (by omega) (by omega) (by show 0+2 ^ N≤_;omega);unfold fE kH;rw [e,aA];dsimp only at o ⊢;rw [oG] at o ⊢;exact⟨rfl,o⟩
theorem yB (D:List Node) {x:Int} (h:x < 2) (l:Int):hU D aG x l=some l:=by
 rw [show aG=73786976294838206463+1 from rfl];unfold hU;rw [if_pos (.inl h)]
theorem ValidD.nn {d:Diagram} (h:ValidD d):NN d.nodes:=λn hn=>by
 obtain⟨i,hi⟩:=List.getElem?_of_mem hn;exact⟨(h.2.1.1.lo i n hi).1,(h.2.1.1.hi i n hi).1⟩
def cJ (N:Nat) (f:Fn):Diagram:=⟨(cD N f).1,(cD N f).2⟩
theorem uZ {N:Nat} (hN:N≤29) (f:Fn):NOK (cJ N f).nodes:=(wW hN f).2
theorem mk_len {N:Nat} (hN:N≤29) (f:Fn):(cJ N f).nodes.length≤4611686018427387903:=by
 have h2:2 ^ N≤2 ^ 29:=Nat.pow_le_pow_right (by omega) hN;have:=(rO N f (by omega)).len;show (cD N f).1.length≤_;omega
theorem qBH {N:Nat} (hN:N≤29) (f:Fn):cF (cJ N f) (cJ N f)=some true:=by
 rw [wV (uZ hN f) (uZ hN f) (mk_len hN f)];simp
theorem nU (r:Int):cF ⟨[],r⟩ ⟨[],r⟩=some true:=by
 rw [wV nF nF (by simp)];simp
theorem tD {N:Nat} (hN:N≤29):(eB N).length≤536870912:=by
 rw [qF];exact Nat.le_trans (Nat.pow_le_pow_right (by omega) hN) (by decide)
theorem zH {N:Nat} (hN:N≤14) (f:Fn):ValidD (cJ N f):=by
 have ok:=rO N f (by omega);have hp:2 ^ N≤16384:=Nat.le_trans (Nat.pow_le_pow_right (by omega) hN) (by decide);have hlen:=ok.len;have hv:=ok.order aG (by unfold aG;omega);refine⟨?_,⟨ok.wf,ok.nodup⟩,?_⟩
 ·show (cD N f).1.length≤20000;omega
 show if (cD N f).1.length=0 then (cD N f).2=0∨(cD N f).2=1 else (cD N f).2=((cD N f).1.length:Int)+1∧_;have hr:=ok.root;split
 ·rename_i h0;have:=hr.1;have:=hr.2;omega
 rename_i h0;refine⟨?_,hv⟩;by_cases hx:(cD N f).2 < 2
 ·rw [yB _ hx] at hv;simp only [Option.some.injEq] at hv;omega
 rw [show aG=73786976294838206463+1 from rfl] at hv;unfold hU at hv;rw [if_neg (by omega)] at hv;obtain⟨n,hn⟩:=hr.get (by omega);rw [hn] at hv;dsimp only at hv;rw [Option.bind_eq_some_iff] at hv;obtain⟨l1,_,hv⟩:=hv;rw [Option.bind_eq_some_iff] at hv;obtain⟨l2,_,hv⟩:=hv;split at hv
 ·simp only [Option.some.injEq] at hv;omega
 cases hv
theorem gG {N:Nat} {f g:Fn} (h:∀ l,l.length=N→f l=g l):cJ N f=cJ N g:=by
 unfold cJ;rw [vD h]
end Go.Proofs.Ytdkhkhidekpfoaa
set_option linter.unusedVariables false
set_option linter.unusedSimpArgs false
set_option maxHeartbeats 400000
set_option maxRecDepth 100000
namespace Go.Proofs.Ytdkhkhidekpfoaa
open Go Go.TL
theorem qBK {n:Nat} (h:n≤reachBytes):n≤140737488351232:=h
def opB (v:List Bool) (op x:Int) (bs:List Bool):Bool:=
 if op=3 then decide (0≤x)&&v.getD x.toNat false
 else if op=4 then (match bs with|[]=>false|b :: _=>!b)
 else if op=5 then bs.all id
 else if op=6 then bs.any id
 else decide (op=2)
mutual
def evE (v:List Bool):Expr→Bool
 | ⟨op,x,l⟩=>opB v op x (evL v l)
def evL (v:List Bool):List Expr→List Bool
 | []=>[]
 | e :: r=>evE v e :: evL v r
end
mutual
def dpE:Expr→Nat
 | ⟨_,_,l⟩=>dpL l+1
def dpL:List Expr→Nat
 | []=>0
 | e :: r=>max (dpE e) (dpL r)
end
mutual
def szE:Expr→Nat
 | ⟨_,_,l⟩=>szL l+1
def szL:List Expr→Nat
 | []=>0
 | e :: r=>szE e+szL r
end
abbrev zJ:Nat:=9223372036854775807
mutual
def okE:Expr→Prop
 | ⟨_,_,l⟩=>l.length≤zJ∧okL l
def okL:List Expr→Prop
 | []=>True
 | e :: r=>okE e∧okL r
end
theorem wQ (v:List Bool):∀ l,evL v l=l.map (evE v)
 | []=>by simp [evL]
 | e :: r=>by simp [evL,wQ v r]
theorem kN (v:List Bool) (e:Expr):evE v e=opB v e.op e.var (e.args.map (evE v)):=by
 cases e with
 | mk a b c=>rw [evE,wQ]
theorem dpL_le {d:Nat}:∀ {l:List Expr},dpL l≤d↔∀ e∈l,dpE e≤d
 | []=>by simp [dpL]
 | e :: r=>by rw [dpL,Nat.max_le,dpL_le (l:=r)];simp
theorem eS (e:Expr):dpE e=dpL e.args+1:=by
 cases e with
 | mk a b c=>rw [dpE]
theorem vX:∀ l:List Expr,szL l=(l.map szE).sum
 | []=>by simp [szL]
 | e :: r=>by simp [szL,vX r]
theorem kF (e:Expr):szE e=szL e.args+1:=by
 cases e with
 | mk a b c=>rw [szE]
theorem nA (a b:List Expr):szL (a++b)=szL a+szL b:=by simp [vX]
theorem wG:∀ {l:List Expr},okL l↔∀ e∈l,okE e
 | []=>by simp [okL]
 | e :: r=>by rw [okL,wG (l:=r)];simp
theorem okE_iff {e:Expr}:okE e↔e.args.length≤zJ∧∀ x∈e.args,okE x:=by
 cases e with
 | mk a b c=>rw [okE,wG]
theorem xF {e:Expr} (h:Expr.Wf e):okE e:=by
 induction h with
 | mk x h0 h1 h2 g2 ih=>
  rw [okE_iff];exact⟨by have:=qBK h2;unfold zJ;omega,ih⟩
def dI (n:Int) (op x:Int) (k:Nat):Bool:=
 if op=1∨op=2 then decide (x=0∧k=0)
 else if op=3 then decide (0≤x∧x < n∧k=0)
 else if op=4 then decide (k=1∧x=0)
 else if op=5∨op=6 then decide (x=0)
 else false
mutual
def cQ (n:Int):Expr→Bool
 | ⟨op,x,l⟩=>dI n op x l.length&&oP n l
def oP (n:Int):List Expr→Bool
 | []=>true
 | e :: r=>cQ n e&&oP n r
end
theorem mB {n:Int}:∀ {l:List Expr},oP n l=true↔∀ e∈l,cQ n e=true
 | []=>by simp [oP]
 | e :: r=>by rw [oP,zQA,mB (l:=r)];simp
theorem goodE_iff {n:Int} {e:Expr}:cQ n e=true↔dI n e.op e.var e.args.length=true∧∀ x∈e.args,cQ n x=true:=by
 cases e with
 | mk a b c=>rw [cQ,zQA,mB]
def eQ (n:Int) (d left:Int) (e:Expr):Prop:=cQ n e=true∧d+(dpE e:Int)≤13∧(szE e:Int)≤left
instance (n d left:Int) (e:Expr):Decidable (eQ n d left e):=by unfold eQ;infer_instance
theorem qBJ {σ ρ:Type} {f:σ→Option (σ ⊕ ρ)} (P:ρ→Prop) (I:Nat→σ→Prop) {s:σ} (n:Nat) (hn:n≤zJ) (h0:I 0 s) (hs:∀ i,i < n→∀ s,I i s→(∃ s',f s=some (.inl s')∧I (i+1) s')∨(∃ o,f s=some (.inr o)∧P o)) (he:∀ s,I n s→∃ o,f s=some (.inr o)∧P o):∃ o,bV f s=some o∧P o:=by
 suffices h:∀ k i s,i+k=n→I i s→∃ o,fK f (k+1) s=some o∧P o by
  obtain⟨o,h1,h2⟩:=h n 0 s (by omega) h0;exact⟨o,sZ h1 (by unfold aG zJ at *; omega),h2⟩
 intro k
 induction k with
 | zero=>
  intro i s hi hI;obtain⟨o,h1,h2⟩:=he s (by rw [show n=i by omega];exact hI);exact⟨o,by simp [fK,h1],h2⟩
 | succ k ih=>
  intro i s hi hI;rcases hs i (by omega) s hI with ⟨s',h1,h2⟩|⟨o,h1,h2⟩
  ·obtain ⟨o, h3, h4⟩ := ih (i + 1) s' (by omega) h2;exact⟨o,by rw [fK,h1];exact h3,h4⟩
  exact⟨o,by rw [fK,h1],h2⟩
theorem nQ (n:Int):∀ (fu:Nat) (e:Expr) (d left:Int),14≤(fu:Int)+d→0 < fu→1≤d→d≤13→0≤left→left≤1000000→okE e→∃ k,bR fu e n d left=some (decide (eQ n d left e),k)∧0≤k∧k≤left∧(eQ n d left e→k=left - (szE e:Int))
 | 0,e,d,left,hfu,hp,_,_,_,_,_=>by omega
 | fu+1,e,d,left,hfu,hp,hd1,hd13,h0,hm,ho=>by
  obtain⟨hl,hox⟩:=okE_iff.1 ho;have hdp:=eS e;have hsz:=kF e;have hgd:=goodE_iff (n:=n) (e:=e);unfold bR;by_cases hx:12 < d∨left=0
  ·rw [if_pos (by simpa using hx)];have hno:¬ eQ n d left e:=by unfold eQ;omega
   exact⟨left,by rw [decide_eq_false hno],h0,by omega,λh=>absurd h hno⟩
  rw [if_neg (by simpa using hx), aB (by unfold I64; omega)]
  have args (hform : dI n e.op e.var e.args.length = true ↔ e.var = 0) (hform2 : 0 < e.args.length → 0 < fu) : ∃ k, (if e.var = (0 : Int) then
    eP (
     bV (fun ((x27 : Int), (c28 : Int)) =>
      if x27 < (e.args.length : Int) then
       bW e.args x27 fun e31 =>
       aC (I64 (d + (1 : Int))) <|
       aE ((bR fu) e31 n (d + (1 : Int)) c28) fun (r34, r35) =>
       if (!(r34)) = true then
        aQ (
         aQ (
          some (false, r35)))
       else
        aC (I64 (x27 + (1 : Int))) <|
        some (.inl ((x27 + (1 : Int)), r35))
      else
       aQ (
        some (.inl c28))) ((0 : Int), (left - (1 : Int)))) fun c22 =>
    some (true, c22)
   else
    some (false, (left - (1 : Int)))) = some (decide (eQ n d left e), k) ∧ 0 ≤ k ∧ k ≤ left ∧ (eQ n d left e → k = left - (szE e : Int)) := by
   by_cases hv:e.var=0
   ·rw [if_pos hv]
    have hval:eQ n d left e↔(∀ x∈e.args,cQ n x=true)∧(∀ x∈e.args,d+1+(dpE x:Int)≤13)∧(szL e.args:Int)≤left - 1:=by
     unfold eQ;rw [hgd,hform,hdp,hsz]
     have hdl:d+((dpL e.args+1:Nat):Int)≤13↔∀ x∈e.args,d+1+(dpE x:Int)≤13:=by
      have h1:=dpL_le (l:=e.args) (d:=(12 - d).toNat);constructor
      ·intro h x hx;have:=h1.1 (by omega) x hx;omega
      intro h;have:=h1.2 (λx hx=>by have:=h x hx;omega);omega
     rw [hdl];constructor
     ·rintro⟨⟨_,a⟩,b,c⟩;exact⟨a,b,by omega⟩
     rintro⟨a,b,c⟩;exact⟨⟨hv,a⟩,b,by omega⟩
    obtain ⟨o, ho1, ho2⟩ := qBJ (f := fun ((x27 : Int), (c28 : Int)) =>
      if x27 < (e.args.length : Int) then
       bW e.args x27 fun e31 =>
       aC (I64 (d + (1 : Int))) <|
       aE ((bR fu) e31 n (d + (1 : Int)) c28) fun (r34, r35) =>
       if (!(r34)) = true then
        aQ (
         aQ (
          some (false, r35)))
       else
        aC (I64 (x27 + (1 : Int))) <|
        some (.inl ((x27 + (1 : Int)), r35))
      else
       aQ (
        some (.inl c28))) (s := ((0 : Int), left - 1))
     (fun (o : Int ⊕ (Bool × Int)) => match o with
      | .inl c => eQ n d left e ∧ c = left - (szE e : Int)
      | .inr r => ¬ eQ n d left e ∧ r.1 = false ∧ 0 ≤ r.2 ∧ r.2 ≤ left)
     (fun i s => s.1 = (i : Int) ∧ s.2 = left - 1 - (szL (e.args.take i) : Int) ∧ 0 ≤ s.2 ∧ ∀ x ∈ e.args.take i, eQ n (d + 1) 1000000 x ∧ cQ n x = true ∧ d + 1 + (dpE x : Int) ≤ 13) e.args.length hl ⟨rfl, by simp [szL], by show 0 ≤ left - 1; omega, by simp⟩ (fun i hi s hI => by
      obtain ⟨x27, c28⟩ := s;obtain ⟨h1, h2, h3, h4⟩ := hI;dsimp only at h1 h2 h3;subst h1;have hxi := zQR hi;have hmem := List.getElem_mem hi;dsimp only;rw [if_pos (by omega), dT hxi, aB (by unfold I64; omega)];obtain ⟨k, hk1, hk2, hk3, hk4⟩ := nQ n fu e.args[i] (d + 1) c28 (by omega) (hform2 (by omega)) (by omega) (by omega) h3 (by omega) (hox _ hmem);rw [hk1, aA]
      have hsplit : szL (e.args.take (i + 1)) = szL (e.args.take i) + szE e.args[i] := by
       rw [List.take_add_one, hxi, nA];simp [szL]
      by_cases hV : eQ n (d + 1) c28 e.args[i]
      ·left;rw [decide_eq_true hV, if_neg (by simp), aB (qBN hi hl)];refine ⟨_, rfl, by push_cast; rfl, ?_, hk2, ?_⟩
       ·dsimp only;rw [hk4 hV, hsplit];omega
       intro x hx;rw [List.take_add_one, hxi] at hx;simp only [Option.toList_some, zQN, List.mem_singleton] at hx;rcases hx with hx | hx
       ·exact h4 x hx
       subst hx;exact ⟨⟨hV.1, hV.2.1, by have := hV.2.2; omega⟩, hV.1, hV.2.1⟩
      ·right;rw [decide_eq_false hV];simp only [Bool.not_false, if_true, aS];refine ⟨_, rfl, ?_, rfl, hk2, by omega⟩;intro hc;rw [hval] at hc;apply hV;refine ⟨hc.1 _ hmem, hc.2.1 _ hmem, ?_⟩
       have h5 : szL (e.args.take (i + 1)) ≤ szL e.args := by
        conv => rhs; rw [← List.take_append_drop (i + 1) e.args, nA]
        omega
       have h6 := hc.2.2
       omega) (fun s hI => by
      obtain ⟨x27, c28⟩ := s;obtain ⟨h1, h2, h3, h4⟩ := hI;dsimp only at h1 h2 h3;subst h1;rw [List.take_length] at h2 h4;dsimp only;rw [if_neg (by omega)];refine ⟨_, rfl, ?_, by rw [hsz]; omega⟩;rw [hval]
      exact ⟨fun x hx => (h4 x hx).2.1, fun x hx => (h4 x hx).2.2, by omega⟩)
    rw [ho1]
    cases o with
    | inl c=>
     dsimp only at ho2;rw [bZ];have hsz2:(szE e:Int)≤left:=ho2.1.2.2;exact⟨c,by rw [decide_eq_true ho2.1],by omega,by omega,λ_=>ho2.2⟩
    | inr r=>
     obtain⟨r1,r2⟩:=r;dsimp only at ho2;obtain⟨p1,p2,p3,p4⟩:=ho2;subst p2;rw [aT];exact⟨r2,by rw [decide_eq_false p1],p3,p4,λh=>absurd h p1⟩
   rw [if_neg hv]
   have hno:¬ eQ n d left e:=by
    unfold eQ;rw [hgd,hform];intro h;exact hv h.1.1
   exact⟨left - 1,by rw [decide_eq_false hno],by omega,by omega,λh=>absurd h hno⟩
  have leaf (b:Bool) (hform:dI n e.op e.var e.args.length=b) (hb:b=true→e.args.length=0):∃ k,(some (b,left - 1):Option (Bool×Int))=some (decide (eQ n d left e),k)∧0≤k∧k≤left∧(eQ n d left e→k=left - (szE e:Int)):=by
   cases b with
   | true=>
    have hnil:e.args=[]:=List.eq_nil_of_length_eq_zero (hb rfl);have h1:dpE e=1:=by rw [hdp,hnil];rfl
    have h2:szE e=1:=by rw [hsz,hnil];rfl
    have hyes:eQ n d left e:=⟨hgd.2 ⟨hform,by rw [hnil];simp⟩,by omega,by omega⟩;exact⟨left - 1,by rw [decide_eq_true hyes],by omega,by omega,λ_=>by omega⟩
   | false=>
    have hno:¬ eQ n d left e:=by
     unfold eQ;rw [hgd,hform];intro h;exact absurd h.1.1 (by simp)
    exact⟨left - 1,by rw [decide_eq_false hno],by omega,by omega,λh=>absurd h hno⟩
  have hpos:0 < e.args.length→0 < fu:=by intro _;omega
  unfold dI at args leaf;by_cases h12:e.op=1∨e.op=2
  ·have e1:(if e.op=(1:Int) then some (decide (e.op=(1:Int))) else some (decide (e.op=(2:Int))))=some true:=by
    rcases h12 with h|h<;>simp [h]
   rw [e1,aA,if_pos rfl,aS,aT];refine leaf _ ?_ ?_
   ·rw [if_pos h12,Bool.eq_iff_iff];simp only [decide_eq_true_eq,zQA];omega
   simp only [zQA,decide_eq_true_eq];omega
  have e1:(if e.op=(1:Int) then some (decide (e.op=(1:Int))) else some (decide (e.op=(2:Int))))=some false:=by
   rw [if_neg (by omega),decide_eq_false (by omega)]
  rw [e1,aA,if_neg (by simp)];by_cases h3:e.op=3
  ·rw [if_pos h3,aS,aT];refine leaf _ ?_ ?_
   ·rw [if_neg h12,if_pos h3,Bool.eq_iff_iff];simp only [decide_eq_true_eq,zQA];omega
   simp only [zQA,decide_eq_true_eq];omega
  rw [if_neg h3];by_cases h4:e.op=4
  ·rw [if_pos h4];by_cases h1:e.args.length=1
   ·rw [if_pos (by omega), bZ];exact args (by rw [if_neg h12,if_neg h3,if_pos h4];simp [h1]) hpos
   rw [if_neg (by omega), aS, aT];exact leaf false (by rw [if_neg h12,if_neg h3,if_pos h4,decide_eq_false (by omega)]) (by simp)
  rw [if_neg h4];by_cases h5:e.op=5
  ·rw [if_pos h5,bZ];exact args (by rw [if_neg h12,if_neg h3,if_neg h4,if_pos (.inl h5)];simp) hpos
  rw [if_neg h5];by_cases h6:e.op=6
  ·rw [if_pos h6,bZ];exact args (by rw [if_neg h12,if_neg h3,if_neg h4,if_pos (.inr h6)];simp) hpos
  rw [if_neg h6,aS,aT];exact leaf false (by rw [if_neg h12,if_neg h3,if_neg h4,if_neg (by omega)]) (by simp)
abbrev yC (n:Int) (e:Expr):Bool:=decide (eQ n 1 20000 e)
theorem qP (n:Int) {e:Expr} (ho:okE e):fL e n=some (yC n e):=by
 unfold fL kM;obtain⟨k,hk,_⟩:=nQ n aG e 1 20000 (by unfold aG;omega) (by unfold aG;omega) (by omega) (by omega) (by omega) (by omega) ho;rw [hk,aA]
mutual
theorem vW:∀ e:Expr,szE e≤e.encR.bulk
 | ⟨a,b,c⟩=>by
  have:=rZ c;simp only [szE,Expr.encR,D.bulk,D.bulks];omega
theorem rZ:∀ l:List Expr,szL l≤D.bulks (Expr.encsR l)
 | []=>by simp [szL]
 | e :: r=>by
  have:=vW e;have:=rZ r;simp only [szL,Expr.encsR,D.bulks];omega
end
mutual
theorem oV:∀ e:Expr,dpE e≤szE e
 | ⟨a,b,c⟩=>by
  have:=qAF c;simp only [szE,dpE];omega
theorem qAF:∀ l:List Expr,dpL l≤szL l
 | []=>by simp [szL,dpL]
 | e :: r=>by
  have:=oV e;have:=qAF r;simp only [szL,dpL];omega
end
theorem sz_pos (e:Expr):1≤szE e:=by rw [kF];omega
theorem lY:∀ l:List Expr,l.length≤szL l
 | []=>by simp [szL]
 | e :: r=>by have:=sz_pos e;have:=lY r;simp only [szL,List.length_cons];omega
theorem iK:∀ {l:List Expr} {x:Expr},x∈l→szE x≤szL l
 | e :: r,x,h=>by
  rcases zQB.1 h with rfl|h
  ·simp only [szL];omega
  have:=iK h;simp only [szL];omega
theorem kK {l:List Expr} {x:Expr} (h:x∈l):dpE x≤dpL l:=(dpL_le.1 (zQW _)) x h
theorem qA:∀ (fu:Nat) (e:Expr),dpE e≤fu→szE e≤1000000000→cG fu e=some (szE e:Int)
 | 0,e,h,_=>by rw [eS] at h;omega
 | fu+1,e,h,hs=>by
  rw [eS] at h;have hse:=kF e;have hl:=lY e.args;unfold cG;rw [eG (s:=((1:Int),(0:Int))) (λi=>((1:Int)+(szL (e.args.take i):Int),(i:Int))) e.args.length (o:=(1:Int)+(szL e.args:Int)) rfl (by omega) ?_ ?_]
  ·rw [aA]
   congr 1
   omega
  ·intro i hi;have hm:=List.getElem_mem hi;have h1:=kK hm;have h2:=iK hm;have hq:e.args.take (i+1)=e.args.take i++[e.args[i]]:=by rw [List.take_add_one,zQR hi];rfl
   have hn:szL (e.args.take (i+1))=szL (e.args.take i)+szE e.args[i]:=by rw [hq,nA];simp [szL]
   have hle:szL (e.args.take (i+1))≤szL e.args:=by
    have:=nA (e.args.take (i+1)) (e.args.drop (i+1));rw [List.take_append_drop] at this;omega
   dsimp only;rw [if_pos (by omega),dT (zQR hi),qA fu e.args[i] (by omega) (by omega),aA,aB (by unfold I64;omega),aB (by unfold I64;omega)]
   congr 3
   omega
  dsimp only;rw [if_neg (by omega),List.take_length];rfl
theorem vZ {e:Expr} (hs:szE e≤1000000000):fF e=some (szE e:Int):=by
 unfold fF;exact qA aG e (by have:=oV e;unfold aG;omega) hs
theorem qBT (a b:List Expr):dpL (a++b)=max (dpL a) (dpL b):=by
 induction a with
 | nil=>simp [dpL]
 | cons x r ih=>simp only [List.cons_append,dpL,ih];omega
theorem oW:∀ (fu:Nat) (e:Expr),dpE e≤fu→szE e≤1000000000→cB fu e=some (dpE e:Int)
 | 0,e,h,_=>by rw [eS] at h;omega
 | fu+1,e,h,hs=>by
  rw [eS] at h;have hse:=kF e;have hde:=eS e;have hds:=oV e;have hl:=lY e.args;unfold cB;rw [eG (s:=((0:Int),(0:Int))) (λi=>((dpL (e.args.take i):Int),(i:Int))) e.args.length (o:=(dpL e.args:Int)) rfl (by omega) ?_ ?_]
  ·rw [aA, aB (by unfold I64; omega)]
   congr 1
   omega
  ·intro i hi;have hm:=List.getElem_mem hi;have h1:=kK hm;have h2:=iK hm;have hq:e.args.take (i+1)=e.args.take i++[e.args[i]]:=by rw [List.take_add_one,zQR hi];rfl
   have hn:dpL (e.args.take (i+1))=max (dpL (e.args.take i)) (dpE e.args[i]):=by rw [hq,qBT];simp [dpL]
   dsimp only;rw [if_pos (by omega),dT (zQR hi),oW fu e.args[i] (by omega) (by omega),aA,aB (by unfold I64;omega)]
   congr 3
   omega
  dsimp only;rw [if_neg (by omega),List.take_length];rfl
theorem qAG {e:Expr} (hs:szE e≤1000000000):fV e=some (dpE e:Int):=by
 unfold fV;exact oW aG e (by have:=oV e;unfold aG;omega) hs
theorem qI (n:Int):∀ (fu:Nat) (e:Expr),dpE e≤fu→szE e≤1000000000→cA fu e n=some (cQ n e)
 | 0,e,h,_=>by rw [eS] at h;omega
 | fu+1,e,h,hs=>by
  rw [eS] at h;have hse:=kF e;have hl:=lY e.args;have hg:cQ n e=(dI n e.op e.var e.args.length&&oP n e.args):=by cases e;rw [cQ]
  have hgl:oP n e.args=!(e.args.any λx=>!cQ n x):=by
   rw [Bool.eq_iff_iff,mB];simp
  have hloop : bV (ρ := Unit ⊕ Bool) (fun i20 =>
    if i20 < (e.args.length : Int) then
     bW e.args i20 fun e23 =>
     aE ((cA fu) e23 n) fun r24 =>
     if (!(r24)) = true then
      aQ (
       aQ (
        some false))
     else
      aC (I64 (i20 + (1 : Int))) <|
      some (.inl (i20 + (1 : Int)))
    else
     aQ (
      some (.inl ()))) (0 : Int) = some (if (e.args.any fun x => !cQ n x) = true then (.inr false : Unit ⊕ Bool) else .inl ()) := by
   refine sY (ρ:=Unit ⊕ Bool) e.args (λx=>!cQ n x) (Sum.inr false) (Sum.inl ()) (by omega) ?_ ?_
   ·intro i x hx;have hi:=(zQQ.1 hx).1;have hm:=zQM hx;have h1:=kK hm;have h2:=iK hm;rw [if_pos (by omega),dT hx,qI n fu x (by omega) (by omega),aA,aB (by unfold I64;omega)];cases cQ n x<;>rfl
   rw [if_neg (by omega)];rfl
  unfold cA;rw [hloop,hg,hgl]
  have leaf:e.op=1∨e.op=2→some ((decide (e.var=0))&&(decide ((e.args.length:Int)=0)))=some (dI n e.op e.var e.args.length&&!(e.args.any λx=>!cQ n x)):=λh=>by
   have hf:dI n e.op e.var e.args.length=decide (e.var=0∧e.args.length=0):=by unfold dI;rw [if_pos h]
   rw [hf];by_cases hk:e.var=0∧e.args.length=0
   ·have ha:e.args=[]:=List.length_eq_zero_iff.1 hk.2;simp [hk.1,ha]
   rw [decide_eq_false hk,Bool.false_and]
   congr 1
   rw [Bool.and_eq_false_iff,decide_eq_false_iff_not,decide_eq_false_iff_not];omega
  by_cases h1:e.op=1
  ·rw [if_pos h1,aA,decide_eq_true h1,if_pos rfl,aS,aT];exact leaf (.inl h1)
  rw [if_neg h1,aA];by_cases h2:e.op=2
  ·rw [decide_eq_true h2,if_pos rfl,aS,aT];exact leaf (.inr h2)
  have h12 : ¬ (e.op = 1 ∨ e.op = 2) := by omega
  rw [decide_eq_false h2,if_neg Bool.false_ne_true];by_cases h3:e.op=3
  ·have hf : dI n e.op e.var e.args.length = decide (0 ≤ e.var ∧ e.var < n ∧ e.args.length = 0) := by unfold dI; rw [if_neg h12, if_pos h3]
   rw [if_pos h3,aS,aT,hf];by_cases hk:0≤e.var∧e.var < n∧e.args.length=0
   ·have ha:e.args=[]:=List.length_eq_zero_iff.1 hk.2.2;simp [hk.1,hk.2.1,ha]
   rw [decide_eq_false hk,Bool.false_and]
   congr 1
   rw [Bool.and_eq_false_iff,Bool.and_eq_false_iff,decide_eq_false_iff_not,decide_eq_false_iff_not,decide_eq_false_iff_not];omega
  rw [if_neg h3];by_cases h4:e.op=4
  ·have hf : dI n e.op e.var e.args.length = decide (e.args.length = 1 ∧ e.var = 0) := by unfold dI; rw [if_neg h12, if_neg h3, if_pos h4]
   rw [if_pos h4,hf];by_cases hk:e.args.length=1
   ·rw [if_pos (by omega), bZ];cases e.args.any λx=>!cQ n x<;>simp [hk]
   rw [if_neg (by omega), aS, aT];simp [hk]
  rw [if_neg h4];by_cases h5:e.op=5
  ·have hf : dI n e.op e.var e.args.length = decide (e.var = 0) := by unfold dI; rw [if_neg h12, if_neg h3, if_neg h4, if_pos (.inl h5)]
   rw [if_pos h5,bZ,hf];cases e.args.any λx=>!cQ n x<;>simp
  rw [if_neg h5];by_cases h6:e.op=6
  ·have hf : dI n e.op e.var e.args.length = decide (e.var = 0) := by unfold dI; rw [if_neg h12, if_neg h3, if_neg h4, if_pos (.inr h6)]
   rw [if_pos h6,bZ,hf];cases e.args.any λx=>!cQ n x<;>simp
  have hf : dI n e.op e.var e.args.length = false := by unfold dI; rw [if_neg h12, if_neg h3, if_neg h4, if_neg (by omega)]
  rw [if_neg h6,aS,aT,hf];rfl
theorem qBR (n:Int) {e:Expr} (hs:szE e≤1000000000):gR e n=some (cQ n e):=by
 unfold gR;exact qI n aG e (by have:=oV e;unfold aG;omega) hs
theorem pH (n:Int) {e:Expr} (hs:szE e≤1000000000):eK e n=some (yC n e):=by
 unfold eK;rw [vZ hs,aA];by_cases h1:(szE e:Int)≤20000
 ·rw [if_pos h1,qAG hs,aA];by_cases h2:(dpE e:Int)≤12
  ·rw [if_pos h2,qBR n hs,aA,aA]
   congr 1
   cases hg:cQ n e with
   | false=>exact (decide_eq_false (show ¬ eQ n 1 20000 e from λh=>by rw [h.1] at hg;cases hg)).symm
   | true=>exact (decide_eq_true (show eQ n 1 20000 e from ⟨hg,by omega,h1⟩)).symm
  rw [if_neg h2,aA]
  congr 1
  exact (decide_eq_false (show ¬ eQ n 1 20000 e from λh=>by have:=h.2.1;omega)).symm
 rw [if_neg h1,aA]
 congr 1
 exact (decide_eq_false (show ¬ eQ n 1 20000 e from λh=>by have:=h.2.2;omega)).symm
theorem kG (v:List Bool):∀ (fu:Nat) (e:Expr),dpE e≤fu→szE e≤1000000000→bQ fu e v=some (evE v e)
 | 0,e,h,_=>by rw [eS] at h;omega
 | fu+1,e,h,hs=>by
  rw [eS] at h;have hse:=kF e;have hl:=lY e.args;rw [kN];unfold bQ opB;by_cases h2:e.op=2
  ·rw [if_pos h2,aS,aT,if_neg (by omega),if_neg (by omega),if_neg (by omega),if_neg (by omega),decide_eq_true h2]
  rw [if_neg h2];by_cases h3:e.op=3
  ·rw [if_pos h3,if_pos h3];by_cases h0:0≤e.var
   ·rw [if_pos h0];by_cases hv:e.var < (v.length:Int)
    ·have hget:v[e.var.toNat]?=some (v.getD e.var.toNat false):=by
      rw [zQD,zQR (by omega)];rfl
     rw [if_pos hv,gL h0 hget,aA,aS,aT,decide_eq_true h0,Bool.true_and]
    rw [if_neg hv, aA, aS, aT, zQD, List.getElem?_eq_none (by omega)];simp
   rw [if_neg h0,aA,aS,aT,decide_eq_false h0,Bool.false_and]
  rw [if_neg h3,if_neg h3];by_cases h4:e.op=4
  ·rw [if_pos h4,if_pos h4]
   cases ha:e.args with
   | nil=>
    rw [if_neg (by simp),aA,aS,aT];rfl
   | cons x r=>
    have hm:x∈e.args:=by rw [ha];exact List.mem_cons_self ..
    have q1:=kK hm;have q2:=iK hm;rw [if_pos (by simp),gL (by omega) (by rfl),kG v fu x (by omega) (by omega),aA,aA,aS,aT];rfl
  rw [if_neg h4,if_neg h4]
  have hloop : ∀ c : Bool, bV (ρ := Unit ⊕ (Unit ⊕ Bool)) (fun i24 =>
      if i24 < (e.args.length : Int) then
       bW e.args i24 fun e27 =>
       aE ((bQ fu) e27 v) fun r28 =>
       if ((r28 == c)) = true then
        aQ (
         aQ (
          aQ (
           some c)))
       else
        aC (I64 (i24 + (1 : Int))) <|
        some (.inl (i24 + (1 : Int)))
      else
       aQ (
        some (.inl ()))) (0 : Int) = some (if (e.args.any fun x => evE v x == c) = true then .inr (.inr c) else .inl ()) := fun c => by
   refine sY (ρ:=Unit ⊕ (Unit ⊕ Bool)) e.args (λx=>evE v x == c) (Sum.inr (Sum.inr c)) (Sum.inl ()) (by omega) ?_ ?_
   ·intro i x hx;have hi:=(zQQ.1 hx).1;have hm:=zQM hx;have q1:=kK hm;have q2:=iK hm;rw [if_pos (by omega),dT hx,kG v fu x (by omega) (by omega),aA,aB (by unfold I64;omega)];cases evE v x == c<;>rfl
   rw [if_neg (by omega)];rfl
  by_cases h5:e.op=5
  ·have h6 : ¬ e.op = 6 := by omega
   rw [if_pos h5,if_pos h5,aA,decide_eq_true h5,if_pos rfl,decide_eq_false h6,hloop false]
   have:(e.args.map (evE v)).all id=!(e.args.any λx=>evE v x == false):=by
    rw [List.all_map,List.all_eq_not_any_not]
    congr 2
    funext x
    show (!(evE v x))=(evE v x == false);cases evE v x<;>rfl
   rw [this];cases (e.args.any λx=>evE v x == false)<;>rfl
  rw [if_neg h5,if_neg h5,aA];by_cases h6:e.op=6
  ·rw [if_pos h6,decide_eq_true h6,if_pos rfl,decide_eq_false h5,hloop true]
   have:(e.args.map (evE v)).any id=(e.args.any λx=>evE v x == true):=by
    rw [List.any_map]
    congr 1
    funext x
    show evE v x=(evE v x == true);cases evE v x<;>rfl
   rw [this];cases (e.args.any λx=>evE v x == true)<;>rfl
  rw [if_neg h6,decide_eq_false h6,if_neg (by simp),bZ,decide_eq_false h2]
theorem qAS (v:List Bool) {e:Expr} (hs:szE e≤1000000000):gS e v=some (evE v e):=by
 unfold gS;exact kG v aG e (by have:=oV e;unfold aG;omega) hs
theorem zI {N:Nat} (hN:N≤64) (f:Fn):MakeOk N f (cJ N f).nodes (cJ N f).root:=rO N f hN
theorem oI (N:Nat) (c:Bool):cJ N (λ_=>c)=⟨[],aW c⟩:=by
 unfold cJ;rw [vC]
theorem mk_opp {N:Nat} (hN:N≤14) (f:Fn):cT (cJ N f)=some (cJ N λl=>!f l):=by
 have hv:=zH hN f;have hr:=hv.root;have hr1:=hr.1;have hr2:=hr.2;have hl:=hv.1;rw [sQ hv.nn (uZ (by omega) f) hr1 (by unfold I64;omega) (by omega)];have:=zL (zI (N:=N) (by omega) f);unfold cJ at this ⊢;rw [this]
def jA (all:Bool) (args:List Expr) (l:List Bool):Bool:=args.foldl (λb x=>opQ all b (evE l x)) all
theorem qDM (all:Bool) (args:List Expr) (x:Expr) (l:List Bool):jA all (args++[x]) l=opQ all (jA all args l) (evE l x):=by
 unfold jA;rw [List.foldl_append];rfl
theorem qDL (args:List Expr) (l:List Bool):jA true args l=(args.map (evE l)).all id:=by
 have h:=tO (args.map (evE l)) true;rw [Bool.true_and,List.foldl_map] at h;exact h
theorem qDK (args:List Expr) (l:List Bool):jA false args l=(args.map (evE l)).any id:=by
 have h:=tN (args.map (evE l)) false;rw [Bool.false_or,List.foldl_map] at h;exact h
theorem gW {N : Nat} (hN : N ≤ 14) : ∀ (fu : Nat) (e : Expr), dpE e ≤ fu → szE e ≤ 1000000000 → cQ (N : Int) e = true → bI fu e = some (cJ N fun l => evE l e, true)
 | 0,e,h,_,_=>by rw [eS] at h;omega
 | fu+1,e,h,hs,hg=>by
  rw [eS] at h;have hse:=kF e;have hl:=lY e.args;have hgi:=goodE_iff.1 hg;have hf:=hgi.1;unfold dI at hf;unfold bI;by_cases h1:e.op=1
  ·rw [if_pos h1,aS,aT]
   have:(cJ N λl=>evE l e)=⟨[],0⟩:=by
    rw [gG (g:=λ_=>false) λl _=>by rw [kN];unfold opB;rw [if_neg (by omega),if_neg (by omega),if_neg (by omega),if_neg (by omega),decide_eq_false (by omega)],oI];rfl
   rw [this]
  rw [if_neg h1];by_cases h3:e.op=3
  ·rw [if_neg (by omega), if_pos h3] at hf;have hf:=of_decide_eq_true hf;rw [if_pos h3,aS,aT];obtain⟨v,hv⟩:∃ v:Nat,e.var=(v:Int):=⟨e.var.toNat,by omega⟩;have hm:=zK (N:=N) (v:=v) (by omega) (by omega)
   have:(cJ N λl=>evE l e)=⟨[⟨e.var,0,1⟩],2⟩:=by
    rw [gG (g := fun l => l.getD v false) fun l _ => by
     rw [kN]; unfold opB; rw [if_pos h3, decide_eq_true hf.1, Bool.true_and, hv]; rfl]
    unfold cJ;rw [hm,hv]
   rw [this]
  rw [if_neg h3];by_cases h4:e.op=4
  ·rw [if_neg (by omega), if_neg h3, if_pos h4] at hf;have hf:=of_decide_eq_true hf;rw [if_pos h4];obtain⟨x,hx⟩:∃ x,e.args[0]?=some x:=⟨_,zQR (by omega)⟩;have hm:=zQM hx;have q1:=kK hm;have q2:=iK hm;rw [gL (by omega) hx,gW hN fu x (by omega) (by omega) (hgi.2 x hm),aA];dsimp only;rw [mk_opp hN,aA,aS,aT]
   have:(cJ N λl=>evE l e)=cJ N λl=>!evE l x:=gG λl _=>by
    rw [kN];unfold opB;rw [if_neg h3,if_pos h4]
    cases ha:e.args with
    | nil=>rw [ha] at hx;cases hx
    | cons y r=>rw [ha] at hx;cases hx;rfl
   rw [this]
  rw [if_neg h4]
  have loop : ∀ all : Bool, bV (ρ := (List Node × Int) ⊕ (Unit ⊕ (Diagram × Bool))) (fun (x25, c26, c27) =>
      if x25 < (e.args.length : Int) then
       bW e.args x25 fun e30 =>
       aE ((bI fu) e30) fun (r32, r33) =>
       if (!(r33)) = true then
        aQ (
         aQ (
          aQ (
           some ((⟨([] : List Node), (0 : Int)⟩ : Diagram), false))))
       else
        aE (dK (⟨c26, c27⟩ : Diagram) r32 all) fun (r39, r40) =>
        if (!(r40)) = true then
         aQ (
          aQ (
           aQ (
            some ((⟨([] : List Node), (0 : Int)⟩ : Diagram), false))))
        else
         aC (I64 (x25 + (1 : Int))) <|
         some (.inl ((x25 + (1 : Int)), r39.nodes, r39.root))
      else
       aQ (
        some (.inl (c26, c27)))) ((0 : Int), ([] : List Node), aW all) = some (.inl ((cJ N fun l => jA all e.args l).nodes, (cJ N fun l => jA all e.args l).root)) := fun all => by
   refine eG (s:=((0:Int),([]:List Node),aW all)) (λi=>((i:Int),(cJ N λl=>jA all (e.args.take i) l).nodes,(cJ N λl=>jA all (e.args.take i) l).root)) e.args.length ?_ (by omega) ?_ ?_
   ·show _ = ((0 : Int), (cJ N fun _ => all).nodes, (cJ N fun _ => all).root);rw [oI]
   ·intro i hi;have hx:=zQR hi;generalize e.args[i]=x at hx;have hm:=zQM hx;have q1:=kK hm;have q2:=iK hm;have hc:=vL hN (zI (N:=N) (by omega) λl=>jA all (e.args.take i) l) (zI (N:=N) (by omega) λl=>evE l x) all;have hq:e.args.take (i+1)=e.args.take i++[x]:=by rw [List.take_add_one,hx];rfl
    dsimp only;rw [if_pos (by omega),dT hx,gW hN fu x (by omega) (by omega) (hgi.2 x hm),aA];dsimp only;rw [if_neg (by simp)];have he:(⟨(cJ N λl=>jA all (e.args.take i) l).nodes,(cJ N λl=>jA all (e.args.take i) l).root⟩:Diagram)=cJ N λl=>jA all (e.args.take i) l:=rfl;rw [he,hc,aA];dsimp only;rw [if_neg (by simp),aB (by unfold I64;omega),hq];have:(λl=>jA all (e.args.take i++[x]) l)=λl=>opQ all (jA all (e.args.take i) l) (evE l x):=funext λl=>qDM all _ x l;rw [this];rfl
   dsimp only;rw [if_neg (by omega),List.take_length];rfl
  by_cases h5:e.op=5
  ·rw [if_pos h5,aA,decide_eq_true h5,if_pos rfl,iR,aA];dsimp only;rw [loop true,bZ];dsimp only;rw [aS,aT]
   have:(cJ N λl=>evE l e)=cJ N λl=>jA true e.args l:=gG λl _=>by
    rw [kN,qDL];unfold opB;rw [if_neg h3,if_neg h4,if_pos h5]
   rw [this]
  rw [if_neg h5,aA];by_cases h6:e.op=6
  ·rw [decide_eq_true h6,if_pos rfl,decide_eq_false h5,iR,aA];dsimp only;rw [loop false,bZ];dsimp only;rw [aS,aT]
   have:(cJ N λl=>evE l e)=cJ N λl=>jA false e.args l:=gG λl _=>by
    rw [kN,qDK];unfold opB;rw [if_neg h3,if_neg h4,if_neg h5,if_pos h6]
   rw [this]
  have h2:e.op=2:=by
   rw [if_neg h3,if_neg h4,if_neg (show ¬ (e.op=5∨e.op=6) by omega)] at hf;by_cases h12:e.op=1∨e.op=2
   ·omega
   rw [if_neg h12] at hf;cases hf
  rw [decide_eq_false h6,if_neg (by simp),bZ,iR,aA]
  have:(cJ N λl=>evE l e)=⟨[],aW true⟩:=by
   rw [gG (g:=λ_=>true) λl _=>by rw [kN];unfold opB;rw [if_neg h3,if_neg h4,if_neg h5,if_neg h6,decide_eq_true h2],oI]
  rw [this]
theorem vK {N:Nat} (hN:N≤14) {e:Expr} (hs:szE e≤1000000000) (hg:cQ (N:Int) e=true):fW e=some (cJ N λl=>evE l e,true):=by
 unfold fW;exact gW hN aG e (by have:=oV e;unfold aG;omega) hs hg
theorem Of_yes {N:Nat} (hN:N≤14) {e:Expr} (ho:okE e) (hs:szE e≤1000000000) (hv:yC (N:Int) e=true):gA e (N:Int)=some (cJ N λl=>evE l e,0):=by
 have hV:=of_decide_eq_true hv;unfold gA;rw [if_neg (by omega),if_neg (by omega),qP (N:Int) ho,aA,hv,aA,if_neg (by simp),vK hN hs hV.1,aA];rfl
theorem qDN {N:Nat} (hN:N≤14) {e:Expr} (hs:szE e≤1000000000) (hv:yC (N:Int) e=true):dQ e (N:Int)=some (cJ N λl=>evE l e,0):=by
 have hll:=tD (N:=N) (by omega);unfold dQ;rw [if_neg (by omega),if_neg (by omega),pH (N:Int) hs,aA,hv,aA,if_neg (by simp),qAT (by omega),aA];rw [sW (eB N) (λl=>evE l e) ((eB N).map λl=>evE l e) (by omega) ?_ ?_]
 ·rw [aA, (wW (by omega) _).1, aA];rfl
 ·intro i x hx;have hi:=(zQQ.1 hx).1;dsimp only;rw [if_pos (by omega),dT hx,qAS x hs,aA,aB (by simp;omega),aB (by unfold I64;omega)]
 dsimp only;rw [if_neg (by omega)];rfl
theorem few_eq {e:Expr} (hs:szE e≤1000000000):gH e=some (decide ((szE e:Int)≤120)):=by
 unfold gH;rw [vZ hs,aA]
theorem vQ {e:Expr} {n:Int} (we:e.Wf) (wn:I64 n) (hb:D.bulks [e.enc,D.int .i64 n]≤1048576):dD e n=some true:=by
 have hs:szE e≤1048576:=by
  have:=vW e;rw [Expr.encR_eq] at this;simp only [D.bulks] at hb;omega
 have ho:=xF we;unfold dD;rw [few_eq (by omega),aA];by_cases hf:(szE e:Int)≤120
 ·rw [decide_eq_true hf, if_neg (by simp)];by_cases h9:9 < n
  ·rw [if_pos h9,aA];by_cases h64:n≤64
   ·rw [decide_eq_true h64,if_pos rfl,nL];rfl
   rw [decide_eq_false h64, if_neg (by simp)];unfold gA dQ;rw [if_pos (by omega),if_pos (by omega),aA];dsimp only;rw [aA];dsimp only;rw [if_pos rfl,nU,aA,if_pos rfl,nL];rfl
  rw [if_neg h9, aA, if_neg (by simp)]
  have key:∃ r x,gA e n=some (r,x)∧dQ e n=some (r,x)∧cF r r=some true:=by
   by_cases h0:n < 0
   ·refine⟨⟨[],0⟩,1,?_,?_,nU 0⟩
    ·unfold gA;rw [if_neg (by omega),if_pos h0,aA,if_pos rfl]
    unfold dQ;rw [if_neg (by omega),if_pos h0,aA,if_pos rfl]
   obtain ⟨N, hN⟩ : ∃ N : Nat, n = (N : Int) := ⟨n.toNat, by omega⟩;subst hN
   cases hv:yC (N:Int) e with
   | true=>exact⟨_,_,Of_yes (by omega) ho (by omega) hv,qDN (by omega) (by omega) hv,qBH (by omega) _⟩
   | false=>
    refine⟨⟨[],0⟩,1,?_,?_,nU 0⟩
    ·unfold gA;rw [if_neg (by omega),if_neg h0,qP (N:Int) ho,aA,hv,aA,if_pos (by rfl)]
    unfold dQ;rw [if_neg (by omega),if_neg h0,pH (N:Int) (by omega),aA,hv,aA,if_pos (by rfl)]
  obtain⟨r,x,e1,e2,e3⟩:=key;rw [e1,e2,aA];dsimp only;rw [aA];dsimp only;rw [if_pos rfl,e3,aA,if_pos rfl,nL];rfl
 rw [decide_eq_false hf, if_pos (by rfl), aA, if_pos rfl, nL];rfl
end Go.Proofs.Ytdkhkhidekpfoaa
