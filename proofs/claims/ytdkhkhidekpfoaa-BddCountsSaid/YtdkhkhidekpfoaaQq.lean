/- Texts of this proof, joined, without what it does not use. No condition. -/
import Derived.IntWalk
import Derived.Test.YtdkhkhidekpfoaaQp

set_option linter.unusedVariables false
set_option linter.unusedSimpArgs false
set_option maxHeartbeats 400000
namespace Go.Proofs.Ytdkhkhidekpfoaa
open Go Go.TL
def fB (D:List Aa):Int:=D.foldl (λw n=>max w (n.var+1)) 0
theorem jS : ∀ (D : List Aa) (w : Int), w <= D.foldl (fun w n => max w (n.var + 1)) w /\ (∀ n ∈ D, n.var < D.foldl (fun w n => max w (n.var + 1)) w) /\ ∀ N, w <= N -> (∀ n ∈ D, n.var < N) -> D.foldl (fun w n => max w (n.var + 1)) w <= N
 | [],w=>⟨Int.le_refl _,λn h=>(by cases h),λN h _=>h⟩
 | x :: r,w=>by
  have h:=jS r (max w (x.var+1));rw [List.foldl_cons];refine⟨by omega,λn hn=>?_,λN hw hN=>h.2.2 N (by have:=hN x (List.mem_cons_self ..);omega) λn hn=>hN n (List.mem_cons_of_mem _ hn)⟩;rcases zQB.1 hn with rfl|hn
  ·have:=h.1;omega
  exact h.2.1 n hn
theorem sT (D:List Aa):0<=fB D:=(jS D 0).1
theorem sU {D:List Aa} {i:Nat} {n:Aa} (h:D[i]?=some n):n.var < fB D:=(jS D 0).2.1 n (zQM h)
theorem vY {D:List Aa} {N:Int} (h0:0<=N) (h:∀ n∈D,n.var < N):fB D<=N:=(jS D 0).2.2 N h0 h
theorem sO {d:Ab} (hl:d.nodes.length<=4611686018427387903):∃ w,bB d=some w/\((∀ n∈d.nodes,I64 (n.var+1))->w=fB d.nodes):=by
 refine⟨d.nodes.foldl (λw n=>max w (IntKind.i64.wrap (n.var+1))) 0,?_,λh=>?_⟩
 ·unfold bB;rw [fG (s:=((0:Int),(0:Int))) (λi=>((d.nodes.take i).foldl (λw n=>max w (IntKind.i64.wrap (n.var+1))) 0,(i:Int))) d.nodes.length (o:=d.nodes.foldl (λw n=>max w (IntKind.i64.wrap (n.var+1))) 0) rfl (by omega) ?_ ?_]
  ·rfl
  ·intro i hi;dsimp only;rw [if_pos (by omega),cQ (zQR hi),IntWalk.i64_in ((i:Int)+1) (by omega)];have hq:d.nodes.take (i+1)=d.nodes.take i++[d.nodes[i]]:=by rw [List.take_add_one,zQR hi];rfl
   rw [hq,List.foldl_append];rfl
  dsimp only;rw [if_neg (by omega),List.take_length];rfl
 have:∀ (D:List Aa) (w:Int),(∀ n∈D,I64 (n.var+1))->D.foldl (λw n=>max w (IntKind.i64.wrap (n.var+1))) w=D.foldl (λw n=>max w (n.var+1)) w:=by
  intro D
  induction D with
  | nil=>intro w _;rfl
  | cons x r ih=>
   intro w h;rw [List.foldl_cons,List.foldl_cons,IntWalk.i64_in _ (h x (List.mem_cons_self ..)),ih _ λn hn=>h n (List.mem_cons_of_mem _ hn)]
 exact this d.nodes 0 h
theorem lB:∀ n k,(dO n k).length=n
 | 0,k=>rfl
 | n+1,k=>by show (dO n _).length+1=_;rw [lB n]
theorem pF:∀ (n k j:Nat),j < n->(dO n k)[j]?=some (decide (k / 2 ^ (n - 1 - j) % 2=1))
 | n+1,k,0,h=>by simp [dO]
 | n+1,k,j+1,h=>by
  show (dO n k)[j]?=_;rw [pF n k j (by omega),show n+1 - 1 - (j+1)=n - 1 - j by omega]
theorem xP (k m:Nat):(k:Int).fdiv (m:Int)=((k / m:Nat):Int):=by
 rw [Int.fdiv_eq_ediv_of_nonneg _ (by omega)];rfl
theorem bit_eq {k i:Nat} (hi:i<=62) (hk:k < 4611686018427387904):IntKind.i64.wrap ((BitVec.ofInt IntKind.i64.bits ((k:Int).fdiv (2 ^ (min ((i:Int)).toNat IntKind.i64.bits))) &&& BitVec.ofInt IntKind.i64.bits (1:Int)).toNat:Nat)=((k / 2 ^ i % 2:Nat):Int):=by
 have h1:min ((i:Int)).toNat IntKind.i64.bits=i:=by
  show min ((i:Int)).toNat 64=i;omega
 have h2:k / 2 ^ i<=k:=Nat.div_le_self _ _;rw [h1,show ((2:Int) ^ i)=((2 ^ i:Nat):Int) by simp,xP]
 have h3:(BitVec.ofInt IntKind.i64.bits ((k / 2 ^ i:Nat):Int) &&& BitVec.ofInt IntKind.i64.bits (1:Int)).toNat=k / 2 ^ i % 2:=by
  show (BitVec.ofInt 64 ((k / 2 ^ i:Nat):Int) &&& BitVec.ofInt 64 (1:Int)).toNat=_;rw [BitVec.ofInt_natCast,BitVec.toNat_and,BitVec.toNat_ofNat,Nat.mod_eq_of_lt (by omega)];exact Nat.and_one_is_mod _
 rw [h3,IntWalk.i64_in _ (by omega)]
theorem rD {n:Nat} (hn:n<=30):IntKind.i64.wrap ((1:Int) * (2 ^ (min ((n:Int)).toNat IntKind.i64.bits)))=((2 ^ n:Nat):Int):=by
 have h1:min ((n:Int)).toNat IntKind.i64.bits=n:=by
  show min ((n:Int)).toNat 64=n;omega
 have h2:2 ^ n<=1073741824:=Nat.le_trans (Nat.pow_le_pow_right (by omega) hn) (by decide);rw [h1,Int.one_mul,show ((2:Int) ^ n)=((2 ^ n:Nat):Int) by simp];generalize 2 ^ n=m at h2 ⊢;rw [IntWalk.i64_in _ (by omega)]
theorem yM {n:Nat} (hn:n<=29):cJ (n:Int)=some (aP n):=by
 have h2:2 ^ n<=536870912:=Nat.le_trans (Nat.pow_le_pow_right (by omega) hn) (by decide);unfold cJ;rw [fG (s:=((0:Int),([]:List (List Bool)))) (λk=>((k:Int),((List.range (2 ^ n)).map (dO n)).take k)) (2 ^ n) (o:=(List.range (2 ^ n)).map (dO n)) rfl (by omega) ?_ ?_]
 ·rw [aA,rR]
 ·intro k hk;dsimp only;rw [aB (by omega),rD (by omega),if_pos (by omega),aB (by unfold I64;omega)];rw [fG (s:=((n:Int) - 1,([]:List Bool))) (λj=>((n:Int) - 1 - (j:Int),(dO n k).take j)) n (o:=dO n k) (by simp) (by omega) ?_ ?_]
  ·rw [aA, aB (by simp; omega), aA, aB (by unfold I64; omega), List.take_add_one (i := k)];simp [hk]
  ·intro j hj;dsimp only;have hi:(n:Int) - 1 - (j:Int)=((n - 1 - j:Nat):Int):=by omega
   have hl:=lB n k;rw [hi,if_pos (by omega),aB (by omega),bit_eq (by omega) (by omega),aB (by simp;omega),aB (by unfold I64;omega),List.take_add_one (i:=j),pF n k j hj]
   congr 3
   ·omega
   simp only [Option.toList_some]
   congr 2
   simp only [decide_eq_decide];omega
  dsimp only;rw [if_neg (by omega),List.take_of_length_le (by rw [lB];omega)];rfl
 dsimp only;rw [aB (by omega),rD (by omega),if_neg (by omega),List.take_of_length_le (by simp)];rfl
theorem ValidD.wid {d:Ab} (h:ValidD d):(∀ n∈d.nodes,I64 (n.var+1))/\fB d.nodes<=64:=by
 have hv:∀ n∈d.nodes,0<=n.var/\n.var < 64:=λn hn=>by
  obtain⟨i,hi⟩:=List.getElem?_of_mem hn;exact h.2.1.1.vars i n hi
 exact⟨λn hn=>by have:=hv n hn;unfold I64;omega,vY (by omega) λn hn=>(hv n hn).2⟩
theorem ValidD.width {d:Ab} (h:ValidD d):bB d=some (fB d.nodes):=by
 obtain⟨w,e,hw⟩:=sO (d:=d) (by have:=h.1;omega);rw [e,hw h.wid.1]
theorem rQ {N:Nat} (hN:N<=29):(aP N).length<=536870912:=by
 rw [oZ];exact Nat.le_trans (Nat.pow_le_pow_right (by omega) hN) (by decide)
theorem wK {d:Ab}:∃ b,eB d=some b/\(b=true->d.nodes.length<=200/\(ValidD d->fB d.nodes<=10)):=by
 unfold eB;by_cases h:d.nodes.length<=200
 ·obtain ⟨w, e, hw⟩ := sO (d := d) (by omega);rw [if_pos (by omega),e,aA,aA];refine⟨_,rfl,λhb=>⟨h,λhv=>?_⟩⟩;have:=of_decide_eq_true hb;rw [hw hv.wid.1] at this;exact this
 rw [if_neg (by omega), aA];exact⟨false,rfl,λh=>by cases h⟩
theorem iA {d:Ab} {v:Int} (hl:d.nodes.length<=4611686018427387903):eP d v=some (d.nodes.all λn=>decide (n.var < v)):=by
 unfold eP;rw [nE (ρ:=Unit ⊕ Bool) d.nodes (λn=>!decide (n.var < v)) (.inr false) (.inl ()) (by omega) ?_ ?_]
 ·have:(d.nodes.all λn=>decide (n.var < v))=!(d.nodes.any λn=>!decide (n.var < v)):=by
   rw [List.all_eq_not_any_not]
  rw [this];cases d.nodes.any λn=>!decide (n.var < v)<;>rfl
 ·intro i e he;have hi:=(zQQ.1 he).1;rw [if_pos (by omega),cQ he];by_cases h:v<=e.var
  ·rw [if_pos h, decide_eq_false (by omega), if_pos (by rfl)];rfl
  rw [if_neg h,decide_eq_true (by omega),if_neg (by simp),aB (by unfold I64;omega)]
 rw [if_neg (by omega)];rfl
theorem tQ {d:Ab} {x vars:Int} (h:InD d.nodes x) (hl:d.nodes.length<=1000000):cE x vars d=some (bK d.nodes vars x):=by
 unfold cE bK;by_cases hx:x < 2
 ·rw [if_pos hx,if_pos hx]
 obtain ⟨n, hn⟩ := h.get (by omega);rw [if_neg hx,if_neg hx,aB (h.i64 (by omega)).1,bM (by omega) hn]
 congr 1
 unfold aW;rw [if_neg hx,hn]
def lZ (D:List Aa) (vars:Int) (m:Nat):List Int:=(List.range (m+2)).map λ(i:Nat)=>((dQ D vars (i:Int):Nat):Int)
theorem vP {D:List Aa} {vars:Int} (h:WfD D) (hv:vars<=64) (hall:∀ (i:Nat) (n:Aa),D[i]?=some n->n.var < vars):lZ D vars 0=[0,1]:=by
 have:=sH h hv hall 0 (Nat.zero_le _)
 have e:lZ D vars 0=((List.range (0+2)).map λ(i:Nat)=>dQ D vars (i:Int)).map λ(k:Nat)=>(k:Int):=by
  unfold lZ;rw [List.map_map];rfl
 rw [e,<- this];rfl
theorem nR {D:List Aa} {vars x:Int} {m:Nat} (h0:0<=x) (h1:x < (m:Int)+2):(lZ D vars m)[x.toNat]?=some ((dQ D vars x:Nat):Int):=by
 unfold lZ;rw [zQP,List.getElem?_range (by omega)];simp only [Option.map_some,Int.toNat_of_nonneg h0]
theorem sY {c k:Nat} (hk:k<=62) (h:c * 2 ^ k<=2 ^ 62) {j:Int} (hj:j.toNat=k):IntKind.u64.wrap ((c:Int) * (2 ^ (min j.toNat IntKind.u64.bits)))=((c * 2 ^ k:Nat):Int):=by
 have h1:min j.toNat IntKind.u64.bits=k:=by
  show min j.toNat 64=k;omega
 have h2:(2:Nat) ^ 62<=4611686018427387904:=by decide
 have h3:(c:Int) * 2 ^ k=((c * 2 ^ k:Nat):Int):=by simp
 rw [h1,h3];generalize c * 2 ^ k=m at h;rw [IntWalk.u64_in _ (by omega)]
theorem vV {d:Ab} (ho:NOK d.nodes) (h:ValidD d) {vars:Int} (h0:0<=vars) (h62:vars<=62) (hall:∀ (i:Nat) (n:Aa),d.nodes[i]?=some n->n.var < vars):cD d vars=some (((cR (fnD d.nodes d.root 0) vars.toNat:Nat):Int),0):=by
 obtain⟨v,e,hv⟩:=kM ho;have hl:=h.1;have hw:=h.2.1.1;have hr:=h.root;have hv1:v=true:=hv.2 h;subst hv1
 have hbel:(d.nodes.all λn=>decide (n.var < vars))=true:=by
  rw [zQT];intro n hn;obtain⟨i,hi⟩:=List.getElem?_of_mem hn;exact decide_eq_true (hall i n hi)
 have hp62:2 ^ vars.toNat<=2 ^ 62:=Nat.pow_le_pow_right (by omega) (by omega)
 have hlev:∀ {x:Int} {n:Aa},InD d.nodes x->n.var < vars->n.var < aW d.nodes x->n.var+1<=bK d.nodes vars x/\bK d.nodes vars x<=vars:=fun {x n} hx h1 h2=>by
  have:=tP (vars:=vars) hw hx (by omega) hall;unfold bK at *;split at this<;>omega
 unfold cD;rw [if_neg (by simp only [Bool.or_eq_true,decide_eq_true_eq];omega),e,aA,if_neg (by simp),iA (by omega),aA,hbel,aA,if_neg (by simp)];rw [kC (b:=([0,1]:List Int)) d.nodes.length (lZ d.nodes vars) (o:=lZ d.nodes vars d.nodes.length) (vP hw (by omega) hall).symm (by omega) ?_ ?_]
 ·have hc := tP (vars := vars) hw hr (by omega) hall
  have hl0:0<=bK d.nodes vars d.root:=by
   unfold bK;split
   ·exact h0
   exact qE hw _
  have hs:=kZ (vars:=vars) hw hr (by omega) hall (v:=0) (by omega) hl0;rw [Int.sub_zero] at hs;rw [aA,bM hr.1 (nR hr.1 hr.2),tQ hr (by omega),aA,aB hl0,sY (by omega) (Nat.le_trans hs hp62) rfl,xX hw hr (by omega) h0 hall]
 ·intro i hi;dsimp only;have hn:=zQR hi;generalize d.nodes[i]=n at hn;have hlo:=hw.lo i n hn;have hhi:=hw.hi i n hn;have hnv:=hall i n hn;have hv0:=(hw.vars i n hn).1;have ilo:InD d.nodes n.lo:=⟨hlo.1,by omega⟩;have ihi:InD d.nodes n.hi:=⟨hhi.1,by omega⟩;have llo:=hlev ilo hnv hlo.2.2;have lhi:=hlev ihi hnv hhi.2.2;have slo:=kZ (vars:=vars) hw ilo (by omega) hall (v:=n.var+1) (by omega) llo.1;have shi:=kZ (vars:=vars) hw ihi (by omega) hall (v:=n.var+1) (by omega) lhi.1;rw [show bK d.nodes vars n.lo - (n.var+1)=bK d.nodes vars n.lo - n.var - 1 by omega] at slo;rw [show bK d.nodes vars n.hi - (n.var+1)=bK d.nodes vars n.hi - n.var - 1 by omega] at shi;have hst:=sG (vars:=vars) hw (by omega) hall hn;have hp2:(2:Nat) ^ 62=4611686018427387904:=by decide
  rw [if_pos (by omega),cQ hn,bM hlo.1 (nR hlo.1 hlo.2.1),tQ ilo (by omega),aA,aB (by unfold I64;omega),aB (by unfold I64;omega),aB (by omega)];rw [bM hhi.1 (nR hhi.1 hhi.2.1),tQ ihi (by omega),aA,aB (by unfold I64;omega),aB (by unfold I64;omega),aB (by omega)];rw [sY (k:=(bK d.nodes vars n.lo - n.var - 1).toNat) (by omega) (Nat.le_trans slo hp62) rfl,sY (k:=(bK d.nodes vars n.hi - n.var - 1).toNat) (by omega) (Nat.le_trans shi hp62) rfl]
  have hsum:IntKind.u64.wrap (((dQ d.nodes vars n.lo * 2 ^ (bK d.nodes vars n.lo - n.var - 1).toNat:Nat):Int)+((dQ d.nodes vars n.hi * 2 ^ (bK d.nodes vars n.hi - n.var - 1).toNat:Nat):Int))=((dQ d.nodes vars ((i:Int)+2):Nat):Int):=by
   rw [hst];generalize dQ d.nodes vars n.lo * 2 ^ (bK d.nodes vars n.lo - n.var - 1).toNat=p at slo;generalize dQ d.nodes vars n.hi * 2 ^ (bK d.nodes vars n.hi - n.var - 1).toNat=q at shi;rw [IntWalk.u64_in _ (by omega)];omega
  have hnext:lZ d.nodes vars (i+1)=lZ d.nodes vars i++[((dQ d.nodes vars ((i:Int)+2):Nat):Int)]:=by
   unfold lZ;rw [show i+1+2=(i+2)+1 by omega,List.range_succ,List.map_append];rfl
  have hlen:(lZ d.nodes vars i).length=i+2:=by simp [lZ]
  rw [hsum,aB (by rw [zQL,hlen];simp;omega),aB (by unfold I64;omega),hnext]
 dsimp only;rw [if_neg (by omega)];rfl
end Go.Proofs.Ytdkhkhidekpfoaa
set_option linter.unusedVariables false
set_option linter.unusedSimpArgs false
set_option maxHeartbeats 400000
set_option maxRecDepth 100000
namespace Go.Proofs.Ytdkhkhidekpfoaa
open Go Go.TL
def opB (v:List Bool) (op x:Int) (bs:List Bool):Bool:=
 if op=3 then decide (0<=x)&&v.getD x.toNat false
 else if op=4 then (match bs with|[]=>false|b :: _=>!b)
 else if op=5 then bs.all id
 else if op=6 then bs.any id
 else decide (op=2)
mutual
def evE (v:List Bool):Ac->Bool
 | ⟨op,x,l⟩=>opB v op x (evL v l)
def evL (v:List Bool):List Ac->List Bool
 | []=>[]
 | e :: r=>evE v e :: evL v r
end
mutual
def dpE:Ac->Nat
 | ⟨_,_,l⟩=>dpL l+1
def dpL:List Ac->Nat
 | []=>0
 | e :: r=>max (dpE e) (dpL r)
end
mutual
def szE:Ac->Nat
 | ⟨_,_,l⟩=>szL l+1
def szL:List Ac->Nat
 | []=>0
 | e :: r=>szE e+szL r
end
abbrev maxN:Nat:=9223372036854775807
mutual
def okE:Ac->Prop
 | ⟨_,_,l⟩=>l.length<=maxN/\okL l
def okL:List Ac->Prop
 | []=>True
 | e :: r=>okE e/\okL r
end
def formB (n:Int) (op x:Int) (k:Nat):Bool:=
 if op=1\/op=2 then decide (x=0/\k=0)
 else if op=3 then decide (0<=x/\x < n/\k=0)
 else if op=4 then decide (k=1/\x=0)
 else if op=5\/op=6 then decide (x=0)
 else false
mutual
def qAH (n:Int):Ac->Bool
 | ⟨op,x,l⟩=>formB n op x l.length&&qAG n l
def qAG (n:Int):List Ac->Bool
 | []=>true
 | e :: r=>qAH n e&&qAG n r
end
def ValE (n:Int) (d left:Int) (e:Ac):Prop:=qAH n e=true/\d+(dpE e:Int)<=13/\(szE e:Int)<=left
instance (n d left:Int) (e:Ac):Decidable (ValE n d left e):=by unfold ValE;infer_instance
end Go.Proofs.Ytdkhkhidekpfoaa
