/- Texts of this proof, joined, without what it does not use. No condition. -/
import Derived.IntWalk
import Derived.Test.YtdkhkhidekpfoaaQo

set_option linter.unusedVariables false
set_option linter.unusedSimpArgs false
set_option maxHeartbeats 400000
namespace Go.Proofs.Ytdkhkhidekpfoaa
open Go Go.TL
def gL (D:List Node):Int:=D.foldl (λw n=>max w (n.var+1)) 0
theorem kY : ∀ (D : List Node) (w : Int), w ≤ D.foldl (fun w n => max w (n.var + 1)) w ∧ (∀ n ∈ D, n.var < D.foldl (fun w n => max w (n.var + 1)) w) ∧ ∀ N, w ≤ N → (∀ n ∈ D, n.var < N) → D.foldl (fun w n => max w (n.var + 1)) w ≤ N
 | [],w=>⟨Int.le_refl _,λn h=>(by cases h),λN h _=>h⟩
 | x :: r,w=>by
  have h:=kY r (max w (x.var+1));rw [List.foldl_cons];refine⟨by omega,λn hn=>?_,λN hw hN=>h.2.2 N (by have:=hN x (List.mem_cons_self ..);omega) λn hn=>hN n (List.mem_cons_of_mem _ hn)⟩;rcases zQB.1 hn with rfl|hn
  ·have:=h.1;omega
  exact h.2.1 n hn
theorem uK (D:List Node):0≤gL D:=(kY D 0).1
theorem wid_lt {D:List Node} {i:Nat} {n:Node} (h:D[i]?=some n):n.var < gL D:=(kY D 0).2.1 n (zQM h)
theorem wid_le {D:List Node} {N:Int} (h0:0≤N) (h:∀ n∈D,n.var < N):gL D≤N:=(kY D 0).2.2 N h0 h
theorem uE {d:Diagram} (hl:d.nodes.length≤4611686018427387903):∃ w,bL d=some w∧((∀ n∈d.nodes,I64 (n.var+1))→w=gL d.nodes):=by
 refine⟨d.nodes.foldl (λw n=>max w (IntKind.i64.wrap (n.var+1))) 0,?_,λh=>?_⟩
 ·unfold bL;rw [gG (s:=((0:Int),(0:Int))) (λi=>((d.nodes.take i).foldl (λw n=>max w (IntKind.i64.wrap (n.var+1))) 0,(i:Int))) d.nodes.length (o:=d.nodes.foldl (λw n=>max w (IntKind.i64.wrap (n.var+1))) 0) rfl (by omega) ?_ ?_]
  ·rfl
  ·intro i hi;dsimp only;rw [if_pos (by omega),cI (zQR hi),IntWalk.i64_in ((i:Int)+1) (by omega)];have hq:d.nodes.take (i+1)=d.nodes.take i++[d.nodes[i]]:=by rw [List.take_add_one,zQR hi];rfl
   rw [hq,List.foldl_append];rfl
  dsimp only;rw [if_neg (by omega),List.take_length];rfl
 have:∀ (D:List Node) (w:Int),(∀ n∈D,I64 (n.var+1))→D.foldl (λw n=>max w (IntKind.i64.wrap (n.var+1))) w=D.foldl (λw n=>max w (n.var+1)) w:=by
  intro D
  induction D with
  | nil=>intro w _;rfl
  | cons x r ih=>
   intro w h;rw [List.foldl_cons,List.foldl_cons,IntWalk.i64_in _ (h x (List.mem_cons_self ..)),ih _ λn hn=>h n (List.mem_cons_of_mem _ hn)]
 exact this d.nodes 0 h
theorem mN:∀ n k,(eL n k).length=n
 | 0,k=>rfl
 | n+1,k=>by show (eL n _).length+1=_;rw [mN n]
theorem qL:∀ (n k j:Nat),j < n→(eL n k)[j]?=some (decide (k / 2 ^ (n - 1 - j) % 2=1))
 | n+1,k,0,h=>by simp [eL]
 | n+1,k,j+1,h=>by
  show (eL n k)[j]?=_;rw [qL n k j (by omega),show n+1 - 1 - (j+1)=n - 1 - j by omega]
theorem zW (k m:Nat):(k:Int).fdiv (m:Int)=((k / m:Nat):Int):=by
 rw [Int.fdiv_eq_ediv_of_nonneg _ (by omega)];rfl
theorem bit_eq {k i:Nat} (hi:i≤62) (hk:k < 4611686018427387904):IntKind.i64.wrap ((BitVec.ofInt IntKind.i64.bits ((k:Int).fdiv (2 ^ (min ((i:Int)).toNat IntKind.i64.bits))) &&& BitVec.ofInt IntKind.i64.bits (1:Int)).toNat:Nat)=((k / 2 ^ i % 2:Nat):Int):=by
 have h1:min ((i:Int)).toNat IntKind.i64.bits=i:=by
  show min ((i:Int)).toNat 64=i;omega
 have h2:k / 2 ^ i≤k:=Nat.div_le_self _ _;rw [h1,show ((2:Int) ^ i)=((2 ^ i:Nat):Int) by simp,zW]
 have h3:(BitVec.ofInt IntKind.i64.bits ((k / 2 ^ i:Nat):Int) &&& BitVec.ofInt IntKind.i64.bits (1:Int)).toNat=k / 2 ^ i % 2:=by
  show (BitVec.ofInt 64 ((k / 2 ^ i:Nat):Int) &&& BitVec.ofInt 64 (1:Int)).toNat=_;rw [BitVec.ofInt_natCast,BitVec.toNat_and,BitVec.toNat_ofNat,Nat.mod_eq_of_lt (by omega)];exact Nat.and_one_is_mod _
 rw [h3,IntWalk.i64_in _ (by omega)]
theorem sX {n:Nat} (hn:n≤30):IntKind.i64.wrap ((1:Int) * (2 ^ (min ((n:Int)).toNat IntKind.i64.bits)))=((2 ^ n:Nat):Int):=by
 have h1:min ((n:Int)).toNat IntKind.i64.bits=n:=by
  show min ((n:Int)).toNat 64=n;omega
 have h2:2 ^ n≤1073741824:=Nat.le_trans (Nat.pow_le_pow_right (by omega) hn) (by decide);rw [h1,Int.one_mul,show ((2:Int) ^ n)=((2 ^ n:Nat):Int) by simp];generalize 2 ^ n=m at h2 ⊢;rw [IntWalk.i64_in _ (by omega)]
theorem pN {n:Nat} (hn:n≤29):cT (n:Int)=some (cV n):=by
 have h2:2 ^ n≤536870912:=Nat.le_trans (Nat.pow_le_pow_right (by omega) hn) (by decide);unfold cT;rw [gG (s:=((0:Int),([]:List (List Bool)))) (λk=>((k:Int),((List.range (2 ^ n)).map (eL n)).take k)) (2 ^ n) (o:=(List.range (2 ^ n)).map (eL n)) rfl (by omega) ?_ ?_]
 ·rw [aA,tK]
 ·intro k hk;dsimp only;rw [aB (by omega),sX (by omega),if_pos (by omega),aB (by unfold I64;omega)];rw [gG (s:=((n:Int) - 1,([]:List Bool))) (λj=>((n:Int) - 1 - (j:Int),(eL n k).take j)) n (o:=eL n k) (by simp) (by omega) ?_ ?_]
  ·rw [aA, aB (by simp; omega), aA, aB (by unfold I64; omega), List.take_add_one (i := k)];simp [hk]
  ·intro j hj;dsimp only;have hi:(n:Int) - 1 - (j:Int)=((n - 1 - j:Nat):Int):=by omega
   have hl:=mN n k;rw [hi,if_pos (by omega),aB (by omega),bit_eq (by omega) (by omega),aB (by simp;omega),aB (by unfold I64;omega),List.take_add_one (i:=j),qL n k j hj]
   congr 3
   ·omega
   simp only [Option.toList_some]
   congr 2
   simp only [decide_eq_decide];omega
  dsimp only;rw [if_neg (by omega),List.take_of_length_le (by rw [mN];omega)];rfl
 dsimp only;rw [aB (by omega),sX (by omega),if_neg (by omega),List.take_of_length_le (by simp)];rfl
theorem add_eq {d:Diagram} {n:Node} (ho:NOK d.nodes) (hk:Node.ok n) (hl:d.nodes.length+1≤1000000000):gO d n=some ((bH d.nodes n).2,⟨(bH d.nodes n).1,d.root⟩):=by
 unfold gO bH;by_cases h:n.lo=n.hi
 ·rw [if_pos h,if_pos h]
 rw [if_neg h,if_neg h];rw [xI (ρ:=Unit ⊕ (Int×Diagram)) d.nodes (λm=>decide (m=n)) (λi=>.inr ((i:Int)+2,d)) (.inl ()) (by omega) ?_ ?_]
 ·cases hf:d.nodes.findIdx? (λm=>decide (m=n)) with
  | some i=>rfl
  | none=>
   show fB (some (Sum.inl ())) _=_;rw [eP,aB (by simp;omega),aB (by simp;unfold I64;omega)];simp;omega
 ·intro i e he;have hi:=(zQQ.1 he).1;rw [if_pos (by omega),cI he,aB ⟨ho.at he,hk⟩];by_cases hx:e=n
  ·rw [if_pos hx, if_pos (by simpa using hx), aB (by unfold I64; omega)];rfl
  rw [if_neg hx,if_neg (by simpa using hx),aB (by unfold I64;omega)]
 rw [if_neg (by omega)];rfl
theorem vU {D:List Node} {n:Node} (h1:0≤n.lo∧n.lo < (D.length:Int)+2) (h2:0≤n.hi∧n.hi < (D.length:Int)+2):0≤(bH D n).2∧(bH D n).2 < ((bH D n).1.length:Int)+2:=by
 unfold bH;split
 ·exact h1
 cases hf:D.findIdx? (λm=>decide (m=n)) with
 | some i=>
  rw [List.findIdx?_eq_some_iff_getElem] at hf;obtain⟨hi,_⟩:=hf;dsimp only;omega
 | none=>
  dsimp only;simp;omega
theorem qDS {D:List Node} {n:Node} (h:NOK D) (hn:Node.ok n):NOK (bH D n).1:=by
 unfold bH;split
 ·exact h
 split
 ·exact h
 exact wG h hn
theorem mF:∀ (k fu:Nat) (d:Diagram) (T:List Bool) (v:Int),k < fu→T.length=2 ^ k→NOK d.nodes→0≤v→v+k≤1000→d.nodes.length+2 ^ k≤1000000000→
  bQ fu d T v=some ((eY d.nodes k T v).2,⟨(eY d.nodes k T v).1,d.root⟩)∧NOK (eY d.nodes k T v).1∧d.nodes.length≤(eY d.nodes k T v).1.length∧(eY d.nodes k T v).1.length+1≤d.nodes.length+2 ^ k∧0≤(eY d.nodes k T v).2∧(eY d.nodes k T v).2 < ((eY d.nodes k T v).1.length:Int)+2
 | _,0,d,T,v,hk,_,_,_,_,_=>by omega
 | 0,fu+1,d,T,v,hk,hT,ho,hv,hv2,hl=>by
  have h1:T.length=1:=hT;unfold bQ eY;have h0:=lM (l:=T) (i:=0) (by omega);refine⟨?_,ho,zQW _,by simp,?_⟩
  ·rw [if_pos (by omega), cK (by omega) h0];unfold bD;split<;>rfl
  unfold bD;split<;>omega
 | k+1,fu+1,d,T,v,hk,hT,ho,hv,hv2,hl=>by
  rw [Nat.pow_succ] at hT hl;have hp:0 < 2 ^ k:=Nat.pos_of_ne_zero (by simp)
  have hw:IntKind.i64.wrap ((T.length:Int).tdiv 2)=((2 ^ k:Nat):Int):=by
   rw [IntWalk.i64_quo _ _ (by omega),hT];omega
  have hs0:sub T 0 ((2 ^ k:Nat):Int)=T.take (2 ^ k):=yJ T (2 ^ k);have hs1:sub T ((2 ^ k:Nat):Int) (T.length:Int)=T.drop (2 ^ k):=sF T (2 ^ k);obtain⟨e1,o1,l1,m1,r1⟩:=mF k fu d (T.take (2 ^ k)) (v+1) (by omega) (by rw [List.length_take];omega) ho (by omega) (by omega) (by omega);unfold bQ eY;dsimp only;rw [if_neg (by omega),aB (by omega),hw,aB (by omega),aB (by unfold I64;omega),hs0,e1,aA];dsimp only;generalize eY d.nodes k (T.take (2 ^ k)) (v+1)=a at e1 o1 l1 m1 r1;obtain⟨e2,o2,l2,m2,r2⟩:=mF k fu ⟨a.1,d.root⟩ (T.drop (2 ^ k)) (v+1) (by omega) (by rw [List.length_drop];omega) o1 (by omega) (by omega) (by dsimp only;omega);dsimp only at e2 o2 l2 m2 r2;rw [aB (by omega),aB (by unfold I64;omega),hs1,e2,aA];dsimp only;generalize eY a.1 k (T.drop (2 ^ k)) (v+1)=b at e2 o2 l2 m2 r2;have hok:Node.ok ⟨v,a.2,b.2⟩:=⟨by unfold I64;dsimp only;omega,by unfold I64;dsimp only;omega,by unfold I64;dsimp only;omega⟩;have hlen:=lW b.1 ⟨v,a.2,b.2⟩;have hpre:=(gI b.1 ⟨v,a.2,b.2⟩).length_le;rw [add_eq (d:=⟨b.1,d.root⟩) o2 hok (by dsimp only;omega),aA];dsimp only;refine⟨rfl,qDS o2 hok,by omega,by rw [Nat.pow_succ];omega,vU (by dsimp only;omega) (by dsimp only;omega)⟩
theorem nW {N:Nat} (hN:N≤29) (f:Fn):dJ ((cV N).map f)=some ⟨(eK N f).1,(eK N f).2⟩∧NOK (eK N f).1:=by
 have h2:2 ^ N≤2 ^ 29:=Nat.pow_le_pow_right (by omega) hN;rw [← qT];obtain⟨e,o,_⟩:=mF N aH ⟨[],0⟩ (jU f N) 0 (by unfold aH;omega) (lC N f) nP (by omega) (by omega) (by show 0+2 ^ N≤_;omega);unfold dJ kO;rw [e,aA];dsimp only at o ⊢;rw [oQ] at o ⊢;exact⟨rfl,o⟩
theorem yB (D:List Node) {x:Int} (h:x < 2) (l:Int):cG D aH x l=some l:=by
 rw [show aH=73786976294838206463+1 from rfl];unfold cG;rw [if_pos (.inl h)]
theorem ValidD.ok {d:Diagram} (h:ValidD d) {N:Nat} (hN:N≤64) (hall:∀ (i:Nat) (n:Node),d.nodes[i]?=some n→n.var < (N:Int)):MakeOk N (fnD d.nodes d.root 0) d.nodes d.root:=by
 refine ok_of h.2.1.1 h.2.1.2 (q:=aH) h.root ?_ hN hall;have h3:=h.2.2;split at h3
 ·rename_i h0;rw [yB _ (by omega),h0];rfl
 exact h3.2
theorem ValidD.wid {d:Diagram} (h:ValidD d):(∀ n∈d.nodes,I64 (n.var+1))∧gL d.nodes≤64:=by
 have hv:∀ n∈d.nodes,0≤n.var∧n.var < 64:=λn hn=>by
  obtain⟨i,hi⟩:=List.getElem?_of_mem hn;exact h.2.1.1.vars i n hi
 exact⟨λn hn=>by have:=hv n hn;unfold I64;omega,wid_le (by omega) λn hn=>(hv n hn).2⟩
theorem ValidD.width {d:Diagram} (h:ValidD d):bL d=some (gL d.nodes):=by
 obtain⟨w,e,hw⟩:=uE (d:=d) (by have:=h.1;omega);rw [e,hw h.wid.1]
theorem ValidD.okW {d:Diagram} (h:ValidD d) {N:Nat} (hN:N≤64) (hw:gL d.nodes≤(N:Int)):MakeOk N (fnD d.nodes d.root 0) d.nodes d.root:=
 h.ok hN λi n hn=>by have:=wid_lt hn;omega
theorem ValidD.nn {d:Diagram} (h:ValidD d):NN d.nodes:=λn hn=>by
 obtain⟨i,hi⟩:=List.getElem?_of_mem hn;exact⟨(h.2.1.1.lo i n hi).1,(h.2.1.1.hi i n hi).1⟩
def pT (N:Nat) (f:Fn):Diagram:=⟨(eK N f).1,(eK N f).2⟩
theorem zI {N:Nat} (hN:N≤29) (f:Fn):NOK (pT N f).nodes:=(nW hN f).2
theorem mk_len {N:Nat} (hN:N≤29) (f:Fn):(pT N f).nodes.length≤4611686018427387903:=by
 have h2:2 ^ N≤2 ^ 29:=Nat.pow_le_pow_right (by omega) hN;have:=(wK N f (by omega)).len;show (eK N f).1.length≤_;omega
theorem rL {N:Nat} (hN:N≤29) (f:Fn):bJ (pT N f) (pT N f)=some true:=by
 rw [wU (zI hN f) (zI hN f) (mk_len hN f)];simp
theorem oE (r:Int):bJ ⟨[],r⟩ ⟨[],r⟩=some true:=by
 rw [wU nP nP (by simp)];simp
theorem sD (va vb:Bool):(if (!va)=true then some true else some (!vb))=some (!(va&&vb)):=by
 cases va<;>cases vb<;>rfl
theorem vW {va vb:Bool} {a b:Diagram} (ha:va=true↔ValidD a) (hb:vb=true↔ValidD b) (h:¬ (ValidD a∧ValidD b)):(!(va&&vb))=true:=by
 cases va<;>cases vb<;>first|rfl|exact absurd ⟨ha.1 rfl,hb.1 rfl⟩ h
theorem oC {va vb:Bool} {a b:Diagram} (ha:va=true↔ValidD a) (hb:vb=true↔ValidD b) (h1:ValidD a) (h2:ValidD b):¬ (!(va&&vb))=true:=by
 rw [ha.2 h1,hb.2 h2];simp
theorem wS {a b:Diagram} (oa:NOK a.nodes) (ob:NOK b.nodes) (h:¬ (ValidD a∧ValidD b)) (all:Bool):dG a b all=some (⟨[],0⟩,1):=by
 obtain⟨va,ea,ha⟩:=gW oa;obtain⟨vb,eb,hb⟩:=gW ob;unfold dG;rw [ea,eb,aA,aA,sD,aA,if_pos (vW ha hb h)]
theorem uA {a b:Diagram} (oa:NOK a.nodes) (ob:NOK b.nodes) (ha:ValidD a) (hb:ValidD b) {N:Nat} (hN:N≤14) (wa:gL a.nodes≤(N:Int)) (wb:gL b.nodes≤(N:Int)) (all:Bool):dG a b all=some (pT N λl=>opQ all (fnD a.nodes a.root 0 l) (fnD b.nodes b.root 0 l),0):=by
 obtain⟨va,ea,ha'⟩:=gW oa;obtain⟨vb,eb,hb'⟩:=gW ob;unfold dG;rw [ea,eb,aA,aA,sD,aA,if_neg (oC ha' hb' ha hb),vM hN (ha.okW (by omega) wa) (hb.okW (by omega) wb),aA];rfl
theorem qAT {a b:Diagram} (oa:NOK a.nodes) (ob:NOK b.nodes) (h:¬ (ValidD a∧ValidD b)):dP a b=some (⟨[],0⟩,1)∧eW a b=some (⟨[],0⟩,1):=by
 obtain⟨va,ea,ha⟩:=fK oa;obtain⟨vb,eb,hb⟩:=fK ob;unfold dP eW;constructor<;>rw [ea,eb,aA,aA,sD,aA,if_pos (vW ha hb h)]
theorem mZ {N:Nat} (hN:N≤29):(cV N).length≤536870912:=by
 rw [qF];exact Nat.le_trans (Nat.pow_le_pow_right (by omega) hN) (by decide)
theorem qDW {a b:Diagram} (oa:NOK a.nodes) (ob:NOK b.nodes) (ha:ValidD a) (hb:ValidD b) {N:Nat} (hN:N≤14) (hw:max (gL a.nodes) (gL b.nodes)=(N:Int)):
  dP a b=some (pT N λl=>opQ true (fnD a.nodes a.root 0 l) (fnD b.nodes b.root 0 l),0)∧eW a b=some (pT N λl=>opQ false (fnD a.nodes a.root 0 l) (fnD b.nodes b.root 0 l),0):=by
 obtain⟨va,ea,ha'⟩:=fK oa;obtain⟨vb,eb,hb'⟩:=fK ob;have hll:=mZ (N:=N) (by omega);have la:=ha.1;have lb:=hb.1;unfold dP eW;constructor
 ·rw [ea, eb, aA, aA, sD, aA, if_neg (oC ha' hb' ha hb), ha.width, hb.width, aA, aA, hw, pN (by omega), aA];rw [lJ (cV N) (λl=>opQ true (fnD a.nodes a.root 0 l) (fnD b.nodes b.root 0 l)) ((cV N).map λl=>opQ true (fnD a.nodes a.root 0 l) (fnD b.nodes b.root 0 l)) (by omega) ?_ ?_]
  ·rw [aA, (nW (by omega) _).1, aA];rfl
  ·intro i e he;have hi:=(zQQ.1 he).1;dsimp only;rw [if_pos (by omega),cI he,iJ ha.2.1.1 (by omega) ha.root,aA]
   cases hc:fnD a.nodes a.root 0 e with
   | true=>rw [if_pos rfl,iJ hb.2.1.1 (by omega) hb.root,aA,aB (by simp;omega),aB (by unfold I64;omega)];rfl
   | false=>rw [if_neg (by simp),aB (by simp;omega),aB (by unfold I64;omega)];rfl
  dsimp only;rw [if_neg (by omega)];rfl
 rw [ea, eb, aA, aA, sD, aA, if_neg (oC ha' hb' ha hb), ha.width, hb.width, aA, aA, hw, pN (by omega), aA];rw [lJ (cV N) (λl=>opQ false (fnD a.nodes a.root 0 l) (fnD b.nodes b.root 0 l)) ((cV N).map λl=>opQ false (fnD a.nodes a.root 0 l) (fnD b.nodes b.root 0 l)) (by omega) ?_ ?_]
 ·rw [aA, (nW (by omega) _).1, aA];rfl
 ·intro i e he;have hi:=(zQQ.1 he).1;dsimp only;rw [if_pos (by omega),cI he,iJ ha.2.1.1 (by omega) ha.root,aA]
  cases hc:fnD a.nodes a.root 0 e with
  | true=>rw [if_pos rfl,aB (by simp;omega),aB (by unfold I64;omega)];rfl
  | false=>rw [if_neg (by simp),iJ hb.2.1.1 (by omega) hb.root,aA,aB (by simp;omega),aB (by unfold I64;omega)];rfl
 dsimp only;rw [if_neg (by omega)];rfl
theorem qAR {a:Diagram} (oa:NOK a.nodes) (h:¬ ValidD a):gH a=some ⟨[],0⟩∧dO a=some ⟨[],0⟩:=by
 obtain⟨va,ea,ha⟩:=gW oa;obtain⟨vb,eb,hb⟩:=fK oa;have h1:va=false:=by cases va with|false=>rfl|true=>exact absurd (ha.1 rfl) h
 have h2:vb=false:=by cases vb with|false=>rfl|true=>exact absurd (hb.1 rfl) h
 subst h1 h2;unfold gH dO;rw [ea,eb,aA,aA];exact⟨rfl,rfl⟩
theorem qDU {a:Diagram} (oa:NOK a.nodes) (h:ValidD a) {N:Nat} (hN:N≤64) (hw:gL a.nodes≤(N:Int)):gH a=some (pT N λl=>!(fnD a.nodes a.root 0 l)):=by
 obtain⟨va,ea,ha⟩:=gW oa;have h1:va=true:=ha.2 h;subst h1;have hl:=h.1;have hr:=h.root;have hr1:=hr.1;have hr2:=hr.2;have ok:=h.okW hN hw;unfold gH;rw [ea,aA,if_neg (by simp),tA h.nn oa hr1 (by unfold I64;omega) (by omega),aA];unfold pT;rw [zJ ok]
theorem qAQ {a:Diagram} (oa:NOK a.nodes) (h:ValidD a) {N:Nat} (hN:N≤29) (hw:gL a.nodes=(N:Int)):dO a=some (pT N λl=>!(fnD a.nodes a.root 0 l)):=by
 obtain⟨va,ea,ha⟩:=fK oa;have h1:va=true:=ha.2 h;subst h1;have hll:=mZ hN;have la:=h.1;unfold dO;rw [ea,aA,if_neg (by simp),h.width,aA,hw,pN hN,aA];rw [lJ (cV N) (λl=>!(fnD a.nodes a.root 0 l)) ((cV N).map λl=>!(fnD a.nodes a.root 0 l)) (by omega) ?_ ?_]
 ·rw [aA,(nW hN _).1,aA];rfl
 ·intro i e he;have hi:=(zQQ.1 he).1;dsimp only;rw [if_pos (by omega),cI he,iJ h.2.1.1 (by omega) h.root,aA,aB (by simp;omega),aB (by unfold I64;omega)]
 dsimp only;rw [if_neg (by omega)];rfl
theorem sG {d:Diagram}:∃ b,dS d=some b∧(b=true→d.nodes.length≤200∧(ValidD d→gL d.nodes≤10)):=by
 unfold dS;by_cases h:d.nodes.length≤200
 ·obtain ⟨w, e, hw⟩ := uE (d := d) (by omega);rw [if_pos (by omega),e,aA,aA];refine⟨_,rfl,λhb=>⟨h,λhv=>?_⟩⟩;have:=of_decide_eq_true hb;rw [hw hv.wid.1] at this;exact this
 rw [if_neg (by omega), aA];exact⟨false,rfl,λh=>by cases h⟩
theorem rQ {a b:Diagram} (wa:a.Wf) (wb:b.Wf):cS a b=some true:=by
 have oa:=zE wa;have ob:=zE wb;obtain⟨sa,ea,ha⟩:=sG (d:=a);obtain⟨sb,eb,hb⟩:=sG (d:=b);unfold cS;rw [ea,aA,eb,aA]
 cases sa with
 | false=>rw [if_pos (by rfl),aA,if_pos rfl,rZ];rfl
 | true=>
  rw [if_neg (by simp),aA]
  cases sb with
  | false=>rw [if_pos (by rfl),rZ];rfl
  | true=>
   rw [if_neg (by simp)];have ha:=ha rfl;have hb:=hb rfl
   have hNot:∃ r,gH a=some r∧dO a=some r∧bJ r r=some true:=by
    by_cases hv:ValidD a
    ·have w10:=ha.2 hv;have w0:=uK a.nodes;obtain⟨N,hN⟩:∃ N:Nat,gL a.nodes=(N:Int):=⟨(gL a.nodes).toNat,by omega⟩;exact⟨_,qDU oa hv (by omega) (by omega),qAQ oa hv (by omega) hN,rL (by omega) _⟩
    exact⟨_,(qAR oa hv).1,(qAR oa hv).2,oE 0⟩
   obtain⟨r,n1,n2,n3⟩:=hNot
   have hBoth:∃ p q e,dG a b true=some (p,e)∧dP a b=some (p,e)∧dG a b false=some (q,e)∧eW a b=some (q,e)∧bJ p p=some true∧bJ q q=some true:=by
    by_cases hv:ValidD a∧ValidD b
    ·have w10:=ha.2 hv.1;have w0:=uK a.nodes;have v10:=hb.2 hv.2;have v0:=uK b.nodes;obtain⟨N,hN⟩:∃ N:Nat,max (gL a.nodes) (gL b.nodes)=(N:Int):=⟨(max (gL a.nodes) (gL b.nodes)).toNat,by omega⟩;have hy:=qDW oa ob hv.1 hv.2 (N:=N) (by omega) hN;exact⟨_,_,_,uA oa ob hv.1 hv.2 (N:=N) (by omega) (by omega) (by omega) true,hy.1,uA oa ob hv.1 hv.2 (N:=N) (by omega) (by omega) (by omega) false,hy.2,rL (by omega) _,rL (by omega) _⟩
    exact⟨_,_,_,wS oa ob hv true,(qAT oa ob hv).1,wS oa ob hv false,(qAT oa ob hv).2,oE 0,oE 0⟩
   obtain⟨p,q,e,b1,b2,b3,b4,b5,b6⟩:=hBoth;unfold nU rY;simp only [b1,b2,b3,b4,b5,b6,n1,n2,n3,rZ,aA,if_true,Bool.false_eq_true,if_false,Bool.not_true]
end Go.Proofs.Ytdkhkhidekpfoaa
set_option linter.unusedVariables false
set_option linter.unusedSimpArgs false
set_option maxHeartbeats 400000
set_option maxRecDepth 100000
namespace Go.Proofs.Ytdkhkhidekpfoaa
open Go Go.TL
def opB (v:List Bool) (op x:Int) (bs:List Bool):Bool:=
 if op=3 then decide (0≤x)&&v.getD x.toNat false
 else if op=4 then (match bs with|[]=>false|b :: _=>!b)
 else if op=5 then bs.all id
 else if op=6 then bs.any id
 else decide (op=2)
mutual
def evE (v:List Bool):Expr→Bool
 | ⟨op,x,l⟩=>opB v op x (evL v l)
def evL (v:List Bool):List Expr→List Bool
 | []=>[]
 | e :: r=>evE v e :: evL v r
end
mutual
def dpE:Expr→Nat
 | ⟨_,_,l⟩=>dpL l+1
def dpL:List Expr→Nat
 | []=>0
 | e :: r=>max (dpE e) (dpL r)
end
mutual
def szE:Expr→Nat
 | ⟨_,_,l⟩=>szL l+1
def szL:List Expr→Nat
 | []=>0
 | e :: r=>szE e+szL r
end
abbrev maxN:Nat:=9223372036854775807
mutual
def okE:Expr→Prop
 | ⟨_,_,l⟩=>l.length≤maxN∧okL l
def okL:List Expr→Prop
 | []=>True
 | e :: r=>okE e∧okL r
end
def formB (n:Int) (op x:Int) (k:Nat):Bool:=
 if op=1∨op=2 then decide (x=0∧k=0)
 else if op=3 then decide (0≤x∧x < n∧k=0)
 else if op=4 then decide (k=1∧x=0)
 else if op=5∨op=6 then decide (x=0)
 else false
mutual
def qEH (n:Int):Expr→Bool
 | ⟨op,x,l⟩=>formB n op x l.length&&qEG n l
def qEG (n:Int):List Expr→Bool
 | []=>true
 | e :: r=>qEH n e&&qEG n r
end
def ValE (n:Int) (d left:Int) (e:Expr):Prop:=qEH n e=true∧d+(dpE e:Int)≤13∧(szE e:Int)≤left
instance (n d left:Int) (e:Expr):Decidable (ValE n d left e):=by unfold ValE;infer_instance
end Go.Proofs.Ytdkhkhidekpfoaa
