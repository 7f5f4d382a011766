/- Texts of this proof, joined, without what it does not use. No condition. -/
import Derived.IntWalk
import Derived.Test.YtdkhkhidekpfoaaQn

set_option linter.unusedVariables false
set_option linter.unusedSimpArgs false
set_option maxHeartbeats 400000
namespace Go.Proofs.Ytdkhkhidekpfoaa
open Go Go.TL
def gN (D:List Node):Int:=D.foldl (λw n=>max w (n.var+1)) 0
theorem jS : ∀ (D : List Node) (w : Int), w ≤ D.foldl (fun w n => max w (n.var + 1)) w ∧ (∀ n ∈ D, n.var < D.foldl (fun w n => max w (n.var + 1)) w) ∧ ∀ N, w ≤ N → (∀ n ∈ D, n.var < N) → D.foldl (fun w n => max w (n.var + 1)) w ≤ N
 | [],w=>⟨Int.le_refl _,λn h=>(by cases h),λN h _=>h⟩
 | x :: r,w=>by
  have h:=jS r (max w (x.var+1));rw [List.foldl_cons];refine⟨by omega,λn hn=>?_,λN hw hN=>h.2.2 N (by have:=hN x (List.mem_cons_self ..);omega) λn hn=>hN n (List.mem_cons_of_mem _ hn)⟩;rcases zQB.1 hn with rfl|hn
  ·have:=h.1;omega
  exact h.2.1 n hn
theorem wY (D:List Node):0≤gN D:=(jS D 0).1
theorem tE {D:List Node} {i:Nat} {n:Node} (h:D[i]?=some n):n.var < gN D:=(jS D 0).2.1 n (zQM h)
theorem wZ {D:List Node} {N:Int} (h0:0≤N) (h:∀ n∈D,n.var < N):gN D≤N:=(jS D 0).2.2 N h0 h
theorem zL {d:Diagram} (hl:d.nodes.length≤4611686018427387903):∃ w,eC d=some w∧((∀ n∈d.nodes,I64 (n.var+1))→w=gN d.nodes):=by
 refine⟨d.nodes.foldl (λw n=>max w (IntKind.i64.wrap (n.var+1))) 0,?_,λh=>?_⟩
 ·unfold eC;rw [iH (s:=((0:Int),(0:Int))) (λi=>((d.nodes.take i).foldl (λw n=>max w (IntKind.i64.wrap (n.var+1))) 0,(i:Int))) d.nodes.length (o:=d.nodes.foldl (λw n=>max w (IntKind.i64.wrap (n.var+1))) 0) rfl (by omega) ?_ ?_]
  ·rfl
  ·intro i hi;dsimp only;rw [if_pos (by omega),eP (zQR hi),IntWalk.i64_in ((i:Int)+1) (by omega)];have hq:d.nodes.take (i+1)=d.nodes.take i++[d.nodes[i]]:=by rw [List.take_add_one,zQR hi];rfl
   rw [hq,List.foldl_append];rfl
  dsimp only;rw [if_neg (by omega),List.take_length];rfl
 have:∀ (D:List Node) (w:Int),(∀ n∈D,I64 (n.var+1))→D.foldl (λw n=>max w (IntKind.i64.wrap (n.var+1))) w=D.foldl (λw n=>max w (n.var+1)) w:=by
  intro D
  induction D with
  | nil=>intro w _;rfl
  | cons x r ih=>
   intro w h;rw [List.foldl_cons,List.foldl_cons,IntWalk.i64_in _ (h x (List.mem_cons_self ..)),ih _ λn hn=>h n (List.mem_cons_of_mem _ hn)]
 exact this d.nodes 0 h
theorem add_eq {d:Diagram} {n:Node} (ho:NOK d.nodes) (hk:Node.ok n) (hl:d.nodes.length+1≤1000000000):kZ d n=some ((bC d.nodes n).2,⟨(bC d.nodes n).1,d.root⟩):=by
 unfold kZ bC;by_cases h:n.lo=n.hi
 ·rw [if_pos h,if_pos h]
 rw [if_neg h,if_neg h];rw [wD (ρ:=Unit ⊕ (Int×Diagram)) d.nodes (λm=>decide (m=n)) (λi=>.inr ((i:Int)+2,d)) (.inl ()) (by omega) ?_ ?_]
 ·cases hf:d.nodes.findIdx? (λm=>decide (m=n)) with
  | some i=>rfl
  | none=>
   show gM (some (Sum.inl ())) _=_;rw [pM,aB (by simp;omega),aB (by simp;unfold I64;omega)];simp;omega
 ·intro i e he;have hi:=(zQQ.1 he).1;rw [if_pos (by omega),eP he,aB ⟨ho.at he,hk⟩];by_cases hx:e=n
  ·rw [if_pos hx, if_pos (by simpa using hx), aB (by unfold I64; omega)];rfl
  rw [if_neg hx,if_neg (by simpa using hx),aB (by unfold I64;omega)]
 rw [if_neg (by omega)];rfl
theorem uQ {D:List Node} {n:Node} (h1:0≤n.lo∧n.lo < (D.length:Int)+2) (h2:0≤n.hi∧n.hi < (D.length:Int)+2):0≤(bC D n).2∧(bC D n).2 < ((bC D n).1.length:Int)+2:=by
 unfold bC;split
 ·exact h1
 cases hf:D.findIdx? (λm=>decide (m=n)) with
 | some i=>
  rw [List.findIdx?_eq_some_iff_getElem] at hf;obtain⟨hi,_⟩:=hf;dsimp only;omega
 | none=>
  dsimp only;simp;omega
theorem qBY {D:List Node} {n:Node} (h:NOK D) (hn:Node.ok n):NOK (bC D n).1:=by
 unfold bC;split
 ·exact h
 split
 ·exact h
 exact vD h hn
theorem lG:∀ (k fu:Nat) (d:Diagram) (T:List Bool) (v:Int),k < fu→T.length=2 ^ k→NOK d.nodes→0≤v→v+k≤1000→d.nodes.length+2 ^ k≤1000000000→
  cO fu d T v=some ((eE d.nodes k T v).2,⟨(eE d.nodes k T v).1,d.root⟩)∧NOK (eE d.nodes k T v).1∧d.nodes.length≤(eE d.nodes k T v).1.length∧(eE d.nodes k T v).1.length+1≤d.nodes.length+2 ^ k∧0≤(eE d.nodes k T v).2∧(eE d.nodes k T v).2 < ((eE d.nodes k T v).1.length:Int)+2
 | _,0,d,T,v,hk,_,_,_,_,_=>by omega
 | 0,fu+1,d,T,v,hk,hT,ho,hv,hv2,hl=>by
  have h1:T.length=1:=hT;unfold cO eE;have h0:=oA (l:=T) (i:=0) (by omega);refine⟨?_,ho,zQW _,by simp,?_⟩
  ·rw [if_pos (by omega), cH (by omega) h0];unfold aZ;split<;>rfl
  unfold aZ;split<;>omega
 | k+1,fu+1,d,T,v,hk,hT,ho,hv,hv2,hl=>by
  rw [Nat.pow_succ] at hT hl;have hp:0 < 2 ^ k:=Nat.pos_of_ne_zero (by simp)
  have hw:IntKind.i64.wrap ((T.length:Int).tdiv 2)=((2 ^ k:Nat):Int):=by
   rw [IntWalk.i64_quo _ _ (by omega),hT];omega
  have hs0:sub T 0 ((2 ^ k:Nat):Int)=T.take (2 ^ k):=xI T (2 ^ k);have hs1:sub T ((2 ^ k:Nat):Int) (T.length:Int)=T.drop (2 ^ k):=rD T (2 ^ k);obtain⟨e1,o1,l1,m1,r1⟩:=lG k fu d (T.take (2 ^ k)) (v+1) (by omega) (by rw [List.length_take];omega) ho (by omega) (by omega) (by omega);unfold cO eE;dsimp only;rw [if_neg (by omega),aB (by omega),hw,aB (by omega),aB (by unfold I64;omega),hs0,e1,aA];dsimp only;generalize eE d.nodes k (T.take (2 ^ k)) (v+1)=a at e1 o1 l1 m1 r1;obtain⟨e2,o2,l2,m2,r2⟩:=lG k fu ⟨a.1,d.root⟩ (T.drop (2 ^ k)) (v+1) (by omega) (by rw [List.length_drop];omega) o1 (by omega) (by omega) (by dsimp only;omega);dsimp only at e2 o2 l2 m2 r2;rw [aB (by omega),aB (by unfold I64;omega),hs1,e2,aA];dsimp only;generalize eE a.1 k (T.drop (2 ^ k)) (v+1)=b at e2 o2 l2 m2 r2;have hok:Node.ok ⟨v,a.2,b.2⟩:=⟨by unfold I64;dsimp only;omega,by unfold I64;dsimp only;omega,by unfold I64;dsimp only;omega⟩;have hlen:=kT b.1 ⟨v,a.2,b.2⟩;have hpre:=(fL b.1 ⟨v,a.2,b.2⟩).length_le;rw [add_eq (d:=⟨b.1,d.root⟩) o2 hok (by dsimp only;omega),aA];dsimp only;refine⟨rfl,qBY o2 hok,by omega,by rw [Nat.pow_succ];omega,uQ (by dsimp only;omega) (by dsimp only;omega)⟩
theorem qCB {N:Nat} (hN:N≤29) (f:Fn):nF ((nW N).map f)=some ⟨(bS N f).1,(bS N f).2⟩∧NOK (bS N f).1:=by
 have h2:2 ^ N≤2 ^ 29:=Nat.pow_le_pow_right (by omega) hN;rw [← pT];obtain⟨e,o,_⟩:=lG N aN ⟨[],0⟩ (iR f N) 0 (by unfold aN;omega) (jV N f) vC (by omega) (by omega) (by show 0+2 ^ N≤_;omega);unfold nF nE;rw [e,aA];dsimp only at o ⊢;rw [nN] at o ⊢;exact⟨rfl,o⟩
theorem rA (D:List Node) {x:Int} (h:x < 2) (l:Int):cL D aN x l=some l:=by
 rw [show aN=73786976294838206463+1 from rfl];unfold cL;rw [if_pos (.inl h)]
theorem ValidD.ok {d:Diagram} (h:ValidD d) {N:Nat} (hN:N≤64) (hall:∀ (i:Nat) (n:Node),d.nodes[i]?=some n→n.var < (N:Int)):MakeOk N (fnD d.nodes d.root 0) d.nodes d.root:=by
 refine ok_of h.2.1.1 h.2.1.2 (q:=aN) h.root ?_ hN hall;have h3:=h.2.2;split at h3
 ·rename_i h0;rw [rA _ (by omega),h0];rfl
 exact h3.2
theorem ValidD.wid {d:Diagram} (h:ValidD d):(∀ n∈d.nodes,I64 (n.var+1))∧gN d.nodes≤64:=by
 have hv:∀ n∈d.nodes,0≤n.var∧n.var < 64:=λn hn=>by
  obtain⟨i,hi⟩:=List.getElem?_of_mem hn;exact h.2.1.1.vars i n hi
 exact⟨λn hn=>by have:=hv n hn;unfold I64;omega,wZ (by omega) λn hn=>(hv n hn).2⟩
theorem ValidD.okW {d:Diagram} (h:ValidD d) {N:Nat} (hN:N≤64) (hw:gN d.nodes≤(N:Int)):MakeOk N (fnD d.nodes d.root 0) d.nodes d.root:=
 h.ok hN λi n hn=>by have:=tE hn;omega
theorem ValidD.nn {d:Diagram} (h:ValidD d):NN d.nodes:=λn hn=>by
 obtain⟨i,hi⟩:=List.getElem?_of_mem hn;exact⟨(h.2.1.1.lo i n hi).1,(h.2.1.1.hi i n hi).1⟩
def bT (N:Nat) (f:Fn):Diagram:=⟨(bS N f).1,(bS N f).2⟩
theorem nS {N:Nat} (hN:N≤29) (f:Fn):NOK (bT N f).nodes:=(qCB hN f).2
theorem mk_len {N:Nat} (hN:N≤29) (f:Fn):(bT N f).nodes.length≤4611686018427387903:=by
 have h2:2 ^ N≤2 ^ 29:=Nat.pow_le_pow_right (by omega) hN;have:=(kG N f (by omega)).len;show (bS N f).1.length≤_;omega
theorem vH {N:Nat} (hN:N≤29) (f:Fn):bP (bT N f) (bT N f)=some true:=by
 rw [vS (nS hN f) (nS hN f) (mk_len hN f)];simp
theorem test2 (va vb:Bool):(if (!va)=true then some true else some (!vb))=some (!(va&&vb)):=by
 cases va<;>cases vb<;>rfl
theorem xG {va vb:Bool} {a b:Diagram} (ha:va=true↔ValidD a) (hb:vb=true↔ValidD b) (h1:ValidD a) (h2:ValidD b):¬ (!(va&&vb))=true:=by
 rw [ha.2 h1,hb.2 h2];simp
theorem oL {a b:Diagram} (oa:NOK a.nodes) (ob:NOK b.nodes) (ha:ValidD a) (hb:ValidD b) {N:Nat} (hN:N≤14) (wa:gN a.nodes≤(N:Int)) (wb:gN b.nodes≤(N:Int)) (all:Bool):fU a b all=some (bT N λl=>opQ all (fnD a.nodes a.root 0 l) (fnD b.nodes b.root 0 l),0):=by
 obtain⟨va,ea,ha'⟩:=fW oa;obtain⟨vb,eb,hb'⟩:=fW ob;unfold fU;rw [ea,eb,aA,aA,test2,aA,if_neg (xG ha' hb' ha hb),uI hN (ha.okW (by omega) wa) (hb.okW (by omega) wb),aA];rfl
theorem kU {a:Diagram} (oa:NOK a.nodes) (h:ValidD a) {N:Nat} (hN:N≤64) (hw:gN a.nodes≤(N:Int)):eA a=some (bT N λl=>!(fnD a.nodes a.root 0 l)):=by
 obtain⟨va,ea,ha⟩:=fW oa;have h1:va=true:=ha.2 h;subst h1;have hl:=h.1;have hr:=h.root;have hr1:=hr.1;have hr2:=hr.2;have ok:=h.okW hN hw;unfold eA;rw [ea,aA,if_neg (by simp),rV h.nn oa hr1 (by unfold I64;omega) (by omega),aA];unfold bT;rw [yE ok]
theorem rG {d:Diagram}:∃ b,dD d=some b∧(b=true→d.nodes.length≤200∧(ValidD d→gN d.nodes≤10)):=by
 unfold dD;by_cases h:d.nodes.length≤200
 ·obtain ⟨w, e, hw⟩ := zL (d := d) (by omega);rw [if_pos (by omega),e,aA,aA];refine⟨_,rfl,λhb=>⟨h,λhv=>?_⟩⟩;have:=of_decide_eq_true hb;rw [hw hv.wid.1] at this;exact this
 rw [if_neg (by omega), aA];exact⟨false,rfl,λh=>by cases h⟩
theorem zA {d:Diagram} {v:Int} (hl:d.nodes.length≤4611686018427387903):eS d v=some (d.nodes.all λn=>decide (n.var < v)):=by
 unfold eS;rw [yG (ρ:=Unit ⊕ Bool) d.nodes (λn=>!decide (n.var < v)) (.inr false) (.inl ()) (by omega) ?_ ?_]
 ·have:(d.nodes.all λn=>decide (n.var < v))=!(d.nodes.any λn=>!decide (n.var < v)):=by
   rw [List.all_eq_not_any_not]
  rw [this];cases d.nodes.any λn=>!decide (n.var < v)<;>rfl
 ·intro i e he;have hi:=(zQQ.1 he).1;rw [if_pos (by omega),eP he];by_cases h:v≤e.var
  ·rw [if_pos h, decide_eq_false (by omega), if_pos (by rfl)];rfl
  rw [if_neg h,decide_eq_true (by omega),if_neg (by simp),aB (by unfold I64;omega)]
 rw [if_neg (by omega)];rfl
theorem uC {d:Diagram} {x vars:Int} (h:InD d.nodes x) (hl:d.nodes.length≤1000000):bY x vars d=some (bJ d.nodes vars x):=by
 unfold bY bJ;by_cases hx:x < 2
 ·rw [if_pos hx,if_pos hx]
 obtain ⟨n, hn⟩ := h.get (by omega);rw [if_neg hx,if_neg hx,aB (h.i64 (by omega)).1,cH (by omega) hn]
 congr 1
 unfold aG;rw [if_neg hx,hn]
def mH (D:List Node) (vars:Int) (m:Nat):List Int:=(List.range (m+2)).map λ(i:Nat)=>((dT D vars (i:Int):Nat):Int)
theorem wN {D:List Node} {vars:Int} (h:WfD D) (hv:vars≤64) (hall:∀ (i:Nat) (n:Node),D[i]?=some n→n.var < vars):mH D vars 0=[0,1]:=by
 have:=sT h hv hall 0 (Nat.zero_le _)
 have e:mH D vars 0=((List.range (0+2)).map λ(i:Nat)=>dT D vars (i:Int)).map λ(k:Nat)=>(k:Int):=by
  unfold mH;rw [List.map_map];rfl
 rw [e,← this];rfl
theorem oI {D:List Node} {vars x:Int} {m:Nat} (h0:0≤x) (h1:x < (m:Int)+2):(mH D vars m)[x.toNat]?=some ((dT D vars x:Nat):Int):=by
 unfold mH;rw [zQP,List.getElem?_range (by omega)];simp only [Option.map_some,Int.toNat_of_nonneg h0]
theorem tI {c k:Nat} (hk:k≤62) (h:c * 2 ^ k≤2 ^ 62) {j:Int} (hj:j.toNat=k):IntKind.u64.wrap ((c:Int) * (2 ^ (min j.toNat IntKind.u64.bits)))=((c * 2 ^ k:Nat):Int):=by
 have h1:min j.toNat IntKind.u64.bits=k:=by
  show min j.toNat 64=k;omega
 have h2:(2:Nat) ^ 62≤4611686018427387904:=by decide
 have h3:(c:Int) * 2 ^ k=((c * 2 ^ k:Nat):Int):=by simp
 rw [h1,h3];generalize c * 2 ^ k=m at h;rw [IntWalk.u64_in _ (by omega)]
theorem pQ {d:Diagram} (ho:NOK d.nodes) (h:ValidD d) {vars:Int} (h0:0≤vars) (h62:vars≤62) (hall:∀ (i:Nat) (n:Node),d.nodes[i]?=some n→n.var < vars):dW d vars=some (((cC (fnD d.nodes d.root 0) vars.toNat:Nat):Int),0):=by
 obtain⟨v,e,hv⟩:=fW ho;have hl:=h.1;have hw:=h.2.1.1;have hr:=h.root;have hv1:v=true:=hv.2 h;subst hv1
 have hbel:(d.nodes.all λn=>decide (n.var < vars))=true:=by
  rw [zQT];intro n hn;obtain⟨i,hi⟩:=List.getElem?_of_mem hn;exact decide_eq_true (hall i n hi)
 have hp62:2 ^ vars.toNat≤2 ^ 62:=Nat.pow_le_pow_right (by omega) (by omega)
 have hlev:∀ {x:Int} {n:Node},InD d.nodes x→n.var < vars→n.var < aG d.nodes x→n.var+1≤bJ d.nodes vars x∧bJ d.nodes vars x≤vars:=fun {x n} hx h1 h2=>by
  have:=uB (vars:=vars) hw hx (by omega) hall;unfold bJ at *;split at this<;>omega
 unfold dW;rw [if_neg (by simp only [Bool.or_eq_true,decide_eq_true_eq];omega),e,aA,if_neg (by simp),zA (by omega),aA,hbel,aA,if_neg (by simp)];rw [kH (b:=([0,1]:List Int)) d.nodes.length (mH d.nodes vars) (o:=mH d.nodes vars d.nodes.length) (wN hw (by omega) hall).symm (by omega) ?_ ?_]
 ·have hc := uB (vars := vars) hw hr (by omega) hall
  have hl0:0≤bJ d.nodes vars d.root:=by
   unfold bJ;split
   ·exact h0
   exact qJ hw _
  have hs:=lN (vars:=vars) hw hr (by omega) hall (v:=0) (by omega) hl0;rw [Int.sub_zero] at hs;rw [aA,cH hr.1 (oI hr.1 hr.2),uC hr (by omega),aA,aB hl0,tI (by omega) (Nat.le_trans hs hp62) rfl,yT hw hr (by omega) h0 hall]
 ·intro i hi;dsimp only;have hn:=zQR hi;generalize d.nodes[i]=n at hn;have hlo:=hw.lo i n hn;have hhi:=hw.hi i n hn;have hnv:=hall i n hn;have hv0:=(hw.vars i n hn).1;have ilo:InD d.nodes n.lo:=⟨hlo.1,by omega⟩;have ihi:InD d.nodes n.hi:=⟨hhi.1,by omega⟩;have llo:=hlev ilo hnv hlo.2.2;have lhi:=hlev ihi hnv hhi.2.2;have slo:=lN (vars:=vars) hw ilo (by omega) hall (v:=n.var+1) (by omega) llo.1;have shi:=lN (vars:=vars) hw ihi (by omega) hall (v:=n.var+1) (by omega) lhi.1;rw [show bJ d.nodes vars n.lo - (n.var+1)=bJ d.nodes vars n.lo - n.var - 1 by omega] at slo;rw [show bJ d.nodes vars n.hi - (n.var+1)=bJ d.nodes vars n.hi - n.var - 1 by omega] at shi;have hst:=sS (vars:=vars) hw (by omega) hall hn;have hp2:(2:Nat) ^ 62=4611686018427387904:=by decide
  rw [if_pos (by omega),eP hn,cH hlo.1 (oI hlo.1 hlo.2.1),uC ilo (by omega),aA,aB (by unfold I64;omega),aB (by unfold I64;omega),aB (by omega)];rw [cH hhi.1 (oI hhi.1 hhi.2.1),uC ihi (by omega),aA,aB (by unfold I64;omega),aB (by unfold I64;omega),aB (by omega)];rw [tI (k:=(bJ d.nodes vars n.lo - n.var - 1).toNat) (by omega) (Nat.le_trans slo hp62) rfl,tI (k:=(bJ d.nodes vars n.hi - n.var - 1).toNat) (by omega) (Nat.le_trans shi hp62) rfl]
  have hsum:IntKind.u64.wrap (((dT d.nodes vars n.lo * 2 ^ (bJ d.nodes vars n.lo - n.var - 1).toNat:Nat):Int)+((dT d.nodes vars n.hi * 2 ^ (bJ d.nodes vars n.hi - n.var - 1).toNat:Nat):Int))=((dT d.nodes vars ((i:Int)+2):Nat):Int):=by
   rw [hst];generalize dT d.nodes vars n.lo * 2 ^ (bJ d.nodes vars n.lo - n.var - 1).toNat=p at slo;generalize dT d.nodes vars n.hi * 2 ^ (bJ d.nodes vars n.hi - n.var - 1).toNat=q at shi;rw [IntWalk.u64_in _ (by omega)];omega
  have hnext:mH d.nodes vars (i+1)=mH d.nodes vars i++[((dT d.nodes vars ((i:Int)+2):Nat):Int)]:=by
   unfold mH;rw [show i+1+2=(i+2)+1 by omega,List.range_succ,List.map_append];rfl
  have hlen:(mH d.nodes vars i).length=i+2:=by simp [mH]
  rw [hsum,aB (by rw [zQL,hlen];simp;omega),aB (by unfold I64;omega),hnext]
 dsimp only;rw [if_neg (by omega)];rfl
theorem nQ {N:Nat} (hN:N≤14) (f:Fn):ValidD (bT N f):=by
 have ok:=kG N f (by omega);have hp:2 ^ N≤16384:=Nat.le_trans (Nat.pow_le_pow_right (by omega) hN) (by decide);have hlen:=ok.len;have hv:=ok.order aN (by unfold aN;omega);refine⟨?_,⟨ok.wf,ok.nodup⟩,?_⟩
 ·show (bS N f).1.length≤20000;omega
 show if (bS N f).1.length=0 then (bS N f).2=0∨(bS N f).2=1 else (bS N f).2=((bS N f).1.length:Int)+1∧_;have hr:=ok.root;split
 ·rename_i h0;have:=hr.1;have:=hr.2;omega
 rename_i h0;refine⟨?_,hv⟩;by_cases hx:(bS N f).2 < 2
 ·rw [rA _ hx] at hv;simp only [Option.some.injEq] at hv;omega
 rw [show aN=73786976294838206463+1 from rfl] at hv;unfold cL at hv;rw [if_neg (by omega)] at hv;obtain⟨n,hn⟩:=hr.get (by omega);rw [hn] at hv;dsimp only at hv;rw [Option.bind_eq_some_iff] at hv;obtain⟨l1,_,hv⟩:=hv;rw [Option.bind_eq_some_iff] at hv;obtain⟨l2,_,hv⟩:=hv;split at hv
 ·simp only [Option.some.injEq] at hv;omega
 cases hv
theorem nP {N:Nat} (hN:N≤64) (f:Fn):gN (bT N f).nodes≤(N:Int):=by
 refine wZ (by omega) λn hn=>?_;obtain⟨i,hi⟩:=List.getElem?_of_mem hn;exact (kG N f hN).vars i n hi
theorem nR {N:Nat} (hN:N≤64) (f:Fn) {l:List Bool} (hl:l.length=N):fnD (bT N f).nodes (bT N f).root 0 l=f l:=(kG N f hN).val l hl
theorem kF {N:Nat} {f g:Fn} (h:∀ l,l.length=N→f l=g l):bT N f=bT N g:=by
 unfold bT;rw [tY h]
theorem qI {d:Diagram} (h:ValidD d) {N:Nat} (hN:N≤64) (hw:gN d.nodes≤(N:Int)):bT N (fnD d.nodes d.root 0)=d:=by
 unfold bT;rw [vI (h.okW hN hw)]
theorem cnt_mk {N:Nat} (hN:N≤64) (f:Fn):cC (fnD (bT N f).nodes (bT N f).root 0) N=cC f N:=cZ λl hl=>nR hN f hl
theorem yU {N:Nat} (hN:N≤64) (f:Fn) {d:Diagram} (hd:d=bT N λl=>!f l):cC f N+cC (fnD d.nodes d.root 0) N=2 ^ N:=by
 subst hd;rw [cnt_mk hN];exact qQ N f
theorem rW {a b:Diagram} (wa:a.Wf) (wb:b.Wf):cP a b=some true:=by
 have oa:=yA wa;have ob:=yA wb;obtain⟨sa,ea,ha⟩:=rG (d:=a);obtain⟨sb,eb,hb⟩:=rG (d:=b);obtain⟨va,fa,ga⟩:=fW oa;obtain⟨vb,fb,gb⟩:=fW ob;unfold cP;rw [ea,aA,eb,aA,fa,aA,fb,aA]
 cases sa with
 | false=>rw [if_pos (by rfl),aA,if_pos rfl,kS];rfl
 | true=>
  rw [if_neg (by simp)]
  cases sb with
  | false=>rw [if_pos (by rfl),aA,if_pos rfl,kS];rfl
  | true=>
   rw [if_neg (by simp)]
   cases va with
   | false=>rw [if_pos (by rfl),aA,if_pos rfl,kS];rfl
   | true=>
    rw [if_neg (by simp),aA]
    cases vb with
    | false=>rw [if_pos (by rfl),kS];rfl
    | true=>
     rw [if_neg (by simp)];have hva:=ga.1 rfl;have hvb:=gb.1 rfl;have w10:=(ha rfl).2 hva;have w0:=wY a.nodes;have v10:=(hb rfl).2 hvb;have v0:=wY b.nodes;obtain⟨N,hN⟩:∃ N:Nat,max (gN a.nodes) (gN b.nodes)=(N:Int):=⟨(max (gN a.nodes) (gN b.nodes)).toNat,by omega⟩;have hN14:N≤14:=by omega
     have hNa:gN a.nodes≤(N:Int):=by omega
     have hNb:gN b.nodes≤(N:Int):=by omega
     have e1:=oL oa ob hva hvb hN14 hNa hNb true;have e2:=oL ob oa hvb hva hN14 hNb hNa true
     have hcm:(bT N λl=>opQ true (fnD b.nodes b.root 0 l) (fnD a.nodes a.root 0 l))=bT N λl=>opQ true (fnD a.nodes a.root 0 l) (fnD b.nodes b.root 0 l):=kF λl _=>by
      cases fnD a.nodes a.root 0 l<;>cases fnD b.nodes b.root 0 l<;>rfl
     rw [hcm] at e2;have e3:=kU oa hva (N:=N) (by omega) hNa;have e4:=kU ob hvb (N:=N) (by omega) hNb;have e362:=kU oa hva (N:=62) (by omega) (by omega);have hna:(bT N λl=>!(fnD a.nodes a.root 0 l))=bT 62 λl=>!(fnD a.nodes a.root 0 l):=Option.some.inj (e3.symm.trans e362);have nv:=nQ hN14 λl=>!(fnD a.nodes a.root 0 l);have nw:=nQ hN14 λl=>!(fnD b.nodes b.root 0 l);have no:=nS (N:=N) (by omega) λl=>!(fnD a.nodes a.root 0 l);have np:=nS (N:=N) (by omega) λl=>!(fnD b.nodes b.root 0 l);have e5:=oL no np nv nw hN14 (nP (by omega) _) (nP (by omega) _) false
     have hor:(bT N λl=>opQ false (fnD (bT N λl=>!(fnD a.nodes a.root 0 l)).nodes (bT N λl=>!(fnD a.nodes a.root 0 l)).root 0 l) (fnD (bT N λl=>!(fnD b.nodes b.root 0 l)).nodes (bT N λl=>!(fnD b.nodes b.root 0 l)).root 0 l))=bT N λl=>!(opQ true (fnD a.nodes a.root 0 l) (fnD b.nodes b.root 0 l)):=kF λl hl=>by
      rw [nR (by omega) _ hl,nR (by omega) _ hl];cases fnD a.nodes a.root 0 l<;>cases fnD b.nodes b.root 0 l<;>rfl
     rw [hor] at e5;have e6:=pQ oa hva (vars:=62) (by omega) (by omega) λi n hn=>by have:=tE hn;omega
     have e7:=pQ no nv (vars:=62) (by omega) (by omega) λi n hn=>by have:=tE hn;have:=nP (N:=N) (by omega) λl=>!(fnD a.nodes a.root 0 l);omega
     have hcnt:=yU (N:=62) (by omega) (fnD a.nodes a.root 0) hna;have e8:=kU no nv (N:=N) (by omega) (nP (by omega) _)
     have hnn:(bT N λl=>!(fnD (bT N λl=>!(fnD a.nodes a.root 0 l)).nodes (bT N λl=>!(fnD a.nodes a.root 0 l)).root 0 l))=a:=by
      rw [← qI hva (N:=N) (by omega) hNa];rw [qI hva (N:=N) (by omega) hNa];exact (kF λl hl=>by rw [nR (by omega) _ hl,Bool.not_not]).trans (qI hva (by omega) hNa)
     rw [hnn] at e8;have av:=nQ hN14 λl=>opQ true (fnD a.nodes a.root 0 l) (fnD b.nodes b.root 0 l);have ao:=nS (N:=N) (by omega) λl=>opQ true (fnD a.nodes a.root 0 l) (fnD b.nodes b.root 0 l);have e9:=kU ao av (N:=N) (by omega) (nP (by omega) _);have hnd:(bT N λl=>!(fnD (bT N λl=>opQ true (fnD a.nodes a.root 0 l) (fnD b.nodes b.root 0 l)).nodes (bT N λl=>opQ true (fnD a.nodes a.root 0 l) (fnD b.nodes b.root 0 l)).root 0 l))=bT N λl=>!(opQ true (fnD a.nodes a.root 0 l) (fnD b.nodes b.root 0 l)):=kF λl hl=>by rw [nR (by omega) _ hl]
     rw [hnd] at e9;have s1:bP a a=some true:=by rw [vS oa oa (by have:=hva.1;omega)];simp
     have s2:=vH (N:=N) (by omega) λl=>opQ true (fnD a.nodes a.root 0 l) (fnD b.nodes b.root 0 l);have s3:=vH (N:=N) (by omega) λl=>!(opQ true (fnD a.nodes a.root 0 l) (fnD b.nodes b.root 0 l));generalize (bT N λl=>!(opQ true (fnD a.nodes a.root 0 l) (fnD b.nodes b.root 0 l)))=x3 at e5 e9 s3;generalize (bT N λl=>opQ true (fnD a.nodes a.root 0 l) (fnD b.nodes b.root 0 l))=x2 at e1 e2 e9 s2;generalize (bT N λl=>!(fnD a.nodes a.root 0 l))=x4 at e3 e5 e7 e8 hcnt;generalize (bT N λl=>!(fnD b.nodes b.root 0 l))=x5 at e4 e5;rw [show (62:Int).toNat=62 from rfl] at e6 e7;have hp2:(2:Nat) ^ 62=4611686018427387904:=by decide
     generalize cC (fnD a.nodes a.root 0) 62=c1 at e6 hcnt;generalize cC (fnD x4.nodes x4.root 0) 62=c2 at e7 hcnt
     have hw:IntKind.u64.wrap ((c1:Int)+(c2:Int))=4611686018427387904:=by
      rw [IntWalk.u64_in _ (by omega)];omega
     unfold kQ qX;simp only [e1,e2,e3,e4,e5,e6,e7,e8,e9,s1,s2,s3,hw,kS,aA,if_true,Bool.false_eq_true,if_false,Bool.not_true,decide_true,Bool.or_false]
end Go.Proofs.Ytdkhkhidekpfoaa
set_option linter.unusedVariables false
set_option linter.unusedSimpArgs false
set_option maxHeartbeats 400000
set_option maxRecDepth 100000
namespace Go.Proofs.Ytdkhkhidekpfoaa
open Go Go.TL
def opB (v:List Bool) (op x:Int) (bs:List Bool):Bool:=
 if op=3 then decide (0≤x)&&v.getD x.toNat false
 else if op=4 then (match bs with|[]=>false|b :: _=>!b)
 else if op=5 then bs.all id
 else if op=6 then bs.any id
 else decide (op=2)
mutual
def evE (v:List Bool):Expr→Bool
 | ⟨op,x,l⟩=>opB v op x (evL v l)
def evL (v:List Bool):List Expr→List Bool
 | []=>[]
 | e :: r=>evE v e :: evL v r
end
mutual
def dpE:Expr→Nat
 | ⟨_,_,l⟩=>dpL l+1
def dpL:List Expr→Nat
 | []=>0
 | e :: r=>max (dpE e) (dpL r)
end
mutual
def szE:Expr→Nat
 | ⟨_,_,l⟩=>szL l+1
def szL:List Expr→Nat
 | []=>0
 | e :: r=>szE e+szL r
end
abbrev maxN:Nat:=9223372036854775807
mutual
def okE:Expr→Prop
 | ⟨_,_,l⟩=>l.length≤maxN∧okL l
def okL:List Expr→Prop
 | []=>True
 | e :: r=>okE e∧okL r
end
def formB (n:Int) (op x:Int) (k:Nat):Bool:=
 if op=1∨op=2 then decide (x=0∧k=0)
 else if op=3 then decide (0≤x∧x < n∧k=0)
 else if op=4 then decide (k=1∧x=0)
 else if op=5∨op=6 then decide (x=0)
 else false
mutual
def qCM (n:Int):Expr→Bool
 | ⟨op,x,l⟩=>formB n op x l.length&&qCL n l
def qCL (n:Int):List Expr→Bool
 | []=>true
 | e :: r=>qCM n e&&qCL n r
end
def ValE (n:Int) (d left:Int) (e:Expr):Prop:=qCM n e=true∧d+(dpE e:Int)≤13∧(szE e:Int)≤left
instance (n d left:Int) (e:Expr):Decidable (ValE n d left e):=by unfold ValE;infer_instance
end Go.Proofs.Ytdkhkhidekpfoaa
