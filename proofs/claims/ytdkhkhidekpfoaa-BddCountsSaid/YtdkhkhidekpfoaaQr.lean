/- Texts of this proof, joined, without what it does not use. No condition. -/
import Derived.Deep.CondSized
import Derived.JoinedCond
import Derived.Test.YtdkhkhidekpfoaaQq

namespace Go.TL
open Go.ChangeShapes Go.WideShapes Go.RowKit Go.Deep Go.ChangeAt
mutual
def D.bulk:D->Nat
  | .str s=>s.size+1
  | .agg cs=>D.bulks cs+1
  | .sl _ es=>D.bulks es+1
  | _=>1
def D.bulks:List D->Nat
  | []=>0
  | d :: r=>d.bulk+D.bulks r
end
mutual
def sK {H:Type}:DataW H->Nat
  | .lit (.string bytes)=>bytes.length+1
  | .lit _=>1
  | .nil=>1
  | .ptr d=>sK d+1
  | .slice elems spare=>qM elems+qM spare+1
  | .agg parts=>qM parts+1
  | .iface _ d=>sK d+1
  | .map entries=>yD entries+1
  | .held _=>1
def qM {H:Type}:List (DataW H)->Nat
  | []=>0
  | d :: r=>sK d+qM r
def yD {H:Type}:List (Lit×DataW H)->Nat
  | []=>0
  | x :: r=>bulkWx x+yD r
def bulkWx {H:Type}:Lit×DataW H->Nat
  | (.string bytes,d)=>bytes.length+sK d+1
  | (_,d)=>sK d+1
end
variable {P:Program} {H:Type} {enc:TypeId×Value->H} {w:World} {base:Nat} {spare:Nat->Bool} {held:Bool}
end Go.TL
set_option linter.unusedVariables false
set_option linter.unusedSimpArgs false
set_option maxHeartbeats 400000
set_option maxRecDepth 100000
namespace Go.Proofs.Ytdkhkhidekpfoaa
open Go Go.TL
mutual
theorem yU:∀ e:Ac,szE e<=e.Ah.bulk
 | ⟨a,b,c⟩=>by
  have:=qQ c;simp only [szE,Ac.Ah,D.bulk,D.bulks];omega
theorem qQ:∀ l:List Ac,szL l<=D.bulks (Ac.Ag l)
 | []=>by simp [szL]
 | e :: r=>by
  have:=yU e;have:=qQ r;simp only [szL,Ac.Ag,D.bulks];omega
end
mutual
theorem dp_sz:∀ e:Ac,dpE e<=szE e
 | ⟨a,b,c⟩=>by
  have:=xU c;simp only [szE,dpE];omega
theorem xU:∀ l:List Ac,dpL l<=szL l
 | []=>by simp [szL,dpL]
 | e :: r=>by
  have:=dp_sz e;have:=xU r;simp only [szL,dpL];omega
end
theorem vZ {D:List Aa} (h:WfD D) {N:Nat} (hall:∀ (i:Nat) (n:Aa),D[i]?=some n->n.var < (N:Int)) (F:Int×List Bool->Option ((Int×List Bool) ⊕ List Bool))
  (hF:∀ x b,InD D x->b.length=N->F (x,b)=if 1 < x then (match D[(x - 2).toNat]? with|some n=>(if n.lo=0 then some (.inl (n.hi,b.set n.var.toNat true)) else some (.inl (n.lo,b)))|none=>none) else some (.inr b)):
  ∀ (f:Nat) (x:Int) (b:List Bool),InD D x->b.length=N->x<=(f:Int)->eI F (f+1) (x,b)=some (lH D f x b)
 | 0,x,b,hx,hb,hf=>by
  simp only [eI];rw [hF x b hx hb,if_neg (by omega)];rfl
 | f+1,x,b,hx,hb,hf=>by
  have ih:=vZ h hall F hF f;rw [eI,hF x b hx hb];by_cases h1:1 < x
  ·obtain ⟨n, hn⟩ := hx.get (by omega);have hlo:=h.lo _ n hn;have hhi:=h.hi _ n hn;have hx1:=hx.2;rw [if_pos h1,hn];unfold lH;rw [if_neg (by omega),hn];dsimp only;by_cases hz:n.lo=0
   ·rw [if_pos hz, if_neg (by simp [hz])];exact ih n.hi _ ⟨hhi.1,by omega⟩ (by rw [List.length_set];exact hb) (by omega)
   rw [if_neg hz,if_pos hz];exact ih n.lo _ ⟨hlo.1,by omega⟩ hb (by omega)
  rw [if_neg h1,qP D (by omega)]
theorem vU {d:Ab} (ho:NOK d.nodes) (h:ValidD d) {N:Nat} (hN:N<=64) (hall:∀ (i:Nat) (n:Aa),d.nodes[i]?=some n->n.var < (N:Int)) (h0:d.root≠0):bX d (N:Int)=some (cC d.nodes N d.root 0,true):=by
 obtain⟨v,e,hv⟩:=kM ho;have hl:=h.1;have hw:=h.2.1.1;have hr:=h.root;have hv1:v=true:=hv.2 h;subst hv1
 have hbel:(d.nodes.all λn=>decide (n.var < (N:Int)))=true:=by
  rw [zQT];intro n hn;obtain⟨i,hi⟩:=List.getElem?_of_mem hn;exact decide_eq_true (hall i n hi)
 unfold bX;rw [if_neg (by omega),if_neg (by omega),e,aA,if_neg (by simp),iA (by omega),hbel,aA,if_neg (by simp),decide_eq_false h0,aA,if_neg (by simp),aB (by omega),Int.toNat_natCast];unfold bR;obtain⟨f,hf⟩:∃ f,aO=f+1:=⟨73786976294838206463,rfl⟩;have hff:f=73786976294838206463:=by unfold aO at hf;omega
 rw [hf,vZ hw hall _ (λx b hx hb=>?_) f d.root (List.replicate N false) hr List.length_replicate (by have:=hr.2;omega),aA]
 ·have := mN hw N f 0 d.root [] hr (qE hw d.root) (by omega) (fun i n hn => by have := hall i n hn; omega) rfl (by have := hr.2; omega);simp only [List.nil_append] at this;rw [this];rfl
 dsimp only;by_cases h1:1 < x
 ·obtain ⟨n, hn⟩ := hx.get (by omega);have hb2:=hall _ n hn;have hb1:=(hw.vars _ n hn).1;rw [if_pos h1,if_pos h1,aB (hx.i64 (by omega)).1,bM (by omega) hn,hn];dsimp only;by_cases hz:n.lo=0
  ·rw [if_pos hz,if_pos hz,bM hb1 (zQR (by omega))]
  rw [if_neg hz,if_neg hz]
 rw [if_neg h1,if_neg h1];rfl
theorem oS {d:Ab} (h:ValidD d) (hw:fB d.nodes<=10):bO d=some ((aP (fB d.nodes).toNat).filter (fnD d.nodes d.root 0)):=by
 have h0:=sT d.nodes;have hl:=h.1;obtain⟨k,hk⟩:∃ k:Nat,fB d.nodes=(k:Int):=⟨(fB d.nodes).toNat,by omega⟩;have hll:=rQ (N:=k) (by omega);unfold bO;rw [h.width,aA,hk,yM (by omega),aA,Int.toNat_natCast];rw [kC (b:=([]:List (List Bool))) (aP k).length (λi=>((aP k).take i).filter (fnD d.nodes d.root 0)) (o:=(aP k).filter (fnD d.nodes d.root 0)) rfl (by omega) ?_ ?_]
 ·rfl
 ·intro i hi;dsimp only;have hq:(aP k).take (i+1)=(aP k).take i++[(aP k)[i]]:=by rw [List.take_add_one,zQR hi];rfl
  have hfl:(((aP k).take i).filter (fnD d.nodes d.root 0)).length<=536870912:=Nat.le_trans (List.length_filter_le _ _) (by rw [List.length_take];omega);rw [if_pos (by omega),cQ (zQR hi),wB h.2.1.1 (by omega) h.root,aA,hq,List.filter_append]
  cases hc:fnD d.nodes d.root 0 (aP k)[i] with
  | true=>
   have e1:[(aP k)[i]].filter (fnD d.nodes d.root 0)=[(aP k)[i]]:=by simp [hc]
   rw [if_pos rfl,e1,aB (by rw [zQL,List.length_singleton];omega),aB (by unfold I64;omega)]
  | false=>
   have e1:[(aP k)[i]].filter (fnD d.nodes d.root 0)=[]:=by simp [hc]
   rw [if_neg (by simp),e1,List.append_nil,aB (by unfold I64;omega)]
 dsimp only;rw [if_neg (by omega),List.take_length];rfl
theorem lC {D:List Aa} {p:Int} (h0:0<=p):(D.all λn=>decide (n.var < p))=decide (fB D<=p):=by
 rw [Bool.eq_iff_iff,zQT,decide_eq_true_iff];constructor
 ·intro h;exact vY h0 λn hn=>of_decide_eq_true (h n hn)
 intro h n hn;obtain⟨i,hi⟩:=List.getElem?_of_mem hn;exact decide_eq_true (by have:=sU hi;omega)
theorem Leasts {d:Ab} {p:Int} (ho:NOK d.nodes) (hl:d.nodes.length<=200) (hs:ValidD d->fB d.nodes<=10):∃ r,bX d p=some r/\bP d p=some r/\r.1.length<=64:=by
 obtain⟨v,e1,hv⟩:=kM ho;obtain⟨u,e2,hu⟩:=pI ho;have huv:u=v:=by rw [Bool.eq_iff_iff,hu,hv]
 subst huv;by_cases hp0:p < 0
 ·refine⟨([],false),?_,?_,Nat.zero_le _⟩
  ·unfold bX;rw [if_pos hp0,aA,if_pos rfl]
  unfold bP;rw [e2,aA]
  cases u with
  | false=>rw [if_pos (by rfl),aA,if_pos rfl]
  | true=>rw [if_neg (by simp),if_pos hp0,aA,if_pos rfl]
 by_cases hp64:64 < p
 ·refine⟨([],false),?_,?_,Nat.zero_le _⟩
  ·unfold bX;rw [if_neg hp0,if_pos hp64,aA,if_pos rfl]
  unfold bP;rw [e2,aA]
  cases u with
  | false=>rw [if_pos (by rfl),aA,if_pos rfl]
  | true=>rw [if_neg (by simp),if_neg hp0,if_pos hp64,aA,if_pos rfl]
 cases u with
 | false=>
  refine⟨([],false),?_,?_,Nat.zero_le _⟩
  ·unfold bX;rw [if_neg hp0,if_neg hp64,e1,aA,if_pos (by rfl),aA,if_pos rfl]
  unfold bP;rw [e2,aA,if_pos (by rfl),aA,if_pos rfl]
 | true=>
  have hval:=hv.1 rfl;have hw10:=hs hval;have hw0:=sT d.nodes;by_cases hpw:p < fB d.nodes
  ·refine⟨([],false),?_,?_,Nat.zero_le _⟩
   ·unfold bX;rw [if_neg hp0,if_neg hp64,e1,aA,if_neg (by simp),iA (by omega),aA,lC (by omega),decide_eq_false (by omega),if_pos (by rfl),aA,if_pos rfl]
   unfold bP;rw [e2,aA,if_neg (by simp),if_neg hp0,if_neg hp64,hval.width,aA,aA,decide_eq_true hpw,if_pos rfl]
  obtain⟨k,hk⟩:∃ k:Nat,fB d.nodes=(k:Int):=⟨(fB d.nodes).toNat,by omega⟩;obtain⟨j,hj⟩:∃ j:Nat,p=((k+j:Nat):Int):=⟨(p - fB d.nodes).toNat,by omega⟩;have hlw:=hval.2.1.1;have hallk:∀ (i:Nat) (n:Aa),d.nodes[i]?=some n->n.var < (k:Int):=λi n hn=>by have:=sU hn;omega
  have hrl:=vB hlw hallk (x:=d.root) hval.root (j:=j) (by omega)
  have e3:bP d p=aD (bO d) λr9=>
    if (r9.length:Int)=(0:Int) then
     some (([]:List Bool),false)
    else
     bH r9 (0:Int) λe11=>
     aD (bB d) λr12=>
     aC (I64 (p - r12)) <|
     aC (0<=(p - r12)/\(e11++List.replicate ((p - r12)).toNat false).length<=1000000000) <|
     some ((e11++List.replicate ((p - r12)).toNat false),true):=by
   rw [bP,e2,aA,if_neg (by simp),if_neg hp0,if_neg hp64,hval.width,aA,aA,decide_eq_false hpw,if_neg (by simp)]
  rw [e3,oS hval hw10,aA,hval.width,hk,Int.toNat_natCast];rw [hj] at hp0 hp64 ⊢;by_cases hr0:d.root=0
  ·rw [if_pos hr0] at hrl
   have hnil:(aP k).filter (fnD d.nodes d.root 0)=[]:=by
    cases hf:(aP k).filter (fnD d.nodes d.root 0) with
    | nil=>rfl
    | cons a r=>rw [hf] at hrl;cases hrl
   refine⟨([],false),?_,?_,Nat.zero_le _⟩
   ·unfold bX;rw [if_neg hp0,if_neg hp64,e1,aA,if_neg (by simp),iA (by omega),aA,lC (by omega),decide_eq_true (by omega),if_neg (by simp),decide_eq_true hr0,aA,if_pos rfl]
   rw [hnil];rfl
  rw [if_neg hr0] at hrl;refine⟨_,vU ho hval (N:=k+j) (by omega) (λi n hn=>by have:=hallk i n hn;omega) hr0,?_,by rw [fQ];omega⟩
  cases hf:(aP k).filter (fnD d.nodes d.root 0) with
  | nil=>rw [hf] at hrl;cases hrl
  | cons a r=>
   rw [hf] at hrl;have hla:a++List.replicate j false=cC d.nodes (k+j) d.root 0:=by simpa using hrl
   have hsub:(((k+j:Nat):Int) - (k:Int))=(j:Int):=by omega
   rw [if_neg (by rw [List.length_cons];omega),bM (i:=0) (by omega) (e:=a) rfl,aA,hsub,Int.toNat_natCast,aB (by unfold I64;omega),hla,aB ⟨by omega,by rw [fQ];omega⟩]
theorem Counts {d:Ab} {p:Int} (ho:NOK d.nodes) (hl:d.nodes.length<=200) (hs:ValidD d->fB d.nodes<=10):∃ r,cD d p=some r/\bY d p=some r:=by
 obtain⟨v,e1,hv⟩:=kM ho;obtain⟨u,e2,hu⟩:=pI ho;have huv:u=v:=by rw [Bool.eq_iff_iff,hu,hv]
 subst huv;by_cases hp:p < 0\/62 < p
 ·have hc : ((decide (p < (0 : Int))) || (decide ((62 : Int) < p))) = true := by simpa using hp
  refine⟨(0,2),?_,?_⟩
  ·unfold cD;rw [if_pos hc]
  unfold bY;rw [if_pos hc]
 have hc:¬ ((decide (p < (0:Int)))||(decide ((62:Int) < p)))=true:=by simpa using hp
 cases u with
 | false=>
  refine⟨(0,1),?_,?_⟩
  ·unfold cD;rw [if_neg hc,e1,aA,if_pos (by rfl),aA,if_pos rfl]
  unfold bY;rw [if_neg hc,e2,aA,if_pos (by rfl),aA,if_pos rfl]
 | true=>
  have hval:=hv.1 rfl;have hw10:=hs hval;have hw0:=sT d.nodes;by_cases hpw:p < fB d.nodes
  ·refine⟨(0,1),?_,?_⟩
   ·unfold cD;rw [if_neg hc,e1,aA,if_neg (by simp),iA (by omega),aA,lC (by omega),decide_eq_false (by omega),aA,if_pos (by rfl)]
   unfold bY;rw [if_neg hc,e2,aA,if_neg (by simp),hval.width,aA,aA,decide_eq_true hpw,if_pos rfl]
  obtain⟨k,hk⟩:∃ k:Nat,fB d.nodes=(k:Int):=⟨(fB d.nodes).toNat,by omega⟩;obtain⟨j,hj⟩:∃ j:Nat,p=((k+j:Nat):Int):=⟨(p - fB d.nodes).toNat,by omega⟩;have hlw:=hval.2.1.1;have hallk:∀ (i:Nat) (n:Aa),d.nodes[i]?=some n->n.var < (k:Int):=λi n hn=>by have:=sU hn;omega
  have hrc:=vC hlw hallk (x:=d.root) hval.root j;have h62:cR (fnD d.nodes d.root 0) (k+j)<=4611686018427387904:=Nat.le_trans (mG _ _) (Nat.le_trans (Nat.pow_le_pow_right (by omega) (show k+j<=62 by omega)) (by decide));refine⟨_,vV ho hval (vars:=p) (by omega) (by omega) (λi n hn=>by have:=hallk i n hn;omega),?_⟩;rw [hj,Int.toNat_natCast];rw [hj] at hc hpw;unfold bY;rw [if_neg hc,e2,aA,if_neg (by simp),hval.width,aA,aA,decide_eq_false hpw,if_neg (by simp),oS hval hw10,aA,aA,hk,Int.toNat_natCast];generalize hm:((aP k).filter (fnD d.nodes d.root 0)).length=m at hrc;have hpow:∀ i,i<=j->m * 2 ^ i<=4611686018427387904:=λi hi=>Nat.le_trans (Nat.mul_le_mul_left _ (Nat.pow_le_pow_right (by omega) hi)) (by rw [hrc];exact h62);have hm0:m<=4611686018427387904:=by simpa using hpow 0 (Nat.zero_le _)
  rw [IntWalk.u64_in _ (by omega)];rw [fG (s:=((m:Int),(k:Int))) (λi=>(((m * 2 ^ i:Nat):Int),((k+i:Nat):Int))) j (o:=((m * 2 ^ j:Nat):Int)) (by simp) (by omega) ?_ ?_]
  ·rw [aA,hrc]
  ·intro i hi;dsimp only;have h1:=hpow (i+1) (by omega);have h2:((m * 2 ^ i:Nat):Int) * 2=((m * 2 ^ (i+1):Nat):Int):=by rw [Nat.pow_succ,<- Nat.mul_assoc];omega
   rw [if_pos (by omega),aB (by unfold I64;omega),h2];generalize m * 2 ^ (i+1)=q at h1;rw [IntWalk.u64_in _ (by omega)];rfl
  dsimp only;rw [if_neg (by omega)];rfl
theorem tW {d:Ab} {p:Int} (wd:d.Wf) (wp:I64 p):cV d p=some true:=by
 have ho:=nok_wf wd;obtain⟨s,es,hs⟩:=wK (d:=d);unfold cV;rw [es,aA]
 cases s with
 | false=>rw [if_pos (by rfl),uW];rfl
 | true=>
  obtain⟨hl,hw⟩:=hs rfl;obtain⟨⟨l,b⟩,e1,e2,e5⟩:=Leasts (p:=p) ho hl hw;obtain⟨⟨n,c⟩,e3,e4⟩:=Counts (p:=p) ho hl hw;have hll:l.length<=9223372036854775807:=Nat.le_trans e5 (by decide);rw [if_neg (by simp),e1,aA];dsimp only;rw [e2,aA];dsimp only;rw [e3,aA];dsimp only;rw [e4,aA];dsimp only;rw [if_neg (by simp)];rw [fG (ρ:=Unit ⊕ Bool) (s:=(0:Int)) (λi=>(i:Int)) l.length (o:=.inl ()) rfl hll ?_ ?_]
  ·rw [dR,uW];rfl
  ·intro i hi;rw [if_pos (by omega),cQ (zQR hi),cQ (zQR hi),if_neg (by simp),aB (by unfold I64;omega)];rfl
  rw [if_neg (by omega)];rfl
end Go.Proofs.Ytdkhkhidekpfoaa
