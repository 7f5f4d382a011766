/- Texts of this proof, joined, without what it does not use. No condition. -/
import Derived.Test.YtdkhkhidekpfoaaQo

set_option linter.unusedVariables false
set_option linter.unusedSimpArgs false
set_option maxHeartbeats 400000
namespace Go.Proofs.Ytdkhkhidekpfoaa
open Go Go.TL
theorem mW {D:List Node}:∀ {k:Nat} {f:Fn} {v x:Int},Has D k f v x→0≤x∧x < (D.length:Int)+2
 | 0,f,v,x,h=>by
  have h:x=aY (f []):=h;rw [h];unfold aY;split<;>omega
 | k+1,f,v,x,⟨lo,hi,h1,h2,h3⟩=>by
  split at h3
  ·rw [h3];exact mW h1
  have:=(zQQ.1 h3.2).1;omega
structure RelM (m:Merger) (s:MS):Prop where
 nodes:m.nodes=⟨eI s.nodes,s.nodes⟩
 full:m.full=s.full
 keys:(m.done.map (·.1)).Nodup
 okp:∀ p∈m.done,Pair.okb p.1=true
 done:∀ x y,bT m.done ⟨x,y⟩=s.done (x,y)
 ok:NOK s.nodes
theorem pD {m:Merger} {A B:Diagram} {all:Bool} (ha:m.a=A) (hb:m.b=B) (hc:m.all=all):(⟨A,B,all,m.nodes,m.done,m.full⟩:Merger)=m:=by
 subst ha hb hc;rfl
theorem zN {m:Merger} {L:List Node} {n:Node} {F:Bool} {T:List (Pair×Int)} (hm:m.nodes=⟨eI L,L⟩) (hn:L.Nodup) (ho:NOK L) (hk:Node.ok n) (hl:L.length+1≤1000000000):
  (if n.hi = n.lo then some (n.lo, F, m.nodes.index, m.nodes.list, T)
   else aD (aL m n) fun (r34, r35) =>
    aC (I64 (r34 + (2 : Int))) <|
    some ((r34 + (2 : Int)), F, r35.nodes.index, r35.nodes.list, T)) = some ((bH L n).2, F, eI (bH L n).1, (bH L n).1, T) := by
 unfold bH;by_cases h:n.lo=n.hi
 ·rw [if_pos h.symm,if_pos h,hm]
 rw [if_neg (fun e => h e.symm), if_neg h, yA hm hn ho hk hl, aA]
 cases hf:L.findIdx? (λm=>decide (m=n)) with
 | some j=>
  rw [List.findIdx?_eq_some_iff_getElem] at hf;obtain⟨hj,_,_⟩:=hf;dsimp only;rw [aB (by unfold I64;omega),hm]
 | none=>
  dsimp only;rw [aB (by unfold I64;omega)]
theorem pE {A B:Diagram} {all:Bool} {N:Int} (hA:WfD A.nodes) (hB:WfD B.nodes) (hN:N≤64) (hAN:∀ (i:Nat) (n:Node),A.nodes[i]?=some n→n.var < N) (hBN:∀ (i:Nat) (n:Node),B.nodes[i]?=some n→n.var < N) (lA:A.nodes.length≤1000000) (lB:B.nodes.length≤1000000):
  ∀ (f:Nat) (m:Merger) (s:MS) (x y v:Int) (k:Nat),65≤(f:Int)+min (aH A.nodes x) (aH B.nodes y)→InD A.nodes x→InD B.nodes y→MOk A.nodes B.nodes all N s→v+k=N→v≤aH A.nodes x→v≤aH B.nodes y→s.nodes.length+2 ^ k≤20001→RelM m s→m.a=A→m.b=B→m.all=all→
  ∃ m',aW f m ⟨x,y⟩=some ((dB A.nodes B.nodes all f s x y).2,m')∧RelM m' (dB A.nodes B.nodes all f s x y).1∧m'.a=A∧m'.b=B∧m'.all=all
 | 0,m,s,x,y,v,k,hf,hx,hy,hs,hv,h1,h2,hlen,hR,ha,hb,hc=>by
  have:=dV hA x;omega
 | f+1,m,s,x,y,v,k,hf,hx,hy,hs,hv,h1,h2,hlen,hR,ha,hb,hc=>by
  have ix:=(hx.i64 (by omega)).2;have iy:=(hy.i64 (by omega)).2;have hpk:Pair.okb ⟨x,y⟩=true:=decide_eq_true ⟨ix,iy⟩;have hko:dJ Pair.okb m.done ⟨x,y⟩:=⟨hR.keys,hR.okp,hpk⟩;have hdo:(if (!(m.all))=true then some ((1:Int),(0:Int)) else some ((0:Int),(1:Int)))=some (aY (!all),aY all):=by rw [hc];cases all<;>rfl
  have nf:¬ s.full=true:=by rw [hs.part];exact Bool.false_ne_true
  have ng:¬ m.full=true:=by rw [hR.full];exact nf
  unfold dB aW;rw [if_neg nf,if_neg ng,hdo,aA];dsimp only;by_cases hd:x=aY (!all)∨y=aY (!all)
  ·have hd' : (decide (x = aY (!all)) || decide (y = aY (!all))) = true := by simpa using hd
   rw [if_pos hd,if_pos hd'];exact⟨m,rfl,hR,ha,hb,hc⟩
  have hd' : ¬ (decide (x = aY (!all)) || decide (y = aY (!all))) = true := by simpa using hd
  rw [if_neg hd,if_neg hd'];by_cases ho:x=aY all∧y=aY all
  ·have ho' : (decide (x = aY all) && decide (y = aY all)) = true := by simpa using ho
   rw [if_pos ho,if_pos ho'];exact⟨m,rfl,hR,ha,hb,hc⟩
  have ho' : ¬ (decide (x = aY all) && decide (y = aY all)) = true := by simpa using ho
  rw [if_neg ho,if_neg ho',aB hko,hR.done]
  cases hm:s.done (x,y) with
  | some r=>
   dsimp only;exact⟨m,rfl,hR,ha,hb,hc⟩
  | none=>
   dsimp only;rw [if_neg (by simp)];have hvA:=dV hA x;have hvB:=dV hB y
   have hlt:min (aH A.nodes x) (aH B.nodes y) < N:=by
    rcases Int.lt_or_le x 2 with hx2|hx2
    ·rcases Int.lt_or_le y 2 with hy2|hy2
     ·exfalso;have cx:=(mB hx hx2).1;have cy:=(mB hy hy2).1;have bb:∀ b:Bool,aY b=aY all∨aY b=aY (!all):=λb=>by cases b<;>cases all<;>simp [aY]
      rcases bb (decide (x=1)) with e1|e1
      ·rcases bb (decide (y=1)) with e2|e2
       ·exact ho ⟨cx.trans e1,cy.trans e2⟩
       exact hd (.inr (cy.trans e2))
      exact hd (.inl (cx.trans e1))
     obtain⟨n,hn⟩:=hy.get hy2;have:aH B.nodes y=n.var:=by unfold aH;rw [if_neg (by omega),hn]
     have:=hBN _ n hn;omega
    obtain⟨n,hn⟩:=hx.get hx2;have:aH A.nodes x=n.var:=by unfold aH;rw [if_neg (by omega),hn]
    have:=hAN _ n hn;omega
   have hw0:0≤min (aH A.nodes x) (aH B.nodes y):=by
    have:=qAO hA x;have:=qAO hB y;omega
   rw [ha,hb,hc,iI hx (by omega),aA,iI hy (by omega),aA];obtain⟨w,hw⟩:∃ w,w=min (aH A.nodes x) (aH B.nodes y):=⟨_,rfl⟩;rw [← hw];rw [← hw] at hlt hf hw0;rw [nN hx (by omega) (by omega),aA,nN hy (by omega) (by omega),aA];obtain⟨d,hdv⟩:∃ d:Nat,w=v+d:=⟨(w - v).toNat,by omega⟩;obtain⟨q,hq⟩:∃ q:Nat,k=d+(q+1):=⟨k - d - 1,by omega⟩;have KA:=oA hA hx (w:=w) (by omega) (by omega);have KB:=oA hB hy (w:=w) (by omega) (by omega);generalize cR A.nodes x w=ka at KA;generalize cR B.nodes y w=kb at KB;obtain⟨xa,xb⟩:=ka;obtain⟨ya,yb⟩:=kb;dsimp only at KA KB ⊢;have hpow:2 ^ (q+1)≤2 ^ k:=Nat.pow_le_pow_right (by omega) (by omega);rw [Nat.pow_succ] at hpow;have h2q:0 < 2 ^ q:=Nat.pos_of_ne_zero (by simp);have n1:=fR (all:=all) hA hB hN hAN hBN f s xa ya (w+1) q (by omega) KA.1 KB.1 hs (by omega) KA.2.2.1 KB.2.2.1 (by omega);obtain⟨m1,e1,R1,a1,b1,c1⟩:=pE hA hB hN hAN hBN lA lB f m s xa ya (w+1) q (by omega) KA.1 KB.1 hs (by omega) KA.2.2.1 KB.2.2.1 (by omega) hR ha hb hc;rw [e1,aA];dsimp only;generalize dB A.nodes B.nodes all f s xa ya=sa at n1 R1;have l1:=eH q s.nodes (fn2 A.nodes B.nodes (opQ all) xa ya (w+1)) (w+1);have g1:=mW (bY q s.nodes (fn2 A.nodes B.nodes (opQ all) xa ya (w+1)) (w+1));rw [← n1.1] at l1 g1;dsimp only at l1 g1;rw [pD a1 b1 c1];have n2:=fR (all:=all) hA hB hN hAN hBN f sa.1 xb yb (w+1) q (by omega) KA.2.1 KB.2.1 n1.2 (by omega) KA.2.2.2.1 KB.2.2.2.1 (by omega);obtain⟨m2,e2,R2,a2,b2,c2⟩:=pE hA hB hN hAN hBN lA lB f m1 sa.1 xb yb (w+1) q (by omega) KA.2.1 KB.2.1 n1.2 (by omega) KA.2.2.2.1 KB.2.2.2.1 (by omega) R1 a1 b1 c1;rw [e2,aA];dsimp only;generalize dB A.nodes B.nodes all f sa.1 xb yb=sb at n2 R2;have l2:=eH q sa.1.nodes (fn2 A.nodes B.nodes (opQ all) xb yb (w+1)) (w+1);have g2:=mW (bY q sa.1.nodes (fn2 A.nodes B.nodes (opQ all) xb yb (w+1)) (w+1));rw [← n2.1] at l2 g2;dsimp only at l2 g2;have hpre:=bB q sa.1.nodes (fn2 A.nodes B.nodes (opQ all) xb yb (w+1)) (w+1);rw [← n2.1] at hpre;have hple:=hpre.length_le;dsimp only at hple;rw [pD a2 b2 c2];have hok:Node.ok ⟨w,sa.2,sb.2⟩:=⟨by unfold I64;dsimp only;omega,by unfold I64;dsimp only;omega,by unfold I64;dsimp only;omega⟩;have st:=zN (m:=m2) (n:=⟨w,sa.2,sb.2⟩) (F:=m2.full) (T:=m2.done) R2.nodes n2.2.nodup R2.ok hok (by omega);dsimp only at st;rw [st,aA];dsimp only;have hal:=mH sb.1.nodes ⟨w,sa.2,sb.2⟩
   have hnok:NOK (bH sb.1.nodes ⟨w,sa.2,sb.2⟩).1:=by
    unfold bH;split
    ·exact R2.ok
    split
    ·exact R2.ok
    exact xF R2.ok hok
   rw [if_neg (by omega),aB ⟨R2.keys,R2.okp,hpk⟩];refine⟨_,rfl,⟨rfl,?_,xZ R2.keys _ _,λp hp=>?_,λx' y'=>?_,hnok⟩,rfl,rfl,rfl⟩
   ·dsimp only;rw [R2.full,n2.2.part,Bool.false_or];exact (decide_eq_false (by omega)).symm
   ·rcases wY hp with rfl|hp
    ·exact hpk
    exact R2.okp p hp
   dsimp only;rw [yO,R2.done];by_cases he:(x',y')=(x,y)
   ·rw [if_pos he,if_pos (by obtain⟨rfl,rfl⟩:=Prod.mk.inj he;rfl)]
   rw [if_neg he,if_neg (λe=>he (by cases e;rfl))]
theorem wD {N:Nat} {f g:Fn} {a b:Diagram} (hN:N≤14) (hA:MakeOk N f a.nodes a.root) (hB:MakeOk N g b.nodes b.root) (all:Bool):dR a b all=some (⟨(bV N λl=>opQ all (f l) (g l)).1,(bV N λl=>opQ all (f l) (g l)).2⟩,true):=by
 have hp:2 ^ N≤2 ^ 14:=Nat.pow_le_pow_right (by omega) hN;have la:=hA.len;have lb:=hB.len;have m0:MOk a.nodes b.nodes all (N:Int) ms0:=⟨List.nodup_nil,rfl,λx y r h=>by cases h⟩;have mm:=vU (q:=aF) hN hA hB all (by unfold aF;omega)
 obtain ⟨m', e, R, _, _, _⟩ := pE (all := all) (N := (N : Int)) hA.wf hB.wf (by omega) hA.vars hB.vars (by omega) (by omega) aF ⟨a, b, all, ⟨[], []⟩, [], false⟩ ms0 a.root b.root 0 N
  (by have:=hA.low;have:=hB.low;unfold aF;omega) hA.root hB.root m0 (by omega) hA.low hB.low (by show 0+2 ^ N≤20001;omega)
  ⟨rfl,rfl,List.nodup_nil,λp h=>(by cases h),λx y=>rfl,xE⟩ rfl rfl rfl
 unfold dR eL;rw [e,aA];dsimp only;rw [if_neg (by rw [R.full,mm.2];exact Bool.false_ne_true),← mm.1,R.nodes]
def dK (D:List Node) (i:Nat) (n:Node):Prop:=0≤n.var∧n.var < 64∧n.lo≠n.hi∧(0≤n.lo∧n.lo < (i:Int)+2∧n.var < aH D n.lo)∧(0≤n.hi∧n.hi < (i:Int)+2∧n.var < aH D n.hi)
instance (D:List Node) (i:Nat) (n:Node):Decidable (dK D i n):=by unfold dK;infer_instance
def qW (D:List Node) (i:Nat):Bool:=match D[i]? with
 | some n=>!decide (dK D i n)||decide (n∈D.take i)
 | none=>false
theorem mE {D:List Node} {i:Nat} {n:Node} (h:D[i]?=some n):qW D i=(!decide (dK D i n)||decide (n∈D.take i)):=by unfold qW;rw [h]
theorem hO {D:List Node}:∀ (i:Nat),(∀ j,j < i→qW D j=false)→(D.take i).Nodup
 | 0,_=>by simp
 | i+1,h=>by
  rw [List.take_add_one]
  cases hn:D[i]? with
  | none=>simpa using hO i λj hj=>h j (by omega)
  | some n=>
   have hb:=h i (by omega);rw [mE hn,Bool.or_eq_false_iff] at hb;have hni:n∉D.take i:=by simpa using hb.2
   simp only [Option.toList_some];rw [List.nodup_append];refine⟨hO i λj hj=>h j (by omega),by simp,λa ha b hb e=>?_⟩;rw [List.mem_singleton.1 hb] at e;exact hni (e ▸ ha)
theorem qCN {D:List Node} (h:∀ j,j < D.length→qW D j=false):WfD D∧D.Nodup:=by
 have hg:∀ (i:Nat) (n:Node),D[i]?=some n→dK D i n:=λi n hn=>by
  have hb:=h i (zQQ.1 hn).1;rw [mE hn,Bool.or_eq_false_iff] at hb;simpa using hb.1
 refine⟨⟨λi n hn=>⟨(hg i n hn).1,(hg i n hn).2.1⟩,λi n hn=>(hg i n hn).2.2.2.1,λi n hn=>(hg i n hn).2.2.2.2,λi n hn=>(hg i n hn).2.2.1⟩,?_⟩;have:=hO D.length h
 rwa [List.take_length] at this
theorem qBS {D:List Node} (h:WfD D) (hn:D.Nodup):∀ j,j < D.length→qW D j=false:=λj hj=>by
 have e:=zQR hj;rw [mE e,Bool.or_eq_false_iff];refine⟨by rw [decide_eq_true (show dK D j D[j] from ⟨(h.vars j _ e).1,(h.vars j _ e).2,h.ne j _ e,h.lo j _ e,h.hi j _ e⟩)];rfl,?_⟩;rw [decide_eq_false_iff_not];intro hm;obtain⟨q,hq,he⟩:=List.getElem_of_mem hm;simp only [List.length_take] at hq;rw [List.getElem_take] at he;have:=(List.getElem_inj hn).1 he;omega
theorem any_bad {D:List Node}:(List.range D.length).any (qW D)=false↔WfD D∧D.Nodup:=by
 constructor
 ·intro h;rw [List.any_eq_false] at h;exact qCN λj hj=>by simpa using h j (List.mem_range.2 hj)
 rintro⟨h,hn⟩;rw [List.any_eq_false];intro j hj;rw [qBS h hn j (List.mem_range.1 hj)];simp
def ValidD (d:Diagram):Prop:=d.nodes.length≤20000∧(WfD d.nodes∧d.nodes.Nodup)∧(if d.nodes.length=0 then d.root=0∨d.root=1 else d.root=(d.nodes.length:Int)+1∧cE d.nodes aF d.root 2=some ((d.nodes.length:Int)+2))
theorem uN {d:Diagram} {i:Nat} {n:Node} {k:Int} (hn:d.nodes[i]?=some n) (hv:n.var < 64) (hl:d.nodes.length≤1000000):dS d i k=some (decide (0≤k∧k < (i:Int)+2∧n.var < aH d.nodes k)):=by
 have hi:=(zQQ.1 hn).1;unfold dS;by_cases h01:k=0∨k=1
 ·rw [if_pos (by simpa using h01)];have hvk:aH d.nodes k=64:=by unfold aH;rw [if_pos (by omega)]
  have:0≤k∧k < (i:Int)+2∧n.var < aH d.nodes k:=by rw [hvk];omega
  rw [decide_eq_true this]
 rw [if_neg (by simpa using h01)];by_cases h2:2≤k
 ·rw [if_pos h2, aB (by unfold I64; omega)];by_cases h3:k < (i:Int)+2
  ·have hkl : (k - 2).toNat < d.nodes.length := by omega
   rw [if_pos h3,aB (by unfold I64;omega),bX (by omega) (zQR hkl),cA hn,aA];have hvk:aH d.nodes k=d.nodes[(k - 2).toNat].var:=by unfold aH;rw [if_neg (by omega),zQR hkl]
   rw [hvk]
   congr 1
   simp only [decide_eq_decide];omega
  rw [if_neg h3,aA]
  congr 1
  symm;rw [decide_eq_false_iff_not];omega
 rw [if_neg h2,aA]
 congr 1
 symm;rw [decide_eq_false_iff_not];omega
theorem lY {l:List Bool} {i:Nat} (h:i < l.length):l[i]?=some (l.getD i false):=by
 rw [zQD,zQR h];rfl
theorem hJ {d:Diagram} (h:WfD d.nodes) (hl:d.nodes.length≤1000000):∀ (fu:Nat) (x:Int) (vis:List Bool) (left:Int),InD d.nodes x→x < (fu:Int)→vis.length=d.nodes.length+2→
  ∃ b v l,bD fu x vis d left=some (b,v,l)∧v.length=vis.length∧(match fG d.nodes fu x (vis,left) with|some s=>b=true∧s=(v,l)|none=>b=false)
 | 0,x,vis,left,hx,hf,hv=>by have:=hx.1;omega
 | fu+1,x,vis,left,hx,hf,hv=>by
  have hx0:=hx.1;have hx1:=hx.2;have hxl:x.toNat < vis.length:=by omega
  unfold bD fG
  have hcond:(if x < (2:Int) then some true else bG vis x λe4=>some e4)=some (decide (x < 2∨vis.getD x.toNat false=true)):=by
   by_cases h2:x < 2
   ·rw [if_pos h2];simp [h2]
   rw [if_neg h2,bX hx0 (lY hxl)];simp [h2]
  rw [hcond,aA];dsimp only;by_cases hc:x < 2∨vis.getD x.toNat false=true
  ·rw [if_pos (by simpa using hc), if_pos hc];exact⟨true,vis,left,rfl,rfl,rfl,rfl⟩
  rw [if_neg (by simpa using hc), if_neg hc]
  have h2:2≤x:=by
   rcases Int.lt_or_le x 2 with h2|h2
   ·exact absurd (.inl h2) hc
   exact h2
  obtain⟨n,hn⟩:=hx.get h2;have hlo:=h.lo _ n hn;have hhi:=h.hi _ n hn;rw [bX hx0 (lY hxl),aB (hx.i64 (by omega)).1,bX (by omega) hn,hn];dsimp only;have ilo:InD d.nodes n.lo:=⟨hlo.1,by omega⟩;have ihi:InD d.nodes n.hi:=⟨hhi.1,by omega⟩;obtain⟨b1,v1,l1,e1,w1,r1⟩:=hJ h hl fu n.lo (vis.set x.toNat true) left ilo (by omega) (by simpa using hv);rw [e1,aA];dsimp only
  cases hp1:fG d.nodes fu n.lo (vis.set x.toNat true,left) with
  | none=>
   rw [hp1] at r1;dsimp only at r1;subst r1;rw [if_pos (by rfl),aA];dsimp only;rw [if_pos rfl];exact⟨false,v1,l1,rfl,by simpa using w1,rfl⟩
  | some s1=>
   rw [hp1] at r1;dsimp only at r1;obtain⟨rfl,rfl⟩:=r1;rw [if_neg (by simp)];obtain⟨b2,v2,l2,e2,w2,r2⟩:=hJ h hl fu n.hi v1 l1 ihi (by omega) (by simpa [hv] using w1);rw [e2,aA];dsimp only;simp only [Option.bind_some]
   cases hp2:fG d.nodes fu n.hi (v1,l1) with
   | none=>
    rw [hp2] at r2;dsimp only at r2;subst r2;rw [if_pos (by rfl),aA];dsimp only;rw [if_pos rfl];exact⟨false,v2,l2,rfl,by simpa using w2.trans w1,rfl⟩
   | some s2=>
    rw [hp2] at r2;dsimp only at r2;obtain⟨rfl,rfl⟩:=r2;rw [if_neg (by simp),aA];dsimp only;simp only [Option.bind_some];by_cases hxe:x=l2
    ·rw [if_pos hxe, if_neg (by simp [hxe]), aB (by unfold I64; omega)];exact⟨true,v2,l2+1,rfl,by simpa using w2.trans w1,rfl,rfl⟩
    rw [if_neg hxe, if_pos (by simp [hxe])];exact⟨false,v2,l2,rfl,by simpa using w2.trans w1,rfl⟩
theorem vN {d:Diagram} (h:WfD d.nodes) (hl:d.nodes.length≤1000000) (hr:InD d.nodes d.root):eV d=some (decide (cE d.nodes aF d.root 2=some ((d.nodes.length:Int)+2))):=by
 unfold eV fU;have ht:((d.nodes.length:Int)+2).toNat=d.nodes.length+2:=by omega
 obtain⟨b,v,l,e,_,r⟩:=hJ h hl aF d.root (List.replicate (d.nodes.length+2) false) 2 hr (by have:=hr.2;unfold aF;omega) (by simp);have hv:=qBT h aF hr;rw [aB (by unfold I64;omega),aB (by omega),ht,e,aA];dsimp only;rw [← hv]
 cases hp:fG d.nodes aF d.root (List.replicate (d.nodes.length+2) false,2) with
 | none=>
  rw [hp] at r;dsimp only at r;subst r;rw [if_neg (by simp),aA];simp
 | some s=>
  rw [hp] at r;dsimp only at r;obtain⟨rfl,rfl⟩:=r;rw [if_pos rfl,aB (by unfold I64;omega),aA];simp
theorem mem_find {L:List Node} {n:Node}:(L.findIdx? λm=>decide (m=n))=none↔n∉L:=by
 rw [List.findIdx?_eq_none_iff];constructor
 ·intro h hm;have:=h n hm;simp at this
 intro h x hx;simp only [decide_eq_false_iff_not];exact λe=>h (e ▸ hx)
theorem uU {d:Diagram} (ho:NOK d.nodes):∃ b,dA d=some b∧(b=true↔ValidD d):=by
 unfold dA;by_cases hl:d.nodes.length≤20000
 ·rw [if_neg (by omega)];rw [yE (ρ:=(List (Node×Int)×List Node) ⊕ Bool) (b:=(([]:List (Node×Int)),([]:List Node))) d.nodes.length (λi=>(eI (d.nodes.take i),d.nodes.take i)) (qW d.nodes) (.inr false) (.inl (eI d.nodes,d.nodes)) rfl (by omega) (λi hi hb=>?_) (λhb=>?_)]
  ·cases ha:(List.range d.nodes.length).any (qW d.nodes) with
   | true=>
    refine⟨false,rfl,?_⟩;constructor
    ·intro h;cases h
    intro h;have:=any_bad.2 h.2.1;rw [ha] at this;cases this
   | false=>
    have hw:=any_bad.1 ha;rw [if_neg (by simp),aU];dsimp only;by_cases h0:d.nodes.length=0
    ·rw [if_pos (by omega)];refine⟨_,rfl,?_⟩;unfold ValidD;rw [if_pos h0];simp [hl,hw]
    rw [if_neg (by omega), aB (by unfold I64; omega)];by_cases hr:d.root=(d.nodes.length:Int)+1
    ·rw [if_pos hr, vN hw.1 (by omega) (by unfold InD; omega), aA, aA];refine⟨_,rfl,?_⟩;unfold ValidD;rw [if_neg h0,decide_eq_true_eq];exact⟨λh=>⟨hl,hw,hr,h⟩,λh=>h.2.2.2⟩
    rw [if_neg hr,aA];refine⟨_,rfl,?_⟩;unfold ValidD;rw [if_neg h0];exact⟨λh=>(by cases h),λh=>absurd h.2.2.1 hr⟩
  ·have hn:=zQR hi;have hnt:(d.nodes.take i).Nodup:=hO i hb;have hlt:(d.nodes.take i).length=i:=by simp;omega
   dsimp only;rw [if_pos (by omega),cA hn,mE hn];generalize d.nodes[i]=n at hn
   have hbad : (if n.var < (0 : Int) then some true
      else if (64 : Int) ≤ n.var then some true
       else if n.lo = n.hi then some true
        else aD (dS d i n.lo) fun r20 => if (!(r20)) = true then some true else aD (dS d i n.hi) fun r22 => some (!(r22))) = some (!decide (dK d.nodes i n)) := by
    by_cases h1:n.var < 0
    ·rw [if_pos h1,decide_eq_false (show ¬ dK d.nodes i n from λh=>by have:=h.1;omega)];rfl
    rw [if_neg h1];by_cases h2:64≤n.var
    ·rw [if_pos h2,decide_eq_false (show ¬ dK d.nodes i n from λh=>by have:=h.2.1;omega)];rfl
    rw [if_neg h2];by_cases h3:n.lo=n.hi
    ·rw [if_pos h3,decide_eq_false (show ¬ dK d.nodes i n from λh=>h.2.2.1 h3)];rfl
    rw [if_neg h3, uN hn (by omega) (by omega), aA];by_cases h4:0≤n.lo∧n.lo < (i:Int)+2∧n.var < aH d.nodes n.lo
    ·rw [decide_eq_true h4, if_neg (by simp), uN hn (by omega) (by omega), aA];rw [show decide (dK d.nodes i n)=decide (0≤n.hi∧n.hi < (i:Int)+2∧n.var < aH d.nodes n.hi) from decide_eq_decide.2 ⟨λh=>h.2.2.2.2,λh=>⟨by omega,by omega,h3,h4,h⟩⟩]
    rw [decide_eq_false h4, if_pos (by rfl), decide_eq_false (show ¬ dK d.nodes i n from fun h => h4 h.2.2.2.1)];rfl
   rw [hbad,aA]
   cases hg:decide (dK d.nodes i n) with
   | false=>rw [if_pos (by rfl),if_pos (by rfl)];rfl
   | true=>
    rw [if_neg (by simp),vQ hnt (λm hm=>ho m (List.mem_of_mem_take hm)) (ho.at hn) (by omega),aA]
    cases hf:(d.nodes.take i).findIdx? (λm=>decide (m=n)) with
    | some j=>
     have hm:n∈d.nodes.take i:=by
      rcases Classical.em (n∈d.nodes.take i) with h|h
      ·exact h
      rw [mem_find.2 h] at hf;cases hf
     rw [List.findIdx?_eq_some_iff_getElem] at hf;obtain⟨hj,_,_⟩:=hf;dsimp only;rw [if_neg (by omega),if_pos (by simp [hm])];rfl
    | none=>
     have hm:=mem_find.1 hf;dsimp only;rw [if_pos (by omega),aB (by unfold I64;omega),if_neg (by simp [hm])];have:d.nodes.take (i+1)=d.nodes.take i++[n]:=by rw [List.take_add_one,hn];rfl
     rw [this]
  dsimp only;rw [if_neg (by omega),List.take_length];rfl
 rw [if_pos (by omega)];refine⟨false,rfl,?_⟩;constructor
 ·intro h;cases h
 intro h;exact absurd h.1 hl
theorem jN:∀ (m:Nat) (l:List Int),l.Nodup→(∀ y∈l,2≤y∧y < (m:Int)+2)→l.length≤m
 | 0,l,_,h=>by
  cases l with
  | nil=>exact zQW _
  | cons x r=>have:=h x (List.mem_cons_self ..);omega
 | m+1,l,hn,h=>by
  have h1:=jN m (l.erase ((m:Int)+2)) (hn.erase _) λy hy=>by
   rw [hn.mem_erase_iff] at hy;have:=h y hy.2;have hne:=hy.1;omega
  rw [List.length_erase] at h1;split at h1<;>omega
theorem iL {D:List Node} (h:WfD D):∀ (f:Nat) (x:Int) (left:List Int),InD D x→left.Nodup→(fZ D f x left).Nodup∧∀ y∈fZ D f x left,y∈left∨2≤y∧y≤x
 | 0,x,left,hx,hn=>⟨hn,λy hy=>.inl hy⟩
 | f+1,x,left,hx,hn=>by
  unfold fZ;split
  ·exact⟨hn,λy hy=>.inl hy⟩
  split
  ·exact⟨hn,λy hy=>.inl hy⟩
  rename_i h2 hm;obtain⟨n,hn'⟩:=hx.get (by omega);have hlo:=h.lo _ n hn';have hhi:=h.hi _ n hn';have hx1:=hx.2;rw [hn'];dsimp only;have r1:=iL h f n.lo left ⟨hlo.1,by omega⟩ hn;have r2:=iL h f n.hi (fZ D f n.lo left) ⟨hhi.1,by omega⟩ r1.1
  have hxn:x∉fZ D f n.hi (fZ D f n.lo left):=λhmem=>by
   rcases r2.2 x hmem with h3|h3
   ·rcases r1.2 x h3 with h4|h4
    ·exact hm h4
    omega
   omega
  refine⟨?_,λy hy=>?_⟩
  ·rw [List.nodup_append];refine⟨r2.1,by simp,λa ha b hb e=>?_⟩;rw [List.mem_singleton.1 hb] at e;exact hxn (e ▸ ha)
  rcases zQN.1 hy with h3|h3
  ·rcases r2.2 y h3 with h4|h4
   ·rcases r1.2 y h4 with h5|h5
    ·exact .inl h5
    exact .inr (by omega)
   exact .inr (by omega)
  rw [List.mem_singleton.1 h3];exact .inr (by omega)
theorem iO {d:Diagram} (h:WfD d.nodes) (hl:d.nodes.length≤1000000):∀ (fu:Nat) (x:Int) (left:List Int),InD d.nodes x→x < (fu:Int)→left.Nodup→(∀ y∈left,2≤y∧y < (d.nodes.length:Int)+2)→cP fu d x left=some (fZ d.nodes fu x left)
 | 0,x,left,hx,hf,hn,hr=>by have:=hx.1;omega
 | fu+1,x,left,hx,hf,hn,hr=>by
  have hx1:=hx.2;have hll:=jN _ left hn hr;unfold cP fZ;by_cases h2:x < 2
  ·rw [if_pos h2,if_pos h2]
  rw [if_neg h2,if_neg h2];rw [lS (ρ:=Unit ⊕ List Int) left (λe=>decide (e=x)) (.inr left) (.inl ()) (by omega) ?_ ?_]
  ·by_cases hm:x∈left
   ·rw [if_pos (by rw [zQU]; exact ⟨x, hm, by simp⟩), if_pos hm];rfl
   rw [if_neg (by rw [zQU]; rintro ⟨y, hy, e⟩; exact hm (of_decide_eq_true e ▸ hy)), if_neg hm, aU];obtain⟨n,hn'⟩:=hx.get (by omega);have hlo:=h.lo _ n hn';have hhi:=h.hi _ n hn';have ilo:InD d.nodes n.lo:=⟨hlo.1,by omega⟩;have ihi:InD d.nodes n.hi:=⟨hhi.1,by omega⟩;have r1:=iL h fu n.lo left ilo hn;have r2:=iL h fu n.hi (fZ d.nodes fu n.lo left) ihi r1.1
   have g1:∀ y∈fZ d.nodes fu n.lo left,2≤y∧y < (d.nodes.length:Int)+2:=λy hy=>by
    rcases r1.2 y hy with h3|h3
    ·exact hr y h3
    omega
   have g2:∀ y∈fZ d.nodes fu n.hi (fZ d.nodes fu n.lo left),2≤y∧y < (d.nodes.length:Int)+2:=λy hy=>by
    rcases r2.2 y hy with h3|h3
    ·exact g1 y h3
    omega
   have hl2:=jN _ _ r2.1 g2;rw [aB (hx.i64 (by omega)).1,bX (by omega) hn',hn',iO h hl fu n.lo left ilo (by omega) hn hr,aA];rw [aB (hx.i64 (by omega)).1,bX (by omega) hn',iO h hl fu n.hi _ ihi (by omega) r1.1 g1,aA,aB (by simp;omega)]
  ·intro i e he;have hi:=(zQQ.1 he).1;rw [if_pos (by omega),cA he];by_cases hex:e=x
   ·rw [if_pos hex, if_pos (by simpa using hex)];rfl
   rw [if_neg hex,if_neg (by simpa using hex),aB (by unfold I64;omega)]
  rw [if_neg (by omega)];rfl
theorem xV {d:Diagram} (h:WfD d.nodes) (hl:d.nodes.length≤1000000) {x:Int} (hx:InD d.nodes x):gW d x []=some (fZ d.nodes aF x []):=by
 unfold gW;exact iO h hl aF x [] hx (by have:=hx.2;unfold aF;omega) List.nodup_nil λy hy=>by cases hy
theorem zZ {l:List Int} {m:Nat}:(l=fP m)↔((List.range l.length).any (λi=>!decide (l[i]?=some ((i:Int)+2)))=false∧l.length=m):=by
 constructor
 ·intro h;subst h;refine⟨?_,dZ m⟩;rw [List.any_eq_false];intro i hi;have hi:=List.mem_range.1 hi;rw [dZ] at hi;simp [fP,hi]
 rintro⟨h1,h2⟩;rw [List.any_eq_false] at h1;refine List.ext_getElem? λi=>?_;by_cases hi:i < l.length
 ·have:=h1 i (List.mem_range.2 hi);simp only [Bool.not_eq_true,Bool.not_eq_false',decide_eq_true_eq] at this;rw [this];simp [fP,h2 ▸ hi]
 rw [List.getElem?_eq_none (by omega),List.getElem?_eq_none (by rw [dZ];omega)]
theorem yU {d:Diagram} (ho:NOK d.nodes):∃ b,iT d=some b∧(b=true↔ValidD d):=by
 unfold iT;by_cases h0:d.nodes.length=0
 ·rw [if_pos (by omega)];refine⟨_,rfl,?_⟩;have hnil:d.nodes=[]:=List.length_eq_zero_iff.1 h0;unfold ValidD;rw [if_pos h0];have hw:=(any_bad (D:=d.nodes)).1 (by rw [h0];rfl);simp [h0,hw]
 rw [if_neg (by omega)];by_cases hl:d.nodes.length≤20000
 ·rw [if_neg (by omega), aB (by unfold I64; omega), aA];by_cases hr:d.root=(d.nodes.length:Int)+1
  ·rw [if_neg (by simp [hr])];rw [mS (ρ:=Unit ⊕ Bool) d.nodes.length (qW d.nodes) (.inr false) (.inl ()) (by omega) ?_ ?_]
   ·cases ha:(List.range d.nodes.length).any (qW d.nodes) with
    | true=>
     refine⟨false,rfl,?_⟩;constructor
     ·intro h;cases h
     intro h;have:=any_bad.2 h.2.1;rw [ha] at this;cases this
    | false=>
     have hw:=any_bad.1 ha;have hin:InD d.nodes d.root:=by unfold InD;omega
     rw [if_neg (by simp),aU,xV hw.1 (by omega) hin,aA];have inv:=iL hw.1 aF d.root [] hin List.nodup_nil
     have hlen:=jN d.nodes.length _ inv.1 λy hy=>by
      rcases inv.2 y hy with h|h
      ·cases h
      omega
     have hvis:=iJ hw.1 aF d.root 0 d.nodes.length hin (by unfold aF;omega);rw [show fP 0=[] from rfl,show ((0:Nat):Int)+2=2 from rfl] at hvis;generalize fZ d.nodes aF d.root []=l at hlen hvis;rw [mS (ρ:=Unit ⊕ Bool) l.length (λi=>!decide (l[i]?=some ((i:Int)+2))) (.inr false) (.inl ()) (by omega) ?_ ?_]
     ·have hV:ValidD d↔l=fP d.nodes.length:=by
       unfold ValidD;rw [if_neg h0,hvis];exact⟨λh=>h.2.2.2,λh=>⟨hl,hw,hr,h⟩⟩
      rw [hV,zZ]
      cases hb:(List.range l.length).any λi=>!decide (l[i]?=some ((i:Int)+2)) with
      | true=>
       refine⟨false,rfl,?_⟩;simp
      | false=>
       rw [if_neg (by simp),aU];refine⟨_,rfl,?_⟩;rw [decide_eq_true_eq];constructor
       ·intro h;exact⟨rfl,by omega⟩
       intro h;have:=h.2;omega
     ·intro i hi;rw [if_pos (by omega),cA (zQR hi),aB (by unfold I64;omega),zQR hi];by_cases he:l[i]=(i:Int)+2
      ·rw [if_pos he,aB (by unfold I64;omega),if_neg (by simp [he])]
      rw [if_neg he, if_pos (by simp [he])];rfl
     rw [if_neg (by omega)];rfl
   ·intro i hi;have hn:=zQR hi;rw [if_pos (by omega),cA hn,mE hn];generalize d.nodes[i]=n at hn;by_cases hb1:n.var < 0∨63 < n.var∨n.lo=n.hi
    ·have hng:¬ dK d.nodes i n:=λh=>by
      rcases hb1 with h'|h'|h'
      ·have:=h.1;omega
      ·have:=h.2.1;omega
      exact h.2.2.1 h'
     rw [if_pos (by simpa using hb1),decide_eq_false hng,if_pos (by rfl)];rfl
    rw [if_neg (by simpa using hb1)];have hv:0≤n.var∧n.var < 64∧n.lo≠n.hi:=⟨by omega,by omega,λe=>hb1 (.inr (.inr e))⟩
    have hcond : ∀ k : Int, I64 k → (if k < (0 : Int) then some true
          else
           aC (I64 ((i : Int) + (2 : Int))) <|
           if ((i : Int) + (2 : Int)) ≤ k then some true
           else
            if (1 : Int) < k then
             aC (I64 (k - (2 : Int))) <|
             bG d.nodes (k - (2 : Int)) fun e34 => some (decide (e34.var ≤ n.var))
            else some false) = some (!decide (0 ≤ k ∧ k < (i : Int) + 2 ∧ n.var < aH d.nodes k)) := fun k hk => by
     by_cases k0:k < 0
     ·rw [if_pos k0,decide_eq_false (by omega)];rfl
     rw [if_neg k0, aB (by unfold I64; omega)];by_cases k1:(i:Int)+2≤k
     ·rw [if_pos k1,decide_eq_false (by omega)];rfl
     rw [if_neg k1];by_cases k2:1 < k
     ·have hkl : (k - 2).toNat < d.nodes.length := by omega
      have hvk:aH d.nodes k=d.nodes[(k - 2).toNat].var:=by unfold aH;rw [if_neg (by omega),zQR hkl]
      rw [if_pos k2,aB (by unfold I64 at *; omega),bX (by omega) (zQR hkl),hvk]
      congr 1
      rw [← decide_not];simp only [decide_eq_decide];omega
     rw [if_neg k2];have hvk:aH d.nodes k=64:=by unfold aH;rw [if_pos (by omega)]
     rw [hvk,decide_eq_true (by omega)];rfl
    have hi64:I64 n.lo∧I64 n.hi:=⟨(ho.at hn).2.1,(ho.at hn).2.2⟩;rw [lS [n.lo,n.hi] (λk=>!decide (0≤k∧k < (i:Int)+2∧n.var < aH d.nodes k)) (Sum.inr (Sum.inr (Sum.inr (Sum.inr false)))) (Sum.inl ()) (by simp) ?_ ?_]
    ·by_cases hg:dK d.nodes i n
     ·have hany:([n.lo,n.hi].any λk=>!decide (0≤k∧k < (i:Int)+2∧n.var < aH d.nodes k))=false:=by
       rw [List.any_cons,List.any_cons,List.any_nil,decide_eq_true hg.2.2.2.1,decide_eq_true hg.2.2.2.2];rfl
      rw [if_neg (by rw [hany];simp),aU];rw [mS i (λq=>decide (d.nodes[q]?=some n)) (Sum.inr (Sum.inr (Sum.inr false))) (Sum.inl ()) (by omega) ?_ ?_]
      ·have hmem:((List.range i).any λq=>decide (d.nodes[q]?=some n))=decide (n∈d.nodes.take i):=by
        rw [Bool.eq_iff_iff,zQU,decide_eq_true_eq];constructor
        ·rintro⟨q,hq,e⟩;have hq:=List.mem_range.1 hq;have e:=of_decide_eq_true e;exact zQM (i:=q) (by rw [List.getElem?_take,if_pos hq];exact e)
        intro hm;obtain⟨q,hq⟩:=List.getElem?_of_mem hm;rw [List.getElem?_take] at hq;split at hq
        ·exact⟨q,List.mem_range.2 (by assumption),decide_eq_true hq⟩
        cases hq
       rw [hmem,decide_eq_true hg];by_cases hm:n∈d.nodes.take i
       ·rw [decide_eq_true hm,if_pos rfl];rfl
       rw [decide_eq_false hm,if_neg (by simp),if_neg (by simp),aU,aB (by unfold I64;omega)]
      ·intro q hq;have hql:q < d.nodes.length:=by omega
       rw [if_pos (by omega),cA (zQR hql),aB ⟨ho _ (List.getElem_mem hql),ho.at hn⟩,zQR hql];by_cases he:d.nodes[q]=n
       ·rw [if_pos he, if_pos (by simp [he])];rfl
       rw [if_neg he,if_neg (by simp [he]),aB (by unfold I64;omega)]
      rw [if_neg (by omega)];rfl
     have hany:([n.lo,n.hi].any λk=>!decide (0≤k∧k < (i:Int)+2∧n.var < aH d.nodes k))=true:=by
      rw [List.any_cons,List.any_cons,List.any_nil,Bool.or_false];rcases Classical.em (0≤n.lo∧n.lo < (i:Int)+2∧n.var < aH d.nodes n.lo) with h1|h1
      ·rcases Classical.em (0≤n.hi∧n.hi < (i:Int)+2∧n.var < aH d.nodes n.hi) with h2|h2
       ·exact absurd ⟨hv.1,hv.2.1,hv.2.2,h1,h2⟩ hg
       rw [decide_eq_false h2];simp
      rw [decide_eq_false h1];simp
     rw [if_pos hany,decide_eq_false hg,if_pos (by rfl)];rfl
    ·intro j e he;have hj:=(zQQ.1 he).1
     have hie:I64 e:=by
      have:=zQM he;simp only [zQB,List.not_mem_nil,or_false] at this;rcases this with rfl|rfl
      ·exact hi64.1
      exact hi64.2
     rw [if_pos (by omega),cA he,hcond e hie,aA];by_cases hk:0≤e∧e < (i:Int)+2∧n.var < aH d.nodes e
     ·rw [decide_eq_true hk,if_neg (by simp),if_neg (by simp),aB (by simp only [List.length_cons,List.length_nil] at hj;unfold I64;omega)]
     rw [decide_eq_false hk, if_pos (by rfl), if_pos (by rfl)];rfl
    rw [if_neg (by omega)];rfl
   rw [if_neg (by omega)];rfl
  rw [if_pos (by simp [hr])];refine⟨false,rfl,?_⟩;unfold ValidD;rw [if_neg h0];exact⟨λh=>(by cases h),λh=>absurd h.2.2.1 hr⟩
 rw [if_pos (by omega), aA, if_pos rfl];refine⟨false,rfl,?_⟩;constructor
 ·intro h;cases h
 intro h;exact absurd h.1 hl
theorem mG:eT=some true:=by decide+kernel
theorem rR {D:List Node} (h:WfD D) (vals:List Bool) (F:Int→Option (Int ⊕ Int)) (hF:∀ x,InD D x→F x=if 1 < x then (match D[(x - 2).toNat]? with|some n=>some (.inl (if asg 0 vals n.var=true then n.hi else n.lo))|none=>none) else some (.inr x)):
  ∀ (f:Nat) (x:Int),InD D x→x < (f:Int)→∃ y,eU F f x=some y∧decide (y=1)=eD D x (asg 0 vals)
 | 0,x,hx,hf=>by have:=hx.1;omega
 | f+1,x,hx,hf=>by
  simp only [eU];rw [hF x hx];by_cases h1:1 < x
  ·obtain ⟨n, hn⟩ := hx.get (by omega);have hlo:=h.lo _ n hn;have hhi:=h.hi _ n hn;have hx1:=hx.2;rw [if_pos h1,hn];dsimp only;rw [dD h (by omega) hn]
   cases asg 0 vals n.var with
   | true=>rw [if_pos rfl];exact rR h vals F hF f n.hi ⟨hhi.1,by omega⟩ (by omega)
   | false=>rw [if_neg (by simp)];exact rR h vals F hF f n.lo ⟨hlo.1,by omega⟩ (by omega)
  rw [if_neg h1];refine⟨x,rfl,?_⟩;have hx0:=hx.1;rcases (by omega:x=0∨x=1) with e|e<;>subst e<;>rfl
theorem asg_at (vals:List Bool) {v:Int} (h:0≤v):(if v < (vals.length:Int) then bG vals v λe=>some e else some false)=some (asg 0 vals v):=by
 unfold asg;by_cases hv:v < (vals.length:Int)
 ·rw [if_pos hv, bX h (lY (by omega))];simp [h]
 rw [if_neg hv, decide_eq_true h, zQD, List.getElem?_eq_none (by omega)];rfl
theorem tS {d : Diagram} (h : WfD d.nodes) (hl : d.nodes.length ≤ 1000000) (hr : InD d.nodes d.root) (vals : List Bool) : ∃ y, bC (fun n4 =>
   if (1 : Int) < n4 then
    aC (I64 (n4 - (2 : Int))) <|
    bG d.nodes (n4 - (2 : Int)) fun e8 =>
    aD (
     if e8.var < (vals.length : Int) then
      bG vals e8.var fun e12 =>
      some e12
     else
      some false) fun x9 =>
    if x9 = true then
     some (.inl e8.hi)
    else
     some (.inl e8.lo)
   else
    aI (
     some n4)) d.root = some y ∧ decide (y = 1) = fnD d.nodes d.root 0 vals := by
 unfold fnD bC;refine rR h vals _ (λx hx=>?_) aF d.root hr (by have:=hr.2;unfold aF;omega);by_cases h1:1 < x
 ·obtain ⟨n, hn⟩ := hx.get (by omega);rw [if_pos h1,if_pos h1,aB (hx.i64 (by omega)).1,bX (by omega) hn,hn,asg_at vals (h.vars _ n hn).1,aA];dsimp only;split<;>rfl
 rw [if_neg h1,if_neg h1];rfl
theorem zC {d:Diagram} (h:WfD d.nodes) (hl:d.nodes.length≤1000000) (hr:InD d.nodes d.root) (vals:List Bool):iS d vals=some (fnD d.nodes d.root 0 vals):=by
 unfold iS;obtain⟨y,e,hy⟩:=tS h hl hr vals;rw [e,aA,hy]
theorem ValidD.root {d:Diagram} (h:ValidD d):InD d.nodes d.root:=by
 have h3:=h.2.2;unfold InD;split at h3
 ·omega
 have:=h3.1;omega
theorem yW {d:Diagram} (ho:NOK d.nodes) (vals:List Bool):∃ b,gR d vals=some b∧oR d vals=some b∧(ValidD d→b=fnD d.nodes d.root 0 vals):=by
 obtain⟨b,e1,h1⟩:=uU ho;obtain⟨c,e2,h2⟩:=yU ho;have hbc:c=b:=by rw [Bool.eq_iff_iff,h1,h2]
 subst hbc;unfold gR oR;rw [e1,e2,aA,aA]
 cases c with
 | false=>
  rw [if_pos (by rfl),if_neg (by simp),aA];exact⟨false,rfl,rfl,λh=>absurd (h1.2 h) (by simp)⟩
 | true=>
  have hV:=h1.1 rfl;obtain⟨y,e,hy⟩:=tS hV.2.1.1 (by have:=hV.1;omega) hV.root vals;rw [if_neg (by simp),if_pos rfl,zC hV.2.1.1 (by have:=hV.1;omega) hV.root,e,aA,aA,aA,hy];exact⟨_,rfl,rfl,λ_=>rfl⟩
end Go.Proofs.Ytdkhkhidekpfoaa
