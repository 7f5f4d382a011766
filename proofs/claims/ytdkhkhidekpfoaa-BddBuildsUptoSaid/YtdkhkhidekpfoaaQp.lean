/- Texts of this proof, joined, without what it does not use. No condition. -/
import Derived.Test.YtdkhkhidekpfoaaQo

set_option linter.unusedVariables false
set_option linter.unusedSimpArgs false
set_option maxHeartbeats 400000
namespace Go.Proofs.Ytdkhkhidekpfoaa
open Go Go.TL
theorem mA {D:List Node}:∀ {k:Nat} {f:Fn} {v x:Int},Has D k f v x→0≤x∧x < (D.length:Int)+2
 | 0,f,v,x,h=>by
  have h:x=aW (f []):=h;rw [h];unfold aW;split<;>omega
 | k+1,f,v,x,⟨lo,hi,h1,h2,h3⟩=>by
  split at h3
  ·rw [h3];exact mA h1
  have:=(zQQ.1 h3.2).1;omega
structure RelM (m:Merger) (s:MS):Prop where
 nodes:m.nodes=⟨fZ s.nodes,s.nodes⟩
 full:m.full=s.full
 keys:(m.done.map (·.1)).Nodup
 okp:∀ p∈m.done,Pair.okb p.1=true
 done:∀ x y,bS m.done ⟨x,y⟩=s.done (x,y)
 ok:NOK s.nodes
theorem oJ {m:Merger} {A B:Diagram} {all:Bool} (ha:m.a=A) (hb:m.b=B) (hc:m.all=all):(⟨A,B,all,m.nodes,m.done,m.full⟩:Merger)=m:=by
 subst ha hb hc;rfl
theorem yM {m:Merger} {L:List Node} {n:Node} {F:Bool} {T:List (Pair×Int)} (hm:m.nodes=⟨fZ L,L⟩) (hn:L.Nodup) (ho:NOK L) (hk:Node.ok n) (hl:L.length+1≤1000000000):
  (if n.hi = n.lo then some (n.lo, F, m.nodes.index, m.nodes.list, T)
   else aE (aK m n) fun (r34, r35) =>
    aC (I64 (r34 + (2 : Int))) <|
    some ((r34 + (2 : Int)), F, r35.nodes.index, r35.nodes.list, T)) = some ((bH L n).2, F, fZ (bH L n).1, (bH L n).1, T) := by
 unfold bH;by_cases h:n.lo=n.hi
 ·rw [if_pos h.symm,if_pos h,hm]
 rw [if_neg (fun e => h e.symm), if_neg h, xG hm hn ho hk hl, aA]
 cases hf:L.findIdx? (λm=>decide (m=n)) with
 | some j=>
  rw [List.findIdx?_eq_some_iff_getElem] at hf;obtain⟨hj,_,_⟩:=hf;dsimp only;rw [aB (by unfold I64;omega),hm]
 | none=>
  dsimp only;rw [aB (by unfold I64;omega)]
theorem oK {A B:Diagram} {all:Bool} {N:Int} (hA:WfD A.nodes) (hB:WfD B.nodes) (hN:N≤64) (hAN:∀ (i:Nat) (n:Node),A.nodes[i]?=some n→n.var < N) (hBN:∀ (i:Nat) (n:Node),B.nodes[i]?=some n→n.var < N) (lA:A.nodes.length≤1000000) (lB:B.nodes.length≤1000000):
  ∀ (f:Nat) (m:Merger) (s:MS) (x y v:Int) (k:Nat),65≤(f:Int)+min (aI A.nodes x) (aI B.nodes y)→InD A.nodes x→InD B.nodes y→MOk A.nodes B.nodes all N s→v+k=N→v≤aI A.nodes x→v≤aI B.nodes y→s.nodes.length+2 ^ k≤20001→RelM m s→m.a=A→m.b=B→m.all=all→
  ∃ m',aU f m ⟨x,y⟩=some ((cX A.nodes B.nodes all f s x y).2,m')∧RelM m' (cX A.nodes B.nodes all f s x y).1∧m'.a=A∧m'.b=B∧m'.all=all
 | 0,m,s,x,y,v,k,hf,hx,hy,hs,hv,h1,h2,hlen,hR,ha,hb,hc=>by
  have:=dN hA x;omega
 | f+1,m,s,x,y,v,k,hf,hx,hy,hs,hv,h1,h2,hlen,hR,ha,hb,hc=>by
  have ix:=(hx.i64 (by omega)).2;have iy:=(hy.i64 (by omega)).2;have hpk:Pair.okb ⟨x,y⟩=true:=decide_eq_true ⟨ix,iy⟩;have hko:dF Pair.okb m.done ⟨x,y⟩:=⟨hR.keys,hR.okp,hpk⟩;have hdo:(if (!(m.all))=true then some ((1:Int),(0:Int)) else some ((0:Int),(1:Int)))=some (aW (!all),aW all):=by rw [hc];cases all<;>rfl
  have nf:¬ s.full=true:=by rw [hs.part];exact Bool.false_ne_true
  have ng:¬ m.full=true:=by rw [hR.full];exact nf
  unfold cX aU;rw [if_neg nf,if_neg ng,hdo,aA];dsimp only;by_cases hd:x=aW (!all)∨y=aW (!all)
  ·have hd' : (decide (x = aW (!all)) || decide (y = aW (!all))) = true := by simpa using hd
   rw [if_pos hd,if_pos hd'];exact⟨m,rfl,hR,ha,hb,hc⟩
  have hd' : ¬ (decide (x = aW (!all)) || decide (y = aW (!all))) = true := by simpa using hd
  rw [if_neg hd,if_neg hd'];by_cases ho:x=aW all∧y=aW all
  ·have ho' : (decide (x = aW all) && decide (y = aW all)) = true := by simpa using ho
   rw [if_pos ho,if_pos ho'];exact⟨m,rfl,hR,ha,hb,hc⟩
  have ho' : ¬ (decide (x = aW all) && decide (y = aW all)) = true := by simpa using ho
  rw [if_neg ho,if_neg ho',aB hko,hR.done]
  cases hm:s.done (x,y) with
  | some r=>
   dsimp only;exact⟨m,rfl,hR,ha,hb,hc⟩
  | none=>
   dsimp only;rw [if_neg (by simp)];have hvA:=dN hA x;have hvB:=dN hB y
   have hlt:min (aI A.nodes x) (aI B.nodes y) < N:=by
    rcases Int.lt_or_le x 2 with hx2|hx2
    ·rcases Int.lt_or_le y 2 with hy2|hy2
     ·exfalso;have cx:=(lI hx hx2).1;have cy:=(lI hy hy2).1;have bb:∀ b:Bool,aW b=aW all∨aW b=aW (!all):=λb=>by cases b<;>cases all<;>simp [aW]
      rcases bb (decide (x=1)) with e1|e1
      ·rcases bb (decide (y=1)) with e2|e2
       ·exact ho ⟨cx.trans e1,cy.trans e2⟩
       exact hd (.inr (cy.trans e2))
      exact hd (.inl (cx.trans e1))
     obtain⟨n,hn⟩:=hy.get hy2;have:aI B.nodes y=n.var:=by unfold aI;rw [if_neg (by omega),hn]
     have:=hBN _ n hn;omega
    obtain⟨n,hn⟩:=hx.get hx2;have:aI A.nodes x=n.var:=by unfold aI;rw [if_neg (by omega),hn]
    have:=hAN _ n hn;omega
   have hw0:0≤min (aI A.nodes x) (aI B.nodes y):=by
    have:=zM hA x;have:=zM hB y;omega
   rw [ha,hb,hc,iB hx (by omega),aA,iB hy (by omega),aA];obtain⟨w,hw⟩:∃ w,w=min (aI A.nodes x) (aI B.nodes y):=⟨_,rfl⟩;rw [← hw];rw [← hw] at hlt hf hw0;rw [mR hx (by omega) (by omega),aA,mR hy (by omega) (by omega),aA];obtain⟨d,hdv⟩:∃ d:Nat,w=v+d:=⟨(w - v).toNat,by omega⟩;obtain⟨q,hq⟩:∃ q:Nat,k=d+(q+1):=⟨k - d - 1,by omega⟩;have KA:=nG hA hx (w:=w) (by omega) (by omega);have KB:=nG hB hy (w:=w) (by omega) (by omega);generalize cP A.nodes x w=ka at KA;generalize cP B.nodes y w=kb at KB;obtain⟨xa,xb⟩:=ka;obtain⟨ya,yb⟩:=kb;dsimp only at KA KB ⊢;have hpow:2 ^ (q+1)≤2 ^ k:=Nat.pow_le_pow_right (by omega) (by omega);rw [Nat.pow_succ] at hpow;have h2q:0 < 2 ^ q:=Nat.pos_of_ne_zero (by simp);have n1:=fJ (all:=all) hA hB hN hAN hBN f s xa ya (w+1) q (by omega) KA.1 KB.1 hs (by omega) KA.2.2.1 KB.2.2.1 (by omega);obtain⟨m1,e1,R1,a1,b1,c1⟩:=oK hA hB hN hAN hBN lA lB f m s xa ya (w+1) q (by omega) KA.1 KB.1 hs (by omega) KA.2.2.1 KB.2.2.1 (by omega) hR ha hb hc;rw [e1,aA];dsimp only;generalize cX A.nodes B.nodes all f s xa ya=sa at n1 R1;have l1:=eA q s.nodes (fn2 A.nodes B.nodes (opQ all) xa ya (w+1)) (w+1);have g1:=mA (bY q s.nodes (fn2 A.nodes B.nodes (opQ all) xa ya (w+1)) (w+1));rw [← n1.1] at l1 g1;dsimp only at l1 g1;rw [oJ a1 b1 c1];have n2:=fJ (all:=all) hA hB hN hAN hBN f sa.1 xb yb (w+1) q (by omega) KA.2.1 KB.2.1 n1.2 (by omega) KA.2.2.2.1 KB.2.2.2.1 (by omega);obtain⟨m2,e2,R2,a2,b2,c2⟩:=oK hA hB hN hAN hBN lA lB f m1 sa.1 xb yb (w+1) q (by omega) KA.2.1 KB.2.1 n1.2 (by omega) KA.2.2.2.1 KB.2.2.2.1 (by omega) R1 a1 b1 c1;rw [e2,aA];dsimp only;generalize cX A.nodes B.nodes all f sa.1 xb yb=sb at n2 R2;have l2:=eA q sa.1.nodes (fn2 A.nodes B.nodes (opQ all) xb yb (w+1)) (w+1);have g2:=mA (bY q sa.1.nodes (fn2 A.nodes B.nodes (opQ all) xb yb (w+1)) (w+1));rw [← n2.1] at l2 g2;dsimp only at l2 g2;have hpre:=bB q sa.1.nodes (fn2 A.nodes B.nodes (opQ all) xb yb (w+1)) (w+1);rw [← n2.1] at hpre;have hple:=hpre.length_le;dsimp only at hple;rw [oJ a2 b2 c2];have hok:Node.ok ⟨w,sa.2,sb.2⟩:=⟨by unfold I64;dsimp only;omega,by unfold I64;dsimp only;omega,by unfold I64;dsimp only;omega⟩;have st:=yM (m:=m2) (n:=⟨w,sa.2,sb.2⟩) (F:=m2.full) (T:=m2.done) R2.nodes n2.2.nodup R2.ok hok (by omega);dsimp only at st;rw [st,aA];dsimp only;have hal:=lN sb.1.nodes ⟨w,sa.2,sb.2⟩
   have hnok:NOK (bH sb.1.nodes ⟨w,sa.2,sb.2⟩).1:=by
    unfold bH;split
    ·exact R2.ok
    split
    ·exact R2.ok
    exact wJ R2.ok hok
   rw [if_neg (by omega),aB ⟨R2.keys,R2.okp,hpk⟩];refine⟨_,rfl,⟨rfl,?_,xE R2.keys _ _,λp hp=>?_,λx' y'=>?_,hnok⟩,rfl,rfl,rfl⟩
   ·dsimp only;rw [R2.full,n2.2.part,Bool.false_or];exact (decide_eq_false (by omega)).symm
   ·rcases wC hp with rfl|hp
    ·exact hpk
    exact R2.okp p hp
   dsimp only;rw [xR,R2.done];by_cases he:(x',y')=(x,y)
   ·rw [if_pos he,if_pos (by obtain⟨rfl,rfl⟩:=Prod.mk.inj he;rfl)]
   rw [if_neg he,if_neg (λe=>he (by cases e;rfl))]
theorem vL {N:Nat} {f g:Fn} {a b:Diagram} (hN:N≤14) (hA:MakeOk N f a.nodes a.root) (hB:MakeOk N g b.nodes b.root) (all:Bool):dK a b all=some (⟨(cD N λl=>opQ all (f l) (g l)).1,(cD N λl=>opQ all (f l) (g l)).2⟩,true):=by
 have hp:2 ^ N≤2 ^ 14:=Nat.pow_le_pow_right (by omega) hN;have la:=hA.len;have lb:=hB.len;have m0:MOk a.nodes b.nodes all (N:Int) ms0:=⟨List.nodup_nil,rfl,λx y r h=>by cases h⟩;have mm:=vB (q:=aG) hN hA hB all (by unfold aG;omega)
 obtain ⟨m', e, R, _, _, _⟩ := oK (all := all) (N := (N : Int)) hA.wf hB.wf (by omega) hA.vars hB.vars (by omega) (by omega) aG ⟨a, b, all, ⟨[], []⟩, [], false⟩ ms0 a.root b.root 0 N
  (by have:=hA.low;have:=hB.low;unfold aG;omega) hA.root hB.root m0 (by omega) hA.low hB.low (by show 0+2 ^ N≤20001;omega)
  ⟨rfl,rfl,List.nodup_nil,λp h=>(by cases h),λx y=>rfl,nF⟩ rfl rfl rfl
 unfold dK eE;rw [e,aA];dsimp only;rw [if_neg (by rw [R.full,mm.2];exact Bool.false_ne_true),← mm.1,R.nodes]
def zU (D:List Node) (i:Nat) (n:Node):Prop:=0≤n.var∧n.var < 64∧n.lo≠n.hi∧(0≤n.lo∧n.lo < (i:Int)+2∧n.var < aI D n.lo)∧(0≤n.hi∧n.hi < (i:Int)+2∧n.var < aI D n.hi)
instance (D:List Node) (i:Nat) (n:Node):Decidable (zU D i n):=by unfold zU;infer_instance
def ValidD (d:Diagram):Prop:=d.nodes.length≤20000∧(WfD d.nodes∧d.nodes.Nodup)∧(if d.nodes.length=0 then d.root=0∨d.root=1 else d.root=(d.nodes.length:Int)+1∧hU d.nodes aG d.root 2=some ((d.nodes.length:Int)+2))
theorem zW {l:List Bool} {i:Nat} (h:i < l.length):l[i]?=some (l.getD i false):=by
 rw [zQD,zQR h];rfl
theorem nL:eO=some true:=by decide+kernel
theorem ValidD.root {d:Diagram} (h:ValidD d):InD d.nodes d.root:=by
 have h3:=h.2.2;unfold InD;split at h3
 ·omega
 have:=h3.1;omega
end Go.Proofs.Ytdkhkhidekpfoaa
