/- Texts of this proof, joined, without what it does not use. No condition. -/
import Derived.Test.YtdkhkhidekpfoaaQn

set_option linter.unusedVariables false
set_option linter.unusedSimpArgs false
set_option maxHeartbeats 400000
namespace Go.Proofs.Ytdkhkhidekpfoaa
open Go Go.TL
def dL (D:List Node) (i:Nat) (n:Node):Prop:=0≤n.var∧n.var < 64∧n.lo≠n.hi∧(0≤n.lo∧n.lo < (i:Int)+2∧n.var < aG D n.lo)∧(0≤n.hi∧n.hi < (i:Int)+2∧n.var < aG D n.hi)
instance (D:List Node) (i:Nat) (n:Node):Decidable (dL D i n):=by unfold dL;infer_instance
def pY (D:List Node) (i:Nat):Bool:=match D[i]? with
 | some n=>!decide (dL D i n)||decide (n∈D.take i)
 | none=>false
theorem lT {D:List Node} {i:Nat} {n:Node} (h:D[i]?=some n):pY D i=(!decide (dL D i n)||decide (n∈D.take i)):=by unfold pY;rw [h]
theorem hO {D:List Node}:∀ (i:Nat),(∀ j,j < i→pY D j=false)→(D.take i).Nodup
 | 0,_=>by simp
 | i+1,h=>by
  rw [List.take_add_one]
  cases hn:D[i]? with
  | none=>simpa using hO i λj hj=>h j (by omega)
  | some n=>
   have hb:=h i (by omega);rw [lT hn,Bool.or_eq_false_iff] at hb;have hni:n∉D.take i:=by simpa using hb.2
   simp only [Option.toList_some];rw [List.nodup_append];refine⟨hO i λj hj=>h j (by omega),by simp,λa ha b hb e=>?_⟩;rw [List.mem_singleton.1 hb] at e;exact hni (e ▸ ha)
theorem qBT {D:List Node} (h:∀ j,j < D.length→pY D j=false):WfD D∧D.Nodup:=by
 have hg:∀ (i:Nat) (n:Node),D[i]?=some n→dL D i n:=λi n hn=>by
  have hb:=h i (zQQ.1 hn).1;rw [lT hn,Bool.or_eq_false_iff] at hb;simpa using hb.1
 refine⟨⟨λi n hn=>⟨(hg i n hn).1,(hg i n hn).2.1⟩,λi n hn=>(hg i n hn).2.2.2.1,λi n hn=>(hg i n hn).2.2.2.2,λi n hn=>(hg i n hn).2.2.1⟩,?_⟩;have:=hO D.length h
 rwa [List.take_length] at this
theorem qAV {D:List Node} (h:WfD D) (hn:D.Nodup):∀ j,j < D.length→pY D j=false:=λj hj=>by
 have e:=zQR hj;rw [lT e,Bool.or_eq_false_iff];refine⟨by rw [decide_eq_true (show dL D j D[j] from ⟨(h.vars j _ e).1,(h.vars j _ e).2,h.ne j _ e,h.lo j _ e,h.hi j _ e⟩)];rfl,?_⟩;rw [decide_eq_false_iff_not];intro hm;obtain⟨q,hq,he⟩:=List.getElem_of_mem hm;simp only [List.length_take] at hq;rw [List.getElem_take] at he;have:=(List.getElem_inj hn).1 he;omega
theorem any_bad {D:List Node}:(List.range D.length).any (pY D)=false↔WfD D∧D.Nodup:=by
 constructor
 ·intro h;rw [List.any_eq_false] at h;exact qBT λj hj=>by simpa using h j (List.mem_range.2 hj)
 rintro⟨h,hn⟩;rw [List.any_eq_false];intro j hj;rw [qAV h hn j (List.mem_range.1 hj)];simp
def ValidD (d:Diagram):Prop:=d.nodes.length≤20000∧(WfD d.nodes∧d.nodes.Nodup)∧(if d.nodes.length=0 then d.root=0∨d.root=1 else d.root=(d.nodes.length:Int)+1∧cG d.nodes aH d.root 2=some ((d.nodes.length:Int)+2))
theorem tX {d:Diagram} {i:Nat} {n:Node} {k:Int} (hn:d.nodes[i]?=some n) (hv:n.var < 64) (hl:d.nodes.length≤1000000):dV d i k=some (decide (0≤k∧k < (i:Int)+2∧n.var < aG d.nodes k)):=by
 have hi:=(zQQ.1 hn).1;unfold dV;by_cases h01:k=0∨k=1
 ·rw [if_pos (by simpa using h01)];have hvk:aG d.nodes k=64:=by unfold aG;rw [if_pos (by omega)]
  have:0≤k∧k < (i:Int)+2∧n.var < aG d.nodes k:=by rw [hvk];omega
  rw [decide_eq_true this]
 rw [if_neg (by simpa using h01)];by_cases h2:2≤k
 ·rw [if_pos h2, aB (by unfold I64; omega)];by_cases h3:k < (i:Int)+2
  ·have hkl : (k - 2).toNat < d.nodes.length := by omega
   rw [if_pos h3,aB (by unfold I64;omega),cK (by omega) (zQR hkl),cI hn,aA];have hvk:aG d.nodes k=d.nodes[(k - 2).toNat].var:=by unfold aG;rw [if_neg (by omega),zQR hkl]
   rw [hvk]
   congr 1
   simp only [decide_eq_decide];omega
  rw [if_neg h3,aA]
  congr 1
  symm;rw [decide_eq_false_iff_not];omega
 rw [if_neg h2,aA]
 congr 1
 symm;rw [decide_eq_false_iff_not];omega
theorem lM {l:List Bool} {i:Nat} (h:i < l.length):l[i]?=some (l.getD i false):=by
 rw [zQD,zQR h];rfl
theorem hJ {d:Diagram} (h:WfD d.nodes) (hl:d.nodes.length≤1000000):∀ (fu:Nat) (x:Int) (vis:List Bool) (left:Int),InD d.nodes x→x < (fu:Int)→vis.length=d.nodes.length+2→
  ∃ b v l,bE fu x vis d left=some (b,v,l)∧v.length=vis.length∧(match fL d.nodes fu x (vis,left) with|some s=>b=true∧s=(v,l)|none=>b=false)
 | 0,x,vis,left,hx,hf,hv=>by have:=hx.1;omega
 | fu+1,x,vis,left,hx,hf,hv=>by
  have hx0:=hx.1;have hx1:=hx.2;have hxl:x.toNat < vis.length:=by omega
  unfold bE fL
  have hcond:(if x < (2:Int) then some true else bN vis x λe4=>some e4)=some (decide (x < 2∨vis.getD x.toNat false=true)):=by
   by_cases h2:x < 2
   ·rw [if_pos h2];simp [h2]
   rw [if_neg h2,cK hx0 (lM hxl)];simp [h2]
  rw [hcond,aA];dsimp only;by_cases hc:x < 2∨vis.getD x.toNat false=true
  ·rw [if_pos (by simpa using hc), if_pos hc];exact⟨true,vis,left,rfl,rfl,rfl,rfl⟩
  rw [if_neg (by simpa using hc), if_neg hc]
  have h2:2≤x:=by
   rcases Int.lt_or_le x 2 with h2|h2
   ·exact absurd (.inl h2) hc
   exact h2
  obtain⟨n,hn⟩:=hx.get h2;have hlo:=h.lo _ n hn;have hhi:=h.hi _ n hn;rw [cK hx0 (lM hxl),aB (hx.i64 (by omega)).1,cK (by omega) hn,hn];dsimp only;have ilo:InD d.nodes n.lo:=⟨hlo.1,by omega⟩;have ihi:InD d.nodes n.hi:=⟨hhi.1,by omega⟩;obtain⟨b1,v1,l1,e1,w1,r1⟩:=hJ h hl fu n.lo (vis.set x.toNat true) left ilo (by omega) (by simpa using hv);rw [e1,aA];dsimp only
  cases hp1:fL d.nodes fu n.lo (vis.set x.toNat true,left) with
  | none=>
   rw [hp1] at r1;dsimp only at r1;subst r1;rw [if_pos (by rfl),aA];dsimp only;rw [if_pos rfl];exact⟨false,v1,l1,rfl,by simpa using w1,rfl⟩
  | some s1=>
   rw [hp1] at r1;dsimp only at r1;obtain⟨rfl,rfl⟩:=r1;rw [if_neg (by simp)];obtain⟨b2,v2,l2,e2,w2,r2⟩:=hJ h hl fu n.hi v1 l1 ihi (by omega) (by simpa [hv] using w1);rw [e2,aA];dsimp only;simp only [Option.bind_some]
   cases hp2:fL d.nodes fu n.hi (v1,l1) with
   | none=>
    rw [hp2] at r2;dsimp only at r2;subst r2;rw [if_pos (by rfl),aA];dsimp only;rw [if_pos rfl];exact⟨false,v2,l2,rfl,by simpa using w2.trans w1,rfl⟩
   | some s2=>
    rw [hp2] at r2;dsimp only at r2;obtain⟨rfl,rfl⟩:=r2;rw [if_neg (by simp),aA];dsimp only;simp only [Option.bind_some];by_cases hxe:x=l2
    ·rw [if_pos hxe, if_neg (by simp [hxe]), aB (by unfold I64; omega)];exact⟨true,v2,l2+1,rfl,by simpa using w2.trans w1,rfl,rfl⟩
    rw [if_neg hxe, if_pos (by simp [hxe])];exact⟨false,v2,l2,rfl,by simpa using w2.trans w1,rfl⟩
theorem uY {d:Diagram} (h:WfD d.nodes) (hl:d.nodes.length≤1000000) (hr:InD d.nodes d.root):fC d=some (decide (cG d.nodes aH d.root 2=some ((d.nodes.length:Int)+2))):=by
 unfold fC fW;have ht:((d.nodes.length:Int)+2).toNat=d.nodes.length+2:=by omega
 obtain⟨b,v,l,e,_,r⟩:=hJ h hl aH d.root (List.replicate (d.nodes.length+2) false) 2 hr (by have:=hr.2;unfold aH;omega) (by simp);have hv:=qAW h aH hr;rw [aB (by unfold I64;omega),aB (by omega),ht,e,aA];dsimp only;rw [← hv]
 cases hp:fL d.nodes aH d.root (List.replicate (d.nodes.length+2) false,2) with
 | none=>
  rw [hp] at r;dsimp only at r;subst r;rw [if_neg (by simp),aA];simp
 | some s=>
  rw [hp] at r;dsimp only at r;obtain⟨rfl,rfl⟩:=r;rw [if_pos rfl,aB (by unfold I64;omega),aA];simp
theorem mem_find {L:List Node} {n:Node}:(L.findIdx? λm=>decide (m=n))=none↔n∉L:=by
 rw [List.findIdx?_eq_none_iff];constructor
 ·intro h hm;have:=h n hm;simp at this
 intro h x hx;simp only [decide_eq_false_iff_not];exact λe=>h (e ▸ hx)
theorem gW {d:Diagram} (ho:NOK d.nodes):∃ b,cO d=some b∧(b=true↔ValidD d):=by
 unfold cO;by_cases hl:d.nodes.length≤20000
 ·rw [if_neg (by omega)];rw [xJ (ρ:=(List (Node×Int)×List Node) ⊕ Bool) (b:=(([]:List (Node×Int)),([]:List Node))) d.nodes.length (λi=>(eO (d.nodes.take i),d.nodes.take i)) (pY d.nodes) (.inr false) (.inl (eO d.nodes,d.nodes)) rfl (by omega) (λi hi hb=>?_) (λhb=>?_)]
  ·cases ha:(List.range d.nodes.length).any (pY d.nodes) with
   | true=>
    refine⟨false,rfl,?_⟩;constructor
    ·intro h;cases h
    intro h;have:=any_bad.2 h.2.1;rw [ha] at this;cases this
   | false=>
    have hw:=any_bad.1 ha;rw [if_neg (by simp),eP];dsimp only;by_cases h0:d.nodes.length=0
    ·rw [if_pos (by omega)];refine⟨_,rfl,?_⟩;unfold ValidD;rw [if_pos h0];simp [hl,hw]
    rw [if_neg (by omega), aB (by unfold I64; omega)];by_cases hr:d.root=(d.nodes.length:Int)+1
    ·rw [if_pos hr, uY hw.1 (by omega) (by unfold InD; omega), aA, aA];refine⟨_,rfl,?_⟩;unfold ValidD;rw [if_neg h0,decide_eq_true_eq];exact⟨λh=>⟨hl,hw,hr,h⟩,λh=>h.2.2.2⟩
    rw [if_neg hr,aA];refine⟨_,rfl,?_⟩;unfold ValidD;rw [if_neg h0];exact⟨λh=>(by cases h),λh=>absurd h.2.2.1 hr⟩
  ·have hn:=zQR hi;have hnt:(d.nodes.take i).Nodup:=hO i hb;have hlt:(d.nodes.take i).length=i:=by simp;omega
   dsimp only;rw [if_pos (by omega),cI hn,lT hn];generalize d.nodes[i]=n at hn
   have hbad : (if n.var < (0 : Int) then some true
      else if (64 : Int) ≤ n.var then some true
       else if n.lo = n.hi then some true
        else aC (dV d i n.lo) fun r20 => if (!(r20)) = true then some true else aC (dV d i n.hi) fun r22 => some (!(r22))) = some (!decide (dL d.nodes i n)) := by
    by_cases h1:n.var < 0
    ·rw [if_pos h1,decide_eq_false (show ¬ dL d.nodes i n from λh=>by have:=h.1;omega)];rfl
    rw [if_neg h1];by_cases h2:64≤n.var
    ·rw [if_pos h2,decide_eq_false (show ¬ dL d.nodes i n from λh=>by have:=h.2.1;omega)];rfl
    rw [if_neg h2];by_cases h3:n.lo=n.hi
    ·rw [if_pos h3,decide_eq_false (show ¬ dL d.nodes i n from λh=>h.2.2.1 h3)];rfl
    rw [if_neg h3, tX hn (by omega) (by omega), aA];by_cases h4:0≤n.lo∧n.lo < (i:Int)+2∧n.var < aG d.nodes n.lo
    ·rw [decide_eq_true h4, if_neg (by simp), tX hn (by omega) (by omega), aA];rw [show decide (dL d.nodes i n)=decide (0≤n.hi∧n.hi < (i:Int)+2∧n.var < aG d.nodes n.hi) from decide_eq_decide.2 ⟨λh=>h.2.2.2.2,λh=>⟨by omega,by omega,h3,h4,h⟩⟩]
    rw [decide_eq_false h4, if_pos (by rfl), decide_eq_false (show ¬ dL d.nodes i n from fun h => h4 h.2.2.2.1)];rfl
   rw [hbad,aA]
   cases hg:decide (dL d.nodes i n) with
   | false=>rw [if_pos (by rfl),if_pos (by rfl)];rfl
   | true=>
    rw [if_neg (by simp),vB hnt (λm hm=>ho m (List.mem_of_mem_take hm)) (ho.at hn) (by omega),aA]
    cases hf:(d.nodes.take i).findIdx? (λm=>decide (m=n)) with
    | some j=>
     have hm:n∈d.nodes.take i:=by
      rcases Classical.em (n∈d.nodes.take i) with h|h
      ·exact h
      rw [mem_find.2 h] at hf;cases hf
     rw [List.findIdx?_eq_some_iff_getElem] at hf;obtain⟨hj,_,_⟩:=hf;dsimp only;rw [if_neg (by omega),if_pos (by simp [hm])];rfl
    | none=>
     have hm:=mem_find.1 hf;dsimp only;rw [if_pos (by omega),aB (by unfold I64;omega),if_neg (by simp [hm])];have:d.nodes.take (i+1)=d.nodes.take i++[n]:=by rw [List.take_add_one,hn];rfl
     rw [this]
  dsimp only;rw [if_neg (by omega),List.take_length];rfl
 rw [if_pos (by omega)];refine⟨false,rfl,?_⟩;constructor
 ·intro h;cases h
 intro h;exact absurd h.1 hl
theorem jI:∀ (m:Nat) (l:List Int),l.Nodup→(∀ y∈l,2≤y∧y < (m:Int)+2)→l.length≤m
 | 0,l,_,h=>by
  cases l with
  | nil=>exact zQW _
  | cons x r=>have:=h x (List.mem_cons_self ..);omega
 | m+1,l,hn,h=>by
  have h1:=jI m (l.erase ((m:Int)+2)) (hn.erase _) λy hy=>by
   rw [hn.mem_erase_iff] at hy;have:=h y hy.2;have hne:=hy.1;omega
  rw [List.length_erase] at h1;split at h1<;>omega
theorem iN {D:List Node} (h:WfD D):∀ (f:Nat) (x:Int) (left:List Int),InD D x→left.Nodup→(gB D f x left).Nodup∧∀ y∈gB D f x left,y∈left∨2≤y∧y≤x
 | 0,x,left,hx,hn=>⟨hn,λy hy=>.inl hy⟩
 | f+1,x,left,hx,hn=>by
  unfold gB;split
  ·exact⟨hn,λy hy=>.inl hy⟩
  split
  ·exact⟨hn,λy hy=>.inl hy⟩
  rename_i h2 hm;obtain⟨n,hn'⟩:=hx.get (by omega);have hlo:=h.lo _ n hn';have hhi:=h.hi _ n hn';have hx1:=hx.2;rw [hn'];dsimp only;have r1:=iN h f n.lo left ⟨hlo.1,by omega⟩ hn;have r2:=iN h f n.hi (gB D f n.lo left) ⟨hhi.1,by omega⟩ r1.1
  have hxn:x∉gB D f n.hi (gB D f n.lo left):=λhmem=>by
   rcases r2.2 x hmem with h3|h3
   ·rcases r1.2 x h3 with h4|h4
    ·exact hm h4
    omega
   omega
  refine⟨?_,λy hy=>?_⟩
  ·rw [List.nodup_append];refine⟨r2.1,by simp,λa ha b hb e=>?_⟩;rw [List.mem_singleton.1 hb] at e;exact hxn (e ▸ ha)
  rcases zQN.1 hy with h3|h3
  ·rcases r2.2 y h3 with h4|h4
   ·rcases r1.2 y h4 with h5|h5
    ·exact .inl h5
    exact .inr (by omega)
   exact .inr (by omega)
  rw [List.mem_singleton.1 h3];exact .inr (by omega)
theorem iQ {d:Diagram} (h:WfD d.nodes) (hl:d.nodes.length≤1000000):∀ (fu:Nat) (x:Int) (left:List Int),InD d.nodes x→x < (fu:Int)→left.Nodup→(∀ y∈left,2≤y∧y < (d.nodes.length:Int)+2)→bK fu d x left=some (gB d.nodes fu x left)
 | 0,x,left,hx,hf,hn,hr=>by have:=hx.1;omega
 | fu+1,x,left,hx,hf,hn,hr=>by
  have hx1:=hx.2;have hll:=jI _ left hn hr;unfold bK gB;by_cases h2:x < 2
  ·rw [if_pos h2,if_pos h2]
  rw [if_neg h2,if_neg h2];rw [tG (ρ:=Unit ⊕ List Int) left (λe=>decide (e=x)) (.inr left) (.inl ()) (by omega) ?_ ?_]
  ·by_cases hm:x∈left
   ·rw [if_pos (by rw [zQU]; exact ⟨x, hm, by simp⟩), if_pos hm];rfl
   rw [if_neg (by rw [zQU]; rintro ⟨y, hy, e⟩; exact hm (of_decide_eq_true e ▸ hy)), if_neg hm, eP];obtain⟨n,hn'⟩:=hx.get (by omega);have hlo:=h.lo _ n hn';have hhi:=h.hi _ n hn';have ilo:InD d.nodes n.lo:=⟨hlo.1,by omega⟩;have ihi:InD d.nodes n.hi:=⟨hhi.1,by omega⟩;have r1:=iN h fu n.lo left ilo hn;have r2:=iN h fu n.hi (gB d.nodes fu n.lo left) ihi r1.1
   have g1:∀ y∈gB d.nodes fu n.lo left,2≤y∧y < (d.nodes.length:Int)+2:=λy hy=>by
    rcases r1.2 y hy with h3|h3
    ·exact hr y h3
    omega
   have g2:∀ y∈gB d.nodes fu n.hi (gB d.nodes fu n.lo left),2≤y∧y < (d.nodes.length:Int)+2:=λy hy=>by
    rcases r2.2 y hy with h3|h3
    ·exact g1 y h3
    omega
   have hl2:=jI _ _ r2.1 g2;rw [aB (hx.i64 (by omega)).1,cK (by omega) hn',hn',iQ h hl fu n.lo left ilo (by omega) hn hr,aA];rw [aB (hx.i64 (by omega)).1,cK (by omega) hn',iQ h hl fu n.hi _ ihi (by omega) r1.1 g1,aA,aB (by simp;omega)]
  ·intro i e he;have hi:=(zQQ.1 he).1;rw [if_pos (by omega),cI he];by_cases hex:e=x
   ·rw [if_pos hex, if_pos (by simpa using hex)];rfl
   rw [if_neg hex,if_neg (by simpa using hex),aB (by unfold I64;omega)]
  rw [if_neg (by omega)];rfl
theorem xA {d:Diagram} (h:WfD d.nodes) (hl:d.nodes.length≤1000000) {x:Int} (hx:InD d.nodes x):fF d x []=some (gB d.nodes aH x []):=by
 unfold fF;exact iQ h hl aH x [] hx (by have:=hx.2;unfold aH;omega) List.nodup_nil λy hy=>by cases hy
theorem yY {l:List Int} {m:Nat}:(l=fS m)↔((List.range l.length).any (λi=>!decide (l[i]?=some ((i:Int)+2)))=false∧l.length=m):=by
 constructor
 ·intro h;subst h;refine⟨?_,eF m⟩;rw [List.any_eq_false];intro i hi;have hi:=List.mem_range.1 hi;rw [eF] at hi;simp [fS,hi]
 rintro⟨h1,h2⟩;rw [List.any_eq_false] at h1;refine List.ext_getElem? λi=>?_;by_cases hi:i < l.length
 ·have:=h1 i (List.mem_range.2 hi);simp only [Bool.not_eq_true,Bool.not_eq_false',decide_eq_true_eq] at this;rw [this];simp [fS,h2 ▸ hi]
 rw [List.getElem?_eq_none (by omega),List.getElem?_eq_none (by rw [eF];omega)]
theorem fK {d:Diagram} (ho:NOK d.nodes):∃ b,cA d=some b∧(b=true↔ValidD d):=by
 unfold cA;by_cases h0:d.nodes.length=0
 ·rw [if_pos (by omega)];refine⟨_,rfl,?_⟩;have hnil:d.nodes=[]:=List.length_eq_zero_iff.1 h0;unfold ValidD;rw [if_pos h0];have hw:=(any_bad (D:=d.nodes)).1 (by rw [h0];rfl);simp [h0,hw]
 rw [if_neg (by omega)];by_cases hl:d.nodes.length≤20000
 ·rw [if_neg (by omega), aB (by unfold I64; omega), aA];by_cases hr:d.root=(d.nodes.length:Int)+1
  ·rw [if_neg (by simp [hr])];rw [mH (ρ:=Unit ⊕ Bool) d.nodes.length (pY d.nodes) (.inr false) (.inl ()) (by omega) ?_ ?_]
   ·cases ha:(List.range d.nodes.length).any (pY d.nodes) with
    | true=>
     refine⟨false,rfl,?_⟩;constructor
     ·intro h;cases h
     intro h;have:=any_bad.2 h.2.1;rw [ha] at this;cases this
    | false=>
     have hw:=any_bad.1 ha;have hin:InD d.nodes d.root:=by unfold InD;omega
     rw [if_neg (by simp),eP,xA hw.1 (by omega) hin,aA];have inv:=iN hw.1 aH d.root [] hin List.nodup_nil
     have hlen:=jI d.nodes.length _ inv.1 λy hy=>by
      rcases inv.2 y hy with h|h
      ·cases h
      omega
     have hvis:=iL hw.1 aH d.root 0 d.nodes.length hin (by unfold aH;omega);rw [show fS 0=[] from rfl,show ((0:Nat):Int)+2=2 from rfl] at hvis;generalize gB d.nodes aH d.root []=l at hlen hvis;rw [mH (ρ:=Unit ⊕ Bool) l.length (λi=>!decide (l[i]?=some ((i:Int)+2))) (.inr false) (.inl ()) (by omega) ?_ ?_]
     ·have hV:ValidD d↔l=fS d.nodes.length:=by
       unfold ValidD;rw [if_neg h0,hvis];exact⟨λh=>h.2.2.2,λh=>⟨hl,hw,hr,h⟩⟩
      rw [hV,yY]
      cases hb:(List.range l.length).any λi=>!decide (l[i]?=some ((i:Int)+2)) with
      | true=>
       refine⟨false,rfl,?_⟩;simp
      | false=>
       rw [if_neg (by simp),eP];refine⟨_,rfl,?_⟩;rw [decide_eq_true_eq];constructor
       ·intro h;exact⟨rfl,by omega⟩
       intro h;have:=h.2;omega
     ·intro i hi;rw [if_pos (by omega),cI (zQR hi),aB (by unfold I64;omega),zQR hi];by_cases he:l[i]=(i:Int)+2
      ·rw [if_pos he,aB (by unfold I64;omega),if_neg (by simp [he])]
      rw [if_neg he, if_pos (by simp [he])];rfl
     rw [if_neg (by omega)];rfl
   ·intro i hi;have hn:=zQR hi;rw [if_pos (by omega),cI hn,lT hn];generalize d.nodes[i]=n at hn;by_cases hb1:n.var < 0∨63 < n.var∨n.lo=n.hi
    ·have hng:¬ dL d.nodes i n:=λh=>by
      rcases hb1 with h'|h'|h'
      ·have:=h.1;omega
      ·have:=h.2.1;omega
      exact h.2.2.1 h'
     rw [if_pos (by simpa using hb1),decide_eq_false hng,if_pos (by rfl)];rfl
    rw [if_neg (by simpa using hb1)];have hv:0≤n.var∧n.var < 64∧n.lo≠n.hi:=⟨by omega,by omega,λe=>hb1 (.inr (.inr e))⟩
    have hcond : ∀ k : Int, I64 k → (if k < (0 : Int) then some true
          else
           aD (I64 ((i : Int) + (2 : Int))) <|
           if ((i : Int) + (2 : Int)) ≤ k then some true
           else
            if (1 : Int) < k then
             aD (I64 (k - (2 : Int))) <|
             bN d.nodes (k - (2 : Int)) fun e34 => some (decide (e34.var ≤ n.var))
            else some false) = some (!decide (0 ≤ k ∧ k < (i : Int) + 2 ∧ n.var < aG d.nodes k)) := fun k hk => by
     by_cases k0:k < 0
     ·rw [if_pos k0,decide_eq_false (by omega)];rfl
     rw [if_neg k0, aB (by unfold I64; omega)];by_cases k1:(i:Int)+2≤k
     ·rw [if_pos k1,decide_eq_false (by omega)];rfl
     rw [if_neg k1];by_cases k2:1 < k
     ·have hkl : (k - 2).toNat < d.nodes.length := by omega
      have hvk:aG d.nodes k=d.nodes[(k - 2).toNat].var:=by unfold aG;rw [if_neg (by omega),zQR hkl]
      rw [if_pos k2,aB (by unfold I64 at *; omega),cK (by omega) (zQR hkl),hvk]
      congr 1
      rw [← decide_not];simp only [decide_eq_decide];omega
     rw [if_neg k2];have hvk:aG d.nodes k=64:=by unfold aG;rw [if_pos (by omega)]
     rw [hvk,decide_eq_true (by omega)];rfl
    have hi64:I64 n.lo∧I64 n.hi:=⟨(ho.at hn).2.1,(ho.at hn).2.2⟩;rw [tG [n.lo,n.hi] (λk=>!decide (0≤k∧k < (i:Int)+2∧n.var < aG d.nodes k)) (Sum.inr (Sum.inr (Sum.inr (Sum.inr false)))) (Sum.inl ()) (by simp) ?_ ?_]
    ·by_cases hg:dL d.nodes i n
     ·have hany:([n.lo,n.hi].any λk=>!decide (0≤k∧k < (i:Int)+2∧n.var < aG d.nodes k))=false:=by
       rw [List.any_cons,List.any_cons,List.any_nil,decide_eq_true hg.2.2.2.1,decide_eq_true hg.2.2.2.2];rfl
      rw [if_neg (by rw [hany];simp),eP];rw [mH i (λq=>decide (d.nodes[q]?=some n)) (Sum.inr (Sum.inr (Sum.inr false))) (Sum.inl ()) (by omega) ?_ ?_]
      ·have hmem:((List.range i).any λq=>decide (d.nodes[q]?=some n))=decide (n∈d.nodes.take i):=by
        rw [Bool.eq_iff_iff,zQU,decide_eq_true_eq];constructor
        ·rintro⟨q,hq,e⟩;have hq:=List.mem_range.1 hq;have e:=of_decide_eq_true e;exact zQM (i:=q) (by rw [List.getElem?_take,if_pos hq];exact e)
        intro hm;obtain⟨q,hq⟩:=List.getElem?_of_mem hm;rw [List.getElem?_take] at hq;split at hq
        ·exact⟨q,List.mem_range.2 (by assumption),decide_eq_true hq⟩
        cases hq
       rw [hmem,decide_eq_true hg];by_cases hm:n∈d.nodes.take i
       ·rw [decide_eq_true hm,if_pos rfl];rfl
       rw [decide_eq_false hm,if_neg (by simp),if_neg (by simp),eP,aB (by unfold I64;omega)]
      ·intro q hq;have hql:q < d.nodes.length:=by omega
       rw [if_pos (by omega),cI (zQR hql),aB ⟨ho _ (List.getElem_mem hql),ho.at hn⟩,zQR hql];by_cases he:d.nodes[q]=n
       ·rw [if_pos he, if_pos (by simp [he])];rfl
       rw [if_neg he,if_neg (by simp [he]),aB (by unfold I64;omega)]
      rw [if_neg (by omega)];rfl
     have hany:([n.lo,n.hi].any λk=>!decide (0≤k∧k < (i:Int)+2∧n.var < aG d.nodes k))=true:=by
      rw [List.any_cons,List.any_cons,List.any_nil,Bool.or_false];rcases Classical.em (0≤n.lo∧n.lo < (i:Int)+2∧n.var < aG d.nodes n.lo) with h1|h1
      ·rcases Classical.em (0≤n.hi∧n.hi < (i:Int)+2∧n.var < aG d.nodes n.hi) with h2|h2
       ·exact absurd ⟨hv.1,hv.2.1,hv.2.2,h1,h2⟩ hg
       rw [decide_eq_false h2];simp
      rw [decide_eq_false h1];simp
     rw [if_pos hany,decide_eq_false hg,if_pos (by rfl)];rfl
    ·intro j e he;have hj:=(zQQ.1 he).1
     have hie:I64 e:=by
      have:=zQM he;simp only [zQB,List.not_mem_nil,or_false] at this;rcases this with rfl|rfl
      ·exact hi64.1
      exact hi64.2
     rw [if_pos (by omega),cI he,hcond e hie,aA];by_cases hk:0≤e∧e < (i:Int)+2∧n.var < aG d.nodes e
     ·rw [decide_eq_true hk,if_neg (by simp),if_neg (by simp),aB (by simp only [List.length_cons,List.length_nil] at hj;unfold I64;omega)]
     rw [decide_eq_false hk, if_pos (by rfl), if_pos (by rfl)];rfl
    rw [if_neg (by omega)];rfl
   rw [if_neg (by omega)];rfl
  rw [if_pos (by simp [hr])];refine⟨false,rfl,?_⟩;unfold ValidD;rw [if_neg h0];exact⟨λh=>(by cases h),λh=>absurd h.2.2.1 hr⟩
 rw [if_pos (by omega), aA, if_pos rfl];refine⟨false,rfl,?_⟩;constructor
 ·intro h;cases h
 intro h;exact absurd h.1 hl
theorem rZ:fA=some true:=by decide+kernel
theorem qS {D:List Node} (h:WfD D) (vals:List Bool) (F:Int→Option (Int ⊕ Int)) (hF:∀ x,InD D x→F x=if 1 < x then (match D[(x - 2).toNat]? with|some n=>some (.inl (if asg 0 vals n.var=true then n.hi else n.lo))|none=>none) else some (.inr x)):
  ∀ (f:Nat) (x:Int),InD D x→x < (f:Int)→∃ y,gR F f x=some y∧decide (y=1)=eU D x (asg 0 vals)
 | 0,x,hx,hf=>by have:=hx.1;omega
 | f+1,x,hx,hf=>by
  simp only [gR];rw [hF x hx];by_cases h1:1 < x
  ·obtain ⟨n, hn⟩ := hx.get (by omega);have hlo:=h.lo _ n hn;have hhi:=h.hi _ n hn;have hx1:=hx.2;rw [if_pos h1,hn];dsimp only;rw [eB h (by omega) hn]
   cases asg 0 vals n.var with
   | true=>rw [if_pos rfl];exact qS h vals F hF f n.hi ⟨hhi.1,by omega⟩ (by omega)
   | false=>rw [if_neg (by simp)];exact qS h vals F hF f n.lo ⟨hlo.1,by omega⟩ (by omega)
  rw [if_neg h1];refine⟨x,rfl,?_⟩;have hx0:=hx.1;rcases (by omega:x=0∨x=1) with e|e<;>subst e<;>rfl
theorem asg_at (vals:List Bool) {v:Int} (h:0≤v):(if v < (vals.length:Int) then bN vals v λe=>some e else some false)=some (asg 0 vals v):=by
 unfold asg;by_cases hv:v < (vals.length:Int)
 ·rw [if_pos hv, cK h (lM (by omega))];simp [h]
 rw [if_neg hv, decide_eq_true h, zQD, List.getElem?_eq_none (by omega)];rfl
theorem zL {d : Diagram} (h : WfD d.nodes) (hl : d.nodes.length ≤ 1000000) (hr : InD d.nodes d.root) (vals : List Bool) : ∃ y, bP (fun n4 =>
   if (1 : Int) < n4 then
    aD (I64 (n4 - (2 : Int))) <|
    bN d.nodes (n4 - (2 : Int)) fun e8 =>
    aC (
     if e8.var < (vals.length : Int) then
      bN vals e8.var fun e12 =>
      some e12
     else
      some false) fun x9 =>
    if x9 = true then
     some (.inl e8.hi)
    else
     some (.inl e8.lo)
   else
    aY (
     some n4)) d.root = some y ∧ decide (y = 1) = fnD d.nodes d.root 0 vals := by
 unfold fnD bP;refine qS h vals _ (λx hx=>?_) aH d.root hr (by have:=hr.2;unfold aH;omega);by_cases h1:1 < x
 ·obtain ⟨n, hn⟩ := hx.get (by omega);rw [if_pos h1,if_pos h1,aB (hx.i64 (by omega)).1,cK (by omega) hn,hn,asg_at vals (h.vars _ n hn).1,aA];dsimp only;split<;>rfl
 rw [if_neg h1,if_neg h1];rfl
theorem iJ {d:Diagram} (h:WfD d.nodes) (hl:d.nodes.length≤1000000) (hr:InD d.nodes d.root) (vals:List Bool):bZ d vals=some (fnD d.nodes d.root 0 vals):=by
 unfold bZ;obtain⟨y,e,hy⟩:=zL h hl hr vals;rw [e,aA,hy]
theorem ValidD.root {d:Diagram} (h:ValidD d):InD d.nodes d.root:=by
 have h3:=h.2.2;unfold InD;split at h3
 ·omega
 have:=h3.1;omega
end Go.Proofs.Ytdkhkhidekpfoaa
