/- Texts of this proof, joined, without what it does not use. No condition. -/
import Derived.Lib.SlicesCompact
import Derived.Test.YtofndjhpbonpbaaGreatDoorQn

namespace Go.TL
open Go.Sort Go.Proofs
variable {C:Ctx} {st:St} {g:Gh} {a:Act} {w:World} {P:Program}
theorem kB {k:Nat} {ids:List Nat} (h:((List.range k).all λi=>ids[i]? == some i)=true) (i:Nat) (hi:i < k):ids[i]?=some i:=by
  have:=zQT.1 h i (List.mem_range.2 hi);simpa using this
theorem Sim.upB (h:Sim C st g a w) {i j:Nat} {t e sz:Nat} {cs:List AV} (hb:st.hp[i]?=some (.box t cs)) (hc:cs[j]?=some (.d .nilsl)):Sim C ⟨st.fr,(st.hp.set i (.box t (cs.set j (.msl st.hp.length sz 0 0))))++[Blk.flat e sz []]⟩ g a w:=by
  have hi:=(zQQ.1 hb).1;have hv:=h.virt e sz
  have h2:Sim C ⟨st.fr,(st.hp++[Blk.flat e sz []]).set i (.box t (cs.set j (.msl st.hp.length sz 0 0)))⟩ g a w:=by
    have hrep:=h.hp i _ hb;obtain⟨b,cells,hp,hw,hps,hl,hr⟩:=hrep;refine { hv with hp:=λk B hk=>?_,lt:=λk b hk=>by have:=hv.lt k b hk;simpa using this,inj:=λk k' b Bk Bk' h1 h2 d1 d2 p1 p2=>?_,kle:=by simpa using hv.kle }
    · rw [List.getElem?_set] at hk
      split at hk
      · rename_i e1
        subst e1;split at hk
        · cases hk
          refine⟨b,cells,hp,hw,hps,by simpa using hl,λq c v hq hv'=>?_⟩;rw [List.getElem?_set] at hq;split at hq
          · rename_i e2
            subst e2;split at hq
            · cases hq
              have:=hr _ _ v hc hv'
              cases this with
              | d _ _ hd=>cases hd with
                | nilsl ad=>exact .msl0 _ _ _ _
            cases hq
          exact hr q c v hq hv'
        cases hk
      exact hv.hp k B hk
    have key:∀ (k:Nat) (Bk:Blk),((st.hp++[Blk.flat e sz []]).set i (.box t (cs.set j (.msl st.hp.length sz 0 0))))[k]?=some Bk->Bk≠.dead->∃ B',(st.hp++[Blk.flat e sz []])[k]?=some B'/\B'≠.dead:=by
      intro k Bk hk hd;rw [List.getElem?_set] at hk;split at hk
      · rename_i e1
        subst e1;exact⟨.box t cs,by rw [List.getElem?_append,if_pos hi];exact hb,λe=>by cases e⟩
      exact⟨Bk,hk,hd⟩
    obtain⟨B1,e1,d1'⟩:=key k Bk h1 d1;obtain⟨B2,e2,d2'⟩:=key k' Bk' h2 d2;exact hv.inj k k' b B1 B2 e1 e2 d1' d2' p1 p2
  rwa [List.set_append,if_pos hi] at h2
theorem fP {ops:Array Oper} {l:List Oper} {K:St->Prop} {fr:Fr} {hp:List Blk} {α:Type} {f:α->D} (i j N e sz:Nat) {t:TypeId} {cs:List AV} (hN:Nat.beq hp.length N=true) (hb:hp[i]?=some (.box t cs)) (hc:cs[j]?=some (.d .nilsl))
    (h:cE C ops l ⟨fr,(hp.set i (.box t (cs.set j (.msl N sz 0 ([]:List α).length))))++[Blk.flat e sz (([]:List α).map f)]⟩ K):cE C ops l ⟨fr,hp⟩ K:=by
  have e:=Nat.eq_of_beq_eq_true hN;subst e;exact λg a w hs=>h g a w (Sim.upB (st:=⟨fr,hp⟩) hs hb hc)
theorem c_upB {c:Code} {Q:Exit->St->Prop} {fr:Fr} {hp:List Blk} {α:Type} {f:α->D} (i j N e sz:Nat) {t:TypeId} {cs:List AV} (hN:Nat.beq hp.length N=true) (hb:hp[i]?=some (.box t cs)) (hc:cs[j]?=some (.d .nilsl))
    (h:TWp C c ⟨fr,(hp.set i (.box t (cs.set j (.msl N sz 0 ([]:List α).length))))++[Blk.flat e sz (([]:List α).map f)]⟩ Q):TWp C c ⟨fr,hp⟩ Q:=by
  have e:=Nat.eq_of_beq_eq_true hN;subst e;exact λg a w hs=>h g a w (Sim.upB (st:=⟨fr,hp⟩) hs hb hc)
theorem qCO {mv:Nat->Bool} {e b:Nat} {xs:List Int} (hout:Out ⟨P,0,w,1,g,mv⟩ [.flat e 1 (xs.map (D.int .i64))] g w) (hb:g.phi 0=some b):
    Holds (Value.int .i64) w b 0 xs.toArray/\b < w.heap.size/\∃ cells,w.heap[b]?=some (.cells cells e (0,0))/\g.psi 0=cells.size/\xs.length<=cells.size:=by
  have hB:=hout.hp 0 _ rfl;rcases hB with ⟨_,hn0⟩|⟨b',cells,hp0,hw,hpsi,hl,hh0,hh1,hr⟩
  · rw [hb] at hn0;cases hn0
  cases hb.symm.trans hp0;refine⟨λj hj=>?_,(hout.lt 0 b hb).1,cells,hw,hpsi,by simpa using hl⟩;have hj':j < xs.length:=by simpa using hj
  obtain⟨v,hv,hd⟩:=hr j (D.int .i64 (xs[j]'hj')) 0 (D.int .i64 (xs[j]'hj')) (by simp [hj']) rfl;rw [Nat.mul_one,Nat.add_zero] at hv;cases hd;rw [Nat.zero_add];refine⟨?_,by simp [World.frozen?,hw]⟩;rw [cell_of_row w b j cells e (0,0) hw,hv,getElem!_pos xs.toArray j hj];simp
theorem qUP {mv:Nat->Bool} {e b:Nat} {xs:List Int} (hout:Out ⟨P,0,w,1,g,mv⟩ [.flat e 1 (xs.map (D.int .i64))] g w) (hb:g.phi 0=some b) (ys zs:List Int) (hlen:(ys++zs).length=xs.length) (m:Nat) (os:Array Obj):
    Out ⟨P,0,w,1,g,mv⟩ [.flat e 1 (ys.map (D.int .i64))] g (Sort.grow (putRow (Value.int .i64) (Sort.ahead w m) b 0 (ys++zs).toArray) os):=by
  obtain⟨_,hblt,cells,hw,hpsi,hcl⟩:=qCO hout hb;have hbw:(Sort.ahead w m).heap[b]?=some (.cells cells e (0,0)):=hw;have hahead:Out ⟨P,0,w,1,g,mv⟩ [.flat e 1 (xs.map (D.int .i64))] g (Sort.ahead w m):=Sim.sameHeap hout rfl rfl rfl rfl (Nat.le_add_right _ _)
  have hwr:(putRow (Value.int .i64) (Sort.ahead w m) b 0 (ys++zs).toArray).heap[b]?=some (.cells (putCells (Value.int .i64) 0 (ys++zs).toArray cells) e (0,0)):=by
    show ((Sort.ahead w m).heap.modify b _)[b]?=_;rw [Array.getElem?_modify,if_pos rfl,hbw];rfl
  have hoth:∀ b',b'≠b->(putRow (Value.int .i64) (Sort.ahead w m) b 0 (ys++zs).toArray).heap[b']?=(Sort.ahead w m).heap[b']?:=λb' hb'=>by
    show ((Sort.ahead w m).heap.modify b _)[b']?=_;rw [Array.getElem?_modify,if_neg (λe=>hb' e.symm)]
  have hsz:(putRow (Value.int .i64) (Sort.ahead w m) b 0 (ys++zs).toArray).heap.size=(Sort.ahead w m).heap.size:=by
    show ((Sort.ahead w m).heap.modify b _).size=_;simp
  have hch := Sim.change (i := 0) (b := b) (B0 := .flat e 1 (xs.map (D.int .i64))) hahead rfl (fun e => by cases e) hb (w' := putRow (Value.int .i64) (Sort.ahead w m) b 0 (ys ++ zs).toArray) hsz rfl rfl rfl (zQW _) hoth
    (B:=.flat e 1 (ys.map (D.int .i64))) (.inr ⟨b,_,hb,hwr,?_,?_,λk d hk=>?_,λk d j c hk hc=>?_,λk d j c hk hc=>?_⟩)
  · exact Sim.grow hch 0 os
  · rw [hpsi,nB]
  · rw [nB]
    simp only [zQC,zQL] at hlen ⊢;omega
  · simp only [zQP,zQO] at hk
    obtain⟨x,_,rfl⟩:=hk;rfl
  · simp only [zQP,zQO] at hk
    obtain⟨x,_,rfl⟩:=hk
    cases j with
    | zero=>cases hc;rfl
    | succ j=>simp [D.cells] at hc
  simp only [zQP,zQO] at hk;obtain⟨x,hx,rfl⟩:=hk;have hk':=(zQQ.1 hx).1
  cases j with
  | succ j=>simp [D.cells] at hc
  | zero=>
    cases hc;have hx2:(ys++zs)[k]?=some x:=by rw [List.getElem?_append,if_pos hk'];exact hx
    have hk2:=(zQQ.1 hx2).1;refine⟨.int .i64 x,?_,.int _ _⟩;rw [Nat.mul_one,Nat.add_zero,qAH (Value.int .i64) 0 _ cells k (by omega),if_pos ⟨Nat.zero_le _,by simpa using hk2⟩,Nat.sub_zero,getElem!_pos (ys++zs).toArray k (by simpa using hk2)];have:=(zQQ.1 hx2).2;simp only [List.getElem_toArray];rw [this]
def qWH (x y:Int):Option Int:=some (if x < y then -1 else if y < x then 1 else 0)
theorem wU (x y:Int):ltM qWH x y=decide (x < y):=by
  unfold ltM qWH;simp only [Option.getD_some];by_cases h:x < y
  · rw [if_pos h,decide_eq_true h];rfl
  rw [if_neg h,decide_eq_false h];split<;>rfl
theorem qJQ:SortOk qWH where
  tot x y:=⟨_,rfl⟩
  irrefl x:=by rw [wU];simp
  trans x y z h1 h2:=by rw [wU] at *; simp at *; omega
  ntrans x y z h1 h2:=by rw [wU] at *; simp at *; omega
  anti x y h1 h2:=by rw [wU] at *; simp at *; omega
def kZ (l:List Int):List Int:=pQ qWH l
theorem qNN (l:List Int):(l.mergeSort λx y=>decide (x<=y))=kZ l:=by
  have h:=qDC qJQ l
  have e:(λx y:Int=>!ltM qWH y x)=λx y=>decide (x<=y):=by
    funext x y
    rw [wU];by_cases h:y < x
    · rw [decide_eq_true h,decide_eq_false (by omega)];rfl
    rw [decide_eq_false h,decide_eq_true (by omega)];rfl
  rw [e] at h;exact h
theorem gU (l:List Int):(kZ l).length=l.length:=oQ _
theorem qWP {F:FuncId} (e:TypeId) (mv:Nat->Bool) (xs:List Int) (hcbF:qW P F=true) (hlen:xs.length < 4611686018427387904)
    (hnone:∀ (p:Option Addr) (cap:Nat) (w:World),Calls P F #[.slice p 0 cap] w λe w'=>e=.returned (.tuple #[])/\w'=w)
    (hsort : ∀ (blk off cap : Nat) (zs : List Int) (w : World), Holds (Value.int .i64) w blk off zs.toArray -> blk < w.heap.size -> zs.length < 4611686018427387904 ->
      Calls P F #[.slice (some ⟨blk, off, none⟩) zs.length cap] w fun e w' => e = .returned (.tuple #[]) /\ ∃ n os, w' = Sort.grow (putRow (Value.int .i64) (Sort.ahead w n) blk off (zs.mergeSort fun x y => decide (x <= y)).toArray) os) :
    Ret P F [.flat e 1 (xs.map (D.int .i64))] mv [.msl 0 1 0 xs.length] (.tup []) [.flat e 1 ((kZ xs).map (D.int .i64))]:=by
  refine⟨hcbF,λw g vs hout hargs=>?_⟩
  obtain⟨v0,rfl⟩:∃ v0,vs=#[v0]:=by
    have hl:vs.size=1:=by have:=hargs.1;simpa using this.symm
    exact⟨vs[0],by apply Array.ext;simp [hl];intro i h1 h2;match i,h2 with|0,_=>rfl⟩
  have h0:=hargs.2 0 _ _ rfl rfl;generalize hn:xs.length=n at h0
  cases h0 with
  | msl0 _ _ _ ad=>
    have hxs:xs=[]:=List.eq_nil_of_length_eq_zero hn;subst hxs;refine (hnone ad 0 w).mono ?_;rintro e w' ⟨rfl,rfl⟩;exact⟨_,g,rfl,hout,.tup [] #[] rfl λi c v h=>by simp at h⟩
  | msl _ _ _ _ cap b hb hc hpz=>
    subst hn;rw [Nat.zero_mul];obtain⟨hH,hblt,_⟩:=qCO hout hb;refine (show Calls P F #[.slice (some ⟨b,0,none⟩) xs.length cap] w _ from hsort b 0 cap xs w hH hblt hlen).mono ?_;rintro e' w' ⟨rfl,m,os,rfl⟩;refine⟨_,g,rfl,?_,.tup [] #[] rfl λi c v h=>by simp at h⟩;have:=qUP hout hb (kZ xs) [] (by rw [List.append_nil,gU]) m os;rw [List.append_nil] at this;rw [qNN];exact this
theorem qGV (xs:List Int):(Lib.compact xs).length<=xs.length:=by
  unfold Lib.compact Lib.compactUpTo;rw [zQC];exact Nat.le_trans (List.length_filter_le _ _) (by simp)
theorem qLA {F:FuncId} (e:TypeId) (mv:Nat->Bool) (xs:List Int) (hcbF:qW P F=true) (hlen:xs.length<=9223372036854775807)
    (hnone:∀ (p:Option Addr) (cap:Nat) (w:World),Calls P F #[.slice p 0 cap] w λe w'=>e=.returned (.slice p 0 cap)/\w'=w)
    (hcomp : ∀ (blk off cap : Nat) (zs : List Int) (w : World), Holds (Value.int .i64) w blk off zs.toArray -> zs.length <= 9223372036854775807 -> zs.length <= cap ->
      Calls P F #[.slice (some ⟨blk, off, none⟩) zs.length cap] w fun e w' => e = .returned (.slice (some ⟨blk, off, none⟩) (Lib.compact zs).length cap) /\ ∃ q, w' = putRow (Value.int .i64) (Sort.ahead w q) blk off (Lib.compact zs ++ List.replicate (zs.length - (Lib.compact zs).length) 0).toArray) :
    Ret P F [.flat e 1 (xs.map (D.int .i64))] mv [.msl 0 1 0 xs.length] (.msl 0 1 0 (Lib.compact xs).length) [.flat e 1 ((Lib.compact xs).map (D.int .i64))]:=by
  refine⟨hcbF,λw g vs hout hargs=>?_⟩
  obtain⟨v0,rfl⟩:∃ v0,vs=#[v0]:=by
    have hl:vs.size=1:=by have:=hargs.1;simpa using this.symm
    exact⟨vs[0],by apply Array.ext;simp [hl];intro i h1 h2;match i,h2 with|0,_=>rfl⟩
  have h0:=hargs.2 0 _ _ rfl rfl;generalize hn:xs.length=n at h0
  cases h0 with
  | msl0 _ _ _ ad=>
    have hxs:xs=[]:=List.eq_nil_of_length_eq_zero hn;subst hxs;refine (hnone ad 0 w).mono ?_;rintro e w' ⟨rfl,rfl⟩;exact⟨_,g,rfl,hout,.msl0 _ _ _ _⟩
  | msl _ _ _ _ cap b hb hc hpz=>
    subst hn;rw [Nat.zero_mul];obtain⟨hH,hblt,_⟩:=qCO hout hb;refine (show Calls P F #[.slice (some ⟨b,0,none⟩) xs.length cap] w _ from hcomp b 0 cap xs w hH hlen (by omega)).mono ?_;rintro e' w' ⟨rfl,m,rfl⟩;have hcl:=qGV xs;refine⟨_,g,rfl,?_,?_⟩
    · have := qUP hout hb (Lib.compact xs) (List.replicate (xs.length - (Lib.compact xs).length) 0) (by simp; omega) m #[]
      have hg:∀ W:World,Sort.grow W #[]=W:=λW=>by unfold Sort.grow;simp
      rwa [hg] at this
    have := ARep.msl (w := putRow (Value.int .i64) (Sort.ahead w m) b 0 (Lib.compact xs ++ List.replicate (xs.length - (Lib.compact xs).length) 0).toArray) (g := g) 0 1 0 (Lib.compact xs).length cap b hb (by omega) hpz;simpa using this
def qZG (hs:List Nat):AV->AV
  | .msl i s o l=>.msl (hs.getD i 0) s o l
  | .mptr i s x o=>.mptr (hs.getD i 0) s x o
  | .mmap i=>.mmap (hs.getD i 0)
  | .yld i=>.yld (hs.getD i 0)
  | .mmapN i n=>.mmapN (hs.getD i 0) n
  | v=>v
theorem qZA {o:Oper} {ev:Operand->AV} {hp:List Blk} (hs:List Nat) {f:Operand} {xs:Array Operand} {ts:Array TypeId} {F:FuncId} {mv:Nat->Bool} {ds:List D} {r r':AV} {Bs:List Blk} (hi:∀ i∈hs,hp[i]?=some .hole) (hnd:hs.Nodup) (hl:Bs.length=hs.length) (ho:o.op=.call { callee:=.value f,args:=xs,argTypes:=ts })
    (hf:ev f=.d (.fn F)) (hx:xs.toList.map ev=ds.map .d) (hret:Ret C.P F [] mv (ds.map .d) r Bs) (hm:∀ B∈Bs,qRP B) (hmr:AMem0 r) (hrr:r.mapRef (qZG hs)=r') (hBB:∀ B∈Bs,B.mapRef (λ_=>.junk)=B):DOk C o ev hp r' (hs.zip Bs):=by
  intro st hhp hlen _ hag g a w hsim Q K' hK;have hih:∀ i∈hs,st.hp[i]?=some .hole:=λi h=>wW (hi i h) hhp;have hno:∀ i∈hs,g.phi i=none:=λi h=>hsim.hp i _ (hih i h);have hil:∀ i∈hs,i < st.hp.length:=λi h=>(zQQ.1 (hih i h)).1;have hfv:=hsim.ev f;rw [hag f (by simp [ho,Op.operands,Call.operands]),hf] at hfv
  have hargs:Pw (ARep w (cS g.X)) (ds.map .d) (xs.map a.eval).toList:=by
    have:=qVD (cs:=[]) (vs:=#[]) hsim (λy hy=>hag y (by simp only [ho,Op.operands,Call.operands];exact Array.mem_append.2 (.inr hy))) hx ⟨rfl,λi x y h=>by simp at h⟩;simpa using this
  simp only [Oper.wp,dN ho (qCR hfv) hret.1,Oper.upon_enter,Array.append_empty];refine (hret.2 w (cS g.X) _ (qPE hsim mv hsim.Xlt) hargs).mono ?_;rintro e w' ⟨v,g',rfl,hout,hr⟩;have hold:∀ b,b < w.heap.size->w'.heap[b]?=w.heap[b]?:=λb hb=>hout.keep b hb λi hi=>absurd hi (zQV i);have hsz:=hout.grown;simp only at hsz
  have hnew:∀ j b,g'.phi j=some b->w.heap.size<=b:=by
    intro j b hp;rcases Nat.lt_or_ge b w.heap.size with hlt|hge
    · exact absurd (hout.own j b hp hlt).1 (zQV _)
    exact hge
  let g2:Gh:={ phi:=λj=>match bG hs j with|some i=>g'.phi i|none=>g.phi j,psi:=λj=>match bG hs j with|some i=>g'.psi i|none=>g.psi j,X:=g.X }
  have hin:∀ {j i:Nat},bG hs j=some i->j∈hs:=λh=>zQM (bT hs _ _ h)
  have hgr:Grow w g w' g2:=by
    refine⟨λj b hp=>?_,λj b hp=>?_,λ_ h=>h,λb hb=>hold b (hsim.Xlt b hb)⟩
    · cases hpl:bG hs j with
      | some i=>rw [hno j (hin hpl)] at hp;cases hp
      | none=>simpa [g2,hpl] using hp
    cases hpl:bG hs j with
    | some i=>rw [hno j (hin hpl)] at hp;cases hp
    | none=>simp [g2,hpl]
  have hphi:∀ j b,g2.phi j=some b->(∃ i,bG hs j=some i/\g'.phi i=some b)\/(bG hs j=none/\g.phi j=some b):=by
    intro j b hp
    cases hpl:bG hs j with
    | some i=>exact .inl ⟨i,rfl,by simpa [g2,hpl] using hp⟩
    | none=>exact .inr ⟨rfl,by simpa [g2,hpl] using hp⟩
  have hzl:∀ p∈hs.zip Bs,p.1 < st.hp.length:=λp hp=>hil _ (List.of_mem_zip hp).1
  have hzn:((hs.zip Bs).map (·.1)).Nodup:=by
    rw [List.map_fst_zip (by omega)];exact hnd
  have hwr:=λb=>qBF (hs.zip Bs) st.hp b hzl hzn
  have hget:∀ {j i:Nat} {B:Blk},hs[i]?=some j->Bs[i]?=some B->(wr (hs.zip Bs) st.hp)[j]?=some B:=by
    intro j i B h1 h2;have:(hs.zip Bs)[i]?=some (j,B):=by rw [List.getElem?_zip_eq_some];exact⟨h1,h2⟩
    exact (hwr j).1 (j,B) (zQM this) rfl
  have hgetN:∀ {j:Nat},bG hs j=none->(wr (hs.zip Bs) st.hp)[j]?=st.hp[j]?:=by
    intro j hpl;refine (hwr j).2 λp hp e=>?_;obtain⟨i,hi⟩:=List.getElem?_of_mem (List.of_mem_zip hp).1;rw [e] at hi;exact oU hpl i hi
  have hB:∀ {j i:Nat} {B:Blk},bG hs j=some i->Bs[i]?=some B->BRep w' g2 j B:=by
    intro j i B hpl hBi;have h1:=BRep.any (Y:=λ_=>False) (hout.hp i B hBi) (hm B (zQM hBi));have h2:=BRep.mapRef (g':=g2) (F:=λ_=>.junk) (j:=j) (by simp [g2,hpl]) (by simp [g2,hpl]) (λb hb=>False.elim hb) (λx v _ _=>.junk v) h1
    rwa [hBB B (zQM hBi)] at h2
  have hBs:∀ {j i:Nat},bG hs j=some i->∃ B,Bs[i]?=some B:=by
    intro j i hpl;have:=(zQQ.1 (bT hs _ _ hpl)).1;exact⟨Bs[i]'(by omega),zQR _⟩
  have hlw:(wr (hs.zip Bs) st.hp).length=st.hp.length:=sL _ _;refine hK v w' g2 ?_ ?_
  · refine { defers := hsim.defers, size := hsim.size, fr := fun t => (hsim.fr t).mono hgr, hp := ?_, lt := ?_, inj := ?_, Xlt := ?_, Xold := hsim.Xold, os := hout.os.trans hsim.os, tape := hout.tape.trans hsim.tape, output := hout.output.trans hsim.output, drawn := Nat.le_trans hsim.drawn hout.drawn, grown := Nat.le_trans hsim.grown hsz, keep := ?_, own := ?_, stay := ?_, kle := ?_, laid := hsim.laid }
    · intro j B hj
      cases hpl:bG hs j with
      | some i=>
        obtain⟨B',hB'⟩:=hBs hpl;have:=hget (bT hs _ _ hpl) hB';simp only at hj;rw [this] at hj;cases hj;exact hB hpl hB'
      | none=>
        simp only at hj;rw [hgetN hpl] at hj;refine (hsim.hp j B hj).mono hgr (λhn=>by simpa [g2,hpl] using hn) λb hb=>hold b (hsim.lt j b hb).1
    · intro j b hp
      simp only [hlw];rcases hphi j b hp with ⟨i,hpl,hp'⟩|⟨_,hp'⟩
      · exact⟨(hout.lt i b hp').1,hil j (hin hpl),λhX=>by have:=hsim.Xlt b hX;have:=hnew i b hp';omega⟩
      have:=hsim.lt j b hp';exact⟨by omega,this.2.1,this.2.2⟩
    · intro j j' b Bj Bj' hBj hBj' hdj hdj' hj hj'
      simp only at hBj hBj';rcases hphi j b hj with ⟨i,hpl,h1⟩|⟨hpl,h1⟩<;>rcases hphi j' b hj' with ⟨i',hpl',h2⟩|⟨hpl',h2⟩
      · obtain⟨B1,e1⟩:=hBs hpl
        obtain⟨B2,e2⟩:=hBs hpl';rw [hget (bT hs _ _ hpl) e1] at hBj;rw [hget (bT hs _ _ hpl') e2] at hBj';cases hBj;cases hBj';have:=hout.inj i i' b _ _ e1 e2 hdj hdj' h1 h2;subst this;have h3:=bT hs _ _ hpl;rw [bT hs _ _ hpl'] at h3;exact (Option.some.inj h3).symm
      · have:=(hsim.lt _ _ h2).1;have:=hnew i b h1;omega
      · have:=(hsim.lt _ _ h1).1;have:=hnew i' b h2;omega
      rw [hgetN hpl] at hBj;rw [hgetN hpl'] at hBj';exact hsim.inj j j' b Bj Bj' hBj hBj' hdj hdj' h1 h2
    · intro b hX;have:=hsim.Xlt b hX;omega
    · intro b hb hk;rw [hold b (by have:=hsim.grown;omega)];exact hsim.keep b hb hk
    · intro j b hp hb
      rcases hphi j b hp with ⟨i,_,hp'⟩|⟨_,hp'⟩
      · have:=hnew i b hp';have:=hsim.grown;omega
      exact hsim.own j b hp' hb
    · intro j b hj hmj hp
      have hst:=hsim.stay j b hj hmj hp
      have hpl:bG hs j=none:=by
        cases h:bG hs j with
        | none=>rfl
        | some i=>rw [hno j (hin h)] at hst;cases hst.2
      simpa [g2,hpl] using hst
    simp only [hlw];exact hsim.kle
  subst hrr;have h1:=ARep.any (Y:=g.X) hr hmr;refine ARep.mapRef (w:=w') (g:={ g' with X:=g.X }) (g':=g2) (λd v hd=>hd) (λx v hx hr=>?_) h1
  have hat:∀ {id b:Nat},g'.phi id=some b->g2.phi (hs.getD id 0)=some b/\g2.psi (hs.getD id 0)=g'.psi id:=by
    intro id b hb;have hid:=(hout.lt id b hb).2.1;simp only at hid;have hlt:id < hs.length:=by omega
    have hge:hs[id]?=some (hs.getD id 0):=by rw [zQD,zQR hlt];rfl
    have hpl:=uB hnd hge;exact⟨by simp only [g2,hpl];exact hb,by simp only [g2,hpl]⟩
  cases hx with
  | msl0=>exact .msl0 _ _ _ _
  | msl id sz off len cap b hb hc hp=>exact .msl _ _ _ _ cap b (hat hb).1 hc (by rw [(hat hb).2];exact hp)
  | mptr id sz idx off b hb=>exact .mptr _ _ _ _ b (hat hb).1
  | mmap id b hb=>exact .mmap _ b (hat hb).1
  | yld id b hb=>exact .yld _ b (hat hb).1
  | mmapN0=>exact .mmapN0 _
  | mmapN id n b hb=>exact .mmapN _ _ b (hat hb).1
  | _=>cases hr
theorem uT {T:Tab} {o:Oper} {ev:Operand->AV} {hp:List Blk} {t:TypeId} {x y:Operand} {id off s:Nat} {bb:Bool} {bt:TypeId} {cs cs':List AV} {v:AV} (hT:TabOk C.P T) (ho:o.op=.store t x y) (hd:o.dst=none) (hl:lk T.lay t=some (bb,s)) (hx:ev x=.mptr id 0 0 off) (hy:ev y=v) (hf:v.flat=true) (hs:Nat.beq v.cells.length s=true)
    (hb:hp[id]?=some (.box bt cs)) (hc:Nat.ble (off+s) cs.length=true) (hv:spl cs off v.cells=cs'):DOk C o ev hp .junk [(id,.box bt cs')]:=
  qNJ ho hd (hT.lay hl) hx hy hf (Nat.eq_of_beq_eq_true hs) hb (Nat.le_of_ble_eq_true hc) hv
end Go.TL
set_option linter.unusedVariables false
set_option linter.unusedSimpArgs false
namespace Go.TL
open Go.Sort Go.Proofs
variable {C:Ctx}
section rd
variable {T:Tab} {o:Oper} {ev:Operand->AV} {hp:List Blk} {α:Type} {f:α->D} {xs ys:List α}
end rd
variable {P:Program} {C:Ctx} {o:Oper} {ev:Operand->AV} {hp:List Blk} {t t':TypeId} {x y:Operand}
theorem qJL {a b:ByteArray} (ho:o.op=.binOp .add t x y t') (hx:ev x=.d (.str a)) (hy:ev y=.d (.str b)) (hs:a.size+b.size<=9223372036854775807):RdOk C o ev hp (.d (.str (a++b))):=
  RdOk.mk λst hhp hag g a' w hs'=>by
    have h:=hs'.ev x;rw [hag x (by simp [ho,Op.operands]),hx] at h;have hi:=hs'.ev y;rw [hag y (by simp [ho,Op.operands]),hy] at hi;refine⟨.string (a++b),?_,.d _ _ (.str _)⟩
    have e:¬ ((a.size+b.size:Nat):Int) > IntKind.i64.max:=by
      have:IntKind.i64.max=9223372036854775807:=by decide
      omega
    simp only [execOp,ho,str_inv h,str_inv hi];simp [eqGuard,binOp,Op.stringOp,e];omega
def arK (op:BinOp) (k:IntKind) (m n:Int):Option Int:=match op with
  | .add=>some (k.wrap (m+n))
  | .sub=>some (k.wrap (m - n))
  | .mul=>some (k.wrap (m * n))
  | .quo=>if n=0 then none else some (k.wrap (m.tdiv n))
  | .rem=>if n=0 then none else some (m.tmod n)
  | .and=>some (k.wrap (BitVec.ofInt k.bits m &&& BitVec.ofInt k.bits n).toNat)
  | .or=>some (k.wrap (BitVec.ofInt k.bits m ||| BitVec.ofInt k.bits n).toNat)
  | .xor=>some (k.wrap (BitVec.ofInt k.bits m ^^^ BitVec.ofInt k.bits n).toNat)
  | _=>none
theorem zFV {k:IntKind} {m n:Int} (h:¬ n=0):arK .quo k m n=some (k.wrap (m.tdiv n)):=if_neg h
theorem zFU {k:IntKind} {m n:Int} (h:¬ n=0):arK .rem k m n=some (m.tmod n):=if_neg h
theorem zGJ {op:BinOp} {k:IntKind} {m n r:Int} (ho:o.op=.binOp op t x y t') (hx:ev x=.d (.int k m)) (hy:ev y=.d (.int k n)) (hr:arK op k m n=some r):RdOk C o ev hp (.d (.int k r)):=
  RdOk.mk λst hhp hag g a w hs=>by
    have h:=hs.ev x;rw [hag x (by simp [ho,Op.operands]),hx] at h;have hi:=hs.ev y;rw [hag y (by simp [ho,Op.operands]),hy] at hi;refine⟨.int k r,?_,.d _ _ (.int k r)⟩;simp only [execOp,ho,int_inv h,int_inv hi]
    cases op<;>simp only [arK] at hr<;>first
      | (cases hr;simp [eqGuard,binOp,Op.intArith,Op.intBits];done)
      | (split at hr
         · cases hr
         rename_i hn; cases hr; simp [eqGuard, binOp, Op.intDiv, hn])
      | cases hr
theorem zDA {s:TypeId} {k k':IntKind} {n:Int} {us:TypeDesc} (ho:o.op=.convert s t x) (hs:C.P.underlying s=some us) (ht:C.P.underlying t=some (.int k')) (hx:ev x=.d (.int k n)):RdOk C o ev hp (.d (.int k' (k'.wrap n))):=qSM k k' n us ho hs ht hx
theorem qAU {ids:List Nat} {n m i:Nat} (h:i < ids.length):back ids n i=back ids m i:=by
  unfold back;rw [zQR h]
theorem vM {ids:List Nat} {i j:Nat} (h:bG ids i=some j):j < ids.length:=(zQQ.1 (bT ids i j h)).1
mutual
theorem qGO (ids:List Nat) (n m:Nat):∀ v:AV,AV.mapRef (fwd ids n) (AV.mapRef (toName (bG ids)) v)=AV.mapRef (fwd ids m) (AV.mapRef (toName (bG ids)) v)
  | .junk=>rfl
  | .und=>rfl
  | .d x=>rfl
  | .msl i s o l=>by
    simp only [AV.mapRef,toName]
    cases h:bG ids i with
    | none=>rfl
    | some j=>simp only [AV.mapRef,fwd,qAU (n:=n) (m:=m) (vM h)]
  | .mptr i s x o=>by
    simp only [AV.mapRef,toName]
    cases h:bG ids i with
    | none=>rfl
    | some j=>simp only [AV.mapRef,fwd,qAU (n:=n) (m:=m) (vM h)]
  | .mmap i=>by
    simp only [AV.mapRef,toName]
    cases h:bG ids i with
    | none=>rfl
    | some j=>simp only [AV.mapRef,fwd,qAU (n:=n) (m:=m) (vM h)]
  | .yld i=>by
    simp only [AV.mapRef,toName]
    cases h:bG ids i with
    | none=>rfl
    | some j=>simp only [AV.mapRef,fwd,qAU (n:=n) (m:=m) (vM h)]
  | .mmapN i q=>by
    simp only [AV.mapRef,toName]
    cases h:bG ids i with
    | none=>rfl
    | some j=>simp only [AV.mapRef,fwd,qAU (n:=n) (m:=m) (vM h)]
  | .agg cs=>by simp only [AV.mapRef,tC ids n m cs]
  | .tup cs=>by simp only [AV.mapRef,tC ids n m cs]
  | .fnc f cs=>by simp only [AV.mapRef,tC ids n m cs]
  | .ifc t c=>by simp only [AV.mapRef,qGO ids n m c]
theorem tC (ids:List Nat) (n m:Nat):∀ cs:List AV,AV.mapRefs (fwd ids n) (AV.mapRefs (toName (bG ids)) cs)=AV.mapRefs (fwd ids m) (AV.mapRefs (toName (bG ids)) cs)
  | []=>rfl
  | c :: r=>by simp only [AV.mapRefs,qGO ids n m c,tC ids n m r]
end
theorem zBP (ids:List Nat) (n m:Nat):∀ fr:Fr,Fr.mapRef (fwd ids n) (Fr.mapRef (toName (bG ids)) fr)=Fr.mapRef (fwd ids m) (Fr.mapRef (toName (bG ids)) fr)
  | []=>rfl
  | (t,v) :: r=>by simp only [Fr.mapRef,qGO ids n m v,zBP ids n m r]
theorem zEL (ids:List Nat) (n m:Nat) (B:Blk):Blk.mapRef (fwd ids n) (Blk.mapRef (toName (bG ids)) B)=Blk.mapRef (fwd ids m) (Blk.mapRef (toName (bG ids)) B):=by
  cases B with
  | box ty cs=>simp only [Blk.mapRef,tC ids n m cs]
  | lp=>simp only [Blk.mapRef,zBP ids n m]
  | _=>rfl
def qMX (ids:List Nat) (hp:List Blk):Prop:=∀ j∈ids,((hp.getD j .dead).mapRef (toName (bG ids))).mapRef (fwd ids 0)=hp.getD j .dead
theorem qQC {ids:List Nat} {hp st:List Blk} (hnd:ids.Nodup) (hal:∀ j∈ids,cD hp j=true) (hle:HpLe hp st) (hcl:qMX ids hp):mD ids st (mG ids st)=st:=by
  apply List.ext_getElem?;intro j;have hlen:(mG ids st).length=ids.length:=by simp [mG]
  by_cases hj:j < st.length
  · unfold mD
    rw [List.getElem?_append_left (by simpa using hj),zQP,List.getElem?_zipIdx];rw [zQR hj];simp only [Option.map_some,Nat.zero_add]
    cases hp':bG ids j with
    | none=>rfl
    | some i=>
      simp only;have hi:=bT ids j i hp';have hmem:j∈ids:=zQM hi;obtain⟨B,hB,hd⟩:=eN (hal j hmem);have hB':=hle j B hB hd
      have e:(mG ids st).getD i .dead=B.mapRef (toName (bG ids)):=by
        unfold mG;rw [zQD,zQP,hi];simp [zQD,hB']
      have hc:=hcl j hmem;rw [zQD,hB] at hc;rw [e,zEL ids st.length 0];have:st[j]=B:=by rw [zQR hj] at hB';exact Option.some.inj hB'
      rw [this];exact congrArg some hc
  rw [List.getElem?_eq_none (by rw [sJ,hlen];omega),List.getElem?_eq_none (by omega)]
theorem zEK {ids:List Nat} {hp st:List Blk} (hal:∀ j∈ids,cD hp j=true) (hle:HpLe hp st):mG ids st=mG ids hp:=by
  unfold mG;apply List.map_congr_left;intro j hj;obtain⟨B,hB,hd⟩:=eN (hal j hj);rw [zQD,zQD,hB,hle j B hB hd]
theorem rd_callH {f:Operand} {xs:Array Operand} {ts:Array TypeId} {F:FuncId} {c:AV} {cs:List AV} (ids:List Nat) {args:List AV} {r:AV} {hh:List Blk} (hrr:r.isRef=false/\AV.mapRef (fwd ids 0) r=r/\(∀ n,AV.mapRef (fwd ids n) r=AV.mapRef (fwd ids 0) r)) (ho:o.op=.call { callee:=.value f,args:=xs,argTypes:=ts })
    (hf:ev f=c) (hc:wH c=some (F,cs)) (hnd:ids.Nodup) (hal:(ids.all λj=>cD hp j)=true) (hcl:qMX ids hp) (hx:((xs.toList.map ev)++cs).map (AV.mapRef (toName (bG ids)))=args) (hhd:mG ids hp=hh) (hret:Ret C.P F hh (λ_=>false) args r hh):RdOk C o ev hp r:=by
  intro st hhp hag g a w hs Q K' hK;have hfv:=hs.ev f;rw [hag f (by simp [ho,Op.operands,Call.operands]),hf] at hfv;obtain⟨vs,hv,hvs⟩:=qAR hfv hc;have hal':∀ j∈ids,cD hp j=true:=λj hj=>zQT.1 hal j hj
  have hals:∀ j∈ids,cD st.hp j=true:=λj hj=>by
    obtain⟨B,hB,hd⟩:=eN (hal' j hj);have h1:=hal' j hj;unfold cD at h1 ⊢;rw [zQD,hB] at h1;rw [zQD,hhp j B hB hd];exact h1
  have he:=zEK (st:=st.hp) hal' hhp
  have hf':∀ i j,bG ids i=some j->(g.canon ids).phi j=g.phi i/\(g.canon ids).psi j=g.psi i:=by
    intro i j hij;have:=bT ids i j hij;simp [Gh.canon,this]
  have hargs:Pw (ARep w (g.canon ids)) args (xs.map a.eval++vs).toList:=by
    rw [<- hx,Array.toList_append,List.map_append];refine Pw.append ⟨by simp,λi x v hxi hvi=>?_⟩ ⟨by simpa using hvs.1,λi x v hxi hvi=>?_⟩
    · simp only [List.map_map,zQP,zQO] at hxi
      simp only [Array.toList_map,zQP,zQO] at hvi;obtain⟨y,hy,rfl⟩:=hxi;obtain⟨z,hz,rfl⟩:=hvi;rw [hy] at hz;cases hz;have hy':st.fr.ev y=ev y:=hag y (by simp only [ho,Op.operands,Call.operands];exact Array.mem_append.2 (.inr (Array.mem_toList_iff.1 (zQM hy))));have:=ARep.mapRef (w:=w) (g:=g) (g':=g.canon ids) (λd v hd=>hd) (ARep.toName hf' λ_ hb=>hb) (hs.ev y);rw [hy'] at this;exact this
    simp only [zQP,zQO] at hxi;obtain⟨d,hd',rfl⟩:=hxi;exact ARep.mapRef (w:=w) (g:=g) (g':=g.canon ids) (λd v hd=>hd) (ARep.toName hf' λ_ hb=>hb) (hvs.2 i d v hd' hvi)
  simp only [Oper.wp,dN ho hv hret.1,Oper.upon_enter];have hh':mG ids st.hp=hh:=he.trans hhd;have hret2:=hret;rw [<- hh'] at hret2;refine (hret2.2 w (g.canon ids) _ (hs.handed hnd) hargs).mono ?_;rintro e w' ⟨v,g',rfl,hout,hr⟩;have hb:=hs.back hnd hals hout;rw [qQC hnd hal' hhp hcl] at hb;refine hK v w' _ hb ?_;have hlt:∀ j∈ids,j < st.hp.length:=λj hj=>by obtain⟨B,hB,_⟩:=eN (hals j hj);exact (zQQ.1 hB).1
  have := ARep.mapRef (w := w') (g := g') (g' := g.back ids st.hp.length w.heap.size g') (F := fwd ids st.hp.length) (fun d v hd => hd.mono (fun b hb => by
    by_cases hlt' : b < w.heap.size
    · exact .inl (hout.Xold b hb hlt')
    exact .inr ⟨by omega, hb⟩) fun _ _ => rfl) (fun x v hx hr => hx.fwd hnd hlt hr) hr
  rw [hrr.2.2,hrr.2.1] at this;exact this
theorem closedH_of {ids:List Nat} {hp:List Blk} (h:(ids.map λj=>((hp.getD j .dead).mapRef (toName (bG ids))).mapRef (fwd ids 0))=ids.map λj=>hp.getD j .dead):qMX ids hp:=λj hj=>List.map_inj_left.1 h j hj
end Go.TL
