/- Texts of this proof, joined, without what it does not use. No condition. -/
import Derived.Lib.SlicesCompact
import Derived.Test.YtcagmechagiclaaGreatDoorQn

namespace Go.TL
open Go.Sort Go.Proofs
variable {C:Ctx} {st:St} {g:Gh} {a:Act} {w:World} {P:Program}
theorem kB {k:Nat} {ids:List Nat} (h:((List.range k).all λi=>ids[i]? == some i)=true) (i:Nat) (hi:i < k):ids[i]?=some i:=by
  have:=zQT.1 h i (List.mem_range.2 hi);simpa using this
theorem Sim.upB (h:Sim C st g a w) {i j:Nat} {t e sz:Nat} {cs:List AV} (hb:st.hp[i]?=some (.box t cs)) (hc:cs[j]?=some (.d .nilsl)):Sim C ⟨st.fr,(st.hp.set i (.box t (cs.set j (.msl st.hp.length sz 0 0))))++[Blk.flat e sz []]⟩ g a w:=by
  have hi:=(zQQ.1 hb).1;have hv:=h.virt e sz
  have h2:Sim C ⟨st.fr,(st.hp++[Blk.flat e sz []]).set i (.box t (cs.set j (.msl st.hp.length sz 0 0)))⟩ g a w:=by
    have hrep:=h.hp i _ hb;obtain⟨b,cells,hp,hw,hps,hl,hr⟩:=hrep;refine { hv with hp:=λk B hk=>?_,lt:=λk b hk=>by have:=hv.lt k b hk;simpa using this,inj:=λk k' b Bk Bk' h1 h2 d1 d2 p1 p2=>?_,kle:=by simpa using hv.kle }
    · rw [List.getElem?_set] at hk
      split at hk
      · rename_i e1
        subst e1;split at hk
        · cases hk
          refine⟨b,cells,hp,hw,hps,by simpa using hl,λq c v hq hv'=>?_⟩;rw [List.getElem?_set] at hq;split at hq
          · rename_i e2
            subst e2;split at hq
            · cases hq
              have:=hr _ _ v hc hv'
              cases this with
              | d _ _ hd=>cases hd with
                | nilsl ad=>exact .msl0 _ _ _ _
            cases hq
          exact hr q c v hq hv'
        cases hk
      exact hv.hp k B hk
    have key:∀ (k:Nat) (Bk:Blk),((st.hp++[Blk.flat e sz []]).set i (.box t (cs.set j (.msl st.hp.length sz 0 0))))[k]?=some Bk→Bk≠.dead→∃ B',(st.hp++[Blk.flat e sz []])[k]?=some B'∧B'≠.dead:=by
      intro k Bk hk hd;rw [List.getElem?_set] at hk;split at hk
      · rename_i e1
        subst e1;exact⟨.box t cs,by rw [List.getElem?_append,if_pos hi];exact hb,λe=>by cases e⟩
      exact⟨Bk,hk,hd⟩
    obtain⟨B1,e1,d1'⟩:=key k Bk h1 d1;obtain⟨B2,e2,d2'⟩:=key k' Bk' h2 d2;exact hv.inj k k' b B1 B2 e1 e2 d1' d2' p1 p2
  rwa [List.set_append,if_pos hi] at h2
theorem gN {ops:Array Oper} {l:List Oper} {K:St→Prop} {fr:Fr} {hp:List Blk} {α:Type} {f:α→D} (i j N e sz:Nat) {t:TypeId} {cs:List AV} (hN:Nat.beq hp.length N=true) (hb:hp[i]?=some (.box t cs)) (hc:cs[j]?=some (.d .nilsl))
    (h:dG C ops l ⟨fr,(hp.set i (.box t (cs.set j (.msl N sz 0 ([]:List α).length))))++[Blk.flat e sz (([]:List α).map f)]⟩ K):dG C ops l ⟨fr,hp⟩ K:=by
  have e:=Nat.eq_of_beq_eq_true hN;subst e;exact λg a w hs=>h g a w (Sim.upB (st:=⟨fr,hp⟩) hs hb hc)
theorem qED {mv:Nat→Bool} {e b:Nat} {xs:List Int} (hout:Out ⟨P,0,w,1,g,mv⟩ [.flat e 1 (xs.map (D.int .i64))] g w) (hb:g.phi 0=some b):
    Holds (Value.int .i64) w b 0 xs.toArray∧b < w.heap.size∧∃ cells,w.heap[b]?=some (.cells cells e (0,0))∧g.psi 0=cells.size∧xs.length≤cells.size:=by
  have hB:=hout.hp 0 _ rfl;rcases hB with ⟨_,hn0⟩|⟨b',cells,hp0,hw,hpsi,hl,hh0,hh1,hr⟩
  · rw [hb] at hn0;cases hn0
  cases hb.symm.trans hp0;refine⟨λj hj=>?_,(hout.lt 0 b hb).1,cells,hw,hpsi,by simpa using hl⟩;have hj':j < xs.length:=by simpa using hj
  obtain⟨v,hv,hd⟩:=hr j (D.int .i64 (xs[j]'hj')) 0 (D.int .i64 (xs[j]'hj')) (by simp [hj']) rfl;rw [Nat.mul_one,Nat.add_zero] at hv;cases hd;rw [Nat.zero_add];refine⟨?_,by simp [World.frozen?,hw]⟩;rw [cell_of_row w b j cells e (0,0) hw,hv,getElem!_pos xs.toArray j hj];simp
theorem qXG {mv:Nat→Bool} {e b:Nat} {xs:List Int} (hout:Out ⟨P,0,w,1,g,mv⟩ [.flat e 1 (xs.map (D.int .i64))] g w) (hb:g.phi 0=some b) (ys zs:List Int) (hlen:(ys++zs).length=xs.length) (m:Nat) (os:Array Obj):
    Out ⟨P,0,w,1,g,mv⟩ [.flat e 1 (ys.map (D.int .i64))] g (Sort.grow (putRow (Value.int .i64) (Sort.ahead w m) b 0 (ys++zs).toArray) os):=by
  obtain⟨_,hblt,cells,hw,hpsi,hcl⟩:=qED hout hb;have hbw:(Sort.ahead w m).heap[b]?=some (.cells cells e (0,0)):=hw;have hahead:Out ⟨P,0,w,1,g,mv⟩ [.flat e 1 (xs.map (D.int .i64))] g (Sort.ahead w m):=Sim.sameHeap hout rfl rfl rfl rfl (Nat.le_add_right _ _)
  have hwr:(putRow (Value.int .i64) (Sort.ahead w m) b 0 (ys++zs).toArray).heap[b]?=some (.cells (putCells (Value.int .i64) 0 (ys++zs).toArray cells) e (0,0)):=by
    show ((Sort.ahead w m).heap.modify b _)[b]?=_;rw [Array.getElem?_modify,if_pos rfl,hbw];rfl
  have hoth:∀ b',b'≠b→(putRow (Value.int .i64) (Sort.ahead w m) b 0 (ys++zs).toArray).heap[b']?=(Sort.ahead w m).heap[b']?:=λb' hb'=>by
    show ((Sort.ahead w m).heap.modify b _)[b']?=_;rw [Array.getElem?_modify,if_neg (λe=>hb' e.symm)]
  have hsz:(putRow (Value.int .i64) (Sort.ahead w m) b 0 (ys++zs).toArray).heap.size=(Sort.ahead w m).heap.size:=by
    show ((Sort.ahead w m).heap.modify b _).size=_;simp
  have hch := Sim.change (i := 0) (b := b) (B0 := .flat e 1 (xs.map (D.int .i64))) hahead rfl (fun e => by cases e) hb (w' := putRow (Value.int .i64) (Sort.ahead w m) b 0 (ys ++ zs).toArray) hsz rfl rfl rfl (zQW _) hoth
    (B:=.flat e 1 (ys.map (D.int .i64))) (.inr ⟨b,_,hb,hwr,?_,?_,λk d hk=>?_,λk d j c hk hc=>?_,λk d j c hk hc=>?_⟩)
  · exact Sim.grow hch 0 os
  · rw [hpsi,pY]
  · rw [pY]
    simp only [zQC,zQL] at hlen ⊢;omega
  · simp only [zQP,zQO] at hk
    obtain⟨x,_,rfl⟩:=hk;rfl
  · simp only [zQP,zQO] at hk
    obtain⟨x,_,rfl⟩:=hk
    cases j with
    | zero=>cases hc;rfl
    | succ j=>simp [D.cells] at hc
  simp only [zQP,zQO] at hk;obtain⟨x,hx,rfl⟩:=hk;have hk':=(zQQ.1 hx).1
  cases j with
  | succ j=>simp [D.cells] at hc
  | zero=>
    cases hc;have hx2:(ys++zs)[k]?=some x:=by rw [List.getElem?_append,if_pos hk'];exact hx
    have hk2:=(zQQ.1 hx2).1;refine⟨.int .i64 x,?_,.int _ _⟩;rw [Nat.mul_one,Nat.add_zero,qBY (Value.int .i64) 0 _ cells k (by omega),if_pos ⟨Nat.zero_le _,by simpa using hk2⟩,Nat.sub_zero,getElem!_pos (ys++zs).toArray k (by simpa using hk2)];have:=(zQQ.1 hx2).2;simp only [List.getElem_toArray];rw [this]
def qZE (x y:Int):Option Int:=some (if x < y then -1 else if y < x then 1 else 0)
theorem yP (x y:Int):ltM qZE x y=decide (x < y):=by
  unfold ltM qZE;simp only [Option.getD_some];by_cases h:x < y
  · rw [if_pos h,decide_eq_true h];rfl
  rw [if_neg h,decide_eq_false h];split<;>rfl
theorem qLD:SortOk qZE where
  tot x y:=⟨_,rfl⟩
  irrefl x:=by rw [yP];simp
  trans x y z h1 h2:=by rw [yP] at *; simp at *; omega
  ntrans x y z h1 h2:=by rw [yP] at *; simp at *; omega
  anti x y h1 h2:=by rw [yP] at *; simp at *; omega
def qF (l:List Int):List Int:=sC qZE l
theorem qQC (l:List Int):(l.mergeSort λx y=>decide (x≤y))=qF l:=by
  have h:=qEN qLD l
  have e:(λx y:Int=>!ltM qZE y x)=λx y=>decide (x≤y):=by
    funext x y
    rw [yP];by_cases h:y < x
    · rw [decide_eq_true h,decide_eq_false (by omega)];rfl
    rw [decide_eq_false h,decide_eq_true (by omega)];rfl
  rw [e] at h;exact h
theorem rH (l:List Int):(qF l).length=l.length:=rG _
theorem qZQ {F:FuncId} (e:TypeId) (mv:Nat→Bool) (xs:List Int) (hcbF:aV P F=true) (hlen:xs.length < 4611686018427387904)
    (hnone:∀ (p:Option Addr) (cap:Nat) (w:World),Calls P F #[.slice p 0 cap] w λe w'=>e=.returned (.tuple #[])∧w'=w)
    (hsort : ∀ (blk off cap : Nat) (zs : List Int) (w : World), Holds (Value.int .i64) w blk off zs.toArray → blk < w.heap.size → zs.length < 4611686018427387904 →
      Calls P F #[.slice (some ⟨blk, off, none⟩) zs.length cap] w fun e w' => e = .returned (.tuple #[]) ∧ ∃ n os, w' = Sort.grow (putRow (Value.int .i64) (Sort.ahead w n) blk off (zs.mergeSort fun x y => decide (x ≤ y)).toArray) os) :
    Ret P F [.flat e 1 (xs.map (D.int .i64))] mv [.msl 0 1 0 xs.length] (.tup []) [.flat e 1 ((qF xs).map (D.int .i64))]:=by
  refine⟨hcbF,λw g vs hout hargs=>?_⟩
  obtain⟨v0,rfl⟩:∃ v0,vs=#[v0]:=by
    have hl:vs.size=1:=by have:=hargs.1;simpa using this.symm
    exact⟨vs[0],by apply Array.ext;simp [hl];intro i h1 h2;match i,h2 with|0,_=>rfl⟩
  have h0:=hargs.2 0 _ _ rfl rfl;generalize hn:xs.length=n at h0
  cases h0 with
  | msl0 _ _ _ ad=>
    have hxs:xs=[]:=List.eq_nil_of_length_eq_zero hn;subst hxs;refine (hnone ad 0 w).mono ?_;rintro e w' ⟨rfl,rfl⟩;exact⟨_,g,rfl,hout,.tup [] #[] rfl λi c v h=>by simp at h⟩
  | msl _ _ _ _ cap b hb hc hpz=>
    subst hn;rw [Nat.zero_mul];obtain⟨hH,hblt,_⟩:=qED hout hb;refine (show Calls P F #[.slice (some ⟨b,0,none⟩) xs.length cap] w _ from hsort b 0 cap xs w hH hblt hlen).mono ?_;rintro e' w' ⟨rfl,m,os,rfl⟩;refine⟨_,g,rfl,?_,.tup [] #[] rfl λi c v h=>by simp at h⟩;have:=qXG hout hb (qF xs) [] (by rw [List.append_nil,rH]) m os;rw [List.append_nil] at this;rw [qQC];exact this
theorem qJF (xs:List Int):(Lib.compact xs).length≤xs.length:=by
  unfold Lib.compact Lib.compactUpTo;rw [zQC];exact Nat.le_trans (List.length_filter_le _ _) (by simp)
theorem qNH {F:FuncId} (e:TypeId) (mv:Nat→Bool) (xs:List Int) (hcbF:aV P F=true) (hlen:xs.length≤9223372036854775807)
    (hnone:∀ (p:Option Addr) (cap:Nat) (w:World),Calls P F #[.slice p 0 cap] w λe w'=>e=.returned (.slice p 0 cap)∧w'=w)
    (hcomp : ∀ (blk off cap : Nat) (zs : List Int) (w : World), Holds (Value.int .i64) w blk off zs.toArray → zs.length ≤ 9223372036854775807 → zs.length ≤ cap →
      Calls P F #[.slice (some ⟨blk, off, none⟩) zs.length cap] w fun e w' => e = .returned (.slice (some ⟨blk, off, none⟩) (Lib.compact zs).length cap) ∧ ∃ q, w' = putRow (Value.int .i64) (Sort.ahead w q) blk off (Lib.compact zs ++ List.replicate (zs.length - (Lib.compact zs).length) 0).toArray) :
    Ret P F [.flat e 1 (xs.map (D.int .i64))] mv [.msl 0 1 0 xs.length] (.msl 0 1 0 (Lib.compact xs).length) [.flat e 1 ((Lib.compact xs).map (D.int .i64))]:=by
  refine⟨hcbF,λw g vs hout hargs=>?_⟩
  obtain⟨v0,rfl⟩:∃ v0,vs=#[v0]:=by
    have hl:vs.size=1:=by have:=hargs.1;simpa using this.symm
    exact⟨vs[0],by apply Array.ext;simp [hl];intro i h1 h2;match i,h2 with|0,_=>rfl⟩
  have h0:=hargs.2 0 _ _ rfl rfl;generalize hn:xs.length=n at h0
  cases h0 with
  | msl0 _ _ _ ad=>
    have hxs:xs=[]:=List.eq_nil_of_length_eq_zero hn;subst hxs;refine (hnone ad 0 w).mono ?_;rintro e w' ⟨rfl,rfl⟩;exact⟨_,g,rfl,hout,.msl0 _ _ _ _⟩
  | msl _ _ _ _ cap b hb hc hpz=>
    subst hn;rw [Nat.zero_mul];obtain⟨hH,hblt,_⟩:=qED hout hb;refine (show Calls P F #[.slice (some ⟨b,0,none⟩) xs.length cap] w _ from hcomp b 0 cap xs w hH hlen (by omega)).mono ?_;rintro e' w' ⟨rfl,m,rfl⟩;have hcl:=qJF xs;refine⟨_,g,rfl,?_,?_⟩
    · have := qXG hout hb (Lib.compact xs) (List.replicate (xs.length - (Lib.compact xs).length) 0) (by simp; omega) m #[]
      have hg:∀ W:World,Sort.grow W #[]=W:=λW=>by unfold Sort.grow;simp
      rwa [hg] at this
    have := ARep.msl (w := putRow (Value.int .i64) (Sort.ahead w m) b 0 (Lib.compact xs ++ List.replicate (xs.length - (Lib.compact xs).length) 0).toArray) (g := g) 0 1 0 (Lib.compact xs).length cap b hb (by omega) hpz;simpa using this
theorem zNR {α:Type} {f:α→D} {T:Tab} {o:Oper} {ev:Operand→AV} {hp:List Blk} {t e sz by' i:Nat} {a b:Operand} {z:Value} {zd:D} {n:Int} {x:α} (hT:TabOk C.P T) (hi:hp[i]?=some .hole) (ho:o.op=.makeSlice t a b) (hl:lk T.sel t=some (e,sz,by')) (hz:(C.P.info? e).bind (·.zero)=some z) (hzd:eD z=.d zd) (hzs:Nat.beq zd.cells.length sz=true)
    (ha:ev a=.d (.int .i64 n)) (hb:ev b=.d (.int .i64 n)) (hby:Nat.ble by' 100000=true) (hn:0≤n∧n≤1000000000) (hf:f x=zd):DOk C o ev hp (.msl i sz 0 (List.replicate n.toNat x).length) [(i,.flat e sz ((List.replicate n.toNat x).map f))]:=
  DOk.mk λst hhp hag g aa w hsim=>by
    have h1:=Nat.le_of_ble_eq_true hby;obtain⟨m,rfl⟩:=Int.eq_ofNat_of_zero_le hn.1;have h2:m≤1000000000:=by omega
    have h3:by' * m≤100000 * 1000000000:=Nat.mul_le_mul h1 h2
    obtain⟨vs,hr,row⟩:=sW (st:=st) sz by' (m:Int) z zd ho (hT.sel hl) hz hzd (Nat.eq_of_beq_eq_true hzs) (by rw [hag a (by simp [ho,Op.operands]),ha]) (by rw [hag b (by simp [ho,Op.operands]),hb]) (by omega) (by omega) (by omega) hsim
    obtain⟨g',h4,h5⟩:=row.filled (ty:=e) hsim (qBX hi hhp) m (by simp);rw [List.map_replicate,hf];simp only [List.length_replicate,Int.toNat_natCast] at h4 h5 ⊢;exact⟨_,_,g',hr,h4,h5⟩
def toHole (hs:List Nat):AV→AV
  | .msl i s o l=>.msl (hs.getD i 0) s o l
  | .mptr i s x o=>.mptr (hs.getD i 0) s x o
  | .mmap i=>.mmap (hs.getD i 0)
  | v=>v
theorem uD {o:Oper} {ev:Operand→AV} {hp:List Blk} (hs:List Nat) {f:Operand} {xs:Array Operand} {ts:Array TypeId} {F:FuncId} {mv:Nat→Bool} {ds:List D} {r r':AV} {Bs:List Blk} (hi:∀ i∈hs,hp[i]?=some .hole) (hnd:hs.Nodup) (hl:Bs.length=hs.length) (ho:o.op=.call { callee:=.value f,args:=xs,argTypes:=ts })
    (hf:ev f=.d (.fn F)) (hx:xs.toList.map ev=ds.map .d) (hret:Ret C.P F [] mv (ds.map .d) r Bs) (hm:∀ B∈Bs,qTS B) (hmr:AMem0 r) (hrr:r.mapRef (toHole hs)=r') (hBB:∀ B∈Bs,B.mapRef (λ_=>.junk)=B):DOk C o ev hp r' (hs.zip Bs):=by
  intro st hhp hlen _ hag g a w hsim Q K' hK;have hih:∀ i∈hs,st.hp[i]?=some .hole:=λi h=>qBX (hi i h) hhp;have hno:∀ i∈hs,g.phi i=none:=λi h=>hsim.hp i _ (hih i h);have hil:∀ i∈hs,i < st.hp.length:=λi h=>(zQQ.1 (hih i h)).1;have hfv:=hsim.ev f;rw [hag f (by simp [ho,Op.operands,Call.operands]),hf] at hfv
  have hargs:Pw (ARep w (gC g.X)) (ds.map .d) (xs.map a.eval).toList:=by
    have:=zFI (cs:=[]) (vs:=#[]) hsim (λy hy=>hag y (by simp only [ho,Op.operands,Call.operands];exact Array.mem_append.2 (.inr hy))) hx ⟨rfl,λi x y h=>by simp at h⟩;simpa using this
  simp only [Oper.wp,gR ho (qOR hfv) hret.1,Oper.upon_enter,Array.append_empty];refine (hret.2 w (gC g.X) _ (zAB hsim mv hsim.Xlt) hargs).mono ?_;rintro e w' ⟨v,g',rfl,hout,hr⟩;have hold:∀ b,b < w.heap.size→w'.heap[b]?=w.heap[b]?:=λb hb=>hout.keep b hb λi hi=>absurd hi (zQV i);have hsz:=hout.grown;simp only at hsz
  have hnew:∀ j b,g'.phi j=some b→w.heap.size≤b:=by
    intro j b hp;rcases Nat.lt_or_ge b w.heap.size with hlt|hge
    · exact absurd (hout.own j b hp hlt).1 (zQV _)
    exact hge
  let g2:Gh:={ phi:=λj=>match aK hs j with|some i=>g'.phi i|none=>g.phi j,psi:=λj=>match aK hs j with|some i=>g'.psi i|none=>g.psi j,X:=g.X }
  have hin:∀ {j i:Nat},aK hs j=some i→j∈hs:=λh=>zQM (bD hs _ _ h)
  have hgr:Grow w g w' g2:=by
    refine⟨λj b hp=>?_,λj b hp=>?_,λ_ h=>h,λb hb=>hold b (hsim.Xlt b hb)⟩
    · cases hpl:aK hs j with
      | some i=>rw [hno j (hin hpl)] at hp;cases hp
      | none=>simpa [g2,hpl] using hp
    cases hpl:aK hs j with
    | some i=>rw [hno j (hin hpl)] at hp;cases hp
    | none=>simp [g2,hpl]
  have hphi:∀ j b,g2.phi j=some b→(∃ i,aK hs j=some i∧g'.phi i=some b)∨(aK hs j=none∧g.phi j=some b):=by
    intro j b hp
    cases hpl:aK hs j with
    | some i=>exact .inl ⟨i,rfl,by simpa [g2,hpl] using hp⟩
    | none=>exact .inr ⟨rfl,by simpa [g2,hpl] using hp⟩
  have hzl:∀ p∈hs.zip Bs,p.1 < st.hp.length:=λp hp=>hil _ (List.of_mem_zip hp).1
  have hzn:((hs.zip Bs).map (·.1)).Nodup:=by
    rw [List.map_fst_zip (by omega)];exact hnd
  have hwr:=λb=>qGY (hs.zip Bs) st.hp b hzl hzn
  have hget:∀ {j i:Nat} {B:Blk},hs[i]?=some j→Bs[i]?=some B→(wr (hs.zip Bs) st.hp)[j]?=some B:=by
    intro j i B h1 h2;have:(hs.zip Bs)[i]?=some (j,B):=by rw [List.getElem?_zip_eq_some];exact⟨h1,h2⟩
    exact (hwr j).1 (j,B) (zQM this) rfl
  have hgetN:∀ {j:Nat},aK hs j=none→(wr (hs.zip Bs) st.hp)[j]?=st.hp[j]?:=by
    intro j hpl;refine (hwr j).2 λp hp e=>?_;obtain⟨i,hi⟩:=List.getElem?_of_mem (List.of_mem_zip hp).1;rw [e] at hi;exact oR hpl i hi
  have hB:∀ {j i:Nat} {B:Blk},aK hs j=some i→Bs[i]?=some B→BRep w' g2 j B:=by
    intro j i B hpl hBi;have h1:=BRep.any (Y:=λ_=>False) (hout.hp i B hBi) (hm B (zQM hBi));have h2:=BRep.mapRef (g':=g2) (F:=λ_=>.junk) (j:=j) (by simp [g2,hpl]) (by simp [g2,hpl]) (λb hb=>False.elim hb) (λx v _ _=>.junk v) h1
    rwa [hBB B (zQM hBi)] at h2
  have hBs:∀ {j i:Nat},aK hs j=some i→∃ B,Bs[i]?=some B:=by
    intro j i hpl;have:=(zQQ.1 (bD hs _ _ hpl)).1;exact⟨Bs[i]'(by omega),zQR _⟩
  have hlw:(wr (hs.zip Bs) st.hp).length=st.hp.length:=yI _ _;refine hK v w' g2 ?_ ?_
  · refine { defers := hsim.defers, size := hsim.size, fr := fun t => (hsim.fr t).mono hgr, hp := ?_, lt := ?_, inj := ?_, Xlt := ?_, Xold := hsim.Xold, os := hout.os.trans hsim.os, tape := hout.tape.trans hsim.tape, output := hout.output.trans hsim.output, drawn := Nat.le_trans hsim.drawn hout.drawn, grown := Nat.le_trans hsim.grown hsz, keep := ?_, own := ?_, stay := ?_, kle := ?_ }
    · intro j B hj
      cases hpl:aK hs j with
      | some i=>
        obtain⟨B',hB'⟩:=hBs hpl;have:=hget (bD hs _ _ hpl) hB';simp only at hj;rw [this] at hj;cases hj;exact hB hpl hB'
      | none=>
        simp only at hj;rw [hgetN hpl] at hj;refine (hsim.hp j B hj).mono hgr (λhn=>by simpa [g2,hpl] using hn) λb hb=>hold b (hsim.lt j b hb).1
    · intro j b hp
      simp only [hlw];rcases hphi j b hp with ⟨i,hpl,hp'⟩|⟨_,hp'⟩
      · exact⟨(hout.lt i b hp').1,hil j (hin hpl),λhX=>by have:=hsim.Xlt b hX;have:=hnew i b hp';omega⟩
      have:=hsim.lt j b hp';exact⟨by omega,this.2.1,this.2.2⟩
    · intro j j' b Bj Bj' hBj hBj' hdj hdj' hj hj'
      simp only at hBj hBj';rcases hphi j b hj with ⟨i,hpl,h1⟩|⟨hpl,h1⟩<;>rcases hphi j' b hj' with ⟨i',hpl',h2⟩|⟨hpl',h2⟩
      · obtain⟨B1,e1⟩:=hBs hpl
        obtain⟨B2,e2⟩:=hBs hpl';rw [hget (bD hs _ _ hpl) e1] at hBj;rw [hget (bD hs _ _ hpl') e2] at hBj';cases hBj;cases hBj';have:=hout.inj i i' b _ _ e1 e2 hdj hdj' h1 h2;subst this;have h3:=bD hs _ _ hpl;rw [bD hs _ _ hpl'] at h3;exact (Option.some.inj h3).symm
      · have:=(hsim.lt _ _ h2).1;have:=hnew i b h1;omega
      · have:=(hsim.lt _ _ h1).1;have:=hnew i' b h2;omega
      rw [hgetN hpl] at hBj;rw [hgetN hpl'] at hBj';exact hsim.inj j j' b Bj Bj' hBj hBj' hdj hdj' h1 h2
    · intro b hX;have:=hsim.Xlt b hX;omega
    · intro b hb hk;rw [hold b (by have:=hsim.grown;omega)];exact hsim.keep b hb hk
    · intro j b hp hb
      rcases hphi j b hp with ⟨i,_,hp'⟩|⟨_,hp'⟩
      · have:=hnew i b hp';have:=hsim.grown;omega
      exact hsim.own j b hp' hb
    · intro j b hj hmj hp
      have hst:=hsim.stay j b hj hmj hp
      have hpl:aK hs j=none:=by
        cases h:aK hs j with
        | none=>rfl
        | some i=>rw [hno j (hin h)] at hst;cases hst.2
      simpa [g2,hpl] using hst
    simp only [hlw];exact hsim.kle
  subst hrr;have h1:=ARep.any (Y:=g.X) hr hmr;refine ARep.mapRef (w:=w') (g:={ g' with X:=g.X }) (g':=g2) (λd v hd=>hd) (λx v hx hr=>?_) h1
  have hat:∀ {id b:Nat},g'.phi id=some b→g2.phi (hs.getD id 0)=some b∧g2.psi (hs.getD id 0)=g'.psi id:=by
    intro id b hb;have hid:=(hout.lt id b hb).2.1;simp only at hid;have hlt:id < hs.length:=by omega
    have hge:hs[id]?=some (hs.getD id 0):=by rw [zQD,zQR hlt];rfl
    have hpl:=qAI hnd hge;exact⟨by simp only [g2,hpl];exact hb,by simp only [g2,hpl]⟩
  cases hx with
  | msl0=>exact .msl0 _ _ _ _
  | msl id sz off len cap b hb hc hp=>exact .msl _ _ _ _ cap b (hat hb).1 hc (by rw [(hat hb).2];exact hp)
  | mptr id sz idx off b hb=>exact .mptr _ _ _ _ b (hat hb).1
  | mmap id b hb=>exact .mmap _ b (hat hb).1
  | _=>cases hr
theorem qTZ {T:Tab} {o:Oper} {ev:Operand→AV} {hp:List Blk} {t:TypeId} {x y:Operand} {id off s:Nat} {bb:Bool} {bt:TypeId} {cs cs':List AV} {v:AV} (hT:TabOk C.P T) (ho:o.op=.store t x y) (hd:o.dst=none) (hl:lk T.lay t=some (bb,s)) (hx:ev x=.mptr id 0 0 off) (hy:ev y=v) (hf:v.flat=true) (hs:Nat.beq v.cells.length s=true)
    (hb:hp[id]?=some (.box bt cs)) (hc:Nat.ble (off+s) cs.length=true) (hv:spl cs off v.cells=cs'):DOk C o ev hp .junk [(id,.box bt cs')]:=
  qPS ho hd (hT.lay hl) hx hy hf (Nat.eq_of_beq_eq_true hs) hb (Nat.le_of_ble_eq_true hc) hv
end Go.TL
set_option linter.unusedVariables false
set_option linter.unusedSimpArgs false
namespace Go.TL
open Go.Sort Go.Proofs
variable {C:Ctx}
theorem dA {l:List AV} {ds ds':List D} (h:evD l=some ds) (e:ds=ds'):evD l=some ds':=e ▸ h
theorem bM {α:Type} {f:α→D}:([]:List D)=([]:List α).map f:=rfl
theorem aE {α:Type} {f:α→D} {x:α} {d:D} {xs:List α} {ds:List D} (h:f x=d) (t:ds=xs.map f):d :: ds=(x :: xs).map f:=by rw [List.map_cons,h,t]
theorem bC {α:Type} {f:α→D} {sz:Nat} {xs:List α} (h:∀ x,(f x).cells.length=sz):((xs.map f).all λd=>Nat.beq d.cells.length sz)=true:=by
  rw [zQT];intro d hd;obtain⟨x,_,rfl⟩:=List.mem_map.1 hd;rw [h x];exact Nat.beq_refl sz
section rd
variable {T:Tab} {o:Oper} {ev:Operand→AV} {hp:List Blk} {α:Type} {f:α→D} {xs ys:List α}
theorem qWS {t e sz by':Nat} {a b:Operand} {k:IntKind} {i:Int} {x:α} {d:D} (hT:TabOk C.P T) (ho:o.op=.indexAddr t a b) (hl:lk T.sel t=some (e,sz,by')) (ha:ev a=.d (.sl sz (xs.map f))) (hb:ev b=.d (.int k i)) (h:0≤i∧xs[i.toNat]?=some x) (hf:f x=d):RdOk C o ev hp (.d (.ptr d 0)):=
  hf ▸ bZ hT ho hl ha hb h
theorem dD {t e sz by' n:Nat} {parts:Array (Nat×Operand)} {z:Value} (l:List Operand) (hT:TabOk C.P T) (ho:o.op=.buildSlice t n parts) (hl:lk T.sel t=some (e,sz,by')) (hz:(C.P.info? e).bind (·.zero)=some z) (hp':mM parts l)
    (hx:evD (l.map ev)=some (xs.map f)) (hn:Nat.beq (xs.map f).length n=true) (hs:((xs.map f).all λd=>Nat.beq d.cells.length sz)=true) (hsmall:Nat.ble (n * sz) 16777216=true):RdOk C o ev hp (.d (.sl sz (xs.map f))):=fX l hT ho hl hz hp' hx hn hs hsmall
end rd
variable {P:Program} {C:Ctx} {o:Oper} {ev:Operand→AV} {hp:List Blk} {t t':TypeId} {x y:Operand}
theorem zBP {a b:ByteArray} (ho:o.op=.binOp .add t x y t') (hx:ev x=.d (.str a)) (hy:ev y=.d (.str b)) (hs:a.size+b.size≤9223372036854775807):RdOk C o ev hp (.d (.str (a++b))):=
  RdOk.mk λst hhp hag g a' w hs'=>by
    have h:=hs'.ev x;rw [hag x (by simp [ho,Op.operands]),hx] at h;have hi:=hs'.ev y;rw [hag y (by simp [ho,Op.operands]),hy] at hi;refine⟨.string (a++b),?_,.d _ _ (.str _)⟩
    have e:¬ ((a.size+b.size:Nat):Int) > IntKind.i64.max:=by
      have:IntKind.i64.max=9223372036854775807:=by decide
      omega
    simp only [execOp,ho,str_inv h,str_inv hi];simp [eqGuard,binOp,Op.stringOp,e];omega
theorem qWT {xt t':TypeId} {d:D} (ho:o.op=.typeAssert x xt t true) (hc:qEH C.P t=true) (hx:ev x=.d (.iface t' d)) (h:t'=t):RdOk C o ev hp (.tup [.d d,.d (.bool true)]):=by
  subst h;exact qBF ho hc hx
theorem qWU {xt t':TypeId} {d:D} {z:Value} {zd:D} (ho:o.op=.typeAssert x xt t true) (hc:qEH C.P t=true) (hx:ev x=.d (.iface t' d)) (h:¬ t'=t) (hz:(C.P.info? t).bind (·.zero)=some z) (hzd:eD z=.d zd):RdOk C o ev hp (.tup [.d zd,.d (.bool false)]):=
  qQY ho hc hx (by cases e:Nat.beq t' t with|false=>rfl|true=>exact absurd (Nat.eq_of_beq_eq_true e) h) hz hzd
theorem qPK {ids:List Nat} {n m i:Nat} (h:i < ids.length):back ids n i=back ids m i:=by
  unfold back;rw [zQR h]
theorem qHY {ids:List Nat} {i j:Nat} (h:aK ids i=some j):j < ids.length:=(zQQ.1 (bD ids i j h)).1
mutual
theorem qSP (ids:List Nat) (n m:Nat):∀ v:AV,AV.mapRef (fwd ids n) (AV.mapRef (toName (aK ids)) v)=AV.mapRef (fwd ids m) (AV.mapRef (toName (aK ids)) v)
  | .junk=>rfl
  | .und=>rfl
  | .d x=>rfl
  | .msl i s o l=>by
    simp only [AV.mapRef,toName]
    cases h:aK ids i with
    | none=>rfl
    | some j=>simp only [AV.mapRef,fwd,qPK (n:=n) (m:=m) (qHY h)]
  | .mptr i s x o=>by
    simp only [AV.mapRef,toName]
    cases h:aK ids i with
    | none=>rfl
    | some j=>simp only [AV.mapRef,fwd,qPK (n:=n) (m:=m) (qHY h)]
  | .mmap i=>by
    simp only [AV.mapRef,toName]
    cases h:aK ids i with
    | none=>rfl
    | some j=>simp only [AV.mapRef,fwd,qPK (n:=n) (m:=m) (qHY h)]
  | .agg cs=>by simp only [AV.mapRef,uR ids n m cs]
  | .tup cs=>by simp only [AV.mapRef,uR ids n m cs]
  | .fnc f cs=>by simp only [AV.mapRef,uR ids n m cs]
  | .ifc t c=>by simp only [AV.mapRef,qSP ids n m c]
theorem uR (ids:List Nat) (n m:Nat):∀ cs:List AV,AV.mapRefs (fwd ids n) (AV.mapRefs (toName (aK ids)) cs)=AV.mapRefs (fwd ids m) (AV.mapRefs (toName (aK ids)) cs)
  | []=>rfl
  | c :: r=>by simp only [AV.mapRefs,qSP ids n m c,uR ids n m r]
end
theorem zKG (ids:List Nat) (n m:Nat) (B:Blk):Blk.mapRef (fwd ids n) (Blk.mapRef (toName (aK ids)) B)=Blk.mapRef (fwd ids m) (Blk.mapRef (toName (aK ids)) B):=by
  cases B with
  | box ty cs=>simp only [Blk.mapRef,uR ids n m cs]
  | _=>rfl
def qPC (ids:List Nat) (hp:List Blk):Prop:=∀ j∈ids,((hp.getD j .dead).mapRef (toName (aK ids))).mapRef (fwd ids 0)=hp.getD j .dead
theorem qSL {ids:List Nat} {hp st:List Blk} (hnd:ids.Nodup) (hal:∀ j∈ids,cR hp j=true) (hle:HpLe hp st) (hcl:qPC ids hp):oV ids st (oW ids st)=st:=by
  apply List.ext_getElem?;intro j;have hlen:(oW ids st).length=ids.length:=by simp [oW]
  by_cases hj:j < st.length
  · unfold oV
    rw [List.getElem?_append_left (by simpa using hj),zQP,List.getElem?_zipIdx];rw [zQR hj];simp only [Option.map_some,Nat.zero_add]
    cases hp':aK ids j with
    | none=>rfl
    | some i=>
      simp only;have hi:=bD ids j i hp';have hmem:j∈ids:=zQM hi;obtain⟨B,hB,hd⟩:=fJ (hal j hmem);have hB':=hle j B hB hd
      have e:(oW ids st).getD i .dead=B.mapRef (toName (aK ids)):=by
        unfold oW;rw [zQD,zQP,hi];simp [zQD,hB']
      have hc:=hcl j hmem;rw [zQD,hB] at hc;rw [e,zKG ids st.length 0];have:st[j]=B:=by rw [zQR hj] at hB';exact Option.some.inj hB'
      rw [this];exact congrArg some hc
  rw [List.getElem?_eq_none (by rw [nI,hlen];omega),List.getElem?_eq_none (by omega)]
theorem zKF {ids:List Nat} {hp st:List Blk} (hal:∀ j∈ids,cR hp j=true) (hle:HpLe hp st):oW ids st=oW ids hp:=by
  unfold oW;apply List.map_congr_left;intro j hj;obtain⟨B,hB,hd⟩:=fJ (hal j hj);rw [zQD,zQD,hB,hle j B hB hd]
theorem bA {f:Operand} {xs:Array Operand} {ts:Array TypeId} {F:FuncId} {c:AV} {cs:List AV} (ids:List Nat) {args:List AV} {r:AV} {hh:List Blk} (hrr:r.isRef=false∧AV.mapRef (fwd ids 0) r=r∧(∀ n,AV.mapRef (fwd ids n) r=AV.mapRef (fwd ids 0) r)) (ho:o.op=.call { callee:=.value f,args:=xs,argTypes:=ts })
    (hf:ev f=c) (hc:qCJ c=some (F,cs)) (hnd:ids.Nodup) (hal:(ids.all λj=>cR hp j)=true) (hcl:qPC ids hp) (hx:((xs.toList.map ev)++cs).map (AV.mapRef (toName (aK ids)))=args) (hhd:oW ids hp=hh) (hret:Ret C.P F hh (λ_=>false) args r hh):RdOk C o ev hp r:=by
  intro st hhp hag g a w hs Q K' hK;have hfv:=hs.ev f;rw [hag f (by simp [ho,Op.operands,Call.operands]),hf] at hfv;obtain⟨vs,hv,hvs⟩:=qCI hfv hc;have hal':∀ j∈ids,cR hp j=true:=λj hj=>zQT.1 hal j hj
  have hals:∀ j∈ids,cR st.hp j=true:=λj hj=>by
    obtain⟨B,hB,hd⟩:=fJ (hal' j hj);have h1:=hal' j hj;unfold cR at h1 ⊢;rw [zQD,hB] at h1;rw [zQD,hhp j B hB hd];exact h1
  have he:=zKF (st:=st.hp) hal' hhp
  have hf':∀ i j,aK ids i=some j→(g.canon ids).phi j=g.phi i∧(g.canon ids).psi j=g.psi i:=by
    intro i j hij;have:=bD ids i j hij;simp [Gh.canon,this]
  have hargs:Pw (ARep w (g.canon ids)) args (xs.map a.eval++vs).toList:=by
    rw [← hx,Array.toList_append,List.map_append];refine Pw.append ⟨by simp,λi x v hxi hvi=>?_⟩ ⟨by simpa using hvs.1,λi x v hxi hvi=>?_⟩
    · simp only [List.map_map,zQP,zQO] at hxi
      simp only [Array.toList_map,zQP,zQO] at hvi;obtain⟨y,hy,rfl⟩:=hxi;obtain⟨z,hz,rfl⟩:=hvi;rw [hy] at hz;cases hz;have hy':st.fr.ev y=ev y:=hag y (by simp only [ho,Op.operands,Call.operands];exact Array.mem_append.2 (.inr (Array.mem_toList_iff.1 (zQM hy))));have:=ARep.mapRef (w:=w) (g:=g) (g':=g.canon ids) (λd v hd=>hd) (ARep.toName hf' λ_ hb=>hb) (hs.ev y);rw [hy'] at this;exact this
    simp only [zQP,zQO] at hxi;obtain⟨d,hd',rfl⟩:=hxi;exact ARep.mapRef (w:=w) (g:=g) (g':=g.canon ids) (λd v hd=>hd) (ARep.toName hf' λ_ hb=>hb) (hvs.2 i d v hd' hvi)
  simp only [Oper.wp,gR ho hv hret.1,Oper.upon_enter];have hh':oW ids st.hp=hh:=he.trans hhd;have hret2:=hret;rw [← hh'] at hret2;refine (hret2.2 w (g.canon ids) _ (hs.handed hnd) hargs).mono ?_;rintro e w' ⟨v,g',rfl,hout,hr⟩;have hb:=hs.back hnd hals hout;rw [qSL hnd hal' hhp hcl] at hb;refine hK v w' _ hb ?_;have hlt:∀ j∈ids,j < st.hp.length:=λj hj=>by obtain⟨B,hB,_⟩:=fJ (hals j hj);exact (zQQ.1 hB).1
  have := ARep.mapRef (w := w') (g := g') (g' := g.back ids st.hp.length w.heap.size g') (F := fwd ids st.hp.length) (fun d v hd => hd.mono (fun b hb => by
    by_cases hlt' : b < w.heap.size
    · exact .inl (hout.Xold b hb hlt')
    exact .inr ⟨by omega, hb⟩) fun _ _ => rfl) (fun x v hx hr => hx.fwd hnd hlt hr) hr
  rw [hrr.2.2,hrr.2.1] at this;exact this
theorem aQ {ids:List Nat} {hp:List Blk} (h:(ids.map λj=>((hp.getD j .dead).mapRef (toName (aK ids))).mapRef (fwd ids 0))=ids.map λj=>hp.getD j .dead):qPC ids hp:=λj hj=>List.map_inj_left.1 h j hj
theorem x_ixv {e:TypeId} {n:Nat} {α:Type} {f:α→D} {xs:List α} {k:IntKind} {i:Int} {z:α} (ho:o.op=.index t x y) (hu:C.P.underlying t=some (.array n e)) (hl:lay C.P e=some (false,1)) (hx:ev x=.d (.agg (xs.map f))) (hy:ev y=.d (.int k i)) (h:0≤i∧xs[i.toNat]?=some z) (hn:Nat.beq n xs.length=true):RdOk C o ev hp (.d (f z)):=
  RdOk.mk λst hhp hag g a w hs=>by
    have hv:=hs.ev x;rw [hag x (by simp [ho,Op.operands]),hx] at hv;have hi:=hs.ev y;rw [hag y (by simp [ho,Op.operands]),hy] at hi;generalize he:a.eval x=vx at *;have hlt:=(zQQ.1 h.2).1;have hn':=Nat.eq_of_beq_eq_true hn;obtain⟨h1,h2⟩:=qBA hl w
    cases hv with
    | d _ _ hd=>
      cases hd with
      | agg cs vs hlen hone hrep=>
        have hsz:i.toNat < vs.size:=by rw [← hlen,zQC];exact hlt
        refine⟨vs[i.toNat],?_,.d _ _ (hrep i.toNat (f z) _ (by rw [zQP,h.2];rfl) (Array.getElem?_eq_getElem hsz))⟩;have hi2:i < (n:Int):=by omega
        simp only [execOp,ho,he,int_inv hi];simp [Instr.index,run_underlying hu,asIntOf,h.1,hi2,part,h1,h2,Array.getElem?_eq_getElem hsz]
theorem zBR {α:Type} {f:α→D} {xs:List α} {T:Tab} {s id sz idx off bt:Nat} {b:Bool} {z z':α} {v:D} (hT:TabOk C.P T) (ho:o.op=.store t x y) (hd:o.dst=none) (hl:lk T.lay t=some (b,s)) (ha:ev x=.mptr id sz idx off) (hy:ev y=.d v) (hs:Nat.beq v.cells.length s=true) (hb:hp[id]?=some (.flat bt sz (xs.map f))) (hx:xs[idx]?=some z) (hone:((!(f z).one)||v.one)=true) (hle:Nat.ble (off+s) (f z).cells.length=true) (hu:(f z).upd off v=f z'):DOk C o ev hp .junk [(id,.flat bt sz ((xs.set idx z').map f))]:=by
  rw [List.map_set];refine qMS ho hd (hT.lay hl) ha hy (Nat.eq_of_beq_eq_true hs) hb (qVU hx) ?_ (Nat.le_of_ble_eq_true hle) hu;simp only [Bool.or_eq_true,Bool.not_eq_true'] at hone;exact hone
theorem s_frzO {ops:Array Oper} {l:List Oper} {K:St→Prop} {fr fr':Fr} {hp hp':List Blk} (t i:Nat) (ks:List Nat) (hk:Nat.ble C.k i=true) (hks:((List.range C.k).all (cR hp))=true) (hal:cR hp i=true) {sz n ty:Nat} {es:List D} (ht:fr.get t=.msl i sz 0 n) (hb:hp[i]?=some (.flat ty sz es)) (hn:n=es.length) (hf:Fr.mapRef (frz i (.flat ty sz es) (cR hp)) (Fr.keep ks fr)=fr') (hh:(hp.map (Blk.mapRef (frz i (.flat ty sz es) (cR hp)))).set i .dead=hp')
    (h:dG C ops l ⟨(t,.d (.sl sz es)) :: fr',hp'⟩ K):dG C ops l ⟨fr,hp⟩ K:=by
  have hB:hp.getD i .dead=.flat ty sz es:=by rw [zQD,hb];rfl
  intro g a w hs;obtain⟨g',hs'⟩:=hs.freeze i (Nat.le_of_ble_eq_true hk) hal (λj hj=>zQT.1 hks j (List.mem_range.2 hj));subst hf hh;refine h g' a w ?_;simp only [St.freeze,hB] at hs';refine { hs' with fr:=λu=>?_ };have hu:=hs'.fr u;simp only [Fr.get];split
  · rename_i e
    subst e;rw [Fr.get_mapRef,ht] at hu;simp only [AV.mapRef,frz,if_true] at hu;rw [if_pos ⟨trivial,by omega⟩] at hu;subst hn;simpa using hu
  rw [Fr.get_mapRef];rcases Fr.get_keep fr ks u with e|e
  · rw [e,← Fr.get_mapRef];exact hu
  rw [e];exact .junk _
theorem qYE {ops:Array Oper} {K:St→Prop} {l:List Oper} {fr:Fr} {hp:List Blk} {acc:List Rec} {o oq:Oper} (q dq:Nat) (h:dG C ops (o :: l) ⟨fr,hp⟩ K) (h2:dG C ops (o :: oq :: l) ⟨(dq,.junk) :: fr,hp⟩ K) (hq:ops.toList[q]?=some oq) (hdq:(acc.map Rec.d)[q]?=some dq) (hws:(acc.map oP)[q]?.map (·.2)=some []) (hE:qCE q ops.toList acc.length (acc.map Rec.d) (acc.map oP)=true):TDr C ops K (o :: l) fr hp acc:=
  .tailq q o oq l fr hp acc dq hE hq hdq hws h h2
theorem qZR {P:Program} {F:FuncId} {i:Int} {s:ByteArray} (hcb:aV P F=true) (h:∀ w,Calls P F #[.int .i64 i] w λe w'=>e=.returned (.string s)∧w'=w):RetN P F [.int .i64 i] (.str s):=by
  refine⟨λ_=>false,.d (.str s),[],⟨hcb,λw g vs hout hargs=>?_⟩,.d _,.d _ rfl,λB hB=>by simp at hB⟩
  obtain⟨v0,rfl⟩:∃ v0,vs=#[v0]:=by
    have hl:vs.size=1:=by have:=hargs.1;simpa using this.symm
    exact⟨vs[0],by apply Array.ext;simp [hl];intro i h1 h2;match i,h2 with|0,_=>rfl⟩
  have h0:=hargs.2 0 _ _ rfl rfl;rw [int_inv h0];refine (h w).mono ?_;rintro e w' ⟨rfl,rfl⟩;exact⟨_,g,rfl,hout,.d _ _ (.str _)⟩
end Go.TL
set_option maxHeartbeats 8000000
set_option linter.unusedSimpArgs false
set_option linter.unusedVariables false
set_option maxRecDepth 20000
namespace Go.Proofs.YtcagmechagiclaaGreatDoor
open Go Go.TL
structure Step where
 el:Int
 inV:Int
 out:Int
deriving DecidableEq,Inhabited
def Step.enc (x:Step):D:=.agg [.int .i64 x.el,.int .i64 x.inV,.int .i64 x.out]
structure Step.Wf (x:Step):Prop where
 el:I64 x.el
 inV:I64 x.inV
 out:I64 x.out
structure Setting where
 el:Int
 pos:Int
deriving DecidableEq,Inhabited
def Setting.enc (x:Setting):D:=.agg [.int .i64 x.el,.int .i64 x.pos]
structure Setting.Wf (x:Setting):Prop where
 el:I64 x.el
 pos:I64 x.pos
structure End where
 el:Int
 side:Int
deriving DecidableEq,Inhabited
def End.enc (x:End):D:=.agg [.int .i64 x.el,.int .i64 x.side]
structure End.Wf (x:End):Prop where
 el:I64 x.el
 side:I64 x.side
structure Route where
 name:ByteArray
 entry:Int
 exit:Int
 path:(List Step)
 points:(List Setting)
 sections:(List Int)
 approach:Int
 length:Int
 over:(List Step)
 overPoints:(List Setting)
 overSections:(List Int)
 flank:(List Setting)
 guards:(List Int)
 gaps:(List End)
deriving DecidableEq,Inhabited
def Route.enc (x:Route):D:=.agg [.str x.name,.int .i64 x.entry,.int .i64 x.exit,.sl 3 (x.path.map Step.enc),.sl 2 (x.points.map Setting.enc),.sl 1 (x.sections.map (D.int .i64)),.int .i64 x.approach,.int .i64 x.length,.sl 3 (x.over.map Step.enc),.sl 2 (x.overPoints.map Setting.enc),.sl 1 (x.overSections.map (D.int .i64)),.sl 2 (x.flank.map Setting.enc),.sl 1 (x.guards.map (D.int .i64)),.sl 2 (x.gaps.map End.enc)]
structure Route.Wf (x:Route):Prop where
 name:x.name.size≤reachBytes
 entry:I64 x.entry
 exit:I64 x.exit
 path:x.path.length≤reachBytes∧∀ y∈x.path,Step.Wf y
 points:x.points.length≤reachBytes∧∀ y∈x.points,Setting.Wf y
 sections:x.sections.length≤reachBytes∧∀ y∈x.sections,I64 y
 approach:I64 x.approach
 length:I64 x.length
 over:x.over.length≤reachBytes∧∀ y∈x.over,Step.Wf y
 overPoints:x.overPoints.length≤reachBytes∧∀ y∈x.overPoints,Setting.Wf y
 overSections:x.overSections.length≤reachBytes∧∀ y∈x.overSections,I64 y
 flank:x.flank.length≤reachBytes∧∀ y∈x.flank,Setting.Wf y
 guards:x.guards.length≤reachBytes∧∀ y∈x.guards,I64 y
 gaps:x.gaps.length≤reachBytes∧∀ y∈x.gaps,End.Wf y
structure Table where
 routes:(List Route)
 points:(List Int)
 homes:(List Int)
 sections:Int
 signals:Int
deriving DecidableEq,Inhabited
def Table.enc (x:Table):D:=.agg [.sl 14 (x.routes.map Route.enc),.sl 1 (x.points.map (D.int .i64)),.sl 1 (x.homes.map (D.int .i64)),.int .i64 x.sections,.int .i64 x.signals]
structure Table.Wf (x:Table):Prop where
 routes:x.routes.length≤reachBytes∧∀ y∈x.routes,Route.Wf y
 points:x.points.length≤reachBytes∧∀ y∈x.points,I64 y
 homes:x.homes.length≤reachBytes∧∀ y∈x.homes,I64 y
 sections:I64 x.sections
 signals:I64 x.signals
structure Numbering where
 t:Table
 inputs:Int
 bases:(List Int)
 extra:Int
 count:Int
deriving DecidableEq,Inhabited
def Numbering.enc (x:Numbering):D:=.agg [.sl 14 (x.t.routes.map Route.enc),.sl 1 (x.t.points.map (D.int .i64)),.sl 1 (x.t.homes.map (D.int .i64)),.int .i64 x.t.sections,.int .i64 x.t.signals,.int .i64 x.inputs,.sl 1 (x.bases.map (D.int .i64)),.int .i64 x.extra,.int .i64 x.count]
structure Numbering.Wf (x:Numbering):Prop where
 t:Table.Wf x.t
 inputs:I64 x.inputs
 bases:x.bases.length≤reachBytes∧∀ y∈x.bases,I64 y
 extra:I64 x.extra
 count:I64 x.count
structure Expr where
 op:Int
 var:Int
 args:(List Expr)
instance:Inhabited Expr:=⟨⟨default,default,[]⟩⟩
mutual
def Expr.encR:Expr→D
 | ⟨a0,a1,a2⟩=>.agg [.int .i64 a0,.int .i64 a1,.sl 3 (Expr.encsR a2)]
def Expr.encsR:List Expr→List D
 | []=>[]
 | e :: r=>Expr.encR e :: Expr.encsR r
end
theorem Expr.encsR_map:∀ xs:List Expr,Expr.encsR xs=xs.map Expr.encR
 | []=>by simp [Expr.encsR]
 | e :: r=>by simp [Expr.encsR,Expr.encsR_map r]
def Expr.enc (x:Expr):D:=.agg [.int .i64 x.op,.int .i64 x.var,.sl 3 (x.args.map Expr.encR)]
theorem Expr.encR_eq (x:Expr):x.encR=x.enc:=by cases x;simp [Expr.encR,Expr.enc,Expr.encsR_map]
theorem Expr.encR_cells (x:Expr):x.encR.cells.length=3:=by rw [Expr.encR_eq];rfl
mutual
def Expr.beq:Expr→Expr→Bool
 | ⟨a0,a1,a2⟩,⟨b0,b1,b2⟩=>decide (a0=b0)&&decide (a1=b1)&&Expr.beqs a2 b2
def Expr.beqs:List Expr→List Expr→Bool
 | [],[]=>true
 | x :: xs,y :: ys=>Expr.beq x y&&Expr.beqs xs ys
 | _,_=>false
end
mutual
theorem Expr.beq_iff:∀ a b:Expr,Expr.beq a b=true↔a=b
 | ⟨a0,a1,a2⟩,⟨b0,b1,b2⟩=>by simp [Expr.beq,Expr.beqs_iff a2 b2,and_assoc]
theorem Expr.beqs_iff:∀ a b:List Expr,Expr.beqs a b=true↔a=b
 | [],[]=>by simp [Expr.beqs]
 | [],_ :: _=>by simp [Expr.beqs]
 | _ :: _,[]=>by simp [Expr.beqs]
 | x :: xs,y :: ys=>by simp [Expr.beqs,Expr.beq_iff x y,Expr.beqs_iff xs ys]
end
instance:DecidableEq Expr:=λa b=>decidable_of_iff _ (Expr.beq_iff a b)
inductive Expr.Wf:Expr→Prop
 | mk (x:Expr) (h0:I64 x.op) (h1:I64 x.var) (h2:x.args.length≤reachBytes) (g2:∀ y∈x.args,Expr.Wf y):Expr.Wf x
structure Rung where
 kind:Int
 var:Int
 preset:Int
 expr:Expr
deriving DecidableEq,Inhabited
def Rung.enc (x:Rung):D:=.agg [.int .i64 x.kind,.int .i64 x.var,.int .i64 x.preset,.int .i64 x.expr.op,.int .i64 x.expr.var,.sl 3 (x.expr.args.map Expr.encR)]
structure Rung.Wf (x:Rung):Prop where
 kind:I64 x.kind
 var:I64 x.var
 preset:I64 x.preset
 expr:Expr.Wf x.expr
structure Builder where
 numbering:Numbering
 rungs:(List Rung)
deriving DecidableEq,Inhabited
structure Builder.Wf (x:Builder):Prop where
 numbering:Numbering.Wf x.numbering
 rungs:x.rungs.length≤reachBytes∧∀ y∈x.rungs,Rung.Wf y
structure Program where
 names:(List ByteArray)
 inputs:Int
 rungs:(List Rung)
deriving DecidableEq,Inhabited
def Program.enc (x:Program):D:=.agg [.sl 1 (x.names.map D.str),.int .i64 x.inputs,.sl 6 (x.rungs.map Rung.enc)]
structure Program.Wf (x:Program):Prop where
 names:x.names.length≤reachBytes∧∀ y∈x.names,y.size≤reachBytes
 inputs:I64 x.inputs
 rungs:x.rungs.length≤reachBytes∧∀ y∈x.rungs,Rung.Wf y
structure Machine where
 vars:(List Bool)
 counts:(List Int)
 halted:Bool
deriving DecidableEq,Inhabited
def Machine.enc (x:Machine):D:=.agg [.sl 1 (x.vars.map D.bool),.sl 1 (x.counts.map (D.int .i64)),.bool x.halted]
structure Machine.Wf (x:Machine):Prop where
 vars:x.vars.length≤reachBytes∧∀ y∈x.vars,True
 counts:x.counts.length≤reachBytes∧∀ y∈x.counts,I64 y
 halted:True
structure Inputs where
 occupied:(List Bool)
 detected:(List Int)
 closed:(List Bool)
 claimed:(List Bool)
 passed:(List Bool)
 calls:(List Int)
 cancels:(List Int)
deriving DecidableEq,Inhabited
def Inputs.enc (x:Inputs):D:=.agg [.sl 1 (x.occupied.map D.bool),.sl 1 (x.detected.map (D.int .i64)),.sl 1 (x.closed.map D.bool),.sl 1 (x.claimed.map D.bool),.sl 1 (x.passed.map D.bool),.sl 1 (x.calls.map (D.int .i64)),.sl 1 (x.cancels.map (D.int .i64))]
structure Inputs.Wf (x:Inputs):Prop where
 occupied:x.occupied.length≤reachBytes∧∀ y∈x.occupied,True
 detected:x.detected.length≤reachBytes∧∀ y∈x.detected,I64 y
 closed:x.closed.length≤reachBytes∧∀ y∈x.closed,True
 claimed:x.claimed.length≤reachBytes∧∀ y∈x.claimed,True
 passed:x.passed.length≤reachBytes∧∀ y∈x.passed,True
 calls:x.calls.length≤reachBytes∧∀ y∈x.calls,I64 y
 cancels:x.cancels.length≤reachBytes∧∀ y∈x.cancels,I64 y
inductive Fn110 where
 | c123
 | c124 (a0:Rung)
deriving DecidableEq
instance:Inhabited Fn110:=⟨.c123⟩
def Fn110.enc:Fn110→D
 | .c123=>.fn 123
 | .c124 a0=>.clo 124 [.ptr a0.enc 0]
structure Effect where
 act:Fn110
deriving DecidableEq,Inhabited
def Effect.enc (x:Effect):D:=.agg [x.act.enc]
structure Effect.Wf (x:Effect):Prop where
 act:True
structure If_node where
 tid:Nat
 e:Expr
deriving DecidableEq,Inhabited
def If_node.enc (x:If_node):D:=.iface x.tid (.agg [.ptr x.e.enc 0])
structure RouteState where
 state:Int
 rel:Int
 timer:Int
deriving DecidableEq,Inhabited
def RouteState.enc (x:RouteState):D:=.agg [.int .i64 x.state,.int .i64 x.rel,.int .i64 x.timer]
structure RouteState.Wf (x:RouteState):Prop where
 state:I64 x.state
 rel:I64 x.rel
 timer:I64 x.timer
structure Inter where
 routes:(List RouteState)
 lies:(List Int)
deriving DecidableEq,Inhabited
def Inter.enc (x:Inter):D:=.agg [.sl 3 (x.routes.map RouteState.enc),.sl 1 (x.lies.map (D.int .i64))]
structure Inter.Wf (x:Inter):Prop where
 routes:x.routes.length≤reachBytes∧∀ y∈x.routes,RouteState.Wf y
 lies:x.lies.length≤reachBytes∧∀ y∈x.lies,I64 y
structure Places where
 points:Int
 routes:Int
 lies:Int
 aux:Int
 all:Int
 states:(List Int)
deriving DecidableEq,Inhabited
def Places.enc (x:Places):D:=.agg [.int .i64 x.points,.int .i64 x.routes,.int .i64 x.lies,.int .i64 x.aux,.int .i64 x.all,.sl 1 (x.states.map (D.int .i64))]
structure Places.Wf (x:Places):Prop where
 points:I64 x.points
 routes:I64 x.routes
 lies:I64 x.lies
 aux:I64 x.aux
 all:I64 x.all
 states:x.states.length≤reachBytes∧∀ y∈x.states,I64 y
structure Compiler where
 t:Table
 p:Places
 rungs:(List Rung)
deriving DecidableEq,Inhabited
structure Compiler.Wf (x:Compiler):Prop where
 t:Table.Wf x.t
 p:Places.Wf x.p
 rungs:x.rungs.length≤reachBytes∧∀ y∈x.rungs,Rung.Wf y
structure A2_int where
 a0:Int
 a1:Int
deriving DecidableEq,Inhabited
def A2_int.enc (x:A2_int):D:=.agg [.int .i64 x.a0,.int .i64 x.a1]
structure A2_int.Wf (x:A2_int):Prop where
 a0:I64 x.a0
 a1:I64 x.a1
structure View where
 t:Table
 inV:Inputs
 route:Route
 old:RouteState
 claimed:Bool
 passed:Bool
 cancelled:Bool
 emptied:Bool
deriving DecidableEq,Inhabited
def View.enc (x:View):D:=.agg [.sl 14 (x.t.routes.map Route.enc),.sl 1 (x.t.points.map (D.int .i64)),.sl 1 (x.t.homes.map (D.int .i64)),.int .i64 x.t.sections,.int .i64 x.t.signals,.sl 1 (x.inV.occupied.map D.bool),.sl 1 (x.inV.detected.map (D.int .i64)),.sl 1 (x.inV.closed.map D.bool),.sl 1 (x.inV.claimed.map D.bool),.sl 1 (x.inV.passed.map D.bool),.sl 1 (x.inV.calls.map (D.int .i64)),.sl 1 (x.inV.cancels.map (D.int .i64)),.str x.route.name,.int .i64 x.route.entry,.int .i64 x.route.exit,.sl 3 (x.route.path.map Step.enc),.sl 2 (x.route.points.map Setting.enc),.sl 1 (x.route.sections.map (D.int .i64)),.int .i64 x.route.approach,.int .i64 x.route.length,.sl 3 (x.route.over.map Step.enc),.sl 2 (x.route.overPoints.map Setting.enc),.sl 1 (x.route.overSections.map (D.int .i64)),.sl 2 (x.route.flank.map Setting.enc),.sl 1 (x.route.guards.map (D.int .i64)),.sl 2 (x.route.gaps.map End.enc),.int .i64 x.old.state,.int .i64 x.old.rel,.int .i64 x.old.timer,.bool x.claimed,.bool x.passed,.bool x.cancelled,.bool x.emptied]
structure View.Wf (x:View):Prop where
 t:Table.Wf x.t
 inV:Inputs.Wf x.inV
 route:Route.Wf x.route
 old:RouteState.Wf x.old
 claimed:True
 passed:True
 cancelled:True
 emptied:True
structure Outputs where
 clear:(List Bool)
 lies:(List Int)
 refused:(List Int)
deriving DecidableEq,Inhabited
def Outputs.enc (x:Outputs):D:=.agg [.sl 1 (x.clear.map D.bool),.sl 1 (x.lies.map (D.int .i64)),.sl 1 (x.refused.map (D.int .i64))]
structure Outputs.Wf (x:Outputs):Prop where
 clear:x.clear.length≤reachBytes∧∀ y∈x.clear,True
 lies:x.lies.length≤reachBytes∧∀ y∈x.lies,I64 y
 refused:x.refused.length≤reachBytes∧∀ y∈x.refused,I64 y
structure Cycle where
 inter:Inter
 t:Table
 inV:Inputs
 refused:(List Int)
deriving DecidableEq,Inhabited
structure Cycle.Wf (x:Cycle):Prop where
 inter:Inter.Wf x.inter
 t:Table.Wf x.t
 inV:Inputs.Wf x.inV
 refused:x.refused.length≤reachBytes∧∀ y∈x.refused,I64 y
def RouteState.ok (x:RouteState):Prop:=I64 x.state∧I64 x.rel∧I64 x.timer
instance (x:RouteState):Decidable (RouteState.ok x):=by unfold RouteState.ok;infer_instance
theorem wJ (x y:RouteState):([.int .i64 x.state,.int .i64 x.rel,.int .i64 x.timer]:List Lit)=[.int .i64 y.state,.int .i64 y.rel,.int .i64 y.timer]↔decide (x=y)=true:=by
 rw [decide_eq_true_eq]
 obtain⟨_,_,_⟩:=x
 obtain⟨_,_,_⟩:=y
 simp [RouteState.mk.injEq,qAS,and_assoc]
def Setting.ok (x:Setting):Prop:=I64 x.el∧I64 x.pos
instance (x:Setting):Decidable (Setting.ok x):=by unfold Setting.ok;infer_instance
theorem qCS (x y:Setting):([.int .i64 x.el,.int .i64 x.pos]:List Lit)=[.int .i64 y.el,.int .i64 y.pos]↔decide (x=y)=true:=by
 rw [decide_eq_true_eq]
 obtain⟨_,_⟩:=x
 obtain⟨_,_⟩:=y
 simp [Setting.mk.injEq,qAS,and_assoc]
def A2_int.ok (x:A2_int):Prop:=I64 x.a0∧I64 x.a1
instance (x:A2_int):Decidable (A2_int.ok x):=by unfold A2_int.ok;infer_instance
theorem qTT (x y:A2_int):([.int .i64 x.a0,.int .i64 x.a1]:List Lit)=[.int .i64 y.a0,.int .i64 y.a1]↔decide (x=y)=true:=by
 rw [decide_eq_true_eq]
 obtain⟨_,_⟩:=x
 obtain⟨_,_⟩:=y
 simp [A2_int.mk.injEq,qAS,and_assoc]
theorem follows:Tryz.prog.follows .mixedOrders=true:=by kernel_rfl
theorem own:ownKnob Tryz.prog.godebug=none:=by kernel_rfl
theorem zKC:laidOutB Tryz.prog=true:=by kernel_rfl
def tab:Tab where
 lay:=[(3,false,1),(4,false,1),(9,false,1),(22,false,1),(23,false,1),(25,true,5),(28,false,1),(29,false,1),(31,true,3),(36,false,1),(38,true,3),(40,true,6),(41,false,1),(43,true,7),(48,true,3),(50,false,1),(52,true,2),(60,true,3),(65,true,3),(70,false,1),(71,false,1),(74,true,14),(77,true,9),(81,true,10),(91,true,6),(112,true,1),(122,true,15),(127,false,1),(133,true,2),(144,true,4),(146,false,1),(150,false,1),(157,true,33),(180,true,1),(181,true,1),(182,true,1),(183,true,1),(189,true,2)]
 fs:=[(25,[(0,false,1),(1,false,1),(2,false,1),(3,false,1),(4,false,1)]),(31,[(0,false,1),(1,false,1),(2,false,1)]),(38,[(0,false,1),(1,false,1),(2,false,1)]),(40,[(0,false,1),(1,false,1),(2,false,1),(3,true,3)]),(43,[(0,false,1),(1,false,1),(2,false,1),(3,false,1),(4,false,1),(5,false,1),(6,false,1)]),(48,[(0,false,1),(1,false,1),(2,false,1)]),(52,[(0,false,1),(1,false,1)]),(60,[(0,false,1),(1,false,1),(2,false,1)]),(65,[(0,false,1),(1,false,1),(2,false,1)]),(74,[(0,false,1),(1,false,1),(2,false,1),(3,false,1),(4,false,1),(5,false,1),(6,false,1),(7,false,1),(8,false,1),(9,false,1),(10,false,1),(11,false,1),(12,false,1),(13,false,1)]),(77,[(0,true,5),(5,false,1),(6,false,1),(7,false,1),(8,false,1)]),(81,[(0,true,9),(9,false,1)]),(91,[(0,false,1),(1,false,1),(2,false,1),(3,false,1),(4,false,1),(5,false,1)]),(94,[(0,true,5),(5,true,6),(11,false,1)]),(112,[(0,false,1)]),(122,[(0,true,2),(2,true,5),(7,true,7),(14,false,1)]),(133,[(0,false,1),(1,false,1)]),(157,[(0,true,5),(5,true,7),(12,true,14),(26,true,3),(29,false,1),(30,false,1),(31,false,1),(32,false,1)]),(180,[(0,false,1)]),(181,[(0,false,1)]),(182,[(0,false,1)]),(183,[(0,false,1)])]
 sel:=[(22,74,14,264),(23,3,1,8),(28,9,1,16),(29,40,6,64),(36,38,3,40),(41,4,1,1),(50,60,3,24),(56,43,7,168),(70,126,3,24),(71,133,2,16),(149,150,1,24),(150,189,2,16),(162,23,1,24),(196,71,1,24)]
 str:=[]
 boo:=[(4,())]
 con:=[(180,()),(181,()),(182,()),(183,()),(200,())]
theorem TK:TabOk Tryz.prog tab:=zIN (by kernel_rfl)
theorem qYR:qTP Tryz.prog 175=some (24,1):=by kernel_rfl
theorem qCN:qTP Tryz.prog 189=some (2,1):=by kernel_rfl
theorem zND:aV Tryz.prog 10=true:=by kernel_rfl
theorem zNC:aV Tryz.prog 11=true:=by kernel_rfl
theorem zHN:aV Tryz.prog 116=true:=by kernel_rfl
theorem zHM:aV Tryz.prog 117=true:=by kernel_rfl
theorem zHL:aV Tryz.prog 118=true:=by kernel_rfl
theorem zHK:aV Tryz.prog 119=true:=by kernel_rfl
theorem zHJ:aV Tryz.prog 120=true:=by kernel_rfl
theorem zHI:aV Tryz.prog 121=true:=by kernel_rfl
theorem zHH:aV Tryz.prog 122=true:=by kernel_rfl
theorem zHG:aV Tryz.prog 123=true:=by kernel_rfl
theorem zHF:aV Tryz.prog 124=true:=by kernel_rfl
theorem zHE:aV Tryz.prog 125=true:=by kernel_rfl
theorem zHD:aV Tryz.prog 127=true:=by kernel_rfl
theorem zHC:aV Tryz.prog 128=true:=by kernel_rfl
theorem zHB:aV Tryz.prog 129=true:=by kernel_rfl
theorem zNB:aV Tryz.prog 13=true:=by kernel_rfl
theorem zHA:aV Tryz.prog 130=true:=by kernel_rfl
theorem zGZ:aV Tryz.prog 131=true:=by kernel_rfl
theorem zGY:aV Tryz.prog 132=true:=by kernel_rfl
theorem zGX:aV Tryz.prog 133=true:=by kernel_rfl
theorem zGW:aV Tryz.prog 134=true:=by kernel_rfl
theorem zGV:aV Tryz.prog 135=true:=by kernel_rfl
theorem zGU:aV Tryz.prog 136=true:=by kernel_rfl
theorem zGT:aV Tryz.prog 137=true:=by kernel_rfl
theorem zGS:aV Tryz.prog 138=true:=by kernel_rfl
theorem zGR:aV Tryz.prog 139=true:=by kernel_rfl
theorem zNA:aV Tryz.prog 14=true:=by kernel_rfl
theorem zGQ:aV Tryz.prog 140=true:=by kernel_rfl
theorem zGP:aV Tryz.prog 141=true:=by kernel_rfl
theorem zGO:aV Tryz.prog 142=true:=by kernel_rfl
theorem zGN:aV Tryz.prog 143=true:=by kernel_rfl
theorem zGM:aV Tryz.prog 144=true:=by kernel_rfl
theorem zGL:aV Tryz.prog 145=true:=by kernel_rfl
theorem zGK:aV Tryz.prog 146=true:=by kernel_rfl
theorem zGJ:aV Tryz.prog 147=true:=by kernel_rfl
theorem zGI:aV Tryz.prog 148=true:=by kernel_rfl
theorem zGH:aV Tryz.prog 149=true:=by kernel_rfl
theorem zMZ:aV Tryz.prog 15=true:=by kernel_rfl
theorem zGG:aV Tryz.prog 155=true:=by kernel_rfl
theorem zGF:aV Tryz.prog 156=true:=by kernel_rfl
theorem zGE:aV Tryz.prog 159=true:=by kernel_rfl
theorem zGD:aV Tryz.prog 160=true:=by kernel_rfl
theorem zGC:aV Tryz.prog 161=true:=by kernel_rfl
theorem zGB:aV Tryz.prog 162=true:=by kernel_rfl
theorem zGA:aV Tryz.prog 163=true:=by kernel_rfl
theorem zFZ:aV Tryz.prog 164=true:=by kernel_rfl
theorem zFY:aV Tryz.prog 165=true:=by kernel_rfl
theorem zFX:aV Tryz.prog 166=true:=by kernel_rfl
theorem zFW:aV Tryz.prog 167=true:=by kernel_rfl
theorem zFV:aV Tryz.prog 168=true:=by kernel_rfl
theorem zFU:aV Tryz.prog 169=true:=by kernel_rfl
theorem zMY:aV Tryz.prog 17=true:=by kernel_rfl
theorem zFT:aV Tryz.prog 170=true:=by kernel_rfl
theorem zFS:aV Tryz.prog 171=true:=by kernel_rfl
theorem zFR:aV Tryz.prog 172=true:=by kernel_rfl
theorem zFQ:aV Tryz.prog 174=true:=by kernel_rfl
theorem zMX:aV Tryz.prog 18=true:=by kernel_rfl
theorem zFP:aV Tryz.prog 187=true:=by kernel_rfl
theorem zFO:aV Tryz.prog 188=true:=by kernel_rfl
theorem zMW:aV Tryz.prog 20=true:=by kernel_rfl
theorem qYP:aV Tryz.prog 22=true:=by kernel_rfl
theorem zMV:aV Tryz.prog 23=true:=by kernel_rfl
theorem zMU:aV Tryz.prog 24=true:=by kernel_rfl
theorem zMT:aV Tryz.prog 26=true:=by kernel_rfl
theorem zMS:aV Tryz.prog 27=true:=by kernel_rfl
theorem zMR:aV Tryz.prog 28=true:=by kernel_rfl
theorem zMQ:aV Tryz.prog 29=true:=by kernel_rfl
theorem zMP:aV Tryz.prog 30=true:=by kernel_rfl
theorem zMO:aV Tryz.prog 31=true:=by kernel_rfl
theorem zMN:aV Tryz.prog 32=true:=by kernel_rfl
theorem zMM:aV Tryz.prog 33=true:=by kernel_rfl
theorem zML:aV Tryz.prog 34=true:=by kernel_rfl
theorem zMK:aV Tryz.prog 35=true:=by kernel_rfl
theorem zMJ:aV Tryz.prog 36=true:=by kernel_rfl
theorem zMI:aV Tryz.prog 37=true:=by kernel_rfl
theorem zMH:aV Tryz.prog 38=true:=by kernel_rfl
theorem zMG:aV Tryz.prog 39=true:=by kernel_rfl
theorem zMF:aV Tryz.prog 40=true:=by kernel_rfl
theorem zME:aV Tryz.prog 41=true:=by kernel_rfl
theorem zMD:aV Tryz.prog 42=true:=by kernel_rfl
theorem zMC:aV Tryz.prog 43=true:=by kernel_rfl
theorem zMB:aV Tryz.prog 53=true:=by kernel_rfl
theorem zMA:aV Tryz.prog 54=true:=by kernel_rfl
theorem zLZ:aV Tryz.prog 55=true:=by kernel_rfl
theorem zLY:aV Tryz.prog 56=true:=by kernel_rfl
theorem zLX:aV Tryz.prog 57=true:=by kernel_rfl
theorem zLW:aV Tryz.prog 59=true:=by kernel_rfl
theorem zLV:aV Tryz.prog 60=true:=by kernel_rfl
theorem zLU:aV Tryz.prog 62=true:=by kernel_rfl
theorem zLT:aV Tryz.prog 63=true:=by kernel_rfl
theorem qYO:aV Tryz.prog 64=true:=by kernel_rfl
theorem zLS:aV Tryz.prog 65=true:=by kernel_rfl
theorem zLR:aV Tryz.prog 66=true:=by kernel_rfl
theorem zLQ:aV Tryz.prog 71=true:=by kernel_rfl
theorem zLP:aV Tryz.prog 72=true:=by kernel_rfl
theorem zLO:aV Tryz.prog 73=true:=by kernel_rfl
theorem zLN:aV Tryz.prog 74=true:=by kernel_rfl
theorem zLM:aV Tryz.prog 75=true:=by kernel_rfl
theorem zLL:aV Tryz.prog 76=true:=by kernel_rfl
theorem zLK:aV Tryz.prog 77=true:=by kernel_rfl
theorem zLJ:aV Tryz.prog 78=true:=by kernel_rfl
theorem zLI:aV Tryz.prog 79=true:=by kernel_rfl
theorem callB8:aV Tryz.prog 8=true:=by kernel_rfl
theorem zLH:aV Tryz.prog 80=true:=by kernel_rfl
theorem zLG:aV Tryz.prog 81=true:=by kernel_rfl
theorem zLF:aV Tryz.prog 82=true:=by kernel_rfl
theorem zLE:aV Tryz.prog 83=true:=by kernel_rfl
theorem zLD:aV Tryz.prog 84=true:=by kernel_rfl
theorem zLC:aV Tryz.prog 85=true:=by kernel_rfl
theorem zLB:aV Tryz.prog 86=true:=by kernel_rfl
theorem zLA:aV Tryz.prog 87=true:=by kernel_rfl
theorem zKZ:aV Tryz.prog 88=true:=by kernel_rfl
theorem zKY:aV Tryz.prog 89=true:=by kernel_rfl
theorem callB9:aV Tryz.prog 9=true:=by kernel_rfl
theorem zKX:aV Tryz.prog 90=true:=by kernel_rfl
theorem zKW:aV Tryz.prog 91=true:=by kernel_rfl
theorem zKV:aV Tryz.prog 92=true:=by kernel_rfl
theorem zKU:aV Tryz.prog 93=true:=by kernel_rfl
theorem zKT:aV Tryz.prog 94=true:=by kernel_rfl
theorem zKS:aV Tryz.prog 95=true:=by kernel_rfl
theorem zKR:aV Tryz.prog 96=true:=by kernel_rfl
theorem zKQ:aV Tryz.prog 97=true:=by kernel_rfl
theorem qYJ:qEH Tryz.prog 180=true:=by kernel_rfl
theorem qYI:qEH Tryz.prog 181=true:=by kernel_rfl
theorem qYH:qEH Tryz.prog 182=true:=by kernel_rfl
theorem qYG:qEH Tryz.prog 183=true:=by kernel_rfl
theorem qXU:(Tryz.prog.keyTypeAt 30 133&&!Tryz.prog.eqGuardType Tryz.prog.depth 133&&(match Tryz.prog.underlying 133 with|some (.struct _)=>true|_=>false)&&[TypeDesc.int .i64,TypeDesc.int .i64].length == Tryz.prog.cellsOf 133)=true:=by kernel_rfl
theorem zEQ:(Tryz.prog.keyTypeAt 30 60&&!Tryz.prog.eqGuardType Tryz.prog.depth 60&&(match Tryz.prog.underlying 60 with|some (.struct _)=>true|_=>false)&&[TypeDesc.int .i64,TypeDesc.int .i64,TypeDesc.int .i64].length == Tryz.prog.cellsOf 60)=true:=by kernel_rfl
theorem zEP:(Tryz.prog.keyTypeAt 30 189&&!Tryz.prog.eqGuardType Tryz.prog.depth 189)=true:=by kernel_rfl
theorem qSC:xQ Tryz.prog 30 133=some [.int .i64,.int .i64]:=by kernel_rfl
theorem qXT:xQ Tryz.prog 30 60=some [.int .i64,.int .i64,.int .i64]:=by kernel_rfl
theorem zAS:qIO Tryz.prog 189=some (List.replicate 2 (TypeDesc.int .i64)):=by kernel_rfl
theorem zOF:lay Tryz.prog 23=some (false,1):=by kernel_rfl
theorem lay3:lay Tryz.prog 3=some (false,1):=by kernel_rfl
theorem zOE:lay Tryz.prog 71=some (false,1):=by kernel_rfl
theorem zEG:mty Tryz.prog 142=some (9,.string,4):=by kernel_rfl
theorem zDI:plc Tryz.prog 112=some [(0,1)]:=by kernel_rfl
theorem plc122:plc Tryz.prog 122=some [(0,2),(2,5),(7,7),(14,1)]:=by kernel_rfl
theorem zDH:plc Tryz.prog 126=some [(0,1),(1,1),(2,1)]:=by kernel_rfl
theorem plc133:plc Tryz.prog 133=some [(0,1),(1,1)]:=by kernel_rfl
theorem qNQ:plc Tryz.prog 157=some [(0,5),(5,7),(12,14),(26,3),(29,1),(30,1),(31,1),(32,1)]:=by kernel_rfl
theorem plc180:plc Tryz.prog 180=some [(0,1)]:=by kernel_rfl
theorem plc181:plc Tryz.prog 181=some [(0,1)]:=by kernel_rfl
theorem plc182:plc Tryz.prog 182=some [(0,1)]:=by kernel_rfl
theorem plc183:plc Tryz.prog 183=some [(0,1)]:=by kernel_rfl
theorem zDG:plc Tryz.prog 200=some [(0,1)]:=by kernel_rfl
theorem plc25:plc Tryz.prog 25=some [(0,1),(1,1),(2,1),(3,1),(4,1)]:=by kernel_rfl
theorem zNX:plc Tryz.prog 31=some [(0,1),(1,1),(2,1)]:=by kernel_rfl
theorem qXE:plc Tryz.prog 38=some [(0,1),(1,1),(2,1)]:=by kernel_rfl
theorem zDF:plc Tryz.prog 40=some [(0,1),(1,1),(2,1),(3,3)]:=by kernel_rfl
theorem plc43:plc Tryz.prog 43=some [(0,1),(1,1),(2,1),(3,1),(4,1),(5,1),(6,1)]:=by kernel_rfl
theorem qRC:plc Tryz.prog 48=some [(0,1),(1,1),(2,1)]:=by kernel_rfl
theorem qXD:plc Tryz.prog 52=some [(0,1),(1,1)]:=by kernel_rfl
theorem pG:plc Tryz.prog 60=some [(0,1),(1,1),(2,1)]:=by kernel_rfl
theorem zNW:plc Tryz.prog 65=some [(0,1),(1,1),(2,1)]:=by kernel_rfl
theorem zDE:plc Tryz.prog 74=some [(0,1),(1,1),(2,1),(3,1),(4,1),(5,1),(6,1),(7,1),(8,1),(9,1),(10,1),(11,1),(12,1),(13,1)]:=by kernel_rfl
theorem zDD:plc Tryz.prog 77=some [(0,5),(5,1),(6,1),(7,1),(8,1)]:=by kernel_rfl
theorem plc81:plc Tryz.prog 81=some [(0,9),(9,1)]:=by kernel_rfl
theorem plc91:plc Tryz.prog 91=some [(0,1),(1,1),(2,1),(3,1),(4,1),(5,1)]:=by kernel_rfl
theorem qCZ:sel Tryz.prog 162=some (23,1,24):=by kernel_rfl
theorem qCY:sel Tryz.prog 196=some (71,1,24):=by kernel_rfl
theorem zQ:sel Tryz.prog 23=some (3,1,8):=by kernel_rfl
theorem zP:sel Tryz.prog 71=some (133,2,16):=by kernel_rfl
theorem qMQ:(Tryz.prog.info? 112).bind (·.zero)=Option.some (Go.Value.agg #[Go.Value.nilFunc]):=by kernel_rfl
theorem qWR:(Tryz.prog.info? 122).bind (·.zero)=Option.some (Go.Value.agg #[Go.Value.slice Option.none 0 0,Go.Value.slice Option.none 0 0,Go.Value.slice Option.none 0 0,Go.Value.slice Option.none 0 0,Go.Value.slice Option.none 0 0,Go.Value.int Go.IntKind.i64 0,Go.Value.int Go.IntKind.i64 0,Go.Value.slice Option.none 0 0,Go.Value.slice Option.none 0 0,Go.Value.slice Option.none 0 0,Go.Value.slice Option.none 0 0,Go.Value.slice Option.none 0 0,Go.Value.slice Option.none 0 0,Go.Value.slice Option.none 0 0,Go.Value.slice Option.none 0 0]):=by kernel_rfl
theorem qFY:(Tryz.prog.info? 126).bind (·.zero)=Option.some (Go.Value.agg #[Go.Value.int Go.IntKind.i64 0,Go.Value.int Go.IntKind.i64 0,Go.Value.int Go.IntKind.i64 0]):=by kernel_rfl
theorem gQ:(Tryz.prog.info? 133).bind (·.zero)=Option.some (Go.Value.agg #[Go.Value.int Go.IntKind.i64 0,Go.Value.int Go.IntKind.i64 0]):=by kernel_rfl
theorem qWQ:(Tryz.prog.info? 144).bind (·.zero)=Option.some (Go.Value.agg #[Go.Value.int Go.IntKind.i64 0,Go.Value.int Go.IntKind.i64 0,Go.Value.int Go.IntKind.i64 0,Go.Value.int Go.IntKind.i64 0]):=by kernel_rfl
theorem qWP:(Tryz.prog.info? 150).bind (·.zero)=Option.some (Go.Value.slice Option.none 0 0):=by kernel_rfl
theorem tM:(Tryz.prog.info? 157).bind (·.zero)=Option.some (Go.Value.agg #[Go.Value.slice Option.none 0 0,Go.Value.slice Option.none 0 0,Go.Value.slice Option.none 0 0,Go.Value.int Go.IntKind.i64 0,Go.Value.int Go.IntKind.i64 0,Go.Value.slice Option.none 0 0,Go.Value.slice Option.none 0 0,Go.Value.slice Option.none 0 0,Go.Value.slice Option.none 0 0,Go.Value.slice Option.none 0 0,Go.Value.slice Option.none 0 0,Go.Value.slice Option.none 0 0,Go.Value.string { data:=#[] },Go.Value.int Go.IntKind.i64 0,Go.Value.int Go.IntKind.i64 0,Go.Value.slice Option.none 0 0,Go.Value.slice Option.none 0 0,Go.Value.slice Option.none 0 0,Go.Value.int Go.IntKind.i64 0,Go.Value.int Go.IntKind.i64 0,Go.Value.slice Option.none 0 0,Go.Value.slice Option.none 0 0,Go.Value.slice Option.none 0 0,Go.Value.slice Option.none 0 0,Go.Value.slice Option.none 0 0,Go.Value.slice Option.none 0 0,Go.Value.int Go.IntKind.i64 0,Go.Value.int Go.IntKind.i64 0,Go.Value.int Go.IntKind.i64 0,Go.Value.bool Bool.false,Go.Value.bool Bool.false,Go.Value.bool Bool.false,Go.Value.bool Bool.false]):=by kernel_rfl
theorem zID:(Tryz.prog.info? 175).bind (·.zero)=Option.some (Go.Value.agg #[Go.Value.bool Bool.false,Go.Value.bool Bool.false,Go.Value.bool Bool.false,Go.Value.bool Bool.false,Go.Value.bool Bool.false,Go.Value.bool Bool.false,Go.Value.bool Bool.false,Go.Value.bool Bool.false,Go.Value.bool Bool.false,Go.Value.bool Bool.false,Go.Value.bool Bool.false,Go.Value.bool Bool.false,Go.Value.bool Bool.false,Go.Value.bool Bool.false,Go.Value.bool Bool.false,Go.Value.bool Bool.false,Go.Value.bool Bool.false,Go.Value.bool Bool.false,Go.Value.bool Bool.false,Go.Value.bool Bool.false,Go.Value.bool Bool.false,Go.Value.bool Bool.false,Go.Value.bool Bool.false,Go.Value.bool Bool.false]):=by kernel_rfl
theorem qMP:(Tryz.prog.info? 180).bind (·.zero)=Option.some (Go.Value.agg #[Go.Value.pointer Option.none]):=by kernel_rfl
theorem qMO:(Tryz.prog.info? 181).bind (·.zero)=Option.some (Go.Value.agg #[Go.Value.pointer Option.none]):=by kernel_rfl
theorem qMN:(Tryz.prog.info? 182).bind (·.zero)=Option.some (Go.Value.agg #[Go.Value.pointer Option.none]):=by kernel_rfl
theorem qMM:(Tryz.prog.info? 183).bind (·.zero)=Option.some (Go.Value.agg #[Go.Value.pointer Option.none]):=by kernel_rfl
theorem pX:(Tryz.prog.info? 189).bind (·.zero)=Option.some (Go.Value.agg #[Go.Value.int Go.IntKind.i64 0,Go.Value.int Go.IntKind.i64 0]):=by kernel_rfl
theorem qWO:(Tryz.prog.info? 200).bind (·.zero)=Option.some (Go.Value.agg #[Go.Value.pointer Option.none]):=by kernel_rfl
theorem qGW:(Tryz.prog.info? 23).bind (·.zero)=Option.some (Go.Value.slice Option.none 0 0):=by kernel_rfl
theorem qTV:(Tryz.prog.info? 25).bind (·.zero)=Option.some (Go.Value.agg #[Go.Value.slice Option.none 0 0,Go.Value.slice Option.none 0 0,Go.Value.slice Option.none 0 0,Go.Value.int Go.IntKind.i64 0,Go.Value.int Go.IntKind.i64 0]):=by kernel_rfl
theorem zero28:(Tryz.prog.info? 28).bind (·.zero)=Option.some (Go.Value.slice Option.none 0 0):=by kernel_rfl
theorem lD:(Tryz.prog.info? 3).bind (·.zero)=Option.some (Go.Value.int Go.IntKind.i64 0):=by kernel_rfl
theorem qGV:(Tryz.prog.info? 31).bind (·.zero)=Option.some (Go.Value.agg #[Go.Value.slice Option.none 0 0,Go.Value.int Go.IntKind.i64 0,Go.Value.slice Option.none 0 0]):=by kernel_rfl
theorem bE:(Tryz.prog.info? 38).bind (·.zero)=Option.some (Go.Value.agg #[Go.Value.int Go.IntKind.i64 0,Go.Value.int Go.IntKind.i64 0,Go.Value.slice Option.none 0 0]):=by kernel_rfl
theorem oK:(Tryz.prog.info? 4).bind (·.zero)=Option.some (Go.Value.bool Bool.false):=by kernel_rfl
theorem pK:(Tryz.prog.info? 40).bind (·.zero)=Option.some (Go.Value.agg #[Go.Value.int Go.IntKind.i64 0,Go.Value.int Go.IntKind.i64 0,Go.Value.int Go.IntKind.i64 0,Go.Value.int Go.IntKind.i64 0,Go.Value.int Go.IntKind.i64 0,Go.Value.slice Option.none 0 0]):=by kernel_rfl
theorem qTU:(Tryz.prog.info? 43).bind (·.zero)=Option.some (Go.Value.agg #[Go.Value.slice Option.none 0 0,Go.Value.slice Option.none 0 0,Go.Value.slice Option.none 0 0,Go.Value.slice Option.none 0 0,Go.Value.slice Option.none 0 0,Go.Value.slice Option.none 0 0,Go.Value.slice Option.none 0 0]):=by kernel_rfl
theorem oJ:(Tryz.prog.info? 48).bind (·.zero)=Option.some (Go.Value.agg #[Go.Value.slice Option.none 0 0,Go.Value.slice Option.none 0 0,Go.Value.bool Bool.false]):=by kernel_rfl
theorem oI:(Tryz.prog.info? 52).bind (·.zero)=Option.some (Go.Value.agg #[Go.Value.slice Option.none 0 0,Go.Value.slice Option.none 0 0]):=by kernel_rfl
theorem eX:(Tryz.prog.info? 60).bind (·.zero)=Option.some (Go.Value.agg #[Go.Value.int Go.IntKind.i64 0,Go.Value.int Go.IntKind.i64 0,Go.Value.int Go.IntKind.i64 0]):=by kernel_rfl
theorem qGU:(Tryz.prog.info? 65).bind (·.zero)=Option.some (Go.Value.agg #[Go.Value.slice Option.none 0 0,Go.Value.slice Option.none 0 0,Go.Value.slice Option.none 0 0]):=by kernel_rfl
theorem zero71:(Tryz.prog.info? 71).bind (·.zero)=Option.some (Go.Value.slice Option.none 0 0):=by kernel_rfl
theorem jK:(Tryz.prog.info? 74).bind (·.zero)=Option.some (Go.Value.agg #[Go.Value.string { data:=#[] },Go.Value.int Go.IntKind.i64 0,Go.Value.int Go.IntKind.i64 0,Go.Value.slice Option.none 0 0,Go.Value.slice Option.none 0 0,Go.Value.slice Option.none 0 0,Go.Value.int Go.IntKind.i64 0,Go.Value.int Go.IntKind.i64 0,Go.Value.slice Option.none 0 0,Go.Value.slice Option.none 0 0,Go.Value.slice Option.none 0 0,Go.Value.slice Option.none 0 0,Go.Value.slice Option.none 0 0,Go.Value.slice Option.none 0 0]):=by kernel_rfl
theorem wQ:(Tryz.prog.info? 77).bind (·.zero)=Option.some (Go.Value.agg #[Go.Value.slice Option.none 0 0,Go.Value.slice Option.none 0 0,Go.Value.slice Option.none 0 0,Go.Value.int Go.IntKind.i64 0,Go.Value.int Go.IntKind.i64 0,Go.Value.int Go.IntKind.i64 0,Go.Value.slice Option.none 0 0,Go.Value.int Go.IntKind.i64 0,Go.Value.int Go.IntKind.i64 0]):=by kernel_rfl
theorem zBO:(Tryz.prog.info? 81).bind (·.zero)=Option.some (Go.Value.agg #[Go.Value.slice Option.none 0 0,Go.Value.slice Option.none 0 0,Go.Value.slice Option.none 0 0,Go.Value.int Go.IntKind.i64 0,Go.Value.int Go.IntKind.i64 0,Go.Value.int Go.IntKind.i64 0,Go.Value.slice Option.none 0 0,Go.Value.int Go.IntKind.i64 0,Go.Value.int Go.IntKind.i64 0,Go.Value.slice Option.none 0 0]):=by kernel_rfl
theorem zM:(Tryz.prog.info? 9).bind (·.zero)=Option.some (Go.Value.string { data:=#[] }):=by kernel_rfl
theorem qML:(Tryz.prog.info? 91).bind (·.zero)=Option.some (Go.Value.agg #[Go.Value.int Go.IntKind.i64 0,Go.Value.int Go.IntKind.i64 0,Go.Value.int Go.IntKind.i64 0,Go.Value.int Go.IntKind.i64 0,Go.Value.int Go.IntKind.i64 0,Go.Value.slice Option.none 0 0]):=by kernel_rfl
theorem zJC:zJD Tryz.prog 144=some [(0,1),(1,1),(2,1),(3,1)]:=by kernel_rfl
theorem qNP:zJD Tryz.prog 189=some [(0,1),(1,1)]:=by kernel_rfl
theorem qAC {w:World} {n k:Nat} {g:Gh} {mv:Nat→Bool} {o:Oper} {ev:Operand→AV} {hp:List Blk} {a b:Operand} {t':TypeId} {x y:RouteState} (ho:o.op=.binOp .eql 60 a b t') (hx:ev a=.d x.enc) (hy:ev b=.d y.enc) (h1:x.ok) (h2:y.ok):RdOk ⟨Tryz.prog,n,w,k,g,mv⟩ o ev hp (.d (.bool (decide (x=y)))):=
 zFD ho hx hy qXT zEQ rfl rfl ⟨⟨rfl,h1.1⟩,⟨rfl,h1.2.1⟩,⟨rfl,h1.2.2⟩,trivial⟩ ⟨⟨rfl,h2.1⟩,⟨rfl,h2.2.1⟩,⟨rfl,h2.2.2⟩,trivial⟩ (wJ x y)
theorem qKZ {w:World} {n k:Nat} {g:Gh} {mv:Nat→Bool} {o:Oper} {ev:Operand→AV} {hp:List Blk} {a b:Operand} {t':TypeId} {x y:RouteState} (ho:o.op=.binOp .neq 60 a b t') (hx:ev a=.d x.enc) (hy:ev b=.d y.enc) (h1:x.ok) (h2:y.ok):RdOk ⟨Tryz.prog,n,w,k,g,mv⟩ o ev hp (.d (.bool (!decide (x=y)))):=
 zFE ho hx hy qXT zEQ rfl rfl ⟨⟨rfl,h1.1⟩,⟨rfl,h1.2.1⟩,⟨rfl,h1.2.2⟩,trivial⟩ ⟨⟨rfl,h2.1⟩,⟨rfl,h2.2.1⟩,⟨rfl,h2.2.2⟩,trivial⟩ (wJ x y)
theorem qWM {w:World} {n k:Nat} {g:Gh} {mv:Nat→Bool} {o:Oper} {ev:Operand→AV} {hp:List Blk} {a b:Operand} {t':TypeId} {x y:Setting} (ho:o.op=.binOp .eql 133 a b t') (hx:ev a=.d x.enc) (hy:ev b=.d y.enc) (h1:x.ok) (h2:y.ok):RdOk ⟨Tryz.prog,n,w,k,g,mv⟩ o ev hp (.d (.bool (decide (x=y)))):=
 zFD ho hx hy qSC qXU rfl rfl ⟨⟨rfl,h1.1⟩,⟨rfl,h1.2⟩,trivial⟩ ⟨⟨rfl,h2.1⟩,⟨rfl,h2.2⟩,trivial⟩ (qCS x y)
theorem qWL {w:World} {n k:Nat} {g:Gh} {mv:Nat→Bool} {o:Oper} {ev:Operand→AV} {hp:List Blk} {a b:Operand} {t':TypeId} {x y:Setting} (ho:o.op=.binOp .neq 133 a b t') (hx:ev a=.d x.enc) (hy:ev b=.d y.enc) (h1:x.ok) (h2:y.ok):RdOk ⟨Tryz.prog,n,w,k,g,mv⟩ o ev hp (.d (.bool (!decide (x=y)))):=
 zFE ho hx hy qSC qXU rfl rfl ⟨⟨rfl,h1.1⟩,⟨rfl,h1.2⟩,trivial⟩ ⟨⟨rfl,h2.1⟩,⟨rfl,h2.2⟩,trivial⟩ (qCS x y)
theorem zBN {w:World} {n k:Nat} {g:Gh} {mv:Nat→Bool} {o:Oper} {ev:Operand→AV} {hp:List Blk} {a b:Operand} {t':TypeId} {x y:A2_int} (ho:o.op=.binOp .eql 189 a b t') (hx:ev a=.d x.enc) (hy:ev b=.d y.enc) (h1:x.ok) (h2:y.ok):RdOk ⟨Tryz.prog,n,w,k,g,mv⟩ o ev hp (.d (.bool (decide (x=y)))):=
 zKI ho hx hy zAS zEP rfl rfl ⟨⟨rfl,h1.1⟩,⟨rfl,h1.2⟩,trivial⟩ ⟨⟨rfl,h2.1⟩,⟨rfl,h2.2⟩,trivial⟩ (qTT x y)
theorem HasTy.fld {P:Go.Program} {cs:List D} {fs:Array Field} (h2:∀ (i:Nat) (f:Field),fs[i]?=some f→HasTy P f.type ((cs.drop f.offset).take (P.cellsOf f.type))) {i off n:Nat} {f:Field} {t:TypeId} (hf:fs[i]?=some f) (ht:f.type=t) (ho:f.offset=off) (hc:P.cellsOf t=n):HasTy P t ((cs.drop off).take n):=by
 have:=h2 i f hf;rw [ht,ho,hc] at this;exact this
theorem ty3 (cs:List D) (h:HasTy Tryz.prog 3 cs):∃ x:Int,I64 x∧bJ Tryz.prog 3 cs=(D.int .i64) x:=by
 obtain⟨x,rfl,w⟩:=h.int_inv Tryz.underlying3;exact⟨x,w,by simp [bJ,Tryz.underlying3]⟩
theorem qJI:Tryz.prog.cellsOf 126=3:=by kernel_rfl
theorem kI:Tryz.prog.cellsOf 3=1:=by kernel_rfl
theorem zKB {cs:List D} (h:cs.length=3):∃ a0 a1 a2,cs=[a0,a1,a2]:=by
 match cs,h with
 | [a0,a1,a2],_=>exact⟨a0,a1,a2,rfl⟩
theorem ty126c (cs:List D) (h:HasTy Tryz.prog 126 cs):∃ x:Step,x.Wf∧cs=[.int .i64 x.el,.int .i64 x.inV,.int .i64 x.out]:=by
 obtain⟨h1,h2⟩:=h.struct_inv Tryz.underlying126;rw [qJI] at h1;obtain⟨a0,a1,a2,rfl⟩:=zKB h1;obtain⟨x0,e0,w0⟩:=(show HasTy Tryz.prog 3 [a0] from HasTy.fld h2 (i:=0) rfl rfl rfl kI).int_inv Tryz.underlying3;replace e0:[a0]=[D.int .i64 x0]:=e0;simp only [List.cons.injEq,and_true] at e0;obtain⟨x1,e1,w1⟩:=(show HasTy Tryz.prog 3 [a1] from HasTy.fld h2 (i:=1) rfl rfl rfl kI).int_inv Tryz.underlying3;replace e1:[a1]=[D.int .i64 x1]:=e1;simp only [List.cons.injEq,and_true] at e1;obtain⟨x2,e2,w2⟩:=(show HasTy Tryz.prog 3 [a2] from HasTy.fld h2 (i:=2) rfl rfl rfl kI).int_inv Tryz.underlying3;replace e2:[a2]=[D.int .i64 x2]:=e2;simp only [List.cons.injEq,and_true] at e2;subst e0 e1 e2;exact⟨⟨x0,x1,x2⟩,⟨w0,w1,w2⟩,rfl⟩
theorem zNV (cs:List D) (h:HasTy Tryz.prog 126 cs):∃ x:Step,x.Wf∧bJ Tryz.prog 126 cs=x.enc:=by
 obtain⟨x,w,rfl⟩:=ty126c cs h;exact⟨x,w,by simp [bJ,Tryz.underlying126,Step.enc]⟩
theorem qCH:Tryz.prog.cellsOf 133=2:=by kernel_rfl
theorem qXS {cs:List D} (h:cs.length=2):∃ a0 a1,cs=[a0,a1]:=by
 match cs,h with
 | [a0,a1],_=>exact⟨a0,a1,rfl⟩
theorem ty133c (cs:List D) (h:HasTy Tryz.prog 133 cs):∃ x:Setting,x.Wf∧cs=[.int .i64 x.el,.int .i64 x.pos]:=by
 obtain⟨h1,h2⟩:=h.struct_inv Tryz.underlying133;rw [qCH] at h1;obtain⟨a0,a1,rfl⟩:=qXS h1;obtain⟨x0,e0,w0⟩:=(show HasTy Tryz.prog 3 [a0] from HasTy.fld h2 (i:=0) rfl rfl rfl kI).int_inv Tryz.underlying3;replace e0:[a0]=[D.int .i64 x0]:=e0;simp only [List.cons.injEq,and_true] at e0;obtain⟨x1,e1,w1⟩:=(show HasTy Tryz.prog 3 [a1] from HasTy.fld h2 (i:=1) rfl rfl rfl kI).int_inv Tryz.underlying3;replace e1:[a1]=[D.int .i64 x1]:=e1;simp only [List.cons.injEq,and_true] at e1;subst e0 e1;exact⟨⟨x0,x1⟩,⟨w0,w1⟩,rfl⟩
theorem zBX (cs:List D) (h:HasTy Tryz.prog 133 cs):∃ x:Setting,x.Wf∧bJ Tryz.prog 133 cs=x.enc:=by
 obtain⟨x,w,rfl⟩:=ty133c cs h;exact⟨x,w,by simp [bJ,Tryz.underlying133,Setting.enc]⟩
theorem qTE:Tryz.prog.cellsOf 255=2:=by kernel_rfl
theorem ty255c (cs:List D) (h:HasTy Tryz.prog 255 cs):∃ x:End,x.Wf∧cs=[.int .i64 x.el,.int .i64 x.side]:=by
 obtain⟨h1,h2⟩:=h.struct_inv Tryz.underlying255;rw [qTE] at h1;obtain⟨a0,a1,rfl⟩:=qXS h1;obtain⟨x0,e0,w0⟩:=(show HasTy Tryz.prog 3 [a0] from HasTy.fld h2 (i:=0) rfl rfl rfl kI).int_inv Tryz.underlying3;replace e0:[a0]=[D.int .i64 x0]:=e0;simp only [List.cons.injEq,and_true] at e0;obtain⟨x1,e1,w1⟩:=(show HasTy Tryz.prog 3 [a1] from HasTy.fld h2 (i:=1) rfl rfl rfl kI).int_inv Tryz.underlying3;replace e1:[a1]=[D.int .i64 x1]:=e1;simp only [List.cons.injEq,and_true] at e1;subst e0 e1;exact⟨⟨x0,x1⟩,⟨w0,w1⟩,rfl⟩
theorem ty255 (cs:List D) (h:HasTy Tryz.prog 255 cs):∃ x:End,x.Wf∧bJ Tryz.prog 255 cs=x.enc:=by
 obtain⟨x,w,rfl⟩:=ty255c cs h;exact⟨x,w,by simp [bJ,Tryz.underlying255,End.enc]⟩
theorem qYL:Tryz.prog.cellsOf 74=14:=by kernel_rfl
theorem cells9:Tryz.prog.cellsOf 9=1:=by kernel_rfl
theorem qYM:Tryz.prog.cellsOf 70=1:=by kernel_rfl
theorem qPF:Tryz.prog.cellsOf 71=1:=by kernel_rfl
theorem tV:Tryz.prog.cellsOf 23=1:=by kernel_rfl
theorem zKM:Tryz.prog.cellsOf 72=1:=by kernel_rfl
theorem zEO {cs:List D} (h:cs.length=14):∃ a0 a1 a2 a3 a4 a5 a6 a7 a8 a9 a10 a11 a12 a13,cs=[a0,a1,a2,a3,a4,a5,a6,a7,a8,a9,a10,a11,a12,a13]:=by
 match cs,h with
 | [a0,a1,a2,a3,a4,a5,a6,a7,a8,a9,a10,a11,a12,a13],_=>exact⟨a0,a1,a2,a3,a4,a5,a6,a7,a8,a9,a10,a11,a12,a13,rfl⟩
theorem ty74c (cs:List D) (h:HasTy Tryz.prog 74 cs):∃ x:Route,x.Wf∧cs=[.str x.name,.int .i64 x.entry,.int .i64 x.exit,.sl 3 (x.path.map Step.enc),.sl 2 (x.points.map Setting.enc),.sl 1 (x.sections.map (D.int .i64)),.int .i64 x.approach,.int .i64 x.length,.sl 3 (x.over.map Step.enc),.sl 2 (x.overPoints.map Setting.enc),.sl 1 (x.overSections.map (D.int .i64)),.sl 2 (x.flank.map Setting.enc),.sl 1 (x.guards.map (D.int .i64)),.sl 2 (x.gaps.map End.enc)]:=by
 obtain⟨h1,h2⟩:=h.struct_inv Tryz.underlying74;rw [qYL] at h1;obtain⟨a0,a1,a2,a3,a4,a5,a6,a7,a8,a9,a10,a11,a12,a13,rfl⟩:=zEO h1;obtain⟨x0,e0,w0⟩:=(show HasTy Tryz.prog 9 [a0] from HasTy.fld h2 (i:=0) rfl rfl rfl cells9).str_inv Tryz.underlying9;replace e0:[a0]=[D.str x0]:=e0;simp only [List.cons.injEq,and_true] at e0;obtain⟨x1,e1,w1⟩:=(show HasTy Tryz.prog 3 [a1] from HasTy.fld h2 (i:=1) rfl rfl rfl kI).int_inv Tryz.underlying3;replace e1:[a1]=[D.int .i64 x1]:=e1;simp only [List.cons.injEq,and_true] at e1;obtain⟨x2,e2,w2⟩:=(show HasTy Tryz.prog 3 [a2] from HasTy.fld h2 (i:=2) rfl rfl rfl kI).int_inv Tryz.underlying3;replace e2:[a2]=[D.int .i64 x2]:=e2;simp only [List.cons.injEq,and_true] at e2;obtain⟨x3,e3,l3,m3⟩:=(show HasTy Tryz.prog 70 [a3] from HasTy.fld h2 (i:=3) rfl rfl rfl qYM).list Tryz.underlying70 Step.enc Step.Wf (λcs _ h=>zNV cs h);rw [qJI] at e3;have w3:=And.intro l3 m3;replace e3:[a3]=[D.sl 3 (x3.map Step.enc)]:=e3;simp only [List.cons.injEq,and_true] at e3;obtain⟨x4,e4,l4,m4⟩:=(show HasTy Tryz.prog 71 [a4] from HasTy.fld h2 (i:=4) rfl rfl rfl qPF).list Tryz.underlying71 Setting.enc Setting.Wf (λcs _ h=>zBX cs h);rw [qCH] at e4;have w4:=And.intro l4 m4;replace e4:[a4]=[D.sl 2 (x4.map Setting.enc)]:=e4;simp only [List.cons.injEq,and_true] at e4;obtain⟨x5,e5,l5,m5⟩:=(show HasTy Tryz.prog 23 [a5] from HasTy.fld h2 (i:=5) rfl rfl rfl tV).list Tryz.underlying23 (D.int .i64) I64 (λcs _ h=>ty3 cs h);rw [kI] at e5;have w5:=And.intro l5 m5;replace e5:[a5]=[D.sl 1 (x5.map (D.int .i64))]:=e5;simp only [List.cons.injEq,and_true] at e5;obtain⟨x6,e6,w6⟩:=(show HasTy Tryz.prog 3 [a6] from HasTy.fld h2 (i:=6) rfl rfl rfl kI).int_inv Tryz.underlying3;replace e6:[a6]=[D.int .i64 x6]:=e6;simp only [List.cons.injEq,and_true] at e6;obtain⟨x7,e7,w7⟩:=(show HasTy Tryz.prog 3 [a7] from HasTy.fld h2 (i:=7) rfl rfl rfl kI).int_inv Tryz.underlying3;replace e7:[a7]=[D.int .i64 x7]:=e7;simp only [List.cons.injEq,and_true] at e7;obtain⟨x8,e8,l8,m8⟩:=(show HasTy Tryz.prog 70 [a8] from HasTy.fld h2 (i:=8) rfl rfl rfl qYM).list Tryz.underlying70 Step.enc Step.Wf (λcs _ h=>zNV cs h);rw [qJI] at e8;have w8:=And.intro l8 m8;replace e8:[a8]=[D.sl 3 (x8.map Step.enc)]:=e8;simp only [List.cons.injEq,and_true] at e8;obtain⟨x9,e9,l9,m9⟩:=(show HasTy Tryz.prog 71 [a9] from HasTy.fld h2 (i:=9) rfl rfl rfl qPF).list Tryz.underlying71 Setting.enc Setting.Wf (λcs _ h=>zBX cs h);rw [qCH] at e9;have w9:=And.intro l9 m9;replace e9:[a9]=[D.sl 2 (x9.map Setting.enc)]:=e9;simp only [List.cons.injEq,and_true] at e9;obtain⟨x10,e10,l10,m10⟩:=(show HasTy Tryz.prog 23 [a10] from HasTy.fld h2 (i:=10) rfl rfl rfl tV).list Tryz.underlying23 (D.int .i64) I64 (λcs _ h=>ty3 cs h);rw [kI] at e10;have w10:=And.intro l10 m10;replace e10:[a10]=[D.sl 1 (x10.map (D.int .i64))]:=e10;simp only [List.cons.injEq,and_true] at e10;obtain⟨x11,e11,l11,m11⟩:=(show HasTy Tryz.prog 71 [a11] from HasTy.fld h2 (i:=11) rfl rfl rfl qPF).list Tryz.underlying71 Setting.enc Setting.Wf (λcs _ h=>zBX cs h)
 rw [qCH] at e11;have w11:=And.intro l11 m11;replace e11:[a11]=[D.sl 2 (x11.map Setting.enc)]:=e11;simp only [List.cons.injEq,and_true] at e11;obtain⟨x12,e12,l12,m12⟩:=(show HasTy Tryz.prog 23 [a12] from HasTy.fld h2 (i:=12) rfl rfl rfl tV).list Tryz.underlying23 (D.int .i64) I64 (λcs _ h=>ty3 cs h);rw [kI] at e12;have w12:=And.intro l12 m12;replace e12:[a12]=[D.sl 1 (x12.map (D.int .i64))]:=e12;simp only [List.cons.injEq,and_true] at e12;obtain⟨x13,e13,l13,m13⟩:=(show HasTy Tryz.prog 72 [a13] from HasTy.fld h2 (i:=13) rfl rfl rfl zKM).list Tryz.underlying72 End.enc End.Wf (λcs _ h=>ty255 cs h);rw [qTE] at e13;have w13:=And.intro l13 m13;replace e13:[a13]=[D.sl 2 (x13.map End.enc)]:=e13;simp only [List.cons.injEq,and_true] at e13;subst e0 e1 e2 e3 e4 e5 e6 e7 e8 e9 e10 e11 e12 e13;exact⟨⟨x0,x1,x2,x3,x4,x5,x6,x7,x8,x9,x10,x11,x12,x13⟩,⟨w0,w1,w2,w3,w4,w5,w6,w7,w8,w9,w10,w11,w12,w13⟩,rfl⟩
theorem ty74 (cs:List D) (h:HasTy Tryz.prog 74 cs):∃ x:Route,x.Wf∧bJ Tryz.prog 74 cs=x.enc:=by
 obtain⟨x,w,rfl⟩:=ty74c cs h;exact⟨x,w,by simp [bJ,Tryz.underlying74,Route.enc]⟩
theorem zKN:Tryz.prog.cellsOf 25=5:=by kernel_rfl
theorem zKO:Tryz.prog.cellsOf 22=1:=by kernel_rfl
theorem zKA {cs:List D} (h:cs.length=5):∃ a0 a1 a2 a3 a4,cs=[a0,a1,a2,a3,a4]:=by
 match cs,h with
 | [a0,a1,a2,a3,a4],_=>exact⟨a0,a1,a2,a3,a4,rfl⟩
theorem ty25c (cs:List D) (h:HasTy Tryz.prog 25 cs):∃ x:Table,x.Wf∧cs=[.sl 14 (x.routes.map Route.enc),.sl 1 (x.points.map (D.int .i64)),.sl 1 (x.homes.map (D.int .i64)),.int .i64 x.sections,.int .i64 x.signals]:=by
 obtain⟨h1,h2⟩:=h.struct_inv Tryz.underlying25;rw [zKN] at h1;obtain⟨a0,a1,a2,a3,a4,rfl⟩:=zKA h1;obtain⟨x0,e0,l0,m0⟩:=(show HasTy Tryz.prog 22 [a0] from HasTy.fld h2 (i:=0) rfl rfl rfl zKO).list Tryz.underlying22 Route.enc Route.Wf (λcs _ h=>ty74 cs h);rw [qYL] at e0;have w0:=And.intro l0 m0;replace e0:[a0]=[D.sl 14 (x0.map Route.enc)]:=e0;simp only [List.cons.injEq,and_true] at e0;obtain⟨x1,e1,l1,m1⟩:=(show HasTy Tryz.prog 23 [a1] from HasTy.fld h2 (i:=1) rfl rfl rfl tV).list Tryz.underlying23 (D.int .i64) I64 (λcs _ h=>ty3 cs h);rw [kI] at e1;have w1:=And.intro l1 m1;replace e1:[a1]=[D.sl 1 (x1.map (D.int .i64))]:=e1;simp only [List.cons.injEq,and_true] at e1;obtain⟨x2,e2,l2,m2⟩:=(show HasTy Tryz.prog 23 [a2] from HasTy.fld h2 (i:=2) rfl rfl rfl tV).list Tryz.underlying23 (D.int .i64) I64 (λcs _ h=>ty3 cs h);rw [kI] at e2;have w2:=And.intro l2 m2;replace e2:[a2]=[D.sl 1 (x2.map (D.int .i64))]:=e2;simp only [List.cons.injEq,and_true] at e2;obtain⟨x3,e3,w3⟩:=(show HasTy Tryz.prog 3 [a3] from HasTy.fld h2 (i:=3) rfl rfl rfl kI).int_inv Tryz.underlying3;replace e3:[a3]=[D.int .i64 x3]:=e3;simp only [List.cons.injEq,and_true] at e3;obtain⟨x4,e4,w4⟩:=(show HasTy Tryz.prog 3 [a4] from HasTy.fld h2 (i:=4) rfl rfl rfl kI).int_inv Tryz.underlying3;replace e4:[a4]=[D.int .i64 x4]:=e4;simp only [List.cons.injEq,and_true] at e4;subst e0 e1 e2 e3 e4;exact⟨⟨x0,x1,x2,x3,x4⟩,⟨w0,w1,w2,w3,w4⟩,rfl⟩
theorem ty25 (cs:List D) (h:HasTy Tryz.prog 25 cs):∃ x:Table,x.Wf∧bJ Tryz.prog 25 cs=x.enc:=by
 obtain⟨x,w,rfl⟩:=ty25c cs h;exact⟨x,w,by simp [bJ,Tryz.underlying25,Table.enc]⟩
theorem ty4 (cs:List D) (h:HasTy Tryz.prog 4 cs):∃ x:Bool,(λ_=>True) x∧bJ Tryz.prog 4 cs=D.bool x:=by
 obtain⟨x,rfl⟩:=h.bool_inv Tryz.underlying4;exact⟨x,trivial,by simp [bJ,Tryz.underlying4]⟩
theorem qPG:Tryz.prog.cellsOf 4=1:=by kernel_rfl
theorem qYN:Tryz.prog.cellsOf 43=7:=by kernel_rfl
theorem qGP:Tryz.prog.cellsOf 41=1:=by kernel_rfl
theorem zJZ {cs:List D} (h:cs.length=7):∃ a0 a1 a2 a3 a4 a5 a6,cs=[a0,a1,a2,a3,a4,a5,a6]:=by
 match cs,h with
 | [a0,a1,a2,a3,a4,a5,a6],_=>exact⟨a0,a1,a2,a3,a4,a5,a6,rfl⟩
theorem ty43c (cs:List D) (h:HasTy Tryz.prog 43 cs):∃ x:Inputs,x.Wf∧cs=[.sl 1 (x.occupied.map D.bool),.sl 1 (x.detected.map (D.int .i64)),.sl 1 (x.closed.map D.bool),.sl 1 (x.claimed.map D.bool),.sl 1 (x.passed.map D.bool),.sl 1 (x.calls.map (D.int .i64)),.sl 1 (x.cancels.map (D.int .i64))]:=by
 obtain⟨h1,h2⟩:=h.struct_inv Tryz.underlying43;rw [qYN] at h1;obtain⟨a0,a1,a2,a3,a4,a5,a6,rfl⟩:=zJZ h1;obtain⟨x0,e0,l0,m0⟩:=(show HasTy Tryz.prog 41 [a0] from HasTy.fld h2 (i:=0) rfl rfl rfl qGP).list Tryz.underlying41 D.bool (λ_=>True) (λcs _ h=>ty4 cs h);rw [qPG] at e0;have w0:=And.intro l0 m0;replace e0:[a0]=[D.sl 1 (x0.map D.bool)]:=e0;simp only [List.cons.injEq,and_true] at e0;obtain⟨x1,e1,l1,m1⟩:=(show HasTy Tryz.prog 23 [a1] from HasTy.fld h2 (i:=1) rfl rfl rfl tV).list Tryz.underlying23 (D.int .i64) I64 (λcs _ h=>ty3 cs h);rw [kI] at e1;have w1:=And.intro l1 m1;replace e1:[a1]=[D.sl 1 (x1.map (D.int .i64))]:=e1;simp only [List.cons.injEq,and_true] at e1;obtain⟨x2,e2,l2,m2⟩:=(show HasTy Tryz.prog 41 [a2] from HasTy.fld h2 (i:=2) rfl rfl rfl qGP).list Tryz.underlying41 D.bool (λ_=>True) (λcs _ h=>ty4 cs h);rw [qPG] at e2;have w2:=And.intro l2 m2;replace e2:[a2]=[D.sl 1 (x2.map D.bool)]:=e2;simp only [List.cons.injEq,and_true] at e2;obtain⟨x3,e3,l3,m3⟩:=(show HasTy Tryz.prog 41 [a3] from HasTy.fld h2 (i:=3) rfl rfl rfl qGP).list Tryz.underlying41 D.bool (λ_=>True) (λcs _ h=>ty4 cs h);rw [qPG] at e3;have w3:=And.intro l3 m3;replace e3:[a3]=[D.sl 1 (x3.map D.bool)]:=e3;simp only [List.cons.injEq,and_true] at e3;obtain⟨x4,e4,l4,m4⟩:=(show HasTy Tryz.prog 41 [a4] from HasTy.fld h2 (i:=4) rfl rfl rfl qGP).list Tryz.underlying41 D.bool (λ_=>True) (λcs _ h=>ty4 cs h);rw [qPG] at e4;have w4:=And.intro l4 m4;replace e4:[a4]=[D.sl 1 (x4.map D.bool)]:=e4;simp only [List.cons.injEq,and_true] at e4;obtain⟨x5,e5,l5,m5⟩:=(show HasTy Tryz.prog 23 [a5] from HasTy.fld h2 (i:=5) rfl rfl rfl tV).list Tryz.underlying23 (D.int .i64) I64 (λcs _ h=>ty3 cs h);rw [kI] at e5;have w5:=And.intro l5 m5;replace e5:[a5]=[D.sl 1 (x5.map (D.int .i64))]:=e5;simp only [List.cons.injEq,and_true] at e5;obtain⟨x6,e6,l6,m6⟩:=(show HasTy Tryz.prog 23 [a6] from HasTy.fld h2 (i:=6) rfl rfl rfl tV).list Tryz.underlying23 (D.int .i64) I64 (λcs _ h=>ty3 cs h);rw [kI] at e6;have w6:=And.intro l6 m6;replace e6:[a6]=[D.sl 1 (x6.map (D.int .i64))]:=e6;simp only [List.cons.injEq,and_true] at e6;subst e0 e1 e2 e3 e4 e5 e6;exact⟨⟨x0,x1,x2,x3,x4,x5,x6⟩,⟨w0,w1,w2,w3,w4,w5,w6⟩,rfl⟩
theorem ty43 (cs:List D) (h:HasTy Tryz.prog 43 cs):∃ x:Inputs,x.Wf∧bJ Tryz.prog 43 cs=x.enc:=by
 obtain⟨x,w,rfl⟩:=ty43c cs h;exact⟨x,w,by simp [bJ,Tryz.underlying43,Inputs.enc]⟩
theorem ty56 (cs:List D) (h:HasTy Tryz.prog 56 cs):∃ l:(List Inputs),(λl=>l.length≤reachBytes∧∀ x∈l,Inputs.Wf x) l∧bJ Tryz.prog 56 cs=(λ(l:List Inputs)=>D.sl 7 (l.map Inputs.enc)) l:=by
 obtain⟨l,rfl,h1,h2⟩:=h.list Tryz.underlying56 Inputs.enc Inputs.Wf (λcs _ h=>ty43 cs h);exact⟨l,⟨h1,h2⟩,by simp [bJ,Tryz.underlying56,qYN]⟩
end Go.Proofs.YtcagmechagiclaaGreatDoor
