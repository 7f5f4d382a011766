/- Texts of this proof, joined, without what it does not use. No condition. -/
import Derived.Lib.SlicesCompact
import Derived.Test.YtciilodpnepdbaaDoorQn

namespace Go.TL
open Go.Sort Go.Proofs
variable {C:Ctx} {st:St} {g:Gh} {a:Act} {w:World} {P:Program}
theorem kB {k:Nat} {ids:List Nat} (h:((List.range k).all λi=>ids[i]? == some i)=true) (i:Nat) (hi:i < k):ids[i]?=some i:=by
  have:=zQT.1 h i (List.mem_range.2 hi);simpa using this
theorem Sim.upB (h:Sim C st g a w) {i j:Nat} {t e sz:Nat} {cs:List AV} (hb:st.hp[i]?=some (.box t cs)) (hc:cs[j]?=some (.d .nilsl)):Sim C ⟨st.fr,(st.hp.set i (.box t (cs.set j (.msl st.hp.length sz 0 0))))++[Blk.flat e sz []]⟩ g a w:=by
  have hi:=(zQQ.1 hb).1;have hv:=h.virt e sz
  have h2:Sim C ⟨st.fr,(st.hp++[Blk.flat e sz []]).set i (.box t (cs.set j (.msl st.hp.length sz 0 0)))⟩ g a w:=by
    have hrep:=h.hp i _ hb;obtain⟨b,cells,hp,hw,hps,hl,hr⟩:=hrep;refine { hv with hp:=λk B hk=>?_,lt:=λk b hk=>by have:=hv.lt k b hk;simpa using this,inj:=λk k' b Bk Bk' h1 h2 d1 d2 p1 p2=>?_,kle:=by simpa using hv.kle }
    · rw [List.getElem?_set] at hk
      split at hk
      · rename_i e1
        subst e1;split at hk
        · cases hk
          refine⟨b,cells,hp,hw,hps,by simpa using hl,λq c v hq hv'=>?_⟩;rw [List.getElem?_set] at hq;split at hq
          · rename_i e2
            subst e2;split at hq
            · cases hq
              have:=hr _ _ v hc hv'
              cases this with
              | d _ _ hd=>cases hd with
                | nilsl ad=>exact .msl0 _ _ _ _
            cases hq
          exact hr q c v hq hv'
        cases hk
      exact hv.hp k B hk
    have key:∀ (k:Nat) (Bk:Blk),((st.hp++[Blk.flat e sz []]).set i (.box t (cs.set j (.msl st.hp.length sz 0 0))))[k]?=some Bk->Bk≠.dead->∃ B',(st.hp++[Blk.flat e sz []])[k]?=some B'/\B'≠.dead:=by
      intro k Bk hk hd;rw [List.getElem?_set] at hk;split at hk
      · rename_i e1
        subst e1;exact⟨.box t cs,by rw [List.getElem?_append,if_pos hi];exact hb,λe=>by cases e⟩
      exact⟨Bk,hk,hd⟩
    obtain⟨B1,e1,d1'⟩:=key k Bk h1 d1;obtain⟨B2,e2,d2'⟩:=key k' Bk' h2 d2;exact hv.inj k k' b B1 B2 e1 e2 d1' d2' p1 p2
  rwa [List.set_append,if_pos hi] at h2
theorem jP {ops:Array Oper} {l:List Oper} {K:St->Prop} {fr:Fr} {hp:List Blk} {α:Type} {f:α->D} (i j N e sz:Nat) {t:TypeId} {cs:List AV} (hN:Nat.beq hp.length N=true) (hb:hp[i]?=some (.box t cs)) (hc:cs[j]?=some (.d .nilsl))
    (h:aM C ops l ⟨fr,(hp.set i (.box t (cs.set j (.msl N sz 0 ([]:List α).length))))++[Blk.flat e sz (([]:List α).map f)]⟩ K):aM C ops l ⟨fr,hp⟩ K:=by
  have e:=Nat.eq_of_beq_eq_true hN;subst e;exact λg a w hs=>h g a w (Sim.upB (st:=⟨fr,hp⟩) hs hb hc)
theorem sX {mv:Nat->Bool} {e b:Nat} {xs:List Int} (hout:Out ⟨P,0,w,1,g,mv⟩ [.flat e 1 (xs.map (D.int .i64))] g w) (hb:g.phi 0=some b):
    Holds (Value.int .i64) w b 0 xs.toArray/\b < w.heap.size/\∃ cells,w.heap[b]?=some (.cells cells e (0,0))/\g.psi 0=cells.size/\xs.length<=cells.size:=by
  have hB:=hout.hp 0 _ rfl;rcases hB with ⟨_,hn0⟩|⟨b',cells,hp0,hw,hpsi,hl,hh0,hh1,hr⟩
  · rw [hb] at hn0;cases hn0
  cases hb.symm.trans hp0;refine⟨λj hj=>?_,(hout.lt 0 b hb).1,cells,hw,hpsi,by simpa using hl⟩;have hj':j < xs.length:=by simpa using hj
  obtain⟨v,hv,hd⟩:=hr j (D.int .i64 (xs[j]'hj')) 0 (D.int .i64 (xs[j]'hj')) (by simp [hj']) rfl;rw [Nat.mul_one,Nat.add_zero] at hv;cases hd;rw [Nat.zero_add];refine⟨?_,by simp [World.frozen?,hw]⟩;rw [cell_of_row w b j cells e (0,0) hw,hv,getElem!_pos xs.toArray j hj];simp
theorem qHK {mv:Nat->Bool} {e b:Nat} {xs:List Int} (hout:Out ⟨P,0,w,1,g,mv⟩ [.flat e 1 (xs.map (D.int .i64))] g w) (hb:g.phi 0=some b) (ys zs:List Int) (hlen:(ys++zs).length=xs.length) (m:Nat) (os:Array Obj):
    Out ⟨P,0,w,1,g,mv⟩ [.flat e 1 (ys.map (D.int .i64))] g (Sort.grow (putRow (Value.int .i64) (Sort.ahead w m) b 0 (ys++zs).toArray) os):=by
  obtain⟨_,hblt,cells,hw,hpsi,hcl⟩:=sX hout hb;have hbw:(Sort.ahead w m).heap[b]?=some (.cells cells e (0,0)):=hw;have hahead:Out ⟨P,0,w,1,g,mv⟩ [.flat e 1 (xs.map (D.int .i64))] g (Sort.ahead w m):=Sim.sameHeap hout rfl rfl rfl rfl (Nat.le_add_right _ _)
  have hwr:(putRow (Value.int .i64) (Sort.ahead w m) b 0 (ys++zs).toArray).heap[b]?=some (.cells (putCells (Value.int .i64) 0 (ys++zs).toArray cells) e (0,0)):=by
    show ((Sort.ahead w m).heap.modify b _)[b]?=_;rw [Array.getElem?_modify,if_pos rfl,hbw];rfl
  have hoth:∀ b',b'≠b->(putRow (Value.int .i64) (Sort.ahead w m) b 0 (ys++zs).toArray).heap[b']?=(Sort.ahead w m).heap[b']?:=λb' hb'=>by
    show ((Sort.ahead w m).heap.modify b _)[b']?=_;rw [Array.getElem?_modify,if_neg (λe=>hb' e.symm)]
  have hsz:(putRow (Value.int .i64) (Sort.ahead w m) b 0 (ys++zs).toArray).heap.size=(Sort.ahead w m).heap.size:=by
    show ((Sort.ahead w m).heap.modify b _).size=_;simp
  have hch := Sim.change (i := 0) (b := b) (B0 := .flat e 1 (xs.map (D.int .i64))) hahead rfl (fun e => by cases e) hb (w' := putRow (Value.int .i64) (Sort.ahead w m) b 0 (ys ++ zs).toArray) hsz rfl rfl rfl (zQW _) hoth
    (B:=.flat e 1 (ys.map (D.int .i64))) (.inr ⟨b,_,hb,hwr,?_,?_,λk d hk=>?_,λk d j c hk hc=>?_,λk d j c hk hc=>?_⟩)
  · exact Sim.grow hch 0 os
  · rw [hpsi,lY]
  · rw [lY]
    simp only [zQC,zQL] at hlen ⊢;omega
  · simp only [zQP,zQO] at hk
    obtain⟨x,_,rfl⟩:=hk;rfl
  · simp only [zQP,zQO] at hk
    obtain⟨x,_,rfl⟩:=hk
    cases j with
    | zero=>cases hc;rfl
    | succ j=>simp [D.cells] at hc
  simp only [zQP,zQO] at hk;obtain⟨x,hx,rfl⟩:=hk;have hk':=(zQQ.1 hx).1
  cases j with
  | succ j=>simp [D.cells] at hc
  | zero=>
    cases hc;have hx2:(ys++zs)[k]?=some x:=by rw [List.getElem?_append,if_pos hk'];exact hx
    have hk2:=(zQQ.1 hx2).1;refine⟨.int .i64 x,?_,.int _ _⟩;rw [Nat.mul_one,Nat.add_zero,uN (Value.int .i64) 0 _ cells k (by omega),if_pos ⟨Nat.zero_le _,by simpa using hk2⟩,Nat.sub_zero,getElem!_pos (ys++zs).toArray k (by simpa using hk2)];have:=(zQQ.1 hx2).2;simp only [List.getElem_toArray];rw [this]
theorem qIU {α:Type} {f:α->D} {T:Tab} {o:Oper} {ev:Operand->AV} {hp:List Blk} {t e sz by' i:Nat} {a b:Operand} {z:Value} {zd:D} {n:Int} {x:α} (hT:TabOk C.P T) (hi:hp[i]?=some .hole) (ho:o.op=.makeSlice t a b) (hl:lk T.sel t=some (e,sz,by')) (hz:(C.P.info? e).bind (·.zero)=some z) (hzd:bG z=.d zd) (hzs:Nat.beq zd.cells.length sz=true)
    (ha:ev a=.d (.int .i64 n)) (hb:ev b=.d (.int .i64 n)) (hby:Nat.ble by' 100000=true) (hn:0<=n/\n<=1000000000) (hf:f x=zd):DOk C o ev hp (.msl i sz 0 (List.replicate n.toNat x).length) [(i,.flat e sz ((List.replicate n.toNat x).map f))]:=
  DOk.mk λst hhp hag g aa w hsim=>by
    have h1:=Nat.le_of_ble_eq_true hby;obtain⟨m,rfl⟩:=Int.eq_ofNat_of_zero_le hn.1;have h2:m<=1000000000:=by omega
    have h3:by' * m<=100000 * 1000000000:=Nat.mul_le_mul h1 h2
    obtain⟨vs,hr,row⟩:=hL (st:=st) sz by' (m:Int) z zd ho (hT.sel hl) hz hzd (Nat.eq_of_beq_eq_true hzs) (by rw [hag a (by simp [ho,Op.operands]),ha]) (by rw [hag b (by simp [ho,Op.operands]),hb]) (by omega) (by omega) (by omega) hsim
    obtain⟨g',h4,h5⟩:=row.filled (ty:=e) hsim (pR hi hhp) m (by simp);rw [List.map_replicate,hf];simp only [List.length_replicate,Int.toNat_natCast] at h4 h5 ⊢;exact⟨_,_,g',hr,h4,h5⟩
def toHole (hs:List Nat):AV->AV
  | .msl i s o l=>.msl (hs.getD i 0) s o l
  | .mptr i s x o=>.mptr (hs.getD i 0) s x o
  | .mmap i=>.mmap (hs.getD i 0)
  | .yld i=>.yld (hs.getD i 0)
  | .mmapN i n=>.mmapN (hs.getD i 0) n
  | v=>v
theorem vE {o:Oper} {ev:Operand->AV} {hp:List Blk} (hs:List Nat) {f:Operand} {xs:Array Operand} {ts:Array TypeId} {F:FuncId} {mv:Nat->Bool} {ds:List D} {r r':AV} {Bs:List Blk} (hi:∀ i∈hs,hp[i]?=some .hole) (hnd:hs.Nodup) (hl:Bs.length=hs.length) (ho:o.op=.call { callee:=.value f,args:=xs,argTypes:=ts })
    (hf:ev f=.d (.fn F)) (hx:xs.toList.map ev=ds.map .d) (hret:Ret C.P F [] mv (ds.map .d) r Bs) (hm:∀ B∈Bs,xG B) (hmr:AMem0 r) (hrr:r.mapRef (toHole hs)=r') (hBB:∀ B∈Bs,B.mapRef (λ_=>.junk)=B):DOk C o ev hp r' (hs.zip Bs):=by
  intro st hhp hlen _ hag g a w hsim Q K' hK;have hih:∀ i∈hs,st.hp[i]?=some .hole:=λi h=>pR (hi i h) hhp;have hno:∀ i∈hs,g.phi i=none:=λi h=>hsim.hp i _ (hih i h);have hil:∀ i∈hs,i < st.hp.length:=λi h=>(zQQ.1 (hih i h)).1;have hfv:=hsim.ev f;rw [hag f (by simp [ho,Op.operands,Call.operands]),hf] at hfv
  have hargs:Pw (ARep w (cV g.X)) (ds.map .d) (xs.map a.eval).toList:=by
    have:=qFO (cs:=[]) (vs:=#[]) hsim (λy hy=>hag y (by simp only [ho,Op.operands,Call.operands];exact Array.mem_append.2 (.inr hy))) hx ⟨rfl,λi x y h=>by simp at h⟩;simpa using this
  simp only [Oper.wp,cB ho (uO hfv) hret.1,Oper.upon_enter,Array.append_empty];refine (hret.2 w (cV g.X) _ (qBG hsim mv hsim.Xlt) hargs).mono ?_;rintro e w' ⟨v,g',rfl,hout,hr⟩;have hold:∀ b,b < w.heap.size->w'.heap[b]?=w.heap[b]?:=λb hb=>hout.keep b hb λi hi=>absurd hi (zQV i);have hsz:=hout.grown;simp only at hsz
  have hnew:∀ j b,g'.phi j=some b->w.heap.size<=b:=by
    intro j b hp;rcases Nat.lt_or_ge b w.heap.size with hlt|hge
    · exact absurd (hout.own j b hp hlt).1 (zQV _)
    exact hge
  let g2:Gh:={ phi:=λj=>match aC hs j with|some i=>g'.phi i|none=>g.phi j,psi:=λj=>match aC hs j with|some i=>g'.psi i|none=>g.psi j,X:=g.X }
  have hin:∀ {j i:Nat},aC hs j=some i->j∈hs:=λh=>zQM (aH hs _ _ h)
  have hgr:Grow w g w' g2:=by
    refine⟨λj b hp=>?_,λj b hp=>?_,λ_ h=>h,λb hb=>hold b (hsim.Xlt b hb)⟩
    · cases hpl:aC hs j with
      | some i=>rw [hno j (hin hpl)] at hp;cases hp
      | none=>simpa [g2,hpl] using hp
    cases hpl:aC hs j with
    | some i=>rw [hno j (hin hpl)] at hp;cases hp
    | none=>simp [g2,hpl]
  have hphi:∀ j b,g2.phi j=some b->(∃ i,aC hs j=some i/\g'.phi i=some b)\/(aC hs j=none/\g.phi j=some b):=by
    intro j b hp
    cases hpl:aC hs j with
    | some i=>exact .inl ⟨i,rfl,by simpa [g2,hpl] using hp⟩
    | none=>exact .inr ⟨rfl,by simpa [g2,hpl] using hp⟩
  have hzl:∀ p∈hs.zip Bs,p.1 < st.hp.length:=λp hp=>hil _ (List.of_mem_zip hp).1
  have hzn:((hs.zip Bs).map (·.1)).Nodup:=by
    rw [List.map_fst_zip (by omega)];exact hnd
  have hwr:=λb=>pX (hs.zip Bs) st.hp b hzl hzn
  have hget:∀ {j i:Nat} {B:Blk},hs[i]?=some j->Bs[i]?=some B->(wr (hs.zip Bs) st.hp)[j]?=some B:=by
    intro j i B h1 h2;have:(hs.zip Bs)[i]?=some (j,B):=by rw [List.getElem?_zip_eq_some];exact⟨h1,h2⟩
    exact (hwr j).1 (j,B) (zQM this) rfl
  have hgetN:∀ {j:Nat},aC hs j=none->(wr (hs.zip Bs) st.hp)[j]?=st.hp[j]?:=by
    intro j hpl;refine (hwr j).2 λp hp e=>?_;obtain⟨i,hi⟩:=List.getElem?_of_mem (List.of_mem_zip hp).1;rw [e] at hi;exact jL hpl i hi
  have hB:∀ {j i:Nat} {B:Blk},aC hs j=some i->Bs[i]?=some B->BRep w' g2 j B:=by
    intro j i B hpl hBi;have h1:=BRep.any (Y:=λ_=>False) (hout.hp i B hBi) (hm B (zQM hBi));have h2:=BRep.mapRef (g':=g2) (F:=λ_=>.junk) (j:=j) (by simp [g2,hpl]) (by simp [g2,hpl]) (λb hb=>False.elim hb) (λx v _ _=>.junk v) h1
    rwa [hBB B (zQM hBi)] at h2
  have hBs:∀ {j i:Nat},aC hs j=some i->∃ B,Bs[i]?=some B:=by
    intro j i hpl;have:=(zQQ.1 (aH hs _ _ hpl)).1;exact⟨Bs[i]'(by omega),zQR _⟩
  have hlw:(wr (hs.zip Bs) st.hp).length=st.hp.length:=kZ _ _;refine hK v w' g2 ?_ ?_
  · refine { defers := hsim.defers, size := hsim.size, fr := fun t => (hsim.fr t).mono hgr, hp := ?_, lt := ?_, inj := ?_, Xlt := ?_, Xold := hsim.Xold, os := hout.os.trans hsim.os, tape := hout.tape.trans hsim.tape, output := hout.output.trans hsim.output, drawn := Nat.le_trans hsim.drawn hout.drawn, grown := Nat.le_trans hsim.grown hsz, keep := ?_, own := ?_, stay := ?_, kle := ?_ }
    · intro j B hj
      cases hpl:aC hs j with
      | some i=>
        obtain⟨B',hB'⟩:=hBs hpl;have:=hget (aH hs _ _ hpl) hB';simp only at hj;rw [this] at hj;cases hj;exact hB hpl hB'
      | none=>
        simp only at hj;rw [hgetN hpl] at hj;refine (hsim.hp j B hj).mono hgr (λhn=>by simpa [g2,hpl] using hn) λb hb=>hold b (hsim.lt j b hb).1
    · intro j b hp
      simp only [hlw];rcases hphi j b hp with ⟨i,hpl,hp'⟩|⟨_,hp'⟩
      · exact⟨(hout.lt i b hp').1,hil j (hin hpl),λhX=>by have:=hsim.Xlt b hX;have:=hnew i b hp';omega⟩
      have:=hsim.lt j b hp';exact⟨by omega,this.2.1,this.2.2⟩
    · intro j j' b Bj Bj' hBj hBj' hdj hdj' hj hj'
      simp only at hBj hBj';rcases hphi j b hj with ⟨i,hpl,h1⟩|⟨hpl,h1⟩<;>rcases hphi j' b hj' with ⟨i',hpl',h2⟩|⟨hpl',h2⟩
      · obtain⟨B1,e1⟩:=hBs hpl
        obtain⟨B2,e2⟩:=hBs hpl';rw [hget (aH hs _ _ hpl) e1] at hBj;rw [hget (aH hs _ _ hpl') e2] at hBj';cases hBj;cases hBj';have:=hout.inj i i' b _ _ e1 e2 hdj hdj' h1 h2;subst this;have h3:=aH hs _ _ hpl;rw [aH hs _ _ hpl'] at h3;exact (Option.some.inj h3).symm
      · have:=(hsim.lt _ _ h2).1;have:=hnew i b h1;omega
      · have:=(hsim.lt _ _ h1).1;have:=hnew i' b h2;omega
      rw [hgetN hpl] at hBj;rw [hgetN hpl'] at hBj';exact hsim.inj j j' b Bj Bj' hBj hBj' hdj hdj' h1 h2
    · intro b hX;have:=hsim.Xlt b hX;omega
    · intro b hb hk;rw [hold b (by have:=hsim.grown;omega)];exact hsim.keep b hb hk
    · intro j b hp hb
      rcases hphi j b hp with ⟨i,_,hp'⟩|⟨_,hp'⟩
      · have:=hnew i b hp';have:=hsim.grown;omega
      exact hsim.own j b hp' hb
    · intro j b hj hmj hp
      have hst:=hsim.stay j b hj hmj hp
      have hpl:aC hs j=none:=by
        cases h:aC hs j with
        | none=>rfl
        | some i=>rw [hno j (hin h)] at hst;cases hst.2
      simpa [g2,hpl] using hst
    simp only [hlw];exact hsim.kle
  subst hrr;have h1:=ARep.any (Y:=g.X) hr hmr;refine ARep.mapRef (w:=w') (g:={ g' with X:=g.X }) (g':=g2) (λd v hd=>hd) (λx v hx hr=>?_) h1
  have hat:∀ {id b:Nat},g'.phi id=some b->g2.phi (hs.getD id 0)=some b/\g2.psi (hs.getD id 0)=g'.psi id:=by
    intro id b hb;have hid:=(hout.lt id b hb).2.1;simp only at hid;have hlt:id < hs.length:=by omega
    have hge:hs[id]?=some (hs.getD id 0):=by rw [zQD,zQR hlt];rfl
    have hpl:=jK hnd hge;exact⟨by simp only [g2,hpl];exact hb,by simp only [g2,hpl]⟩
  cases hx with
  | msl0=>exact .msl0 _ _ _ _
  | msl id sz off len cap b hb hc hp=>exact .msl _ _ _ _ cap b (hat hb).1 hc (by rw [(hat hb).2];exact hp)
  | mptr id sz idx off b hb=>exact .mptr _ _ _ _ b (hat hb).1
  | mmap id b hb=>exact .mmap _ b (hat hb).1
  | yld id b hb=>exact .yld _ b (hat hb).1
  | mmapN0=>exact .mmapN0 _
  | mmapN id n b hb=>exact .mmapN _ _ b (hat hb).1
  | _=>cases hr
end Go.TL
set_option linter.unusedVariables false
set_option linter.unusedSimpArgs false
namespace Go.TL
open Go.Sort Go.Proofs
variable {C:Ctx}
theorem qFL {l:List AV} {ds ds':List D} (h:evD l=some ds) (e:ds=ds'):evD l=some ds':=e ▸ h
theorem xB {α:Type} {f:α->D}:([]:List D)=([]:List α).map f:=rfl
theorem oM {α:Type} {f:α->D} {x:α} {d:D} {xs:List α} {ds:List D} (h:f x=d) (t:ds=xs.map f):d :: ds=(x :: xs).map f:=by rw [List.map_cons,h,t]
theorem sV {α:Type} {f:α->D} {sz:Nat} {xs:List α} (h:∀ x,(f x).cells.length=sz):((xs.map f).all λd=>Nat.beq d.cells.length sz)=true:=by
  rw [zQT];intro d hd;obtain⟨x,_,rfl⟩:=List.mem_map.1 hd;rw [h x];exact Nat.beq_refl sz
section rd
variable {T:Tab} {o:Oper} {ev:Operand->AV} {hp:List Blk} {α:Type} {f:α->D} {xs ys:List α}
theorem oR {t e sz by':Nat} {a b:Operand} {k:IntKind} {i:Int} {x:α} {d:D} (hT:TabOk C.P T) (ho:o.op=.indexAddr t a b) (hl:lk T.sel t=some (e,sz,by')) (ha:ev a=.d (.sl sz (xs.map f))) (hb:ev b=.d (.int k i)) (h:0<=i/\xs[i.toNat]?=some x) (hf:f x=d):RdOk C o ev hp (.d (.ptr d 0)):=
  hf ▸ fM hT ho hl ha hb h
theorem qCW {t e sz by' n:Nat} {parts:Array (Nat×Operand)} {z:Value} (l:List Operand) (hT:TabOk C.P T) (ho:o.op=.buildSlice t n parts) (hl:lk T.sel t=some (e,sz,by')) (hz:(C.P.info? e).bind (·.zero)=some z) (hp':eJ parts l)
    (hx:evD (l.map ev)=some (xs.map f)) (hn:Nat.beq (xs.map f).length n=true) (hs:((xs.map f).all λd=>Nat.beq d.cells.length sz)=true) (hsmall:Nat.ble (n * sz) 16777216=true):RdOk C o ev hp (.d (.sl sz (xs.map f))):=gK l hT ho hl hz hp' hx hn hs hsmall
end rd
variable {P:Program} {C:Ctx} {o:Oper} {ev:Operand->AV} {hp:List Blk} {t t':TypeId} {x y:Operand}
theorem zF {s:TypeId} {k k':IntKind} {n:Int} {us:TypeDesc} (ho:o.op=.convert s t x) (hs:C.P.underlying s=some us) (ht:C.P.underlying t=some (.int k')) (hx:ev x=.d (.int k n)):RdOk C o ev hp (.d (.int k' (k'.wrap n))):=yB k k' n us ho hs ht hx
theorem zG {xt t':TypeId} {d:D} (ho:o.op=.typeAssert x xt t true) (hc:oN C.P t=true) (hx:ev x=.d (.iface t' d)) (h:t'=t):RdOk C o ev hp (.tup [.d d,.d (.bool true)]):=by
  subst h;exact nF ho hc hx
theorem zH {xt t':TypeId} {d:D} {z:Value} {zd:D} (ho:o.op=.typeAssert x xt t true) (hc:oN C.P t=true) (hx:ev x=.d (.iface t' d)) (h:¬ t'=t) (hz:(C.P.info? t).bind (·.zero)=some z) (hzd:bG z=.d zd):RdOk C o ev hp (.tup [.d zd,.d (.bool false)]):=
  wF ho hc hx (by cases e:Nat.beq t' t with|false=>rfl|true=>exact absurd (Nat.eq_of_beq_eq_true e) h) hz hzd
theorem nT {ids:List Nat} {n m i:Nat} (h:i < ids.length):back ids n i=back ids m i:=by
  unfold back;rw [zQR h]
theorem kP {ids:List Nat} {i j:Nat} (h:aC ids i=some j):j < ids.length:=(zQQ.1 (aH ids i j h)).1
mutual
theorem rG (ids:List Nat) (n m:Nat):∀ v:AV,AV.mapRef (fwd ids n) (AV.mapRef (toName (aC ids)) v)=AV.mapRef (fwd ids m) (AV.mapRef (toName (aC ids)) v)
  | .junk=>rfl
  | .und=>rfl
  | .d x=>rfl
  | .msl i s o l=>by
    simp only [AV.mapRef,toName]
    cases h:aC ids i with
    | none=>rfl
    | some j=>simp only [AV.mapRef,fwd,nT (n:=n) (m:=m) (kP h)]
  | .mptr i s x o=>by
    simp only [AV.mapRef,toName]
    cases h:aC ids i with
    | none=>rfl
    | some j=>simp only [AV.mapRef,fwd,nT (n:=n) (m:=m) (kP h)]
  | .mmap i=>by
    simp only [AV.mapRef,toName]
    cases h:aC ids i with
    | none=>rfl
    | some j=>simp only [AV.mapRef,fwd,nT (n:=n) (m:=m) (kP h)]
  | .yld i=>by
    simp only [AV.mapRef,toName]
    cases h:aC ids i with
    | none=>rfl
    | some j=>simp only [AV.mapRef,fwd,nT (n:=n) (m:=m) (kP h)]
  | .mmapN i q=>by
    simp only [AV.mapRef,toName]
    cases h:aC ids i with
    | none=>rfl
    | some j=>simp only [AV.mapRef,fwd,nT (n:=n) (m:=m) (kP h)]
  | .agg cs=>by simp only [AV.mapRef,iY ids n m cs]
  | .tup cs=>by simp only [AV.mapRef,iY ids n m cs]
  | .fnc f cs=>by simp only [AV.mapRef,iY ids n m cs]
  | .ifc t c=>by simp only [AV.mapRef,rG ids n m c]
theorem iY (ids:List Nat) (n m:Nat):∀ cs:List AV,AV.mapRefs (fwd ids n) (AV.mapRefs (toName (aC ids)) cs)=AV.mapRefs (fwd ids m) (AV.mapRefs (toName (aC ids)) cs)
  | []=>rfl
  | c :: r=>by simp only [AV.mapRefs,rG ids n m c,iY ids n m r]
end
theorem qFK (ids:List Nat) (n m:Nat):∀ fr:Fr,Fr.mapRef (fwd ids n) (Fr.mapRef (toName (aC ids)) fr)=Fr.mapRef (fwd ids m) (Fr.mapRef (toName (aC ids)) fr)
  | []=>rfl
  | (t,v) :: r=>by simp only [Fr.mapRef,rG ids n m v,qFK ids n m r]
theorem qIC (ids:List Nat) (n m:Nat) (B:Blk):Blk.mapRef (fwd ids n) (Blk.mapRef (toName (aC ids)) B)=Blk.mapRef (fwd ids m) (Blk.mapRef (toName (aC ids)) B):=by
  cases B with
  | box ty cs=>simp only [Blk.mapRef,iY ids n m cs]
  | lp=>simp only [Blk.mapRef,qFK ids n m]
  | _=>rfl
def uX (ids:List Nat) (hp:List Blk):Prop:=∀ j∈ids,((hp.getD j .dead).mapRef (toName (aC ids))).mapRef (fwd ids 0)=hp.getD j .dead
theorem wQ {ids:List Nat} {hp st:List Blk} (hnd:ids.Nodup) (hal:∀ j∈ids,aR hp j=true) (hle:HpLe hp st) (hcl:uX ids hp):eO ids st (eT ids st)=st:=by
  apply List.ext_getElem?;intro j;have hlen:(eT ids st).length=ids.length:=by simp [eT]
  by_cases hj:j < st.length
  · unfold eO
    rw [List.getElem?_append_left (by simpa using hj),zQP,List.getElem?_zipIdx];rw [zQR hj];simp only [Option.map_some,Nat.zero_add]
    cases hp':aC ids j with
    | none=>rfl
    | some i=>
      simp only;have hi:=aH ids j i hp';have hmem:j∈ids:=zQM hi;obtain⟨B,hB,hd⟩:=bW (hal j hmem);have hB':=hle j B hB hd
      have e:(eT ids st).getD i .dead=B.mapRef (toName (aC ids)):=by
        unfold eT;rw [zQD,zQP,hi];simp [zQD,hB']
      have hc:=hcl j hmem;rw [zQD,hB] at hc;rw [e,qIC ids st.length 0];have:st[j]=B:=by rw [zQR hj] at hB';exact Option.some.inj hB'
      rw [this];exact congrArg some hc
  rw [List.getElem?_eq_none (by rw [iJ,hlen];omega),List.getElem?_eq_none (by omega)]
theorem qIA {ids:List Nat} {hp st:List Blk} (hal:∀ j∈ids,aR hp j=true) (hle:HpLe hp st):eT ids st=eT ids hp:=by
  unfold eT;apply List.map_congr_left;intro j hj;obtain⟨B,hB,hd⟩:=bW (hal j hj);rw [zQD,zQD,hB,hle j B hB hd]
theorem qDY {f:Operand} {xs:Array Operand} {ts:Array TypeId} {F:FuncId} {c:AV} {cs:List AV} (ids:List Nat) {args:List AV} {r:AV} {hh:List Blk} (hrr:r.isRef=false/\AV.mapRef (fwd ids 0) r=r/\(∀ n,AV.mapRef (fwd ids n) r=AV.mapRef (fwd ids 0) r)) (ho:o.op=.call { callee:=.value f,args:=xs,argTypes:=ts })
    (hf:ev f=c) (hc:jB c=some (F,cs)) (hnd:ids.Nodup) (hal:(ids.all λj=>aR hp j)=true) (hcl:uX ids hp) (hx:((xs.toList.map ev)++cs).map (AV.mapRef (toName (aC ids)))=args) (hhd:eT ids hp=hh) (hret:Ret C.P F hh (λ_=>false) args r hh):RdOk C o ev hp r:=by
  intro st hhp hag g a w hs Q K' hK;have hfv:=hs.ev f;rw [hag f (by simp [ho,Op.operands,Call.operands]),hf] at hfv;obtain⟨vs,hv,hvs⟩:=gO hfv hc;have hal':∀ j∈ids,aR hp j=true:=λj hj=>zQT.1 hal j hj
  have hals:∀ j∈ids,aR st.hp j=true:=λj hj=>by
    obtain⟨B,hB,hd⟩:=bW (hal' j hj);have h1:=hal' j hj;unfold aR at h1 ⊢;rw [zQD,hB] at h1;rw [zQD,hhp j B hB hd];exact h1
  have he:=qIA (st:=st.hp) hal' hhp
  have hf':∀ i j,aC ids i=some j->(g.canon ids).phi j=g.phi i/\(g.canon ids).psi j=g.psi i:=by
    intro i j hij;have:=aH ids i j hij;simp [Gh.canon,this]
  have hargs:Pw (ARep w (g.canon ids)) args (xs.map a.eval++vs).toList:=by
    rw [<- hx,Array.toList_append,List.map_append];refine Pw.append ⟨by simp,λi x v hxi hvi=>?_⟩ ⟨by simpa using hvs.1,λi x v hxi hvi=>?_⟩
    · simp only [List.map_map,zQP,zQO] at hxi
      simp only [Array.toList_map,zQP,zQO] at hvi;obtain⟨y,hy,rfl⟩:=hxi;obtain⟨z,hz,rfl⟩:=hvi;rw [hy] at hz;cases hz;have hy':st.fr.ev y=ev y:=hag y (by simp only [ho,Op.operands,Call.operands];exact Array.mem_append.2 (.inr (Array.mem_toList_iff.1 (zQM hy))));have:=ARep.mapRef (w:=w) (g:=g) (g':=g.canon ids) (λd v hd=>hd) (ARep.toName hf' λ_ hb=>hb) (hs.ev y);rw [hy'] at this;exact this
    simp only [zQP,zQO] at hxi;obtain⟨d,hd',rfl⟩:=hxi;exact ARep.mapRef (w:=w) (g:=g) (g':=g.canon ids) (λd v hd=>hd) (ARep.toName hf' λ_ hb=>hb) (hvs.2 i d v hd' hvi)
  simp only [Oper.wp,cB ho hv hret.1,Oper.upon_enter];have hh':eT ids st.hp=hh:=he.trans hhd;have hret2:=hret;rw [<- hh'] at hret2;refine (hret2.2 w (g.canon ids) _ (hs.handed hnd) hargs).mono ?_;rintro e w' ⟨v,g',rfl,hout,hr⟩;have hb:=hs.back hnd hals hout;rw [wQ hnd hal' hhp hcl] at hb;refine hK v w' _ hb ?_;have hlt:∀ j∈ids,j < st.hp.length:=λj hj=>by obtain⟨B,hB,_⟩:=bW (hals j hj);exact (zQQ.1 hB).1
  have := ARep.mapRef (w := w') (g := g') (g' := g.back ids st.hp.length w.heap.size g') (F := fwd ids st.hp.length) (fun d v hd => hd.mono (fun b hb => by
    by_cases hlt' : b < w.heap.size
    · exact .inl (hout.Xold b hb hlt')
    exact .inr ⟨by omega, hb⟩) fun _ _ => rfl) (fun x v hx hr => hx.fwd hnd hlt hr) hr
  rw [hrr.2.2,hrr.2.1] at this;exact this
theorem yY {ids:List Nat} {hp:List Blk} (h:(ids.map λj=>((hp.getD j .dead).mapRef (toName (aC ids))).mapRef (fwd ids 0))=ids.map λj=>hp.getD j .dead):uX ids hp:=λj hj=>List.map_inj_left.1 h j hj
theorem qCZ {α:Type} {f:α->D} {xs:List α} {T:Tab} {s id sz idx off bt:Nat} {b:Bool} {z z':α} {v:D} (hT:TabOk C.P T) (ho:o.op=.store t x y) (hd:o.dst=none) (hl:lk T.lay t=some (b,s)) (ha:ev x=.mptr id sz idx off) (hy:ev y=.d v) (hs:Nat.beq v.cells.length s=true) (hb:hp[id]?=some (.flat bt sz (xs.map f))) (hx:xs[idx]?=some z) (hone:((!(f z).one)||v.one)=true) (hle:Nat.ble (off+s) (f z).cells.length=true) (hu:(f z).upd off v=f z'):DOk C o ev hp .junk [(id,.flat bt sz ((xs.set idx z').map f))]:=by
  rw [List.map_set];refine tK ho hd (hT.lay hl) ha hy (Nat.eq_of_beq_eq_true hs) hb (yP hx) ?_ (Nat.le_of_ble_eq_true hle) hu;simp only [Bool.or_eq_true,Bool.not_eq_true'] at hone;exact hone
theorem qIE {ops:Array Oper} {K:St->Prop} {l:List Oper} {fr:Fr} {hp:List Blk} {acc:List Rec} {o oq:Oper} (q dq:Nat) (h:aM C ops (o :: l) ⟨fr,hp⟩ K) (h2:aM C ops (o :: oq :: l) ⟨(dq,.junk) :: fr,hp⟩ K) (hq:ops.toList[q]?=some oq) (hdq:(acc.map Rec.d)[q]?=some dq) (hws:(acc.map fB)[q]?.map (·.2)=some []) (hE:nP q ops.toList acc.length (acc.map Rec.d) (acc.map fB)=true):TDr C ops K (o :: l) fr hp acc:=
  .tailq q o oq l fr hp acc dq hE hq hdq hws h h2
theorem qDT {t:TypeId} (hu:P.underlying t=some .string) (w:World) (s:ByteArray) (lo hi:Option Value) (l r:Nat)
    (hlo:(lo=none/\l=0)\/∃ k,lo=some (.int k l)) (hhi:(hi=none/\r=s.size)\/∃ k,hi=some (.int k r)) (h1:l<=r) (h2:r<=s.size):
    (Instr.sliceAt t (.string s) lo hi none).run P w=.ok (.string (s.extract l r)) w:=by
  have e1:(l:Int)<=r:=by omega
  have e2:(r:Int)<=s.size:=by omega
  rcases hlo with ⟨rfl,rfl⟩|⟨k,rfl⟩<;>rcases hhi with ⟨rfl,rfl⟩|⟨k',rfl⟩<;>
    simp [Instr.sliceAt,Instr.slice,run_underlying hu,Instr.sliceBounds,Instr.sliceBound,asIntOf,e1,e2,h1,h2]
theorem qCX {s:ByteArray} {lo hi:Option Operand} {l r:Int} (ho:o.op=.slice t x lo hi none) (hu:C.P.underlying t=some .string) (hx:ev x=.d (.str s)) (hlo:bnd 0 (lo.map ev)=some l) (hhi:bnd s.size (hi.map ev)=some r) (h:0<=l/\l<=r/\r<=s.size):RdOk C o ev hp (.d (.str (s.extract l.toNat r.toNat))):=
  RdOk.mk λst hhp hag g a w hs=>by
    have hv:=hs.ev x;rw [hag x (by simp [ho,Op.operands]),hx] at hv;obtain⟨l,rfl⟩:=Int.eq_ofNat_of_zero_le h.1;obtain⟨r,rfl⟩:=Int.eq_ofNat_of_zero_le (show 0<=r by omega)
    have bound:∀ (d n:Nat) (q:Option Operand),(∀ y,q=some y->y∈o.op.operands)->bnd d (q.map ev)=some (n:Int)->(q.map a.eval=none/\n=d)\/∃ k,q.map a.eval=some (.int k n):=by
      intro d n q hq hb
      cases q with
      | none=>simp [bnd] at hb;exact .inl ⟨rfl,by omega⟩
      | some y=>
        have hy:=hs.ev y;rw [hag y (hq y rfl)] at hy;simp only [Option.map_some] at hb ⊢;unfold bnd at hb;split at hb
        · rename_i e;cases e
        · rename_i k m e
          rw [Option.some.inj e] at hy;cases hb;exact .inr ⟨k,by rw [int_inv hy]⟩
        cases hb
    have hlo':=bound 0 l lo (λy hy=>by subst hy;simp [ho,Op.operands]) hlo;have hhi':=bound s.size r hi (λy hy=>by subst hy;simp [ho,Op.operands]) hhi;refine⟨.string (s.extract l r),?_,.d _ _ (.str _)⟩;have:=qDT hu w s _ _ l r hlo' hhi' (by omega) (by omega);simp only [execOp,ho,str_inv hv];simp [this]
end Go.TL
