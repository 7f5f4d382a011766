/- Texts of this proof, joined, without what it does not use. No condition. -/
import Derived.Laws.BytesArg
import Derived.Test.YtldaknhjmhlefaaGreatDoorQp

set_option linter.unusedVariables false
set_option linter.unusedSimpArgs false
set_option linter.unusedSectionVars false
namespace Go.TL
open Go.Sort Go.Proofs
variable {P:Program} {C:Ctx} {st:St} {g:Gh} {a:Act} {w:World}
theorem qYZ {o:Oper} {ev:Operand->AV} {hp:List Blk} (hs:List Nat) {f:Operand} {xs:Array Operand} {ts:Array TypeId} {F:FuncId} {mv:Nat->Bool} {ds:List D} {r r':AV} {Bs:List Blk} (hi:∀ i∈hs,hp[i]?=some .hole) (hnd:hs.Nodup) (hl:Bs.length=hs.length) (ho:o.op=.call { callee:=.value f,args:=xs,argTypes:=ts })
    (hf:ev f=.d (.fn F)) (hx:xs.toList.map ev=ds.map .d) (hret:Ret C.P F [] mv (ds.map .d) r Bs) (hrr:r.mapRef (toHole hs)=r') (hBB:∀ B∈Bs,B.mapRef (λ_=>.junk)=B):DOk C o ev hp r' (hs.zip Bs):=by
  intro st hhp hlen _ hag g a w hsim Q K' hK;have hih:∀ i∈hs,st.hp[i]?=some .hole:=λi h=>qEU (hi i h) hhp;have hno:∀ i∈hs,g.phi i=none:=λi h=>hsim.hp i _ (hih i h);have hil:∀ i∈hs,i < st.hp.length:=λi h=>(zQQ.1 (hih i h)).1;have hfv:=hsim.ev f;rw [hag f (by simp [ho,Op.operands,Call.operands]),hf] at hfv
  have hargs:Pw (ARep w (iL g.X)) (ds.map .d) (xs.map a.eval).toList:=by
    have:=zDI (cs:=[]) (vs:=#[]) hsim (λy hy=>hag y (by simp only [ho,Op.operands,Call.operands];exact Array.mem_append.2 (.inr hy))) hx ⟨rfl,λi x y h=>by simp at h⟩;simpa using this
  simp only [Oper.wp,iM ho (qLI hfv) hret.1,Oper.upon_enter,Array.append_empty];refine (hret.2 w (iL g.X) _ (qVX hsim mv hsim.Xlt) hargs).mono ?_;rintro e w' ⟨v,g',rfl,hout,hr⟩;have hold:∀ b,b < w.heap.size->w'.heap[b]?=w.heap[b]?:=λb hb=>hout.keep b hb λi hi=>absurd hi (zQV i);have hsz:=hout.grown;simp only at hsz
  have hnew:∀ j b,g'.phi j=some b->w.heap.size<=b:=by
    intro j b hp;rcases Nat.lt_or_ge b w.heap.size with hlt|hge
    · exact absurd (hout.own j b hp hlt).1 (zQV _)
    exact hge
  let g2:Gh:={ phi:=λj=>match bS hs j with|some i=>g'.phi i|none=>g.phi j,psi:=λj=>match bS hs j with|some i=>g'.psi i|none=>g.psi j,X:=λb=>g.X b\/(w.heap.size<=b/\g'.X b) }
  have hXX:∀ b,g'.X b->g2.X b:=λb hb=>by
    rcases Nat.lt_or_ge b w.heap.size with hlt|hge
    · exact .inl (hout.Xold b hb hlt)
    exact .inr ⟨hge,hb⟩
  have hin:∀ {j i:Nat},bS hs j=some i->j∈hs:=λh=>zQM (dI hs _ _ h)
  have hgr:Grow w g w' g2:=by
    refine⟨λj b hp=>?_,λj b hp=>?_,λ_ h=>.inl h,λb hb=>hold b (hsim.Xlt b hb)⟩
    · cases hpl:bS hs j with
      | some i=>rw [hno j (hin hpl)] at hp;cases hp
      | none=>simpa [g2,hpl] using hp
    cases hpl:bS hs j with
    | some i=>rw [hno j (hin hpl)] at hp;cases hp
    | none=>simp [g2,hpl]
  have hphi:∀ j b,g2.phi j=some b->(∃ i,bS hs j=some i/\g'.phi i=some b)\/(bS hs j=none/\g.phi j=some b):=by
    intro j b hp
    cases hpl:bS hs j with
    | some i=>exact .inl ⟨i,rfl,by simpa [g2,hpl] using hp⟩
    | none=>exact .inr ⟨rfl,by simpa [g2,hpl] using hp⟩
  have hzl:∀ p∈hs.zip Bs,p.1 < st.hp.length:=λp hp=>hil _ (List.of_mem_zip hp).1
  have hzn:((hs.zip Bs).map (·.1)).Nodup:=by
    rw [List.map_fst_zip (by omega)];exact hnd
  have hwr:=λb=>qJI (hs.zip Bs) st.hp b hzl hzn
  have hget:∀ {j i:Nat} {B:Blk},hs[i]?=some j->Bs[i]?=some B->(wr (hs.zip Bs) st.hp)[j]?=some B:=by
    intro j i B h1 h2;have:(hs.zip Bs)[i]?=some (j,B):=by rw [List.getElem?_zip_eq_some];exact⟨h1,h2⟩
    exact (hwr j).1 (j,B) (zQM this) rfl
  have hgetN:∀ {j:Nat},bS hs j=none->(wr (hs.zip Bs) st.hp)[j]?=st.hp[j]?:=by
    intro j hpl;refine (hwr j).2 λp hp e=>?_;obtain⟨i,hi⟩:=List.getElem?_of_mem (List.of_mem_zip hp).1;rw [e] at hi;exact xZ hpl i hi
  have hB:∀ {j i:Nat} {B:Blk},bS hs j=some i->Bs[i]?=some B->BRep w' g2 j B:=by
    intro j i B hpl hBi;have h2:=BRep.mapRef (g':=g2) (F:=λ_=>.junk) (j:=j) (by simp [g2,hpl]) (by simp [g2,hpl]) hXX (λx v _ _=>.junk v) (hout.hp i B hBi)
    rwa [hBB B (zQM hBi)] at h2
  have hBs:∀ {j i:Nat},bS hs j=some i->∃ B,Bs[i]?=some B:=by
    intro j i hpl;have:=(zQQ.1 (dI hs _ _ hpl)).1;exact⟨Bs[i]'(by omega),zQR _⟩
  have hlw:(wr (hs.zip Bs) st.hp).length=st.hp.length:=qAX _ _;refine hK v w' g2 ?_ ?_
  · refine { defers := hsim.defers, size := hsim.size, fr := fun t => (hsim.fr t).mono hgr, hp := ?_, lt := ?_, inj := ?_, Xlt := ?_, Xold := ?_, os := hout.os.trans hsim.os, tape := hout.tape.trans hsim.tape, output := hout.output.trans hsim.output, drawn := Nat.le_trans hsim.drawn hout.drawn, grown := Nat.le_trans hsim.grown hsz, keep := ?_, own := ?_, stay := ?_, kle := ?_ }
    · intro j B hj
      cases hpl:bS hs j with
      | some i=>
        obtain⟨B',hB'⟩:=hBs hpl;have:=hget (dI hs _ _ hpl) hB';simp only at hj;rw [this] at hj;cases hj;exact hB hpl hB'
      | none=>
        simp only at hj;rw [hgetN hpl] at hj;refine (hsim.hp j B hj).mono hgr (λhn=>by simpa [g2,hpl] using hn) λb hb=>hold b (hsim.lt j b hb).1
    · intro j b hp
      simp only [hlw];rcases hphi j b hp with ⟨i,hpl,hp'⟩|⟨_,hp'⟩
      · exact ⟨(hout.lt i b hp').1, hil j (hin hpl), fun hX => by
          rcases hX with hX | ⟨_, hX⟩
          · have := hsim.Xlt b hX; have := hnew i b hp'; omega
          exact (hout.lt i b hp').2.2 hX⟩
      have:=hsim.lt j b hp';refine⟨by omega,this.2.1,λhX=>?_⟩;rcases hX with hX|⟨hX,_⟩
      · exact this.2.2 hX
      omega
    · intro j j' b Bj Bj' hBj hBj' hdj hdj' hj hj'
      simp only at hBj hBj';rcases hphi j b hj with ⟨i,hpl,h1⟩|⟨hpl,h1⟩<;>rcases hphi j' b hj' with ⟨i',hpl',h2⟩|⟨hpl',h2⟩
      · obtain⟨B1,e1⟩:=hBs hpl
        obtain⟨B2,e2⟩:=hBs hpl';rw [hget (dI hs _ _ hpl) e1] at hBj;rw [hget (dI hs _ _ hpl') e2] at hBj';cases hBj;cases hBj';have:=hout.inj i i' b _ _ e1 e2 hdj hdj' h1 h2;subst this;have h3:=dI hs _ _ hpl;rw [dI hs _ _ hpl'] at h3;exact (Option.some.inj h3).symm
      · have:=(hsim.lt _ _ h2).1;have:=hnew i b h1;omega
      · have:=(hsim.lt _ _ h1).1;have:=hnew i' b h2;omega
      rw [hgetN hpl] at hBj;rw [hgetN hpl'] at hBj';exact hsim.inj j j' b Bj Bj' hBj hBj' hdj hdj' h1 h2
    · intro b hX
      rcases hX with hX|⟨_,hX⟩
      · have:=hsim.Xlt b hX;omega
      exact hout.Xlt b hX
    · intro b hX hlt'
      rcases hX with hX|⟨hge,_⟩
      · exact hsim.Xold b hX hlt'
      have:=hsim.grown;omega
    · intro b hb hk;rw [hold b (by have:=hsim.grown;omega)];exact hsim.keep b hb hk
    · intro j b hp hb
      rcases hphi j b hp with ⟨i,_,hp'⟩|⟨_,hp'⟩
      · have:=hnew i b hp';have:=hsim.grown;omega
      exact hsim.own j b hp' hb
    · intro j b hj hmj hp
      have hst:=hsim.stay j b hj hmj hp
      have hpl:bS hs j=none:=by
        cases h:bS hs j with
        | none=>rfl
        | some i=>rw [hno j (hin h)] at hst;cases hst.2
      simpa [g2,hpl] using hst
    simp only [hlw];exact hsim.kle
  subst hrr;refine ARep.mapRef (w:=w') (g:=g') (g':=g2) (λd v hd=>hd.mono hXX λ_ _=>rfl) (λx v hx hr=>?_) hr
  have hat:∀ {id b:Nat},g'.phi id=some b->g2.phi (hs.getD id 0)=some b/\g2.psi (hs.getD id 0)=g'.psi id:=by
    intro id b hb;have hid:=(hout.lt id b hb).2.1;simp only at hid;have hlt:id < hs.length:=by omega
    have hge:hs[id]?=some (hs.getD id 0):=by rw [zQD,zQR hlt];rfl
    have hpl:=qDH hnd hge;exact⟨by simp only [g2,hpl];exact hb,by simp only [g2,hpl]⟩
  cases hx with
  | msl0=>exact .msl0 _ _ _ _
  | msl id sz off len cap b hb hc hp=>exact .msl _ _ _ _ cap b (hat hb).1 hc (by rw [(hat hb).2];exact hp)
  | mptr id sz idx off b hb=>exact .mptr _ _ _ _ b (hat hb).1
  | mmap id b hb=>exact .mmap _ b (hat hb).1
  | mmapN0=>exact .mmapN0 _
  | mmapN id n b hb=>exact .mmapN _ _ b (hat hb).1
  | _=>cases hr
section
variable {o:Oper} {ev:Operand->AV} {hp:List Blk} {t t' e arr:TypeId} {x y:Operand}
theorem qNR {s:ByteArray} {k:IntKind} {i:Int} {b:UInt8} (ho:o.op=.index t x y) (hu:C.P.underlying t=some .string) (hx:ev x=.d (.str s)) (hy:ev y=.d (.int k i)) (h:0<=i/\s.data.toList[i.toNat]?=some b):RdOk C o ev hp (.d (.int .u8 (b.toNat:Int))):=
  RdOk.mk λst hhp hag g a w hs=>by
    have hv:=hs.ev x;rw [hag x (by simp [ho,Op.operands]),hx] at hv;have hi:=hs.ev y;rw [hag y (by simp [ho,Op.operands]),hy] at hi
    have hxv:a.eval x=.string s:=by
      generalize a.eval x=v at *;cases hv with|d _ _ h=>cases h;rfl
    have hsb:s[i.toNat]?=some b:=by
      have h2:=h.2;rw [zQQ] at h2;obtain⟨hlt,h2⟩:=h2;have hlt':i.toNat < s.size:=hlt;rw [getElem?_pos s i.toNat hlt'];exact congrArg some h2
    refine⟨.int .u8 b.toNat,?_,.d _ _ (.int _ _)⟩;have h0:=h.1;simp only [execOp,ho,hxv,int_inv hi];simp [Instr.index,run_underlying hu,asIntOf,h0,hsb]
end
section
variable {o:Oper} {ev:Operand->AV} {hp:List Blk} {x:Operand}
theorem x_cutA {α:Type} {f:α->D} {xs:List α} {t e:TypeId} {n:Nat} {lo hi:Option Operand} {l r:Int} (ho:o.op=.slice t x lo hi none) (hu:C.P.underlying t=some (.array n e)) (hl:lay C.P e=some (false,1)) (hx:ev x=.d (.ptr (.agg (xs.map f)) 0)) (hn:Nat.beq n xs.length=true) (hlo:bnd 0 (lo.map ev)=some l) (hhi:bnd n (hi.map ev)=some r) (h:0<=l/\l<=r/\r<=n):RdOk C o ev hp (.d (.sl 1 ((sub xs l r).map f))):=
  RdOk.mk λst hhp hag g a w hs=>by
    have hv:=hs.ev x;rw [hag x (by simp [ho,Op.operands]),hx] at hv;have hn':=Nat.eq_of_beq_eq_true hn;obtain⟨l,rfl⟩:=Int.eq_ofNat_of_zero_le h.1;obtain⟨r,rfl⟩:=Int.eq_ofNat_of_zero_le (show 0<=r by omega)
    have bound:∀ (d m:Nat) (q:Option Operand),(∀ y,q=some y->y∈o.op.operands)->bnd d (q.map ev)=some (m:Int)->(q.map a.eval=none/\m=d)\/∃ k,q.map a.eval=some (.int k m):=by
      intro d m q hq hb
      cases q with
      | none=>simp [bnd] at hb;exact .inl ⟨rfl,by omega⟩
      | some y=>
        have hy:=hs.ev y;rw [hag y (hq y rfl)] at hy;simp only [Option.map_some] at hb ⊢;unfold bnd at hb;split at hb
        · rename_i e;cases e
        · rename_i k m' e
          rw [Option.some.inj e] at hy;cases hb;exact .inr ⟨k,by rw [int_inv hy]⟩
        cases hb
    have hlo':=bound 0 l lo (λy hy=>by subst hy;simp [ho,Op.operands]) hlo;have hhi':=bound n r hi (λy hy=>by subst hy;simp [ho,Op.operands]) hhi;have h1:l<=r:=by omega
    have h2:r<=n:=by omega
    obtain⟨q1,q2⟩:=qBE hl w;generalize hev:a.eval x=vx at *
    cases hv with
    | d _ _ hd=>
      cases hd with
      | ptr _ _ ad val hX h1' hv hr=>
        have hrun:(execOp a.eval o).run C.P w=.ok (.value (.slice (some (if n=l then ad else ad.add (l * 1))) (r - l) (n - l))) w:=by
          simp only [execOp,ho,hev];have e1:(l:Int)<=r:=by omega
          have e2:(r:Int)<=n:=by omega
          rcases hlo' with ⟨hlo',rfl⟩|⟨k,hlo'⟩<;>rcases hhi' with ⟨hhi',rfl⟩|⟨k',hhi'⟩<;>rw [hlo',hhi']<;>
            simp [Instr.sliceAt,run_underlying hu,Instr.sureAddr,Instr.sliceBounds,Instr.sliceBound,asIntOf,q2,h1,h2,e1,e2]
        have hsub:sub xs (l:Int) (r:Int)=(xs.drop l).take (r - l):=rfl;refine⟨_,hrun,.d _ _ ?_⟩;rw [hsub,List.map_take,List.map_drop];have hlen:(((xs.map f).drop l).take (r - l)).length=r - l:=by simp;omega
        by_cases he:((xs.map f).drop l).take (r - l)=[]
        · have h0 : r - l = 0 := by rw [<- hlen, he]; rfl
          rw [he,h0];exact .sl0 _ _ _
        have hpos : 0 < r - l := by rw [<- hlen]; exact List.length_pos_iff.2 he
        have hds:∀ (i:Nat) (e:D),(((xs.map f).drop l).take (r - l))[i]?=some e->(xs.map f)[l+i]?=some e:=by
          intro i e he;rw [List.getElem?_take] at he;split at he
          · rwa [List.getElem?_drop] at he
          cases he
        have hone:∀ d∈xs.map f,d.one=true:=h1'
        have hcell:∀ {d:D},d∈xs.map f->d.cells=[d]:=fun {d} hd=>by
          have:=hone d hd;cases d<;>first|rfl|cases this
        rw [if_neg (by omega)]
        have := DRep.sl (w := w) (X := g.X) 1 (((xs.map f).drop l).take (r - l)) (ad.add (l * 1)) (n - l) (fun i j => val (l + i)) (by rw [xE]; exact hX) (by rw [hlen]; omega)
          (fun i e he => by rw [hcell (zQM (hds i e he))]; rfl) (fun i e j c he hc => by
            rw [hcell (zQM (hds i e he))] at hc
            cases j with
            | zero => cases hc; exact hone _ (zQM (hds i _ he))
            | succ j => cases hc)
          (fun i e j c he hc => by
            rw [hcell (zQM (hds i e he))] at hc
            cases j with
            | zero =>
              cases hc;have := hv (l + i) _ (by rw [Nat.zero_add]; exact hds i _ he);rw [qFK, show l * 1 + (i * 1 + 0) = l + i by omega];exact this
            | succ j => cases hc) (fun i e j c he hc => by
            rw [hcell (zQM (hds i e he))] at hc
            cases j with
            | zero =>
              cases hc;exact hr (l + i) _ (by rw [Nat.zero_add]; exact hds i _ he)
            | succ j => cases hc)
        rw [hlen] at this;exact this
end
theorem qZL {o:Oper} {ev:Operand->AV} {hp:List Blk} {f:Operand} {xs:Array Operand} {ts:Array TypeId} {F:FuncId} {mv:Nat->Bool} {ds rs:List D} (ho:o.op=.call { callee:=.value f,args:=xs,argTypes:=ts }) (hf:ev f=.d (.fn F)) (hx:qCT hp (xs.toList.map ev) ds) (hret:Ret C.P F [] mv (ds.map .d) (.tup (rs.map .d)) []) (hm:rs.all D.mem0=true):RdOk C o ev hp (.tup (rs.map .d)):=by
  intro st hhp hag g a w hs Q K' hK;have hfv:=hs.ev f;rw [hag f (by simp [ho,Op.operands,Call.operands]),hf] at hfv
  have hx':qCT st.hp (xs.toList.map st.fr.ev) ds:=by
    refine⟨by have:=hx.1;simpa using this,λi x d hxi hd=>?_⟩;simp only [zQP,zQO] at hxi;obtain⟨y,hy,rfl⟩:=hxi;rw [hag y (by simp only [ho,Op.operands,Call.operands];exact Array.mem_append.2 (.inr (Array.mem_toList_iff.1 (zQM hy))))];exact (hx.2 i (ev y) d (by simp [hy]) hd).le hhp
  have hargs:=qUS hs hx' (Y:=λb=>b < w.heap.size) hs.Xlt λi b hp=>(hs.lt i b hp).1;simp only [Oper.wp,iM ho (qLI hfv) hret.1,Oper.upon_enter,Array.append_empty];refine (hret.2 w (iL λb=>b < w.heap.size) _ (qVX hs mv λ_ h=>h) hargs).mono ?_;rintro e w' ⟨v,g',rfl,hout,hr⟩;have hold:∀ b,b < w.heap.size->w'.heap[b]?=w.heap[b]?:=λb hb=>hout.keep b hb λi hi=>absurd hi (zQV i);have hsz:=hout.grown;simp only at hsz;have hgr:Grow w g w' g:=⟨λ_ _ h=>h,λ_ _ _=>rfl,λ_ h=>h,λb hb=>hold b (hs.Xlt b hb)⟩;refine hK v w' g ?_ ?_
  · exact { defers := hs.defers, size := hs.size, fr := fun t => (hs.fr t).mono hgr, hp := fun i B hB => (hs.hp i B hB).mono hgr id fun b hb => hold b (hs.lt i b hb).1, lt := fun i b hp => by have := hs.lt i b hp; exact ⟨by omega, this.2.1, this.2.2⟩, inj := hs.inj, Xlt := fun b hb => by have := hs.Xlt b hb; omega, Xold := hs.Xold
            os := hout.os.trans hs.os, tape := hout.tape.trans hs.tape, output := hout.output.trans hs.output, drawn := Nat.le_trans hs.drawn hout.drawn, grown := Nat.le_trans hs.grown hsz, keep := fun b hb hk => by rw [hold b (by have := hs.grown; omega)]; exact hs.keep b hb hk, own := hs.own, stay := hs.stay, kle := hs.kle }
  cases hr with
  | tup _ us hl hr=>
    refine .tup _ us hl λi c u hci hu=>?_;have h1:=hr i c u hci hu;simp only [zQP,zQO] at hci;obtain⟨d,hd,rfl⟩:=hci;have hdm:D.mem0 d=true:=zQT.1 hm d (zQM hd)
    cases h1 with
    | d _ _ h=>exact .d _ _ (h.any hdm)
end Go.TL
set_option maxHeartbeats 4000000
namespace Go.TL
variable {C:Ctx} {st:St} {g:Gh} {a:Act} {w:World} {P:Program}
inductive Kt where
  | s (y:Code)
  | b (i:Nat)
def post (C:Ctx):List Kt->(Exit->St->Prop)->Exit->St->Prop
  | [],Q=>Q
  | .s y :: ks,Q=>uJ (λst=>TWp C y st (post C ks Q)) (post C ks Q)
  | .b i :: ks,Q=>rO i (post C ks Q)
def pn (C:Ctx) (ks:List Kt) (Q:Exit->St->Prop):St->Prop:=post C ks Q .normal
inductive Md where
  | kc (x:Code) (fr:Fr) (hp:List Blk) (ks:List Kt)
  | ko (ops:Array Oper) (l:List Oper) (fr:Fr) (hp:List Blk) (ks:List Kt)
  | kx (e:Exit) (fr:Fr) (hp:List Blk) (ks:List Kt)
  | kn
def Md.goal (C:Ctx) (Q:Exit->St->Prop):Md->Prop
  | .kc x fr hp ks=>TWp C x ⟨fr,hp⟩ (post C ks Q)
  | .ko ops l fr hp ks=>eF C ops l ⟨fr,hp⟩ (pn C ks Q)
  | .kx e fr hp ks=>post C ks Q e ⟨fr,hp⟩
  | .kn=>False
def stX (fr:Fr) (hp:List Blk) (e:Exit):List Kt->Md
  | []=>.kn
  | .s y :: ks=>match e with
    | .normal=>.kc y fr hp ks
    | e=>.kx e fr hp ks
  | .b i :: ks=>match e with
    | .exit j=>match Nat.beq j i with
      | true=>.kx .normal fr hp ks
      | false=>.kx (.exit j) fr hp ks
    | e=>.kx e fr hp ks
def stO (T:Tab) (n:Nat) (ops:Array Oper) (fr:Fr) (hp:List Blk) (ks:List Kt):List Oper->Md
  | []=>.kx .normal fr hp ks
  | o :: l=>match stE T n ops o fr hp with
    | some (fr',hp')=>.ko ops l fr' hp' ks
    | none=>.kn
def stS (fr:Fr) (hp:List Blk) (ks:List Kt) (y:Code):Code->Md
  | .region id ops d=>match d with
    | false=>.ko ops ops.toList fr hp (.s y :: ks)
    | true=>.kc (.region id ops true) fr hp (.s y :: ks)
  | x=>.kc x fr hp (.s y :: ks)
def stC (fr:Fr) (hp:List Blk) (ks:List Kt):Code->Md
  | .seq x y=>stS fr hp ks y x
  | .region _ ops d=>match d with
    | false=>.ko ops ops.toList fr hp ks
    | true=>.kn
  | .skip=>.kx .normal fr hp ks
  | .ret=>.kx .ret fr hp ks
  | .exit i=>.kx (.exit i) fr hp ks
  | .block i x=>.kc x fr hp (.b i :: ks)
  | _=>.kn
def stp (T:Tab) (n:Nat):Md->Md
  | .kc x fr hp ks=>stC fr hp ks x
  | .ko ops l fr hp ks=>stO T n ops fr hp ks l
  | .kx e fr hp ks=>stX fr hp e ks
  | .kn=>.kn
def run (T:Tab) (n:Nat):Nat->Md->Md
  | 0,m=>m
  | k+1,m=>run T n k (stp T n m)
theorem stX_ok {Q:Exit->St->Prop} {fr:Fr} {hp:List Blk} {e:Exit} {ks:List Kt} (h:(stX fr hp e ks).goal C Q):post C ks Q e ⟨fr,hp⟩:=by
  cases ks with
  | nil=>exact h.elim
  | cons k ks=>
    cases k with
    | s y=>cases e<;>exact h
    | b i=>
      cases e with
      | exit j=>
        simp only [stX] at h;show rO i (post C ks Q) (.exit j) _;simp only [rO];split at h
        · rename_i hj;rw [if_pos (Nat.eq_of_beq_eq_true hj)];exact h
        rename_i hj;rw [if_neg (λe=>by rw [e,Nat.beq_refl] at hj;cases hj)];exact h
      | _=>exact h
theorem stS_ok {Q:Exit->St->Prop} {fr:Fr} {hp:List Blk} {ks:List Kt} {y x:Code} (h:(stS fr hp ks y x).goal C Q):TWp C (.seq x y) ⟨fr,hp⟩ (post C ks Q):=by
  cases x with
  | region id ops d=>cases d with
    | false=>exact RS h
    | true=>exact TQ h
  | _=>exact TQ h
theorem stC_ok {Q:Exit->St->Prop} {fr:Fr} {hp:List Blk} {ks:List Kt} {x:Code} (h:(stC fr hp ks x).goal C Q):TWp C x ⟨fr,hp⟩ (post C ks Q):=by
  cases x with
  | seq x y=>exact stS_ok h
  | region id ops d=>cases d with
    | false=>exact TG h
    | true=>exact h.elim
  | skip=>exact TS h
  | ret=>exact TR h
  | exit i=>exact zD h
  | block i x=>exact TB h
  | _=>exact h.elim
theorem stp_ok {T:Tab} (hT:TabOk C.P T) {Q:Exit->St->Prop} {m:Md} (h:(stp T C.n m).goal C Q):m.goal C Q:=by
  cases m with
  | kc x fr hp ks=>exact stC_ok h
  | ko ops l fr hp ks=>
    cases l with
    | nil=>exact TN h
    | cons o l=>
      simp only [stp,stO] at h;split at h
      · rename_i fr' hp' he;exact SA hT he h
      exact h.elim
  | kx e fr hp ks=>exact stX_ok h
  | kn=>exact h.elim
theorem zBQ {T:Tab} (hT:TabOk C.P T) {Q:Exit->St->Prop}:∀ (k:Nat) (m:Md),(run T C.n k m).goal C Q->m.goal C Q
  | 0,_,h=>h
  | k+1,_,h=>stp_ok hT (zBQ hT k _ h)
theorem vB {T:Tab} (hT:TabOk C.P T) {Q:Exit->St->Prop} {k:Nat} {m m':Md} (h:run T C.n k m=m') (hm:m'.goal C Q):m.goal C Q:=zBQ hT k m (h ▸ hm)
theorem bV {id:Nat} {ops:Array Oper} {y:Code} {ks:List Kt} {Q:Exit->St->Prop} (hm:C.P.follows .mixedOrders=true) (h:TDr C ops (pn C (.s y :: ks) Q) ops.toList st.fr st.hp []):TWp C (.seq (.region id ops true) y) st (post C ks Q):=qRS hm h
theorem qZC {id:Nat} {ops:Array Oper} {y:Code} {Q:Exit->St->Prop} (hm:C.P.follows .mixedOrders=true) (h:TDr C ops (pn C [.s y] Q) ops.toList st.fr st.hp []):TWp C (.seq (.region id ops true) y) st Q:=qRS hm h
theorem cU {id:Nat} {ops:Array Oper} {ks:List Kt} {Q:Exit->St->Prop} (hm:C.P.follows .mixedOrders=true) (h:TDr C ops (pn C ks Q) ops.toList st.fr st.hp []):TWp C (.region id ops true) st (post C ks Q):=qJO hm h
theorem iW {id:Nat} {ops:Array Oper} {Q:Exit->St->Prop} (hm:C.P.follows .mixedOrders=true) (h:TDr C ops (pn C [] Q) ops.toList st.fr st.hp []):TWp C (.region id ops true) st Q:=qJO hm h
theorem bG {α:Type} {p:Prop} [Decidable p] {x0 y0:Option α} {r:α} {o:Operand} {x y:Code} {Q:Exit->St->Prop} (hm:(if p then x0 else y0)=some r) (hc:st.fr.ev o=.d (.bool (decide p)))
    (h1:decide p=true->x0=some r->TWp C x st Q) (h2:decide p=false->y0=some r->TWp C y st Q):TWp C (.cond o x y) st Q:=
  TC _ hc (λh=>h1 h (JT h hm)) (λh=>h2 h (JF h hm))
theorem qD {α:Type} {p:Prop} [Decidable p] {x0 y0:Option α} {r:α} {o:Operand} {x y:Code} {Q:Exit->St->Prop} (hm:(if p then y0 else x0)=some r) (hc:st.fr.ev o=.d (.bool (!decide p)))
    (h1:(!decide p)=true->x0=some r->TWp C x st Q) (h2:(!decide p)=false->y0=some r->TWp C y st Q):TWp C (.cond o x y) st Q:=
  TC _ hc (λh=>h1 h (qAE h hm)) (λh=>h2 h (qAF h hm))
theorem cP {α:Type} {p:Bool} {x0 y0:Option α} {r:α} {o:Operand} {x y:Code} {Q:Exit->St->Prop} (hm:(if p=true then x0 else y0)=some r) (hc:st.fr.ev o=.d (.bool p))
    (h1:p=true->x0=some r->TWp C x st Q) (h2:p=false->y0=some r->TWp C y st Q):TWp C (.cond o x y) st Q:=
  TC _ hc (λh=>h1 h (JA h hm)) (λh=>h2 h (JB h hm))
/- A call, and the model's call with it. -/
section calls
variable {ops:Array Oper} {ty:TypeId} {pos:String} {after:Array Edge} {gd:Option (Nat×Bool)} {l:List Oper} {K:St->Prop} {fr:Fr} {hp:List Blk} {acc:List Rec} {d:Nat} {F:FuncId} {f:Operand} {xs:Array Operand} {ts:Array TypeId} {ds:List D} {α β:Type} {m:Option α} {k:α->Option β} {o:β} {e:α->D}
theorem c_N (hm:aC m k=some o) (hf:∀ {x},m=some x->RetN C.P F ds (e x)) (hd:decide (d < C.n)=true) (hon:onE ops gd fr=some true) (he:fr.ev f=.d (.fn F)) (hx:xs.toList.map fr.ev=ds.map .d)
    (hk:∀ x,k x=some o->eF C ops l ⟨(d,.d (e x)) :: fr,hp⟩ K):eF C ops (⟨some d,.call { callee:=.value f,args:=xs,argTypes:=ts },ty,pos,after,gd⟩ :: l) ⟨fr,hp⟩ K:=by
  obtain⟨x,h1,h2⟩:=BI hm;exact SX hd hon (RN rfl he (qU hx) (hf h1)) (hk x h2)
theorem c_D (hm:aC m k=some o) (hf:∀ {x},m=some x->RetD C.P F ds (e x)) (hd:decide (d < C.n)=true) (hon:onE ops gd fr=some true) (he:fr.ev f=.d (.fn F)) (hx:xs.toList.map fr.ev=ds.map .d)
    (hk:∀ x,k x=some o->eF C ops l ⟨(d,.d (e x)) :: fr,hp⟩ K):eF C ops (⟨some d,.call { callee:=.value f,args:=xs,argTypes:=ts },ty,pos,after,gd⟩ :: l) ⟨fr,hp⟩ K:=by
  obtain⟨x,h1,h2⟩:=BI hm;exact SX hd hon (RD rfl he hx (hf h1)) (hk x h2)
theorem fE (rs:List Nat) (hm:aC m k=some o) (hf:∀ {x},m=some x->RetN C.P F ds (e x)) (hd:decide (d < C.n)=true) (hon:onE ops gd fr=some true) (he:fr.ev f=.d (.fn F)) (hx:xs.toList.map fr.ev=ds.map .d)
    (hk:∀ x,k x=some o->TDr C ops K l ((d,.d (e x)) :: fr) hp (acc++[⟨true,d,.d (e x),rs,[]⟩])):TDr C ops K (⟨some d,.call { callee:=.value f,args:=xs,argTypes:=ts },ty,pos,after,gd⟩ :: l) fr hp acc:=by
  obtain⟨x,h1,h2⟩:=BI hm;exact DX rs hd hon (RN rfl he (qU hx) (hf h1)) (hk x h2)
theorem cL (rs:List Nat) (hm:aC m k=some o) (hf:∀ {x},m=some x->RetD C.P F ds (e x)) (hd:decide (d < C.n)=true) (hon:onE ops gd fr=some true) (he:fr.ev f=.d (.fn F)) (hx:xs.toList.map fr.ev=ds.map .d)
    (hk:∀ x,k x=some o->TDr C ops K l ((d,.d (e x)) :: fr) hp (acc++[⟨true,d,.d (e x),rs,[]⟩])):TDr C ops K (⟨some d,.call { callee:=.value f,args:=xs,argTypes:=ts },ty,pos,after,gd⟩ :: l) fr hp acc:=by
  obtain⟨x,h1,h2⟩:=BI hm;exact DX rs hd hon (RD rfl he hx (hf h1)) (hk x h2)
end calls
theorem bN {α:Type} {f:α->D} {x r:α} {rs:List ResultVar} {st:St} (hm:some x=some r) (h:qDY st.fr rs=some (.d (f x))):EndsS P rs (f r) st:=by
  cases hm;exact EndsS.one _ h (.d _) (.refl _)
theorem e_j {α:Type} {x z:α} (ids:List Nat) {ks:List Nat} {st:St} {k:Nat} {S:α->St} (hm:some x=some z) (h1:lX ids=true) (h2:∀ i,i < k->ids[i]?=some i) (h3:st.canon ks ids=S x):
    ∃ j ids',z=j/\lX ids'=true/\(∀ i,i < k->ids'[i]?=some i)/\st.canon ks ids'=S j:=⟨x,ids,(Option.some.inj hm).symm,h1,h2,h3⟩
theorem bM {α:Type} {x z:α} (ids:List Nat) {ks:List Nat} {st:St} {S:α->St} (hm:some x=some z) (h1:lX ids=true) (h3:st.canon ks ids=S x):
    ∃ j ids',z=j/\lX ids'=true/\(∀ i,i < 0->ids'[i]?=some i)/\st.canon ks ids'=S j:=⟨x,ids,(Option.some.inj hm).symm,h1,λi hi=>absurd hi (zQV i),h3⟩
theorem e_l {α β:Type} {x:α} {z:α ⊕ β} (ids:List Nat) {ks:List Nat} {st:St} {k:Nat} {S:α->St} (hm:some (.inl x)=some z) (h1:lX ids=true) (h2:∀ i,i < k->ids[i]?=some i) (h3:st.canon ks ids=S x):
    ∃ j ids',z=.inl j/\lX ids'=true/\(∀ i,i < k->ids'[i]?=some i)/\st.canon ks ids'=S j:=⟨x,ids,(Option.some.inj hm).symm,h1,h2,h3⟩
theorem bU {α β:Type} {x:α} {z:α ⊕ β} (ids:List Nat) {ks:List Nat} {st:St} {S:α->St} (hm:some (.inl x)=some z) (h1:lX ids=true) (h3:st.canon ks ids=S x):
    ∃ j ids',z=.inl j/\lX ids'=true/\(∀ i,i < 0->ids'[i]?=some i)/\st.canon ks ids'=S j:=⟨x,ids,(Option.some.inj hm).symm,h1,λi hi=>absurd hi (zQV i),h3⟩
end Go.TL
set_option maxHeartbeats 8000000
set_option linter.unusedSimpArgs false
set_option linter.unusedVariables false
set_option maxRecDepth 20000
namespace Go.Proofs.YtldaknhjmhlefaaGreatDoor
open Go Go.TL
abbrev BA := ByteArray
structure Ay where
 el:Int
 inV:Int
 out:Int
deriving DecidableEq,Inhabited
def Ay.enc (x:Ay):D:=.agg [.int .i64 x.el,.int .i64 x.inV,.int .i64 x.out]
structure Ay.Wf (x:Ay):Prop where
 el:I64 x.el
 inV:I64 x.inV
 out:I64 x.out
structure Ag where
 el:Int
 pos:Int
deriving DecidableEq,Inhabited
def Ag.enc (x:Ag):D:=.agg [.int .i64 x.el,.int .i64 x.pos]
structure Ag.Wf (x:Ag):Prop where
 el:I64 x.el
 pos:I64 x.pos
structure End where
 el:Int
 side:Int
deriving DecidableEq,Inhabited
def End.enc (x:End):D:=.agg [.int .i64 x.el,.int .i64 x.side]
structure End.Wf (x:End):Prop where
 el:I64 x.el
 side:I64 x.side
structure Aj where
 name:BA
 entry:Int
 exit:Int
 path:(List Ay)
 Ae:(List Ag)
 Aa:(List Int)
 A4:Int
 length:Int
 over:(List Ay)
 Ar:(List Ag)
 Ah:(List Int)
 Az:(List Ag)
 guards:(List Int)
 gaps:(List End)
deriving DecidableEq,Inhabited
def Aj.enc (x:Aj):D:=.agg [.str x.name,.int .i64 x.entry,.int .i64 x.exit,.sl 3 (x.path.map Ay.enc),.sl 2 (x.Ae.map Ag.enc),.sl 1 (x.Aa.map (D.int .i64)),.int .i64 x.A4,.int .i64 x.length,.sl 3 (x.over.map Ay.enc),.sl 2 (x.Ar.map Ag.enc),.sl 1 (x.Ah.map (D.int .i64)),.sl 2 (x.Az.map Ag.enc),.sl 1 (x.guards.map (D.int .i64)),.sl 2 (x.gaps.map End.enc)]
structure Aj.Wf (x:Aj):Prop where
 name:x.name.size<=reachBytes
 entry:I64 x.entry
 exit:I64 x.exit
 path:x.path.length<=reachBytes/\∀ y∈x.path,Ay.Wf y
 Ae:x.Ae.length<=reachBytes/\∀ y∈x.Ae,Ag.Wf y
 Aa:x.Aa.length<=reachBytes/\∀ y∈x.Aa,I64 y
 A4:I64 x.A4
 length:I64 x.length
 over:x.over.length<=reachBytes/\∀ y∈x.over,Ay.Wf y
 Ar:x.Ar.length<=reachBytes/\∀ y∈x.Ar,Ag.Wf y
 Ah:x.Ah.length<=reachBytes/\∀ y∈x.Ah,I64 y
 Az:x.Az.length<=reachBytes/\∀ y∈x.Az,Ag.Wf y
 guards:x.guards.length<=reachBytes/\∀ y∈x.guards,I64 y
 gaps:x.gaps.length<=reachBytes/\∀ y∈x.gaps,End.Wf y
structure Am where
 Ac:(List Aj)
 Ae:(List Int)
 As:(List Int)
 Aa:Int
 Al:Int
deriving DecidableEq,Inhabited
def Am.enc (x:Am):D:=.agg [.sl 14 (x.Ac.map Aj.enc),.sl 1 (x.Ae.map (D.int .i64)),.sl 1 (x.As.map (D.int .i64)),.int .i64 x.Aa,.int .i64 x.Al]
structure Am.Wf (x:Am):Prop where
 Ac:x.Ac.length<=reachBytes/\∀ y∈x.Ac,Aj.Wf y
 Ae:x.Ae.length<=reachBytes/\∀ y∈x.Ae,I64 y
 As:x.As.length<=reachBytes/\∀ y∈x.As,I64 y
 Aa:I64 x.Aa
 Al:I64 x.Al
structure A5 where
 name:BA
 kind:Int
 length:Int
 grade:Int
 speed:Int
 slow:Int
 A6:Int
deriving DecidableEq,Inhabited
def A5.enc (x:A5):D:=.agg [.str x.name,.int .i64 x.kind,.int .i64 x.length,.int .i64 x.grade,.int .i64 x.speed,.int .i64 x.slow,.int .i64 x.A6]
structure A5.Wf (x:A5):Prop where
 name:x.name.size<=reachBytes
 kind:I64 x.kind
 length:I64 x.length
 grade:I64 x.grade
 speed:I64 x.speed
 slow:I64 x.slow
 A6:I64 x.A6
structure Bc where
 a:End
 b:End
deriving DecidableEq,Inhabited
def Bc.enc (x:Bc):D:=.agg [.int .i64 x.a.el,.int .i64 x.a.side,.int .i64 x.b.el,.int .i64 x.b.side]
structure Bc.Wf (x:Bc):Prop where
 a:End.Wf x.a
 b:End.Wf x.b
structure A8 where
 name:BA
 atV:End
 overlap:Int
deriving DecidableEq,Inhabited
def A8.enc (x:A8):D:=.agg [.str x.name,.int .i64 x.atV.el,.int .i64 x.atV.side,.int .i64 x.overlap]
structure A8.Wf (x:A8):Prop where
 name:x.name.size<=reachBytes
 atV:End.Wf x.atV
 overlap:I64 x.overlap
structure Bb where
 id:Int
 el:Int
 offset:Int
deriving DecidableEq,Inhabited
def Bb.enc (x:Bb):D:=.agg [.int .i64 x.id,.int .i64 x.el,.int .i64 x.offset]
structure Bb.Wf (x:Bb):Prop where
 id:I64 x.id
 el:I64 x.el
 offset:I64 x.offset
structure Aw where
 name:BA
 Aa:(List BA)
 A0:(List A5)
 joints:(List Bc)
 Al:(List A8)
 balises:(List Bb)
deriving DecidableEq,Inhabited
def Aw.enc (x:Aw):D:=.agg [.str x.name,.sl 1 (x.Aa.map D.str),.sl 7 (x.A0.map A5.enc),.sl 4 (x.joints.map Bc.enc),.sl 4 (x.Al.map A8.enc),.sl 3 (x.balises.map Bb.enc)]
structure Aw.Wf (x:Aw):Prop where
 name:x.name.size<=reachBytes
 Aa:x.Aa.length<=reachBytes/\∀ y∈x.Aa,y.size<=reachBytes
 A0:x.A0.length<=reachBytes/\∀ y∈x.A0,A5.Wf y
 joints:x.joints.length<=reachBytes/\∀ y∈x.joints,Bc.Wf y
 Al:x.Al.length<=reachBytes/\∀ y∈x.Al,A8.Wf y
 balises:x.balises.length<=reachBytes/\∀ y∈x.balises,Bb.Wf y
structure Ba where
 a0:(List BA)
 a1:(List BA)
 a2:(List BA)
deriving DecidableEq,Inhabited
def Ba.enc (x:Ba):D:=.agg [.sl 1 (x.a0.map D.str),.sl 1 (x.a1.map D.str),.sl 1 (x.a2.map D.str)]
structure Ba.Wf (x:Ba):Prop where
 a0:x.a0.length<=reachBytes/\∀ y∈x.a0,y.size<=reachBytes
 a1:x.a1.length<=reachBytes/\∀ y∈x.a1,y.size<=reachBytes
 a2:x.a2.length<=reachBytes/\∀ y∈x.a2,y.size<=reachBytes
structure Bf where
 l:(List (List Ay))
deriving DecidableEq,Inhabited
structure Bf.Wf (x:Bf):Prop where
 l:x.l.length<=reachBytes/\∀ y∈x.l,y.length<=reachBytes/\∀ z∈y,Ay.Wf z
structure Ax where
 t:Am
 inputs:Int
 A1:(List Int)
 extra:Int
 count:Int
deriving DecidableEq,Inhabited
def Ax.enc (x:Ax):D:=.agg [.sl 14 (x.t.Ac.map Aj.enc),.sl 1 (x.t.Ae.map (D.int .i64)),.sl 1 (x.t.As.map (D.int .i64)),.int .i64 x.t.Aa,.int .i64 x.t.Al,.int .i64 x.inputs,.sl 1 (x.A1.map (D.int .i64)),.int .i64 x.extra,.int .i64 x.count]
structure Ax.Wf (x:Ax):Prop where
 t:Am.Wf x.t
 inputs:I64 x.inputs
 A1:x.A1.length<=reachBytes/\∀ y∈x.A1,I64 y
 extra:I64 x.extra
 count:I64 x.count
structure Ad where
 op:Int
 var:Int
 args:(List Ad)
instance:Inhabited Ad:=⟨⟨default,default,[]⟩⟩
mutual
def Ad.Aq:Ad->D
 | ⟨a0,a1,a2⟩=>.agg [.int .i64 a0,.int .i64 a1,.sl 3 (Ad.Bh a2)]
def Ad.Bh:List Ad->List D
 | []=>[]
 | e :: r=>Ad.Aq e :: Ad.Bh r
end
theorem Ad.encsR_map:∀ xs:List Ad,Ad.Bh xs=xs.map Ad.Aq
 | []=>by simp [Ad.Bh]
 | e :: r=>by simp [Ad.Bh,Ad.encsR_map r]
def Ad.enc (x:Ad):D:=.agg [.int .i64 x.op,.int .i64 x.var,.sl 3 (x.args.map Ad.Aq)]
theorem Ad.Ai (x:Ad):x.Aq=x.enc:=by cases x;simp [Ad.Aq,Ad.enc,Ad.encsR_map]
theorem Ad.Ak (x:Ad):x.Aq.cells.length=3:=by rw [Ad.Ai];rfl
mutual
def Ad.beq:Ad->Ad->Bool
 | ⟨a0,a1,a2⟩,⟨b0,b1,b2⟩=>decide (a0=b0)&&decide (a1=b1)&&Ad.beqs a2 b2
def Ad.beqs:List Ad->List Ad->Bool
 | [],[]=>true
 | x :: xs,y :: ys=>Ad.beq x y&&Ad.beqs xs ys
 | _,_=>false
end
mutual
theorem Ad.beq_iff:∀ a b:Ad,Ad.beq a b=true↔a=b
 | ⟨a0,a1,a2⟩,⟨b0,b1,b2⟩=>by simp [Ad.beq,Ad.beqs_iff a2 b2,and_assoc]
theorem Ad.beqs_iff:∀ a b:List Ad,Ad.beqs a b=true↔a=b
 | [],[]=>by simp [Ad.beqs]
 | [],_ :: _=>by simp [Ad.beqs]
 | _ :: _,[]=>by simp [Ad.beqs]
 | x :: xs,y :: ys=>by simp [Ad.beqs,Ad.beq_iff x y,Ad.beqs_iff xs ys]
end
instance:DecidableEq Ad:=λa b=>decidable_of_iff _ (Ad.beq_iff a b)
inductive Ad.Wf:Ad->Prop
 | mk (x:Ad) (h0:I64 x.op) (h1:I64 x.var) (h2:x.args.length<=reachBytes) (g2:∀ y∈x.args,Ad.Wf y):Ad.Wf x
structure At where
 kind:Int
 var:Int
 A9:Int
 expr:Ad
deriving DecidableEq,Inhabited
def At.enc (x:At):D:=.agg [.int .i64 x.kind,.int .i64 x.var,.int .i64 x.A9,.int .i64 x.expr.op,.int .i64 x.expr.var,.sl 3 (x.expr.args.map Ad.Aq)]
structure At.Wf (x:At):Prop where
 kind:I64 x.kind
 var:I64 x.var
 A9:I64 x.A9
 expr:Ad.Wf x.expr
structure Au where
 Ab:Ax
 An:(List At)
deriving DecidableEq,Inhabited
structure Au.Wf (x:Au):Prop where
 Ab:Ax.Wf x.Ab
 An:x.An.length<=reachBytes/\∀ y∈x.An,At.Wf y
structure Program where
 names:(List BA)
 inputs:Int
 An:(List At)
deriving DecidableEq,Inhabited
def Program.enc (x:Program):D:=.agg [.sl 1 (x.names.map D.str),.int .i64 x.inputs,.sl 6 (x.An.map At.enc)]
structure Program.Wf (x:Program):Prop where
 names:x.names.length<=reachBytes/\∀ y∈x.names,y.size<=reachBytes
 inputs:I64 x.inputs
 An:x.An.length<=reachBytes/\∀ y∈x.An,At.Wf y
structure Af where
 name:BA
 expr:Ad
deriving DecidableEq,Inhabited
def Af.enc (x:Af):D:=.agg [.str x.name,.int .i64 x.expr.op,.int .i64 x.expr.var,.sl 3 (x.expr.args.map Ad.Aq)]
structure Af.Wf (x:Af):Prop where
 name:x.name.size<=reachBytes
 expr:Ad.Wf x.expr
structure Av where
 Ap:Am
 vars:(List (BA×Int))
 list:(List Af)
deriving DecidableEq,Inhabited
structure Av.Wf (x:Av):Prop where
 Ap:Am.Wf x.Ap
 vars:True
 list:x.list.length<=reachBytes/\∀ y∈x.list,Af.Wf y
structure Bl where
 a0:BA
 a1:BA
 a2:BA
 a3:BA
deriving DecidableEq,Inhabited
structure Bl.Wf (x:Bl):Prop where
 a0:x.a0.size<=reachBytes
 a1:x.a1.size<=reachBytes
 a2:x.a2.size<=reachBytes
 a3:x.a3.size<=reachBytes
structure Bd where
 tid:Nat
 e:Ad
deriving DecidableEq,Inhabited
def Bd.enc (x:Bd):D:=.iface x.tid (.agg [.ptr x.e.enc 0])
structure Machine where
 vars:(List Bool)
 counts:(List Int)
 halted:Bool
deriving DecidableEq,Inhabited
def Machine.enc (x:Machine):D:=.agg [.sl 1 (x.vars.map D.bool),.sl 1 (x.counts.map (D.int .i64)),.bool x.halted]
structure Machine.Wf (x:Machine):Prop where
 vars:x.vars.length<=reachBytes/\∀ y∈x.vars,True
 counts:x.counts.length<=reachBytes/\∀ y∈x.counts,I64 y
 halted:True
structure Be where
 Ae:Int
 Ac:Int
 lies:Int
 aux:Int
 all:Int
 states:(List Int)
deriving DecidableEq,Inhabited
def Be.enc (x:Be):D:=.agg [.int .i64 x.Ae,.int .i64 x.Ac,.int .i64 x.lies,.int .i64 x.aux,.int .i64 x.all,.sl 1 (x.states.map (D.int .i64))]
structure Be.Wf (x:Be):Prop where
 Ae:I64 x.Ae
 Ac:I64 x.Ac
 lies:I64 x.lies
 aux:I64 x.aux
 all:I64 x.all
 states:x.states.length<=reachBytes/\∀ y∈x.states,I64 y
structure Ao where
 t:Am
 p:Be
 An:(List At)
deriving DecidableEq,Inhabited
structure Ao.Wf (x:Ao):Prop where
 t:Am.Wf x.t
 p:Be.Wf x.p
 An:x.An.length<=reachBytes/\∀ y∈x.An,At.Wf y
structure Bn where
 machine:Machine
 inputs:(List Bool)
deriving DecidableEq,Inhabited
structure Bn.Wf (x:Bn):Prop where
 machine:Machine.Wf x.machine
 inputs:x.inputs.length<=reachBytes/\∀ y∈x.inputs,True
structure Bg where
 occupied:(List Bool)
 detected:(List Int)
 closed:(List Bool)
 claimed:(List Bool)
 passed:(List Bool)
 calls:(List Int)
 cancels:(List Int)
deriving DecidableEq,Inhabited
structure Bg.Wf (x:Bg):Prop where
 occupied:x.occupied.length<=reachBytes/\∀ y∈x.occupied,True
 detected:x.detected.length<=reachBytes/\∀ y∈x.detected,I64 y
 closed:x.closed.length<=reachBytes/\∀ y∈x.closed,True
 claimed:x.claimed.length<=reachBytes/\∀ y∈x.claimed,True
 passed:x.passed.length<=reachBytes/\∀ y∈x.passed,True
 calls:x.calls.length<=reachBytes/\∀ y∈x.calls,I64 y
 cancels:x.cancels.length<=reachBytes/\∀ y∈x.cancels,I64 y
def End.ok (x:End):Prop:=I64 x.el/\I64 x.side
instance (x:End):Decidable (End.ok x):=by unfold End.ok;infer_instance
theorem zDX (x y:End):([.int .i64 x.el,.int .i64 x.side]:List Lit)=[.int .i64 y.el,.int .i64 y.side]↔decide (x=y)=true:=by
 rw [decide_eq_true_eq]
 obtain⟨_,_⟩:=x
 obtain⟨_,_⟩:=y
 simp [End.mk.injEq,qLU,and_assoc]
def Ag.ok (x:Ag):Prop:=I64 x.el/\I64 x.pos
instance (x:Ag):Decidable (Ag.ok x):=by unfold Ag.ok;infer_instance
theorem qFL (x y:Ag):([.int .i64 x.el,.int .i64 x.pos]:List Lit)=[.int .i64 y.el,.int .i64 y.pos]↔decide (x=y)=true:=by
 rw [decide_eq_true_eq]
 obtain⟨_,_⟩:=x
 obtain⟨_,_⟩:=y
 simp [Ag.mk.injEq,qLU,and_assoc]
noncomputable abbrev TP := Tryz.prog
def cb_l:List Nat:=[3,9,10,11,12,13,14,15,16,17,18,21,23,26,28,31,32,33,34,35,36,37,38,39,40,41,42,43,44,45,46,47,48,49,50,51,52,53,54,55,56,57,59,63,64,65,66,67,68,69,70,71,72,73,74,75,76,77,78,79,80,81,82,83,84,85,86,87,88,89,90,91,92,93,94,95,96,97,98,99,100,101,102,103,104,105,106,107,108,109,110,111,112,113,114,115,116,117,118,119,120,121,122,123,125,126,127,131,132,133,134,135,136,137,138,139,140,141,142,143,144,145,146,147,148,149,150,151,152,153,154,155,156,157,158,159,160,161,162,163,164,165,166,167,168,169,170,171,172,173,174,175,176,177,178,179,180,181,182,183,184,185,186,187,188,189,190,191,192,194,195,202,203,204,206,207,208,209,210,211,212,213,214,215,217,220,221,222,223,224,225,226,227,228,229,230,231,232,234,235,247]
theorem cb_all:cb_l.all (uZ TP)=true:=by kernel_rfl
theorem bA {F:Nat} (h:cb_l.elem F=true):uZ TP F=true:=zQT.1 cb_all F (List.elem_iff.1 h)
theorem follows:TP.follows .mixedOrders=true:=by kernel_rfl
theorem own:ownKnob TP.godebug=none:=by kernel_rfl
theorem zFO:laidOutB TP=true:=by kernel_rfl
def tab:Tab where
 lay:=[(3,false,1),(4,false,1),(9,false,1),(22,false,1),(23,false,1),(25,true,5),(29,false,1),(34,true,6),(36,false,1),(38,false,1),(40,true,3),(42,true,4),(47,true,3),(51,false,1),(52,false,1),(54,true,3),(64,true,6),(66,false,1),(67,false,1),(68,false,1),(69,false,1),(71,true,6),(80,true,7),(84,false,1),(85,false,1),(86,false,1),(88,true,14),(91,false,1),(93,true,7),(98,false,1),(123,true,7),(125,true,2),(127,true,4),(129,true,4),(131,true,9),(135,true,10),(148,true,2),(153,true,4),(158,false,1),(177,true,3),(185,false,1),(200,true,1),(201,true,1),(202,true,1),(203,true,1),(205,false,1),(233,true,3)]
 fs:=[(25,[(0,false,1),(1,false,1),(2,false,1),(3,false,1),(4,false,1)]),(34,[(0,false,1),(1,false,1),(2,false,1),(3,false,1),(4,false,1),(5,false,1)]),(40,[(0,false,1),(1,false,1),(2,false,1)]),(42,[(0,false,1),(1,true,3)]),(47,[(0,false,1),(1,false,1),(2,false,1)]),(54,[(0,false,1),(1,false,1),(2,false,1)]),(60,[(0,true,3),(3,false,1)]),(64,[(0,false,1),(1,false,1),(2,false,1),(3,true,3)]),(71,[(0,false,1),(1,false,1),(2,false,1),(3,false,1),(4,false,1),(5,false,1)]),(80,[(0,false,1),(1,false,1),(2,false,1),(3,false,1),(4,false,1),(5,false,1),(6,false,1)]),(88,[(0,false,1),(1,false,1),(2,false,1),(3,false,1),(4,false,1),(5,false,1),(6,false,1),(7,false,1),(8,false,1),(9,false,1),(10,false,1),(11,false,1),(12,false,1),(13,false,1)]),(93,[(0,true,5),(5,false,1),(6,false,1)]),(111,[(0,true,5),(5,true,6),(11,false,1)]),(123,[(0,false,1),(1,false,1),(2,false,1),(3,false,1),(4,false,1),(5,false,1),(6,false,1)]),(125,[(0,false,1),(1,false,1)]),(127,[(0,true,2),(2,true,2)]),(129,[(0,false,1),(1,true,2),(3,false,1)]),(131,[(0,true,5),(5,false,1),(6,false,1),(7,false,1),(8,false,1)]),(135,[(0,true,9),(9,false,1)]),(148,[(0,false,1),(1,false,1)]),(177,[(0,false,1),(1,false,1),(2,false,1)]),(200,[(0,false,1)]),(201,[(0,false,1)]),(202,[(0,false,1)]),(203,[(0,false,1)]),(207,[(0,false,1)])]
 sel:=[(22,88,14,264),(23,3,1,8),(26,98,1,8),(29,42,4,56),(36,4,1,1),(38,40,3,40),(51,9,1,16),(52,64,6,64),(66,123,7,64),(67,127,4,32),(68,129,4,40),(69,242,3,24),(72,80,7,168),(84,177,3,24),(85,148,2,16),(86,125,2,16),(193,23,1,24),(205,84,1,24),(225,85,1,24)]
 str:=[(9,())]
 boo:=[(4,())]
 con:=[(200,()),(201,()),(202,()),(203,())]
theorem TK:TabOk TP tab:=zEG (by kernel_rfl)
section
variable {n k:Nat} {w:World} {g:Gh} {mv:Nat->Bool} {x y:Code} {ops ops':Array Oper} {l l':List Oper} {e e':Exit} {fr fr':Fr} {hp hp':List Blk} {ks kt:List Kt} {Q:Exit->St->Prop}
theorem bK (j:Nat) (h:run tab n j (.kc x fr hp [])=.kc y fr' hp' kt) (hk:TWp ⟨TP,n,w,k,g,mv⟩ y ⟨fr',hp'⟩ (post ⟨TP,n,w,k,g,mv⟩ kt Q)):TWp ⟨TP,n,w,k,g,mv⟩ x ⟨fr,hp⟩ Q:=vB (C:=⟨TP,n,w,k,g,mv⟩) (Q:=Q) (m:=.kc x fr hp []) TK h hk
theorem aP (j:Nat) (h:run tab n j (.kc x fr hp [])=.ko ops' l' fr' hp' kt) (hk:eF ⟨TP,n,w,k,g,mv⟩ ops' l' ⟨fr',hp'⟩ (pn ⟨TP,n,w,k,g,mv⟩ kt Q)):TWp ⟨TP,n,w,k,g,mv⟩ x ⟨fr,hp⟩ Q:=vB (C:=⟨TP,n,w,k,g,mv⟩) (Q:=Q) (m:=.kc x fr hp []) TK h hk
theorem r_px (j:Nat) (h:run tab n j (.kc x fr hp [])=.kx e' fr' hp' kt) (hk:post ⟨TP,n,w,k,g,mv⟩ kt Q e' ⟨fr',hp'⟩):TWp ⟨TP,n,w,k,g,mv⟩ x ⟨fr,hp⟩ Q:=vB (C:=⟨TP,n,w,k,g,mv⟩) (Q:=Q) (m:=.kc x fr hp []) TK h hk
theorem cR (j:Nat) (h:run tab n j (.kc x fr hp ks)=.kc y fr' hp' kt) (hk:TWp ⟨TP,n,w,k,g,mv⟩ y ⟨fr',hp'⟩ (post ⟨TP,n,w,k,g,mv⟩ kt Q)):TWp ⟨TP,n,w,k,g,mv⟩ x ⟨fr,hp⟩ (post ⟨TP,n,w,k,g,mv⟩ ks Q):=vB (C:=⟨TP,n,w,k,g,mv⟩) (Q:=Q) (m:=.kc x fr hp ks) TK h hk
theorem aM (j:Nat) (h:run tab n j (.kc x fr hp ks)=.ko ops' l' fr' hp' kt) (hk:eF ⟨TP,n,w,k,g,mv⟩ ops' l' ⟨fr',hp'⟩ (pn ⟨TP,n,w,k,g,mv⟩ kt Q)):TWp ⟨TP,n,w,k,g,mv⟩ x ⟨fr,hp⟩ (post ⟨TP,n,w,k,g,mv⟩ ks Q):=vB (C:=⟨TP,n,w,k,g,mv⟩) (Q:=Q) (m:=.kc x fr hp ks) TK h hk
theorem aQ (j:Nat) (h:run tab n j (.kc x fr hp ks)=.kx e' fr' hp' kt) (hk:post ⟨TP,n,w,k,g,mv⟩ kt Q e' ⟨fr',hp'⟩):TWp ⟨TP,n,w,k,g,mv⟩ x ⟨fr,hp⟩ (post ⟨TP,n,w,k,g,mv⟩ ks Q):=vB (C:=⟨TP,n,w,k,g,mv⟩) (Q:=Q) (m:=.kc x fr hp ks) TK h hk
theorem aG (j:Nat) (h:run tab n j (.ko ops l fr hp ks)=.kc y fr' hp' kt) (hk:TWp ⟨TP,n,w,k,g,mv⟩ y ⟨fr',hp'⟩ (post ⟨TP,n,w,k,g,mv⟩ kt Q)):eF ⟨TP,n,w,k,g,mv⟩ ops l ⟨fr,hp⟩ (pn ⟨TP,n,w,k,g,mv⟩ ks Q):=vB (C:=⟨TP,n,w,k,g,mv⟩) (Q:=Q) (m:=.ko ops l fr hp ks) TK h hk
theorem aH (j:Nat) (h:run tab n j (.ko ops l fr hp ks)=.ko ops' l' fr' hp' kt) (hk:eF ⟨TP,n,w,k,g,mv⟩ ops' l' ⟨fr',hp'⟩ (pn ⟨TP,n,w,k,g,mv⟩ kt Q)):eF ⟨TP,n,w,k,g,mv⟩ ops l ⟨fr,hp⟩ (pn ⟨TP,n,w,k,g,mv⟩ ks Q):=vB (C:=⟨TP,n,w,k,g,mv⟩) (Q:=Q) (m:=.ko ops l fr hp ks) TK h hk
theorem aI (j:Nat) (h:run tab n j (.ko ops l fr hp ks)=.kx e' fr' hp' kt) (hk:post ⟨TP,n,w,k,g,mv⟩ kt Q e' ⟨fr',hp'⟩):eF ⟨TP,n,w,k,g,mv⟩ ops l ⟨fr,hp⟩ (pn ⟨TP,n,w,k,g,mv⟩ ks Q):=vB (C:=⟨TP,n,w,k,g,mv⟩) (Q:=Q) (m:=.ko ops l fr hp ks) TK h hk
theorem bP (j:Nat) (h:run tab n j (.kx e fr hp ks)=.kx e' fr' hp' kt) (hk:post ⟨TP,n,w,k,g,mv⟩ kt Q e' ⟨fr',hp'⟩):post ⟨TP,n,w,k,g,mv⟩ ks Q e ⟨fr,hp⟩:=vB (C:=⟨TP,n,w,k,g,mv⟩) (Q:=Q) (m:=.kx e fr hp ks) TK h hk
end
theorem oK:qUR TP 233=some (3,1):=by kernel_rfl
theorem qYR:qUR TP 247=some (24,1):=by kernel_rfl
theorem qYJ:qHD TP 200=true:=by kernel_rfl
theorem qYI:qHD TP 201=true:=by kernel_rfl
theorem qYH:qHD TP 202=true:=by kernel_rfl
theorem qYG:qHD TP 203=true:=by kernel_rfl
theorem zFP:(TP.keyTypeAt 30 125&&!TP.eqGuardType TP.depth 125&&(match TP.underlying 125 with|some (.struct _)=>true|_=>false)&&[TypeDesc.int .i64,TypeDesc.int .i64].length == TP.cellsOf 125)=true:=by kernel_rfl
theorem qXZ:(TP.keyTypeAt 30 148&&!TP.eqGuardType TP.depth 148&&(match TP.underlying 148 with|some (.struct _)=>true|_=>false)&&[TypeDesc.int .i64,TypeDesc.int .i64].length == TP.cellsOf 148)=true:=by kernel_rfl
theorem zCW:qCO TP 30 125=some [.int .i64,.int .i64]:=by kernel_rfl
theorem qTP:qCO TP 30 148=some [.int .i64,.int .i64]:=by kernel_rfl
theorem zHM:lay TP 23=some (false,1):=by kernel_rfl
theorem zHL:lay TP 85=some (false,1):=by kernel_rfl
theorem lay9:lay TP 9=some (false,1):=by kernel_rfl
theorem zCR:mty TP 222=some (9,.string,4):=by kernel_rfl
theorem zHH:mty TP 91=some (9,.string,3):=by kernel_rfl
theorem plc111:plc TP 111=some [(0,5),(5,6),(11,1)]:=by kernel_rfl
theorem plc123:plc TP 123=some [(0,1),(1,1),(2,1),(3,1),(4,1),(5,1),(6,1)]:=by kernel_rfl
theorem xY:plc TP 125=some [(0,1),(1,1)]:=by kernel_rfl
theorem zCG:plc TP 127=some [(0,2),(2,2)]:=by kernel_rfl
theorem qVV:plc TP 129=some [(0,1),(1,2),(3,1)]:=by kernel_rfl
theorem qVU:plc TP 131=some [(0,5),(5,1),(6,1),(7,1),(8,1)]:=by kernel_rfl
theorem plc135:plc TP 135=some [(0,9),(9,1)]:=by kernel_rfl
theorem qVT:plc TP 148=some [(0,1),(1,1)]:=by kernel_rfl
theorem plc177:plc TP 177=some [(0,1),(1,1),(2,1)]:=by kernel_rfl
theorem plc200:plc TP 200=some [(0,1)]:=by kernel_rfl
theorem plc201:plc TP 201=some [(0,1)]:=by kernel_rfl
theorem plc202:plc TP 202=some [(0,1)]:=by kernel_rfl
theorem plc203:plc TP 203=some [(0,1)]:=by kernel_rfl
theorem plc207:plc TP 207=some [(0,1)]:=by kernel_rfl
theorem plc25:plc TP 25=some [(0,1),(1,1),(2,1),(3,1),(4,1)]:=by kernel_rfl
theorem plc34:plc TP 34=some [(0,1),(1,1),(2,1),(3,1),(4,1),(5,1)]:=by kernel_rfl
theorem nZ:plc TP 40=some [(0,1),(1,1),(2,1)]:=by kernel_rfl
theorem qKP:plc TP 42=some [(0,1),(1,3)]:=by kernel_rfl
theorem plc47:plc TP 47=some [(0,1),(1,1),(2,1)]:=by kernel_rfl
theorem qOD:plc TP 54=some [(0,1),(1,1),(2,1)]:=by kernel_rfl
theorem qHO:plc TP 64=some [(0,1),(1,1),(2,1),(3,3)]:=by kernel_rfl
theorem plc71:plc TP 71=some [(0,1),(1,1),(2,1),(3,1),(4,1),(5,1)]:=by kernel_rfl
theorem plc88:plc TP 88=some [(0,1),(1,1),(2,1),(3,1),(4,1),(5,1),(6,1),(7,1),(8,1),(9,1),(10,1),(11,1),(12,1),(13,1)]:=by kernel_rfl
theorem plc93:plc TP 93=some [(0,5),(5,1),(6,1)]:=by kernel_rfl
theorem qFR:sel TP 193=some (23,1,24):=by kernel_rfl
theorem qFQ:sel TP 225=some (85,1,24):=by kernel_rfl
theorem qCE:sel TP 23=some (3,1,8):=by kernel_rfl
theorem qCD:sel TP 85=some (148,2,16):=by kernel_rfl
theorem zEB:(TP.info? 111).bind (·.zero)=Option.some (Go.Value.agg #[Go.Value.slice Option.none 0 0,Go.Value.slice Option.none 0 0,Go.Value.slice Option.none 0 0,Go.Value.int Go.IntKind.i64 0,Go.Value.int Go.IntKind.i64 0,Go.Value.int Go.IntKind.i64 0,Go.Value.int Go.IntKind.i64 0,Go.Value.int Go.IntKind.i64 0,Go.Value.int Go.IntKind.i64 0,Go.Value.int Go.IntKind.i64 0,Go.Value.slice Option.none 0 0,Go.Value.slice Option.none 0 0]):=by kernel_rfl
theorem xF:(TP.info? 123).bind (·.zero)=Option.some (Go.Value.agg #[Go.Value.string { data:=#[] },Go.Value.int Go.IntKind.i64 0,Go.Value.int Go.IntKind.i64 0,Go.Value.int Go.IntKind.i64 0,Go.Value.int Go.IntKind.i64 0,Go.Value.int Go.IntKind.i64 0,Go.Value.int Go.IntKind.i64 0]):=by kernel_rfl
theorem jK:(TP.info? 125).bind (·.zero)=Option.some (Go.Value.agg #[Go.Value.int Go.IntKind.i64 0,Go.Value.int Go.IntKind.i64 0]):=by kernel_rfl
theorem qDT:(TP.info? 127).bind (·.zero)=Option.some (Go.Value.agg #[Go.Value.int Go.IntKind.i64 0,Go.Value.int Go.IntKind.i64 0,Go.Value.int Go.IntKind.i64 0,Go.Value.int Go.IntKind.i64 0]):=by kernel_rfl
theorem sC:(TP.info? 129).bind (·.zero)=Option.some (Go.Value.agg #[Go.Value.string { data:=#[] },Go.Value.int Go.IntKind.i64 0,Go.Value.int Go.IntKind.i64 0,Go.Value.int Go.IntKind.i64 0]):=by kernel_rfl
theorem qAW:(TP.info? 131).bind (·.zero)=Option.some (Go.Value.agg #[Go.Value.slice Option.none 0 0,Go.Value.slice Option.none 0 0,Go.Value.slice Option.none 0 0,Go.Value.int Go.IntKind.i64 0,Go.Value.int Go.IntKind.i64 0,Go.Value.int Go.IntKind.i64 0,Go.Value.slice Option.none 0 0,Go.Value.int Go.IntKind.i64 0,Go.Value.int Go.IntKind.i64 0]):=by kernel_rfl
theorem qXA:(TP.info? 135).bind (·.zero)=Option.some (Go.Value.agg #[Go.Value.slice Option.none 0 0,Go.Value.slice Option.none 0 0,Go.Value.slice Option.none 0 0,Go.Value.int Go.IntKind.i64 0,Go.Value.int Go.IntKind.i64 0,Go.Value.int Go.IntKind.i64 0,Go.Value.slice Option.none 0 0,Go.Value.int Go.IntKind.i64 0,Go.Value.int Go.IntKind.i64 0,Go.Value.slice Option.none 0 0]):=by kernel_rfl
theorem fT:(TP.info? 148).bind (·.zero)=Option.some (Go.Value.agg #[Go.Value.int Go.IntKind.i64 0,Go.Value.int Go.IntKind.i64 0]):=by kernel_rfl
theorem qWZ:(TP.info? 153).bind (·.zero)=Option.some (Go.Value.agg #[Go.Value.string { data:=#[] },Go.Value.string { data:=#[] },Go.Value.string { data:=#[] },Go.Value.string { data:=#[] }]):=by kernel_rfl
theorem qAV:(TP.info? 177).bind (·.zero)=Option.some (Go.Value.agg #[Go.Value.int Go.IntKind.i64 0,Go.Value.int Go.IntKind.i64 0,Go.Value.int Go.IntKind.i64 0]):=by kernel_rfl
theorem qPA:(TP.info? 200).bind (·.zero)=Option.some (Go.Value.agg #[Go.Value.pointer Option.none]):=by kernel_rfl
theorem qOZ:(TP.info? 201).bind (·.zero)=Option.some (Go.Value.agg #[Go.Value.pointer Option.none]):=by kernel_rfl
theorem qOY:(TP.info? 202).bind (·.zero)=Option.some (Go.Value.agg #[Go.Value.pointer Option.none]):=by kernel_rfl
theorem qOX:(TP.info? 203).bind (·.zero)=Option.some (Go.Value.agg #[Go.Value.pointer Option.none]):=by kernel_rfl
theorem zEA:(TP.info? 207).bind (·.zero)=Option.some (Go.Value.agg #[Go.Value.slice Option.none 0 0]):=by kernel_rfl
theorem qJH:(TP.info? 23).bind (·.zero)=Option.some (Go.Value.slice Option.none 0 0):=by kernel_rfl
theorem qIM:(TP.info? 233).bind (·.zero)=Option.some (Go.Value.agg #[Go.Value.slice Option.none 0 0,Go.Value.slice Option.none 0 0,Go.Value.slice Option.none 0 0]):=by kernel_rfl
theorem zDZ:(TP.info? 247).bind (·.zero)=Option.some (Go.Value.agg #[Go.Value.bool Bool.false,Go.Value.bool Bool.false,Go.Value.bool Bool.false,Go.Value.bool Bool.false,Go.Value.bool Bool.false,Go.Value.bool Bool.false,Go.Value.bool Bool.false,Go.Value.bool Bool.false,Go.Value.bool Bool.false,Go.Value.bool Bool.false,Go.Value.bool Bool.false,Go.Value.bool Bool.false,Go.Value.bool Bool.false,Go.Value.bool Bool.false,Go.Value.bool Bool.false,Go.Value.bool Bool.false,Go.Value.bool Bool.false,Go.Value.bool Bool.false,Go.Value.bool Bool.false,Go.Value.bool Bool.false,Go.Value.bool Bool.false,Go.Value.bool Bool.false,Go.Value.bool Bool.false,Go.Value.bool Bool.false]):=by kernel_rfl
theorem qOW:(TP.info? 25).bind (·.zero)=Option.some (Go.Value.agg #[Go.Value.slice Option.none 0 0,Go.Value.slice Option.none 0 0,Go.Value.slice Option.none 0 0,Go.Value.int Go.IntKind.i64 0,Go.Value.int Go.IntKind.i64 0]):=by kernel_rfl
theorem gR:(TP.info? 3).bind (·.zero)=Option.some (Go.Value.int Go.IntKind.i64 0):=by kernel_rfl
theorem qUX:(TP.info? 34).bind (·.zero)=Option.some (Go.Value.agg #[Go.Value.int Go.IntKind.i64 0,Go.Value.int Go.IntKind.i64 0,Go.Value.int Go.IntKind.i64 0,Go.Value.int Go.IntKind.i64 0,Go.Value.int Go.IntKind.i64 0,Go.Value.slice Option.none 0 0]):=by kernel_rfl
theorem qJG:(TP.info? 4).bind (·.zero)=Option.some (Go.Value.bool Bool.false):=by kernel_rfl
theorem aJ:(TP.info? 40).bind (·.zero)=Option.some (Go.Value.agg #[Go.Value.int Go.IntKind.i64 0,Go.Value.int Go.IntKind.i64 0,Go.Value.slice Option.none 0 0]):=by kernel_rfl
theorem kV:(TP.info? 42).bind (·.zero)=Option.some (Go.Value.agg #[Go.Value.string { data:=#[] },Go.Value.int Go.IntKind.i64 0,Go.Value.int Go.IntKind.i64 0,Go.Value.slice Option.none 0 0]):=by kernel_rfl
theorem zero47:(TP.info? 47).bind (·.zero)=Option.some (Go.Value.agg #[Go.Value.slice Option.none 0 0,Go.Value.slice Option.none 0 0,Go.Value.bool Bool.false]):=by kernel_rfl
theorem zero51:(TP.info? 51).bind (·.zero)=Option.some (Go.Value.slice Option.none 0 0):=by kernel_rfl
theorem sR:(TP.info? 54).bind (·.zero)=Option.some (Go.Value.agg #[Go.Value.slice Option.none 0 0,Go.Value.int Go.IntKind.i64 0,Go.Value.slice Option.none 0 0]):=by kernel_rfl
theorem iK:(TP.info? 64).bind (·.zero)=Option.some (Go.Value.agg #[Go.Value.int Go.IntKind.i64 0,Go.Value.int Go.IntKind.i64 0,Go.Value.int Go.IntKind.i64 0,Go.Value.int Go.IntKind.i64 0,Go.Value.int Go.IntKind.i64 0,Go.Value.slice Option.none 0 0]):=by kernel_rfl
theorem qUW:(TP.info? 71).bind (·.zero)=Option.some (Go.Value.agg #[Go.Value.string { data:=#[] },Go.Value.slice Option.none 0 0,Go.Value.slice Option.none 0 0,Go.Value.slice Option.none 0 0,Go.Value.slice Option.none 0 0,Go.Value.slice Option.none 0 0]):=by kernel_rfl
theorem zAS:(TP.info? 84).bind (·.zero)=Option.some (Go.Value.slice Option.none 0 0):=by kernel_rfl
theorem zero85:(TP.info? 85).bind (·.zero)=Option.some (Go.Value.slice Option.none 0 0):=by kernel_rfl
theorem fL:(TP.info? 88).bind (·.zero)=Option.some (Go.Value.agg #[Go.Value.string { data:=#[] },Go.Value.int Go.IntKind.i64 0,Go.Value.int Go.IntKind.i64 0,Go.Value.slice Option.none 0 0,Go.Value.slice Option.none 0 0,Go.Value.slice Option.none 0 0,Go.Value.int Go.IntKind.i64 0,Go.Value.int Go.IntKind.i64 0,Go.Value.slice Option.none 0 0,Go.Value.slice Option.none 0 0,Go.Value.slice Option.none 0 0,Go.Value.slice Option.none 0 0,Go.Value.slice Option.none 0 0,Go.Value.slice Option.none 0 0]):=by kernel_rfl
theorem eQ:(TP.info? 9).bind (·.zero)=Option.some (Go.Value.string { data:=#[] }):=by kernel_rfl
theorem zAR:(TP.info? 93).bind (·.zero)=Option.some (Go.Value.agg #[Go.Value.slice Option.none 0 0,Go.Value.slice Option.none 0 0,Go.Value.slice Option.none 0 0,Go.Value.int Go.IntKind.i64 0,Go.Value.int Go.IntKind.i64 0,Go.Value.map Option.none,Go.Value.slice Option.none 0 0]):=by kernel_rfl
theorem zFA:qZP TP 153=some [(0,1),(1,1),(2,1),(3,1)]:=by kernel_rfl
theorem zEZ:qZP TP 233=some [(0,1),(1,1),(2,1)]:=by kernel_rfl
theorem qVP {C:Ctx} {o:Oper} {ev:Operand->AV} {hp:List Blk} {t:TypeId} {parts:Array (Nat×Operand)} {z:Value} {zc cs:List AV} {pl:List (Nat×Nat)} {v:AV} (ho:o.op=.build t parts) (hpl:qZP C.P t=some pl) (hz:(C.P.info? t).bind (·.zero)=some z) (hzf:(fU z).flat=true) (hzc:(fU z).cells=zc)
  (hf:qLL pl zc (parts.toList.map λp=>(p.1,ev p.2))=some cs) (hv:uU cs=v):RdOk C o ev hp v:=
 RdOk.mk λst hhp hag g a w hs=>by
  rw [<- hv];subst hzc;have hz':=kQ w g z;have hpz:=(hz'.pw hzf).1
  have hparts:Pw (λ(x:Nat×AV) (y:Nat×Value)=>x.1=y.1/\ARep w g x.2 y.2) (parts.toList.map λp=>(p.1,ev p.2)) (parts.map λp=>(p.1,a.eval p.2)).toList:=by
   refine⟨by simp,λi x y hx hy=>?_⟩;simp only [zQP,zQO,Array.toList_map] at hx hy;obtain⟨p,hp,rfl⟩:=hx;obtain⟨q,hq,rfl⟩:=hy;rw [hp] at hq;cases hq;refine⟨rfl,?_⟩;have:=hs.ev p.2
   rw [hag p.2 (by
    simp only [ho, Op.operands];have := zQM hp
    first | exact Array.mem_map.2 ⟨p, Array.mem_toList_iff.1 this, rfl⟩ | (simp only [List.mem_toArray, List.mem_map]; exact ⟨p, this, rfl⟩))] at this
   exact this
  unfold qZP at hpl;split at hpl
  ·rename_i n e hu;obtain⟨inf,hinf,hpl⟩:=zQO.1 hpl;obtain⟨cells',h1,h2⟩:=qEZ pl.toArray _ _ _ _ z.cells hparts hpz (by simpa using hf);refine⟨.agg cells',?_,sN (by have:=h2.1;simpa using this) λi c v hc hv=>h2.2 i c v hc (by simpa using hv)⟩;obtain⟨infz,hinfz,hzz⟩:=Option.bind_eq_some_iff.1 hz;have hzv:(zeroValue t).run C.P w=.ok z w:=by simp [zeroValue,typeInfo,hinfz,hzz]
   have hsz:(sizeOf e).run C.P w=.ok inf.size w:=by simp [sizeOf,typeInfo,hinf]
   have h1':Instr.fill (λi=>some (i * inf.size,inf.size)) z.cells (parts.map λp=>(p.1,a.eval p.2)).toList=some cells':=by
    refine qQT ?_ _ _ _ h1;intro i x hx;subst hpl;simp only [List.getElem?_toArray,zQP,zQO] at hx;obtain⟨k,hk,rfl⟩:=hx;have:=(zQQ.1 hk).2;simp at this;rw [this]
   have hb:(Instr.build t (parts.map λp=>(p.1,a.eval p.2))).run C.P w=.ok (.agg cells') w:=by
    unfold Instr.build;rw [Sem.run_bind,hzv,Result.andThen_ok,Sem.run_bind,run_underlying hu,Result.andThen_ok];simp only;rw [Sem.run_bind,hsz,Result.andThen_ok];simp only [h1',Sem.run_pure]
   simp only [execOp,ho];simp only [Sem.run_bind];have hb':(Instr.build t (parts.map λx=>(x.1,a.eval x.2))).run C.P w=.ok (.agg cells') w:=hb;rw [hb'];rfl
  cases hpl
theorem qMF {w:World} {n k:Nat} {g:Gh} {mv:Nat->Bool} {o:Oper} {ev:Operand->AV} {hp:List Blk} {a b:Operand} {t':TypeId} {x y:End} (ho:o.op=.binOp .eql 125 a b t') (hx:ev a=.d x.enc) (hy:ev b=.d y.enc) (h1:x.ok) (h2:y.ok):RdOk ⟨TP,n,w,k,g,mv⟩ o ev hp (.d (.bool (decide (x=y)))):=
 zDB ho hx hy zCW zFP rfl rfl ⟨⟨rfl,h1.1⟩,⟨rfl,h1.2⟩,trivial⟩ ⟨⟨rfl,h2.1⟩,⟨rfl,h2.2⟩,trivial⟩ (zDX x y)
theorem qDS {w:World} {n k:Nat} {g:Gh} {mv:Nat->Bool} {o:Oper} {ev:Operand->AV} {hp:List Blk} {a b:Operand} {t':TypeId} {x y:Ag} (ho:o.op=.binOp .eql 148 a b t') (hx:ev a=.d x.enc) (hy:ev b=.d y.enc) (h1:x.ok) (h2:y.ok):RdOk ⟨TP,n,w,k,g,mv⟩ o ev hp (.d (.bool (decide (x=y)))):=
 zDB ho hx hy qTP qXZ rfl rfl ⟨⟨rfl,h1.1⟩,⟨rfl,h1.2⟩,trivial⟩ ⟨⟨rfl,h2.1⟩,⟨rfl,h2.2⟩,trivial⟩ (qFL x y)
theorem qWW {w:World} {n k:Nat} {g:Gh} {mv:Nat->Bool} {o:Oper} {ev:Operand->AV} {hp:List Blk} {a b:Operand} {t':TypeId} {x y:Ag} (ho:o.op=.binOp .neq 148 a b t') (hx:ev a=.d x.enc) (hy:ev b=.d y.enc) (h1:x.ok) (h2:y.ok):RdOk ⟨TP,n,w,k,g,mv⟩ o ev hp (.d (.bool (!decide (x=y)))):=
 eq_not ho hx hy qTP qXZ rfl rfl ⟨⟨rfl,h1.1⟩,⟨rfl,h1.2⟩,trivial⟩ ⟨⟨rfl,h2.1⟩,⟨rfl,h2.2⟩,trivial⟩ (qFL x y)
theorem HasTy.fld {P:Go.Program} {cs:List D} {fs:Array Field} (h2:∀ (i:Nat) (f:Field),fs[i]?=some f->HasTy P f.type ((cs.drop f.offset).take (P.cellsOf f.type))) {i off n:Nat} {f:Field} {t:TypeId} (hf:fs[i]?=some f) (ht:f.type=t) (ho:f.offset=off) (hc:P.cellsOf t=n):HasTy P t ((cs.drop off).take n):=by
 have:=h2 i f hf;rw [ht,ho,hc] at this;exact this
theorem ty3 (cs:List D) (h:HasTy TP 3 cs):∃ x:Int,I64 x/\cN TP 3 cs=(D.int .i64) x:=by
 obtain⟨x,rfl,w⟩:=h.int_inv Tryz.underlying3;exact⟨x,w,by simp [cN,Tryz.underlying3]⟩
theorem qLT:TP.cellsOf 177=3:=by kernel_rfl
theorem nA:TP.cellsOf 3=1:=by kernel_rfl
theorem zFN {cs:List D} (h:cs.length=3):∃ a0 a1 a2,cs=[a0,a1,a2]:=by
 match cs,h with
 | [a0,a1,a2],_=>exact⟨a0,a1,a2,rfl⟩
theorem ty177c (cs:List D) (h:HasTy TP 177 cs):∃ x:Ay,x.Wf/\cs=[.int .i64 x.el,.int .i64 x.inV,.int .i64 x.out]:=by
 obtain⟨h1,h2⟩:=h.struct_inv Tryz.underlying177;rw [qLT] at h1;obtain⟨a0,a1,a2,rfl⟩:=zFN h1;obtain⟨x0,e0,w0⟩:=(show HasTy TP 3 [a0] from HasTy.fld h2 (i:=0) rfl rfl rfl nA).int_inv Tryz.underlying3;replace e0:[a0]=[D.int .i64 x0]:=e0;simp only [List.cons.injEq,and_true] at e0;obtain⟨x1,e1,w1⟩:=(show HasTy TP 3 [a1] from HasTy.fld h2 (i:=1) rfl rfl rfl nA).int_inv Tryz.underlying3;replace e1:[a1]=[D.int .i64 x1]:=e1;simp only [List.cons.injEq,and_true] at e1;obtain⟨x2,e2,w2⟩:=(show HasTy TP 3 [a2] from HasTy.fld h2 (i:=2) rfl rfl rfl nA).int_inv Tryz.underlying3;replace e2:[a2]=[D.int .i64 x2]:=e2;simp only [List.cons.injEq,and_true] at e2;subst e0 e1 e2;exact⟨⟨x0,x1,x2⟩,⟨w0,w1,w2⟩,rfl⟩
theorem zHD (cs:List D) (h:HasTy TP 177 cs):∃ x:Ay,x.Wf/\cN TP 177 cs=x.enc:=by
 obtain⟨x,w,rfl⟩:=ty177c cs h;exact⟨x,w,by simp [cN,Tryz.underlying177,Ay.enc]⟩
theorem qFG:TP.cellsOf 148=2:=by kernel_rfl
theorem qXY {cs:List D} (h:cs.length=2):∃ a0 a1,cs=[a0,a1]:=by
 match cs,h with
 | [a0,a1],_=>exact⟨a0,a1,rfl⟩
theorem ty148c (cs:List D) (h:HasTy TP 148 cs):∃ x:Ag,x.Wf/\cs=[.int .i64 x.el,.int .i64 x.pos]:=by
 obtain⟨h1,h2⟩:=h.struct_inv Tryz.underlying148;rw [qFG] at h1;obtain⟨a0,a1,rfl⟩:=qXY h1;obtain⟨x0,e0,w0⟩:=(show HasTy TP 3 [a0] from HasTy.fld h2 (i:=0) rfl rfl rfl nA).int_inv Tryz.underlying3;replace e0:[a0]=[D.int .i64 x0]:=e0;simp only [List.cons.injEq,and_true] at e0;obtain⟨x1,e1,w1⟩:=(show HasTy TP 3 [a1] from HasTy.fld h2 (i:=1) rfl rfl rfl nA).int_inv Tryz.underlying3;replace e1:[a1]=[D.int .i64 x1]:=e1;simp only [List.cons.injEq,and_true] at e1;subst e0 e1;exact⟨⟨x0,x1⟩,⟨w0,w1⟩,rfl⟩
theorem zAW (cs:List D) (h:HasTy TP 148 cs):∃ x:Ag,x.Wf/\cN TP 148 cs=x.enc:=by
 obtain⟨x,w,rfl⟩:=ty148c cs h;exact⟨x,w,by simp [cN,Tryz.underlying148,Ag.enc]⟩
theorem qUK:TP.cellsOf 125=2:=by kernel_rfl
theorem ty125c (cs:List D) (h:HasTy TP 125 cs):∃ x:End,x.Wf/\cs=[.int .i64 x.el,.int .i64 x.side]:=by
 obtain⟨h1,h2⟩:=h.struct_inv Tryz.underlying125;rw [qUK] at h1;obtain⟨a0,a1,rfl⟩:=qXY h1;obtain⟨x0,e0,w0⟩:=(show HasTy TP 3 [a0] from HasTy.fld h2 (i:=0) rfl rfl rfl nA).int_inv Tryz.underlying3;replace e0:[a0]=[D.int .i64 x0]:=e0;simp only [List.cons.injEq,and_true] at e0;obtain⟨x1,e1,w1⟩:=(show HasTy TP 3 [a1] from HasTy.fld h2 (i:=1) rfl rfl rfl nA).int_inv Tryz.underlying3;replace e1:[a1]=[D.int .i64 x1]:=e1;simp only [List.cons.injEq,and_true] at e1;subst e0 e1;exact⟨⟨x0,x1⟩,⟨w0,w1⟩,rfl⟩
theorem ty125 (cs:List D) (h:HasTy TP 125 cs):∃ x:End,x.Wf/\cN TP 125 cs=x.enc:=by
 obtain⟨x,w,rfl⟩:=ty125c cs h;exact⟨x,w,by simp [cN,Tryz.underlying125,End.enc]⟩
theorem qYK:TP.cellsOf 88=14:=by kernel_rfl
theorem cells9:TP.cellsOf 9=1:=by kernel_rfl
theorem qYL:TP.cellsOf 84=1:=by kernel_rfl
theorem qRC:TP.cellsOf 85=1:=by kernel_rfl
theorem qFF:TP.cellsOf 23=1:=by kernel_rfl
theorem zGD:TP.cellsOf 86=1:=by kernel_rfl
theorem zCV {cs:List D} (h:cs.length=14):∃ a0 a1 a2 a3 a4 a5 a6 a7 a8 a9 a10 a11 a12 a13,cs=[a0,a1,a2,a3,a4,a5,a6,a7,a8,a9,a10,a11,a12,a13]:=by
 match cs,h with
 | [a0,a1,a2,a3,a4,a5,a6,a7,a8,a9,a10,a11,a12,a13],_=>exact⟨a0,a1,a2,a3,a4,a5,a6,a7,a8,a9,a10,a11,a12,a13,rfl⟩
theorem ty88c (cs:List D) (h:HasTy TP 88 cs):∃ x:Aj,x.Wf/\cs=[.str x.name,.int .i64 x.entry,.int .i64 x.exit,.sl 3 (x.path.map Ay.enc),.sl 2 (x.Ae.map Ag.enc),.sl 1 (x.Aa.map (D.int .i64)),.int .i64 x.A4,.int .i64 x.length,.sl 3 (x.over.map Ay.enc),.sl 2 (x.Ar.map Ag.enc),.sl 1 (x.Ah.map (D.int .i64)),.sl 2 (x.Az.map Ag.enc),.sl 1 (x.guards.map (D.int .i64)),.sl 2 (x.gaps.map End.enc)]:=by
 obtain⟨h1,h2⟩:=h.struct_inv Tryz.underlying88;rw [qYK] at h1;obtain⟨a0,a1,a2,a3,a4,a5,a6,a7,a8,a9,a10,a11,a12,a13,rfl⟩:=zCV h1;obtain⟨x0,e0,w0⟩:=(show HasTy TP 9 [a0] from HasTy.fld h2 (i:=0) rfl rfl rfl cells9).str_inv Tryz.underlying9;replace e0:[a0]=[D.str x0]:=e0;simp only [List.cons.injEq,and_true] at e0;obtain⟨x1,e1,w1⟩:=(show HasTy TP 3 [a1] from HasTy.fld h2 (i:=1) rfl rfl rfl nA).int_inv Tryz.underlying3;replace e1:[a1]=[D.int .i64 x1]:=e1;simp only [List.cons.injEq,and_true] at e1;obtain⟨x2,e2,w2⟩:=(show HasTy TP 3 [a2] from HasTy.fld h2 (i:=2) rfl rfl rfl nA).int_inv Tryz.underlying3;replace e2:[a2]=[D.int .i64 x2]:=e2;simp only [List.cons.injEq,and_true] at e2;obtain⟨x3,e3,l3,m3⟩:=(show HasTy TP 84 [a3] from HasTy.fld h2 (i:=3) rfl rfl rfl qYL).list Tryz.underlying84 Ay.enc Ay.Wf (λcs _ h=>zHD cs h);rw [qLT] at e3;have w3:=And.intro l3 m3;replace e3:[a3]=[D.sl 3 (x3.map Ay.enc)]:=e3;simp only [List.cons.injEq,and_true] at e3;obtain⟨x4,e4,l4,m4⟩:=(show HasTy TP 85 [a4] from HasTy.fld h2 (i:=4) rfl rfl rfl qRC).list Tryz.underlying85 Ag.enc Ag.Wf (λcs _ h=>zAW cs h);rw [qFG] at e4;have w4:=And.intro l4 m4;replace e4:[a4]=[D.sl 2 (x4.map Ag.enc)]:=e4;simp only [List.cons.injEq,and_true] at e4;obtain⟨x5,e5,l5,m5⟩:=(show HasTy TP 23 [a5] from HasTy.fld h2 (i:=5) rfl rfl rfl qFF).list Tryz.underlying23 (D.int .i64) I64 (λcs _ h=>ty3 cs h);rw [nA] at e5;have w5:=And.intro l5 m5;replace e5:[a5]=[D.sl 1 (x5.map (D.int .i64))]:=e5;simp only [List.cons.injEq,and_true] at e5;obtain⟨x6,e6,w6⟩:=(show HasTy TP 3 [a6] from HasTy.fld h2 (i:=6) rfl rfl rfl nA).int_inv Tryz.underlying3;replace e6:[a6]=[D.int .i64 x6]:=e6;simp only [List.cons.injEq,and_true] at e6;obtain⟨x7,e7,w7⟩:=(show HasTy TP 3 [a7] from HasTy.fld h2 (i:=7) rfl rfl rfl nA).int_inv Tryz.underlying3;replace e7:[a7]=[D.int .i64 x7]:=e7;simp only [List.cons.injEq,and_true] at e7;obtain⟨x8,e8,l8,m8⟩:=(show HasTy TP 84 [a8] from HasTy.fld h2 (i:=8) rfl rfl rfl qYL).list Tryz.underlying84 Ay.enc Ay.Wf (λcs _ h=>zHD cs h);rw [qLT] at e8;have w8:=And.intro l8 m8;replace e8:[a8]=[D.sl 3 (x8.map Ay.enc)]:=e8;simp only [List.cons.injEq,and_true] at e8;obtain⟨x9,e9,l9,m9⟩:=(show HasTy TP 85 [a9] from HasTy.fld h2 (i:=9) rfl rfl rfl qRC).list Tryz.underlying85 Ag.enc Ag.Wf (λcs _ h=>zAW cs h);rw [qFG] at e9;have w9:=And.intro l9 m9;replace e9:[a9]=[D.sl 2 (x9.map Ag.enc)]:=e9;simp only [List.cons.injEq,and_true] at e9;obtain⟨x10,e10,l10,m10⟩:=(show HasTy TP 23 [a10] from HasTy.fld h2 (i:=10) rfl rfl rfl qFF).list Tryz.underlying23 (D.int .i64) I64 (λcs _ h=>ty3 cs h);rw [nA] at e10;have w10:=And.intro l10 m10;replace e10:[a10]=[D.sl 1 (x10.map (D.int .i64))]:=e10;simp only [List.cons.injEq,and_true] at e10;obtain⟨x11,e11,l11,m11⟩:=(show HasTy TP 85 [a11] from HasTy.fld h2 (i:=11) rfl rfl rfl qRC).list Tryz.underlying85 Ag.enc Ag.Wf (λcs _ h=>zAW cs h)
 rw [qFG] at e11;have w11:=And.intro l11 m11;replace e11:[a11]=[D.sl 2 (x11.map Ag.enc)]:=e11;simp only [List.cons.injEq,and_true] at e11;obtain⟨x12,e12,l12,m12⟩:=(show HasTy TP 23 [a12] from HasTy.fld h2 (i:=12) rfl rfl rfl qFF).list Tryz.underlying23 (D.int .i64) I64 (λcs _ h=>ty3 cs h);rw [nA] at e12;have w12:=And.intro l12 m12;replace e12:[a12]=[D.sl 1 (x12.map (D.int .i64))]:=e12;simp only [List.cons.injEq,and_true] at e12;obtain⟨x13,e13,l13,m13⟩:=(show HasTy TP 86 [a13] from HasTy.fld h2 (i:=13) rfl rfl rfl zGD).list Tryz.underlying86 End.enc End.Wf (λcs _ h=>ty125 cs h);rw [qUK] at e13;have w13:=And.intro l13 m13;replace e13:[a13]=[D.sl 2 (x13.map End.enc)]:=e13;simp only [List.cons.injEq,and_true] at e13;subst e0 e1 e2 e3 e4 e5 e6 e7 e8 e9 e10 e11 e12 e13;exact⟨⟨x0,x1,x2,x3,x4,x5,x6,x7,x8,x9,x10,x11,x12,x13⟩,⟨w0,w1,w2,w3,w4,w5,w6,w7,w8,w9,w10,w11,w12,w13⟩,rfl⟩
theorem ty88 (cs:List D) (h:HasTy TP 88 cs):∃ x:Aj,x.Wf/\cN TP 88 cs=x.enc:=by
 obtain⟨x,w,rfl⟩:=ty88c cs h;exact⟨x,w,by simp [cN,Tryz.underlying88,Aj.enc]⟩
theorem zGE:TP.cellsOf 25=5:=by kernel_rfl
theorem zGF:TP.cellsOf 22=1:=by kernel_rfl
theorem zFM {cs:List D} (h:cs.length=5):∃ a0 a1 a2 a3 a4,cs=[a0,a1,a2,a3,a4]:=by
 match cs,h with
 | [a0,a1,a2,a3,a4],_=>exact⟨a0,a1,a2,a3,a4,rfl⟩
theorem ty25c (cs:List D) (h:HasTy TP 25 cs):∃ x:Am,x.Wf/\cs=[.sl 14 (x.Ac.map Aj.enc),.sl 1 (x.Ae.map (D.int .i64)),.sl 1 (x.As.map (D.int .i64)),.int .i64 x.Aa,.int .i64 x.Al]:=by
 obtain⟨h1,h2⟩:=h.struct_inv Tryz.underlying25;rw [zGE] at h1;obtain⟨a0,a1,a2,a3,a4,rfl⟩:=zFM h1;obtain⟨x0,e0,l0,m0⟩:=(show HasTy TP 22 [a0] from HasTy.fld h2 (i:=0) rfl rfl rfl zGF).list Tryz.underlying22 Aj.enc Aj.Wf (λcs _ h=>ty88 cs h);rw [qYK] at e0;have w0:=And.intro l0 m0;replace e0:[a0]=[D.sl 14 (x0.map Aj.enc)]:=e0;simp only [List.cons.injEq,and_true] at e0;obtain⟨x1,e1,l1,m1⟩:=(show HasTy TP 23 [a1] from HasTy.fld h2 (i:=1) rfl rfl rfl qFF).list Tryz.underlying23 (D.int .i64) I64 (λcs _ h=>ty3 cs h);rw [nA] at e1;have w1:=And.intro l1 m1;replace e1:[a1]=[D.sl 1 (x1.map (D.int .i64))]:=e1;simp only [List.cons.injEq,and_true] at e1;obtain⟨x2,e2,l2,m2⟩:=(show HasTy TP 23 [a2] from HasTy.fld h2 (i:=2) rfl rfl rfl qFF).list Tryz.underlying23 (D.int .i64) I64 (λcs _ h=>ty3 cs h);rw [nA] at e2;have w2:=And.intro l2 m2;replace e2:[a2]=[D.sl 1 (x2.map (D.int .i64))]:=e2;simp only [List.cons.injEq,and_true] at e2;obtain⟨x3,e3,w3⟩:=(show HasTy TP 3 [a3] from HasTy.fld h2 (i:=3) rfl rfl rfl nA).int_inv Tryz.underlying3;replace e3:[a3]=[D.int .i64 x3]:=e3;simp only [List.cons.injEq,and_true] at e3;obtain⟨x4,e4,w4⟩:=(show HasTy TP 3 [a4] from HasTy.fld h2 (i:=4) rfl rfl rfl nA).int_inv Tryz.underlying3;replace e4:[a4]=[D.int .i64 x4]:=e4;simp only [List.cons.injEq,and_true] at e4;subst e0 e1 e2 e3 e4;exact⟨⟨x0,x1,x2,x3,x4⟩,⟨w0,w1,w2,w3,w4⟩,rfl⟩
theorem ty25 (cs:List D) (h:HasTy TP 25 cs):∃ x:Am,x.Wf/\cN TP 25 cs=x.enc:=by
 obtain⟨x,w,rfl⟩:=ty25c cs h;exact⟨x,w,by simp [cN,Tryz.underlying25,Am.enc]⟩
theorem ty98 (cs:List D) (h:HasTy TP 98 cs):∃ x:Int,(λn=>IntKind.u64.min<=n/\n<=IntKind.u64.max) x/\cN TP 98 cs=(D.int .u64) x:=by
 obtain⟨x,rfl,w⟩:=h.int_inv Tryz.underlying98;exact⟨x,w,by simp [cN,Tryz.underlying98]⟩
theorem zGC:TP.cellsOf 98=1:=by kernel_rfl
theorem ty26 (cs:List D) (h:HasTy TP 26 cs):∃ l:(List Int),(λl=>l.length<=reachBytes/\∀ x∈l,(λn=>IntKind.u64.min<=n/\n<=IntKind.u64.max) x) l/\cN TP 26 cs=(λ(l:List Int)=>D.sl 1 (l.map (D.int .u64))) l:=by
 obtain⟨l,rfl,h1,h2⟩:=h.list Tryz.underlying26 (D.int .u64) (λn=>IntKind.u64.min<=n/\n<=IntKind.u64.max) (λcs _ h=>ty98 cs h);exact⟨l,⟨h1,h2⟩,by simp [cN,Tryz.underlying26,zGC]⟩
end Go.Proofs.YtldaknhjmhlefaaGreatDoor
