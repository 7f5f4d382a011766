/- Texts of this proof, joined, without what it does not use. No condition. -/
import Derived.Laws.BytesArg
import Derived.Test.YtofndjhpbonpbaaGreatDoorQp

set_option linter.unusedVariables false
set_option linter.unusedSimpArgs false
set_option linter.unusedSectionVars false
namespace Go.TL
open Go.Sort Go.Proofs
variable {P:Program} {C:Ctx} {st:St} {g:Gh} {a:Act} {w:World}
theorem qJM {o:Oper} {ev:Operand->AV} {hp:List Blk} (hs:List Nat) {f:Operand} {xs:Array Operand} {ts:Array TypeId} {F:FuncId} {mv:Nat->Bool} {ds:List D} {r r':AV} {Bs:List Blk} (hi:∀ i∈hs,hp[i]?=some .hole) (hnd:hs.Nodup) (hl:Bs.length=hs.length) (ho:o.op=.call { callee:=.value f,args:=xs,argTypes:=ts })
    (hf:ev f=.d (.fn F)) (hx:xs.toList.map ev=ds.map .d) (hret:Ret C.P F [] mv (ds.map .d) r Bs) (hrr:r.mapRef (qZG hs)=r') (hBB:∀ B∈Bs,B.mapRef (λ_=>.junk)=B):DOk C o ev hp r' (hs.zip Bs):=by
  intro st hhp hlen _ hag g a w hsim Q K' hK;have hih:∀ i∈hs,st.hp[i]?=some .hole:=λi h=>wW (hi i h) hhp;have hno:∀ i∈hs,g.phi i=none:=λi h=>hsim.hp i _ (hih i h);have hil:∀ i∈hs,i < st.hp.length:=λi h=>(zQQ.1 (hih i h)).1;have hfv:=hsim.ev f;rw [hag f (by simp [ho,Op.operands,Call.operands]),hf] at hfv
  have hargs:Pw (ARep w (cS g.X)) (ds.map .d) (xs.map a.eval).toList:=by
    have:=qVD (cs:=[]) (vs:=#[]) hsim (λy hy=>hag y (by simp only [ho,Op.operands,Call.operands];exact Array.mem_append.2 (.inr hy))) hx ⟨rfl,λi x y h=>by simp at h⟩;simpa using this
  simp only [Oper.wp,dN ho (qCR hfv) hret.1,Oper.upon_enter,Array.append_empty];refine (hret.2 w (cS g.X) _ (qPE hsim mv hsim.Xlt) hargs).mono ?_;rintro e w' ⟨v,g',rfl,hout,hr⟩;have hold:∀ b,b < w.heap.size->w'.heap[b]?=w.heap[b]?:=λb hb=>hout.keep b hb λi hi=>absurd hi (zQV i);have hsz:=hout.grown;simp only at hsz
  have hnew:∀ j b,g'.phi j=some b->w.heap.size<=b:=by
    intro j b hp;rcases Nat.lt_or_ge b w.heap.size with hlt|hge
    · exact absurd (hout.own j b hp hlt).1 (zQV _)
    exact hge
  let g2:Gh:={ phi:=λj=>match bG hs j with|some i=>g'.phi i|none=>g.phi j,psi:=λj=>match bG hs j with|some i=>g'.psi i|none=>g.psi j,X:=λb=>g.X b\/(w.heap.size<=b/\g'.X b) }
  have hXX:∀ b,g'.X b->g2.X b:=λb hb=>by
    rcases Nat.lt_or_ge b w.heap.size with hlt|hge
    · exact .inl (hout.Xold b hb hlt)
    exact .inr ⟨hge,hb⟩
  have hin:∀ {j i:Nat},bG hs j=some i->j∈hs:=λh=>zQM (bT hs _ _ h)
  have hgr:Grow w g w' g2:=by
    refine⟨λj b hp=>?_,λj b hp=>?_,λ_ h=>.inl h,λb hb=>hold b (hsim.Xlt b hb)⟩
    · cases hpl:bG hs j with
      | some i=>rw [hno j (hin hpl)] at hp;cases hp
      | none=>simpa [g2,hpl] using hp
    cases hpl:bG hs j with
    | some i=>rw [hno j (hin hpl)] at hp;cases hp
    | none=>simp [g2,hpl]
  have hphi:∀ j b,g2.phi j=some b->(∃ i,bG hs j=some i/\g'.phi i=some b)\/(bG hs j=none/\g.phi j=some b):=by
    intro j b hp
    cases hpl:bG hs j with
    | some i=>exact .inl ⟨i,rfl,by simpa [g2,hpl] using hp⟩
    | none=>exact .inr ⟨rfl,by simpa [g2,hpl] using hp⟩
  have hzl:∀ p∈hs.zip Bs,p.1 < st.hp.length:=λp hp=>hil _ (List.of_mem_zip hp).1
  have hzn:((hs.zip Bs).map (·.1)).Nodup:=by
    rw [List.map_fst_zip (by omega)];exact hnd
  have hwr:=λb=>qBF (hs.zip Bs) st.hp b hzl hzn
  have hget:∀ {j i:Nat} {B:Blk},hs[i]?=some j->Bs[i]?=some B->(wr (hs.zip Bs) st.hp)[j]?=some B:=by
    intro j i B h1 h2;have:(hs.zip Bs)[i]?=some (j,B):=by rw [List.getElem?_zip_eq_some];exact⟨h1,h2⟩
    exact (hwr j).1 (j,B) (zQM this) rfl
  have hgetN:∀ {j:Nat},bG hs j=none->(wr (hs.zip Bs) st.hp)[j]?=st.hp[j]?:=by
    intro j hpl;refine (hwr j).2 λp hp e=>?_;obtain⟨i,hi⟩:=List.getElem?_of_mem (List.of_mem_zip hp).1;rw [e] at hi;exact oU hpl i hi
  have hB:∀ {j i:Nat} {B:Blk},bG hs j=some i->Bs[i]?=some B->BRep w' g2 j B:=by
    intro j i B hpl hBi;have h2:=BRep.mapRef (g':=g2) (F:=λ_=>.junk) (j:=j) (by simp [g2,hpl]) (by simp [g2,hpl]) hXX (λx v _ _=>.junk v) (hout.hp i B hBi)
    rwa [hBB B (zQM hBi)] at h2
  have hBs:∀ {j i:Nat},bG hs j=some i->∃ B,Bs[i]?=some B:=by
    intro j i hpl;have:=(zQQ.1 (bT hs _ _ hpl)).1;exact⟨Bs[i]'(by omega),zQR _⟩
  have hlw:(wr (hs.zip Bs) st.hp).length=st.hp.length:=sL _ _;refine hK v w' g2 ?_ ?_
  · refine { defers := hsim.defers, size := hsim.size, fr := fun t => (hsim.fr t).mono hgr, hp := ?_, lt := ?_, inj := ?_, Xlt := ?_, Xold := ?_, os := hout.os.trans hsim.os, tape := hout.tape.trans hsim.tape, output := hout.output.trans hsim.output, drawn := Nat.le_trans hsim.drawn hout.drawn, grown := Nat.le_trans hsim.grown hsz, keep := ?_, own := ?_, stay := ?_, kle := ?_, laid := hsim.laid }
    · intro j B hj
      cases hpl:bG hs j with
      | some i=>
        obtain⟨B',hB'⟩:=hBs hpl;have:=hget (bT hs _ _ hpl) hB';simp only at hj;rw [this] at hj;cases hj;exact hB hpl hB'
      | none=>
        simp only at hj;rw [hgetN hpl] at hj;refine (hsim.hp j B hj).mono hgr (λhn=>by simpa [g2,hpl] using hn) λb hb=>hold b (hsim.lt j b hb).1
    · intro j b hp
      simp only [hlw];rcases hphi j b hp with ⟨i,hpl,hp'⟩|⟨_,hp'⟩
      · exact ⟨(hout.lt i b hp').1, hil j (hin hpl), fun hX => by
          rcases hX with hX | ⟨_, hX⟩
          · have := hsim.Xlt b hX; have := hnew i b hp'; omega
          exact (hout.lt i b hp').2.2 hX⟩
      have:=hsim.lt j b hp';refine⟨by omega,this.2.1,λhX=>?_⟩;rcases hX with hX|⟨hX,_⟩
      · exact this.2.2 hX
      omega
    · intro j j' b Bj Bj' hBj hBj' hdj hdj' hj hj'
      simp only at hBj hBj';rcases hphi j b hj with ⟨i,hpl,h1⟩|⟨hpl,h1⟩<;>rcases hphi j' b hj' with ⟨i',hpl',h2⟩|⟨hpl',h2⟩
      · obtain⟨B1,e1⟩:=hBs hpl
        obtain⟨B2,e2⟩:=hBs hpl';rw [hget (bT hs _ _ hpl) e1] at hBj;rw [hget (bT hs _ _ hpl') e2] at hBj';cases hBj;cases hBj';have:=hout.inj i i' b _ _ e1 e2 hdj hdj' h1 h2;subst this;have h3:=bT hs _ _ hpl;rw [bT hs _ _ hpl'] at h3;exact (Option.some.inj h3).symm
      · have:=(hsim.lt _ _ h2).1;have:=hnew i b h1;omega
      · have:=(hsim.lt _ _ h1).1;have:=hnew i' b h2;omega
      rw [hgetN hpl] at hBj;rw [hgetN hpl'] at hBj';exact hsim.inj j j' b Bj Bj' hBj hBj' hdj hdj' h1 h2
    · intro b hX
      rcases hX with hX|⟨_,hX⟩
      · have:=hsim.Xlt b hX;omega
      exact hout.Xlt b hX
    · intro b hX hlt'
      rcases hX with hX|⟨hge,_⟩
      · exact hsim.Xold b hX hlt'
      have:=hsim.grown;omega
    · intro b hb hk;rw [hold b (by have:=hsim.grown;omega)];exact hsim.keep b hb hk
    · intro j b hp hb
      rcases hphi j b hp with ⟨i,_,hp'⟩|⟨_,hp'⟩
      · have:=hnew i b hp';have:=hsim.grown;omega
      exact hsim.own j b hp' hb
    · intro j b hj hmj hp
      have hst:=hsim.stay j b hj hmj hp
      have hpl:bG hs j=none:=by
        cases h:bG hs j with
        | none=>rfl
        | some i=>rw [hno j (hin h)] at hst;cases hst.2
      simpa [g2,hpl] using hst
    simp only [hlw];exact hsim.kle
  subst hrr;refine ARep.mapRef (w:=w') (g:=g') (g':=g2) (λd v hd=>hd.mono hXX λ_ _=>rfl) (λx v hx hr=>?_) hr
  have hat:∀ {id b:Nat},g'.phi id=some b->g2.phi (hs.getD id 0)=some b/\g2.psi (hs.getD id 0)=g'.psi id:=by
    intro id b hb;have hid:=(hout.lt id b hb).2.1;simp only at hid;have hlt:id < hs.length:=by omega
    have hge:hs[id]?=some (hs.getD id 0):=by rw [zQD,zQR hlt];rfl
    have hpl:=uB hnd hge;exact⟨by simp only [g2,hpl];exact hb,by simp only [g2,hpl]⟩
  cases hx with
  | msl0=>exact .msl0 _ _ _ _
  | msl id sz off len cap b hb hc hp=>exact .msl _ _ _ _ cap b (hat hb).1 hc (by rw [(hat hb).2];exact hp)
  | mptr id sz idx off b hb=>exact .mptr _ _ _ _ b (hat hb).1
  | mmap id b hb=>exact .mmap _ b (hat hb).1
  | yld id b hb=>exact .yld _ b (hat hb).1
  | mmapN0=>exact .mmapN0 _
  | mmapN id n b hb=>exact .mmapN _ _ b (hat hb).1
  | _=>cases hr
section
variable {o:Oper} {ev:Operand->AV} {hp:List Blk} {t t' e arr:TypeId} {x y:Operand}
theorem qJK {s:ByteArray} {k:IntKind} {i:Int} {b:UInt8} (ho:o.op=.index t x y) (hu:C.P.underlying t=some .string) (hx:ev x=.d (.str s)) (hy:ev y=.d (.int k i)) (h:0<=i/\s.data.toList[i.toNat]?=some b):RdOk C o ev hp (.d (.int .u8 (b.toNat:Int))):=
  RdOk.mk λst hhp hag g a w hs=>by
    have hv:=hs.ev x;rw [hag x (by simp [ho,Op.operands]),hx] at hv;have hi:=hs.ev y;rw [hag y (by simp [ho,Op.operands]),hy] at hi
    have hxv:a.eval x=.string s:=by
      generalize a.eval x=v at *;cases hv with|d _ _ h=>cases h;rfl
    have hsb:s[i.toNat]?=some b:=by
      have h2:=h.2;rw [zQQ] at h2;obtain⟨hlt,h2⟩:=h2;have hlt':i.toNat < s.size:=hlt;rw [getElem?_pos s i.toNat hlt'];exact congrArg some h2
    refine⟨.int .u8 b.toNat,?_,.d _ _ (.int _ _)⟩;have h0:=h.1;simp only [execOp,ho,hxv,int_inv hi];simp [Instr.index,run_underlying hu,asIntOf,h0,hsb]
theorem x_bstr {xs:List Int} (ho:o.op=.convert t t' x) (hs:C.P.underlying t=some (.slice e)) (he:C.P.underlying e=some (.int .u8)) (hd:C.P.underlying t'=some .string) (hx:ev x=.d (.sl 1 (xs.map (D.int .u8)))):RdOk C o ev hp (.d (.str (strOfNums xs))):=
  RdOk.mk λst hhp hag g a w hsim=>by
    have hv:=hsim.ev x;rw [hag x (by simp [ho,Op.operands]),hx] at hv;generalize hev:a.eval x=v at *
    have key:∀ (ad:Option Addr) (cap:Nat),v=.slice ad xs.length cap->(Conv.bytesToString v).run C.P w=.ok (.string (strOfNums xs)) w->(execOp a.eval o).run C.P w=.ok (.value (.string (strOfNums xs))) w:=by
      intro ad cap hv h;simp only [execOp,ho,hev,Sem.run_bind];rw [hv,run_convert_bytes_string w t t' e ad xs.length cap hs he hd,<- hv,h];rfl
    refine⟨.string (strOfNums xs),?_,.d _ _ (.str _)⟩
    cases hv with
    | d _ _ h=>
      generalize hes:xs.map (D.int .u8)=es at h
      cases h with
      | sl0 _ ad cap=>
        have hx0:xs=[]:=by simpa using hes
        subst hx0;refine key ad cap rfl ?_
        cases ad with
        | none=>simp [Conv.bytesToString];rfl
        | some ad=>
          rw [run_bytesToString w ad 0 cap [] (run_loadCells_list (P:=C.P) w ad [] (λj v h=>by simp at h)),foldl_push_bytes];rfl
      | sl _ _ ad cap val hX hc hsz h1 hv hr=>
        subst hes;simp only [zQC] at *;refine key (some ad) cap rfl ?_
        have hl:(loadCells ad xs.length).run C.P w=.ok (xs.map (Value.int .u8)).toArray w:=by
          have := run_loadCells_list (P := C.P) w ad (xs.map (Value.int .u8)) (fun j v hj => by
            simp only [zQP, zQO] at hj;obtain ⟨n, hn, rfl⟩ := hj;have h3 := hv j (D.int .u8 n) 0 (D.int .u8 n) (by simp [hn]) rfl;have h4 := hr j (D.int .u8 n) 0 (D.int .u8 n) (by simp [hn]) rfl;rw [Nat.mul_one, Nat.add_zero] at h3;rw [h3];generalize val j 0 = u at h4;cases h4
            rfl)
          simpa using this
        rw [run_bytesToString w ad xs.length cap xs hl,foldl_push_bytes];simp [strOfNums,ByteArray.empty,ByteArray.emptyWithCapacity];rfl
end
section
variable {o:Oper} {ev:Operand->AV} {hp:List Blk} {x:Operand}
end
theorem qJT {o:Oper} {ev:Operand->AV} {hp:List Blk} {f:Operand} {xs:Array Operand} {ts:Array TypeId} {F:FuncId} {mv:Nat->Bool} {ds rs:List D} (ho:o.op=.call { callee:=.value f,args:=xs,argTypes:=ts }) (hf:ev f=.d (.fn F)) (hx:yG hp (xs.toList.map ev) ds) (hret:Ret C.P F [] mv (ds.map .d) (.tup (rs.map .d)) []) (hm:rs.all D.mem0=true):RdOk C o ev hp (.tup (rs.map .d)):=by
  intro st hhp hag g a w hs Q K' hK;have hfv:=hs.ev f;rw [hag f (by simp [ho,Op.operands,Call.operands]),hf] at hfv
  have hx':yG st.hp (xs.toList.map st.fr.ev) ds:=by
    refine⟨by have:=hx.1;simpa using this,λi x d hxi hd=>?_⟩;simp only [zQP,zQO] at hxi;obtain⟨y,hy,rfl⟩:=hxi;rw [hag y (by simp only [ho,Op.operands,Call.operands];exact Array.mem_append.2 (.inr (Array.mem_toList_iff.1 (zQM hy))))];exact (hx.2 i (ev y) d (by simp [hy]) hd).le hhp
  have hargs:=qRL hs hx' (Y:=λb=>b < w.heap.size) hs.Xlt λi b hp=>(hs.lt i b hp).1;simp only [Oper.wp,dN ho (qCR hfv) hret.1,Oper.upon_enter,Array.append_empty];refine (hret.2 w (cS λb=>b < w.heap.size) _ (qPE hs mv λ_ h=>h) hargs).mono ?_;rintro e w' ⟨v,g',rfl,hout,hr⟩;have hold:∀ b,b < w.heap.size->w'.heap[b]?=w.heap[b]?:=λb hb=>hout.keep b hb λi hi=>absurd hi (zQV i);have hsz:=hout.grown;simp only at hsz;have hgr:Grow w g w' g:=⟨λ_ _ h=>h,λ_ _ _=>rfl,λ_ h=>h,λb hb=>hold b (hs.Xlt b hb)⟩;refine hK v w' g ?_ ?_
  · exact { defers := hs.defers, size := hs.size, fr := fun t => (hs.fr t).mono hgr, hp := fun i B hB => (hs.hp i B hB).mono hgr id fun b hb => hold b (hs.lt i b hb).1, lt := fun i b hp => by have := hs.lt i b hp; exact ⟨by omega, this.2.1, this.2.2⟩, inj := hs.inj, Xlt := fun b hb => by have := hs.Xlt b hb; omega, Xold := hs.Xold
            os := hout.os.trans hs.os, tape := hout.tape.trans hs.tape, output := hout.output.trans hs.output, drawn := Nat.le_trans hs.drawn hout.drawn, grown := Nat.le_trans hs.grown hsz, keep := fun b hb hk => by rw [hold b (by have := hs.grown; omega)]; exact hs.keep b hb hk, own := hs.own, stay := hs.stay, kle := hs.kle, laid := hs.laid }
  cases hr with
  | tup _ us hl hr=>
    refine .tup _ us hl λi c u hci hu=>?_;have h1:=hr i c u hci hu;simp only [zQP,zQO] at hci;obtain⟨d,hd,rfl⟩:=hci;have hdm:D.mem0 d=true:=zQT.1 hm d (zQM hd)
    cases h1 with
    | d _ _ h=>exact .d _ _ (h.any hdm)
end Go.TL
set_option maxHeartbeats 4000000
namespace Go.TL
variable {C:Ctx} {st:St} {g:Gh} {a:Act} {w:World} {P:Program}
inductive Kt where
  | s (y:Code)
  | b (i:Nat)
def post (C:Ctx):List Kt->(Exit->St->Prop)->Exit->St->Prop
  | [],Q=>Q
  | .s y :: ks,Q=>rG (λst=>TWp C y st (post C ks Q)) (post C ks Q)
  | .b i :: ks,Q=>oF i (post C ks Q)
def pn (C:Ctx) (ks:List Kt) (Q:Exit->St->Prop):St->Prop:=post C ks Q .normal
inductive Md where
  | kc (x:Code) (fr:Fr) (hp:List Blk) (ks:List Kt)
  | ko (ops:Array Oper) (l:List Oper) (fr:Fr) (hp:List Blk) (ks:List Kt)
  | kx (e:Exit) (fr:Fr) (hp:List Blk) (ks:List Kt)
  | kn
def Md.goal (C:Ctx) (Q:Exit->St->Prop):Md->Prop
  | .kc x fr hp ks=>TWp C x ⟨fr,hp⟩ (post C ks Q)
  | .ko ops l fr hp ks=>cE C ops l ⟨fr,hp⟩ (pn C ks Q)
  | .kx e fr hp ks=>post C ks Q e ⟨fr,hp⟩
  | .kn=>False
def stX (fr:Fr) (hp:List Blk) (e:Exit):List Kt->Md
  | []=>.kn
  | .s y :: ks=>match e with
    | .normal=>.kc y fr hp ks
    | e=>.kx e fr hp ks
  | .b i :: ks=>match e with
    | .exit j=>match Nat.beq j i with
      | true=>.kx .normal fr hp ks
      | false=>.kx (.exit j) fr hp ks
    | e=>.kx e fr hp ks
def stO (T:Tab) (n:Nat) (ops:Array Oper) (fr:Fr) (hp:List Blk) (ks:List Kt):List Oper->Md
  | []=>.kx .normal fr hp ks
  | o :: l=>match stE T n ops o fr hp with
    | some (fr',hp')=>.ko ops l fr' hp' ks
    | none=>.kn
def stS (fr:Fr) (hp:List Blk) (ks:List Kt) (y:Code):Code->Md
  | .region id ops d=>match d with
    | false=>.ko ops ops.toList fr hp (.s y :: ks)
    | true=>.kc (.region id ops true) fr hp (.s y :: ks)
  | x=>.kc x fr hp (.s y :: ks)
def stC (fr:Fr) (hp:List Blk) (ks:List Kt):Code->Md
  | .seq x y=>stS fr hp ks y x
  | .region _ ops d=>match d with
    | false=>.ko ops ops.toList fr hp ks
    | true=>.kn
  | .skip=>.kx .normal fr hp ks
  | .ret=>.kx .ret fr hp ks
  | .exit i=>.kx (.exit i) fr hp ks
  | .block i x=>.kc x fr hp (.b i :: ks)
  | _=>.kn
def stp (T:Tab) (n:Nat):Md->Md
  | .kc x fr hp ks=>stC fr hp ks x
  | .ko ops l fr hp ks=>stO T n ops fr hp ks l
  | .kx e fr hp ks=>stX fr hp e ks
  | .kn=>.kn
def run (T:Tab) (n:Nat):Nat->Md->Md
  | 0,m=>m
  | k+1,m=>run T n k (stp T n m)
theorem stX_ok {Q:Exit->St->Prop} {fr:Fr} {hp:List Blk} {e:Exit} {ks:List Kt} (h:(stX fr hp e ks).goal C Q):post C ks Q e ⟨fr,hp⟩:=by
  cases ks with
  | nil=>exact h.elim
  | cons k ks=>
    cases k with
    | s y=>cases e<;>exact h
    | b i=>
      cases e with
      | exit j=>
        simp only [stX] at h;show oF i (post C ks Q) (.exit j) _;simp only [oF];split at h
        · rename_i hj;rw [if_pos (Nat.eq_of_beq_eq_true hj)];exact h
        rename_i hj;rw [if_neg (λe=>by rw [e,Nat.beq_refl] at hj;cases hj)];exact h
      | _=>exact h
theorem stS_ok {Q:Exit->St->Prop} {fr:Fr} {hp:List Blk} {ks:List Kt} {y x:Code} (h:(stS fr hp ks y x).goal C Q):TWp C (.seq x y) ⟨fr,hp⟩ (post C ks Q):=by
  cases x with
  | region id ops d=>cases d with
    | false=>exact RS h
    | true=>exact TQ h
  | _=>exact TQ h
theorem stC_ok {Q:Exit->St->Prop} {fr:Fr} {hp:List Blk} {ks:List Kt} {x:Code} (h:(stC fr hp ks x).goal C Q):TWp C x ⟨fr,hp⟩ (post C ks Q):=by
  cases x with
  | seq x y=>exact stS_ok h
  | region id ops d=>cases d with
    | false=>exact TG h
    | true=>exact h.elim
  | skip=>exact TS h
  | ret=>exact TR h
  | exit i=>exact uU h
  | block i x=>exact TB h
  | _=>exact h.elim
theorem stp_ok {T:Tab} (hT:TabOk C.P T) {Q:Exit->St->Prop} {m:Md} (h:(stp T C.n m).goal C Q):m.goal C Q:=by
  cases m with
  | kc x fr hp ks=>exact stC_ok h
  | ko ops l fr hp ks=>
    cases l with
    | nil=>exact TN h
    | cons o l=>
      simp only [stp,stO] at h;split at h
      · rename_i fr' hp' he;exact SA hT he h
      exact h.elim
  | kx e fr hp ks=>exact stX_ok h
  | kn=>exact h.elim
theorem qZV {T:Tab} (hT:TabOk C.P T) {Q:Exit->St->Prop}:∀ (k:Nat) (m:Md),(run T C.n k m).goal C Q->m.goal C Q
  | 0,_,h=>h
  | k+1,_,h=>stp_ok hT (qZV hT k _ h)
theorem rZ {T:Tab} (hT:TabOk C.P T) {Q:Exit->St->Prop} {k:Nat} {m m':Md} (h:run T C.n k m=m') (hm:m'.goal C Q):m.goal C Q:=qZV hT k m (h ▸ hm)
theorem bJ {id:Nat} {ops:Array Oper} {y:Code} {ks:List Kt} {Q:Exit->St->Prop} (hm:C.P.follows .mixedOrders=true) (h:TDr C ops (pn C (.s y :: ks) Q) ops.toList st.fr st.hp []):TWp C (.seq (.region id ops true) y) st (post C ks Q):=qNL hm h
theorem qWE {id:Nat} {ops:Array Oper} {y:Code} {Q:Exit->St->Prop} (hm:C.P.follows .mixedOrders=true) (h:TDr C ops (pn C [.s y] Q) ops.toList st.fr st.hp []):TWp C (.seq (.region id ops true) y) st Q:=qNL hm h
theorem dC {id:Nat} {ops:Array Oper} {ks:List Kt} {Q:Exit->St->Prop} (hm:C.P.follows .mixedOrders=true) (h:TDr C ops (pn C ks Q) ops.toList st.fr st.hp []):TWp C (.region id ops true) st (post C ks Q):=qEX hm h
theorem cJ {id:Nat} {ops:Array Oper} {Q:Exit->St->Prop} (hm:C.P.follows .mixedOrders=true) (h:TDr C ops (pn C [] Q) ops.toList st.fr st.hp []):TWp C (.region id ops true) st Q:=qEX hm h
theorem bL {α:Type} {p:Prop} [Decidable p] {x0 y0:Option α} {r:α} {o:Operand} {x y:Code} {Q:Exit->St->Prop} (hm:(if p then x0 else y0)=some r) (hc:st.fr.ev o=.d (.bool (decide p)))
    (h1:decide p=true->x0=some r->TWp C x st Q) (h2:decide p=false->y0=some r->TWp C y st Q):TWp C (.cond o x y) st Q:=
  TC _ hc (λh=>h1 h (JT h hm)) (λh=>h2 h (JF h hm))
theorem eC {α:Type} {p:Prop} [Decidable p] {x0 y0:Option α} {r:α} {o:Operand} {x y:Code} {Q:Exit->St->Prop} (hm:(if p then y0 else x0)=some r) (hc:st.fr.ev o=.d (.bool (!decide p)))
    (h1:(!decide p)=true->x0=some r->TWp C x st Q) (h2:(!decide p)=false->y0=some r->TWp C y st Q):TWp C (.cond o x y) st Q:=
  TC _ hc (λh=>h1 h (eL h hm)) (λh=>h2 h (eM h hm))
theorem bH {α:Type} {p:Bool} {x0 y0:Option α} {r:α} {o:Operand} {x y:Code} {Q:Exit->St->Prop} (hm:(if p=true then x0 else y0)=some r) (hc:st.fr.ev o=.d (.bool p))
    (h1:p=true->x0=some r->TWp C x st Q) (h2:p=false->y0=some r->TWp C y st Q):TWp C (.cond o x y) st Q:=
  TC _ hc (λh=>h1 h (JA h hm)) (λh=>h2 h (JB h hm))
/- A call, and the model's call with it. -/
section calls
variable {ops:Array Oper} {ty:TypeId} {pos:String} {after:Array Edge} {gd:Option (Nat×Bool)} {l:List Oper} {K:St->Prop} {fr:Fr} {hp:List Blk} {acc:List Rec} {d:Nat} {F:FuncId} {f:Operand} {xs:Array Operand} {ts:Array TypeId} {ds:List D} {α β:Type} {m:Option α} {k:α->Option β} {o:β} {e:α->D}
theorem c_N (hm:aB m k=some o) (hf:∀ {x},m=some x->RetN C.P F ds (e x)) (hd:decide (d < C.n)=true) (hon:onE ops gd fr=some true) (he:fr.ev f=.d (.fn F)) (hx:xs.toList.map fr.ev=ds.map .d)
    (hk:∀ x,k x=some o->cE C ops l ⟨(d,.d (e x)) :: fr,hp⟩ K):cE C ops (⟨some d,.call { callee:=.value f,args:=xs,argTypes:=ts },ty,pos,after,gd⟩ :: l) ⟨fr,hp⟩ K:=by
  obtain⟨x,h1,h2⟩:=BI hm;exact SX hd hon (RN rfl he (tM hx) (hf h1)) (hk x h2)
theorem c_D (hm:aB m k=some o) (hf:∀ {x},m=some x->RetD C.P F ds (e x)) (hd:decide (d < C.n)=true) (hon:onE ops gd fr=some true) (he:fr.ev f=.d (.fn F)) (hx:xs.toList.map fr.ev=ds.map .d)
    (hk:∀ x,k x=some o->cE C ops l ⟨(d,.d (e x)) :: fr,hp⟩ K):cE C ops (⟨some d,.call { callee:=.value f,args:=xs,argTypes:=ts },ty,pos,after,gd⟩ :: l) ⟨fr,hp⟩ K:=by
  obtain⟨x,h1,h2⟩:=BI hm;exact SX hd hon (RD rfl he hx (hf h1)) (hk x h2)
theorem dK (rs:List Nat) (hm:aB m k=some o) (hf:∀ {x},m=some x->RetN C.P F ds (e x)) (hd:decide (d < C.n)=true) (hon:onE ops gd fr=some true) (he:fr.ev f=.d (.fn F)) (hx:xs.toList.map fr.ev=ds.map .d)
    (hk:∀ x,k x=some o->TDr C ops K l ((d,.d (e x)) :: fr) hp (acc++[⟨true,d,.d (e x),rs,[]⟩])):TDr C ops K (⟨some d,.call { callee:=.value f,args:=xs,argTypes:=ts },ty,pos,after,gd⟩ :: l) fr hp acc:=by
  obtain⟨x,h1,h2⟩:=BI hm;exact DX rs hd hon (RN rfl he (tM hx) (hf h1)) (hk x h2)
theorem jN (rs:List Nat) (hm:aB m k=some o) (hf:∀ {x},m=some x->RetD C.P F ds (e x)) (hd:decide (d < C.n)=true) (hon:onE ops gd fr=some true) (he:fr.ev f=.d (.fn F)) (hx:xs.toList.map fr.ev=ds.map .d)
    (hk:∀ x,k x=some o->TDr C ops K l ((d,.d (e x)) :: fr) hp (acc++[⟨true,d,.d (e x),rs,[]⟩])):TDr C ops K (⟨some d,.call { callee:=.value f,args:=xs,argTypes:=ts },ty,pos,after,gd⟩ :: l) fr hp acc:=by
  obtain⟨x,h1,h2⟩:=BI hm;exact DX rs hd hon (RD rfl he hx (hf h1)) (hk x h2)
end calls
theorem aS {α:Type} {f:α->D} {x r:α} {rs:List ResultVar} {st:St} (hm:some x=some r) (h:zH st.fr rs=some (.d (f x))):EndsS P rs (f r) st:=by
  cases hm;exact EndsS.one _ h (.d _) (.refl _)
theorem e_j {α:Type} {x z:α} (ids:List Nat) {ks:List Nat} {st:St} {k:Nat} {S:α->St} (hm:some x=some z) (h1:gL ids=true) (h2:∀ i,i < k->ids[i]?=some i) (h3:st.canon ks ids=S x):
    ∃ j ids',z=j/\gL ids'=true/\(∀ i,i < k->ids'[i]?=some i)/\st.canon ks ids'=S j:=⟨x,ids,(Option.some.inj hm).symm,h1,h2,h3⟩
theorem aT {α:Type} {x z:α} (ids:List Nat) {ks:List Nat} {st:St} {S:α->St} (hm:some x=some z) (h1:gL ids=true) (h3:st.canon ks ids=S x):
    ∃ j ids',z=j/\gL ids'=true/\(∀ i,i < 0->ids'[i]?=some i)/\st.canon ks ids'=S j:=⟨x,ids,(Option.some.inj hm).symm,h1,λi hi=>absurd hi (zQV i),h3⟩
theorem e_l {α β:Type} {x:α} {z:α ⊕ β} (ids:List Nat) {ks:List Nat} {st:St} {k:Nat} {S:α->St} (hm:some (.inl x)=some z) (h1:gL ids=true) (h2:∀ i,i < k->ids[i]?=some i) (h3:st.canon ks ids=S x):
    ∃ j ids',z=.inl j/\gL ids'=true/\(∀ i,i < k->ids'[i]?=some i)/\st.canon ks ids'=S j:=⟨x,ids,(Option.some.inj hm).symm,h1,h2,h3⟩
theorem aX {α β:Type} {x:α} {z:α ⊕ β} (ids:List Nat) {ks:List Nat} {st:St} {S:α->St} (hm:some (.inl x)=some z) (h1:gL ids=true) (h3:st.canon ks ids=S x):
    ∃ j ids',z=.inl j/\gL ids'=true/\(∀ i,i < 0->ids'[i]?=some i)/\st.canon ks ids'=S j:=⟨x,ids,(Option.some.inj hm).symm,h1,λi hi=>absurd hi (zQV i),h3⟩
end Go.TL
set_option linter.unusedVariables false
set_option linter.unusedSimpArgs false
set_option maxHeartbeats 1000000
set_option maxRecDepth 100000
namespace Go.TL
open Go
variable {C:Ctx} {o:Oper} {ev:Operand->AV} {hp:List Blk} {t:TypeId} {x y:Operand}
theorem qRH {w:World} {n j:Nat} {vs:List Value} {t:TypeId} {fz:Nat×Nat} (h:w.heap[n]?=some (.cells vs.toArray t fz)) {u:Value} (hj:vs[j]?=some u):w.cell? ((⟨n,0,none⟩:Addr).add j)=some u:=by
  rw [kY,cell_of_row w n _ vs.toArray t fz h];simpa using hj
theorem x_ldG {n s:Nat} {d:D} (ho:o.op=.load t (.global n)) (hl:lay C.P t=some (true,s)) (hm:(n,d.cells.map D.val)∈qML) (h1:d.one=false) (hs:(d.cells.all D.scal)=true) (hn:Nat.beq d.cells.length s=true):RdOk C o ev hp (.d d):=
  RdOk.mk λst hhp hag g a w hsim=>by
    obtain⟨⟨t',fz,e⟩,_⟩:=hsim.laidW _ hm;have hlen:=Nat.eq_of_beq_eq_true hn;exact⟨_,gC ho rfl (iB hl w ⟨n,0,none⟩ (d.cells.map D.val) (by rw [zQC];exact hlen) (λj u hj=>qRH e hj)),.d _ _ (qNF h1 hs)⟩
theorem qMO {α:Type} {f:α->List D} {s:Nat} (hs:∀ x,(f x).length=s):∀ {xs:List α} {i:Nat} {z:α},xs[i]?=some z->∀ j,j < s->(xs.flatMap f)[i * s+j]?=(f z)[j]?
  | [],i,z,h,j,hj=>by simp at h
  | x :: xs,0,z,h,j,hj=>by
    simp at h;subst h;rw [List.flatMap_cons,Nat.zero_mul,Nat.zero_add,List.getElem?_append_left (by rw [hs];exact hj)]
  | x :: xs,i+1,z,h,j,hj=>by
    have h':xs[i]?=some z:=by simpa using h
    rw [List.flatMap_cons,List.getElem?_append_right (by rw [hs,Nat.succ_mul];omega),hs,<- qMO hs h' j hj]
    congr 1
    rw [Nat.succ_mul];omega
theorem qQF {α:Type} {f:α->List D} {s:Nat} (hs:∀ x,(f x).length=s):∀ (xs:List α),(xs.flatMap f).length=xs.length * s
  | []=>by simp
  | x :: xs=>by rw [List.flatMap_cons,zQL,hs,qQF hs xs,List.length_cons,Nat.succ_mul,Nat.add_comm]
theorem x_ixA {e:TypeId} {n s:Nat} {α:Type} {f:α->D} {xs:List α} {k:IntKind} {i:Int} {z:α} (hs:∀ x,(f x).cells.length=s) (hf:∀ x,f x=.agg (f x).cells) (ho:o.op=.index t x y) (hu:C.P.underlying t=some (.array n e)) (hl:lay C.P e=some (true,s)) (hx:ev x=.d (.agg (xs.flatMap λx=>(f x).cells))) (hy:ev y=.d (.int k i)) (h:0<=i/\xs[i.toNat]?=some z) (hn:Nat.beq n xs.length=true):RdOk C o ev hp (.d (f z)):=
  RdOk.mk λst hhp hag g a w hsim=>by
    have hv:=hsim.ev x;rw [hag x (by simp [ho,Op.operands]),hx] at hv;have hi:=hsim.ev y;rw [hag y (by simp [ho,Op.operands]),hy] at hi;generalize he:a.eval x=vx at *;have hlt:=(zQQ.1 h.2).1;have hn':=Nat.eq_of_beq_eq_true hn;obtain⟨h1,h2⟩:=zF hl w
    cases hv with
    | d _ _ hd=>
      cases hd with
      | agg cs vs hlen hone hrep=>
        have hsz:vs.size=xs.length * s:=by rw [<- hlen,qQF hs]
        have hle:i.toNat * s+s<=vs.size:=by rw [hsz,<- Nat.succ_mul];exact Nat.mul_le_mul_right s hlt
        have hi2:i < (n:Int):=by omega
        refine⟨.agg (vs.extract (i.toNat * s) (i.toNat * s+s)),?_,?_⟩
        · simp only [execOp,ho,he,int_inv hi]
          simp [Instr.index,run_underlying hu,asIntOf,h.1,hi2,part,h1,h2]
        rw [hf z];refine .d _ _ (.agg _ _ (by rw [hs,Array.size_extract];omega) (λc hc=>?_) λj c v hc hv=>?_)
        · obtain⟨j,hj⟩:=List.mem_iff_getElem?.1 hc
          have hjs:j < s:=by rw [<- hs z];exact (zQQ.1 hj).1
          exact hone c (List.mem_iff_getElem?.2 ⟨i.toNat * s+j,by rw [qMO hs h.2 j hjs];exact hj⟩)
        have hjs : j < s := by rw [<- hs z]; exact (zQQ.1 hc).1
        refine hrep (i.toNat * s+j) c v (by rw [qMO hs h.2 j hjs];exact hc) ?_;rw [Array.getElem?_extract] at hv;split at hv
        · exact hv
        cases hv
theorem RdOk.weakD {d d':D} (h:RdOk C o ev hp (.d d)) (hd:DLe d d'):RdOk C o ev hp (.d d'):=λst h1 h2 g a w hs Q K' hK=>h st h1 h2 g a w hs Q K' λv w' g' hs' hr=>hK v w' g' hs' (by cases hr with|d _ _ hr=>exact .d _ _ (hd _ _ _ hr))
theorem zDX (s m:Nat):DLe (.sl 1 (List.replicate m .nilsl)) (.sl 1 (List.replicate m (.sl s []))):=by
  intro w X v h;generalize he:List.replicate m D.nilsl=es at h;have hm:es.length=m:=by rw [<- he,List.length_replicate]
  cases h with
  | sl0 _ ad cap=>
    obtain rfl:m=0:=by simpa using hm.symm
    exact .sl0 _ _ _
  | sl _ _ ad cap val hX hc hs h1 hv hr=>
    have hlen:es.length=(List.replicate m (D.sl s [])).length:=by rw [hm,List.length_replicate]
    have key:∀ (i:Nat) (e:D),(List.replicate m (D.sl s []))[i]?=some e->e=.sl s []/\es[i]?=some .nilsl:=λi e h=>by
      rw [List.getElem?_replicate] at h;split at h
      · rename_i hi
        cases h;exact⟨rfl,by rw [<- he,List.getElem?_replicate,if_pos hi]⟩
      cases h
    rw [hlen];refine .sl 1 _ ad cap val hX (by rw [<- hlen];exact hc) (λi e h=>?_) (λi e j c h hj=>?_) (λi e j c h hj=>?_) λi e j c h hj=>?_
    · rw [(key i e h).1];rfl
    · rw [(key i e h).1] at hj
      cases j with
      | zero=>cases hj;rfl
      | succ j=>simp [D.cells] at hj
    · rw [(key i e h).1] at hj
      cases j with
      | zero=>cases hj;exact hv i _ 0 _ (key i e h).2 rfl
      | succ j=>simp [D.cells] at hj
    rw [(key i e h).1] at hj
    cases j with
    | zero=>
      cases hj;have:=hr i _ 0 _ (key i e h).2 rfl;generalize val i 0=u at this;cases this;exact .sl0 _ _ _
    | succ j=>simp [D.cells] at hj
theorem zCZ {T:Tab} {e sz by' s:Nat} {z:Value} {n:Int} {β:Type} {f:β->D} (hT:TabOk C.P T) (ho:o.op=.makeSlice t x y) (hl:lk T.sel t=some (e,sz,by')) (hz:(C.P.info? e).bind (·.zero)=some z) (hzd:cU z=.d .nilsl) (hzs:Nat.beq 1 sz=true) (ha:ev x=.d (.int .i64 n)) (hb:ev y=.d (.int .i64 n)) (hby:Nat.ble by' 100000=true) (hn:0<=n/\n<=1000000000):RdOk C o ev hp (.d (.sl sz ((List.replicate n.toNat ([]:List β)).map λl=>D.sl s (l.map f)))):=by
  have h:=qKN (α:=_root_.Unit) (f:=λ_=>D.nilsl) (x:=()) (hp:=hp) hT ho hl hz hzd hzs ha hb hby hn rfl;rw [List.map_replicate] at h ⊢;obtain rfl:=Nat.eq_of_beq_eq_true hzs;exact h.weakD (zDX s _)
end Go.TL
set_option maxHeartbeats 8000000
set_option linter.unusedSimpArgs false
set_option linter.unusedVariables false
set_option maxRecDepth 20000
namespace Go.Proofs.YtofndjhpbonpbaaGreatDoor
open Go Go.TL
abbrev BA := ByteArray
structure Aw where
 name:BA
 kind:Int
 length:Int
 grade:Int
 speed:Int
 slow:Int
 As:Int
deriving DecidableEq,Inhabited
def Aw.enc (x:Aw):D:=.agg [.str x.name,.int .i64 x.kind,.int .i64 x.length,.int .i64 x.grade,.int .i64 x.speed,.int .i64 x.slow,.int .i64 x.As]
structure Aw.Wf (x:Aw):Prop where
 name:x.name.size<=reachBytes
 kind:I64 x.kind
 length:I64 x.length
 grade:I64 x.grade
 speed:I64 x.speed
 slow:I64 x.slow
 As:I64 x.As
structure End where
 el:Int
 side:Int
deriving DecidableEq,Inhabited
def End.enc (x:End):D:=.agg [.int .i64 x.el,.int .i64 x.side]
structure End.Wf (x:End):Prop where
 el:I64 x.el
 side:I64 x.side
structure Ba where
 a:End
 b:End
deriving DecidableEq,Inhabited
def Ba.enc (x:Ba):D:=.agg [.int .i64 x.a.el,.int .i64 x.a.side,.int .i64 x.b.el,.int .i64 x.b.side]
structure Ba.Wf (x:Ba):Prop where
 a:End.Wf x.a
 b:End.Wf x.b
structure A0 where
 name:BA
 atV:End
 overlap:Int
deriving DecidableEq,Inhabited
def A0.enc (x:A0):D:=.agg [.str x.name,.int .i64 x.atV.el,.int .i64 x.atV.side,.int .i64 x.overlap]
structure A0.Wf (x:A0):Prop where
 name:x.name.size<=reachBytes
 atV:End.Wf x.atV
 overlap:I64 x.overlap
structure A4 where
 id:Int
 el:Int
 offset:Int
deriving DecidableEq,Inhabited
def A4.enc (x:A4):D:=.agg [.int .i64 x.id,.int .i64 x.el,.int .i64 x.offset]
structure A4.Wf (x:A4):Prop where
 id:I64 x.id
 el:I64 x.el
 offset:I64 x.offset
structure Ag where
 name:BA
 Ad:(List BA)
 Af:(List Aw)
 joints:(List Ba)
 Ah:(List A0)
 balises:(List A4)
deriving DecidableEq,Inhabited
def Ag.enc (x:Ag):D:=.agg [.str x.name,.sl 1 (x.Ad.map D.str),.sl 7 (x.Af.map Aw.enc),.sl 4 (x.joints.map Ba.enc),.sl 4 (x.Ah.map A0.enc),.sl 3 (x.balises.map A4.enc)]
structure Ag.Wf (x:Ag):Prop where
 name:x.name.size<=reachBytes
 Ad:x.Ad.length<=reachBytes/\∀ y∈x.Ad,y.size<=reachBytes
 Af:x.Af.length<=reachBytes/\∀ y∈x.Af,Aw.Wf y
 joints:x.joints.length<=reachBytes/\∀ y∈x.joints,Ba.Wf y
 Ah:x.Ah.length<=reachBytes/\∀ y∈x.Ah,A0.Wf y
 balises:x.balises.length<=reachBytes/\∀ y∈x.balises,A4.Wf y
structure An where
 el:Int
 inV:Int
 out:Int
deriving DecidableEq,Inhabited
def An.enc (x:An):D:=.agg [.int .i64 x.el,.int .i64 x.inV,.int .i64 x.out]
structure An.Wf (x:An):Prop where
 el:I64 x.el
 inV:I64 x.inV
 out:I64 x.out
structure Aa where
 el:Int
 pos:Int
deriving DecidableEq,Inhabited
def Aa.enc (x:Aa):D:=.agg [.int .i64 x.el,.int .i64 x.pos]
structure Aa.Wf (x:Aa):Prop where
 el:I64 x.el
 pos:I64 x.pos
structure Ai where
 name:BA
 entry:Int
 exit:Int
 path:(List An)
 Ae:(List Aa)
 Ad:(List Int)
 A2:Int
 length:Int
 over:(List An)
 Aj:(List Aa)
 Ao:(List Int)
 At:(List Aa)
 guards:(List Int)
 gaps:(List End)
deriving DecidableEq,Inhabited
def Ai.enc (x:Ai):D:=.agg [.str x.name,.int .i64 x.entry,.int .i64 x.exit,.sl 3 (x.path.map An.enc),.sl 2 (x.Ae.map Aa.enc),.sl 1 (x.Ad.map (D.int .i64)),.int .i64 x.A2,.int .i64 x.length,.sl 3 (x.over.map An.enc),.sl 2 (x.Aj.map Aa.enc),.sl 1 (x.Ao.map (D.int .i64)),.sl 2 (x.At.map Aa.enc),.sl 1 (x.guards.map (D.int .i64)),.sl 2 (x.gaps.map End.enc)]
structure Ai.Wf (x:Ai):Prop where
 name:x.name.size<=reachBytes
 entry:I64 x.entry
 exit:I64 x.exit
 path:x.path.length<=reachBytes/\∀ y∈x.path,An.Wf y
 Ae:x.Ae.length<=reachBytes/\∀ y∈x.Ae,Aa.Wf y
 Ad:x.Ad.length<=reachBytes/\∀ y∈x.Ad,I64 y
 A2:I64 x.A2
 length:I64 x.length
 over:x.over.length<=reachBytes/\∀ y∈x.over,An.Wf y
 Aj:x.Aj.length<=reachBytes/\∀ y∈x.Aj,Aa.Wf y
 Ao:x.Ao.length<=reachBytes/\∀ y∈x.Ao,I64 y
 At:x.At.length<=reachBytes/\∀ y∈x.At,Aa.Wf y
 guards:x.guards.length<=reachBytes/\∀ y∈x.guards,I64 y
 gaps:x.gaps.length<=reachBytes/\∀ y∈x.gaps,End.Wf y
structure Al where
 Ab:(List Ai)
 Ae:(List Int)
 A1:(List Int)
 Ad:Int
 Ah:Int
deriving DecidableEq,Inhabited
def Al.enc (x:Al):D:=.agg [.sl 14 (x.Ab.map Ai.enc),.sl 1 (x.Ae.map (D.int .i64)),.sl 1 (x.A1.map (D.int .i64)),.int .i64 x.Ad,.int .i64 x.Ah]
structure Al.Wf (x:Al):Prop where
 Ab:x.Ab.length<=reachBytes/\∀ y∈x.Ab,Ai.Wf y
 Ae:x.Ae.length<=reachBytes/\∀ y∈x.Ae,I64 y
 A1:x.A1.length<=reachBytes/\∀ y∈x.A1,I64 y
 Ad:I64 x.Ad
 Ah:I64 x.Ah
structure Ak where
 state:Int
 rel:Int
 timer:Int
deriving DecidableEq,Inhabited
def Ak.enc (x:Ak):D:=.agg [.int .i64 x.state,.int .i64 x.rel,.int .i64 x.timer]
structure Ak.Wf (x:Ak):Prop where
 state:I64 x.state
 rel:I64 x.rel
 timer:I64 x.timer
structure Az where
 Ab:(List Ak)
 lies:(List Int)
deriving DecidableEq,Inhabited
def Az.enc (x:Az):D:=.agg [.sl 3 (x.Ab.map Ak.enc),.sl 1 (x.lies.map (D.int .i64))]
structure Az.Wf (x:Az):Prop where
 Ab:x.Ab.length<=reachBytes/\∀ y∈x.Ab,Ak.Wf y
 lies:x.lies.length<=reachBytes/\∀ y∈x.lies,I64 y
structure A5 where
 id:Int
 origin:Int
 endV:Int
 atV:Int
 steps:(List An)
 Ab:(List Int)
 starts:(List Int)
 ends:(List Int)
 done:(List Int)
 min:Int
 sent:Int
 accepted:Int
 cut:Int
 cutSeq:Int
deriving DecidableEq,Inhabited
def A5.enc (x:A5):D:=.agg [.int .i64 x.id,.int .i64 x.origin,.int .i64 x.endV,.int .i64 x.atV,.sl 3 (x.steps.map An.enc),.sl 1 (x.Ab.map (D.int .i64)),.sl 1 (x.starts.map (D.int .i64)),.sl 1 (x.ends.map (D.int .i64)),.sl 1 (x.done.map (D.int .i64)),.int .i64 x.min,.int .i64 x.sent,.int .i64 x.accepted,.int .i64 x.cut,.int .i64 x.cutSeq]
structure A5.Wf (x:A5):Prop where
 id:I64 x.id
 origin:I64 x.origin
 endV:I64 x.endV
 atV:I64 x.atV
 steps:x.steps.length<=reachBytes/\∀ y∈x.steps,An.Wf y
 Ab:x.Ab.length<=reachBytes/\∀ y∈x.Ab,I64 y
 starts:x.starts.length<=reachBytes/\∀ y∈x.starts,I64 y
 ends:x.ends.length<=reachBytes/\∀ y∈x.ends,I64 y
 done:x.done.length<=reachBytes/\∀ y∈x.done,I64 y
 min:I64 x.min
 sent:I64 x.sent
 accepted:I64 x.accepted
 cut:I64 x.cut
 cutSeq:I64 x.cutSeq
structure Ax where
 peer:Int
 out:Int
 inV:Int
 heard:Int
deriving DecidableEq,Inhabited
def Ax.enc (x:Ax):D:=.agg [.int .i64 x.peer,.int .i64 x.out,.int .i64 x.inV,.int .i64 x.heard]
structure Ax.Wf (x:Ax):Prop where
 peer:I64 x.peer
 out:I64 x.out
 inV:I64 x.inV
 heard:I64 x.heard
structure Bg where
 tracks:(List A5)
 sessions:(List Ax)
deriving DecidableEq,Inhabited
def Bg.enc (x:Bg):D:=.agg [.sl 14 (x.tracks.map A5.enc),.sl 4 (x.sessions.map Ax.enc)]
structure Bg.Wf (x:Bg):Prop where
 tracks:x.tracks.length<=reachBytes/\∀ y∈x.tracks,A5.Wf y
 sessions:x.sessions.length<=reachBytes/\∀ y∈x.sessions,Ax.Wf y
structure Ar where
 pos:Int
 goal:Int
 timer:Int
deriving DecidableEq,Inhabited
def Ar.enc (x:Ar):D:=.agg [.int .i64 x.pos,.int .i64 x.goal,.int .i64 x.timer]
structure Ar.Wf (x:Ar):Prop where
 pos:I64 x.pos
 goal:I64 x.goal
 timer:I64 x.timer
structure Bc where
 steps:(List An)
 head:Int
 length:Int
deriving DecidableEq,Inhabited
def Bc.enc (x:Bc):D:=.agg [.sl 3 (x.steps.map An.enc),.int .i64 x.head,.int .i64 x.length]
structure Bc.Wf (x:Bc):Prop where
 steps:x.steps.length<=reachBytes/\∀ y∈x.steps,An.Wf y
 head:I64 x.head
 length:I64 x.length
structure Bd where
 id:Int
 name:BA
 length:Int
 speed:Int
 accel:Int
 service:Int
 emergency:Int
 delay:Int
 const:Int
 rate:Int
deriving DecidableEq,Inhabited
def Bd.enc (x:Bd):D:=.agg [.int .i64 x.id,.str x.name,.int .i64 x.length,.int .i64 x.speed,.int .i64 x.accel,.int .i64 x.service,.int .i64 x.emergency,.int .i64 x.delay,.int .i64 x.const,.int .i64 x.rate]
structure Bd.Wf (x:Bd):Prop where
 id:I64 x.id
 name:x.name.size<=reachBytes
 length:I64 x.length
 speed:I64 x.speed
 accel:I64 x.accel
 service:I64 x.service
 emergency:I64 x.emergency
 delay:I64 x.delay
 const:I64 x.const
 rate:I64 x.rate
structure Bq where
 min:Int
 max:Int
 speed:Int
deriving DecidableEq,Inhabited
structure Bq.Wf (x:Bq):Prop where
 min:I64 x.min
 max:I64 x.max
 speed:I64 x.speed
structure A8 where
 fromV:Int
 to:Int
 grade:Int
 speed:Int
deriving DecidableEq,Inhabited
def A8.enc (x:A8):D:=.agg [.int .i64 x.fromV,.int .i64 x.to,.int .i64 x.grade,.int .i64 x.speed]
structure A8.Wf (x:A8):Prop where
 fromV:I64 x.fromV
 to:I64 x.to
 grade:I64 x.grade
 speed:I64 x.speed
structure Bb where
 id:Int
 atV:Int
deriving DecidableEq,Inhabited
def Bb.enc (x:Bb):D:=.agg [.int .i64 x.id,.int .i64 x.atV]
structure Bb.Wf (x:Bb):Prop where
 id:I64 x.id
 atV:I64 x.atV
structure Bo where
 seq:Int
 endV:Int
 profile:(List A8)
 links:(List Bb)
deriving DecidableEq,Inhabited
structure Bo.Wf (x:Bo):Prop where
 seq:I64 x.seq
 endV:I64 x.endV
 profile:x.profile.length<=reachBytes/\∀ y∈x.profile,A8.Wf y
 links:x.links.length<=reachBytes/\∀ y∈x.links,Bb.Wf y
structure Bt where
 known:Bool
 since:Int
deriving DecidableEq,Inhabited
structure Bt.Wf (x:Bt):Prop where
 known:True
 since:I64 x.since
structure Cab where
 train:Bd
 mode:Int
 brake:Int
 next:Int
 est:Bq
 auth:Bo
 session:Ax
 tail:Bt
deriving DecidableEq,Inhabited
def Cab.enc (x:Cab):D:=.agg [.int .i64 x.train.id,.str x.train.name,.int .i64 x.train.length,.int .i64 x.train.speed,.int .i64 x.train.accel,.int .i64 x.train.service,.int .i64 x.train.emergency,.int .i64 x.train.delay,.int .i64 x.train.const,.int .i64 x.train.rate,.int .i64 x.mode,.int .i64 x.brake,.int .i64 x.next,.int .i64 x.est.min,.int .i64 x.est.max,.int .i64 x.est.speed,.int .i64 x.auth.seq,.int .i64 x.auth.endV,.sl 4 (x.auth.profile.map A8.enc),.sl 2 (x.auth.links.map Bb.enc),.int .i64 x.session.peer,.int .i64 x.session.out,.int .i64 x.session.inV,.int .i64 x.session.heard,.bool x.tail.known,.int .i64 x.tail.since]
structure Cab.Wf (x:Cab):Prop where
 train:Bd.Wf x.train
 mode:I64 x.mode
 brake:I64 x.brake
 next:I64 x.next
 est:Bq.Wf x.est
 auth:Bo.Wf x.auth
 session:Ax.Wf x.session
 tail:Bt.Wf x.tail
structure Av where
 body:Bc
 speed:Int
 xV:Int
 braking:Int
 cab:Cab
deriving DecidableEq,Inhabited
def Av.enc (x:Av):D:=.agg [.sl 3 (x.body.steps.map An.enc),.int .i64 x.body.head,.int .i64 x.body.length,.int .i64 x.speed,.int .i64 x.xV,.int .i64 x.braking,.int .i64 x.cab.train.id,.str x.cab.train.name,.int .i64 x.cab.train.length,.int .i64 x.cab.train.speed,.int .i64 x.cab.train.accel,.int .i64 x.cab.train.service,.int .i64 x.cab.train.emergency,.int .i64 x.cab.train.delay,.int .i64 x.cab.train.const,.int .i64 x.cab.train.rate,.int .i64 x.cab.mode,.int .i64 x.cab.brake,.int .i64 x.cab.next,.int .i64 x.cab.est.min,.int .i64 x.cab.est.max,.int .i64 x.cab.est.speed,.int .i64 x.cab.auth.seq,.int .i64 x.cab.auth.endV,.sl 4 (x.cab.auth.profile.map A8.enc),.sl 2 (x.cab.auth.links.map Bb.enc),.int .i64 x.cab.session.peer,.int .i64 x.cab.session.out,.int .i64 x.cab.session.inV,.int .i64 x.cab.session.heard,.bool x.cab.tail.known,.int .i64 x.cab.tail.since]
structure Av.Wf (x:Av):Prop where
 body:Bc.Wf x.body
 speed:I64 x.speed
 xV:I64 x.xV
 braking:I64 x.braking
 cab:Cab.Wf x.cab
structure A9 where
 fromV:Int
 to:Int
 age:Int
 data:BA
deriving DecidableEq,Inhabited
def A9.enc (x:A9):D:=.agg [.int .i64 x.fromV,.int .i64 x.to,.int .i64 x.age,.str x.data]
structure A9.Wf (x:A9):Prop where
 fromV:I64 x.fromV
 to:I64 x.to
 age:I64 x.age
 data:x.data.size<=reachBytes
structure Be where
 kind:Int
 atV:Int
 untilV:Int
deriving DecidableEq,Inhabited
def Be.enc (x:Be):D:=.agg [.int .i64 x.kind,.int .i64 x.atV,.int .i64 x.untilV]
structure Be.Wf (x:Be):Prop where
 kind:I64 x.kind
 atV:I64 x.atV
 untilV:I64 x.untilV
structure Bl where
 kind:Int
 subject:Int
 since:Int
 byV:BA
deriving DecidableEq,Inhabited
def Bl.enc (x:Bl):D:=.agg [.int .i64 x.kind,.int .i64 x.subject,.int .i64 x.since,.str x.byV]
structure Bl.Wf (x:Bl):Prop where
 kind:I64 x.kind
 subject:I64 x.subject
 since:I64 x.since
 byV:x.byV.size<=reachBytes
structure Ay where
 As:Int
 since:Int
 byV:BA
 withV:BA
deriving DecidableEq,Inhabited
def Ay.enc (x:Ay):D:=.agg [.int .i64 x.As,.int .i64 x.since,.str x.byV,.str x.withV]
structure Ay.Wf (x:Ay):Prop where
 As:I64 x.As
 since:I64 x.since
 byV:x.byV.size<=reachBytes
 withV:x.withV.size<=reachBytes
structure Au where
 id:Int
 el:Int
 fromV:Int
 to:Int
 speed:Int
 active:Bool
deriving DecidableEq,Inhabited
def Au.enc (x:Au):D:=.agg [.int .i64 x.id,.int .i64 x.el,.int .i64 x.fromV,.int .i64 x.to,.int .i64 x.speed,.bool x.active]
structure Au.Wf (x:Au):Prop where
 id:I64 x.id
 el:I64 x.el
 fromV:I64 x.fromV
 to:I64 x.to
 speed:I64 x.speed
 active:True
structure Bf where
 train:Int
 kind:Int
 untilV:Int
deriving DecidableEq,Inhabited
def Bf.enc (x:Bf):D:=.agg [.int .i64 x.train,.int .i64 x.kind,.int .i64 x.untilV]
structure Bf.Wf (x:Bf):Prop where
 train:I64 x.train
 kind:I64 x.kind
 untilV:I64 x.untilV
structure Stop where
 route:Int
 due:Int
 run:Int
 weight:Int
deriving DecidableEq,Inhabited
def Stop.enc (x:Stop):D:=.agg [.int .i64 x.route,.int .i64 x.due,.int .i64 x.run,.int .i64 x.weight]
structure Stop.Wf (x:Stop):Prop where
 route:I64 x.route
 due:I64 x.due
 run:I64 x.run
 weight:I64 x.weight
structure A6 where
 train:Int
 stops:(List Stop)
deriving DecidableEq,Inhabited
def A6.enc (x:A6):D:=.agg [.int .i64 x.train,.sl 4 (x.stops.map Stop.enc)]
structure A6.Wf (x:A6):Prop where
 train:I64 x.train
 stops:x.stops.length<=reachBytes/\∀ y∈x.stops,Stop.Wf y
structure A7 where
 starts:(List (List Int))
 cost:Int
deriving DecidableEq,Inhabited
def A7.enc (x:A7):D:=.agg [.sl 1 (x.starts.map (λ(l:List Int)=>D.sl 1 (l.map (D.int .i64)))),.int .i64 x.cost]
structure A7.Wf (x:A7):Prop where
 starts:x.starts.length<=reachBytes/\∀ y∈x.starts,y.length<=reachBytes/\∀ z∈y,I64 z
 cost:I64 x.cost
structure A3 where
 atV:Int
 trip:Int
 stop:Int
 route:Int
 delay:Int
deriving DecidableEq,Inhabited
def A3.enc (x:A3):D:=.agg [.int .i64 x.atV,.int .i64 x.trip,.int .i64 x.stop,.int .i64 x.route,.int .i64 x.delay]
structure A3.Wf (x:A3):Prop where
 atV:I64 x.atV
 trip:I64 x.trip
 stop:I64 x.stop
 route:I64 x.route
 delay:I64 x.delay
structure Am where
 layout:Ag
 Aq:Al
 inter:Az
 machines:(List Ar)
 clear:(List Bool)
 units:(List Av)
 center:Bg
 air:(List A9)
 faults:(List Be)
 pending:(List Bl)
 possessions:(List Ay)
 restrictions:(List Au)
 orders:(List Bf)
 trips:(List A6)
 plan:A7
 progress:(List Int)
 decisions:(List A3)
 now:Int
deriving DecidableEq,Inhabited
def Am.enc (x:Am):D:=.agg [.str x.layout.name,.sl 1 (x.layout.Ad.map D.str),.sl 7 (x.layout.Af.map Aw.enc),.sl 4 (x.layout.joints.map Ba.enc),.sl 4 (x.layout.Ah.map A0.enc),.sl 3 (x.layout.balises.map A4.enc),.sl 14 (x.Aq.Ab.map Ai.enc),.sl 1 (x.Aq.Ae.map (D.int .i64)),.sl 1 (x.Aq.A1.map (D.int .i64)),.int .i64 x.Aq.Ad,.int .i64 x.Aq.Ah,.sl 3 (x.inter.Ab.map Ak.enc),.sl 1 (x.inter.lies.map (D.int .i64)),.sl 3 (x.machines.map Ar.enc),.sl 1 (x.clear.map D.bool),.sl 32 (x.units.map Av.enc),.sl 14 (x.center.tracks.map A5.enc),.sl 4 (x.center.sessions.map Ax.enc),.sl 4 (x.air.map A9.enc),.sl 3 (x.faults.map Be.enc),.sl 4 (x.pending.map Bl.enc),.sl 4 (x.possessions.map Ay.enc),.sl 6 (x.restrictions.map Au.enc),.sl 3 (x.orders.map Bf.enc),.sl 2 (x.trips.map A6.enc),.sl 1 (x.plan.starts.map (λ(l:List Int)=>D.sl 1 (l.map (D.int .i64)))),.int .i64 x.plan.cost,.sl 1 (x.progress.map (D.int .i64)),.sl 5 (x.decisions.map A3.enc),.int .i64 x.now]
structure Am.Wf (x:Am):Prop where
 layout:Ag.Wf x.layout
 Aq:Al.Wf x.Aq
 inter:Az.Wf x.inter
 machines:x.machines.length<=reachBytes/\∀ y∈x.machines,Ar.Wf y
 clear:x.clear.length<=reachBytes/\∀ y∈x.clear,True
 units:x.units.length<=reachBytes/\∀ y∈x.units,Av.Wf y
 center:Bg.Wf x.center
 air:x.air.length<=reachBytes/\∀ y∈x.air,A9.Wf y
 faults:x.faults.length<=reachBytes/\∀ y∈x.faults,Be.Wf y
 pending:x.pending.length<=reachBytes/\∀ y∈x.pending,Bl.Wf y
 possessions:x.possessions.length<=reachBytes/\∀ y∈x.possessions,Ay.Wf y
 restrictions:x.restrictions.length<=reachBytes/\∀ y∈x.restrictions,Au.Wf y
 orders:x.orders.length<=reachBytes/\∀ y∈x.orders,Bf.Wf y
 trips:x.trips.length<=reachBytes/\∀ y∈x.trips,A6.Wf y
 plan:A7.Wf x.plan
 progress:x.progress.length<=reachBytes/\∀ y∈x.progress,I64 y
 decisions:x.decisions.length<=reachBytes/\∀ y∈x.decisions,A3.Wf y
 now:I64 x.now
structure Bh where
 a0:(List BA)
 a1:(List BA)
 a2:(List BA)
deriving DecidableEq,Inhabited
def Bh.enc (x:Bh):D:=.agg [.sl 1 (x.a0.map D.str),.sl 1 (x.a1.map D.str),.sl 1 (x.a2.map D.str)]
structure Bh.Wf (x:Bh):Prop where
 a0:x.a0.length<=reachBytes/\∀ y∈x.a0,y.size<=reachBytes
 a1:x.a1.length<=reachBytes/\∀ y∈x.a1,y.size<=reachBytes
 a2:x.a2.length<=reachBytes/\∀ y∈x.a2,y.size<=reachBytes
structure Bp where
 l:(List (List An))
deriving DecidableEq,Inhabited
structure Bp.Wf (x:Bp):Prop where
 l:x.l.length<=reachBytes/\∀ y∈x.l,y.length<=reachBytes/\∀ z∈y,An.Wf z
structure Bn where
 t:Al
 trips:(List A6)
 best:A7
 found:Bool
deriving DecidableEq,Inhabited
structure Bn.Wf (x:Bn):Prop where
 t:Al.Wf x.t
 trips:x.trips.length<=reachBytes/\∀ y∈x.trips,A6.Wf y
 best:A7.Wf x.best
 found:True
structure Ac where
 kind:Int
 a:Int
 b:Int
deriving DecidableEq,Inhabited
def Ac.enc (x:Ac):D:=.agg [.int .i64 x.kind,.int .i64 x.a,.int .i64 x.b]
structure Ac.Wf (x:Ac):Prop where
 kind:I64 x.kind
 a:I64 x.a
 b:I64 x.b
structure Ap where
 a0:Int
 a1:Int
deriving DecidableEq,Inhabited
def Ap.enc (x:Ap):D:=.agg [.int .i64 x.a0,.int .i64 x.a1]
structure Ap.Wf (x:Ap):Prop where
 a0:I64 x.a0
 a1:I64 x.a1
structure Br where
 kind:Int
 inV:Int
 out:Int
 need:Int
deriving DecidableEq,Inhabited
def Br.enc (x:Br):D:=.agg [.int .i64 x.kind,.int .i64 x.inV,.int .i64 x.out,.int .i64 x.need]
structure Br.Wf (x:Br):Prop where
 kind:I64 x.kind
 inV:I64 x.inV
 out:I64 x.out
 need:I64 x.need
def Ac.ok (x:Ac):Prop:=I64 x.kind/\I64 x.a/\I64 x.b
instance (x:Ac):Decidable (Ac.ok x):=by unfold Ac.ok;infer_instance
theorem qBB (x y:Ac):([.int .i64 x.kind,.int .i64 x.a,.int .i64 x.b]:List Lit)=[.int .i64 y.kind,.int .i64 y.a,.int .i64 y.b]↔decide (x=y)=true:=by
 rw [decide_eq_true_eq]
 obtain⟨_,_,_⟩:=x
 obtain⟨_,_,_⟩:=y
 simp [Ac.mk.injEq,qX,and_assoc]
def An.ok (x:An):Prop:=I64 x.el/\I64 x.inV/\I64 x.out
instance (x:An):Decidable (An.ok x):=by unfold An.ok;infer_instance
theorem qYL (x y:An):([.int .i64 x.el,.int .i64 x.inV,.int .i64 x.out]:List Lit)=[.int .i64 y.el,.int .i64 y.inV,.int .i64 y.out]↔decide (x=y)=true:=by
 rw [decide_eq_true_eq]
 obtain⟨_,_,_⟩:=x
 obtain⟨_,_,_⟩:=y
 simp [An.mk.injEq,qX,and_assoc]
def Aa.ok (x:Aa):Prop:=I64 x.el/\I64 x.pos
instance (x:Aa):Decidable (Aa.ok x):=by unfold Aa.ok;infer_instance
theorem qBA (x y:Aa):([.int .i64 x.el,.int .i64 x.pos]:List Lit)=[.int .i64 y.el,.int .i64 y.pos]↔decide (x=y)=true:=by
 rw [decide_eq_true_eq]
 obtain⟨_,_⟩:=x
 obtain⟨_,_⟩:=y
 simp [Aa.mk.injEq,qX,and_assoc]
def End.ok (x:End):Prop:=I64 x.el/\I64 x.side
instance (x:End):Decidable (End.ok x):=by unfold End.ok;infer_instance
theorem qRO (x y:End):([.int .i64 x.el,.int .i64 x.side]:List Lit)=[.int .i64 y.el,.int .i64 y.side]↔decide (x=y)=true:=by
 rw [decide_eq_true_eq]
 obtain⟨_,_⟩:=x
 obtain⟨_,_⟩:=y
 simp [End.mk.injEq,qX,and_assoc]
def Ap.ok (x:Ap):Prop:=I64 x.a0/\I64 x.a1
instance (x:Ap):Decidable (Ap.ok x):=by unfold Ap.ok;infer_instance
theorem qRQ (x y:Ap):([.int .i64 x.a0,.int .i64 x.a1]:List Lit)=[.int .i64 y.a0,.int .i64 y.a1]↔decide (x=y)=true:=by
 rw [decide_eq_true_eq]
 obtain⟨_,_⟩:=x
 obtain⟨_,_⟩:=y
 simp [Ap.mk.injEq,qX,and_assoc]
noncomputable abbrev TP := Tryz.prog
def cb_l:List Nat:=[3,6,7,8,9,10,11,12,13,14,16,17,18,19,20,21,22,23,24,25,26,27,28,29,30,31,32,33,34,35,36,37,38,39,40,41,42,43,44,45,46,47,48,49,50,51,52,53,54,55,56,57,58,59,60,61,62,63,64,65,66,67,68,69,70,71,72,73,74,75,76,77,78,79,80,81,82,83,84,85,86,87,88,89,90,91,92,93,94,95,96,97,98,99,100,101,102,103,104,105,106,107,108,109,110,111,112,113,114,115,116,117,118,119,120,121,122,123,124,125,126,127,128,129,130,131,132,133,134,135,136,137,138,139,140,141,142,143,144,145,146,147,148,149,150,151,152,153,154,155,156,157,158,159,160,161,162,163,164,165,166,167,168,170,171,172,173,174,177,178,179,180,181,182,183,184,185,186,187,188,189,190,191,192,204,205,207,208,214,223,224,225]
theorem cb_all:cb_l.all (qW TP)=true:=by kernel_rfl
theorem aZ {F:Nat} (h:cb_l.elem F=true):qW TP F=true:=zQT.1 cb_all F (List.elem_iff.1 h)
theorem follows:TP.follows .mixedOrders=true:=by kernel_rfl
theorem own:ownKnob TP.godebug=none:=by kernel_rfl
theorem zEE:laidOutB TP=true:=by kernel_rfl
def tab:Tab where
 lay:=[(3,false,1),(4,false,1),(9,false,1),(22,false,1),(23,false,1),(24,false,1),(25,false,1),(26,false,1),(28,true,6),(29,false,1),(30,false,1),(32,true,5),(33,false,1),(35,true,2),(36,false,1),(37,false,1),(38,false,1),(39,false,1),(40,false,1),(42,true,2),(43,false,1),(44,false,1),(45,false,1),(46,false,1),(47,false,1),(48,false,1),(49,false,1),(50,false,1),(52,true,2),(53,false,1),(55,true,30),(64,true,10),(67,false,1),(68,false,1),(72,true,4),(76,true,26),(77,false,1),(79,true,3),(81,true,32),(83,true,3),(85,false,1),(87,true,2),(106,true,3),(110,false,1),(111,false,1),(113,true,14),(115,true,14),(126,true,2),(129,true,3),(135,true,4),(147,true,2),(149,true,4),(151,true,7),(153,true,4),(158,true,3),(163,false,1),(171,true,3),(182,true,3),(224,true,2),(228,true,4),(229,true,40),(233,false,1)]
 fs:=[(28,[(0,false,1),(1,false,1),(2,false,1),(3,false,1),(4,false,1),(5,false,1)]),(32,[(0,false,1),(1,false,1),(2,false,1),(3,false,1),(4,false,1)]),(35,[(0,false,1),(1,false,1)]),(42,[(0,false,1),(1,false,1)]),(52,[(0,false,1),(1,false,1)]),(55,[(0,true,6),(6,true,5),(11,true,2),(13,false,1),(14,false,1),(15,false,1),(16,true,2),(18,false,1),(19,false,1),(20,false,1),(21,false,1),(22,false,1),(23,false,1),(24,false,1),(25,true,2),(27,false,1),(28,false,1),(29,false,1)]),(64,[(0,false,1),(1,false,1),(2,false,1),(3,false,1),(4,false,1),(5,false,1),(6,false,1),(7,false,1),(8,false,1),(9,false,1)]),(70,[(0,false,1),(1,false,1),(2,false,1),(3,false,1)]),(72,[(0,false,1),(1,false,1),(2,false,1),(3,false,1)]),(76,[(0,true,10),(10,false,1),(11,false,1),(12,false,1),(13,true,3),(16,true,4),(20,true,4),(24,true,2)]),(79,[(0,false,1),(1,false,1),(2,false,1)]),(81,[(0,true,3),(3,false,1),(4,false,1),(5,false,1),(6,true,26)]),(87,[(0,false,1),(1,false,1)]),(89,[(0,false,1),(1,false,1),(2,false,1),(3,false,1)]),(106,[(0,false,1),(1,false,1),(2,false,1)]),(113,[(0,false,1),(1,false,1),(2,false,1),(3,false,1),(4,false,1),(5,false,1),(6,false,1),(7,false,1),(8,false,1),(9,false,1),(10,false,1),(11,false,1),(12,false,1),(13,false,1)]),(115,[(0,false,1),(1,false,1),(2,false,1),(3,false,1),(4,false,1),(5,false,1),(6,false,1),(7,false,1),(8,false,1),(9,false,1),(10,false,1),(11,false,1),(12,false,1),(13,false,1)]),(126,[(0,false,1),(1,false,1)]),(129,[(0,false,1),(1,false,1),(2,false,1)]),(135,[(0,false,1),(1,false,1),(2,false,1),(3,false,1)]),(147,[(0,false,1),(1,false,1)]),(149,[(0,false,1),(1,true,2),(3,false,1)]),(151,[(0,false,1),(1,false,1),(2,false,1),(3,false,1),(4,false,1),(5,false,1),(6,false,1)]),(153,[(0,true,2),(2,true,2)]),(158,[(0,false,1),(1,false,1),(2,false,1)]),(182,[(0,false,1),(1,false,1),(2,false,1)]),(218,[(0,true,5),(5,false,1),(6,true,2),(8,false,1)]),(228,[(0,false,1),(1,false,1),(2,false,1),(3,false,1)]),(235,[(0,false,1)])]
 sel:=[(22,9,1,16),(23,151,7,64),(24,153,4,32),(25,149,4,40),(26,182,3,24),(29,113,14,264),(30,3,1,8),(33,158,3,24),(36,129,3,24),(37,4,1,1),(38,81,32,312),(39,115,14,192),(40,72,4,32),(43,89,4,40),(44,320,3,24),(45,322,4,40),(46,324,4,48),(47,326,6,48),(48,328,3,24),(49,87,2,32),(50,30,1,24),(53,330,5,40),(60,83,3,24),(67,332,4,32),(68,334,2,16),(77,106,3,24),(85,135,4,32),(103,64,10,88),(104,79,3,40),(110,126,2,16),(111,147,2,16),(162,163,1,24),(163,224,2,16),(233,77,1,24),(265,5,1,1),(283,110,1,24)]
 str:=[(9,())]
 boo:=[(4,())]
 con:=[]
theorem TK:TabOk TP tab:=zDE (by kernel_rfl)
section
variable {n k:Nat} {w:World} {g:Gh} {mv:Nat->Bool} {x y:Code} {ops ops':Array Oper} {l l':List Oper} {e e':Exit} {fr fr':Fr} {hp hp':List Blk} {ks kt:List Kt} {Q:Exit->St->Prop}
theorem bN (j:Nat) (h:run tab n j (.kc x fr hp [])=.kc y fr' hp' kt) (hk:TWp ⟨TP,n,w,k,g,mv⟩ y ⟨fr',hp'⟩ (post ⟨TP,n,w,k,g,mv⟩ kt Q)):TWp ⟨TP,n,w,k,g,mv⟩ x ⟨fr,hp⟩ Q:=rZ (C:=⟨TP,n,w,k,g,mv⟩) (Q:=Q) (m:=.kc x fr hp []) TK h hk
theorem aO (j:Nat) (h:run tab n j (.kc x fr hp [])=.ko ops' l' fr' hp' kt) (hk:cE ⟨TP,n,w,k,g,mv⟩ ops' l' ⟨fr',hp'⟩ (pn ⟨TP,n,w,k,g,mv⟩ kt Q)):TWp ⟨TP,n,w,k,g,mv⟩ x ⟨fr,hp⟩ Q:=rZ (C:=⟨TP,n,w,k,g,mv⟩) (Q:=Q) (m:=.kc x fr hp []) TK h hk
theorem zAA (j:Nat) (h:run tab n j (.kc x fr hp [])=.kx e' fr' hp' kt) (hk:post ⟨TP,n,w,k,g,mv⟩ kt Q e' ⟨fr',hp'⟩):TWp ⟨TP,n,w,k,g,mv⟩ x ⟨fr,hp⟩ Q:=rZ (C:=⟨TP,n,w,k,g,mv⟩) (Q:=Q) (m:=.kc x fr hp []) TK h hk
theorem bM (j:Nat) (h:run tab n j (.kc x fr hp ks)=.kc y fr' hp' kt) (hk:TWp ⟨TP,n,w,k,g,mv⟩ y ⟨fr',hp'⟩ (post ⟨TP,n,w,k,g,mv⟩ kt Q)):TWp ⟨TP,n,w,k,g,mv⟩ x ⟨fr,hp⟩ (post ⟨TP,n,w,k,g,mv⟩ ks Q):=rZ (C:=⟨TP,n,w,k,g,mv⟩) (Q:=Q) (m:=.kc x fr hp ks) TK h hk
theorem aR (j:Nat) (h:run tab n j (.kc x fr hp ks)=.ko ops' l' fr' hp' kt) (hk:cE ⟨TP,n,w,k,g,mv⟩ ops' l' ⟨fr',hp'⟩ (pn ⟨TP,n,w,k,g,mv⟩ kt Q)):TWp ⟨TP,n,w,k,g,mv⟩ x ⟨fr,hp⟩ (post ⟨TP,n,w,k,g,mv⟩ ks Q):=rZ (C:=⟨TP,n,w,k,g,mv⟩) (Q:=Q) (m:=.kc x fr hp ks) TK h hk
theorem aM (j:Nat) (h:run tab n j (.kc x fr hp ks)=.kx e' fr' hp' kt) (hk:post ⟨TP,n,w,k,g,mv⟩ kt Q e' ⟨fr',hp'⟩):TWp ⟨TP,n,w,k,g,mv⟩ x ⟨fr,hp⟩ (post ⟨TP,n,w,k,g,mv⟩ ks Q):=rZ (C:=⟨TP,n,w,k,g,mv⟩) (Q:=Q) (m:=.kc x fr hp ks) TK h hk
theorem aL (j:Nat) (h:run tab n j (.ko ops l fr hp ks)=.kc y fr' hp' kt) (hk:TWp ⟨TP,n,w,k,g,mv⟩ y ⟨fr',hp'⟩ (post ⟨TP,n,w,k,g,mv⟩ kt Q)):cE ⟨TP,n,w,k,g,mv⟩ ops l ⟨fr,hp⟩ (pn ⟨TP,n,w,k,g,mv⟩ ks Q):=rZ (C:=⟨TP,n,w,k,g,mv⟩) (Q:=Q) (m:=.ko ops l fr hp ks) TK h hk
theorem aG (j:Nat) (h:run tab n j (.ko ops l fr hp ks)=.ko ops' l' fr' hp' kt) (hk:cE ⟨TP,n,w,k,g,mv⟩ ops' l' ⟨fr',hp'⟩ (pn ⟨TP,n,w,k,g,mv⟩ kt Q)):cE ⟨TP,n,w,k,g,mv⟩ ops l ⟨fr,hp⟩ (pn ⟨TP,n,w,k,g,mv⟩ ks Q):=rZ (C:=⟨TP,n,w,k,g,mv⟩) (Q:=Q) (m:=.ko ops l fr hp ks) TK h hk
theorem aE (j:Nat) (h:run tab n j (.ko ops l fr hp ks)=.kx e' fr' hp' kt) (hk:post ⟨TP,n,w,k,g,mv⟩ kt Q e' ⟨fr',hp'⟩):cE ⟨TP,n,w,k,g,mv⟩ ops l ⟨fr,hp⟩ (pn ⟨TP,n,w,k,g,mv⟩ ks Q):=rZ (C:=⟨TP,n,w,k,g,mv⟩) (Q:=Q) (m:=.ko ops l fr hp ks) TK h hk
theorem bD (j:Nat) (h:run tab n j (.kx e fr hp ks)=.kx e' fr' hp' kt) (hk:post ⟨TP,n,w,k,g,mv⟩ kt Q e' ⟨fr',hp'⟩):post ⟨TP,n,w,k,g,mv⟩ ks Q e ⟨fr,hp⟩:=rZ (C:=⟨TP,n,w,k,g,mv⟩) (Q:=Q) (m:=.kx e fr hp ks) TK h hk
end
theorem kQ:qNE TP 171=some (3,1):=by kernel_rfl
theorem qEV:qNE TP 224=some (2,1):=by kernel_rfl
theorem qVV:qNE TP 281=some (24,1):=by kernel_rfl
theorem zEF:(TP.keyTypeAt 30 106&&!TP.eqGuardType TP.depth 106&&(match TP.underlying 106 with|some (.struct _)=>true|_=>false)&&[TypeDesc.int .i64,TypeDesc.int .i64,TypeDesc.int .i64].length == TP.cellsOf 106)=true:=by kernel_rfl
theorem qUZ:(TP.keyTypeAt 30 126&&!TP.eqGuardType TP.depth 126&&(match TP.underlying 126 with|some (.struct _)=>true|_=>false)&&[TypeDesc.int .i64,TypeDesc.int .i64].length == TP.cellsOf 126)=true:=by kernel_rfl
theorem qUY:(TP.keyTypeAt 30 147&&!TP.eqGuardType TP.depth 147&&(match TP.underlying 147 with|some (.struct _)=>true|_=>false)&&[TypeDesc.int .i64,TypeDesc.int .i64].length == TP.cellsOf 147)=true:=by kernel_rfl
theorem zBJ:(TP.keyTypeAt 30 83&&!TP.eqGuardType TP.depth 83&&(match TP.underlying 83 with|some (.struct _)=>true|_=>false)&&[TypeDesc.int .i64,TypeDesc.int .i64,TypeDesc.int .i64].length == TP.cellsOf 83)=true:=by kernel_rfl
theorem zBI:(TP.keyTypeAt 30 224&&!TP.eqGuardType TP.depth 224)=true:=by kernel_rfl
theorem zBH:tA TP 30 106=some [.int .i64,.int .i64,.int .i64]:=by kernel_rfl
theorem qPU:tA TP 30 126=some [.int .i64,.int .i64]:=by kernel_rfl
theorem qPT:tA TP 30 147=some [.int .i64,.int .i64]:=by kernel_rfl
theorem qUX:tA TP 30 83=some [.int .i64,.int .i64,.int .i64]:=by kernel_rfl
theorem qXN:qGG TP 224=some (List.replicate 2 (TypeDesc.int .i64)):=by kernel_rfl
theorem zBG:lay TP 110=some (false,1):=by kernel_rfl
theorem lay228:lay TP 228=some (true,4):=by kernel_rfl
theorem lay229:lay TP 229=some (true,40):=by kernel_rfl
theorem zGR:lay TP 30=some (false,1):=by kernel_rfl
theorem qME:mty TP 167=some (3,.int .i64,4):=by kernel_rfl
theorem qMD:mty TP 168=some (3,.int .i64,3):=by kernel_rfl
theorem zAT:mty TP 258=some (9,.string,4):=by kernel_rfl
theorem qSR:plc TP 106=some [(0,1),(1,1),(2,1)]:=by kernel_rfl
theorem zAF:plc TP 113=some [(0,1),(1,1),(2,1),(3,1),(4,1),(5,1),(6,1),(7,1),(8,1),(9,1),(10,1),(11,1),(12,1),(13,1)]:=by kernel_rfl
theorem plc115:plc TP 115=some [(0,1),(1,1),(2,1),(3,1),(4,1),(5,1),(6,1),(7,1),(8,1),(9,1),(10,1),(11,1),(12,1),(13,1)]:=by kernel_rfl
theorem qL:plc TP 126=some [(0,1),(1,1)]:=by kernel_rfl
theorem oI:plc TP 147=some [(0,1),(1,1)]:=by kernel_rfl
theorem qSQ:plc TP 149=some [(0,1),(1,2),(3,1)]:=by kernel_rfl
theorem plc151:plc TP 151=some [(0,1),(1,1),(2,1),(3,1),(4,1),(5,1),(6,1)]:=by kernel_rfl
theorem zAE:plc TP 153=some [(0,2),(2,2)]:=by kernel_rfl
theorem plc218:plc TP 218=some [(0,5),(5,1),(6,2),(8,1)]:=by kernel_rfl
theorem plc235:plc TP 235=some [(0,1)]:=by kernel_rfl
theorem plc28:plc TP 28=some [(0,1),(1,1),(2,1),(3,1),(4,1),(5,1)]:=by kernel_rfl
theorem zGM:plc TP 32=some [(0,1),(1,1),(2,1),(3,1),(4,1)]:=by kernel_rfl
theorem plc35:plc TP 35=some [(0,1),(1,1)]:=by kernel_rfl
theorem plc52:plc TP 52=some [(0,1),(1,1)]:=by kernel_rfl
theorem plc55:plc TP 55=some [(0,6),(6,5),(11,2),(13,1),(14,1),(15,1),(16,2),(18,1),(19,1),(20,1),(21,1),(22,1),(23,1),(24,1),(25,2),(27,1),(28,1),(29,1)]:=by kernel_rfl
theorem plc64:plc TP 64=some [(0,1),(1,1),(2,1),(3,1),(4,1),(5,1),(6,1),(7,1),(8,1),(9,1)]:=by kernel_rfl
theorem plc72:plc TP 72=some [(0,1),(1,1),(2,1),(3,1)]:=by kernel_rfl
theorem plc76:plc TP 76=some [(0,10),(10,1),(11,1),(12,1),(13,3),(16,4),(20,4),(24,2)]:=by kernel_rfl
theorem zGL:plc TP 79=some [(0,1),(1,1),(2,1)]:=by kernel_rfl
theorem plc81:plc TP 81=some [(0,3),(3,1),(4,1),(5,1),(6,26)]:=by kernel_rfl
theorem qK:plc TP 83=some [(0,1),(1,1),(2,1)]:=by kernel_rfl
theorem rX:sel TP 110=some (126,2,16):=by kernel_rfl
theorem qBJ:sel TP 283=some (110,1,24):=by kernel_rfl
theorem xP:sel TP 30=some (3,1,8):=by kernel_rfl
theorem qJR:sel TP 50=some (30,1,24):=by kernel_rfl
theorem fL:(TP.info? 106).bind (·.zero)=Option.some (Go.Value.agg #[Go.Value.int Go.IntKind.i64 0,Go.Value.int Go.IntKind.i64 0,Go.Value.int Go.IntKind.i64 0]):=by kernel_rfl
theorem zCY:(TP.info? 110).bind (·.zero)=Option.some (Go.Value.slice Option.none 0 0):=by kernel_rfl
theorem dY:(TP.info? 113).bind (·.zero)=Option.some (Go.Value.agg #[Go.Value.string { data:=#[] },Go.Value.int Go.IntKind.i64 0,Go.Value.int Go.IntKind.i64 0,Go.Value.slice Option.none 0 0,Go.Value.slice Option.none 0 0,Go.Value.slice Option.none 0 0,Go.Value.int Go.IntKind.i64 0,Go.Value.int Go.IntKind.i64 0,Go.Value.slice Option.none 0 0,Go.Value.slice Option.none 0 0,Go.Value.slice Option.none 0 0,Go.Value.slice Option.none 0 0,Go.Value.slice Option.none 0 0,Go.Value.slice Option.none 0 0]):=by kernel_rfl
theorem rE:(TP.info? 115).bind (·.zero)=Option.some (Go.Value.agg #[Go.Value.int Go.IntKind.i64 0,Go.Value.int Go.IntKind.i64 0,Go.Value.int Go.IntKind.i64 0,Go.Value.int Go.IntKind.i64 0,Go.Value.slice Option.none 0 0,Go.Value.slice Option.none 0 0,Go.Value.slice Option.none 0 0,Go.Value.slice Option.none 0 0,Go.Value.slice Option.none 0 0,Go.Value.int Go.IntKind.i64 0,Go.Value.int Go.IntKind.i64 0,Go.Value.int Go.IntKind.i64 0,Go.Value.int Go.IntKind.i64 0,Go.Value.int Go.IntKind.i64 0]):=by kernel_rfl
theorem bX:(TP.info? 126).bind (·.zero)=Option.some (Go.Value.agg #[Go.Value.int Go.IntKind.i64 0,Go.Value.int Go.IntKind.i64 0]):=by kernel_rfl
theorem zCX:(TP.info? 129).bind (·.zero)=Option.some (Go.Value.agg #[Go.Value.int Go.IntKind.i64 0,Go.Value.int Go.IntKind.i64 0,Go.Value.int Go.IntKind.i64 0]):=by kernel_rfl
theorem qUE:(TP.info? 135).bind (·.zero)=Option.some (Go.Value.agg #[Go.Value.int Go.IntKind.i64 0,Go.Value.int Go.IntKind.i64 0,Go.Value.int Go.IntKind.i64 0,Go.Value.int Go.IntKind.i64 0]):=by kernel_rfl
theorem cR:(TP.info? 147).bind (·.zero)=Option.some (Go.Value.agg #[Go.Value.int Go.IntKind.i64 0,Go.Value.int Go.IntKind.i64 0]):=by kernel_rfl
theorem oO:(TP.info? 149).bind (·.zero)=Option.some (Go.Value.agg #[Go.Value.string { data:=#[] },Go.Value.int Go.IntKind.i64 0,Go.Value.int Go.IntKind.i64 0,Go.Value.int Go.IntKind.i64 0]):=by kernel_rfl
theorem tK:(TP.info? 151).bind (·.zero)=Option.some (Go.Value.agg #[Go.Value.string { data:=#[] },Go.Value.int Go.IntKind.i64 0,Go.Value.int Go.IntKind.i64 0,Go.Value.int Go.IntKind.i64 0,Go.Value.int Go.IntKind.i64 0,Go.Value.int Go.IntKind.i64 0,Go.Value.int Go.IntKind.i64 0]):=by kernel_rfl
theorem yY:(TP.info? 153).bind (·.zero)=Option.some (Go.Value.agg #[Go.Value.int Go.IntKind.i64 0,Go.Value.int Go.IntKind.i64 0,Go.Value.int Go.IntKind.i64 0,Go.Value.int Go.IntKind.i64 0]):=by kernel_rfl
theorem qUD:(TP.info? 158).bind (·.zero)=Option.some (Go.Value.agg #[Go.Value.int Go.IntKind.i64 0,Go.Value.int Go.IntKind.i64 0,Go.Value.int Go.IntKind.i64 0]):=by kernel_rfl
theorem qUC:(TP.info? 163).bind (·.zero)=Option.some (Go.Value.slice Option.none 0 0):=by kernel_rfl
theorem qEG:(TP.info? 171).bind (·.zero)=Option.some (Go.Value.agg #[Go.Value.slice Option.none 0 0,Go.Value.slice Option.none 0 0,Go.Value.slice Option.none 0 0]):=by kernel_rfl
theorem zCW:(TP.info? 182).bind (·.zero)=Option.some (Go.Value.agg #[Go.Value.int Go.IntKind.i64 0,Go.Value.int Go.IntKind.i64 0,Go.Value.int Go.IntKind.i64 0]):=by kernel_rfl
theorem zCV:(TP.info? 218).bind (·.zero)=Option.some (Go.Value.agg #[Go.Value.slice Option.none 0 0,Go.Value.slice Option.none 0 0,Go.Value.slice Option.none 0 0,Go.Value.int Go.IntKind.i64 0,Go.Value.int Go.IntKind.i64 0,Go.Value.slice Option.none 0 0,Go.Value.slice Option.none 0 0,Go.Value.int Go.IntKind.i64 0,Go.Value.bool Bool.false]):=by kernel_rfl
theorem oN:(TP.info? 224).bind (·.zero)=Option.some (Go.Value.agg #[Go.Value.int Go.IntKind.i64 0,Go.Value.int Go.IntKind.i64 0]):=by kernel_rfl
theorem zCU:(TP.info? 228).bind (·.zero)=Option.some (Go.Value.agg #[Go.Value.int Go.IntKind.i64 0,Go.Value.int Go.IntKind.i64 0,Go.Value.int Go.IntKind.i64 0,Go.Value.int Go.IntKind.i64 0]):=by kernel_rfl
theorem zCT:(TP.info? 235).bind (·.zero)=Option.some (Go.Value.agg #[Go.Value.slice Option.none 0 0]):=by kernel_rfl
theorem qRS:(TP.info? 28).bind (·.zero)=Option.some (Go.Value.agg #[Go.Value.string { data:=#[] },Go.Value.slice Option.none 0 0,Go.Value.slice Option.none 0 0,Go.Value.slice Option.none 0 0,Go.Value.slice Option.none 0 0,Go.Value.slice Option.none 0 0]):=by kernel_rfl
theorem zCS:(TP.info? 281).bind (·.zero)=Option.some (Go.Value.agg #[Go.Value.bool Bool.false,Go.Value.bool Bool.false,Go.Value.bool Bool.false,Go.Value.bool Bool.false,Go.Value.bool Bool.false,Go.Value.bool Bool.false,Go.Value.bool Bool.false,Go.Value.bool Bool.false,Go.Value.bool Bool.false,Go.Value.bool Bool.false,Go.Value.bool Bool.false,Go.Value.bool Bool.false,Go.Value.bool Bool.false,Go.Value.bool Bool.false,Go.Value.bool Bool.false,Go.Value.bool Bool.false,Go.Value.bool Bool.false,Go.Value.bool Bool.false,Go.Value.bool Bool.false,Go.Value.bool Bool.false,Go.Value.bool Bool.false,Go.Value.bool Bool.false,Go.Value.bool Bool.false,Go.Value.bool Bool.false]):=by kernel_rfl
theorem dF:(TP.info? 3).bind (·.zero)=Option.some (Go.Value.int Go.IntKind.i64 0):=by kernel_rfl
theorem qYY:(TP.info? 30).bind (·.zero)=Option.some (Go.Value.slice Option.none 0 0):=by kernel_rfl
theorem qBE:(TP.info? 32).bind (·.zero)=Option.some (Go.Value.agg #[Go.Value.slice Option.none 0 0,Go.Value.slice Option.none 0 0,Go.Value.slice Option.none 0 0,Go.Value.int Go.IntKind.i64 0,Go.Value.int Go.IntKind.i64 0]):=by kernel_rfl
theorem qYX:(TP.info? 35).bind (·.zero)=Option.some (Go.Value.agg #[Go.Value.slice Option.none 0 0,Go.Value.slice Option.none 0 0]):=by kernel_rfl
theorem qNI:(TP.info? 4).bind (·.zero)=Option.some (Go.Value.bool Bool.false):=by kernel_rfl
theorem qRR:(TP.info? 42).bind (·.zero)=Option.some (Go.Value.agg #[Go.Value.slice Option.none 0 0,Go.Value.slice Option.none 0 0]):=by kernel_rfl
theorem zero5:(TP.info? 5).bind (·.zero)=Option.some (Go.Value.int Go.IntKind.u8 0):=by kernel_rfl
theorem qKM:(TP.info? 52).bind (·.zero)=Option.some (Go.Value.agg #[Go.Value.slice Option.none 0 0,Go.Value.int Go.IntKind.i64 0]):=by kernel_rfl
theorem qEW:(TP.info? 55).bind (·.zero)=Option.some (Go.Value.agg #[Go.Value.string { data:=#[] },Go.Value.slice Option.none 0 0,Go.Value.slice Option.none 0 0,Go.Value.slice Option.none 0 0,Go.Value.slice Option.none 0 0,Go.Value.slice Option.none 0 0,Go.Value.slice Option.none 0 0,Go.Value.slice Option.none 0 0,Go.Value.slice Option.none 0 0,Go.Value.int Go.IntKind.i64 0,Go.Value.int Go.IntKind.i64 0,Go.Value.slice Option.none 0 0,Go.Value.slice Option.none 0 0,Go.Value.slice Option.none 0 0,Go.Value.slice Option.none 0 0,Go.Value.slice Option.none 0 0,Go.Value.slice Option.none 0 0,Go.Value.slice Option.none 0 0,Go.Value.slice Option.none 0 0,Go.Value.slice Option.none 0 0,Go.Value.slice Option.none 0 0,Go.Value.slice Option.none 0 0,Go.Value.slice Option.none 0 0,Go.Value.slice Option.none 0 0,Go.Value.slice Option.none 0 0,Go.Value.slice Option.none 0 0,Go.Value.int Go.IntKind.i64 0,Go.Value.slice Option.none 0 0,Go.Value.slice Option.none 0 0,Go.Value.int Go.IntKind.i64 0]):=by kernel_rfl
theorem yH:(TP.info? 64).bind (·.zero)=Option.some (Go.Value.agg #[Go.Value.int Go.IntKind.i64 0,Go.Value.string { data:=#[] },Go.Value.int Go.IntKind.i64 0,Go.Value.int Go.IntKind.i64 0,Go.Value.int Go.IntKind.i64 0,Go.Value.int Go.IntKind.i64 0,Go.Value.int Go.IntKind.i64 0,Go.Value.int Go.IntKind.i64 0,Go.Value.int Go.IntKind.i64 0,Go.Value.int Go.IntKind.i64 0]):=by kernel_rfl
theorem qKL:(TP.info? 72).bind (·.zero)=Option.some (Go.Value.agg #[Go.Value.int Go.IntKind.i64 0,Go.Value.int Go.IntKind.i64 0,Go.Value.int Go.IntKind.i64 0,Go.Value.int Go.IntKind.i64 0]):=by kernel_rfl
theorem qYW:(TP.info? 76).bind (·.zero)=Option.some (Go.Value.agg #[Go.Value.int Go.IntKind.i64 0,Go.Value.string { data:=#[] },Go.Value.int Go.IntKind.i64 0,Go.Value.int Go.IntKind.i64 0,Go.Value.int Go.IntKind.i64 0,Go.Value.int Go.IntKind.i64 0,Go.Value.int Go.IntKind.i64 0,Go.Value.int Go.IntKind.i64 0,Go.Value.int Go.IntKind.i64 0,Go.Value.int Go.IntKind.i64 0,Go.Value.int Go.IntKind.i64 0,Go.Value.int Go.IntKind.i64 0,Go.Value.int Go.IntKind.i64 0,Go.Value.int Go.IntKind.i64 0,Go.Value.int Go.IntKind.i64 0,Go.Value.int Go.IntKind.i64 0,Go.Value.int Go.IntKind.i64 0,Go.Value.int Go.IntKind.i64 0,Go.Value.slice Option.none 0 0,Go.Value.slice Option.none 0 0,Go.Value.int Go.IntKind.i64 0,Go.Value.int Go.IntKind.i64 0,Go.Value.int Go.IntKind.i64 0,Go.Value.int Go.IntKind.i64 0,Go.Value.bool Bool.false,Go.Value.int Go.IntKind.i64 0]):=by kernel_rfl
theorem qYV:(TP.info? 77).bind (·.zero)=Option.some (Go.Value.slice Option.none 0 0):=by kernel_rfl
theorem qBD:(TP.info? 79).bind (·.zero)=Option.some (Go.Value.agg #[Go.Value.slice Option.none 0 0,Go.Value.int Go.IntKind.i64 0,Go.Value.int Go.IntKind.i64 0]):=by kernel_rfl
theorem pK:(TP.info? 81).bind (·.zero)=Option.some (Go.Value.agg #[Go.Value.slice Option.none 0 0,Go.Value.int Go.IntKind.i64 0,Go.Value.int Go.IntKind.i64 0,Go.Value.int Go.IntKind.i64 0,Go.Value.int Go.IntKind.i64 0,Go.Value.int Go.IntKind.i64 0,Go.Value.int Go.IntKind.i64 0,Go.Value.string { data:=#[] },Go.Value.int Go.IntKind.i64 0,Go.Value.int Go.IntKind.i64 0,Go.Value.int Go.IntKind.i64 0,Go.Value.int Go.IntKind.i64 0,Go.Value.int Go.IntKind.i64 0,Go.Value.int Go.IntKind.i64 0,Go.Value.int Go.IntKind.i64 0,Go.Value.int Go.IntKind.i64 0,Go.Value.int Go.IntKind.i64 0,Go.Value.int Go.IntKind.i64 0,Go.Value.int Go.IntKind.i64 0,Go.Value.int Go.IntKind.i64 0,Go.Value.int Go.IntKind.i64 0,Go.Value.int Go.IntKind.i64 0,Go.Value.int Go.IntKind.i64 0,Go.Value.int Go.IntKind.i64 0,Go.Value.slice Option.none 0 0,Go.Value.slice Option.none 0 0,Go.Value.int Go.IntKind.i64 0,Go.Value.int Go.IntKind.i64 0,Go.Value.int Go.IntKind.i64 0,Go.Value.int Go.IntKind.i64 0,Go.Value.bool Bool.false,Go.Value.int Go.IntKind.i64 0]):=by kernel_rfl
theorem cH:(TP.info? 83).bind (·.zero)=Option.some (Go.Value.agg #[Go.Value.int Go.IntKind.i64 0,Go.Value.int Go.IntKind.i64 0,Go.Value.int Go.IntKind.i64 0]):=by kernel_rfl
theorem xM:(TP.info? 9).bind (·.zero)=Option.some (Go.Value.string { data:=#[] }):=by kernel_rfl
theorem zDV:qWS TP 171=some [(0,1),(1,1),(2,1)]:=by kernel_rfl
theorem qLW:qWS TP 224=some [(0,1),(1,1)]:=by kernel_rfl
theorem qSN {C:Ctx} {o:Oper} {ev:Operand->AV} {hp:List Blk} {t:TypeId} {parts:Array (Nat×Operand)} {z:Value} {zc cs:List AV} {pl:List (Nat×Nat)} {v:AV} (ho:o.op=.build t parts) (hpl:qWS C.P t=some pl) (hz:(C.P.info? t).bind (·.zero)=some z) (hzf:(cU z).flat=true) (hzc:(cU z).cells=zc)
  (hf:qGS pl zc (parts.toList.map λp=>(p.1,ev p.2))=some cs) (hv:rP cs=v):RdOk C o ev hp v:=
 RdOk.mk λst hhp hag g a w hs=>by
  rw [<- hv];subst hzc;have hz':=fY w g z;have hpz:=(hz'.pw hzf).1
  have hparts:Pw (λ(x:Nat×AV) (y:Nat×Value)=>x.1=y.1/\ARep w g x.2 y.2) (parts.toList.map λp=>(p.1,ev p.2)) (parts.map λp=>(p.1,a.eval p.2)).toList:=by
   refine⟨by simp,λi x y hx hy=>?_⟩;simp only [zQP,zQO,Array.toList_map] at hx hy;obtain⟨p,hp,rfl⟩:=hx;obtain⟨q,hq,rfl⟩:=hy;rw [hp] at hq;cases hq;refine⟨rfl,?_⟩;have:=hs.ev p.2
   rw [hag p.2 (by
    simp only [ho, Op.operands];have := zQM hp
    first | exact Array.mem_map.2 ⟨p, Array.mem_toList_iff.1 this, rfl⟩ | (simp only [List.mem_toArray, List.mem_map]; exact ⟨p, this, rfl⟩))] at this
   exact this
  unfold qWS at hpl;split at hpl
  ·rename_i n e hu;obtain⟨inf,hinf,hpl⟩:=zQO.1 hpl;obtain⟨cells',h1,h2⟩:=qAL pl.toArray _ _ _ _ z.cells hparts hpz (by simpa using hf);refine⟨.agg cells',?_,pE (by have:=h2.1;simpa using this) λi c v hc hv=>h2.2 i c v hc (by simpa using hv)⟩;obtain⟨infz,hinfz,hzz⟩:=Option.bind_eq_some_iff.1 hz;have hzv:(zeroValue t).run C.P w=.ok z w:=by simp [zeroValue,typeInfo,hinfz,hzz]
   have hsz:(sizeOf e).run C.P w=.ok inf.size w:=by simp [sizeOf,typeInfo,hinf]
   have h1':Instr.fill (λi=>some (i * inf.size,inf.size)) z.cells (parts.map λp=>(p.1,a.eval p.2)).toList=some cells':=by
    refine qMQ ?_ _ _ _ h1;intro i x hx;subst hpl;simp only [List.getElem?_toArray,zQP,zQO] at hx;obtain⟨k,hk,rfl⟩:=hx;have:=(zQQ.1 hk).2;simp at this;rw [this]
   have hb:(Instr.build t (parts.map λp=>(p.1,a.eval p.2))).run C.P w=.ok (.agg cells') w:=by
    unfold Instr.build;rw [Sem.run_bind,hzv,Result.andThen_ok,Sem.run_bind,run_underlying hu,Result.andThen_ok];simp only;rw [Sem.run_bind,hsz,Result.andThen_ok];simp only [h1',Sem.run_pure]
   simp only [execOp,ho];simp only [Sem.run_bind];have hb':(Instr.build t (parts.map λx=>(x.1,a.eval x.2))).run C.P w=.ok (.agg cells') w:=hb;rw [hb'];rfl
  cases hpl
theorem qHM {w:World} {n k:Nat} {g:Gh} {mv:Nat->Bool} {o:Oper} {ev:Operand->AV} {hp:List Blk} {a b:Operand} {t':TypeId} {x y:Ac} (ho:o.op=.binOp .eql 83 a b t') (hx:ev a=.d x.enc) (hy:ev b=.d y.enc) (h1:x.ok) (h2:y.ok):RdOk ⟨TP,n,w,k,g,mv⟩ o ev hp (.d (.bool (decide (x=y)))):=
 qTI ho hx hy qUX zBJ rfl rfl ⟨⟨rfl,h1.1⟩,⟨rfl,h1.2.1⟩,⟨rfl,h1.2.2⟩,trivial⟩ ⟨⟨rfl,h2.1⟩,⟨rfl,h2.2.1⟩,⟨rfl,h2.2.2⟩,trivial⟩ (qBB x y)
theorem qUA {w:World} {n k:Nat} {g:Gh} {mv:Nat->Bool} {o:Oper} {ev:Operand->AV} {hp:List Blk} {a b:Operand} {t':TypeId} {x y:Ac} (ho:o.op=.binOp .neq 83 a b t') (hx:ev a=.d x.enc) (hy:ev b=.d y.enc) (h1:x.ok) (h2:y.ok):RdOk ⟨TP,n,w,k,g,mv⟩ o ev hp (.d (.bool (!decide (x=y)))):=
 qMR ho hx hy qUX zBJ rfl rfl ⟨⟨rfl,h1.1⟩,⟨rfl,h1.2.1⟩,⟨rfl,h1.2.2⟩,trivial⟩ ⟨⟨rfl,h2.1⟩,⟨rfl,h2.2.1⟩,⟨rfl,h2.2.2⟩,trivial⟩ (qBB x y)
theorem zGB {w:World} {n k:Nat} {g:Gh} {mv:Nat->Bool} {o:Oper} {ev:Operand->AV} {hp:List Blk} {a b:Operand} {t':TypeId} {x y:An} (ho:o.op=.binOp .neq 106 a b t') (hx:ev a=.d x.enc) (hy:ev b=.d y.enc) (h1:x.ok) (h2:y.ok):RdOk ⟨TP,n,w,k,g,mv⟩ o ev hp (.d (.bool (!decide (x=y)))):=
 qMR ho hx hy zBH zEF rfl rfl ⟨⟨rfl,h1.1⟩,⟨rfl,h1.2.1⟩,⟨rfl,h1.2.2⟩,trivial⟩ ⟨⟨rfl,h2.1⟩,⟨rfl,h2.2.1⟩,⟨rfl,h2.2.2⟩,trivial⟩ (qYL x y)
theorem qHK {w:World} {n k:Nat} {g:Gh} {mv:Nat->Bool} {o:Oper} {ev:Operand->AV} {hp:List Blk} {a b:Operand} {t':TypeId} {x y:Aa} (ho:o.op=.binOp .eql 126 a b t') (hx:ev a=.d x.enc) (hy:ev b=.d y.enc) (h1:x.ok) (h2:y.ok):RdOk ⟨TP,n,w,k,g,mv⟩ o ev hp (.d (.bool (decide (x=y)))):=
 qTI ho hx hy qPU qUZ rfl rfl ⟨⟨rfl,h1.1⟩,⟨rfl,h1.2⟩,trivial⟩ ⟨⟨rfl,h2.1⟩,⟨rfl,h2.2⟩,trivial⟩ (qBA x y)
theorem yV {w:World} {n k:Nat} {g:Gh} {mv:Nat->Bool} {o:Oper} {ev:Operand->AV} {hp:List Blk} {a b:Operand} {t':TypeId} {x y:Aa} (ho:o.op=.binOp .neq 126 a b t') (hx:ev a=.d x.enc) (hy:ev b=.d y.enc) (h1:x.ok) (h2:y.ok):RdOk ⟨TP,n,w,k,g,mv⟩ o ev hp (.d (.bool (!decide (x=y)))):=
 qMR ho hx hy qPU qUZ rfl rfl ⟨⟨rfl,h1.1⟩,⟨rfl,h1.2⟩,trivial⟩ ⟨⟨rfl,h2.1⟩,⟨rfl,h2.2⟩,trivial⟩ (qBA x y)
theorem qHP {w:World} {n k:Nat} {g:Gh} {mv:Nat->Bool} {o:Oper} {ev:Operand->AV} {hp:List Blk} {a b:Operand} {t':TypeId} {x y:End} (ho:o.op=.binOp .eql 147 a b t') (hx:ev a=.d x.enc) (hy:ev b=.d y.enc) (h1:x.ok) (h2:y.ok):RdOk ⟨TP,n,w,k,g,mv⟩ o ev hp (.d (.bool (decide (x=y)))):=
 qTI ho hx hy qPT qUY rfl rfl ⟨⟨rfl,h1.1⟩,⟨rfl,h1.2⟩,trivial⟩ ⟨⟨rfl,h2.1⟩,⟨rfl,h2.2⟩,trivial⟩ (qRO x y)
theorem End_ne {w:World} {n k:Nat} {g:Gh} {mv:Nat->Bool} {o:Oper} {ev:Operand->AV} {hp:List Blk} {a b:Operand} {t':TypeId} {x y:End} (ho:o.op=.binOp .neq 147 a b t') (hx:ev a=.d x.enc) (hy:ev b=.d y.enc) (h1:x.ok) (h2:y.ok):RdOk ⟨TP,n,w,k,g,mv⟩ o ev hp (.d (.bool (!decide (x=y)))):=
 qMR ho hx hy qPT qUY rfl rfl ⟨⟨rfl,h1.1⟩,⟨rfl,h1.2⟩,trivial⟩ ⟨⟨rfl,h2.1⟩,⟨rfl,h2.2⟩,trivial⟩ (qRO x y)
theorem qYU {w:World} {n k:Nat} {g:Gh} {mv:Nat->Bool} {o:Oper} {ev:Operand->AV} {hp:List Blk} {a b:Operand} {t':TypeId} {x y:Ap} (ho:o.op=.binOp .eql 224 a b t') (hx:ev a=.d x.enc) (hy:ev b=.d y.enc) (h1:x.ok) (h2:y.ok):RdOk ⟨TP,n,w,k,g,mv⟩ o ev hp (.d (.bool (decide (x=y)))):=
 zEO ho hx hy qXN zBI rfl rfl ⟨⟨rfl,h1.1⟩,⟨rfl,h1.2⟩,trivial⟩ ⟨⟨rfl,h2.1⟩,⟨rfl,h2.2⟩,trivial⟩ (qRQ x y)
end Go.Proofs.YtofndjhpbonpbaaGreatDoor
