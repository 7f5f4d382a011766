/- Texts of this proof, joined, without what it does not use. No condition. -/
import Derived.Laws.Build
import Derived.Test.YtdkhkhidekpfoaaQa

namespace Go.TL
variable {C:Ctx} {st:St} {g:Gh} {a:Act} {w:World} {P:Program}
def fU (n:Nat):Option Nat->Bool
  | none=>true
  | some d=>decide (d < n)
def St.put (st:St) (d:Option Nat) (x:AV):St:=
  match d with
  | none=>st
  | some d=>⟨(d,x) :: st.fr,st.hp⟩
theorem Sim.put' (h:Sim C st g a w) {d:Option Nat} (hd:fU C.n d=true) {x:AV} {v:Value} (hx:ARep w g x v):Sim C (st.put d x) g (a.put d v) w:=by
  cases d with
  | none=>exact h
  | some d=>exact h.put (by simpa [fU] using hd) hx
def jL:Value->Option D
  | .bool b=>some (.bool b)
  | .int k n=>some (.int k n)
  | .string s=>some (.str s)
  | .slice none 0 0=>some .nilsl
  | .pointer none=>some .nilptr
  | .map none=>some .nilmap
  | .nilFunc=>some .nilfn
  | .nilIface=>some .nilif
  | _=>none
theorem jK {v:Value} {d:D} (h:jL v=some d) (w:World) (X:Nat->Prop):DRep w X d v/\d.one=true:=by
  cases v with
  | bool b=>cases h;exact⟨.bool _,rfl⟩
  | int k n=>cases h;exact⟨.int _ _,rfl⟩
  | string s=>cases h;exact⟨.str _,rfl⟩
  | slice a l c=>
    cases a<;>cases l<;>cases c<;>simp [jL] at h;subst h;exact⟨.nilsl _,rfl⟩
  | pointer a=>cases a<;>simp [jL] at h;subst h;exact⟨.nilptr,rfl⟩
  | map a=>cases a<;>simp [jL] at h;subst h;exact⟨.nilmap,rfl⟩
  | nilFunc=>cases h;exact⟨.nilfn,rfl⟩
  | nilIface=>cases h;exact⟨.nilif,rfl⟩
  | _=>simp [jL] at h
def mD:List Value->Option (List D)
  | []=>some []
  | v :: r=>match jL v,mD r with
    | some d,some ds=>some (d :: ds)
    | _,_=>none
theorem lK (w:World) (X:Nat->Prop):∀ (vs:List Value) (ds:List D),mD vs=some ds->
    ds.length=vs.length/\(∀ d∈ds,d.one=true)/\∀ (i:Nat) (d:D) (v:Value),ds[i]?=some d->vs[i]?=some v->DRep w X d v
  | [],ds,h=>by cases h;simp
  | v :: r,ds,h=>by
    simp only [mD] at h;split at h
    · rename_i d ds' hd hr
      cases h;obtain⟨h1,h2,h3⟩:=lK w X r ds' hr;refine⟨by simp [h1],?_,?_⟩
      · intro x hx
        simp only [List.mem_cons] at hx;rcases hx with rfl|hx
        · exact (jK hd w X).2
        exact h2 x hx
      intro i x u hx hu
      cases i with
      | zero=>simp at hx hu;subst hx;subst hu;exact (jK hd w X).1
      | succ i=>simp at hx hu;exact h3 i x u hx hu
    cases h
def xC (v:Value):AV:=
  match jL v with
  | some d=>.d d
  | none=>.junk
def bJ (v:Value):AV:=
  match v with
  | .agg cs=>match mD cs.toList with
    | some ds=>.d (.agg ds)
    | none=>.junk
  | v=>xC v
theorem dA (w:World) (g:Gh) (v:Value):ARep w g (bJ v) v:=by
  have one:∀ v,ARep w g (xC v) v:=by
    intro v;unfold xC;split
    · rename_i d hd;exact .d _ _ (jK hd w g.X).1
    exact .junk _
  unfold bJ;split
  · split
    · rename_i ds hds
      obtain⟨h1,h2,h3⟩:=lK w g.X _ _ hds;exact .d _ _ (.agg ds _ (by simpa using h1) h2 λi c v hc hv=>h3 i c v hc (by simpa using hv))
    exact .junk _
  exact one _
def Fr.ev (fr:Fr):Operand->AV
  | .tmp t=>fr.get t
  | .const v=>bJ v
  | .global _=>.junk
  | .func f=>.d (.fn f)
theorem Sim.ev (h:Sim C st g a w) (x:Operand):ARep w g (st.fr.ev x) (a.eval x):=by
  cases x with
  | tmp t=>exact h.fr t
  | const v=>exact dA w g v
  | global g=>exact .junk _
  | func f=>exact .d _ _ (.fn f)
def Sat (C:Ctx) (K:St->Prop) (a:Act) (w:World):Prop:=∃ st g,K st/\Sim C st g a w
def OpOk (C:Ctx) (o:Oper) (st:St) (K:St->Prop):Prop:=
  ∀ g a w (Q:Exit->Act->World->Prop),Sim C st g a w->o.wp C.P a w (Sat C K) Q
def HpLe (hp hp':List Blk):Prop:=∀ (i:Nat) (B:Blk),hp[i]?=some B->B≠.dead->hp'[i]?=some B
theorem HpLe.refl (hp:List Blk):HpLe hp hp:=λ_ _ h _=>h
def RdOk (C:Ctx) (o:Oper) (ev:Operand->AV) (hp:List Blk) (x:AV):Prop:=
  ∀ st:St,HpLe hp st.hp->(∀ y∈o.op.operands,st.fr.ev y=ev y)->∀ g a w,Sim C st g a w->∀ (Q:Exit->Act->World->Prop) (K':Act->World->Prop),
    (∀ v w' g',Sim C st g' a w'->ARep w' g' x v->K' (a.put o.dst v) w')->o.wp C.P a w K' Q
theorem RdOk.mk {o:Oper} {ev:Operand->AV} {hp:List Blk} {x:AV} (h:∀ st:St,HpLe hp st.hp->(∀ y∈o.op.operands,st.fr.ev y=ev y)->∀ g a w,Sim C st g a w->∃ v,(execOp a.eval o).run C.P w=.ok (.value v) w/\ARep w g x v):RdOk C o ev hp x:=by
  intro st h1 h2 g a w hs Q K' hK;obtain⟨v,hr,hx⟩:=h st h1 h2 g a w hs;simp only [Oper.wp,hr,Oper.upon_value];exact hK v w g hs hx
theorem RdOk.ok {o:Oper} {x:AV} {K:St->Prop} (h:RdOk C o st.fr.ev st.hp x) (hd:fU C.n o.dst=true) (hK:K (st.put o.dst x)):OpOk C o st K:=λg a w Q hs=>
  h st (HpLe.refl _) (λ_ _=>rfl) g a w hs Q _ λ_ _ g' hs' hx=>⟨_,g',hK,hs'.put' hd hx⟩
theorem OpOk.change {o:Oper} {K:St->Prop} (h:∀ g a w,Sim C st g a w->∃ v w',(execOp a.eval o).run C.P w=.ok (.value v) w'/\Sat C K (a.put o.dst v) w'):OpOk C o st K:=by
  intro g a w Q hs;obtain⟨v,w',hr,hx⟩:=h g a w hs;simp only [Oper.wp,hr,Oper.upon_value];exact hx
theorem OpOk.skip {o:Oper} {K:St->Prop} (h:∀ g a w,Sim C st g a w->∃ w',(execOp a.eval o).run C.P w=.ok .skip w'/\Sat C K (a.put o.dst undef) w'):OpOk C o st K:=by
  intro g a w Q hs;obtain⟨w',hr,hx⟩:=h g a w hs;simp only [Oper.wp,hr,Oper.upon_skip];exact hx
theorem pR {o:Oper} {ev:Operand->AV} {hp:List Blk} {x:Operand} (ho:o.op=.move x\/o.op=.assign x):RdOk C o ev hp (ev x):=
  RdOk.mk fun st hhp hag g a w hs => ⟨a.eval x, by rcases ho with ho | ho <;> simp [execOp, ho], by
    rw [<- hag x (by rcases ho with ho | ho <;> simp [ho, Op.operands])]
    exact hs.ev x⟩
theorem uH {o:Oper} {ev:Operand->AV} {hp:List Blk} {c x y:Operand} (t:Bool) (u:AV) (ho:o.op=.pick c x y) (hc:ev c=.d (.bool t))
    (hu:u=if t then ev x else ev y):RdOk C o ev hp u:=
  RdOk.mk λst hhp hag g a w hs=>by
    have h:=hs.ev c;rw [hag c (by simp [ho,Op.operands]),hc] at h;generalize he:a.eval c=vc at *
    cases h with
    | d _ _ h=>
      cases h;subst hu;refine⟨if t then a.eval x else a.eval y,by simp only [execOp,ho,he];cases t<;>simp [asBool],?_⟩;cases t
      · have:=hs.ev y
        rw [hag y (by simp [ho,Op.operands])] at this;simpa using this
      have:=hs.ev x;rw [hag x (by simp [ho,Op.operands])] at this;simpa using this
def lay (P:Program) (t:TypeId):Option (Bool×Nat):=
  match P.underlying t,P.info? t with
  | some (.struct _),some i=>some (true,i.size)
  | some (.array _ _),some i=>some (true,i.size)
  | some _,some i=>some (false,i.size)
  | _,_=>none
theorem mB {t:TypeId} {b:Bool} {s:Nat} (h:lay P t=some (b,s)) (w:World):(isAgg t).run P w=.ok b w/\(sizeOf t).run P w=.ok s w:=by
  unfold lay at h
  cases hu:P.underlying t with
  | none=>simp [hu] at h
  | some u=>
    cases hi:P.info? t with
    | none=>cases u<;>simp [hu,hi] at h
    | some i=>
      constructor
      · cases u<;>simp [hu,hi] at h<;>simp [isAgg,underlying,hu,h.1]
      cases u<;>simp [hu,hi] at h<;>simp [sizeOf,typeInfo,hi,h.2]
theorem cT {t:TypeId} {s:Nat} (h:lay P t=some (false,s)) (w:World) (a:Addr) (v:Value) (hc:w.cell? a=some v):(loadVar t a).run P w=.ok v w:=by
  obtain⟨h1,h2⟩:=mB h w;simp [loadVar,h1,hc]
theorem cU {t:TypeId} {s:Nat} (h:lay P t=some (true,s)) (w:World) (a:Addr) (vs:List Value) (hs:vs.length=s) (hc:∀ (j:Nat) (v:Value),vs[j]?=some v->w.cell? (a.add j)=some v):
    (loadVar t a).run P w=.ok (.agg vs.toArray) w:=by
  obtain⟨h1,h2⟩:=mB h w;have h3:=run_loadCells_list (P:=P) w a vs hc;rw [hs] at h3;simp [loadVar,h1,h2,h3]
theorem vT (a:Addr):a.add 0=a:=by simp [Addr.add]
theorem mA {α:Type} {R:α->Value->Prop} (cs:List α) (f:Nat->Option Value) (h:∀ (j:Nat) (c:α),cs[j]?=some c->∃ v,f j=some v/\R c v):
    ∃ vs:List Value,vs.length=cs.length/\(∀ (j:Nat) (v:Value),vs[j]?=some v->f j=some v)/\∀ (j:Nat) (c:α) (v:Value),cs[j]?=some c->vs[j]?=some v->R c v:=by
  refine⟨(List.range cs.length).map λj=>(f j).getD undef,by simp,?_,?_⟩
  · intro j v hv
    simp only [List.getElem?_map,Option.map_eq_some_iff] at hv;obtain⟨k,hk,rfl⟩:=hv;have hj:j < cs.length:=by simpa using (List.getElem?_eq_some_iff.1 hk).1
    have:k=j:=by simpa using ((List.getElem?_eq_some_iff.1 hk).2).symm
    subst this;obtain⟨v,hv,_⟩:=h k _ (List.getElem?_eq_getElem hj);simp [hv]
  intro j c v hc hv;simp only [List.getElem?_map,Option.map_eq_some_iff] at hv;obtain⟨k,hk,rfl⟩:=hv;have:k=j:=by simpa using ((List.getElem?_eq_some_iff.1 hk).2).symm
  subst this;obtain⟨v,hv,hr⟩:=h k c hc;simpa [hv] using hr
def D.part (e:D) (off s:Nat):D:=.agg ((e.cells.drop off).take s)
theorem zB {e:D} {off s:Nat} {v:Value} {X:Nat->Prop} (h:DRep w X (.ptr e off) v) (hs:off+s<=e.cells.length):
    ∃ ad,v=.pointer (some ad)/\∃ vs:List Value,vs.length=s/\(∀ (j:Nat) (u:Value),vs[j]?=some u->w.cell? (ad.add j)=some u)/\DRep w X (e.part off s) (.agg vs.toArray):=by
  cases h with
  | ptr _ _ ad val hX h1 hv hr=>
    refine⟨ad,rfl,?_⟩;have hlen:((e.cells.drop off).take s).length=s:=by simp;omega
    obtain ⟨vs, hl, h2, h3⟩ := mA (R := DRep w X) ((e.cells.drop off).take s) (fun j => w.cell? (ad.add j)) (fun j c hc => by
      rw [List.getElem?_take] at hc;split at hc
      · rw [List.getElem?_drop] at hc
        exact ⟨_, hv j c hc, hr j c hc⟩
      cases hc)
    refine⟨vs,hl.trans hlen,h2,.agg _ _ (by simp [hl]) (λc hc=>h1 c (List.mem_of_mem_drop (List.mem_of_mem_take hc))) λi c v hc hv=>h3 i c v hc (by simpa using hv)⟩
theorem sZ (t:TypeId) (ad:Addr) (w:World):(Instr.loadAt t (.pointer (some ad))).run P w=(loadVar t ad).run P w:=by simp [Instr.loadAt,Instr.sureAddr]
theorem qU (t:TypeId) (ad:Addr) (v:Value) (w:World):(Instr.storeAt t (.pointer (some ad)) v).run P w=(storeVar t ad v).run P w:=by simp [Instr.storeAt,Instr.sureAddr]
theorem cF {o:Oper} {t:TypeId} {x:Operand} (ho:o.op=.load t x) {ad:Addr} (he:a.eval x=.pointer (some ad)) {v:Value} (hr:(loadVar t ad).run P w=.ok v w):
    (execOp a.eval o).run P w=.ok (.value v) w:=by
  simp only [execOp,ho,he,Sem.run_bind,sZ,hr,Result.andThen_ok,Sem.run_pure]
theorem rA {o:Oper} {ev:Operand->AV} {hp:List Blk} {t:TypeId} {x:Operand} (e c:D) (off s:Nat) (ho:o.op=.load t x) (hl:lay C.P t=some (false,s)) (hx:ev x=.d (.ptr e off))
    (hc:e.cells[off]?=some c):RdOk C o ev hp (.d c):=
  RdOk.mk λst hhp hag g a w hs=>by
    have h:=hs.ev x;rw [hag x (by simp [ho,Op.operands]),hx] at h;generalize he:a.eval x=vx at *
    cases h with
    | d _ _ h=>
      cases h with
      | ptr _ _ ad val hX h1 hv hr=>
        have h2:=hv 0 c (by simpa using hc);rw [vT] at h2;exact⟨val 0,cF ho he (cT hl w ad _ h2),.d _ _ (hr 0 c (by simpa using hc))⟩
theorem gY {o:Oper} {ev:Operand->AV} {hp:List Blk} {t:TypeId} {x:Operand} (e:D) (off s:Nat) (ho:o.op=.load t x) (hl:lay C.P t=some (true,s)) (hx:ev x=.d (.ptr e off))
    (hc:off+s<=e.cells.length):RdOk C o ev hp (.d (e.part off s)):=
  RdOk.mk λst hhp hag g a w hs=>by
    have h:=hs.ev x;rw [hag x (by simp [ho,Op.operands]),hx] at h;generalize he:a.eval x=vx at *
    cases h with
    | d _ _ h=>
      obtain⟨ad,rfl,vs,hvs,h2,h3⟩:=zB h hc;exact⟨_,cF ho he (cU hl w ad vs hvs h2),.d _ _ h3⟩
theorem cK {id sz idx off:Nat} {v:Value} (h:ARep w g (.mptr id sz idx off) v):∃ b,g.phi id=some b/\v=.pointer (some ⟨b,idx * sz+off,none⟩):=by
  cases h with
  | mptr _ _ _ _ b hb=>exact⟨b,hb,rfl⟩
theorem rB {o:Oper} {ev:Operand->AV} {hp:List Blk} {t ty:TypeId} {x:Operand} (id off s:Nat) (cs:List AV) (c:AV) (ho:o.op=.load t x) (hl:lay C.P t=some (false,s)) (hx:ev x=.mptr id 0 0 off)
    (hb:hp[id]?=some (.box ty cs)) (hc:cs[off]?=some c):RdOk C o ev hp c:=
  RdOk.mk λst hhp hag g a w hs=>by
    have hb:=hhp _ _ hb (λe=>by cases e);have h:=hs.ev x;rw [hag x (by simp [ho,Op.operands]),hx] at h;obtain⟨b,hp,he⟩:=cK h;obtain⟨b',cells,hp',hw,_,hlen,hr⟩:=hs.hp id _ hb;cases hp.symm.trans hp';have hoff:off < cells.size:=by rw [<- hlen];exact (List.getElem?_eq_some_iff.1 hc).1
    have hcell:w.cell? ⟨b,0 * 0+off,none⟩=some cells[off]:=by
      rw [show 0 * 0+off=off by omega,cell_of_row w b off cells ty (0,0) hw,Array.getElem?_eq_getElem hoff]
    exact⟨cells[off],cF ho he (cT hl w _ _ hcell),hr off c _ hc (by simp [hoff])⟩
def vS:List AV->Option (List D)
  | []=>some []
  | .d x :: r=>if x.one=true then (match vS r with|some xs=>some (x :: xs)|none=>none) else none
  | _ :: _=>none
theorem iQ:∀ (cs:List AV) (ds:List D),vS cs=some ds->cs=ds.map .d/\∀ x∈ds,x.one=true
  | [],ds,h=>by cases h;simp
  | c :: r,ds,h=>by
    cases c<;>simp only [vS] at h<;>(try (cases h;done));rename_i x;split at h
    · rename_i h1
      split at h
      · rename_i xs hxs
        cases h;obtain⟨e,h2⟩:=iQ r xs hxs;refine⟨by simp [e],λy hy=>?_⟩;simp only [List.mem_cons] at hy;rcases hy with rfl|hy
        · exact h1
        exact h2 y hy
      cases h
    cases h
def gO (cs:List AV):AV:=match vS cs with
  | some ds=>.d (.agg ds)
  | none=>.agg cs
theorem iK {cs:List AV} {vs:Array Value} (hl:cs.length=vs.size) (h:∀ (i:Nat) (c:AV) (v:Value),cs[i]?=some c->vs[i]?=some v->ARep w g c v):ARep w g (gO cs) (.agg vs):=by
  unfold gO;split
  · rename_i ds hds
    obtain⟨rfl,h1⟩:=iQ _ _ hds;refine .d _ _ (.agg ds vs (by simpa using hl) h1 λi c v hc hv=>?_);have:=h i (.d c) v (by simp [hc]) hv
    cases this with
    | d _ _ h=>exact h
  exact .agg _ _ hl h
theorem mZ {o:Oper} {ev:Operand->AV} {hp:List Blk} {t ty:TypeId} {x:Operand} (id off s:Nat) (cs:List AV) (ho:o.op=.load t x) (hl:lay C.P t=some (true,s)) (hx:ev x=.mptr id 0 0 off)
    (hb:hp[id]?=some (.box ty cs)) (hc:off+s<=cs.length):RdOk C o ev hp (gO ((cs.drop off).take s)):=
  RdOk.mk λst hhp hag g a w hs=>by
    have hb:=hhp _ _ hb (λe=>by cases e);have h:=hs.ev x;rw [hag x (by simp [ho,Op.operands]),hx] at h;obtain⟨b,hp,he⟩:=cK h;obtain⟨b',cells,hp',hw,_,hlen,hr⟩:=hs.hp id _ hb;cases hp.symm.trans hp';have hlen':((cs.drop off).take s).length=s:=by simp;omega
    obtain ⟨vs, hvl, h2, h3⟩ := mA (R := ARep w g) ((cs.drop off).take s) (fun j => cells[off + j]?) (fun j c hc => by
      rw [List.getElem?_take] at hc;split at hc
      · rw [List.getElem?_drop] at hc
        have hlt : off + j < cells.size := by rw [<- hlen]; exact (List.getElem?_eq_some_iff.1 hc).1
        exact ⟨cells[off + j], by simp [hlt], hr _ c _ hc (by simp [hlt])⟩
      cases hc)
    refine⟨.agg vs.toArray,?_,iK (by simp [hvl]) λi c v hc hv=>h3 i c v hc (by simpa using hv)⟩
    exact cF ho he (cU hl w ⟨b, 0 * 0 + off, none⟩ vs (hvl.trans hlen') (fun j v hv => by
      rw [dU, cell_of_row w b _ cells ty (0, 0) hw]; simpa using h2 j v hv))
theorem pV {o:Oper} {ev:Operand->AV} {hp:List Blk} {t ty:TypeId} {x:Operand} (id sz idx off s:Nat) (es:List D) (e c:D) (ho:o.op=.load t x) (hl:lay C.P t=some (false,s)) (hx:ev x=.mptr id sz idx off)
    (hb:hp[id]?=some (.flat ty sz es)) (he:es[idx]?=some e) (hc:e.cells[off]?=some c):RdOk C o ev hp (.d c):=
  RdOk.mk λst hhp hag g a w hs=>by
    have hb:=hhp _ _ hb (λe=>by cases e);have h:=hs.ev x;rw [hag x (by simp [ho,Op.operands]),hx] at h;obtain⟨b,hp,hv⟩:=cK h;rcases hs.hp id _ hb with ⟨h0,_⟩|⟨b',cells,hp',hw,_,hlen,h0,h1,hr⟩
    · subst h0;simp at he
    cases hp.symm.trans hp';obtain⟨v,hcv,hdv⟩:=hr idx e off c he hc;have hcell:w.cell? ⟨b,idx * sz+off,none⟩=some v:=by rw [cell_of_row w b _ cells ty (0,0) hw];exact hcv
    exact⟨v,cF ho hv (cT hl w _ _ hcell),.d _ _ hdv⟩
theorem gM {o:Oper} {ev:Operand->AV} {hp:List Blk} {t ty:TypeId} {x:Operand} (id sz idx off s:Nat) (es:List D) (e:D) (ho:o.op=.load t x) (hl:lay C.P t=some (true,s)) (hx:ev x=.mptr id sz idx off)
    (hb:hp[id]?=some (.flat ty sz es)) (he:es[idx]?=some e) (hc:off+s<=e.cells.length):RdOk C o ev hp (.d (e.part off s)):=
  RdOk.mk λst hhp hag g a w hs=>by
    have hb:=hhp _ _ hb (λe=>by cases e);have h:=hs.ev x;rw [hag x (by simp [ho,Op.operands]),hx] at h;obtain⟨b,hp,hv⟩:=cK h;rcases hs.hp id _ hb with ⟨h0,_⟩|⟨b',cells,hp',hw,_,hlen,h0,h1,hr⟩
    · subst h0;simp at he
    cases hp.symm.trans hp';have hlen':((e.cells.drop off).take s).length=s:=by simp;omega
    obtain ⟨vs, hvl, h2, h3⟩ := mA (R := DRep w g.X) ((e.cells.drop off).take s) (fun j => cells[idx * sz + (off + j)]?) (fun j c hc => by
      rw [List.getElem?_take] at hc;split at hc
      · rw [List.getElem?_drop] at hc
        exact hr idx e _ c he hc
      cases hc)
    refine⟨.agg vs.toArray,?_,.d _ _ (.agg _ _ (by simp [hvl]) (λc hc=>?_) λi c v hc hv=>h3 i c v hc (by simpa using hv))⟩
    · exact cF ho hv (cU hl w ⟨b, idx * sz + off, none⟩ vs (hvl.trans hlen') (fun j v hv => by
        rw [dU, cell_of_row w b _ cells ty (0, 0) hw, Nat.add_assoc]; exact h2 j v hv))
    obtain⟨j,hj⟩:=List.getElem?_of_mem (List.mem_of_mem_drop (List.mem_of_mem_take hc));exact h1 idx e j c he hj
end Go.TL
