/- Texts of this proof, joined, without what it does not use. No condition. -/
import Derived.MapKept
import Derived.Laws.Strings
import Derived.Test.YtofndjhpbonpbaaGreatDoorQk

set_option linter.unusedVariables false
set_option linter.unusedSimpArgs false
namespace Go.TL
variable {C:Ctx} {st:St} {g:Gh} {a:Act} {w:World} {P:Program}
def jV (d:TypeDesc):D->Bool
  | .bool _=>match d with|.bool=>true|_=>false
  | .int k _=>match d with|.int k'=>k == k'|_=>false
  | .str _=>match d with|.string=>true|_=>false
  | _=>false
def oY:D->Value
  | .bool b=>.bool b
  | .int k n=>.int k n
  | .str s=>.string s
  | _=>undef
theorem qGH {d:TypeDesc} {k:D} (hk:jV d k=true):MapKept.IsKey d (oY k):=by
  cases k with
  | bool b=>cases d<;>first|trivial|(simp [jV] at hk)
  | int i n=>
    cases d<;>simp [jV] at hk;exact hk
  | str s=>cases d<;>first|trivial|(simp [jV] at hk)
  | _=>simp [jV] at hk
theorem vU {d:TypeDesc} {k:D} (hk:jV d k=true) {X:Nat->Prop} {v:Value} (h:DRep w X k v):v=oY k/\MapKept.IsKey d v:=by
  have e:v=oY k:=by
    cases k with
    | bool b=>cases h;rfl
    | int k n=>cases h;rfl
    | str s=>cases h;rfl
    | _=>simp [jV] at hk
  exact⟨e,e ▸ qGH hk⟩
theorem qPV {d:TypeDesc} {k k':D} (hk:jV d k=true) (hk':jV d k'=true) (h:oY k=oY k'):k=k':=by
  cases k with
  | bool b=>cases k'<;>first|(simp [jV] at hk';done)|(simp [oY] at h;done)|(simp only [oY,Value.bool.injEq] at h;rw [h])
  | int i n=>cases k'<;>first|(simp [jV] at hk';done)|(simp [oY] at h;done)|(simp only [oY,Value.int.injEq] at h;rw [h.1,h.2])
  | str s=>cases k'<;>first|(simp [jV] at hk';done)|(simp [oY] at h;done)|(simp only [oY,Value.string.injEq] at h;rw [h])
  | _=>simp [jV] at hk
def qBC (w:World) (X:Nat->Prop) (es:List (D×D)) (ents:Array MapEntry):Prop:=
  ents.size=es.length/\∀ (k:Nat) (e:D×D) (m:MapEntry),es[k]?=some e->ents[k]?=some m->DRep w X e.1 m.key/\DRep w X e.2 m.val
section find
variable {X:Nat->Prop} {d:TypeDesc} {k:D} {es:List (D×D)} {ents:Array MapEntry}
theorem qQI (hE:qBC w X es ents) (hks:∀ e∈es,jV d e.1=true):∀ x∈ents.toList,MapKept.IsKey d x.key:=by
  intro x hx;obtain⟨i,hi⟩:=List.getElem?_of_mem hx;have hi':ents[i]?=some x:=by simpa using hi
  have hlt:i < es.length:=by rw [<- hE.1];exact (Array.getElem?_eq_some_iff.1 hi').1
  exact (vU (hks es[i] (List.getElem_mem hlt)) (hE.2 i es[i] x (by simp [hlt]) hi').1).2
theorem qVA (hE:qBC w X es ents) (hks:∀ e∈es,jV d e.1=true) (hk:jV d k=true) (hne:∀ e∈es,e.1≠k):Instr.findNow d (oY k) ents.toList 0=some none:=by
  have hkk:MapKept.IsKey d (oY k):=qGH hk;rcases MapKept.findNow_spec hkk ents.toList 0 (qQI hE hks) with ⟨h1,_⟩|⟨j,e,_,h2,h3⟩
  · exact h1
  exfalso;have hj:ents[j]?=some e:=by simpa using h2
  have hlt:j < es.length:=by rw [<- hE.1];exact (Array.getElem?_eq_some_iff.1 hj).1
  have hmem:=List.getElem_mem hlt;have:=(vU (hks es[j] hmem) (hE.2 j es[j] e (by simp [hlt]) hj).1).1;exact hne _ hmem (qPV (hks _ hmem) hk (by rw [<- this,h3]))
theorem qQH (hE:qBC w X es ents) (hks:∀ e∈es,jV d e.1=true) (hnd:(es.map (·.1)).Nodup) {j:Nat} {v:D} (hj:es[j]?=some (k,v)):∃ e,ents[j]?=some e/\e.key=oY k/\DRep w X v e.val/\Instr.findNow d (oY k) ents.toList 0=some (some (j,e.val)):=by
  have hjl:=(List.getElem?_eq_some_iff.1 hj).1;have hk:jV d k=true:=hks (k,v) (List.mem_of_getElem? hj);have hkk:MapKept.IsKey d (oY k):=qGH hk;have hjs:j < ents.size:=by rw [hE.1];exact hjl
  have he:ents[j]?=some ents[j]:=by simp [hjs]
  have hr:=hE.2 j (k,v) ents[j] hj he;have hkey:=(vU hk hr.1).1;rcases MapKept.findNow_spec hkk ents.toList 0 (qQI hE hks) with ⟨_,h2⟩|⟨j',e',h1,h2,h3⟩
  · exact absurd hkey (h2 ents[j] (by simp))
  have hj' : ents[j']? = some e' := by simpa using h2
  have hlt:j' < es.length:=by rw [<- hE.1];exact (Array.getElem?_eq_some_iff.1 hj').1
  have hmem:=List.getElem_mem hlt;have h4:=(vU (hks es[j'] hmem) (hE.2 j' es[j'] e' (by simp [hlt]) hj').1).1;have h5:es[j'].1=k:=qPV (hks _ hmem) hk (by rw [<- h4,h3]);have h6:j'=j:=nodup_at (x:=k) hnd (by simp [hlt,h5]) (by simp [hj]);subst h6;rw [he] at hj';cases hj';exact⟨_,he,hkey,hr.2,by simpa using h1⟩
where
  nodup_at {α:Type} {l:List α} (hn:l.Nodup) {i j:Nat} {x:α} (hi:l[i]?=some x) (hj:l[j]?=some x):i=j:=by
    obtain⟨h1,h1'⟩:=List.getElem?_eq_some_iff.1 hi;obtain⟨h2,h2'⟩:=List.getElem?_eq_some_iff.1 hj;exact (List.getElem_inj hn).1 (h1'.trans h2'.symm)
end find
theorem zAU {id:Nat} {v:Value} (h:ARep w g (.mmap id) v):∃ b,g.phi id=some b/\v=.map (some b):=by
  cases h with
  | mmap _ b hb=>exact⟨b,hb,rfl⟩
def mty (P:Program) (t:TypeId):Option (TypeId×TypeDesc×TypeId):=
  match P.underlying t with
  | some (.map k e)=>match P.underlying k with
    | some d=>some (k,d,e)
    | none=>none
  | _=>none
theorem qEN {t k e:TypeId} {d:TypeDesc} (h:mty P t=some (k,d,e)):P.underlying t=some (.map k e)/\P.underlying k=some d:=by
  unfold mty at h;split at h
  · rename_i k' e' hu
    split at h
    · rename_i d' hd
      cases h;exact⟨hu,hd⟩
    cases h
  cases h
section look
variable {o:Oper} {ev:Operand->AV} {hp:List Blk} {x y:Operand} {t kt et kt' et':TypeId} {d:TypeDesc} {id:Nat} {es:List (D×D)} {k v zd:D} {z:Value}
theorem wV (hs:Sim C st g a w) (hl:mty C.P t=some (kt,d,et)) (hx:st.fr.ev x=.mmap id) (hb:st.hp[id]?=some (.map kt' et' es)) (hy:st.fr.ev y=.d k) (hk:jV d k=true):
    ∃ b ents clock,g.phi id=some b/\a.eval x=.map (some b)/\w.heap[b]?=some (.map ents clock)/\qBC w g.X es ents/\a.eval y=oY k/\MapKept.IsKey d (oY k):=by
  have h1:=hs.ev x;rw [hx] at h1;obtain⟨b,hp,he⟩:=zAU h1;rcases hs.hp id _ hb with ⟨_,hp'⟩|⟨b',ents,clock,hp',hw,hsz,hr⟩<;>cases hp.symm.trans hp'
  have h2:=hs.ev y;rw [hy] at h2;have h3:DRep w g.X k (a.eval y):=by cases h2 with|d _ _ h=>exact h
  obtain⟨h4,h5⟩:=vU hk h3;exact⟨b,ents,clock,hp,he,hw,⟨hsz,hr⟩,h4,h4 ▸ h5⟩
end look
section upd
variable {o:Oper} {K:St->Prop} {x y u:Operand} {t tk kt et kt' et':TypeId} {d:TypeDesc} {id:Nat} {es:List (D×D)} {k v:D}
theorem qSV (ho:o.op=.makeMap t none) (hd:qT C.n o.dst=true) (kt et:TypeId) (hK:K (St.put ⟨st.fr,st.hp++[.map kt et []]⟩ o.dst (.mmap st.hp.length))):OpOk C o st K:=
  OpOk.change λg a w hs=>by
    refine⟨.map (some w.heap.size),w.alloc (.map #[] 0),?_,_,_,hK,(hs.alloc (n:=0) (B:=.map kt et []) (.inr ⟨w.heap.size,#[],0,by simp [Gh.new,upd],heap_alloc_new w _,rfl,λk e m he=>by simp at he⟩)).put' hd (.mmap _ w.heap.size (by simp [Gh.new,upd]))⟩;simp only [execOp,ho];simp [Instr.makeMap,newObj,Sem.run,Result.andThen]
theorem qGC (hs:Sim C st g a w) {b:Nat} {ents ents':Array MapEntry} {clock clock':Nat} {es':List (D×D)} (hp:g.phi id=some b) (hb:st.hp[id]?=some (.map kt' et' es)) (hw:w.heap[b]?=some (.map ents clock)) (hE:qBC w g.X es' ents'):
    Sim C ⟨st.fr,st.hp.set id (.map kt' et' es')⟩ g a { w with heap:=w.heap.setIfInBounds b (.map ents' clock') }:=by
  have hX:∀ b',g.X b'->b'≠b:=λb' hX e=>(hs.lt id b hp).2.2 (e ▸ hX);have hold:=(MapKept.heap_set (o':=.map ents' clock') hw).2;refine hs.change (w':={ w with heap:=w.heap.setIfInBounds b (.map ents' clock') }) hb (λe=>by cases e) hp (by simp) rfl rfl rfl (Nat.le_refl _) hold (.inr ⟨b,ents',clock',hp,(MapKept.heap_set hw).1,hE.1,λj e m he hm=>?_⟩);exact⟨(hE.2 j e m he hm).1.mono (λ_ h=>h) λb' hb'=>hold b' (hX b' hb'),(hE.2 j e m he hm).2.mono (λ_ h=>h) λb' hb'=>hold b' (hX b' hb')⟩
theorem qSU (ho:o.op=.mapUpdate t x y u) (hd:o.dst=none) (hl:mty C.P t=some (kt,d,et)) (hx:st.fr.ev x=.mmap id) (hb:st.hp[id]?=some (.map kt' et' es)) (hy:st.fr.ev y=.d k) (hu:st.fr.ev u=.d v) (hk:jV d k=true) (hks:∀ e∈es,jV d e.1=true) (hne:∀ e∈es,e.1≠k)
    (hK:K ⟨st.fr,st.hp.set id (.map kt' et' (es++[(k,v)]))⟩):OpOk C o st K:=
  OpOk.skip λg a w hs=>by
    obtain⟨b,ents,clock,hp,hex,hw,hE,hey,hkk⟩:=wV hs hl hx hb hy hk;have hf:=qVA hE hks hk hne;obtain⟨hu',hd'⟩:=qEN hl;have hv:=hs.ev u;rw [hu] at hv;have hv':DRep w g.X v (a.eval u):=by cases hv with|d _ _ h=>exact h
    have hkd:=hs.ev y;rw [hy,hey] at hkd;have hkd':DRep w g.X k (oY k):=by cases hkd with|d _ _ h=>exact h
    refine⟨{ w with heap:=w.heap.setIfInBounds b (.map (ents.push { key:=oY k,val:=a.eval u,born:=clock }) (clock+1)) },?_,_,g,hK,?_⟩
    · simp only [execOp,ho,hex,hey]
      simp [Instr.mapUpdate,run_underlying hu',MapKept.run_getObj_map hw,MapKept.run_checkKey hd' hkk,MapKept.run_findKey hd' hf,MapKept.run_setObj_map _ hw,Result.andThen]
    rw [hd];refine qGC hs hp hb hw ⟨by simp [hE.1],λj e m he hm=>?_⟩;rw [List.getElem?_append] at he;rw [Array.getElem?_push] at hm;split at he
    · rename_i hlt
      rw [if_neg (by rw [hE.1];omega)] at hm;exact hE.2 j e m he hm
    rename_i hge
    have hj:j=es.length:=by
      rcases Nat.lt_or_ge (j - es.length) 1 with h1|h1
      · omega
      rw [List.getElem?_eq_none (by simpa using h1)] at he;cases he
    subst hj;rw [if_pos hE.1.symm] at hm;simp at he hm;subst he hm;exact⟨hkd',hv'⟩
theorem qXA {j:Nat} {v0:D} (ho:o.op=.mapUpdate t x y u) (hd:o.dst=none) (hl:mty C.P t=some (kt,d,et)) (hx:st.fr.ev x=.mmap id) (hb:st.hp[id]?=some (.map kt' et' es)) (hy:st.fr.ev y=.d k) (hu:st.fr.ev u=.d v) (hks:∀ e∈es,jV d e.1=true) (hnd:(es.map (·.1)).Nodup) (hj:es[j]?=some (k,v0))
    (hK:K ⟨st.fr,st.hp.set id (.map kt' et' (es.set j (k,v)))⟩):OpOk C o st K:=
  OpOk.skip λg a w hs=>by
    have hk:jV d k=true:=hks (k,v0) (List.mem_of_getElem? hj);obtain⟨b,ents,clock,hp,hex,hw,hE,hey,hkk⟩:=wV hs hl hx hb hy hk;obtain⟨e0,he0,hek,_,hf⟩:=qQH hE hks hnd hj;obtain⟨hu',hd'⟩:=qEN hl;have hv:=hs.ev u;rw [hu] at hv;have hv':DRep w g.X v (a.eval u):=by cases hv with|d _ _ h=>exact h
    have hkd:=hs.ev y;rw [hy,hey] at hkd;have hkd':DRep w g.X k (oY k):=by cases hkd with|d _ _ h=>exact h
    have hst:(Instr.keyThatStays e0.key (oY k)).run C.P w=.ok (oY k) w:=by rw [hek];exact MapKept.run_keyThatStays hkk
    refine⟨{ w with heap:=w.heap.setIfInBounds b (.map (ents.modify j λe=>{ e with key:=oY k,val:=a.eval u }) clock) },?_,_,g,hK,?_⟩
    · simp only [execOp,ho,hex,hey]
      simp [Instr.mapUpdate,run_underlying hu',MapKept.run_getObj_map hw,MapKept.run_checkKey hd' hkk,MapKept.run_findKey hd' hf,he0,hst,MapKept.run_setObj_map _ hw,Result.andThen]
    rw [hd];refine qGC hs hp hb hw ⟨by simp [hE.1],λi e m he hm=>?_⟩;rw [List.getElem?_set] at he;rw [Array.getElem?_modify] at hm;split at he
    · rename_i hij
      subst hij;rw [if_pos rfl,he0] at hm;split at he
      · cases he
        simp at hm;subst hm;exact⟨hkd',hv'⟩
      cases he
    rename_i hij;rw [if_neg hij] at hm;exact hE.2 i e m he hm
end upd
section steps
variable {ops:Array Oper} {l:List Oper} {K:St->Prop} {fr:Fr} {hp:List Blk} {dd:Nat} {ty:TypeId} {pos:String} {after:Array Edge} {x y u:Operand} {t tk kt et kt' et':TypeId} {d:TypeDesc} {id:Nat} {es es':List (D×D)} {k v:D}
theorem wQ (kt et:TypeId) (hd:decide (dd < C.n)=true) (h:cE C ops l ⟨(dd,.mmap hp.length) :: fr,hp++[.map kt et []]⟩ K):cE C ops (⟨some dd,.makeMap t none,ty,pos,after,none⟩ :: l) ⟨fr,hp⟩ K:=
  eB rfl (qSV rfl hd kt et h)
theorem qWK (hl:mty C.P t=some (kt,d,et)) (hx:fr.ev x=.mmap id) (hb:hp[id]?=some (.map kt' et' es)) (hy:fr.ev y=.d k) (hu:fr.ev u=.d v) (hk:jV d k=true) (hks:∀ e∈es,jV d e.1=true) (hne:∀ e∈es,e.1≠k) (he:es++[(k,v)]=es')
    (h:cE C ops l ⟨fr,hp.set id (.map kt' et' es')⟩ K):cE C ops (⟨none,.mapUpdate t x y u,ty,pos,after,none⟩ :: l) ⟨fr,hp⟩ K:=by
  subst he;exact eB rfl (qSU rfl rfl hl hx hb hy hu hk hks hne h)
theorem qZQ {j:Nat} {v0:D} (hl:mty C.P t=some (kt,d,et)) (hx:fr.ev x=.mmap id) (hb:hp[id]?=some (.map kt' et' es)) (hy:fr.ev y=.d k) (hu:fr.ev u=.d v) (hks:∀ e∈es,jV d e.1=true) (hnd:(es.map (·.1)).Nodup) (hj:es[j]?=some (k,v0)) (he:es.set j (k,v)=es')
    (h:cE C ops l ⟨fr,hp.set id (.map kt' et' es')⟩ K):cE C ops (⟨none,.mapUpdate t x y u,ty,pos,after,none⟩ :: l) ⟨fr,hp⟩ K:=by
  subst he;exact eB rfl (qXA rfl rfl hl hx hb hy hu hks hnd hj h)
end steps
section
variable {C:Ctx} {ops:Array Oper} {l:List Oper} {K:St->Prop} {fr:Fr} {hp:List Blk} {ty:TypeId} {pos:String} {after:Array Edge} {x y u:Operand} {t tk kt et kt' et':TypeId} {id:Nat}
end
theorem qTT (s u:ByteArray):(s.toList == u.toList)=decide (s=u):=by
  rw [ByteArray.toList_eq,ByteArray.toList_eq,Bool.eq_iff_iff];simp only [beq_iff_eq,decide_eq_true_eq];constructor
  · intro h
    cases s;cases u
    congr 1
    exact Array.toList_inj.1 h
  intro h;rw [h]
def qTL (op:BinOp) (e:Bool):Option Bool:=
  match op with
  | .eql=>some e
  | .neq=>some (!e)
  | _=>none
theorem zER {C:Ctx} {o:Oper} {ev:Operand->AV} {hp:List Blk} {op:BinOp} {t t':TypeId} {x y:Operand} {p q:ByteArray} {r:Bool} (ho:o.op=.binOp op t x y t') (hx:ev x=.d (.str p)) (hy:ev y=.d (.str q)) (hr:qTL op (decide (p=q))=some r):RdOk C o ev hp (.d (.bool r)):=
  RdOk.mk λst hhp hag g a w hs=>by
    have h:=hs.ev x;rw [hag x (by simp [ho,Op.operands]),hx] at h;have hi:=hs.ev y;rw [hag y (by simp [ho,Op.operands]),hy] at hi;refine⟨.bool r,?_,.d _ _ (.bool r)⟩
    have hg:(eqGuard op t x y (.string p) (.string q)).run C.P w=.ok () w:=by
      unfold eqGuard;cases op<;>simp
    simp only [execOp,ho,str_inv h,str_inv hi,Sem.run_bind,hg,Result.andThen_ok];cases op<;>simp only [qTL] at hr<;>cases hr<;>simp [binOp,Op.stringOp,qTT]
end Go.TL
set_option linter.unusedVariables false
set_option linter.unusedSimpArgs false
set_option linter.unusedSectionVars false
namespace Go.TL
variable {C:Ctx} {st:St} {g:Gh} {a:Act} {w:World} {P:Program}
section look0
variable {o:Oper} {ev:Operand->AV} {hp:List Blk} {x y:Operand} {t kt et kt' et':TypeId} {d:TypeDesc} {id:Nat} {es:List (D×D)} {k v zd:D} {z:Value}
theorem qLS {j:Nat} (ho:o.op=.lookup t x y false) (hl:mty C.P t=some (kt,d,et)) (hx:ev x=.mmap id) (hb:hp[id]?=some (.map kt' et' es)) (hy:ev y=.d k) (hks:∀ e∈es,jV d e.1=true) (hnd:(es.map (·.1)).Nodup) (hj:es[j]?=some (k,v)):RdOk C o ev hp (.d v):=
  RdOk.mk λst hhp hag g a w hs=>by
    have hk:jV d k=true:=hks (k,v) (List.mem_of_getElem? hj);obtain⟨b,ents,clock,hp',hex,hw,hE,hey,hkk⟩:=wV hs hl (by rw [hag x (by simp [ho,Op.operands]),hx]) (hhp id _ hb λe=>by cases e) (by rw [hag y (by simp [ho,Op.operands]),hy]) hk;obtain⟨e,_,_,hv,hf⟩:=qQH hE hks hnd hj;obtain⟨hu,hd⟩:=qEN hl;refine⟨e.val,?_,.d _ _ hv⟩;simp only [execOp,ho,hex,hey];simp [Instr.lookup,run_underlying hu,MapKept.run_getObj_map hw,MapKept.run_checkKey hd hkk,MapKept.run_findKey hd hf,Result.andThen]
theorem qOP (ho:o.op=.lookup t x y false) (hl:mty C.P t=some (kt,d,et)) (hz:(C.P.info? et).bind (·.zero)=some z) (hzd:cU z=.d zd) (hx:ev x=.mmap id) (hb:hp[id]?=some (.map kt' et' es)) (hy:ev y=.d k) (hk:jV d k=true) (hks:∀ e∈es,jV d e.1=true) (hne:∀ e∈es,e.1≠k):RdOk C o ev hp (.d zd):=
  RdOk.mk λst hhp hag g a w hs=>by
    obtain⟨b,ents,clock,hp',hex,hw,hE,hey,hkk⟩:=wV hs hl (by rw [hag x (by simp [ho,Op.operands]),hx]) (hhp id _ hb λe=>by cases e) (by rw [hag y (by simp [ho,Op.operands]),hy]) hk;have hf:=qVA hE hks hk hne;obtain⟨hu,hd⟩:=qEN hl;refine⟨z,?_,by rw [<- hzd];exact fY w g _⟩;simp only [execOp,ho,hex,hey];simp [Instr.lookup,run_underlying hu,MapKept.run_getObj_map hw,MapKept.run_checkKey hd hkk,MapKept.run_findKey hd hf,qHX hz,Result.andThen]
end look0
structure KeyF (d:TypeDesc) {α:Type} (kf:α->D):Prop where
  key:∀ a,jV d (kf a)=true
  inj:∀ a b,kf a=kf b->a=b
theorem qPW:KeyF .string D.str:=⟨λ_=>rfl,λa b h=>by cases h;rfl⟩
theorem oE (k:IntKind):KeyF (.int k) (D.int k):=⟨λ_=>by simp [jV],λa b h=>by cases h;rfl⟩
def dE {α β:Type} (kf:α->D) (f:β->D) (fs:List (α×β)):List (D×D):=fs.map λx=>(kf x.1,f x.2)
def cO {α β:Type} [DecidableEq α] (fs:List (α×β)) (s:α):Option β:=(fs.find? λx=>decide (x.1=s)).map (·.2)
section pm
variable {α β:Type} [DecidableEq α] {kf:α->D} {f:β->D} {fs:List (α×β)} {s:α} {b:β} {dk:TypeDesc}
theorem qDP (h:cO fs s=none):∀ x∈fs,x.1≠s:=by
  intro x hx e;unfold cO at h;simp only [Option.map_eq_none_iff,List.find?_eq_none] at h;have:=h x hx;simp [e] at this
theorem qRJ (h:cO fs s=some b):∃ j:Nat,fs[j]?=some (s,b):=by
  unfold cO at h;simp only [Option.map_eq_some_iff] at h;obtain⟨x,hx,rfl⟩:=h;have h1:=List.find?_some hx;simp at h1;subst h1;obtain⟨j,hj⟩:=List.getElem?_of_mem (List.mem_of_find?_eq_some hx);exact⟨j,hj⟩
theorem rO (hk:KeyF dk kf):∀ e∈dE kf f fs,jV dk e.1=true:=λe he=>by
  unfold dE at he;simp only [List.mem_map] at he;obtain⟨x,_,rfl⟩:=he;exact hk.key _
theorem xY (hk:KeyF dk kf) (h:(fs.map (·.1)).Nodup):((dE kf f fs).map (·.1)).Nodup:=by
  have:(dE kf f fs).map (·.1)=(fs.map (·.1)).map kf:=by simp [dE]
  rw [this];exact h.map _ λa b hab e=>hab (hk.inj _ _ e)
theorem qFX (hk:KeyF dk kf) (h:∀ x∈fs,x.1≠s):∀ e∈dE kf f fs,e.1≠kf s:=λe he=>by
  unfold dE at he;simp only [List.mem_map] at he;obtain⟨x,hx,rfl⟩:=he;exact λq=>h x hx (hk.inj _ _ q)
variable {o:Oper} {ev:Operand->AV} {hp:List Blk} {x y u:Operand} {t kt et kt' et':TypeId} {id:Nat} {zd:D} {z:Value}
theorem qOO (hk:KeyF dk kf) (f:β->D) (fs:List (α×β)) (s:α) (ho:o.op=.lookup t x y false) (hl:mty C.P t=some (kt,dk,et)) (hz:(C.P.info? et).bind (·.zero)=some z) (hzd:cU z=.d zd)
    (hx:ev x=.mmap id) (hb:hp[id]?=some (.map kt' et' (dE kf f fs))) (hy:ev y=.d (kf s)) (hnd:(fs.map (·.1)).Nodup):RdOk C o ev hp (.d (match cO fs s with|some b=>f b|none=>zd)):=by
  cases h:cO fs s with
  | none=>exact qOP ho hl hz hzd hx hb hy (hk.key _) (rO hk) (qFX hk (qDP h))
  | some b=>
    obtain⟨j,hj⟩:=qRJ h;exact qLS (j:=j) ho hl hx hb hy (rO hk) (xY hk hnd) (by simp [dE,hj])
variable {ops:Array Oper} {l:List Oper} {K:St->Prop} {fr:Fr} {ty:TypeId} {pos:String} {after:Array Edge}
theorem qZP (hk:KeyF dk kf) (f:β->D) {fs:List (α×β)} {s:α} {b:β} {es':List (D×D)} (hl:mty C.P t=some (kt,dk,et)) (hx:fr.ev x=.mmap id) (hb:hp[id]?=some (.map kt' et' (dE kf f fs))) (hy:fr.ev y=.d (kf s)) (hu:fr.ev u=.d (f b)) (hn:cO fs s=none) (he:dE kf f (fs++[(s,b)])=es')
    (h:cE C ops l ⟨fr,hp.set id (.map kt' et' es')⟩ K):cE C ops (⟨none,.mapUpdate t x y u,ty,pos,after,none⟩ :: l) ⟨fr,hp⟩ K:=
  qWK hl hx hb hy hu (hk.key _) (rO hk) (qFX hk (qDP hn)) (by rw [<- he];simp [dE]) h
end pm
section arr
variable {o:Oper} {K:St->Prop} {t:TypeId}
theorem zFT {w:World} {g:Gh} {n:Nat} {zd:D} {v:Value} (h:ARep w g (.d (.agg (List.replicate n zd))) v) (h1:zd.one=true):RowOf w g.X 1 (List.replicate n zd) v.cells:=by
  have hf:(AV.d (.agg (List.replicate n zd))).flat=true:=rfl;obtain⟨hp,_⟩:=h.pw hf;have hc:zd.cells=[zd]:=by cases zd<;>first|rfl|cases h1
  have hsz:v.cells.size=n:=by have:=hp.1;simpa [AV.cells,D.cells] using this.symm
  refine⟨by simp [hsz],λi e he=>?_,λi e j c he hcj=>?_,λi e j c he hcj=>?_⟩
  · rw [List.getElem?_replicate] at he;split at he<;>cases he;rw [hc];rfl
  · rw [List.getElem?_replicate] at he;split at he<;>cases he
    rw [hc] at hcj
    cases j with
    | zero=>simp at hcj;subst hcj;exact h1
    | succ j=>simp at hcj
  rw [List.getElem?_replicate] at he;split at he
  · rename_i hi
    cases he;rw [hc] at hcj
    cases j with
    | succ j=>simp at hcj
    | zero=>
      simp at hcj;subst hcj;have h1:(AV.d (.agg (List.replicate n zd))).cells[i]?=some (.d zd):=by simp [AV.cells,D.cells,hi]
      have h2:v.cells.toList[i]?=some (v.cells.toList[i]'(by simp [hsz,hi])):=by simp [hsz,hi]
      have h3:=hp.2 i _ _ h1 h2;refine⟨v.cells.toList[i]'(by simp [hsz,hi]),by simp [hsz,hi],?_⟩;cases h3 with|d _ _ h=>exact h
  cases he
theorem qPF {n:Nat} {zd:D} {z:Value} (ho:o.op=.alloc t) (hd:qT C.n o.dst=true) (hz:(C.P.info? t).bind (·.zero)=some z) (hzd:cU z=.d (.agg (List.replicate (n+1) zd))) (h1:zd.one=true)
    (hK:K (St.put ⟨st.fr,st.hp++[.flat t 1 (List.replicate (n+1) zd)]⟩ o.dst (.mptr st.hp.length 1 0 0))):OpOk C o st K:=
  OpOk.change λg a w hs=>by
    cases hi:C.P.info? t with
    | none=>simp [hi] at hz
    | some i=>
      simp [hi] at hz;have hrow:=zFT (w:=w) (g:=g) (by rw [<- hzd];exact fY w g z) h1;obtain⟨hsim,h2⟩:=qEM (ty:=t) hs hrow.le hrow.h0 hrow.h1 hrow.rep;have h3:ARep (w.alloc (Obj.cells z.cells t)) (g.new st.hp.length w.heap.size z.cells.size) (.mptr st.hp.length 1 0 0) (.pointer (some ⟨w.heap.size,0,none⟩)):=.mptr _ 1 0 0 w.heap.size (by simp [Gh.new,upd]);exact⟨_,_,by simp [execOp,ho,Instr.alloc,zeroValue,typeInfo,hi,hz,newVar,newRow],_,_,hK,hsim.put' hd h3⟩
theorem qSC {ops:Array Oper} {l:List Oper} {fr:Fr} {hp:List Blk} {d:Nat} {ty:TypeId} {pos:String} {after:Array Edge} (n:Nat) {zd:D} {z:Value} (hd:decide (d < C.n)=true) (hz:(C.P.info? t).bind (·.zero)=some z) (hzd:cU z=.d (.agg (List.replicate (n+1) zd))) (h1:zd.one=true)
    (h:cE C ops l ⟨(d,.mptr hp.length 1 0 0) :: fr,hp++[.flat t 1 (List.replicate (n+1) zd)]⟩ K):cE C ops (⟨some d,.alloc t,ty,pos,after,none⟩ :: l) ⟨fr,hp⟩ K:=
  eB rfl (qPF rfl hd hz hzd h1 h)
theorem qTD {ev:Operand->AV} {hp:List Blk} {x y:Operand} {id n s:Nat} {k:IntKind} {i:Int} (ho:o.op=.indexAddr t x y) (hl:qNE C.P t=some (n,s)) (hx:ev x=.mptr id s 0 0) (hy:ev y=.d (.int k i)) (h:0<=i/\i < n):RdOk C o ev hp (.mptr id s i.toNat 0):=
  RdOk.mk λst hhp hag g a w hs=>by
    have h:=hs.ev x;rw [hag x (by simp [ho,Op.operands]),hx] at h;obtain⟨b,hp,he⟩:=gN h;have hi:=hs.ev y;rw [hag y (by simp [ho,Op.operands]),hy] at hi;obtain⟨e,inf,hu,hinf,hsz⟩:=qRK hl;rename_i h0;refine⟨.pointer (some ((⟨b,0 * s+0,none⟩:Addr).add (i.toNat * s))),?_,?_⟩
    · simp only [execOp,ho,he,int_inv hi]
      simp [Instr.indexAt,run_underlying hu,asIntOf,h0.1,h0.2,sizeOf,typeInfo,hinf,hsz,Instr.sureAddr]
    rw [kY];simp only [Nat.zero_mul,Nat.zero_add];exact .mptr id s i.toNat 0 b hp
end arr
end Go.TL
