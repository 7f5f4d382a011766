/- Texts of this proof, joined, without what it does not use. No condition. -/
import Derived.MapKept
import Derived.Laws.Strings
import Derived.Test.YtdkhkhidekpfoaaQj

set_option linter.unusedVariables false
set_option linter.unusedSimpArgs false
namespace Go.TL
variable {C:Ctx} {st:St} {g:Gh} {a:Act} {w:World} {P:Program}
def keyD (d:TypeDesc):D→Bool
  | .bool _=>match d with|.bool=>true|_=>false
  | .int k _=>match d with|.int k'=>k == k'|_=>false
  | .str _=>match d with|.string=>true|_=>false
  | _=>false
def mI (w:World) (X:Nat→Prop) (es:List (D×D)) (ents:Array MapEntry):Prop:=
  ents.size=es.length∧∀ (k:Nat) (e:D×D) (m:MapEntry),es[k]?=some e→ents[k]?=some m→DRep w X e.1 m.key∧DRep w X e.2 m.val
section find
variable {X:Nat→Prop} {d:TypeDesc} {k:D} {es:List (D×D)} {ents:Array MapEntry}
end find
theorem tQ {id:Nat} {v:Value} (h:ARep w g (.mmap id) v):∃ b,g.phi id=some b∧v=.map (some b):=by
  cases h with
  | mmap _ b hb=>exact⟨b,hb,rfl⟩
def mty (P:Program) (t:TypeId):Option (TypeId×TypeDesc×TypeId):=
  match P.underlying t with
  | some (.map k e)=>match P.underlying k with
    | some d=>some (k,d,e)
    | none=>none
  | _=>none
theorem lR {t k e:TypeId} {d:TypeDesc} (h:mty P t=some (k,d,e)):P.underlying t=some (.map k e)∧P.underlying k=some d:=by
  unfold mty at h;split at h
  · rename_i k' e' hu
    split at h
    · rename_i d' hd
      cases h;exact⟨hu,hd⟩
    cases h
  cases h
section look
variable {o:Oper} {ev:Operand→AV} {hp:List Blk} {x y:Operand} {t kt et kt' et':TypeId} {d:TypeDesc} {id:Nat} {es:List (D×D)} {k v zd:D} {z:Value}
end look
section upd
variable {o:Oper} {K:St→Prop} {x y u:Operand} {t tk kt et kt' et':TypeId} {d:TypeDesc} {id:Nat} {es:List (D×D)} {k v:D}
theorem vP (ho:o.op=.makeMap t none) (hd:jC C.n o.dst=true) (kt et:TypeId) (hK:K (St.put ⟨st.fr,st.hp++[.map kt et []]⟩ o.dst (.mmap st.hp.length))):OpOk C o st K:=
  OpOk.change λg a w hs=>by
    refine⟨.map (some w.heap.size),w.alloc (.map #[] 0),?_,_,_,hK,(hs.alloc (n:=0) (B:=.map kt et []) (.inr ⟨w.heap.size,#[],0,by simp [Gh.new,upd],heap_alloc_new w _,rfl,λk e m he=>by simp at he⟩)).put' hd (.mmap _ w.heap.size (by simp [Gh.new,upd]))⟩;simp only [execOp,ho];simp [Instr.makeMap,newObj,Sem.run,Result.andThen]
theorem pF (hs:Sim C st g a w) {b:Nat} {ents ents':Array MapEntry} {clock clock':Nat} {es':List (D×D)} (hp:g.phi id=some b) (hb:st.hp[id]?=some (.map kt' et' es)) (hw:w.heap[b]?=some (.map ents clock)) (hE:mI w g.X es' ents'):
    Sim C ⟨st.fr,st.hp.set id (.map kt' et' es')⟩ g a { w with heap:=w.heap.setIfInBounds b (.map ents' clock') }:=by
  have hX:∀ b',g.X b'→b'≠b:=λb' hX e=>(hs.lt id b hp).2.2 (e ▸ hX);have hold:=(MapKept.heap_set (o':=.map ents' clock') hw).2;refine hs.change (w':={ w with heap:=w.heap.setIfInBounds b (.map ents' clock') }) hb (λe=>by cases e) hp (by simp) rfl rfl rfl (Nat.le_refl _) hold (.inr ⟨b,ents',clock',hp,(MapKept.heap_set hw).1,hE.1,λj e m he hm=>?_⟩);exact⟨(hE.2 j e m he hm).1.mono (λ_ h=>h) λb' hb'=>hold b' (hX b' hb'),(hE.2 j e m he hm).2.mono (λ_ h=>h) λb' hb'=>hold b' (hX b' hb')⟩
end upd
section steps
variable {ops:Array Oper} {l:List Oper} {K:St→Prop} {fr:Fr} {hp:List Blk} {dd:Nat} {ty:TypeId} {pos:String} {after:Array Edge} {x y u:Operand} {t tk kt et kt' et':TypeId} {d:TypeDesc} {id:Nat} {es es':List (D×D)} {k v:D}
theorem xW (kt et:TypeId) (hd:decide (dd < C.n)=true) (h:aV C ops l ⟨(dd,.mmap hp.length) :: fr,hp++[.map kt et []]⟩ K):aV C ops (⟨some dd,.makeMap t none,ty,pos,after,none⟩ :: l) ⟨fr,hp⟩ K:=
  cF rfl (vP rfl hd kt et h)
end steps
section
variable {C:Ctx} {ops:Array Oper} {l:List Oper} {K:St→Prop} {fr:Fr} {hp:List Blk} {ty:TypeId} {pos:String} {after:Array Edge} {x y u:Operand} {t tk kt et kt' et':TypeId} {id:Nat}
end
theorem wH (s u:ByteArray):(s.toList == u.toList)=decide (s=u):=by
  rw [ByteArray.toList_eq,ByteArray.toList_eq,Bool.eq_iff_iff];simp only [beq_iff_eq,decide_eq_true_eq];constructor
  · intro h
    cases s;cases u
    congr 1
    exact Array.toList_inj.1 h
  intro h;rw [h]
def wF (op:BinOp) (e:Bool):Option Bool:=
  match op with
  | .eql=>some e
  | .neq=>some (!e)
  | _=>none
theorem qCR {C:Ctx} {o:Oper} {ev:Operand→AV} {hp:List Blk} {op:BinOp} {t t':TypeId} {x y:Operand} {p q:ByteArray} {r:Bool} (ho:o.op=.binOp op t x y t') (hx:ev x=.d (.str p)) (hy:ev y=.d (.str q)) (hr:wF op (decide (p=q))=some r):RdOk C o ev hp (.d (.bool r)):=
  RdOk.mk λst hhp hag g a w hs=>by
    have h:=hs.ev x;rw [hag x (by simp [ho,Op.operands]),hx] at h;have hi:=hs.ev y;rw [hag y (by simp [ho,Op.operands]),hy] at hi;refine⟨.bool r,?_,.d _ _ (.bool r)⟩
    have hg:(eqGuard op t x y (.string p) (.string q)).run C.P w=.ok () w:=by
      unfold eqGuard;cases op<;>simp
    simp only [execOp,ho,rU h,rU hi,Sem.run_bind,hg,Result.andThen_ok];cases op<;>simp only [wF] at hr<;>cases hr<;>simp [binOp,Op.stringOp,wH]
end Go.TL
set_option linter.unusedVariables false
set_option linter.unusedSimpArgs false
set_option linter.unusedSectionVars false
namespace Go.TL
variable {C:Ctx} {st:St} {g:Gh} {a:Act} {w:World} {P:Program}
section look0
variable {o:Oper} {ev:Operand→AV} {hp:List Blk} {x y:Operand} {t kt et kt' et':TypeId} {d:TypeDesc} {id:Nat} {es:List (D×D)} {k v zd:D} {z:Value}
end look0
structure KeyF (d:TypeDesc) {α:Type} (kf:α→D):Prop where
  key:∀ a,keyD d (kf a)=true
  inj:∀ a b,kf a=kf b→a=b
def aK {α β:Type} (kf:α→D) (f:β→D) (fs:List (α×β)):List (D×D):=fs.map λx=>(kf x.1,f x.2)
def bT {α β:Type} [DecidableEq α] (fs:List (α×β)) (s:α):Option β:=(fs.find? λx=>decide (x.1=s)).map (·.2)
section pm
variable {α β:Type} [DecidableEq α] {kf:α→D} {f:β→D} {fs:List (α×β)} {s:α} {b:β} {dk:TypeDesc}
theorem nQ (h:bT fs s=none):∀ x∈fs,x.1≠s:=by
  intro x hx e;unfold bT at h;simp only [Option.map_eq_none_iff,List.find?_eq_none] at h;have:=h x hx;simp [e] at this
theorem uT (h:bT fs s=some b):∃ j:Nat,fs[j]?=some (s,b):=by
  unfold bT at h;simp only [Option.map_eq_some_iff] at h;obtain⟨x,hx,rfl⟩:=h;have h1:=List.find?_some hx;simp at h1;subst h1;obtain⟨j,hj⟩:=List.getElem?_of_mem (List.mem_of_find?_eq_some hx);exact⟨j,hj⟩
variable {o:Oper} {ev:Operand→AV} {hp:List Blk} {x y u:Operand} {t kt et kt' et':TypeId} {id:Nat} {zd:D} {z:Value}
variable {ops:Array Oper} {l:List Oper} {K:St→Prop} {fr:Fr} {ty:TypeId} {pos:String} {after:Array Edge}
end pm
section arr
variable {o:Oper} {K:St→Prop} {t:TypeId}
end arr
end Go.TL
