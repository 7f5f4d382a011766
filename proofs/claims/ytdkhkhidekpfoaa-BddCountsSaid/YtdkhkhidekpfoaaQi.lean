/- Texts of this proof, joined, without what it does not use. No condition. -/
import Derived.MapKept
import Derived.Laws.Strings
import Derived.Test.YtdkhkhidekpfoaaQh

set_option linter.unusedVariables false
set_option linter.unusedSimpArgs false
namespace Go.TL
variable {C:Ctx} {st:St} {g:Gh} {a:Act} {w:World} {P:Program}
def keyD (d:TypeDesc):D->Bool
  | .bool _=>match d with|.bool=>true|_=>false
  | .int k _=>match d with|.int k'=>k == k'|_=>false
  | .str _=>match d with|.string=>true|_=>false
  | _=>false
def kN (w:World) (X:Nat->Prop) (es:List (D×D)) (ents:Array MapEntry):Prop:=
  ents.size=es.length/\∀ (k:Nat) (e:D×D) (m:MapEntry),es[k]?=some e->ents[k]?=some m->DRep w X e.1 m.key/\DRep w X e.2 m.val
section find
variable {X:Nat->Prop} {d:TypeDesc} {k:D} {es:List (D×D)} {ents:Array MapEntry}
end find
theorem rL {id:Nat} {v:Value} (h:ARep w g (.mmap id) v):∃ b,g.phi id=some b/\v=.map (some b):=by
  cases h with
  | mmap _ b hb=>exact⟨b,hb,rfl⟩
def mty (P:Program) (t:TypeId):Option (TypeId×TypeDesc×TypeId):=
  match P.underlying t with
  | some (.map k e)=>match P.underlying k with
    | some d=>some (k,d,e)
    | none=>none
  | _=>none
theorem kA {t k e:TypeId} {d:TypeDesc} (h:mty P t=some (k,d,e)):P.underlying t=some (.map k e)/\P.underlying k=some d:=by
  unfold mty at h;split at h
  · rename_i k' e' hu
    split at h
    · rename_i d' hd
      cases h;exact⟨hu,hd⟩
    cases h
  cases h
section look
variable {o:Oper} {ev:Operand->AV} {hp:List Blk} {x y:Operand} {t kt et kt' et':TypeId} {d:TypeDesc} {id:Nat} {es:List (D×D)} {k v zd:D} {z:Value}
end look
section upd
variable {o:Oper} {K:St->Prop} {x y u:Operand} {t tk kt et kt' et':TypeId} {d:TypeDesc} {id:Nat} {es:List (D×D)} {k v:D}
theorem tK (ho:o.op=.makeMap t none) (hd:fU C.n o.dst=true) (kt et:TypeId) (hK:K (St.put ⟨st.fr,st.hp++[.map kt et []]⟩ o.dst (.mmap st.hp.length))):OpOk C o st K:=
  OpOk.change λg a w hs=>by
    refine⟨.map (some w.heap.size),w.alloc (.map #[] 0),?_,_,_,hK,(hs.alloc (n:=0) (B:=.map kt et []) (.inr ⟨w.heap.size,#[],0,by simp [Gh.new,upd],heap_alloc_new w _,rfl,λk e m he=>by simp at he⟩)).put' hd (.mmap _ w.heap.size (by simp [Gh.new,upd]))⟩;simp only [execOp,ho];simp [Instr.makeMap,newObj,Sem.run,Result.andThen]
theorem nD (hs:Sim C st g a w) {b:Nat} {ents ents':Array MapEntry} {clock clock':Nat} {es':List (D×D)} (hp:g.phi id=some b) (hb:st.hp[id]?=some (.map kt' et' es)) (hw:w.heap[b]?=some (.map ents clock)) (hE:kN w g.X es' ents'):
    Sim C ⟨st.fr,st.hp.set id (.map kt' et' es')⟩ g a { w with heap:=w.heap.setIfInBounds b (.map ents' clock') }:=by
  have hX:∀ b',g.X b'->b'≠b:=λb' hX e=>(hs.lt id b hp).2.2 (e ▸ hX);have hold:=(MapKept.heap_set (o':=.map ents' clock') hw).2;refine hs.change (w':={ w with heap:=w.heap.setIfInBounds b (.map ents' clock') }) hb (λe=>by cases e) hp (by simp) rfl rfl rfl (Nat.le_refl _) hold (.inr ⟨b,ents',clock',hp,(MapKept.heap_set hw).1,hE.1,λj e m he hm=>?_⟩);exact⟨(hE.2 j e m he hm).1.mono (λ_ h=>h) λb' hb'=>hold b' (hX b' hb'),(hE.2 j e m he hm).2.mono (λ_ h=>h) λb' hb'=>hold b' (hX b' hb')⟩
end upd
section steps
variable {ops:Array Oper} {l:List Oper} {K:St->Prop} {fr:Fr} {hp:List Blk} {dd:Nat} {ty:TypeId} {pos:String} {after:Array Edge} {x y u:Operand} {t tk kt et kt' et':TypeId} {d:TypeDesc} {id:Nat} {es es':List (D×D)} {k v:D}
theorem vA (kt et:TypeId) (hd:decide (dd < C.n)=true) (h:aH C ops l ⟨(dd,.mmap hp.length) :: fr,hp++[.map kt et []]⟩ K):aH C ops (⟨some dd,.makeMap t none,ty,pos,after,none⟩ :: l) ⟨fr,hp⟩ K:=
  bS rfl (tK rfl hd kt et h)
end steps
section
variable {C:Ctx} {ops:Array Oper} {l:List Oper} {K:St->Prop} {fr:Fr} {hp:List Blk} {ty:TypeId} {pos:String} {after:Array Edge} {x y u:Operand} {t tk kt et kt' et':TypeId} {id:Nat}
end
theorem tZ (s u:ByteArray):(s.toList == u.toList)=decide (s=u):=by
  rw [ByteArray.toList_eq,ByteArray.toList_eq,Bool.eq_iff_iff];simp only [beq_iff_eq,decide_eq_true_eq];constructor
  · intro h
    cases s;cases u
    congr 1
    exact Array.toList_inj.1 h
  intro h;rw [h]
def tX (op:BinOp) (e:Bool):Option Bool:=
  match op with
  | .eql=>some e
  | .neq=>some (!e)
  | _=>none
theorem zN {C:Ctx} {o:Oper} {ev:Operand->AV} {hp:List Blk} {op:BinOp} {t t':TypeId} {x y:Operand} {p q:ByteArray} {r:Bool} (ho:o.op=.binOp op t x y t') (hx:ev x=.d (.str p)) (hy:ev y=.d (.str q)) (hr:tX op (decide (p=q))=some r):RdOk C o ev hp (.d (.bool r)):=
  RdOk.mk λst hhp hag g a w hs=>by
    have h:=hs.ev x;rw [hag x (by simp [ho,Op.operands]),hx] at h;have hi:=hs.ev y;rw [hag y (by simp [ho,Op.operands]),hy] at hi;refine⟨.bool r,?_,.d _ _ (.bool r)⟩
    have hg:(eqGuard op t x y (.string p) (.string q)).run C.P w=.ok () w:=by
      unfold eqGuard;cases op<;>simp
    simp only [execOp,ho,pN h,pN hi,Sem.run_bind,hg,Result.andThen_ok];cases op<;>simp only [tX] at hr<;>cases hr<;>simp [binOp,Op.stringOp,tZ]
end Go.TL
namespace Go.TL
open Go.ChangeShapes Go.WideShapes Go.RowKit Go.Deep Go.ChangeAt
def nZ (P:Program):List TypeId->List D->Prop
  | [],[]=>True
  | t :: ts,d :: ds=>(∃ cs,cs.length=P.cellsOf t/\HasTy P t cs/\d=aL P t cs)/\nZ P ts ds
  | _,_=>False
def pY (P:Program) (S:List TypeId) (t:TypeId):Bool:=
  S.contains t&&(match P.underlying t with|some (.struct _)=>true|some (.array _ _)=>true|_=>P.cellsOf t == 1)
theorem HasTy.length {P:Program} {t:TypeId} {cs:List D} (h:HasTy P t cs) (h1:(match P.underlying t with|some (.struct _)=>true|some (.array _ _)=>true|_=>P.cellsOf t == 1)=true):cs.length=P.cellsOf t:=by
  cases h with
  | bool _ ht b=>rw [ht] at h1;exact (show P.cellsOf t=1 by simpa using h1).symm
  | int _ _ ht=>rw [ht] at h1;exact (show P.cellsOf t=1 by simpa using h1).symm
  | str _ ht=>rw [ht] at h1;exact (show P.cellsOf t=1 by simpa using h1).symm
  | sl _ _ ht=>rw [ht] at h1;exact (show P.cellsOf t=1 by simpa using h1).symm
  | struct _ _ ht _ hl=>exact hl
variable {P:Program} {H:Type} {enc:TypeId×Value->H} {w:World}
theorem yI {S : List TypeId} (hS : jY P S = true) {t : TypeId} {v : Value} {d : DataW H} {ps : List MemPlace} (hp : pY P S t = true) {base : Nat} (ok : Value.okWide P w .any base t v) (h : DataW.Trod enc P w 0 (fun _ => true) true t v d ps) (hwt : ∀ n ∈ d.weights P t, n <= reachBytes) :
    ∃ cs,cs.length=P.cellsOf t/\HasTy P t cs/\DRep w (· < w.heap.size) (aL P t cs) v:=by
  simp only [pY,Bool.and_eq_true,List.contains_iff_mem] at hp;obtain⟨fuel,hf⟩:=h;obtain⟨ds,ht,hpw,ho⟩:=jJ hS fuel t hp.1 _ _ hf hwt;refine⟨ds,ht.length hp.2,ht,?_⟩
  have single:(∀ xs,v≠.agg xs)->(aL P t ds=ds.headD .nilsl)->DRep w (· < w.heap.size) (aL P t ds) v:=by
    intro hv he;have hc:v.cells=#[v]:=by cases v<;>first|rfl|exact absurd rfl (hv _)
    rw [hc] at hpw;rw [he]
    match ds,hpw with
    | [c],hpw=>exact hpw.2 0 c v rfl rfl
    | [],hpw=>have:=hpw.1;simp at this
    | _ :: _ :: _,hpw=>have:=hpw.1;simp at this
  cases ht with
  | bool _ hu=>obtain⟨b,rfl⟩:=okWide_bool hu ok;exact single (λ_ h=>by cases h) (by simp [aL,hu])
  | int _ _ hu=>obtain⟨b,rfl⟩:=okWide_int hu ok;exact single (λ_ h=>by cases h) (by simp [aL,hu])
  | str _ hu=>obtain⟨b,rfl⟩:=okWide_string hu ok;exact single (λ_ h=>by cases h) (by simp [aL,hu])
  | sl _ _ hu=>obtain⟨_,_,_,rfl⟩:=okWide_slice hu ok;exact single (λ_ h=>by cases h) (by simp [aL,hu])
  | struct _ _ hu _ hl=>
    obtain⟨cs,rfl,hs⟩:=okWide_struct hu ok;have:aL P t ds=.agg ds:=by simp [aL,hu]
    rw [this];exact .agg ds cs (by simpa [Value.cells] using hpw.1) ho λi c v hc hv=>hpw.2 i c v hc (by simpa [Value.cells] using hv)
theorem pH {S : List TypeId} (hS : jY P S = true) : ∀ {ts : List TypeId} {vs : List Value} {ds : List (DataW H)} {ps : List MemPlace} {base : Nat}, (∀ t ∈ ts, pY P S t = true) -> (∀ (j : Nat) t v, ts[j]? = some t -> vs[j]? = some v -> Value.okWide P w .any base t v) -> DataW.TrodAll enc P w 0 (fun _ => true) true ts vs ds ps -> (∀ n ∈ DataW.weightsEach P ts ds, n <= reachBytes) ->
    ds.length=ts.length/\∃ es,nZ P ts es/\Pw (DRep w (· < w.heap.size)) es vs
  | [],[],[],_,_,_,_,_,_=>⟨rfl,[],trivial,rfl,λi x y hx=>by simp at hx⟩
  | t :: ts,v :: vs,d :: ds,ps,base,hp,hok,h,hwt=>by
    obtain⟨p,q,h1,h2,_⟩:=h;obtain⟨cs,k1,k2,k3⟩:=yI hS (hp t (by simp)) (hok 0 t v rfl rfl) h1 (λn hn=>hwt n (by simp only [DataW.weightsEach,List.mem_append];exact .inl hn));obtain⟨k4,es,k5,k6⟩:=pH hS (λt ht=>hp t (by simp [ht])) (λj t v ht hv=>hok (j+1) t v (by simpa using ht) (by simpa using hv)) h2 (λn hn=>hwt n (by simp only [DataW.weightsEach,List.mem_append];exact .inr hn));refine⟨by simp [k4],_ :: es,⟨⟨cs,k1,k2,rfl⟩,k5⟩,by simp [k6.1],λi x y hx hy=>?_⟩
    cases i with
    | zero=>simp at hx hy;subst hx hy;exact k3
    | succ i=>exact k6.2 i x y (by simpa using hx) (by simpa using hy)
  | [],_ :: _,_,_,_,_,_,h,_=>by simp [DataW.TrodAll] at h
  | [],[],_ :: _,_,_,_,_,h,_=>by simp [DataW.TrodAll] at h
  | _ :: _,[],_,_,_,_,_,h,_=>by simp [DataW.TrodAll] at h
  | _ :: _,_ :: _,[],_,_,_,_,h,_=>by simp [DataW.TrodAll] at h
theorem iW (hl : laidOutB P = true) {W W' : World} (hb : Below W.heap.size W W') : ∀ {ts : List TypeId} {vs : List Value} {ds : List (DataW H)} {ps : List MemPlace}, (∀ t ∈ ts, P.readableRec t = true /\ t < P.types.size) -> (∀ x ∈ ps, x.block < W.heap.size) -> DataW.TrodAll enc P W 0 (fun _ => true) true ts vs ds ps ->
    DataW.TrodAll enc P W' 0 (λb=>decide (b < W.heap.size)) true ts vs ds ps
  | [],[],[],_,_,_,h=>h
  | t :: ts,v :: vs,d :: ds,ps,hp,hlt,h=>by
    obtain⟨p,q,h1,h2,rfl⟩:=h;exact⟨p,q,Below.trod hl (hp t (by simp)).1 (hp t (by simp)).2 h1 hb λx hx=>hlt x (by simp [hx]),iW hl hb (λt ht=>hp t (by simp [ht])) (λx hx=>hlt x (by simp [hx])) h2,rfl⟩
  | [],_ :: _,_,_,_,_,h=>by simp [DataW.TrodAll] at h
  | [],[],_ :: _,_,_,_,h=>by simp [DataW.TrodAll] at h
  | _ :: _,[],_,_,_,_,h=>by simp [DataW.TrodAll] at h
  | _ :: _,_ :: _,[],_,_,_,h=>by simp [DataW.TrodAll] at h
def rS (P:Program) (S:List TypeId) (fn:Func):Bool:=
  jY P S && fn.params.toList.all (fun t => pY P S t && P.readableRec t && decide (t < P.types.size)) &&
    (match fn.resultTypes.toList with|[tb]=>(match P.underlying tb with|some .bool=>true|_=>false)|_=>false)
theorem tR (S:List TypeId) {C:Checked} {F:FuncId} {fn:Func} {s:ChangeSpec} (os:Os) (own:ownKnob C.prog.godebug=none) (started:os.Started) (laid:laidOutB C.prog=true) (noInit:C.prog.inits.idxOf? F=none) (hfn:C.prog.funcs[F]?=some fn)
    (wit : ∃ (w : World) (tape : Tape) (i : Input), w.os = os /\ (w.forCall tape i).Shaped C.prog /\ i.vars = [] /\ Input.okWide C.prog (w.forCall tape i) .any w.heap.size F i /\
      s.pre6 enc C.prog fn [] false (w.forCall tape i).memory i.args /\ ({} : Assume).holds C.prog (lone (Frame.enter C.prog F i.args .normal) [] (w.forCall tape i)))
    (hf:rS C.prog S fn=true) (hsv:s.vars=[]) (hs:∀ ds:List (DataW H),ds.length=fn.params.toList.length->s.fn H ds={ results:=[.lit (.bool true)],args:=ds })
    (hret:∀ ds,nZ C.prog fn.params.toList ds->Ret C.prog F [] (λ_=>false) (ds.map .d) (.d (.bool true)) []) (hL:∀ w X,Laid w (bW X):=by exact λ_ _ x hx=>by cases hx):
    ReturnsInHanded {} C os F .any (s.pre6 enc C.prog fn [] false) (s.post enc C.prog fn false true false false):=by
  refine returnsInHanded_of_change_sized own started noInit hfn wit ?_;intro W base args ds gs before hval hW _ hwt _;have hW':=hW;obtain⟨p,q,hA,hV,rfl,hfz,_⟩:=hW;rw [hsv] at hV;obtain⟨rfl,rfl⟩:=trodVars_none hV;simp only [List.append_nil] at hW';simp only [rS,Bool.and_eq_true,List.all_eq_true,decide_eq_true_eq] at hf
  obtain ⟨hl, es, hes, hpw⟩ := pH hf.1.1 (base := base) (fun t ht => (hf.1.2 t ht).1.1) (fun j t v ht hv => hval j t v (by simpa using ht) (by simpa using hv)) hA (fun n hn => by
    have hv0 : s.plain.varTypes C.prog = [] := by simp [ChangeSpec.plain, hsv, DataSpec.varTypes]
    rw [hv0, List.append_nil, List.append_nil] at hwt
    simpa using List.all_eq_true.1 hwt n hn)
  have hlt:∀ x∈p,x.block < W.heap.size:=λx hx=>by simpa using hW'.lt x hx
  obtain⟨_,hcall⟩:=hret es hes;refine (hcall W (bW λb=>b < W.heap.size) args ?_ ?_).mono λe W' hh=>?_
  · exact { defers := rfl, size := rfl, fr := fun _ => .junk _, hp := fun i B h => by simp at h, lt := fun i b h => by simp [bW] at h, inj := fun i j b _ _ _ _ _ _ h => by simp [bW] at h, Xlt := fun b h => h, Xold := fun b h _ => h
            os := rfl, tape := rfl, output := rfl, drawn := Nat.le_refl _, grown := Nat.le_refl _, keep := fun _ _ _ => rfl, own := fun i b h => by simp [bW] at h, stay := fun i b h => absurd h (Nat.not_lt_zero i), kle := Nat.zero_le _, laid := hL _ _ }
  · refine ⟨by simpa using hpw.1, fun i x v hx hv => ?_⟩
    simp only [List.getElem?_map,Option.map_eq_some_iff] at hx;obtain⟨d,hd,rfl⟩:=hx;exact .d d v (hpw.2 i d v hd hv)
  obtain⟨v,g',rfl,ho,hv⟩:=hh
  cases hv with
  | d _ _ hv=>
    cases hv;have hb:Below W.heap.size W W':=⟨ho.os,ho.tape,ho.output,ho.grown,λb hb=>ho.keep b hb λi hi=>absurd hi (Nat.not_lt_zero i)⟩;have e:s.fn H (ds++[])={ results:=[.lit (.bool true)],args:=ds }:=by rw [List.append_nil];exact hs ds hl
    refine⟨_,rfl,ds,[],p,[],p,[],hW',?_,?_,?_,hb.frame _,λh=>by cases h⟩
    · rw [e]
      have h2:=hf.2;split at h2
      · rename_i tb hts
        have hsz:fn.resultTypes.size=1:=by have:=congrArg List.length hts;simpa using this
        rw [hts,hsz];have hu:C.prog.underlying tb=some .bool:=by split at h2<;>first|assumption|cases h2
        exact trodAll_mk1 (shut_bool hu true)
      cases h2
    · rw [e]
      exact iW laid hb (λt ht=>⟨(hf.1.2 t ht).1.2,(hf.1.2 t ht).2⟩) hlt hA
    rw [hsv,e];rfl
end Go.TL
set_option linter.unusedVariables false
set_option linter.unusedSimpArgs false
set_option linter.unusedSectionVars false
namespace Go.TL
variable {C:Ctx} {st:St} {g:Gh} {a:Act} {w:World} {P:Program}
section look0
variable {o:Oper} {ev:Operand->AV} {hp:List Blk} {x y:Operand} {t kt et kt' et':TypeId} {d:TypeDesc} {id:Nat} {es:List (D×D)} {k v zd:D} {z:Value}
end look0
structure KeyF (d:TypeDesc) {α:Type} (kf:α->D):Prop where
  key:∀ a,keyD d (kf a)=true
  inj:∀ a b,kf a=kf b->a=b
def aF {α β:Type} (kf:α->D) (f:β->D) (fs:List (α×β)):List (D×D):=fs.map λx=>(kf x.1,f x.2)
def cA {α β:Type} [DecidableEq α] (fs:List (α×β)) (s:α):Option β:=(fs.find? λx=>decide (x.1=s)).map (·.2)
section pm
variable {α β:Type} [DecidableEq α] {kf:α->D} {f:β->D} {fs:List (α×β)} {s:α} {b:β} {dk:TypeDesc}
theorem lU (h:cA fs s=none):∀ x∈fs,x.1≠s:=by
  intro x hx e;unfold cA at h;simp only [Option.map_eq_none_iff,List.find?_eq_none] at h;have:=h x hx;simp [e] at this
theorem sM (h:cA fs s=some b):∃ j:Nat,fs[j]?=some (s,b):=by
  unfold cA at h;simp only [Option.map_eq_some_iff] at h;obtain⟨x,hx,rfl⟩:=h;have h1:=List.find?_some hx;simp at h1;subst h1;obtain⟨j,hj⟩:=List.getElem?_of_mem (List.mem_of_find?_eq_some hx);exact⟨j,hj⟩
variable {o:Oper} {ev:Operand->AV} {hp:List Blk} {x y u:Operand} {t kt et kt' et':TypeId} {id:Nat} {zd:D} {z:Value}
variable {ops:Array Oper} {l:List Oper} {K:St->Prop} {fr:Fr} {ty:TypeId} {pos:String} {after:Array Edge}
end pm
section arr
variable {o:Oper} {K:St->Prop} {t:TypeId}
end arr
end Go.TL
