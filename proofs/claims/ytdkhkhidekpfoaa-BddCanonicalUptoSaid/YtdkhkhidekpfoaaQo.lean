/- Texts of this proof, joined, without what it does not use. No condition. -/
import Derived.DeepKeys3
import Derived.Test.YtdkhkhidekpfoaaQn

set_option linter.unusedVariables false
set_option linter.unusedSimpArgs false
set_option linter.unusedSectionVars false
namespace Go.TL
open Go.Sort Go.Proofs
variable {P:Program} {C:Ctx} {st:St} {g:Gh} {a:Act} {w:World}
def gI (ks:List TypeDesc) (k:D):Prop:=∃ cs L,k=.agg cs∧eS cs=some L∧dC ks L
def fA:D→Value
  | .agg cs=>.agg (((eS cs).getD []).map bP).toArray
  | _=>undef
theorem jQ {cs:List D} {L:List Lit} (h:eS cs=some L):fA (.agg cs)=.agg (L.map bP).toArray:=by
  show Value.agg (((eS cs).getD []).map bP).toArray=_;rw [h];rfl
theorem qAR {c d:D} {x:Lit} (h:tW c=some x) (h':tW d=some x):c=d:=by
  have e:tW c=tW d:=h.trans h'.symm;have n:tW c≠none:=by rw [h];simp
  clear h h'
  cases c<;>first
    | exact absurd rfl n
    | (cases d<;>simp only [tW,Option.some.injEq,reduceCtorEq,Lit.bool.injEq,Lit.int.injEq,Lit.string.injEq] at e)
  · rw [e]
  · rw [e.1,e.2]
  congr 1
  exact ByteArray.ext (Array.ext' e)
theorem rF:∀ {cs ds:List D} {L:List Lit},eS cs=some L→eS ds=some L→cs=ds
  | [],[],L,h,h'=>rfl
  | [],d :: ds,L,h,h'=>by
    cases h;simp only [eS] at h';split at h'<;>cases h'
  | c :: cs,[],L,h,h'=>by
    cases h';simp only [eS] at h;split at h<;>cases h
  | c :: cs,d :: ds,L,h,h'=>by
    simp only [eS] at h h';split at h
    · rename_i x xs hx hxs
      cases h;split at h'
      · rename_i y ys hy hys
        simp only [Option.some.injEq,List.cons.injEq] at h';obtain⟨rfl,rfl⟩:=h';rw [qAR hx hy,rF hxs hys]
      cases h'
    cases h
theorem vX {k:TypeDesc} {x y:Lit} (hx:tV k x) (hy:tV k y) (h:bP x=bP y):x=y:=by
  cases k<;>cases x<;>simp only [tV] at hx<;>cases y<;>simp only [tV] at hy<;>simp only [bP] at h
  · cases h;rfl
  · simp only [Value.int.injEq] at h
    rw [h.1,h.2]
  rename_i bs cs;simp only [Value.string.injEq,ByteArray.mk.injEq] at h;have:=congrArg Array.toList h;simp at this;rw [this]
theorem tU:∀ {ks:List TypeDesc} {L M:List Lit},dC ks L→dC ks M→L.map bP=M.map bP→L=M
  | [],[],[],_,_,_=>rfl
  | k :: ks,x :: xs,y :: ys,h,h',e=>by
    simp only [List.map_cons,List.cons.injEq] at e;rw [vX h.1 h'.1 e.1,tU h.2 h'.2 e.2]
  | [],_ :: _,_,h,_,_=>h.elim
  | [],[],_ :: _,_,h,_=>h.elim
  | _ :: _,[],_,h,_,_=>h.elim
  | _ :: _,_ :: _,[],_,h,_=>h.elim
theorem gO {ks:List TypeDesc} {k:D} (hk:gI ks k) {X:Nat→Prop} {v:Value} (h:DRep w X k v):v=fA k:=by
  obtain⟨cs,L,rfl,hl,ho⟩:=hk
  cases h with
  | agg _ vs hlen _ h=>
    have:=mT cs L vs.toList hl ⟨by simpa using hlen,λi x y hx hy=>h i x y hx (by simpa using hy)⟩;rw [jQ hl,← this]
theorem tZ {ks:List TypeDesc} {k k':D} (hk:gI ks k) (hk':gI ks k') (h:fA k=fA k'):k=k':=by
  obtain⟨cs,L,rfl,hl,ho⟩:=hk;obtain⟨ds,M,rfl,hm,hp⟩:=hk';rw [jQ hl,jQ hm] at h;simp only [Value.agg.injEq] at h;have e:L.map bP=M.map bP:=by have:=congrArg Array.toList h;simpa using this
  have:=tU ho hp e;subst this;rw [rF hl hm]
structure SKey (P:Program) (kt:TypeId) (ks:List TypeDesc):Prop where
  law:WideMaps.KeyLaw P kt
  of:∀ k,gI ks k→∃ l,keyOf P kt (fA k)=some l
theorem sKey {kt:TypeId} {ks:List TypeDesc} (m:Nat) (hm:m+1≤10000) (hk:(P.keyTypeAt m kt&&P.tiled m kt&&P.keyType kt&&(match P.underlying kt with|some (.struct _)=>true|_=>false)&&ks.length == P.cellsOf kt)=true) (hks:lV P (P.types.size+1) kt=some ks):SKey P kt ks:=by
  simp only [zQA,beq_iff_eq] at hk;obtain⟨⟨⟨⟨h1,h2⟩,h3⟩,h4⟩,h5⟩:=hk;refine⟨deep_law hm h1 h2 (by split at h4<;>simp_all),λk hk=>?_⟩;obtain⟨cs,L,rfl,hl,ho⟩:=hk;have hlen:=eO ho;have hv:=jQ hl
  have hf:Value.formed P kt (.agg (L.map bP).toArray)=true:=by
    split at h4
    · rename_i hu;simp [Value.formed,hu];omega
    cases h4
  have hkl:=hZ (P.types.size+1) kt ks L hks ho;rw [hv];unfold keyOf;split at h4
  · rename_i hu
    rw [hu];dsimp only;rw [h3,hf];refine⟨.string (keyBytes L),?_⟩;simp [Value.cells,hkl]
  cases h4
theorem yB {α:Type} {l:List α} (hn:l.Nodup) {i j:Nat} {x:α} (hi:l[i]?=some x) (hj:l[j]?=some x):i=j:=by
  obtain⟨h1,h1'⟩:=zQQ.1 hi;obtain⟨h2,h2'⟩:=zQQ.1 hj;exact (List.getElem_inj hn).1 (h1'.trans h2'.symm)
section find
variable {kt:TypeId} {ks:List TypeDesc} {k:D} {es:List (D×D)} {ents:Array MapEntry}
theorem rK (S:SKey P kt ks) {X:Nat→Prop} (hE:mI w X es ents) (hks:∀ e∈es,gI ks e.1):∀ x∈ents.toList,∃ l,keyOf P kt x.key=some l:=by
  intro x hx;obtain⟨i,hi⟩:=List.getElem?_of_mem hx;have hi':ents[i]?=some x:=by simpa using hi
  have hlt:i < es.length:=by rw [← hE.1];exact (Array.getElem?_eq_some_iff.1 hi').1
  have hk:=hks es[i] (List.getElem_mem hlt);rw [gO hk (hE.2 i es[i] x (by simp [hlt]) hi').1];exact S.of _ hk
theorem uH (S:SKey P kt ks) {X:Nat→Prop} (hE:mI w X es ents) (hks:∀ e∈es,gI ks e.1) (hk:gI ks k) (hne:∀ e∈es,e.1≠k):(Instr.findKey kt (fA k) ents.toList).run P w=.ok none w:=by
  obtain⟨l,hl⟩:=S.of k hk;rcases S.law.find w hl ents.toList (rK S hE hks) with ⟨h1,_⟩|⟨j,e,_,h2,h3⟩
  · exact h1
  exfalso;have hj:ents[j]?=some e:=by simpa using h2
  have hlt:j < es.length:=by rw [← hE.1];exact (Array.getElem?_eq_some_iff.1 hj).1
  have hmem:=List.getElem_mem hlt;have:=gO (hks es[j] hmem) (hE.2 j es[j] e (by simp [hlt]) hj).1;exact hne _ hmem (tZ (hks _ hmem) hk (by rw [← this,h3]))
theorem rJ (S:SKey P kt ks) {X:Nat→Prop} (hE:mI w X es ents) (hks:∀ e∈es,gI ks e.1) (hnd:(es.map (·.1)).Nodup) {j:Nat} {v:D} (hj:es[j]?=some (k,v)):∃ e,ents[j]?=some e∧e.key=fA k∧DRep w X v e.val∧(Instr.findKey kt (fA k) ents.toList).run P w=.ok (some (j,e.val)) w:=by
  have hjl:=(zQQ.1 hj).1;have hk:gI ks k:=hks (k,v) (zQM hj);have hjs:j < ents.size:=by rw [hE.1];exact hjl
  have he:ents[j]?=some ents[j]:=by simp [hjs]
  have hr:=hE.2 j (k,v) ents[j] hj he;have hkey:=gO hk hr.1;obtain⟨l,hl⟩:=S.of k hk;rcases S.law.find w hl ents.toList (rK S hE hks) with ⟨_,h2⟩|⟨j',e',h1,h2,h3⟩
  · exact absurd hkey (h2 ents[j] (by simp))
  have hj' : ents[j']? = some e' := by simpa using h2
  have hlt:j' < es.length:=by rw [← hE.1];exact (Array.getElem?_eq_some_iff.1 hj').1
  have hmem:=List.getElem_mem hlt;have h4:=gO (hks es[j'] hmem) (hE.2 j' es[j'] e' (by simp [hlt]) hj').1;have h5:es[j'].1=k:=tZ (hks _ hmem) hk (by rw [← h4,h3]);have h6:j'=j:=yB (x:=k) hnd (by simp [hlt,h5]) (by simp [hj]);subst h6;rw [he] at hj';cases hj';exact⟨_,he,hkey,hr.2,by simpa using h1⟩
end find
section look
variable {o:Oper} {ev:Operand→AV} {hp:List Blk} {x y:Operand} {t kt et kt' et':TypeId} {d:TypeDesc} {id:Nat} {es:List (D×D)} {k v zd:D} {z:Value} {ks:List TypeDesc}
theorem hP (hs:Sim C st g a w) (hx:st.fr.ev x=.mmap id) (hb:st.hp[id]?=some (.map kt' et' es)) (hy:st.fr.ev y=.d k) (hk:gI ks k):
    ∃ b ents clock,g.phi id=some b∧a.eval x=.map (some b)∧w.heap[b]?=some (.map ents clock)∧mI w g.X es ents∧a.eval y=fA k:=by
  have h1:=hs.ev x;rw [hx] at h1;obtain⟨b,hp,he⟩:=tQ h1;rcases hs.hp id _ hb with ⟨_,hp'⟩|⟨b',ents,clock,hp',hw,hsz,hr⟩<;>cases hp.symm.trans hp'
  have h2:=hs.ev y;rw [hy] at h2;have h3:DRep w g.X k (a.eval y):=by cases h2 with|d _ _ h=>exact h
  exact⟨b,ents,clock,hp,he,hw,⟨hsz,hr⟩,gO hk h3⟩
theorem rZ {j:Nat} (S:SKey C.P kt ks) (ho:o.op=.lookup t x y true) (hl:mty C.P t=some (kt,d,et)) (hx:ev x=.mmap id) (hb:hp[id]?=some (.map kt' et' es)) (hy:ev y=.d k) (hks:∀ e∈es,gI ks e.1) (hnd:(es.map (·.1)).Nodup) (hj:es[j]?=some (k,v)):RdOk C o ev hp (.tup [.d v,.d (.bool true)]):=
  RdOk.mk λst hhp hag g a w hs=>by
    have hk:gI ks k:=hks (k,v) (zQM hj);obtain⟨b,ents,clock,hp',hex,hw,hE,hey⟩:=hP hs (by rw [hag x (by simp [ho,Op.operands]),hx]) (hhp id _ hb λe=>by cases e) (by rw [hag y (by simp [ho,Op.operands]),hy]) hk;obtain⟨e,_,_,hv,hf⟩:=rJ S hE hks hnd hj;obtain⟨hu,hd⟩:=lR hl;obtain⟨l,hkl⟩:=S.of k hk;refine⟨.tuple #[e.val,.bool true],?_,.tup _ _ rfl λi c v hc hv'=>?_⟩
    · simp only [execOp,ho,hex,hey]
      simp [Instr.lookup,run_underlying hu,MapKept.run_getObj_map hw,S.law.check w _ hkl,hf,Result.andThen]
    match i,hc,hv' with
    | 0,hc,hv'=>simp at hc hv';subst hc hv';exact .d _ _ hv
    | 1,hc,hv'=>simp at hc hv';subst hc hv';exact .d _ _ (.bool true)
    | i+2,hc,_=>simp at hc
theorem tC (S:SKey C.P kt ks) (ho:o.op=.lookup t x y true) (hl:mty C.P t=some (kt,d,et)) (hz:(C.P.info? et).bind (·.zero)=some z) (hzd:bQ z=.d zd) (hx:ev x=.mmap id) (hb:hp[id]?=some (.map kt' et' es)) (hy:ev y=.d k) (hk:gI ks k) (hks:∀ e∈es,gI ks e.1) (hne:∀ e∈es,e.1≠k):RdOk C o ev hp (.tup [.d zd,.d (.bool false)]):=
  RdOk.mk λst hhp hag g a w hs=>by
    obtain⟨b,ents,clock,hp',hex,hw,hE,hey⟩:=hP hs (by rw [hag x (by simp [ho,Op.operands]),hx]) (hhp id _ hb λe=>by cases e) (by rw [hag y (by simp [ho,Op.operands]),hy]) hk;have hf:=uH S hE hks hk hne;obtain⟨hu,hd⟩:=lR hl;obtain⟨l,hkl⟩:=S.of k hk;refine⟨.tuple #[z,.bool false],?_,.tup _ _ rfl λi c v hc hv'=>?_⟩
    · simp only [execOp,ho,hex,hey]
      simp [Instr.lookup,run_underlying hu,MapKept.run_getObj_map hw,S.law.check w _ hkl,hf,kK hz,Result.andThen]
    match i,hc,hv' with
    | 0,hc,hv'=>simp at hc hv';subst hc hv';rw [← hzd];exact dN w g _
    | 1,hc,hv'=>simp at hc hv';subst hc hv';exact .d _ _ (.bool false)
    | i+2,hc,_=>simp at hc
theorem sA (S:SKey C.P kt ks) (ho:o.op=.lookup t x y true) (hl:mty C.P t=some (kt,d,et)) (hz:(C.P.info? et).bind (·.zero)=some z) (hzd:bQ z=.d zd) (hx:ev x=.d .nilmap) (hy:ev y=.d k) (hk:gI ks k):RdOk C o ev hp (.tup [.d zd,.d (.bool false)]):=
  RdOk.mk λst hhp hag g a w hs=>by
    have h1:=hs.ev x;rw [hag x (by simp [ho,Op.operands]),hx] at h1;have h2:=hs.ev y;rw [hag y (by simp [ho,Op.operands]),hy] at h2;have h3:DRep w g.X k (a.eval y):=by cases h2 with|d _ _ h=>exact h
    have hey:=gO hk h3
    have hex:a.eval x=.map none:=by
      generalize a.eval x=v at *;cases h1 with|d _ _ h=>cases h;rfl
    obtain⟨hu,hd⟩:=lR hl;obtain⟨l,hkl⟩:=S.of k hk
    have hf:(Instr.findKey kt (fA k) []).run C.P w=.ok none w:=by
      rcases S.law.find w hkl [] (λe he=>by cases he) with ⟨h,_⟩|⟨j,e,_,h,_⟩
      · exact h
      simp at h
    refine⟨.tuple #[z,.bool false],?_,.tup _ _ rfl λi c v hc hv'=>?_⟩
    · simp only [execOp,ho,hex,hey]
      simp [Instr.lookup,run_underlying hu,S.law.check w _ hkl,hf,kK hz,Result.andThen]
    match i,hc,hv' with
    | 0,hc,hv'=>simp at hc hv';subst hc hv';rw [← hzd];exact dN w g _
    | 1,hc,hv'=>simp at hc hv';subst hc hv';exact .d _ _ (.bool false)
    | i+2,hc,_=>simp at hc
end look
section upd
variable {o:Oper} {K:St→Prop} {x y u:Operand} {t kt et kt' et':TypeId} {d:TypeDesc} {id:Nat} {es:List (D×D)} {k v:D} {ks:List TypeDesc}
theorem tM (S:SKey C.P kt ks) (ho:o.op=.mapUpdate t x y u) (hd:o.dst=none) (hl:mty C.P t=some (kt,d,et)) (hx:st.fr.ev x=.mmap id) (hb:st.hp[id]?=some (.map kt' et' es)) (hy:st.fr.ev y=.d k) (hu:st.fr.ev u=.d v) (hk:gI ks k) (hks:∀ e∈es,gI ks e.1) (hne:∀ e∈es,e.1≠k)
    (hK:K ⟨st.fr,st.hp.set id (.map kt' et' (es++[(k,v)]))⟩):OpOk C o st K:=
  OpOk.skip λg a w hs=>by
    obtain⟨b,ents,clock,hp,hex,hw,hE,hey⟩:=hP hs hx hb hy hk;have hf:=uH S hE hks hk hne;obtain⟨hu',hd'⟩:=lR hl;obtain⟨l,hkl⟩:=S.of k hk;have hv:=hs.ev u;rw [hu] at hv;have hv':DRep w g.X v (a.eval u):=by cases hv with|d _ _ h=>exact h
    have hkd:=hs.ev y;rw [hy,hey] at hkd;have hkd':DRep w g.X k (fA k):=by cases hkd with|d _ _ h=>exact h
    refine⟨{ w with heap:=w.heap.setIfInBounds b (.map (ents.push { key:=fA k,val:=a.eval u,born:=clock }) (clock+1)) },?_,_,g,hK,?_⟩
    · simp only [execOp,ho,hex,hey]
      simp [Instr.mapUpdate,run_underlying hu',MapKept.run_getObj_map hw,S.law.check w _ hkl,hf,MapKept.run_setObj_map _ hw,Result.andThen]
    rw [hd];refine pF hs hp hb hw ⟨by simp [hE.1],λj e m he hm=>?_⟩;rw [List.getElem?_append] at he;rw [Array.getElem?_push] at hm;split at he
    · rename_i hlt
      rw [if_neg (by rw [hE.1];omega)] at hm;exact hE.2 j e m he hm
    rename_i hge
    have hj:j=es.length:=by
      rcases Nat.lt_or_ge (j - es.length) 1 with h1|h1
      · omega
      rw [List.getElem?_eq_none (by simpa using h1)] at he;cases he
    subst hj;rw [if_pos hE.1.symm] at hm;simp at he hm;subst he hm;exact⟨hkd',hv'⟩
theorem vO {j:Nat} {v0:D} (S:SKey C.P kt ks) (ho:o.op=.mapUpdate t x y u) (hd:o.dst=none) (hl:mty C.P t=some (kt,d,et)) (hx:st.fr.ev x=.mmap id) (hb:st.hp[id]?=some (.map kt' et' es)) (hy:st.fr.ev y=.d k) (hu:st.fr.ev u=.d v) (hks:∀ e∈es,gI ks e.1) (hnd:(es.map (·.1)).Nodup) (hj:es[j]?=some (k,v0))
    (hK:K ⟨st.fr,st.hp.set id (.map kt' et' (es.set j (k,v)))⟩):OpOk C o st K:=
  OpOk.skip λg a w hs=>by
    have hk:gI ks k:=hks (k,v0) (zQM hj);obtain⟨b,ents,clock,hp,hex,hw,hE,hey⟩:=hP hs hx hb hy hk;obtain⟨e0,he0,hek,_,hf⟩:=rJ S hE hks hnd hj;obtain⟨hu',hd'⟩:=lR hl;obtain⟨l,hkl⟩:=S.of k hk;have hv:=hs.ev u;rw [hu] at hv;have hv':DRep w g.X v (a.eval u):=by cases hv with|d _ _ h=>exact h
    have hkd:=hs.ev y;rw [hy,hey] at hkd;have hkd':DRep w g.X k (fA k):=by cases hkd with|d _ _ h=>exact h
    have hst:(Instr.keyThatStays e0.key (fA k)).run C.P w=.ok (fA k) w:=by rw [hek];exact S.law.stays w hkl
    refine⟨{ w with heap:=w.heap.setIfInBounds b (.map (ents.modify j λe=>{ e with key:=fA k,val:=a.eval u }) clock) },?_,_,g,hK,?_⟩
    · simp only [execOp,ho,hex,hey]
      simp [Instr.mapUpdate,run_underlying hu',MapKept.run_getObj_map hw,S.law.check w _ hkl,hf,he0,hst,MapKept.run_setObj_map _ hw,Result.andThen]
    rw [hd];refine pF hs hp hb hw ⟨by simp [hE.1],λi e m he hm=>?_⟩;rw [List.getElem?_set] at he;rw [Array.getElem?_modify] at hm;split at he
    · rename_i hij
      subst hij;rw [if_pos rfl,he0] at hm;split at he
      · cases he
        simp at hm;subst hm;exact⟨hkd',hv'⟩
      cases he
    rename_i hij;rw [if_neg hij] at hm;exact hE.2 i e m he hm
end upd
structure KeyG (ks:List TypeDesc) {α:Type} (kf:α→D) (ok:α→Bool):Prop where
  key:∀ a,ok a=true→gI ks (kf a)
  inj:∀ a b,kf a=kf b→a=b
def dJ {α β:Type} (ok:α→Bool) (fs:List (α×β)) (s:α):Prop:=(fs.map (·.1)).Nodup∧(∀ x∈fs,ok x.1=true)∧ok s=true
instance {α β:Type} [DecidableEq α] (ok:α→Bool) (fs:List (α×β)) (s:α):Decidable (dJ ok fs s):=by unfold dJ;infer_instance
section pm
variable {α β:Type} [DecidableEq α] {dk:TypeDesc} {kf:α→D} {ok:α→Bool} {ks:List TypeDesc}
variable {o:Oper} {ev:Operand→AV} {hp:List Blk} {x y u:Operand} {t kt et kt' et':TypeId} {id:Nat} {zd:D} {z:Value}
theorem jM (hk:KeyG ks kf ok) (f:β→D) {fs:List (α×β)} (h:∀ x∈fs,ok x.1=true):∀ e∈aK kf f fs,gI ks e.1:=λe he=>by
  unfold aK at he;simp only [List.mem_map] at he;obtain⟨x,hx,rfl⟩:=he;exact hk.key _ (h x hx)
theorem nH (hk:KeyG ks kf ok) (f:β→D) {fs:List (α×β)} (h:(fs.map (·.1)).Nodup):((aK kf f fs).map (·.1)).Nodup:=by
  have:(aK kf f fs).map (·.1)=(fs.map (·.1)).map kf:=by simp [aK]
  rw [this];exact h.map _ λa b hab e=>hab (hk.inj _ _ e)
theorem tJ (hk:KeyG ks kf ok) (f:β→D) {fs:List (α×β)} {s:α} (h:∀ x∈fs,x.1≠s):∀ e∈aK kf f fs,e.1≠kf s:=λe he=>by
  unfold aK at he;simp only [List.mem_map] at he;obtain⟨x,hx,rfl⟩:=he;exact λq=>h x hx (hk.inj _ _ q)
theorem rP (S:SKey C.P kt ks) (hk:KeyG ks kf ok) (f:β→D) (fs:List (α×β)) (s:α) (z0:β) (ho:o.op=.lookup t x y true) (hl:mty C.P t=some (kt,dk,et)) (hz:(C.P.info? et).bind (·.zero)=some z) (hzd:bQ z=.d (f z0))
    (hx:ev x=.mmap id) (hb:hp[id]?=some (.map kt' et' (aK kf f fs))) (hy:ev y=.d (kf s)) (hg:dJ ok fs s):RdOk C o ev hp (.tup [.d (f ((bT fs s).getD z0)),.d (.bool (bT fs s).isSome)]):=by
  cases h:bT fs s with
  | none=>exact tC S ho hl hz hzd hx hb hy (hk.key _ hg.2.2) (jM hk f hg.2.1) (tJ hk f (nQ h))
  | some b=>
    obtain⟨j,hj⟩:=uT h;exact rZ (j:=j) S ho hl hx hb hy (jM hk f hg.2.1) (nH hk f hg.1) (by simp [aK,hj])
theorem mK {ops:Array Oper} {l:List Oper} {K:St→Prop} {fr:Fr} {ty:TypeId} {pos:String} {after:Array Edge} (S:SKey C.P kt ks) (hk:KeyG ks kf ok) (f:β→D) {fs:List (α×β)} {s:α} {b:β} (hl:mty C.P t=some (kt,dk,et)) (hx:fr.ev x=.mmap id) (hb:hp[id]?=some (.map kt' et' (aK kf f fs))) (hy:fr.ev y=.d (kf s)) (hu:fr.ev u=.d (f b)) (hg:dJ ok fs s)
    (h:aV C ops l ⟨fr,hp.set id (.map kt' et' (aK kf f (eP fs s b)))⟩ K):aV C ops (⟨none,.mapUpdate t x y u,ty,pos,after,none⟩ :: l) ⟨fr,hp⟩ K:=by
  cases e:fs.findIdx? λx=>decide (x.1=s) with
  | none=>
    have hn:bT fs s=none:=by
      unfold bT;rw [Option.map_eq_none_iff,List.find?_eq_none];rw [List.findIdx?_eq_none_iff] at e;intro x hx;simpa using e x hx
    refine cF rfl (tM S rfl rfl hl hx hb hy hu (hk.key _ hg.2.2) (jM hk f hg.2.1) (tJ hk f (nQ hn)) ?_);have e2:aK kf f (fs++[(s,b)])=aK kf f fs++[(kf s,f b)]:=by simp [aK]
    rw [← e2];simpa only [eP,e] using h
  | some j=>
    have e':=e;rw [List.findIdx?_eq_some_iff_getElem] at e;obtain⟨hlt,hj,_⟩:=e
    have hj':fs[j]?=some (s,fs[j].2):=by
      rw [zQR hlt,← of_decide_eq_true hj]
    refine cF rfl (vO (j:=j) (v0:=f fs[j].2) S rfl rfl hl hx hb hy hu (jM hk f hg.2.1) (nH hk f hg.1) (by simp [aK,hj']) ?_);simp only [eP,e'] at h;simpa [aK,List.map_set] using h
end pm
variable {P:Program} {C:Ctx} {st:St} {g:Gh} {a:Act} {w:World}
theorem Sim.virtM (h:Sim C st g a w) (kt vt:Nat):Sim C ⟨st.fr,st.hp++[.map kt vt []]⟩ g a w:=by
  refine { h with hp:=?_,lt:=?_,inj:=?_,kle:=?_ }
  · intro i B hi
    simp only [List.getElem?_append] at hi;split at hi
    · exact h.hp i B hi
    rename_i hge
    have:i=st.hp.length:=by
      rcases Nat.lt_or_ge (i - st.hp.length) 1 with h1|h1
      · omega
      rw [List.getElem?_eq_none (by simpa using h1)] at hi;cases hi
    subst this;simp at hi;subst hi;exact .inl ⟨rfl,h.phi_none (zQW _)⟩
  · intro i b hp
    have:=h.lt i b hp;simp only [zQL,List.length_cons,List.length_nil];exact⟨this.1,by omega,this.2.2⟩
  · intro i j b Bi Bj hBi hBj hdi hdj hi hj
    have l1:=(h.lt _ _ hi).2.1;have l2:=(h.lt _ _ hj).2.1;rw [List.getElem?_append,if_pos l1] at hBi;rw [List.getElem?_append,if_pos l2] at hBj;exact h.inj i j b Bi Bj hBi hBj hdi hdj hi hj
  have:=h.kle;simp only [zQL,List.length_cons,List.length_nil];omega
theorem Sim.recell (h:Sim C st g a w) {i j:Nat} {t:TypeId} {cs:List AV} {y:AV} (hb:st.hp[i]?=some (.box t cs))
    (hy:∀ v,(∀ x,cs[j]?=some x→ARep w g x v)→(∃ b cells,g.phi i=some b∧w.heap[b]?=some (.cells cells t (0,0))∧cells[j]?=some v)→ARep w g y v):Sim C ⟨st.fr,st.hp.set i (.box t (cs.set j y))⟩ g a w:=by
  have hi:=(zQQ.1 hb).1;obtain⟨b,cells,hp,hw,hps,hl,hr⟩:=h.hp i _ hb;refine { h with hp:=λk B hk=>?_,lt:=λk b hk=>by have:=h.lt k b hk;simpa using this,inj:=λk k' b Bk Bk' h1 h2 d1 d2 p1 p2=>?_,kle:=by simpa using h.kle }
  · by_cases e1:i=k
    · subst e1
      rw [List.getElem?_set,if_pos rfl] at hk
      have hk:B=.box t (cs.set j y):=by
        simp only [hi,if_true,Option.some.injEq] at hk;exact hk.symm
      subst hk;refine⟨b,cells,hp,hw,hps,by simpa using hl,λq c v hq hv'=>?_⟩;by_cases e2:j=q
      · subst e2
        rw [List.getElem?_set,if_pos rfl] at hq;split at hq
        · cases hq
          exact hy v (λx hx=>hr _ x v hx hv') ⟨b,cells,hp,hw,hv'⟩
        cases hq
      rw [List.getElem?_set_ne e2] at hq;exact hr q c v hq hv'
    rw [List.getElem?_set_ne e1] at hk;exact h.hp k B hk
  have key:∀ (k:Nat) (Bk:Blk),(st.hp.set i (.box t (cs.set j y)))[k]?=some Bk→Bk≠.dead→∃ B',st.hp[k]?=some B'∧B'≠.dead:=by
    intro k Bk hk hd;rw [List.getElem?_set] at hk;split at hk
    · rename_i e1
      subst e1;exact⟨.box t cs,hb,λe=>by cases e⟩
    exact⟨Bk,hk,hd⟩
  obtain⟨B1,e1,d1'⟩:=key k Bk h1 d1;obtain⟨B2,e2,d2'⟩:=key k' Bk' h2 d2;exact h.inj k k' b B1 B2 e1 e2 d1' d2' p1 p2
theorem Sim.upM (h:Sim C st g a w) {i j:Nat} {t kt vt:Nat} {cs:List AV} (hb:st.hp[i]?=some (.box t cs)) (hc:cs[j]?=some (.d .nilmap)):Sim C ⟨st.fr,(st.hp.set i (.box t (cs.set j (.mmapN st.hp.length 0))))++[Blk.map kt vt []]⟩ g a w:=by
  have hi:=(zQQ.1 hb).1;have hb':(st.hp++[Blk.map kt vt []])[i]?=some (.box t cs):=by rw [List.getElem?_append,if_pos hi];exact hb
  have h2:=Sim.recell (h.virtM kt vt) (i:=i) (j:=j) (y:=.mmapN st.hp.length 0) hb' λv hv _=>by
    cases hv _ hc with
    | d _ _ hd=>cases hd with
      | nilmap=>exact .mmapN0 _
  simp only [List.set_append,if_pos hi] at h2;exact h2
section
variable {ops:Array Oper} {l:List Oper} {K:St→Prop} {fr:Fr} {hp:List Blk} {c:Code} {Q:Exit→St→Prop} {α β:Type}
theorem wU {kf:α→D} {f:β→D} (i j N kt vt:Nat) {t:TypeId} {cs:List AV} (hN:Nat.beq hp.length N=true) (hb:hp[i]?=some (.box t cs)) (hc:cs[j]?=some (.d .nilmap))
    (h:aV C ops l ⟨fr,(hp.set i (.box t (cs.set j (.mmapN N ([]:List (α×β)).length))))++[Blk.map kt vt (aK kf f ([]:List (α×β)))]⟩ K):aV C ops l ⟨fr,hp⟩ K:=by
  have e:=Nat.eq_of_beq_eq_true hN;subst e;exact λg a w hs=>h g a w (Sim.upM (st:=⟨fr,hp⟩) hs hb hc)
theorem uO {kf:α→D} {f:β→D} {fs:List (α×β)} (i j m:Nat) {t kt vt:Nat} {cs:List AV} (hb:hp[i]?=some (.box t cs)) (hc:cs[j]?=some (.mmapN m fs.length)) (hm:hp[m]?=some (.map kt vt (aK kf f fs)))
    (h1:fs=[]→TWp C c ⟨fr,(hp.set i (.box t (cs.set j (.d .nilmap)))).set m (.map kt vt (aK kf f ([]:List (α×β))))⟩ Q)
    (h2:TWp C c ⟨fr,hp.set i (.box t (cs.set j (.mmap m)))⟩ Q):TWp C c ⟨fr,hp⟩ Q:=λg a w hs=>by
  have hne:i≠m:=λe=>by subst e;rw [hb] at hm;cases hm
  obtain⟨b,cells,hpi,hw,hps,hl,hr⟩:=hs.hp i _ hb;have hj:=(zQQ.1 hc).1;have hjc:j < cells.size:=by omega
  have hcell:cells[j]?=some cells[j]:=by simp [hjc]
  have hrep:=hr j _ _ hc hcell;generalize hv:cells[j]=v at *
  have key:∀ u,(∃ b cells,g.phi i=some b∧w.heap[b]?=some (.cells cells t (0,0))∧cells[j]?=some u)→u=v:=by
    rintro u ⟨b',cells',e1,e2,e3⟩;cases hpi.symm.trans e1;rw [hw] at e2;cases e2;rw [hcell] at e3;exact (Option.some.inj e3).symm
  generalize hn:fs.length=n at *
  cases hrep with
  | mmapN0=>
    have hfs:fs=[]:=List.length_eq_zero_iff.1 hn;subst hfs
    have hset:(hp.set i (.box t (cs.set j (.d .nilmap)))).set m (.map kt vt (aK kf f ([]:List (α×β))))=hp.set i (.box t (cs.set j (.d .nilmap))):=by
      apply List.ext_getElem?;intro k;rw [List.getElem?_set];split
      · rename_i e;subst e
        have hml:=(zQQ.1 hm).1;rw [if_pos (by simpa using hml),List.getElem?_set_ne hne,hm]
      rfl
    have h1':=h1 rfl;rw [hset] at h1';exact h1' g a w (Sim.recell (st:=⟨fr,hp⟩) hs hb λu _ hu=>by rw [key u hu];exact .d _ _ .nilmap)
  | mmapN _ _ b' hb'=>exact h2 g a w (Sim.recell (st:=⟨fr,hp⟩) hs hb λu _ hu=>by rw [key u hu];exact .mmap _ b' hb')
theorem qAF {ρ:Type} [DecidableEq ρ] {l:List α} {a b:Option ρ} {o:ρ} (h:l=[]) (hm:tP l a b=some o):a=some o:=by
  subst h;simp only [tP] at hm;split at hm
  · split at hm
    · exact hm
    cases hm
  cases hm
def wkN (m n:Nat):AV→Bool
  | .mmap q=>Nat.beq q m
  | .mmapN q k=>Nat.beq q m&&Nat.beq k n
  | _=>false
theorem Sim.wkM (h:Sim C st g a w) {i j m n:Nat} {t:TypeId} {cs:List AV} {x:AV} (hb:st.hp[i]?=some (.box t cs)) (hc:cs[j]?=some x) (hx:wkN m n x=true∨(x=.d .nilmap∧n=0)):Sim C ⟨st.fr,st.hp.set i (.box t (cs.set j (.mmapN m n)))⟩ g a w:=
  h.recell hb λv hv _=>by
    have:=hv _ hc;rcases hx with hx|⟨rfl,rfl⟩
    · cases x<;>simp only [wkN,Bool.false_eq_true] at hx
      · have e:=Nat.eq_of_beq_eq_true hx
        subst e;cases this with|mmap _ b hb=>exact .mmapN _ _ b hb
      simp only [zQA] at hx;have e1:=Nat.eq_of_beq_eq_true hx.1;have e2:=Nat.eq_of_beq_eq_true hx.2;subst e1 e2;exact this
    cases this with
    | d _ _ hd=>cases hd with
      | nilmap=>exact .mmapN0 _
theorem kQ (i j m n:Nat) {t:TypeId} {cs:List AV} (hb:hp[i]?=some (.box t cs)) (hc:cs[j]?=some (.mmap m)) (h:TWp C c ⟨fr,hp.set i (.box t (cs.set j (.mmapN m n)))⟩ Q):TWp C c ⟨fr,hp⟩ Q:=λg a w hs=>h g a w (Sim.wkM (st:=⟨fr,hp⟩) hs hb hc (.inl (Nat.beq_refl m)))
end
theorem sI {o:Oper} {K:St→Prop} {t:TypeId} {m:Nat} {B0:Blk} (ho:o.op=.makeMap t none) (hd:jC C.n o.dst=true) (kt et:TypeId) (hb:st.hp[m]?=some B0) (hm:m < C.k→C.mv m=true) (hK:K (St.put ⟨(st.purge m).fr,(st.purge m).hp.set m (.map kt et [])⟩ o.dst (.mmap m))):OpOk C o st K:=
  OpOk.change λg a w hs=>by
    refine⟨.map (some w.heap.size),w.alloc (.map #[] 0),?_,_,_,hK,(hs.move (i:=m) (n:=0) (B:=.map kt et []) (zQQ.1 hb).1 hm (.inr ⟨w.heap.size,#[],0,by simp [Gh.new,upd],heap_alloc_new w _,rfl,λk e m he=>by simp at he⟩)).put' hd (.mmap _ w.heap.size (by simp [Gh.new,upd]))⟩;simp only [execOp,ho];simp [Instr.makeMap,newObj,Sem.run,Result.andThen]
theorem nG {ops:Array Oper} {l:List Oper} {K:St→Prop} {fr fr':Fr} {hp hp':List Blk} {dd:Nat} {t ty:TypeId} {pos:String} {after:Array Edge} {B0:Blk} {α β:Type} {kf:α→D} {f:β→D} (m kt et:Nat) (hd:decide (dd < C.n)=true) (hb:hp[m]?=some B0) (hm:m < C.k→C.mv m=true) (hf:Fr.mapRef (purge m) fr=fr') (hh:(hp.map (Blk.mapRef (purge m))).set m (.map kt et (aK kf f ([]:List (α×β))))=hp')
    (h:aV C ops l ⟨(dd,.mmap m) :: fr',hp'⟩ K):aV C ops (⟨some dd,.makeMap t none,ty,pos,after,none⟩ :: l) ⟨fr,hp⟩ K:=by
  subst hf hh;exact cF rfl (sI rfl hd kt et (st:=⟨fr,hp⟩) hb hm h)
theorem oN {t k e:TypeId} (hu:P.underlying t=some (.map k e)) (b:Option Nat) (w:World):(binOp .eql t (.map b) (.map none)).run P w=.ok (.bool b.isNone) w:=by
  have h:(Op.equalIn (9999+1) t (.map b) (.map none)).run P w=.ok b.isNone w:=by
    unfold Op.equalIn;cases b<;>simp [run_underlying hu]
  have h':(Op.equal t (.map b) (.map none)).run P w=.ok b.isNone w:=h;simp [binOp,h']
theorem rH {op:BinOp} {t:TypeId} {x y:Operand} {b b':Option Nat} (w:World):(eqGuard op t x y (.map b) (.map b')).run P w=.ok () w:=by
  unfold eqGuard;cases op<;>simp
section
variable {o:Oper} {ev:Operand→AV} {hp:List Blk} {x y:Operand} {t t' k e:TypeId}
theorem oT (ho:o.op=.binOp .eql t x y t') (hu:C.P.underlying t=some (.map k e)) (hx:ev x=.d .nilmap) (hy:y=.const (.map none)):RdOk C o ev hp (.d (.bool true)):=
  RdOk.mk λst hhp hag g a w hs=>by
    subst hy;have h:=hs.ev x;rw [hag x (by simp [ho,Op.operands]),hx] at h
    have hv:a.eval x=.map none:=by
      generalize a.eval x=v at *;cases h with|d _ _ h=>cases h;rfl
    refine⟨.bool true,?_,.d _ _ (.bool true)⟩;have he:a.eval (.const (.map none))=.map none:=rfl;simp only [execOp,ho,hv,he,Sem.run_bind,rH,Result.andThen_ok,oN hu];rfl
theorem oU {id:Nat} (ho:o.op=.binOp .eql t x y t') (hu:C.P.underlying t=some (.map k e)) (hx:ev x=.mmap id) (hy:y=.const (.map none)):RdOk C o ev hp (.d (.bool false)):=
  RdOk.mk λst hhp hag g a w hs=>by
    subst hy;have h:=hs.ev x;rw [hag x (by simp [ho,Op.operands]),hx] at h;obtain⟨b,_,hv⟩:=tQ h;refine⟨.bool false,?_,.d _ _ (.bool false)⟩;have he:a.eval (.const (.map none))=.map none:=rfl;simp only [execOp,ho,hv,he,Sem.run_bind,rH,Result.andThen_ok,oN hu];rfl
end
theorem sS {α β:Type} {dk:TypeDesc} {kf:α→D} {ok:α→Bool} {ks:List TypeDesc} {o:Oper} {ev:Operand→AV} {hp:List Blk} {x y:Operand} {t kt et:TypeId} {z:Value} (S:SKey C.P kt ks) (hk:KeyG ks kf ok) (f:β→D) (s:α) (z0:β) (ho:o.op=.lookup t x y true) (hl:mty C.P t=some (kt,dk,et)) (hz:(C.P.info? et).bind (·.zero)=some z) (hzd:bQ z=.d (f z0))
    (hx:ev x=.d .nilmap) (hy:ev y=.d (kf s)) (hg:ok s=true):RdOk C o ev hp (.tup [.d (f z0),.d (.bool false)]):=
  sA S ho hl hz hzd hx hy (hk.key _ hg)
inductive ArgW:AV→AV→Prop
  | refl (x:AV):ArgW x x
  | nil (i sz:Nat):ArgW (.d .nilsl) (.msl i sz 0 0)
inductive ArgsW:List AV→List AV→Prop
  | nil:ArgsW [] []
  | cons {x y:AV} {xs ys:List AV} (h:ArgW x y) (hr:ArgsW xs ys):ArgsW (x :: xs) (y :: ys)
theorem s_on {ops:Array Oper} {op:Op} {dst:Option Nat} {ty:TypeId} {pos:String} {after:Array Edge} {gd:Option (Nat×Bool)} {l:List Oper} {K:St→Prop} {fr:Fr} {hp:List Blk} (hon:onE ops gd fr=some true)
    (k:aV C ops (⟨dst,op,ty,pos,after,none⟩ :: l) ⟨fr,hp⟩ K):aV C ops (⟨dst,op,ty,pos,after,gd⟩ :: l) ⟨fr,hp⟩ K:=by
  intro g a w hs;have h:=k g a w hs;unfold wpList at h ⊢
  have hw:Region.wanted ⟨dst,op,ty,pos,after,gd⟩ (yielded ops a.tmps)=true:=by
    rcases sF hs hon with ⟨hg,_⟩|⟨i,want,hg,⟨hy,_⟩|⟨_,hc⟩⟩
    · simp [Region.wanted,hg]
    · simp [Region.wanted,hg,hy]
    cases hc
  rw [if_pos hw];rw [if_pos (by simp [Region.wanted])] at h;exact h
end Go.TL
set_option maxHeartbeats 8000000
set_option linter.unusedSimpArgs false
set_option linter.unusedVariables false
set_option maxRecDepth 20000
namespace Go.Proofs.Ytdkhkhidekpfoaa
open Go Go.TL
structure Expr where
 op:Int
 var:Int
 args:(List Expr)
instance:Inhabited Expr:=⟨⟨default,default,[]⟩⟩
mutual
def Expr.encR:Expr→D
 | ⟨a0,a1,a2⟩=>.agg [.int .i64 a0,.int .i64 a1,.sl 3 (Expr.encsR a2)]
def Expr.encsR:List Expr→List D
 | []=>[]
 | e :: r=>Expr.encR e :: Expr.encsR r
end
theorem Expr.encsR_map:∀ xs:List Expr,Expr.encsR xs=xs.map Expr.encR
 | []=>by simp [Expr.encsR]
 | e :: r=>by simp [Expr.encsR,Expr.encsR_map r]
def Expr.enc (x:Expr):D:=.agg [.int .i64 x.op,.int .i64 x.var,.sl 3 (x.args.map Expr.encR)]
theorem Expr.encR_eq (x:Expr):x.encR=x.enc:=by cases x;simp [Expr.encR,Expr.enc,Expr.encsR_map]
theorem Expr.encR_cells (x:Expr):x.encR.cells.length=3:=by rw [Expr.encR_eq];rfl
mutual
def Expr.beq:Expr→Expr→Bool
 | ⟨a0,a1,a2⟩,⟨b0,b1,b2⟩=>decide (a0=b0)&&decide (a1=b1)&&Expr.beqs a2 b2
def Expr.beqs:List Expr→List Expr→Bool
 | [],[]=>true
 | x :: xs,y :: ys=>Expr.beq x y&&Expr.beqs xs ys
 | _,_=>false
end
mutual
theorem Expr.beq_iff:∀ a b:Expr,Expr.beq a b=true↔a=b
 | ⟨a0,a1,a2⟩,⟨b0,b1,b2⟩=>by simp [Expr.beq,Expr.beqs_iff a2 b2,and_assoc]
theorem Expr.beqs_iff:∀ a b:List Expr,Expr.beqs a b=true↔a=b
 | [],[]=>by simp [Expr.beqs]
 | [],_ :: _=>by simp [Expr.beqs]
 | _ :: _,[]=>by simp [Expr.beqs]
 | x :: xs,y :: ys=>by simp [Expr.beqs,Expr.beq_iff x y,Expr.beqs_iff xs ys]
end
instance:DecidableEq Expr:=λa b=>decidable_of_iff _ (Expr.beq_iff a b)
inductive Expr.Wf:Expr→Prop
 | mk (x:Expr) (h0:I64 x.op) (h1:I64 x.var) (h2:x.args.length≤reachBytes) (g2:∀ y∈x.args,Expr.Wf y):Expr.Wf x
structure Node where
 var:Int
 lo:Int
 hi:Int
deriving DecidableEq,Inhabited
def Node.enc (x:Node):D:=.agg [.int .i64 x.var,.int .i64 x.lo,.int .i64 x.hi]
structure Node.Wf (x:Node):Prop where
 var:I64 x.var
 lo:I64 x.lo
 hi:I64 x.hi
structure Diagram where
 nodes:(List Node)
 root:Int
deriving DecidableEq,Inhabited
def Diagram.enc (x:Diagram):D:=.agg [.sl 3 (x.nodes.map Node.enc),.int .i64 x.root]
structure Diagram.Wf (x:Diagram):Prop where
 nodes:x.nodes.length≤reachBytes∧∀ y∈x.nodes,Node.Wf y
 root:I64 x.root
structure Pair where
 a:Int
 b:Int
deriving DecidableEq,Inhabited
def Pair.enc (x:Pair):D:=.agg [.int .i64 x.a,.int .i64 x.b]
structure Pair.Wf (x:Pair):Prop where
 a:I64 x.a
 b:I64 x.b
structure Node' where
 index:(List (Node×Int))
 list:(List Node)
deriving DecidableEq,Inhabited
structure Node'.Wf (x:Node'):Prop where
 index:True
 list:x.list.length≤reachBytes∧∀ y∈x.list,Node.Wf y
structure Merger where
 a:Diagram
 b:Diagram
 all:Bool
 nodes:Node'
 done:(List (Pair×Int))
 full:Bool
deriving DecidableEq,Inhabited
structure Merger.Wf (x:Merger):Prop where
 a:Diagram.Wf x.a
 b:Diagram.Wf x.b
 all:True
 nodes:Node'.Wf x.nodes
 done:True
 full:True
def Node.ok (x:Node):Prop:=I64 x.var∧I64 x.lo∧I64 x.hi
instance (x:Node):Decidable (Node.ok x):=by unfold Node.ok;infer_instance
def Node.okb (x:Node):Bool:=decide (Node.ok x)
theorem yV (x y:Node):([.int .i64 x.var,.int .i64 x.lo,.int .i64 x.hi]:List Lit)=[.int .i64 y.var,.int .i64 y.lo,.int .i64 y.hi]↔decide (x=y)=true:=by
 rw [decide_eq_true_eq]
 obtain⟨_,_,_⟩:=x
 obtain⟨_,_,_⟩:=y
 simp [Node.mk.injEq,wI,and_assoc]
def Pair.ok (x:Pair):Prop:=I64 x.a∧I64 x.b
instance (x:Pair):Decidable (Pair.ok x):=by unfold Pair.ok;infer_instance
def Pair.okb (x:Pair):Bool:=decide (Pair.ok x)
theorem follows:Try.prog.follows .mixedOrders=true:=by kernel_rfl
theorem own:ownKnob Try.prog.godebug=none:=by kernel_rfl
theorem qCG:laidOutB Try.prog=true:=by kernel_rfl
def tab:Tab where
 lay:=[(3,false,1),(4,false,1),(22,false,1),(24,true,3),(27,false,1),(29,true,2),(36,false,1),(39,false,1),(51,true,3),(61,false,1),(78,false,1),(79,false,1),(81,true,9),(84,true,2)]
 fs:=[(24,[(0,false,1),(1,false,1),(2,false,1)]),(29,[(0,false,1),(1,false,1)]),(51,[(0,false,1),(1,false,1),(2,false,1)]),(63,[(0,false,1),(1,false,1)]),(81,[(0,true,2),(2,true,2),(4,false,1),(5,true,2),(7,false,1),(8,false,1)]),(84,[(0,false,1),(1,false,1)])]
 sel:=[(22,24,3,40),(27,51,3,24),(36,4,1,1),(54,36,1,24),(59,39,1,8),(66,3,1,8)]
 str:=[]
 boo:=[(4,())]
 con:=[]
theorem TK:TabOk Try.prog tab:=qBU (by kernel_rfl)
theorem qDU:bJ Try.prog 10=true:=by kernel_rfl
theorem qDT:bJ Try.prog 11=true:=by kernel_rfl
theorem qDS:bJ Try.prog 13=true:=by kernel_rfl
theorem qDR:bJ Try.prog 15=true:=by kernel_rfl
theorem qDQ:bJ Try.prog 17=true:=by kernel_rfl
theorem qDP:bJ Try.prog 19=true:=by kernel_rfl
theorem qDO:bJ Try.prog 21=true:=by kernel_rfl
theorem qDN:bJ Try.prog 23=true:=by kernel_rfl
theorem qDM:bJ Try.prog 24=true:=by kernel_rfl
theorem qDL:bJ Try.prog 31=true:=by kernel_rfl
theorem qDK:bJ Try.prog 32=true:=by kernel_rfl
theorem qDJ:bJ Try.prog 33=true:=by kernel_rfl
theorem qDI:bJ Try.prog 34=true:=by kernel_rfl
theorem qDH:bJ Try.prog 38=true:=by kernel_rfl
theorem qDG:bJ Try.prog 40=true:=by kernel_rfl
theorem qDF:bJ Try.prog 41=true:=by kernel_rfl
theorem xP:bJ Try.prog 42=true:=by kernel_rfl
theorem qDE:bJ Try.prog 43=true:=by kernel_rfl
theorem qDD:bJ Try.prog 46=true:=by kernel_rfl
theorem qDC:bJ Try.prog 47=true:=by kernel_rfl
theorem qDB:bJ Try.prog 49=true:=by kernel_rfl
theorem qDA:bJ Try.prog 50=true:=by kernel_rfl
theorem qCZ:bJ Try.prog 51=true:=by kernel_rfl
theorem qCY:bJ Try.prog 52=true:=by kernel_rfl
theorem qCX:bJ Try.prog 54=true:=by kernel_rfl
theorem qCW:bJ Try.prog 55=true:=by kernel_rfl
theorem qCV:bJ Try.prog 56=true:=by kernel_rfl
theorem qCU:bJ Try.prog 58=true:=by kernel_rfl
theorem qCT:bJ Try.prog 59=true:=by kernel_rfl
theorem callB6:bJ Try.prog 6=true:=by kernel_rfl
theorem callB9:bJ Try.prog 9=true:=by kernel_rfl
theorem keyt51:(Try.prog.keyTypeAt 30 51&&!Try.prog.eqGuardType Try.prog.depth 51&&(match Try.prog.underlying 51 with|some (.struct _)=>true|_=>false)&&[TypeDesc.int .i64,TypeDesc.int .i64,TypeDesc.int .i64].length == Try.prog.cellsOf 51)=true:=by kernel_rfl
theorem qCH:lV Try.prog 30 51=some [.int .i64,.int .i64,.int .i64]:=by kernel_rfl
theorem nK:mty Try.prog 61=some (51,(Try.prog.underlying 51).getD .bool,3):=by kernel_rfl
theorem qAH:mty Try.prog 79=some (84,(Try.prog.underlying 84).getD .bool,3):=by kernel_rfl
theorem qEL:plc Try.prog 24=some [(0,1),(1,1),(2,1)]:=by kernel_rfl
theorem gL:plc Try.prog 29=some [(0,1),(1,1)]:=by kernel_rfl
theorem tI:plc Try.prog 51=some [(0,1),(1,1),(2,1)]:=by kernel_rfl
theorem plc81:plc Try.prog 81=some [(0,2),(2,2),(4,1),(5,2),(7,1),(8,1)]:=by kernel_rfl
theorem zX:plc Try.prog 84=some [(0,1),(1,1)]:=by kernel_rfl
theorem iN:SKey Try.prog 51 [.int .i64,.int .i64,.int .i64]:=sKey 3 (by decide) (by kernel_rfl) (by kernel_rfl)
theorem vE:SKey Try.prog 84 [.int .i64,.int .i64]:=sKey 3 (by decide) (by kernel_rfl) (by kernel_rfl)
theorem oH:(Try.prog.info? 24).bind (·.zero)=Option.some (Go.Value.agg #[Go.Value.int Go.IntKind.i64 0,Go.Value.int Go.IntKind.i64 0,Go.Value.slice Option.none 0 0]):=by kernel_rfl
theorem bN:(Try.prog.info? 29).bind (·.zero)=Option.some (Go.Value.agg #[Go.Value.slice Option.none 0 0,Go.Value.int Go.IntKind.i64 0]):=by kernel_rfl
theorem oG:(Try.prog.info? 3).bind (·.zero)=Option.some (Go.Value.int Go.IntKind.i64 0):=by kernel_rfl
theorem zero36:(Try.prog.info? 36).bind (·.zero)=Option.some (Go.Value.slice Option.none 0 0):=by kernel_rfl
theorem uX:(Try.prog.info? 39).bind (·.zero)=Option.some (Go.Value.int Go.IntKind.u64 0):=by kernel_rfl
theorem sR:(Try.prog.info? 4).bind (·.zero)=Option.some (Go.Value.bool Bool.false):=by kernel_rfl
theorem bI:(Try.prog.info? 51).bind (·.zero)=Option.some (Go.Value.agg #[Go.Value.int Go.IntKind.i64 0,Go.Value.int Go.IntKind.i64 0,Go.Value.int Go.IntKind.i64 0]):=by kernel_rfl
theorem zero63:(Try.prog.info? 63).bind (·.zero)=Option.some (Go.Value.agg #[Go.Value.map Option.none,Go.Value.slice Option.none 0 0]):=by kernel_rfl
theorem zero78:(Try.prog.info? 78).bind (·.zero)=Option.some Go.Value.nilFunc:=by kernel_rfl
theorem yY:(Try.prog.info? 81).bind (·.zero)=Option.some (Go.Value.agg #[Go.Value.slice Option.none 0 0,Go.Value.int Go.IntKind.i64 0,Go.Value.slice Option.none 0 0,Go.Value.int Go.IntKind.i64 0,Go.Value.bool Bool.false,Go.Value.map Option.none,Go.Value.slice Option.none 0 0,Go.Value.map Option.none,Go.Value.bool Bool.false]):=by kernel_rfl
theorem uW:(Try.prog.info? 84).bind (·.zero)=Option.some (Go.Value.agg #[Go.Value.int Go.IntKind.i64 0,Go.Value.int Go.IntKind.i64 0]):=by kernel_rfl
theorem qEG {w:World} {n k:Nat} {g:Gh} {mv:Nat→Bool} {o:Oper} {ev:Operand→AV} {hp:List Blk} {a b:Operand} {t':TypeId} {x y:Node} (ho:o.op=.binOp .neq 51 a b t') (hx:ev a=.d x.enc) (hy:ev b=.d y.enc) (h1:x.ok) (h2:y.ok):RdOk ⟨Try.prog,n,w,k,g,mv⟩ o ev hp (.d (.bool (!decide (x=y)))):=
 eq_not ho hx hy qCH keyt51 rfl rfl ⟨⟨rfl,h1.1⟩,⟨rfl,h1.2.1⟩,⟨rfl,h1.2.2⟩,trivial⟩ ⟨⟨rfl,h2.1⟩,⟨rfl,h2.2.1⟩,⟨rfl,h2.2.2⟩,trivial⟩ (yV x y)
theorem iZ : KeyG [.int .i64, .int .i64, .int .i64] Node.enc Node.okb := ⟨fun x h => by
 have h : Node.ok x := of_decide_eq_true h
 exact ⟨_, [.int .i64 x.var, .int .i64 x.lo, .int .i64 x.hi], rfl, rfl, ⟨⟨rfl, h.1⟩, ⟨rfl, h.2.1⟩, ⟨rfl, h.2.2⟩, trivial⟩⟩, fun a b h => by
 cases a; cases b; simpa [Node.enc] using h⟩
theorem vY : KeyG [.int .i64, .int .i64] Pair.enc Pair.okb := ⟨fun x h => by
 have h : Pair.ok x := of_decide_eq_true h
 exact ⟨_, [.int .i64 x.a, .int .i64 x.b], rfl, rfl, ⟨⟨rfl, h.1⟩, ⟨rfl, h.2⟩, trivial⟩⟩, fun a b h => by
 cases a; cases b; simpa [Pair.enc] using h⟩
theorem xO:Try.prog.cellsOf 24=3:=by kernel_rfl
theorem tree24 {t:TypeId} {cs:List D} (h:HasTy Try.prog t cs):(t=24→∃ x:Expr,x.Wf∧cs=[.int .i64 x.op,.int .i64 x.var,.sl 3 (x.args.map Expr.encR)])∧(t=22→∃ es:List Expr,es.length≤reachBytes∧(∀ e∈es,e.Wf)∧cs=[.sl 3 (es.map Expr.encR)]):=by
 induction h with
 | bool t ht b=>exact⟨λe=>(by subst e;rw [Try.underlying24] at ht;cases ht),λe=>(by subst e;rw [Try.underlying22] at ht;cases ht)⟩
 | int t k ht n hn=>exact⟨λe=>(by subst e;rw [Try.underlying24] at ht;cases ht),λe=>(by subst e;rw [Try.underlying22] at ht;cases ht)⟩
 | str t ht s hs=>exact⟨λe=>(by subst e;rw [Try.underlying24] at ht;cases ht),λe=>(by subst e;rw [Try.underlying22] at ht;cases ht)⟩
 | sl t e ht css hl h0 h ih=>
  refine⟨λe=>(by subst e;rw [Try.underlying24] at ht;cases ht),λe=>?_⟩;subst e;rw [Try.underlying22] at ht;cases ht
  have key:∀ css:List (List D),(∀ cs∈css,∃ x:Expr,x.Wf∧cs=[.int .i64 x.op,.int .i64 x.var,.sl 3 (x.args.map Expr.encR)])→∃ es:List Expr,es.length=css.length∧(∀ e∈es,e.Wf)∧css.map (aJ Try.prog 24)=es.map Expr.encR:=by
   intro css
   induction css with
   | nil=>intro _;exact⟨[],rfl,λe he=>by simp at he,by simp⟩
   | cons cs r ih=>
    intro h;obtain⟨x,hx,hcs⟩:=h cs (by simp);obtain⟨es,h1,h2,h3⟩:=ih λc hc=>h c (by simp [hc]);refine⟨x :: es,by simp [h1],λy hy=>?_,?_⟩
    ·rcases zQB.1 hy with rfl|hy
     ·exact hx
     exact h2 y hy
    rw [List.map_cons,h3,List.map_cons,hcs,Expr.encR_eq];simp [aJ,Try.underlying24,Expr.enc]
  obtain⟨es,h1,h2,h3⟩:=key css λcs hcs=>(ih cs hcs).1 rfl;exact⟨es,by omega,h2,by rw [h3,xO]⟩
 | struct t fs ht cs hl h ih=>
  refine⟨λe=>?_,λe=>(by subst e;rw [Try.underlying22] at ht;cases ht)⟩;subst e;rw [Try.underlying24] at ht;cases ht;rw [xO] at hl
  match cs,hl with
  | [a0,a1,a2],_=>
   obtain⟨x0,e0,w0⟩:=(h 0 _ rfl).int_inv Try.underlying3;have e0':=(List.cons.inj (show [a0]=[D.int .i64 x0] from e0)).1;obtain⟨x1,e1,w1⟩:=(h 1 _ rfl).int_inv Try.underlying3;have e1':=(List.cons.inj (show [a1]=[D.int .i64 x1] from e1)).1;obtain⟨es,l1,l2,e2⟩:=(ih 2 _ rfl).2 rfl;have e2':=(List.cons.inj (show [a2]=[D.sl 3 (es.map Expr.encR)] from e2)).1;subst e0' e1' e2';exact⟨⟨x0,x1,es⟩,.mk _ w0 w1 l1 l2,rfl⟩
theorem ty24c (cs:List D) (h:HasTy Try.prog 24 cs):∃ x:Expr,x.Wf∧cs=[.int .i64 x.op,.int .i64 x.var,.sl 3 (x.args.map Expr.encR)]:=(tree24 h).1 rfl
theorem ty24 (cs:List D) (h:HasTy Try.prog 24 cs):∃ x:Expr,x.Wf∧aJ Try.prog 24 cs=Expr.encR x:=by
 obtain⟨x,w,rfl⟩:=ty24c cs h;exact⟨x,w,by rw [Expr.encR_eq];simp [aJ,Try.underlying24,Expr.enc]⟩
def cH:Nat→Expr→Option Int
 | 0,_=>none
 | fu+1,p0=>
 aD (
 bC (λ(n5,i6)=>
 if i6 < (p0.args.length:Int) then
 bG p0.args i6 λe9=>
 aD ((cH fu) e9) λr10=>
 aC (I64 (n5+r10)) <|
 aC (I64 (i6+(1:Int))) <|
 some (.inl ((n5+r10),(i6+(1:Int))))
 else
 aI (
 some n5)) ((1:Int),(0:Int))) λn1=>
 some n1
def fM (p0:Expr):Option Int:=cH aF p0
def fF (p0:Expr):Option Bool:=
 aD (fM p0) λr1=>
 some (decide (r1≤(120:Int)))
def lU (p0:Int):Option Expr:=
 some (⟨(3:Int),p0,([]:List Expr)⟩:Expr)
def bS:Nat→Expr→Int→Int→Int→Option (Bool×Int)
 | 0,_,_,_,_=>none
 | fu+1,p0,p1,p2,p3=>
 if ((decide ((12:Int) < p2))||(decide (p3=(0:Int))))=true then
 some (false,p3)
 else
 aC (I64 (p3 - (1:Int))) <|
 cO (
 aD (
 if p0.op=(1:Int) then
 some (decide (p0.op=(1:Int)))
 else
 some (decide (p0.op=(2:Int)))) λx5=>
 if x5=true then
 aI (
 some (((decide (p0.var=(0:Int)))&&(decide ((p0.args.length:Int)=(0:Int)))),(p3 - (1:Int))))
 else
 if p0.op=(3:Int) then
 aI (
 some (((decide ((0:Int)≤p0.var))&&((decide (p0.var < p1))&&(decide ((p0.args.length:Int)=(0:Int))))),(p3 - (1:Int))))
 else
 if p0.op=(4:Int) then
 if (p0.args.length:Int)=(1:Int) then
 some (.inl ())
 else
 aI (
 some (false,(p3 - (1:Int))))
 else
 if p0.op=(5:Int) then
 some (.inl ())
 else
 if p0.op=(6:Int) then
 some (.inl ())
 else
 aI (
 some (false,(p3 - (1:Int))))) λ_=>
 if p0.var=(0:Int) then
 cO (
 bC (λ(x27,c28)=>
 if x27 < (p0.args.length:Int) then
 bG p0.args x27 λe31=>
 aC (I64 (p2+(1:Int))) <|
 aD ((bS fu) e31 p1 (p2+(1:Int)) c28) λ(r34,r35)=>
 if (!(r34))=true then
 aI (
 aI (
 some (false,r35)))
 else
 aC (I64 (x27+(1:Int))) <|
 some (.inl ((x27+(1:Int)),r35))
 else
 aI (
 some (.inl c28))) ((0:Int),(p3 - (1:Int)))) λc22=>
 some (true,c22)
 else
 some (false,(p3 - (1:Int)))
def kY (p0:Expr) (p1:Int) (p2:Int) (p3:Int):Option (Bool×Int):=bS aF p0 p1 p2 p3
def fS (p0:Expr) (p1:Int):Option Bool:=
 aD (kY p0 p1 (1:Int) (20000:Int)) λ(r2,r3)=>
 some r2
def fV (p0:Int):Option Int:=
 if p0 < (2:Int) then
 aC (I64 ((1:Int) - p0)) <|
 some ((1:Int) - p0)
 else
 some p0
def cX (p0:Diagram):Option Diagram:=
 aD (fV p0.root) λr1=>
 aD (
 bC (λ(x7,b8)=>
 if x7 < (p0.nodes.length:Int) then
 bG p0.nodes x7 λe11=>
 aD (fV e11.lo) λr12=>
 aD (fV e11.hi) λr13=>
 aC ((b8++([(⟨e11.var,r12,r13⟩:Node)]:List Node)).length≤1000000000) <|
 aC (I64 (x7+(1:Int))) <|
 some (.inl ((x7+(1:Int)),(b8++([(⟨e11.var,r12,r13⟩:Node)]:List Node))))
 else
 aI (
 some b8)) ((0:Int),([]:List Node))) λb2=>
 some (⟨b2,r1⟩:Diagram)
def cY (p0:Bool):Option Diagram:=
 if p0=true then
 some (⟨([]:List Node),(1:Int)⟩:Diagram)
 else
 some (⟨([]:List Node),(0:Int)⟩:Diagram)
def cK (p0:Diagram) (p1:Int):Option Int:=
 if p1 < (2:Int) then
 some (64:Int)
 else
 aC (I64 (p1 - (2:Int))) <|
 bG p0.nodes (p1 - (2:Int)) λe3=>
 some e3.var
def cZ (p0:Diagram) (p1:Int) (p2:Int):Option (Int×Int):=
 aD (cK p0 p1) λr1=>
 if r1=p2 then
 aC (I64 (p1 - (2:Int))) <|
 bG p0.nodes (p1 - (2:Int)) λe4=>
 some (e4.lo,e4.hi)
 else
 some (p1,p1)
def aL (p0:Merger) (p1:Node):Option (Int×Merger):=
 tP p0.nodes.index (
 aC (Node.okb p1=true) <|
 aD (
 some ()) λ_=>
 aC (dJ Node.okb ([]:List (Node×Int)) p1) <|
 aC ((p0.nodes.list++([p1]:List Node)).length≤1000000000) <|
 aC (I64 (((p0.nodes.list++([p1]:List Node)).length:Int) - (1:Int))) <|
 some ((((p0.nodes.list++([p1]:List Node)).length:Int) - (1:Int)),(⟨p0.a,p0.b,p0.all,(⟨(eP ([]:List (Node×Int)) p1 (p0.nodes.list.length:Int)),(p0.nodes.list++([p1]:List Node))⟩:Node'),p0.done,p0.full⟩:Merger))) (
 aC (dJ Node.okb p0.nodes.index p1) <|
 if ((bT p0.nodes.index p1).isSome)=true then
 some (((bT p0.nodes.index p1).getD (0:Int)),p0)
 else
 aD (
 some ()) λ_=>
 aC (dJ Node.okb p0.nodes.index p1) <|
 aC ((p0.nodes.list++([p1]:List Node)).length≤1000000000) <|
 aC (I64 (((p0.nodes.list++([p1]:List Node)).length:Int) - (1:Int))) <|
 some ((((p0.nodes.list++([p1]:List Node)).length:Int) - (1:Int)),(⟨p0.a,p0.b,p0.all,(⟨(eP p0.nodes.index p1 (p0.nodes.list.length:Int)),(p0.nodes.list++([p1]:List Node))⟩:Node'),p0.done,p0.full⟩:Merger)))
def aW:Nat→Merger→Pair→Option (Int×Merger)
 | 0,_,_=>none
 | fu+1,p0,p1=>
 if (p0.full)=true then
 some ((0:Int),p0)
 else
 aD (
 if (!(p0.all))=true then
 some ((1:Int),(0:Int))
 else
 some ((0:Int),(1:Int))) λ(decides2,other3)=>
 if ((decide (p1.a=decides2))||(decide (p1.b=decides2)))=true then
 some (decides2,p0)
 else
 if ((decide (p1.a=other3))&&(decide (p1.b=other3)))=true then
 some (other3,p0)
 else
 aC (dJ Pair.okb p0.done p1) <|
 if ((bT p0.done p1).isSome)=true then
 some (((bT p0.done p1).getD (0:Int)),p0)
 else
 aD (cK p0.a p1.a) λr12=>
 aD (cK p0.b p1.b) λr13=>
 aD (cZ p0.a p1.a (min r12 r13)) λ(r15,r16)=>
 aD (cZ p0.b p1.b (min r12 r13)) λ(r18,r19)=>
 aD ((aW fu) p0 (⟨r15,r18⟩:Pair)) λ(r21,r22)=>
 aD (
 aD ((aW fu) (⟨p0.a,p0.b,p0.all,r22.nodes,r22.done,r22.full⟩:Merger) (⟨r16,r19⟩:Pair)) λ(r30,r31)=>
 if r30=r21 then
 some (r21,r31.full,r31.nodes.index,r31.nodes.list,r31.done)
 else
 aD (aL (⟨p0.a,p0.b,p0.all,r31.nodes,r31.done,r31.full⟩:Merger) (⟨(min r12 r13),r21,r30⟩:Node)) λ(r34,r35)=>
 aC (I64 (r34+(2:Int))) <|
 some ((r34+(2:Int)),r31.full,r35.nodes.index,r35.nodes.list,r31.done)) λ(x23,c24,m25,b26,m27)=>
 if (20000:Int) < (b26.length:Int) then
 aC (dJ Pair.okb m27 p1) <|
 some (x23,(⟨p0.a,p0.b,p0.all,(⟨m25,b26⟩:Node'),(eP m27 p1 x23),true⟩:Merger))
 else
 aC (dJ Pair.okb m27 p1) <|
 some (x23,(⟨p0.a,p0.b,p0.all,(⟨m25,b26⟩:Node'),(eP m27 p1 x23),c24⟩:Merger))
def eL (p0:Merger) (p1:Pair):Option (Int×Merger):=aW aF p0 p1
def dR (p0:Diagram) (p1:Diagram) (p2:Bool):Option (Diagram×Bool):=
 aD (eL (⟨p0,p1,p2,(⟨([]:List (Node×Int)),([]:List Node)⟩:Node'),([]:List (Pair×Int)),false⟩:Merger) (⟨p0.root,p1.root⟩:Pair)) λ(r2,r3)=>
 if (r3.full)=true then
 some ((⟨([]:List Node),(0:Int)⟩:Diagram),false)
 else
 some ((⟨r3.nodes.list,r2⟩:Diagram),true)
def bL:Nat→Expr→Option (Diagram×Bool)
 | 0,_=>none
 | fu+1,p0=>
 cO (
 if p0.op=(1:Int) then
 aI (
 some ((⟨([]:List Node),(0:Int)⟩:Diagram),true))
 else
 if p0.op=(3:Int) then
 aI (
 some ((⟨([(⟨p0.var,(0:Int),(1:Int)⟩:Node)]:List Node),(2:Int)⟩:Diagram),true))
 else
 if p0.op=(4:Int) then
 bG p0.args (0:Int) λe7=>
 aD ((bL fu) e7) λ(r9,r10)=>
 aD (cX r9) λr11=>
 aI (
 some (r11,r10))
 else
 aD (
 if p0.op=(5:Int) then
 some (decide (p0.op=(5:Int)))
 else
 some (decide (p0.op=(6:Int)))) λx13=>
 if x13=true then
 aD (cY (decide (p0.op=(5:Int)))) λr17=>
 cO (
 bC (λ(x25,c26,c27)=>
 if x25 < (p0.args.length:Int) then
 bG p0.args x25 λe30=>
 aD ((bL fu) e30) λ(r32,r33)=>
 if (!(r33))=true then
 aI (
 aI (
 aI (
 some ((⟨([]:List Node),(0:Int)⟩:Diagram),false))))
 else
 aD (dR (⟨c26,c27⟩:Diagram) r32 (decide (p0.op=(5:Int)))) λ(r39,r40)=>
 if (!(r40))=true then
 aI (
 aI (
 aI (
 some ((⟨([]:List Node),(0:Int)⟩:Diagram),false))))
 else
 aC (I64 (x25+(1:Int))) <|
 some (.inl ((x25+(1:Int)),r39.nodes,r39.root))
 else
 aI (
 some (.inl (c26,c27)))) ((0:Int),r17.nodes,r17.root)) λ(c18,c19)=>
 aI (
 some ((⟨c18,c19⟩:Diagram),true))
 else
 some (.inl ())) λ_=>
 aD (cY true) λr48=>
 some (r48,true)
def gE (p0:Expr):Option (Diagram×Bool):=bL aF p0
def lF (p0:Expr) (p1:Int):Option (Diagram×Int):=
 if (64:Int) < p1 then
 some ((⟨([]:List Node),(0:Int)⟩:Diagram),(2:Int))
 else
 aD (
 if p1 < (0:Int) then
 some true
 else
 aD (fS p0 p1) λr5=>
 some (!(r5))) λx2=>
 if x2=true then
 some ((⟨([]:List Node),(0:Int)⟩:Diagram),(1:Int))
 else
 aD (gE p0) λ(r8,r9)=>
 if (!(r9))=true then
 some ((⟨([]:List Node),(0:Int)⟩:Diagram),(2:Int))
 else
 some (r8,(0:Int))
def dS (p0:Diagram) (p1:Int) (p2:Int):Option Bool:=
 if ((decide (p2=(0:Int)))||(decide (p2=(1:Int))))=true then
 some true
 else
 aD (
 if (2:Int)≤p2 then
 aC (I64 (p1+(2:Int))) <|
 if p2 < (p1+(2:Int)) then
 aC (I64 (p2 - (2:Int))) <|
 bG p0.nodes (p2 - (2:Int)) λe9=>
 bG p0.nodes p1 λe10=>
 some (decide (e10.var < e9.var))
 else
 some false
 else
 some false) λx3=>
 some x3
def bD:Nat→Int→(List Bool)→Diagram→Int→Option (Bool×(List Bool)×Int)
 | 0,_,_,_,_=>none
 | fu+1,p0,p1,p2,p4=>
 aD (
 if p0 < (2:Int) then
 some true
 else
 bG p1 p0 λe4=>
 some e4) λx1=>
 if x1=true then
 some (true,p1,p4)
 else
 bG p1 p0 λe6=>
 aC (I64 (p0 - (2:Int))) <|
 bG p2.nodes (p0 - (2:Int)) λe8=>
 aD (
 aD ((bD fu) e8.lo (p1.set p0.toNat true) p2 p4) λ(r14,r15,r16)=>
 if (!(r14))=true then
 some (true,r15,r16)
 else
 aD ((bD fu) e8.hi r15 p2 r16) λ(r19,r20,r21)=>
 if (!(r19))=true then
 some (true,r20,r21)
 else
 some (!(decide (p0=r21)),r20,r21)) λ(x9,b10,c11)=>
 if x9=true then
 some (false,b10,c11)
 else
 aC (I64 (c11+(1:Int))) <|
 some (true,b10,(c11+(1:Int)))
def fU (p0:Int) (p1:(List Bool)) (p2:Diagram) (p4:Int):Option (Bool×(List Bool)×Int):=bD aF p0 p1 p2 p4
def eV (p0:Diagram):Option Bool:=
 aC (I64 ((p0.nodes.length:Int)+(2:Int))) <|
 aC (0≤((p0.nodes.length:Int)+(2:Int))∧((p0.nodes.length:Int)+(2:Int))≤1000000000) <|
 aD (
 aD (fU p0.root (List.replicate ((p0.nodes.length:Int)+(2:Int)).toNat false) p0 (2:Int)) λ(r8,r9,r10)=>
 if r8=true then
 aC (I64 ((p0.nodes.length:Int)+(2:Int))) <|
 some (decide (r10=((p0.nodes.length:Int)+(2:Int))),r9,r10)
 else
 some (false,r9,r10)) λ(x3,b4,c5)=>
 some x3
def aP (p0:Node') (p1:Node):Option (Int×Node'):=
 tP p0.index (
 aC (Node.okb p1=true) <|
 aD (
 some ()) λ_=>
 aC (dJ Node.okb ([]:List (Node×Int)) p1) <|
 aC ((p0.list++([p1]:List Node)).length≤1000000000) <|
 aC (I64 (((p0.list++([p1]:List Node)).length:Int) - (1:Int))) <|
 some ((((p0.list++([p1]:List Node)).length:Int) - (1:Int)),(⟨(eP ([]:List (Node×Int)) p1 (p0.list.length:Int)),(p0.list++([p1]:List Node))⟩:Node'))) (
 aC (dJ Node.okb p0.index p1) <|
 if ((bT p0.index p1).isSome)=true then
 some (((bT p0.index p1).getD (0:Int)),p0)
 else
 aD (
 some ()) λ_=>
 aC (dJ Node.okb p0.index p1) <|
 aC ((p0.list++([p1]:List Node)).length≤1000000000) <|
 aC (I64 (((p0.list++([p1]:List Node)).length:Int) - (1:Int))) <|
 some ((((p0.list++([p1]:List Node)).length:Int) - (1:Int)),(⟨(eP p0.index p1 (p0.list.length:Int)),(p0.list++([p1]:List Node))⟩:Node')))
def dA (p0:Diagram):Option Bool:=
 if (20000:Int) < (p0.nodes.length:Int) then
 some false
 else
 cO (
 bC (λ(x9,b10,b11)=>
 if x9 < (p0.nodes.length:Int) then
 bG p0.nodes x9 λe14=>
 aD (
 if e14.var < (0:Int) then
 some true
 else
 if (64:Int)≤e14.var then
 some true
 else
 if e14.lo=e14.hi then
 some true
 else
 aD (dS p0 x9 e14.lo) λr20=>
 if (!(r20))=true then
 some true
 else
 aD (dS p0 x9 e14.hi) λr22=>
 some (!(r22))) λx15=>
 if x15=true then
 aI (
 aI (
 some false))
 else
 aD (aP (⟨b10,b11⟩:Node') e14) λ(r27,r28)=>
 if r27=x9 then
 aC (I64 (x9+(1:Int))) <|
 some (.inl ((x9+(1:Int)),r28.index,r28.list))
 else
 aI (
 aI (
 some false))
 else
 aI (
 some (.inl (b10,b11)))) ((0:Int),([]:List (Node×Int)),([]:List Node))) λ(m2,b3)=>
 if (p0.nodes.length:Int)=(0:Int) then
 some ((decide (p0.root=(0:Int)))||(decide (p0.root=(1:Int))))
 else
 aD (
 aC (I64 ((p0.nodes.length:Int)+(1:Int))) <|
 if p0.root=((p0.nodes.length:Int)+(1:Int)) then
 aD (eV p0) λr40=>
 some r40
 else
 some false) λx36=>
 some x36
def jY (p0:Diagram) (p1:Int):Option Bool:=
 cO (
 bC (λx3=>
 if x3 < (p0.nodes.length:Int) then
 bG p0.nodes x3 λe6=>
 if p1≤e6.var then
 aI (
 aI (
 some false))
 else
 aC (I64 (x3+(1:Int))) <|
 some (.inl (x3+(1:Int)))
 else
 aI (
 some (.inl ()))) (0:Int)) λ_=>
 some true
def eB (p0:Int) (p1:Int) (p2:Diagram):Option Int:=
 if p0 < (2:Int) then
 some p1
 else
 aC (I64 (p0 - (2:Int))) <|
 bG p2.nodes (p0 - (2:Int)) λe3=>
 some e3.var
def nC (p0:Diagram) (p1:Int):Option (Int×Int):=
 if ((decide (p1 < (0:Int)))||(decide ((62:Int) < p1)))=true then
 some ((0:Int),(2:Int))
 else
 aD (
 aD (dA p0) λr5=>
 if (!(r5))=true then
 some true
 else
 aD (jY p0 p1) λr7=>
 some (!(r7))) λx3=>
 if x3=true then
 some ((0:Int),(1:Int))
 else
 aD (
 bC (λ(x14,b15)=>
 if x14 < (p0.nodes.length:Int) then
 bG p0.nodes x14 λe18=>
 bG b15 e18.lo λe19=>
 aD (eB e18.lo p1 p0) λr20=>
 aC (I64 (r20 - e18.var)) <|
 aC (I64 ((r20 - e18.var) - (1:Int))) <|
 aC (0≤((r20 - e18.var) - (1:Int))) <|
 bG b15 e18.hi λe24=>
 aD (eB e18.hi p1 p0) λr25=>
 aC (I64 (r25 - e18.var)) <|
 aC (I64 ((r25 - e18.var) - (1:Int))) <|
 aC (0≤((r25 - e18.var) - (1:Int))) <|
 aC ((b15++([(IntKind.u64.wrap ((IntKind.u64.wrap (e19 * (2 ^ (min ((r20 - e18.var) - (1:Int)).toNat IntKind.u64.bits))))+(IntKind.u64.wrap (e24 * (2 ^ (min ((r25 - e18.var) - (1:Int)).toNat IntKind.u64.bits))))))]:List Int)).length≤1000000000) <|
 aC (I64 (x14+(1:Int))) <|
 some (.inl ((x14+(1:Int)),(b15++([(IntKind.u64.wrap ((IntKind.u64.wrap (e19 * (2 ^ (min ((r20 - e18.var) - (1:Int)).toNat IntKind.u64.bits))))+(IntKind.u64.wrap (e24 * (2 ^ (min ((r25 - e18.var) - (1:Int)).toNat IntKind.u64.bits))))))]:List Int))))
 else
 aI (
 some b15)) ((0:Int),([(0:Int),(1:Int)]:List Int))) λb9=>
 bG b9 p0.root λe32=>
 aD (eB p0.root p1 p0) λr33=>
 aC (0≤r33) <|
 some ((IntKind.u64.wrap (e32 * (2 ^ (min r33.toNat IntKind.u64.bits)))),(0:Int))
def nB (p0:Diagram) (p1:Int):Option ((List Bool)×Bool):=
 aD (
 if p1 < (0:Int) then
 some true
 else
 if (64:Int) < p1 then
 some true
 else
 aD (dA p0) λr5=>
 if (!(r5))=true then
 some true
 else
 aD (jY p0 p1) λr7=>
 if (!(r7))=true then
 some true
 else
 some (decide (p0.root=(0:Int)))) λx1=>
 if x1=true then
 some (([]:List Bool),false)
 else
 aC (0≤p1∧p1≤1000000000) <|
 aD (
 bC (λ(at16,b17)=>
 if (1:Int) < at16 then
 aC (I64 (at16 - (2:Int))) <|
 bG p0.nodes (at16 - (2:Int)) λe21=>
 if e21.lo=(0:Int) then
 bG b17 e21.var λe23=>
 some (.inl (e21.hi,(b17.set e21.var.toNat true)))
 else
 some (.inl (e21.lo,b17))
 else
 aI (
 some b17)) (p0.root,(List.replicate p1.toNat false))) λb11=>
 some (b11,true)
def eE (p0:Diagram) (p1:Diagram):Option Bool:=
 if ((!(decide ((p0.nodes.length:Int)=(p1.nodes.length:Int))))||(!(decide (p0.root=p1.root))))=true then
 some false
 else
 cO (
 bC (λx5=>
 if x5 < (p0.nodes.length:Int) then
 bG p0.nodes x5 λe8=>
 bG p1.nodes x5 λe9=>
 aC (Node.ok e8∧Node.ok e9) <|
 if e8=e9 then
 aC (I64 (x5+(1:Int))) <|
 some (.inl (x5+(1:Int)))
 else
 aI (
 aI (
 some false))
 else
 aI (
 some (.inl ()))) (0:Int)) λ_=>
 some true
def eT:Option Bool:=
 aD (lU (0:Int)) λr1=>
 aD (lU (1:Int)) λr2=>
 aD (lF (⟨(5:Int),(0:Int),([r1,r2]:List Expr)⟩:Expr) (2:Int)) λ(r4,r5)=>
 aD (nC r4 (3:Int)) λ(r7,r8)=>
 aD (nB r4 (2:Int)) λ(r10,r11)=>
 aD (
 if r5=(0:Int) then
 if r8=(0:Int) then
 if r7=(2:Int) then
 if r11=true then
 if (r10.length:Int)=(2:Int) then
 bG r10 (0:Int) λe19=>
 if e19=true then
 bG r10 (1:Int) λe21=>
 if e21=true then
 aD (eE r4 (⟨([(⟨(1:Int),(0:Int),(1:Int)⟩:Node),(⟨(0:Int),(0:Int),(2:Int)⟩:Node)]:List Node),(3:Int)⟩:Diagram)) λr23=>
 if r23=true then
 aD (dA r4) λr25=>
 some r25
 else
 some false
 else
 some false
 else
 some false
 else
 some false
 else
 some false
 else
 some false
 else
 some false
 else
 some false) λx12=>
 some x12
def cC:Nat→Expr→Option Int
 | 0,_=>none
 | fu+1,p0=>
 aD (
 bC (λ(d5,i6)=>
 if i6 < (p0.args.length:Int) then
 bG p0.args i6 λe9=>
 aD ((cC fu) e9) λr10=>
 aC (I64 (i6+(1:Int))) <|
 some (.inl ((max d5 r10),(i6+(1:Int))))
 else
 aI (
 some d5)) ((0:Int),(0:Int))) λd1=>
 aC (I64 (d1+(1:Int))) <|
 some (d1+(1:Int))
def gD (p0:Expr):Option Int:=cC aF p0
def bZ:Nat→Expr→Int→Option Bool
 | 0,_,_=>none
 | fu+1,p0,p1=>
 cO (
 aD (
 if p0.op=(1:Int) then
 some (decide (p0.op=(1:Int)))
 else
 some (decide (p0.op=(2:Int)))) λx2=>
 if x2=true then
 aI (
 some ((decide (p0.var=(0:Int)))&&(decide ((p0.args.length:Int)=(0:Int)))))
 else
 if p0.op=(3:Int) then
 aI (
 some ((decide ((0:Int)≤p0.var))&&((decide (p0.var < p1))&&(decide ((p0.args.length:Int)=(0:Int))))))
 else
 if p0.op=(4:Int) then
 if (p0.args.length:Int)=(1:Int) then
 some (.inl ())
 else
 aI (
 some false)
 else
 if p0.op=(5:Int) then
 some (.inl ())
 else
 if p0.op=(6:Int) then
 some (.inl ())
 else
 aI (
 some false)) λ_=>
 cO (
 bC (λi20=>
 if i20 < (p0.args.length:Int) then
 bG p0.args i20 λe23=>
 aD ((bZ fu) e23 p1) λr24=>
 if (!(r24))=true then
 aI (
 aI (
 some false))
 else
 aC (I64 (i20+(1:Int))) <|
 some (.inl (i20+(1:Int)))
 else
 aI (
 some (.inl ()))) (0:Int)) λ_=>
 some (decide (p0.var=(0:Int)))
def gY (p0:Expr) (p1:Int):Option Bool:=bZ aF p0 p1
def dM (p0:Expr) (p1:Int):Option Bool:=
 aD (
 aD (fM p0) λr3=>
 if r3≤(20000:Int) then
 aD (gD p0) λr5=>
 if r5≤(12:Int) then
 aD (gY p0 p1) λr7=>
 some r7
 else
 some false
 else
 some false) λx1=>
 some x1
def bR:Nat→Expr→(List Bool)→Option Bool
 | 0,_,_=>none
 | fu+1,p0,p1=>
 cO (
 if p0.op=(2:Int) then
 aI (
 some true)
 else
 if p0.op=(3:Int) then
 aD (
 if (0:Int)≤p0.var then
 if p0.var < (p1.length:Int) then
 bG p1 p0.var λe9=>
 some e9
 else
 some false
 else
 some false) λx5=>
 aI (
 some x5)
 else
 if p0.op=(4:Int) then
 aD (
 if (0:Int) < (p0.args.length:Int) then
 bG p0.args (0:Int) λe15=>
 aD ((bR fu) e15 p1) λr16=>
 some (!(r16))
 else
 some false) λx12=>
 aI (
 some x12)
 else
 aD (
 if p0.op=(5:Int) then
 some (decide (p0.op=(5:Int)))
 else
 some (decide (p0.op=(6:Int)))) λx18=>
 if x18=true then
 cO (
 bC (λi24=>
 if i24 < (p0.args.length:Int) then
 bG p0.args i24 λe27=>
 aD ((bR fu) e27 p1) λr28=>
 if ((r28 == (decide (p0.op=(6:Int)))))=true then
 aI (
 aI (
 aI (
 some (decide (p0.op=(6:Int))))))
 else
 aC (I64 (i24+(1:Int))) <|
 some (.inl (i24+(1:Int)))
 else
 aI (
 some (.inl ()))) (0:Int)) λ_=>
 aI (
 some (decide (p0.op=(5:Int))))
 else
 some (.inl ())) λ_=>
 some false
def eF (p0:Expr) (p1:(List Bool)):Option Bool:=bR aF p0 p1
def mL (p0:Diagram) (p1:Node):Option (Int×Diagram):=
 if p1.lo=p1.hi then
 some (p1.lo,p0)
 else
 cO (
 bC (λx4=>
 if x4 < (p0.nodes.length:Int) then
 bG p0.nodes x4 λe7=>
 aC (Node.ok e7∧Node.ok p1) <|
 if e7=p1 then
 aC (I64 (x4+(2:Int))) <|
 aI (
 aI (
 some ((x4+(2:Int)),p0)))
 else
 aC (I64 (x4+(1:Int))) <|
 some (.inl (x4+(1:Int)))
 else
 aI (
 some (.inl ()))) (0:Int)) λ_=>
 aC ((p0.nodes++([p1]:List Node)).length≤1000000000) <|
 aC (I64 (((p0.nodes++([p1]:List Node)).length:Int)+(1:Int))) <|
 some ((((p0.nodes++([p1]:List Node)).length:Int)+(1:Int)),(⟨(p0.nodes++([p1]:List Node)),p0.root⟩:Diagram))
def cW:Nat→Diagram→(List Bool)→Int→Option (Int×Diagram)
 | 0,_,_,_=>none
 | fu+1,p0,p1,p2=>
 if (p1.length:Int)=(1:Int) then
 bG p1 (0:Int) λe2=>
 if e2=true then
 some ((1:Int),p0)
 else
 some ((0:Int),p0)
 else
 aC (¬ (2:Int)=0) <|
 aC (0≤(0:Int)∧(0:Int)≤(IntKind.i64.wrap ((p1.length:Int).tdiv (2:Int)))∧(IntKind.i64.wrap ((p1.length:Int).tdiv (2:Int)))≤(p1.length:Int)) <|
 aC (I64 (p2+(1:Int))) <|
 aD ((cW fu) p0 (sub p1 (0:Int) (IntKind.i64.wrap ((p1.length:Int).tdiv (2:Int)))) (p2+(1:Int))) λ(r8,r9)=>
 aC (0≤(IntKind.i64.wrap ((p1.length:Int).tdiv (2:Int)))∧(IntKind.i64.wrap ((p1.length:Int).tdiv (2:Int)))≤(p1.length:Int)∧(p1.length:Int)≤(p1.length:Int)) <|
 aC (I64 (p2+(1:Int))) <|
 aD ((cW fu) (⟨r9.nodes,p0.root⟩:Diagram) (sub p1 (IntKind.i64.wrap ((p1.length:Int).tdiv (2:Int))) (p1.length:Int)) (p2+(1:Int))) λ(r13,r14)=>
 aD (mL (⟨r14.nodes,p0.root⟩:Diagram) (⟨p2,r8,r13⟩:Node)) λ(r16,r17)=>
 some (r16,(⟨r17.nodes,p0.root⟩:Diagram))
def oP (p0:Diagram) (p1:(List Bool)) (p2:Int):Option (Int×Diagram):=cW aF p0 p1 p2
def oQ (p0:(List Bool)):Option Diagram:=
 aD (oP (⟨([]:List Node),(0:Int)⟩:Diagram) p0 (0:Int)) λ(r2,r3)=>
 some (⟨r3.nodes,r2⟩:Diagram)
def cP:Nat→Diagram→Int→(List Int)→Option ((List Int))
 | 0,_,_,_=>none
 | fu+1,p0,p1,p2=>
 if p1 < (2:Int) then
 some p2
 else
 cO (
 bC (λx4=>
 if x4 < (p2.length:Int) then
 bG p2 x4 λe7=>
 if e7=p1 then
 aI (
 aI (
 some p2))
 else
 aC (I64 (x4+(1:Int))) <|
 some (.inl (x4+(1:Int)))
 else
 aI (
 some (.inl ()))) (0:Int)) λ_=>
 aC (I64 (p1 - (2:Int))) <|
 bG p0.nodes (p1 - (2:Int)) λe14=>
 aD ((cP fu) p0 e14.lo p2) λr15=>
 aC (I64 (p1 - (2:Int))) <|
 bG p0.nodes (p1 - (2:Int)) λe17=>
 aD ((cP fu) p0 e17.hi r15) λr18=>
 aC ((r18++([p1]:List Int)).length≤1000000000) <|
 some (r18++([p1]:List Int))
def gW (p0:Diagram) (p1:Int) (p2:(List Int)):Option ((List Int)):=cP aF p0 p1 p2
def iT (p0:Diagram):Option Bool:=
 if (p0.nodes.length:Int)=(0:Int) then
 some ((decide (p0.root=(0:Int)))||(decide (p0.root=(1:Int))))
 else
 aD (
 if (20000:Int) < (p0.nodes.length:Int) then
 some true
 else
 aC (I64 ((p0.nodes.length:Int)+(1:Int))) <|
 some (!(decide (p0.root=((p0.nodes.length:Int)+(1:Int)))))) λx3=>
 if x3=true then
 some false
 else
 cO (
 bC (λx10=>
 if x10 < (p0.nodes.length:Int) then
 cO (
 bG p0.nodes x10 λe14=>
 if ((decide (e14.var < (0:Int)))||((decide ((63:Int) < e14.var))||(decide (e14.lo=e14.hi))))=true then
 aI (
 aI (
 aI (
 some false)))
 else
 cO (
 bC (λx23=>
 if x23 < (([e14.lo,e14.hi]:List Int).length:Int) then
 bG ([e14.lo,e14.hi]:List Int) x23 λe26=>
 aD (
 if e26 < (0:Int) then
 some true
 else
 aC (I64 (x10+(2:Int))) <|
 if (x10+(2:Int))≤e26 then
 some true
 else
 if (1:Int) < e26 then
 aC (I64 (e26 - (2:Int))) <|
 bG p0.nodes (e26 - (2:Int)) λe34=>
 some (decide (e34.var≤e14.var))
 else
 some false) λx27=>
 if x27=true then
 aI (
 aI (
 aI (
 aI (
 aI (
 some false)))))
 else
 aC (I64 (x23+(1:Int))) <|
 some (.inl (x23+(1:Int)))
 else
 aI (
 some (.inl ()))) (0:Int)) λ_=>
 bC (λx44=>
 if x44 < x10 then
 bG p0.nodes x44 λe47=>
 aC (Node.ok e47∧Node.ok e14) <|
 if e47=e14 then
 aI (
 aI (
 aI (
 aI (
 some false))))
 else
 aC (I64 (x44+(1:Int))) <|
 some (.inl (x44+(1:Int)))
 else
 aI (
 some (.inl ()))) (0:Int)) λ_=>
 aC (I64 (x10+(1:Int))) <|
 some (.inl (x10+(1:Int)))
 else
 aI (
 some (.inl ()))) (0:Int)) λ_=>
 aD (gW p0 p0.root ([]:List Int)) λr59=>
 cO (
 bC (λx62=>
 if x62 < (r59.length:Int) then
 bG r59 x62 λe65=>
 aC (I64 (x62+(2:Int))) <|
 if e65=(x62+(2:Int)) then
 aC (I64 (x62+(1:Int))) <|
 some (.inl (x62+(1:Int)))
 else
 aI (
 aI (
 some false))
 else
 aI (
 some (.inl ()))) (0:Int)) λ_=>
 some (decide ((r59.length:Int)=(p0.nodes.length:Int)))
def iS (p0:Diagram) (p1:(List Bool)):Option Bool:=
 aD (
 bC (λn4=>
 if (1:Int) < n4 then
 aC (I64 (n4 - (2:Int))) <|
 bG p0.nodes (n4 - (2:Int)) λe8=>
 aD (
 if e8.var < (p1.length:Int) then
 bG p1 e8.var λe12=>
 some e12
 else
 some false) λx9=>
 if x9=true then
 some (.inl e8.hi)
 else
 some (.inl e8.lo)
 else
 aI (
 some n4)) p0.root) λn1=>
 some (decide (n1=(1:Int)))
def gR (p0:Diagram) (p1:(List Bool)):Option Bool:=
 aD (dA p0) λr1=>
 if (!(r1))=true then
 some false
 else
 aD (
 bC (λat6=>
 if (1:Int) < at6 then
 aC (I64 (at6 - (2:Int))) <|
 bG p0.nodes (at6 - (2:Int)) λe10=>
 aD (
 if e10.var < (p1.length:Int) then
 bG p1 e10.var λe14=>
 some e14
 else
 some false) λx11=>
 if x11=true then
 some (.inl e10.hi)
 else
 some (.inl e10.lo)
 else
 aI (
 some at6)) p0.root) λat3=>
 some (decide (at3=(1:Int)))
def oR (p0:Diagram) (p1:(List Bool)):Option Bool:=
 aD (
 aD (iT p0) λr3=>
 if r3=true then
 aD (iS p0 p1) λr5=>
 some r5
 else
 some false) λx1=>
 some x1
def cJ (p0:Expr) (p1:Expr):Option Bool:=
 aD (
 aD (fF p0) λr3=>
 if (!(r3))=true then
 some true
 else
 aD (fF p1) λr5=>
 if (!(r5))=true then
 some true
 else
 aD (dM p0 (8:Int)) λr7=>
 if (!(r7))=true then
 some true
 else
 aD (dM p1 (8:Int)) λr9=>
 some (!(r9))) λx1=>
 if x1=true then
 aD (eT) λr11=>
 some r11
 else
 aD (lF p0 (8:Int)) λ(r13,r14)=>
 aD (lF p1 (8:Int)) λ(r16,r17)=>
 aD (
 if r14=(0:Int) then
 if r17=(0:Int) then
 aD (dA r13) λr22=>
 some (!(r22))
 else
 some true
 else
 some true) λx18=>
 if x18=true then
 some false
 else
 cO (
 bC (λ(equal28,n29)=>
 if n29 < (256:Int) then
 cO (
 aD (
 bC (λ(x39,b40)=>
 if x39 < (8:Int) then
 aC (0≤x39) <|
 aC ((b40++([decide ((IntKind.i64.wrap (BitVec.ofInt IntKind.i64.bits (n29.fdiv (2 ^ (min x39.toNat IntKind.i64.bits))) &&& BitVec.ofInt IntKind.i64.bits (1:Int)).toNat)=(1:Int))]:List Bool)).length≤1000000000) <|
 aC (I64 (x39+(1:Int))) <|
 some (.inl ((x39+(1:Int)),(b40++([decide ((IntKind.i64.wrap (BitVec.ofInt IntKind.i64.bits (n29.fdiv (2 ^ (min x39.toNat IntKind.i64.bits))) &&& BitVec.ofInt IntKind.i64.bits (1:Int)).toNat)=(1:Int))]:List Bool))))
 else
 aI (
 some b40)) ((0:Int),([]:List Bool))) λb34=>
 aD (gR r13 b34) λr47=>
 aD (eF p0 b34) λr48=>
 if (!((r47 == r48)))=true then
 aI (
 aI (
 aI (
 some false)))
 else
 if equal28=true then
 aD (eF p0 b34) λr54=>
 aD (eF p1 b34) λr55=>
 some (.inl (r54 == r55))
 else
 some (.inl false)) λequal32=>
 aC (I64 (n29+(1:Int))) <|
 some (.inl (equal32,(n29+(1:Int))))
 else
 aI (
 some (.inl equal28))) (true,(0:Int))) λequal24=>
 aD (
 aD (eE r13 r16) λr60=>
 if ((r60 == equal24))=true then
 aD (eT) λr62=>
 some r62
 else
 some false) λx58=>
 some x58
theorem qK:∀ (fu:Nat) {p0:Expr} {r:Int} (hm:cH fu p0=some r),RetN Try.prog 31 [p0.enc] (.int .i64 r):=by
 intro fu
 induction fu with
 | zero=>
  intro p0 r hm;unfold cH at hm;cases hm
 | succ fu ih=>
  intro p0 r hm;refine .unit (aR qDL Try.func31 Q Try.ntmps31 Q Q (λwX gX=>?_)) Q;unfold cH at hm;refine WN [0] Q Q (RS (dI 0 Q Q Q (SA TK Q (TN (WN [1] Q Q (RS (SA TK Q (TN ?_))))))));refine WN [1,3] Q Q ?_;refine aN hm (λn1=>([(3,.d (.int .i64 n1))]:Fr)) (λn1=>([]:List (Nat×Blk))) [3] [] Q (λz2 hm=>?_) (λn1 hm=>?_)
  ·refine RS (SA TK Q (TN (WN [1,3,4] Q Q (TB (dH hm (λ(n5,i6)=>([(3,.d (.int .i64 n5)),(4,.d (.int .i64 i6))]:Fr)) (λ(n5,i6)=>([]:List (Nat×Blk))) [3,4] [1] [0] Q k0 Q Q Q Q Q (λs z7 hm hz7=>?_))))));obtain⟨n5,i6⟩:=s;refine WN [1,3,4] Q Q (TQ (RS (SA TK Q (SA TK Q (SA TK Q (SX Q Q (cL TK Q Q Q) (SA TK Q (TN (WN [1,3,4,9] Q Q ?_)))))))));refine TC _ Q (λh8=>?_) (λh8=>?_)
   ·replace hm:=JT h8 hm;refine TS (WT (WN [1,3,4] Q Q (TQ (TB (TG ?_)))));iterate 4 (refine SA TK Q ?_)
    refine VE hm λe9 he9 hm=>SX Q Q (nE TK Q Q Q Q he9 (Expr.encR_eq _)) (SA TK Q (BE hm λr10 hr10 hm=>SX Q Q (RN Q Q (SC (.d _) SN) (ih hr10)) (GE hm λg11 hm=>SX Q Q (cB Q Q Q Q g11) (SA TK Q (TN ?_)))));refine WK (WT (WN [1,3,4] Q Q (TG (SA TK Q (GE hm λg12 hm=>SX Q Q (cB Q Q Q Q g12) (SA TK Q (TN ?_)))))));refine WT ?_;exact⟨_,[0],(SJ hm),Q,k0,Q⟩
   replace hm:=JF h8 hm;refine bW (WX (IE hm λv13 hm hz=>?_));rw [hz7 _ hz] at hm;refine WX (WH (WT ?_));exact⟨_,[0],(SJ hm),Q,k0,Q⟩
  refine WN [3] Q Q (RS (SA TK Q (SA TK Q (TN (WN [2] Q Q (TR ?_))))));obtain rfl:=OJ hm;exact EndsS.one _ Q (.d _) (.refl _)
theorem lK {p0:Expr} {r:Int} (hm:fM p0=some r):RetN Try.prog 31 [p0.enc] (.int .i64 r):=qK aF hm
theorem nL {p0:Expr} {r:Bool} (hm:fF p0=some r):RetN Try.prog 9 [p0.enc] (.bool (r)):=by
 refine .unit (aR callB9 Try.func9 Q Try.ntmps9 Q Q (λwX gX=>?_)) Q;unfold fF at hm;refine WN [0] Q Q (RS (dI 0 Q Q Q (SA TK Q (TN (WN [1] Q Q (RS (SA TK Q (BE hm λr1 hr1 hm=>?_))))))));refine SX Q Q (RN Q Q (SC (.d _) SN) (lK hr1)) (SA TK Q (SA TK Q (TN (WN [2] Q Q (TR ?_)))));obtain rfl:=OJ hm;exact EndsS.one _ Q (.d _) (.refl _)
theorem pJ {p0:Int} {r:Expr} (hm:lU p0=some r):RetD Try.prog 32 [.int .i64 p0] (r.enc):=by
 refine .of (mv:=λ_=>false) (aR qDK Try.func32 Q Try.ntmps32 Q Q (λwX gX=>?_));unfold lU at hm;refine WN [0] Q Q (RS (dX 0 Q Q oH Q (gB 0 [none,none,some 3] Q Q (TN (WN [0,2] Q Q (RS (SA TK Q (SX Q Q (bK Q qEL oH Q Q Q Q) ?_))))))));refine qI 4 [none,none,some 3] Q (SA TK Q (TN (WN [2] Q Q (TR ?_))));obtain rfl:=OJ hm;exact EndsS.cellR _ TK Q Q Q Q Q (.d _)
theorem qR:∀ (fu:Nat) {p0:Expr} {p1:Int} {p2:Int} {p3:Int} {r0:Bool} {r1:Int} (hm:bS fu p0 p1 p2 p3=some (r0,r1)),Ret Try.prog 50 [.box 3 [.d (.int .i64 p3)]] (λ_=>false) [.d (.ptr (p0.enc) 0),.d (.int .i64 p1),.d (.int .i64 p2),.mptr 0 0 0 0] (.d (.bool (r0))) [.box 3 [.d (.int .i64 r1)]]:=by
 intro fu
 induction fu with
 | zero=>
  intro p0 p1 p2 p3 r0 r1 hm;unfold bS at hm;cases hm
 | succ fu ih=>
  intro p0 p1 p2 p3 r0 r1 hm;refine iR qDA Try.func50 Q Try.ntmps50 Q Q (λwX gX=>?_);unfold bS at hm;refine WN [0,1,2,3] Q Q (RS (SA TK Q (TN (WN [0,1,2,3] Q Q (TQ ?_)))));refine iH [(17,.d (.bool (((decide ((12:Int) < p2))||(decide (p3=(0:Int)))))))] [17] [0,1,2,3] Q ?_ ?_
  ·refine TG (SA TK Q (SA TK Q (SB TK Q (λq1 hq1=>?_))));cases q1
   ·iterate 5 (refine SA TK Q ?_)
    refine TN (WT ?_);exact⟨[0],Q,(kB Q),cN (bE (bF (by simp [hq1])) Q) Q⟩
   iterate 5 (refine SA TK Q ?_)
   refine TN (WT ?_);exact⟨[0],Q,(kB Q),cN (bE (bF (by simp [hq1])) Q) Q⟩
  refine WN [0,1,2,3,17] Q Q ?_;refine TC _ Q (λh2=>?_) (λh2=>?_)
  ·replace hm:=JA h2 hm;refine RS (SA TK Q (TN (WN [8] Q Q (TR (WR ?_)))));obtain⟨rfl,rfl⟩:=Prod.mk.inj (Option.some.inj hm);exact⟨_,[0],res Q,by decide,(kB Q),Q,Q⟩
  replace hm:=JB h2 hm;refine TS (WT (WN [0,1,2,3] Q Q (RS (SA TK Q (SA TK Q (SA TK Q (GE hm λg3 hm=>SX Q Q (cB Q Q Q Q g3) (SA TK Q (SA TK Q (TN ?_))))))))));refine WN [0,1,2,3] Q Q ?_;refine cV hm (λ_=>([]:Fr)) (λ_=>([]:List (Nat×Blk))) [] [0,1,2,3] Q (λz4 hm hz4=>?_) (λj hm=>?_)
  ·refine RS ?_;iterate 4 (refine SA TK Q ?_)
   refine TN (WN [0,1,2,3,26] Q Q (TB ?_));refine aN hm (λx5=>([(27,.d (.bool (x5)))]:Fr)) (λx5=>([]:List (Nat×Blk))) [27] [0,1,2,3,26] Q (λz6 hm=>?_) (λx5 hm=>?_)
   ·refine RS (SA TK Q (SA TK Q (TN (WN [0,1,2,3,26,27] Q Q ?_))));refine TC _ Q (λh7=>?_) (λh7=>?_)
    ·replace hm:=JT h7 hm;refine TS (WT ?_);exact⟨_,[0],(SJ hm),Q,(kB Q),Q⟩
    replace hm:=JF h7 hm;refine TG (SA TK Q (SA TK Q (TN (WT ?_))));exact⟨_,[0],(SJ hm),Q,(kB Q),Q⟩
   refine WN [0,1,2,3,26,27] Q Q ?_;refine TC _ Q (λh8=>?_) (λh8=>?_)
   ·replace hm:=JA h8 hm;refine iH [(8,.d (.bool (((decide (p0.var=(0:Int)))&&(decide ((p0.args.length:Int)=(0:Int)))))))] [8] [] Q ?_ ?_
    ·refine TG ?_;iterate 5 (refine SA TK Q ?_)
     refine SB TK Q (λq9 hq9=>?_);cases q9
     ·iterate 8 (refine SA TK Q ?_)
      refine TN (WT ?_);exact⟨[0],Q,(kB Q),cN (bE (bF (by simp [hq9])) Q) Q⟩
     iterate 4 (refine SA TK Q ?_)
     refine SX Q Q (cL TK Q Q Q) (SA TK Q (SA TK Q (SA TK Q (TN (WT ?_)))));exact⟨[0],Q,(kB Q),cN (bE (bF (by simp [hq9])) Q) Q⟩
    refine WN [8] Q Q (TR (WB (IE hm λv10 hm hz=>?_)));rw [hz4 _ hz] at hm;refine WR ?_;obtain⟨rfl,rfl⟩:=Prod.mk.inj (Option.some.inj hm);exact⟨_,[0],res Q,by decide,(kB Q),Q,Q⟩
   replace hm:=JB h8 hm;refine RS (SA TK Q (SA TK Q (TN (WN [0,1,2,3,26,43] Q Q ?_))));refine TC _ Q (λh11=>?_) (λh11=>?_)
   ·replace hm:=JT h11 hm;refine iH [(8,.d (.bool (((decide ((0:Int)≤p0.var))&&((decide (p0.var < p1))&&(decide ((p0.args.length:Int)=(0:Int))))))))] [8] [] Q ?_ ?_
    ·refine TG ?_;iterate 5 (refine SA TK Q ?_)
     refine SB TK Q (λq12 hq12=>?_);cases q12
     ·iterate 16 (refine SA TK Q ?_)
      refine TN (WT ?_);exact⟨[0],Q,(kB Q),cN (bE (bF (by simp [hq12])) Q) Q⟩
     iterate 7 (refine SA TK Q ?_)
     refine SB TK Q (λq13 hq13=>?_);cases q13
     ·iterate 8 (refine SA TK Q ?_)
      refine TN (WT ?_);exact⟨[0],Q,(kB Q),cN (bE (bF (by simp [hq12,hq13])) Q) Q⟩
     iterate 4 (refine SA TK Q ?_)
     refine SX Q Q (cL TK Q Q Q) (SA TK Q (SA TK Q (SA TK Q (TN (WT ?_)))));exact⟨[0],Q,(kB Q),cN (bE (bF (by simp [hq12,hq13])) Q) Q⟩
    refine WN [8] Q Q (TR (WB (IE hm λv14 hm hz=>?_)));rw [hz4 _ hz] at hm;refine WR ?_;obtain⟨rfl,rfl⟩:=Prod.mk.inj (Option.some.inj hm);exact⟨_,[0],res Q,by decide,(kB Q),Q,Q⟩
   replace hm:=JF h11 hm;refine RS (SA TK Q (SA TK Q (TN (WN [0,1,2,3,26,66] Q Q ?_))));refine TC _ Q (λh15=>?_) (λh15=>?_)
   ·replace hm:=JT h15 hm;refine RS ?_;iterate 4 (refine SA TK Q ?_)
    refine SX Q Q (cL TK Q Q Q) (SA TK Q (TN (WN [0,1,2,3,73] Q Q ?_)));refine TC _ Q (λh16=>?_) (λh16=>?_)
    ·replace hm:=gG h16 hm;refine RS (SA TK Q (TN (WN [8] Q Q (TR (WB (IE hm λv17 hm hz=>?_))))));rw [hz4 _ hz] at hm;refine WR ?_;obtain⟨rfl,rfl⟩:=Prod.mk.inj (Option.some.inj hm);exact⟨_,[0],res Q,by decide,(kB Q),Q,Q⟩
    replace hm:=gH h16 hm;refine TS (WK (WT ?_));exact⟨_,[0],(SJ hm),Q,(kB Q),Q⟩
   replace hm:=JF h15 hm;refine TQ (RS (SA TK Q (SA TK Q (TN (WN [0,1,2,3,26,74] Q Q ?_)))));refine TC _ Q (λh18=>?_) (λh18=>?_)
   ·replace hm:=JT h18 hm;refine TS (WT (WN [0,1,2,3,74] Q Q (wQ Q true h18 (TS (WK (WT ?_))))));exact⟨_,[0],(SJ hm),Q,(kB Q),Q⟩
   replace hm:=JF h18 hm;refine TG (SA TK Q (SA TK Q (TN (WT (WN [0,1,2,3,74] Q Q ?_)))));refine TC _ Q (λh19=>?_) (λh19=>?_)
   ·replace hm:=JT h19 hm;refine TS (WK (WT ?_));exact⟨_,[0],(SJ hm),Q,(kB Q),Q⟩
   replace hm:=JF h19 hm;refine RS (SA TK Q (TN (WN [8] Q Q (TR (WB (IE hm λv20 hm hz=>?_))))));rw [hz4 _ hz] at hm;refine WR ?_;obtain⟨rfl,rfl⟩:=Prod.mk.inj (Option.some.inj hm);exact⟨_,[0],res Q,by decide,(kB Q),Q,Q⟩
  refine WN [0,1,2,3] Q Q (TQ (RS ?_));iterate 5 (refine SA TK Q ?_)
  refine TN (WN [0,1,2,3,81] Q Q ?_);refine TC _ Q (λh21=>?_) (λh21=>?_)
  ·replace hm:=gG h21 hm;refine RS (SA TK Q (TN (WN [8] Q Q (TR (WR ?_)))));obtain⟨rfl,rfl⟩:=Prod.mk.inj (Option.some.inj hm);exact⟨_,[0],res Q,by decide,(kB Q),Q,Q⟩
  replace hm:=gH h21 hm;refine TS (WT (WN [0,1,2,3] Q Q ?_));refine cV hm (λc22=>([]:Fr)) (λc22=>([(0,.box 3 [.d (.int .i64 c22)])]:List (Nat×Blk))) [] [] Q (λz23 hm hz23=>?_) (λc22 hm=>?_)
  ·refine RS ?_;iterate 4 (refine SA TK Q ?_)
   refine SX Q Q (cL TK Q Q Q) (SA TK Q (TN (WN [0,1,2,3,86,87] Q Q (TB (dH hm (λ(x27,c28)=>([(87,.d (.int .i64 x27))]:Fr)) (λ(x27,c28)=>([(0,.box 3 [.d (.int .i64 c28)])]:List (Nat×Blk))) [87] [0,1,2,3,86] [0] Q (kB Q) Q Q Q Q Q (λs z29 hm hz29=>?_))))));obtain⟨x27,c28⟩:=s;refine WN [0,1,2,3,86,87] Q Q (RS (SA TK Q (TN (WN [0,1,2,3,86,87,88] Q Q (TQ ?_)))));refine TC _ Q (λh30=>?_) (λh30=>?_)
   ·replace hm:=JT h30 hm;refine TS (WT (WN [0,1,2,3,86,87] Q Q (TQ (TB (RS (SA TK Q (SA TK Q (TN (WN [0,1,2,3,9,86,87] Q Q ?_)))))))));refine RS ?_;iterate 5 (refine SA TK Q ?_)
    refine VE hm λe31 he31 hm=>SX Q Q (nE TK Q Q Q Q he31 (Expr.encR_eq _)) (SA TK Q (SA TK Q (GE hm λg32 hm=>SX Q Q (cB Q Q Q Q g32) (SA TK Q (BE hm λr33 hr33 hm=>?_)))));obtain⟨r34,r35⟩:=r33;refine eN [0] (λ_=>false) Q Q Q (by decide) Q Q Q Q (ih hr33) Q Q Q ?_;refine SA TK Q (TN (WN [0,1,2,3,86,87,101] Q Q ?_));refine TC _ Q (λh36=>?_) (λh36=>?_)
    ·replace hm:=JA h36 hm;refine RS (SA TK Q (TN (WN [8] Q Q (TR (WB (WR (IE hm λv37 hm hz=>?_)))))));rw [hz29 _ hz] at hm;refine WR (WB (IE hm λv38 hm hz=>?_));rw [hz23 _ hz] at hm;refine WR ?_;obtain⟨rfl,rfl⟩:=Prod.mk.inj (Option.some.inj hm);exact⟨_,[0],res Q,by decide,(kB Q),Q,Q⟩
    replace hm:=JB h36 hm;refine TS (WK (WT (WN [0,1,2,3,86,87] Q Q (TG (GE hm λg39 hm=>SX Q Q (cB Q Q Q Q g39) (SA TK Q (TN ?_)))))));refine WT ?_;exact⟨_,[0],(SJ hm),Q,(kB Q),Q⟩
   replace hm:=JF h30 hm;refine bW (WX (IE hm λv40 hm hz=>?_));rw [hz29 _ hz] at hm;refine WX (WH (WT ?_));exact⟨_,[0],(SJ hm),Q,(kB Q),Q⟩
  refine WN [] Q Q (RS (SA TK Q (TN (WN [8] Q Q (TR ?_)))));obtain⟨rfl,rfl⟩:=Prod.mk.inj (Option.some.inj hm);exact⟨_,[0],res Q,by decide,(kB Q),Q,Q⟩
theorem sL {p0:Expr} {p1:Int} {p2:Int} {p3:Int} {r0:Bool} {r1:Int} (hm:kY p0 p1 p2 p3=some (r0,r1)):Ret Try.prog 50 [.box 3 [.d (.int .i64 p3)]] (λ_=>false) [.d (.ptr (p0.enc) 0),.d (.int .i64 p1),.d (.int .i64 p2),.mptr 0 0 0 0] (.d (.bool (r0))) [.box 3 [.d (.int .i64 r1)]]:=qR aF hm
theorem sM {p0:Expr} {p1:Int} {r:Bool} (hm:fS p0 p1=some r):RetN Try.prog 33 [p0.enc,.int .i64 p1] (.bool (r)):=by
 refine .unit (aR qDJ Try.func33 Q Try.ntmps33 Q Q (λwX gX=>?_)) Q;unfold fS at hm;refine WN [0,1] Q Q (RS (dI 0 Q Q Q (SA TK Q (TN (WN [1,2] Q Q (RS (dX 1 Q Q oG Q (SA TK Q ?_))))))));refine TN (WN [1,2,5] Q Q (xQ 0 Q Q Q Q Q (RS (SA TK Q (BE hm λr1 hr1 hm=>?_)))));obtain⟨r2,r3⟩:=r1;refine eN [1] (λ_=>false) Q Q Q (by decide) Q Q Q Q (sL hr1) Q Q Q ?_;refine SA TK Q (TN (WN [4] Q Q (TR ?_)));obtain rfl:=OJ hm;exact EndsS.one _ Q (.d _) (.refl _)
theorem lE {p0:Int} {r:Int} (hm:fV p0=some r):RetN Try.prog 55 [.int .i64 p0] (.int .i64 r):=by
 refine .unit (aR qCW Try.func55 Q Try.ntmps55 Q Q (λwX gX=>?_)) Q;unfold fV at hm;refine WN [0] Q Q (RS (SA TK Q (TN (WN [0] Q Q (TQ (RS (SA TK Q (SA TK Q (TN ?_)))))))));refine WN [0,4] Q Q ?_;refine TC _ Q (λh1=>?_) (λh1=>?_)
 ·replace hm:=JT h1 hm;refine RS (SA TK Q (GE hm λg2 hm=>SX Q Q (cB Q Q Q Q g2) (SA TK Q (TN (WN [2] Q Q (TR (WR ?_)))))));obtain rfl:=OJ hm;exact EndsS.one _ Q (.d _) (.refl _)
 replace hm:=JF h1 hm;refine TS (WT (WN [0] Q Q (RS (SA TK Q (SA TK Q (TN (WN [2] Q Q (TR ?_))))))));obtain rfl:=OJ hm;exact EndsS.one _ Q (.d _) (.refl _)
theorem pZ {p0:Diagram} {r:Diagram} (hm:cX p0=some r):RetD Try.prog 49 [p0.enc] (r.enc):=by
 refine .of (mv:=λ_=>false) (aR qDB Try.func49 Q Try.ntmps49 Q Q (λwX gX=>?_));unfold cX at hm;refine WN [0] Q Q (RS (dI 0 Q Q Q (dX 1 Q Q bN Q (oL (f:=Node.enc) 1 0 2 51 3 Q Q Q (TN (WN [1,2] Q Q (RS (SA TK Q (SA TK Q ?_)))))))));refine BE hm λr1 hr1 hm=>SX Q Q (RN Q Q (SC (.d _) SN) (lE hr1)) (SX Q Q (lM Q gL bN Q Q Q Q) (dX 3 Q Q bN Q (oL (f:=Node.enc) 3 0 4 51 3 Q Q Q (SA TK Q (oL (f:=Node.enc) 3 0 5 51 3 Q Q Q (TN (WN [1,2,3] Q Q ?_)))))));refine aN hm (λb2=>([]:Fr)) (λb2=>([(3,.box 29 [.msl 5 3 0 b2.length,.d (.int .i64 r1)]),(5,.flat 51 3 (b2.map Node.enc))]:List (Nat×Blk))) [] [2,3] Q (λz3 hm=>?_) (λb2 hm=>?_)
 ·refine RS (SA TK Q (SA TK Q (SX Q Q (cL TK Q Q Q) (SA TK Q (TN (WN [2,3,11,12,13] Q Q (TB (dH hm (λ(x7,b8)=>([(13,.d (.int .i64 x7))]:Fr)) (λ(x7,b8)=>([(3,.box 29 [.msl 5 3 0 b8.length,.d (.int .i64 r1)]),(5,.flat 51 3 (b8.map Node.enc))]:List (Nat×Blk))) [13] [2,3,11,12] [0,1,2,3,4,5] Q k0 Q Q Q Q Q (λs z9 hm hz9=>?_)))))))));obtain⟨x7,b8⟩:=s;refine WN [2,3,11,12,13] Q Q (RS (SA TK Q (TN (WN [2,3,11,12,13,14] Q Q (TQ ?_)))));refine TC _ Q (λh10=>?_) (λh10=>?_)
  ·replace hm:=JT h10 hm;refine TS (WT (WN [2,3,11,12,13] Q Q (TQ (TB (RS (VE hm λe11 he11 hm=>SX Q Q (gT TK Q Q Q Q he11) (SA TK Q ?_)))))));refine dX 6 Q Q bI Q (SA TK Q (TN (WN [2,3,5,11,12,13] Q Q (zI (lH follows  (DA [] TK Q (DA [3] TK Q (DA [] TK Q ?_))))))));refine DA [6] TK Q (DA [] TK Q (DA [6] TK Q (BE hm λr12 hr12 hm=>DX [] Q Q (RN Q Q (SC (.d _) SN) (lE hr12)) (DA [] TK Q (DA [6] TK Q (BE hm λr13 hr13 hm=>DX [] Q Q (RN Q Q (SC (.d _) SN) (lE hr13)) ?_))))));refine DX [] Q Q (bK Q tI bI Q Q Q Q) (DX [] Q Q (kH [.tmp 27] TK Q Q bI Q Q Q Q Q) (GE hm λg14 hm=>d_wr [5,7] _ (.msl 7 3 0 (b8++([(⟨e11.var,r12,r13⟩:Node)]:List Node)).length) Q (xA Q) Q (w_appD (f:=Node.enc) (xs:=b8) ([(⟨e11.var,r12,r13⟩:Node)]:List Node) Q Q Q TK Q bI Q Q Q Q Q Q iM g14) (DA [] TK Q ?_)));refine DT ?_ (by kernel_rfl);refine SA TK Q (TN (WK (WT (WN [2,3,11,12,13] Q Q (TG (GE hm λg15 hm=>SX Q Q (cB Q Q Q Q g15) (SA TK Q ?_)))))));refine TN (WT ?_);exact⟨_,[0,1,2,3,4,7],(SJ hm),Q,k0,Q⟩
  replace hm:=JF h10 hm;refine bW (WX (IE hm λv16 hm hz=>?_));rw [hz9 _ hz] at hm;refine WX (WH (WT ?_));exact⟨_,[0,1,2,3,4,5],(SJ hm),Q,k0,Q⟩
 refine WN [2,3] Q Q (RS (SA TK Q (SA TK Q (TN (WN [2] Q Q (TR ?_))))));obtain rfl:=OJ hm;exact EndsS.cellR _ TK Q Q Q Q Q (sV (.cons (fJ Q) Q (.cons (.d _) Q .nil)))
theorem jG {p0:Bool} {r:Diagram} (hm:cY p0=some r):RetD Try.prog 51 [.bool (p0)] (r.enc):=by
 refine .of (mv:=λ_=>false) (aR qCZ Try.func51 Q Try.ntmps51 Q Q (λwX gX=>?_));unfold cY at hm;refine WN [0] Q Q (RS (dX 0 Q Q bN Q (gB 0 [some 3,none] Q Q (TN (WN [0,2] Q Q (TQ (RS (SA TK Q ?_))))))));refine TN (WN [2,3] Q Q ?_);refine TC _ Q (λh1=>?_) (λh1=>?_)
 ·replace hm:=JA h1 hm;refine RS (SX Q Q (bK Q gL bN Q Q Q Q) (qI 4 [some 3,none] Q (SA TK Q (TN (WN [2] Q Q (TR (WR ?_)))))));obtain rfl:=OJ hm;exact EndsS.cellR _ TK Q Q Q Q Q (.d _)
 replace hm:=JB h1 hm;refine TS (WT (WN [2] Q Q (RS (SX Q Q (bK Q gL bN Q Q Q Q) (qI 5 [some 3,none] Q (SA TK Q (TN (WN [2] Q Q ?_))))))));refine TR ?_;obtain rfl:=OJ hm;exact EndsS.cellR _ TK Q Q Q Q Q (.d _)
theorem fT {p0:Diagram} {p1:Int} {r:Int} (hm:cK p0 p1=some r):RetN Try.prog 58 [p0.enc,.int .i64 p1] (.int .i64 r):=by
 refine .unit (aR qCU Try.func58 Q Try.ntmps58 Q Q (λwX gX=>?_)) Q;unfold cK at hm;refine WN [0,1] Q Q (RS (dI 0 Q Q Q (SA TK Q (TN (WN [1,2] Q Q (TQ (RS (SA TK Q (SA TK Q ?_)))))))));refine TN (WN [1,2,6] Q Q ?_);refine TC _ Q (λh1=>?_) (λh1=>?_)
 ·replace hm:=JT h1 hm;refine RS (SA TK Q (TN (WN [4] Q Q (TR (WR ?_)))));obtain rfl:=OJ hm;exact EndsS.one _ Q (.d _) (.refl _)
 replace hm:=JF h1 hm;refine TS (WT (WN [1,2] Q Q (RS (SA TK Q (SA TK Q (SA TK Q (GE hm λg2 hm=>SX Q Q (cB Q Q Q Q g2) (VE hm λe3 he3 hm=>SX Q Q (gT TK Q Q Q Q he3) ?_))))))));refine SA TK Q (SA TK Q (SA TK Q (TN (WN [4] Q Q (TR ?_)))));obtain rfl:=OJ hm;exact EndsS.one _ Q (.d _) (.refl _)
theorem jH {p0:Diagram} {p1:Int} {p2:Int} {r0:Int} {r1:Int} (hm:cZ p0 p1 p2=some (r0,r1)):RetT Try.prog 59 [p0.enc,.int .i64 p1,.int .i64 p2] [.int .i64 r0,.int .i64 r1]:=by
 refine .of (mv:=λ_=>false) (fD qCT Try.func59 Q Try.ntmps59 Q Q (λwX gX=>?_));unfold cZ at hm;refine WN [0,1,2] Q Q (RS (dI 0 Q Q Q (SA TK Q (SA TK Q (TN (WN [1,2,3] Q Q (TQ (RS (SA TK Q (SA TK Q ?_))))))))));refine BE hm λr1 hr1 hm=>SX Q Q (RN Q Q (SC (.d _) (SC (.d _) SN)) (fT hr1)) (SA TK Q (SA TK Q (TN (WN [1,3,13] Q Q ?_))));refine TC _ Q (λh2=>?_) (λh2=>?_)
 ·replace hm:=gG h2 hm;refine RS ?_;iterate 4 (refine SA TK Q ?_)
  refine TN (WN [6,7] Q Q (TR (WR ?_)));obtain⟨rfl,rfl⟩:=Prod.mk.inj (Option.some.inj hm);exact EndsT.two Q (.d _) (.refl _) (.d _) (.refl _)
 replace hm:=gH h2 hm;refine TS (WT (WN [1,3] Q Q (RS (SA TK Q (SA TK Q (SA TK Q (GE hm λg3 hm=>SX Q Q (cB Q Q Q Q g3) (VE hm λe4 he4 hm=>SX Q Q (gT TK Q Q Q Q he4) ?_))))))));refine SA TK Q (dX 1 Q Q bI Q (SA TK Q (TN (WN [8] Q Q (aQ follows  ?_)))));iterate 5 (refine DA [0,1] TK Q ?_)
 refine DT ?_ (by kernel_rfl);refine SA TK Q (TN (WN [6,7] Q Q (TR ?_)));obtain⟨rfl,rfl⟩:=Prod.mk.inj (Option.some.inj hm);exact EndsT.two Q (.d _) (.refl _) (.d _) (.refl _)
theorem eK {p0:Merger} {p1:Node} {r0:Int} {r1:Merger} (hm:aL p0 p1=some (r0,r1)):Ret Try.prog 42 [.box 81 [.d (.sl 3 (p0.a.nodes.map Node.enc)),.d (.int .i64 p0.a.root),.d (.sl 3 (p0.b.nodes.map Node.enc)),.d (.int .i64 p0.b.root),.d (.bool (p0.all)),.mmapN 1 p0.nodes.index.length,.msl 2 3 0 p0.nodes.list.length,.mmap 3,.d (.bool (p0.full))],.map 51 3 (aK Node.enc (D.int .i64) p0.nodes.index),.flat 51 3 (p0.nodes.list.map Node.enc),.map 84 3 (aK Pair.enc (D.int .i64) p0.done)] (λj=>Nat.beq j 1||Nat.beq j 2) [.mptr 0 0 0 5,.d (p1.enc)] (.d (.int .i64 r0)) [.box 81 [.d (.sl 3 (p0.a.nodes.map Node.enc)),.d (.int .i64 p0.a.root),.d (.sl 3 (p0.b.nodes.map Node.enc)),.d (.int .i64 p0.b.root),.d (.bool (p0.all)),.mmapN 1 r1.nodes.index.length,.msl 2 3 0 r1.nodes.list.length,.mmap 3,.d (.bool (p0.full))],.map 51 3 (aK Node.enc (D.int .i64) r1.nodes.index),.flat 51 3 (r1.nodes.list.map Node.enc),.map 84 3 (aK Pair.enc (D.int .i64) p0.done)]:=by
 refine iR xP Try.func42 Q Try.ntmps42 Q Q (λwX gX=>?_);unfold aL at hm;refine uO 0 5 1 Q Q Q (λhn=>?_) ?_
 ·replace hm:=qAF hn hm;refine WN [0,1] Q Q (RS (dI 4 Q Q Q (SA TK Q (TN (WN [0,3] Q Q (TQ (aQ follows  ?_)))))));iterate 5 (refine DA [0,1,2,3,4] TK Q ?_)
  refine GE hm λg1 hm=>DX [0,1,2,3,4] Q Q (sS iN iZ (D.int .i64) p1 (0:Int) Q nK oG Q Q Q g1) ?_;iterate 4 (refine DA [0,1,2,3,4] TK Q ?_)
  refine DT ?_ (by kernel_rfl);refine SA TK Q (TN (WN [0,3,5,6] Q Q (RS (SA TK Q (TN (WN [0,3,5,16] Q Q (TC false Q (λh=>by cases h) (λ_=>TS ?_))))))));refine WT (WN [0,3] Q Q ?_);refine aN hm (λ_=>([]:Fr)) (λ_=>([(0,.box 81 [.d (.sl 3 (p0.a.nodes.map Node.enc)),.d (.int .i64 p0.a.root),.d (.sl 3 (p0.b.nodes.map Node.enc)),.d (.int .i64 p0.b.root),.d (.bool (p0.all)),.mmap 1,.msl 2 3 0 p0.nodes.list.length,.mmap 3,.d (.bool (p0.full))])]:List (Nat×Blk))) [] [0,3] Q (λz2 hm=>?_) (λj hm=>?_)
  ·refine RS ?_;iterate 4 (refine SA TK Q ?_)
   refine SX Q Q (oT Q Try.underlying61 Q Q) (TN (WN [0,3,22] Q Q ?_));refine TC true Q (λ_=>?_) (λh=>by cases h);refine TG (SA TK Q (nG (kf:=Node.enc) (f:=(D.int .i64)) 1 51 3 Q Q (λ_=>Q) Q Q (SA TK Q (SA TK Q (SA TK Q (TN (WT ?_)))))));exact⟨_,[0,1,2,3,4],(SJ hm),Q,(kB Q),Q⟩
  refine WN [0,3] Q Q (aQ follows  ?_);iterate 10 (refine DA [0,1,2,3,4] TK Q ?_)
  refine DT ?_ (by kernel_rfl);refine GE hm λg3 hm=>mK iN iZ (D.int .i64) nK Q Q Q Q g3 (TN (WN [0,3] Q Q (aQ follows  ?_)));iterate 6 (refine DA [0,1,2,3,4] TK Q ?_)
  refine DX [0,1,2,3,4] Q Q (kH [.tmp 42] TK Q Q bI Q Q Q Q Q) ?_;refine oC 0 37 ?_ ?_ Q (by kernel_rfl) (by kernel_rfl) (by kernel_rfl)
  ·refine GE hm λg4 hm=>kJ (f:=Node.enc) ([p1]:List Node) TK Q Q bI Q Q Q Q Q (λ_=>Q) Q iM g4 Q Q (SA TK Q (SA TK Q (SA TK Q (TN (WN [0] Q Q (RS ?_))))));iterate 5 (refine SA TK Q ?_)
   refine GE hm λg5 hm=>SX Q Q (cB Q Q Q Q g5) (SA TK Q (TN (WN [4] Q Q (kQ 0 5 1 (eP ([]:List (Node×Int)) p1 (p0.nodes.list.length:Int)).length Q Q (TR ?_)))));obtain⟨rfl,rfl⟩:=Prod.mk.inj (Option.some.inj hm);exact⟨_,[0,1,2,3],res Q,by decide,(kB Q),Q,Q⟩
  refine GE hm λg6 hm=>kJ (f:=Node.enc) ([p1]:List Node) TK Q Q bI Q Q Q Q Q (λ_=>Q) Q iM g6 Q Q ?_;iterate 4 (refine SA TK Q ?_)
  refine TN (WN [0] Q Q (RS ?_));iterate 5 (refine SA TK Q ?_)
  refine GE hm λg7 hm=>SX Q Q (cB Q Q Q Q g7) (SA TK Q (TN (WN [4] Q Q (kQ 0 5 1 (eP ([]:List (Node×Int)) p1 (p0.nodes.list.length:Int)).length Q Q (TR ?_)))));obtain⟨rfl,rfl⟩:=Prod.mk.inj (Option.some.inj hm);exact⟨_,[0,1,2,3],res Q,by decide,(kB Q),Q,Q⟩
 replace hm:=qEM hm;refine WN [0,1] Q Q (RS (dI 4 Q Q Q (SA TK Q (TN (WN [0,3] Q Q (TQ (aQ follows  ?_)))))));iterate 5 (refine DA [0,1,2,3,4] TK Q ?_)
 refine GE hm λg8 hm=>DX [0,1,2,3,4] Q Q (rP iN iZ (D.int .i64) _ _ (0:Int) Q nK oG Q Q Q Q g8) ?_;iterate 4 (refine DA [0,1,2,3,4] TK Q ?_)
 refine DT ?_ (by kernel_rfl);refine SA TK Q (TN (WN [0,3,5,6] Q Q (RS (SA TK Q (TN (WN [0,3,5,16] Q Q ?_))))));refine TC _ Q (λh9=>?_) (λh9=>?_)
 ·replace hm:=JA h9 hm;refine RS (SA TK Q (SA TK Q (TN (WN [4] Q Q (kQ 0 5 1 p0.nodes.index.length Q Q (TR (WR ?_)))))));obtain⟨rfl,rfl⟩:=Prod.mk.inj (Option.some.inj hm);exact⟨_,[0,1,2,3],res Q,by decide,(kB Q),Q,Q⟩
 replace hm:=JB h9 hm;refine TS (WT (WN [0,3] Q Q ?_));refine aN hm (λ_=>([]:Fr)) (λ_=>([]:List (Nat×Blk))) [] [0,3] Q (λz10 hm=>?_) (λj hm=>?_)
 ·refine RS ?_;iterate 4 (refine SA TK Q ?_)
  refine SX Q Q (oU Q Try.underlying61 Q Q) (TN (WN [0,3,22] Q Q (TC false Q (λh=>by cases h) (λ_=>TS (WT ?_)))));exact⟨_,[0,1,2,3,4],(SJ hm),Q,(kB Q),Q⟩
 refine WN [0,3] Q Q (aQ follows  ?_);iterate 10 (refine DA [0,1,2,3,4] TK Q ?_)
 refine DT ?_ (by kernel_rfl);refine GE hm λg11 hm=>mK iN iZ (D.int .i64) nK Q Q Q Q g11 (TN (WN [0,3] Q Q (aQ follows  ?_)));iterate 6 (refine DA [0,1,2,3,4] TK Q ?_)
 refine DX [0,1,2,3,4] Q Q (kH [.tmp 42] TK Q Q bI Q Q Q Q Q) ?_;refine oC 0 37 ?_ ?_ Q (by kernel_rfl) (by kernel_rfl) (by kernel_rfl)
 ·refine GE hm λg12 hm=>kJ (f:=Node.enc) ([p1]:List Node) TK Q Q bI Q Q Q Q Q (λ_=>Q) Q iM g12 Q Q (SA TK Q (SA TK Q (SA TK Q (TN (WN [0] Q Q (RS ?_))))));iterate 5 (refine SA TK Q ?_)
  refine GE hm λg13 hm=>SX Q Q (cB Q Q Q Q g13) (SA TK Q (TN (WN [4] Q Q (kQ 0 5 1 (eP p0.nodes.index p1 (p0.nodes.list.length:Int)).length Q Q (TR ?_)))));obtain⟨rfl,rfl⟩:=Prod.mk.inj (Option.some.inj hm);exact⟨_,[0,1,2,3],res Q,by decide,(kB Q),Q,Q⟩
 refine GE hm λg14 hm=>kJ (f:=Node.enc) ([p1]:List Node) TK Q Q bI Q Q Q Q Q (λ_=>Q) Q iM g14 Q Q ?_;iterate 4 (refine SA TK Q ?_)
 refine TN (WN [0] Q Q (RS ?_));iterate 5 (refine SA TK Q ?_)
 refine GE hm λg15 hm=>SX Q Q (cB Q Q Q Q g15) (SA TK Q (TN (WN [4] Q Q (kQ 0 5 1 (eP p0.nodes.index p1 (p0.nodes.list.length:Int)).length Q Q (TR ?_)))));obtain⟨rfl,rfl⟩:=Prod.mk.inj (Option.some.inj hm);exact⟨_,[0,1,2,3],res Q,by decide,(kB Q),Q,Q⟩
theorem kF:∀ (fu:Nat) {p0:Merger} {p1:Pair} {r0:Int} {r1:Merger} (hm:aW fu p0 p1=some (r0,r1)),Ret Try.prog 56 [.box 81 [.d (.sl 3 (p0.a.nodes.map Node.enc)),.d (.int .i64 p0.a.root),.d (.sl 3 (p0.b.nodes.map Node.enc)),.d (.int .i64 p0.b.root),.d (.bool (p0.all)),.mmapN 1 p0.nodes.index.length,.msl 2 3 0 p0.nodes.list.length,.mmap 3,.d (.bool (p0.full))],.map 51 3 (aK Node.enc (D.int .i64) p0.nodes.index),.flat 51 3 (p0.nodes.list.map Node.enc),.map 84 3 (aK Pair.enc (D.int .i64) p0.done)] (λj=>Nat.beq j 1||Nat.beq j 2) [.mptr 0 0 0 0,.d (p1.enc)] (.d (.int .i64 r0)) [.box 81 [.d (.sl 3 (p0.a.nodes.map Node.enc)),.d (.int .i64 p0.a.root),.d (.sl 3 (p0.b.nodes.map Node.enc)),.d (.int .i64 p0.b.root),.d (.bool (p0.all)),.mmapN 1 r1.nodes.index.length,.msl 2 3 0 r1.nodes.list.length,.mmap 3,.d (.bool (r1.full))],.map 51 3 (aK Node.enc (D.int .i64) r1.nodes.index),.flat 51 3 (r1.nodes.list.map Node.enc),.map 84 3 (aK Pair.enc (D.int .i64) r1.done)]:=by
 intro fu
 induction fu with
 | zero=>
  intro p0 p1 r0 r1 hm;unfold aW at hm;cases hm
 | succ fu ih=>
  intro p0 p1 r0 r1 hm;refine iR qCV Try.func56 Q Try.ntmps56 Q Q (λwX gX=>?_);unfold aW at hm;refine WN [0,1] Q Q (RS (dI 4 Q Q Q (SA TK Q (TN (WN [0,3] Q Q (TQ (RS ?_)))))));iterate 4 (refine SA TK Q ?_)
  refine TN (WN [0,3,19] Q Q ?_);refine TC _ Q (λh1=>?_) (λh1=>?_)
  ·replace hm:=JA h1 hm;refine RS (SA TK Q (TN (WN [4] Q Q (TR (WR ?_)))));obtain⟨rfl,rfl⟩:=Prod.mk.inj (Option.some.inj hm);exact⟨_,[0,1,2,3],res Q,by decide,(kB Q),Q,Q⟩
  replace hm:=JB h1 hm;refine TS (WT (WN [0,3] Q Q (RS (SA TK Q (SA TK Q (TN (WN [0,3,5,6] Q Q ?_)))))));refine aN hm (λ(decides2,other3)=>([(5,.d (.int .i64 decides2)),(6,.d (.int .i64 other3))]:Fr)) (λ(decides2,other3)=>([]:List (Nat×Blk))) [5,6] [0,3] Q (λz4 hm=>?_) (λj hm=>?_)
  ·refine RS ?_;iterate 5 (refine SA TK Q ?_)
   refine TN (WN [0,3,5,6,24] Q Q ?_);refine TC _ Q (λh5=>?_) (λh5=>?_)
   ·replace hm:=JA h5 hm;refine TG (SA TK Q (SA TK Q (TN (WT ?_))));exact⟨_,[0,1,2,3,4],(SJ hm),Q,(kB Q),Q⟩
   replace hm:=JB h5 hm;refine TS (WT ?_);exact⟨_,[0,1,2,3,4],(SJ hm),Q,(kB Q),Q⟩
  obtain⟨decides2,other3⟩:=j;refine WN [0,3,5,6] Q Q (TQ ?_);refine iH [(34,.d (.bool (((decide (p1.a=decides2))||(decide (p1.b=decides2))))))] [34] [0,3,5,6] Q ?_ ?_
  ·refine TG ?_;iterate 4 (refine SA TK Q ?_)
   refine SB TK Q (λq6 hq6=>?_);cases q6
   ·iterate 5 (refine SA TK Q ?_)
    refine TN (WT ?_);exact⟨[0,1,2,3,4],Q,(kB Q),cN (bE (bF (by simp [hq6])) Q) Q⟩
   iterate 5 (refine SA TK Q ?_)
   refine TN (WT ?_);exact⟨[0,1,2,3,4],Q,(kB Q),cN (bE (bF (by simp [hq6])) Q) Q⟩
  refine WN [0,3,5,6,34] Q Q ?_;refine TC _ Q (λh7=>?_) (λh7=>?_)
  ·replace hm:=JA h7 hm;refine RS (SA TK Q (SA TK Q (TN (WN [4] Q Q (TR (WR ?_))))));obtain⟨rfl,rfl⟩:=Prod.mk.inj (Option.some.inj hm);exact⟨_,[0,1,2,3],res Q,by decide,(kB Q),Q,Q⟩
  replace hm:=JB h7 hm;refine TS (WT (WN [0,3,6] Q Q (TQ ?_)));refine iH [(45,.d (.bool (((decide (p1.a=other3))&&(decide (p1.b=other3))))))] [45] [0,3,6] Q ?_ ?_
  ·refine TG ?_;iterate 4 (refine SA TK Q ?_)
   refine SB TK Q (λq8 hq8=>?_);cases q8
   ·iterate 5 (refine SA TK Q ?_)
    refine TN (WT ?_);exact⟨[0,1,2,3,4],Q,(kB Q),cN (bE (bF (by simp [hq8])) Q) Q⟩
   iterate 5 (refine SA TK Q ?_)
   refine TN (WT ?_);exact⟨[0,1,2,3,4],Q,(kB Q),cN (bE (bF (by simp [hq8])) Q) Q⟩
  refine WN [0,3,6,45] Q Q ?_;refine TC _ Q (λh9=>?_) (λh9=>?_)
  ·replace hm:=JA h9 hm;refine RS (SA TK Q (SA TK Q (TN (WN [4] Q Q (TR (WR ?_))))));obtain⟨rfl,rfl⟩:=Prod.mk.inj (Option.some.inj hm);exact⟨_,[0,1,2,3],res Q,by decide,(kB Q),Q,Q⟩
  replace hm:=JB h9 hm;refine TS (WT (WN [0,3] Q Q (TQ (aQ follows  ?_))));iterate 5 (refine DA [0,1,2,3,4] TK Q ?_)
  refine GE hm λg10 hm=>DX [0,1,2,3,4] Q Q (rP vE vY (D.int .i64) _ _ (0:Int) Q qAH oG Q Q Q Q g10) ?_;iterate 4 (refine DA [0,1,2,3,4] TK Q ?_)
  refine DT ?_ (by kernel_rfl);refine SA TK Q (TN (WN [0,3,7,8] Q Q (RS (SA TK Q (TN (WN [0,3,7,56] Q Q ?_))))));refine TC _ Q (λh11=>?_) (λh11=>?_)
  ·replace hm:=JA h11 hm;refine RS (SA TK Q (SA TK Q (TN (WN [4] Q Q (TR (WR ?_))))));obtain⟨rfl,rfl⟩:=Prod.mk.inj (Option.some.inj hm);exact⟨_,[0,1,2,3],res Q,by decide,(kB Q),Q,Q⟩
  replace hm:=JB h11 hm;refine TS (WT (WN [0,3] Q Q (aQ follows  ?_)));iterate 6 (refine DA [0,1,2,3,4] TK Q ?_)
  refine BE hm λr12 hr12 hm=>DX [0,1,2,3,4] Q Q (RN Q Q (SC (.d _) (SC (.d _) SN)) (fT hr12)) ?_;iterate 6 (refine DA [0,1,2,3,4] TK Q ?_)
  refine BE hm λr13 hr13 hm=>DX [0,1,2,3,4] Q Q (RN Q Q (SC (.d _) (SC (.d _) SN)) (fT hr13)) (DX [0,1,2,3,4] Q Q (rd_min Q Q Q Q) ?_);refine DT ?_ (by kernel_rfl);refine SA TK Q (TN (WN [0,3,9] Q Q (aQ follows  ?_)));iterate 7 (refine DA [0,1,2,3,4] TK Q ?_)
  refine BE hm λr14 hr14 hm=>?_;obtain⟨r15,r16⟩:=r14;refine DX [0,1,2,3,4] Q Q (dU Q Q Q (jH hr14)) ?_;iterate 4 (refine DA [0,1,2,3,4] TK Q ?_)
  refine DT ?_ (by kernel_rfl);refine SA TK Q (TN (WN [0,3,9,10,11] Q Q (aQ follows  ?_)));iterate 7 (refine DA [0,1,2,3,4] TK Q ?_)
  refine BE hm λr17 hr17 hm=>?_;obtain⟨r18,r19⟩:=r17;refine DX [0,1,2,3,4] Q Q (dU Q Q Q (jH hr17)) ?_;iterate 4 (refine DA [0,1,2,3,4] TK Q ?_)
  refine DT ?_ (by kernel_rfl);refine SA TK Q (TN (WN [0,3,9,10,11,12,13] Q Q (RS (SA TK Q (SA TK Q (SA TK Q (SX Q Q (bK Q zX uW Q Q Q Q) (BE hm λr20 hr20 hm=>?_))))))));obtain⟨r21,r22⟩:=r20;refine eN [0,1,2,3] (λj=>Nat.beq j 1||Nat.beq j 2) Q Q Q (by decide) Q Q Q Q (ih hr20) Q Q Q ?_;refine SA TK Q (TN (WN [0,3,9,11,13,14] Q Q ?_));refine aN hm (λ(x23,c24,m25,b26,m27)=>([(14,.d (.int .i64 x23))]:Fr)) (λ(x23,c24,m25,b26,m27)=>([(0,.box 81 [.d (.sl 3 (p0.a.nodes.map Node.enc)),.d (.int .i64 p0.a.root),.d (.sl 3 (p0.b.nodes.map Node.enc)),.d (.int .i64 p0.b.root),.d (.bool (p0.all)),.mmapN 1 m25.length,.msl 2 3 0 b26.length,.mmap 3,.d (.bool (c24))]),(1,.map 51 3 (aK Node.enc (D.int .i64) m25)),(2,.flat 51 3 (b26.map Node.enc)),(3,.map 84 3 (aK Pair.enc (D.int .i64) m27))]:List (Nat×Blk))) [14] [0,3] Q (λz28 hm=>?_) (λj hm=>?_)
  ·refine RS (SA TK Q (SA TK Q (SA TK Q (SX Q Q (bK Q zX uW Q Q Q Q) (BE hm λr29 hr29 hm=>?_)))));obtain⟨r30,r31⟩:=r29;refine eN [0,1,2,3] (λj=>Nat.beq j 1||Nat.beq j 2) Q Q Q (by decide) Q Q Q Q (ih hr29) Q Q Q ?_;refine SA TK Q (TN (WN [0,3,9,14,15] Q Q (RS (SA TK Q (SA TK Q (SA TK Q (TN (WN [0,3,9,14,15,107] Q Q ?_))))))));refine TC _ Q (λh32=>?_) (λh32=>?_)
   ·replace hm:=gG h32 hm;refine TG ?_;iterate 6 (refine SA TK Q ?_)
    refine SX Q Q (bK Q tI bI Q Q Q Q) (BE hm λr33 hr33 hm=>?_);obtain⟨r34,r35⟩:=r33;refine eN [0,1,2,3] (λj=>Nat.beq j 1||Nat.beq j 2) Q Q Q (by decide) Q Q Q Q (eK hr33) Q Q Q ?_;refine GE hm λg36 hm=>SX Q Q (cB Q Q Q Q g36) (SA TK Q (TN (WT ?_)));exact⟨_,[0,1,2,3,4],(SJ hm),Q,(kB Q),Q⟩
   replace hm:=gH h32 hm;refine TS (WT ?_);exact⟨_,[0,1,2,3,4],(SJ hm),Q,(kB Q),Q⟩
  obtain⟨x23,c24,m25,b26,m27⟩:=j;refine WN [0,3,14] Q Q (TQ (RS ?_));iterate 7 (refine SA TK Q ?_)
  refine TN (WN [0,3,14,123] Q Q ?_);refine TC _ Q (λh37=>?_) (λh37=>?_)
  ·replace hm:=JT h37 hm;refine TG ?_;iterate 4 (refine SA TK Q ?_)
   refine TN (WT (WN [0,3,14] Q Q (aQ follows  ?_)));iterate 6 (refine DA [0,1,2,3,4] TK Q ?_)
   refine DT ?_ (by kernel_rfl);refine GE hm λg38 hm=>mK vE vY (D.int .i64) qAH Q Q Q Q g38 (TN (WN [14] Q Q (RS (SA TK Q (SA TK Q (TN (WN [4] Q Q (TR ?_))))))));obtain⟨rfl,rfl⟩:=Prod.mk.inj (Option.some.inj hm);exact⟨_,[0,1,2,3],res Q,by decide,(kB Q),Q,Q⟩
  replace hm:=JF h37 hm;refine TS (WT (WN [0,3,14] Q Q (aQ follows  ?_)));iterate 6 (refine DA [0,1,2,3,4] TK Q ?_)
  refine DT ?_ (by kernel_rfl);refine GE hm λg39 hm=>mK vE vY (D.int .i64) qAH Q Q Q Q g39 (TN (WN [14] Q Q (RS (SA TK Q (SA TK Q (TN (WN [4] Q Q (TR ?_))))))));obtain⟨rfl,rfl⟩:=Prod.mk.inj (Option.some.inj hm);exact⟨_,[0,1,2,3],res Q,by decide,(kB Q),Q,Q⟩
theorem lD {p0:Merger} {p1:Pair} {r0:Int} {r1:Merger} (hm:eL p0 p1=some (r0,r1)):Ret Try.prog 56 [.box 81 [.d (.sl 3 (p0.a.nodes.map Node.enc)),.d (.int .i64 p0.a.root),.d (.sl 3 (p0.b.nodes.map Node.enc)),.d (.int .i64 p0.b.root),.d (.bool (p0.all)),.mmapN 1 p0.nodes.index.length,.msl 2 3 0 p0.nodes.list.length,.mmap 3,.d (.bool (p0.full))],.map 51 3 (aK Node.enc (D.int .i64) p0.nodes.index),.flat 51 3 (p0.nodes.list.map Node.enc),.map 84 3 (aK Pair.enc (D.int .i64) p0.done)] (λj=>Nat.beq j 1||Nat.beq j 2) [.mptr 0 0 0 0,.d (p1.enc)] (.d (.int .i64 r0)) [.box 81 [.d (.sl 3 (p0.a.nodes.map Node.enc)),.d (.int .i64 p0.a.root),.d (.sl 3 (p0.b.nodes.map Node.enc)),.d (.int .i64 p0.b.root),.d (.bool (p0.all)),.mmapN 1 r1.nodes.index.length,.msl 2 3 0 r1.nodes.list.length,.mmap 3,.d (.bool (r1.full))],.map 51 3 (aK Node.enc (D.int .i64) r1.nodes.index),.flat 51 3 (r1.nodes.list.map Node.enc),.map 84 3 (aK Pair.enc (D.int .i64) r1.done)]:=kF aF hm
theorem qV {p0:Diagram} {p1:Diagram} {p2:Bool} {r0:Diagram} {r1:Bool} (hm:dR p0 p1 p2=some (r0,r1)):RetT Try.prog 52 [p0.enc,p1.enc,.bool (p2)] [r0.enc,.bool (r1)]:=by
 refine .of (mv:=λ_=>false) (fD qCY Try.func52 Q Try.ntmps52 Q Q (λwX gX=>?_));unfold dR at hm;refine WN [0,1,2] Q Q (RS (dI 0 Q Q Q (dI 1 Q Q Q (dX 2 Q Q bN Q (gB 2 [some 3,none] Q Q (SA TK Q (TN (WN [2,3,4,6] Q Q ?_))))))));refine RS (SA TK Q (SA TK Q (SA TK Q (xW 84 3 Q (s_eq 13 (.mmap 3) Q Q (SX Q Q (lM Q plc81 yY Q Q Q Q) (dX 4 Q Q yY Q (wU (kf:=Node.enc) (f:=(D.int .i64)) 4 5 5 51 3 Q Q Q (oL (f:=Node.enc) 4 6 6 51 3 Q Q Q (wU (kf:=Pair.enc) (f:=(D.int .i64)) 4 7 7 84 3 Q Q Q ?_))))))))));refine gB 4 [some 3,none,some 3,none,none,none,none,none,none] Q Q (SA TK Q (wU (kf:=Node.enc) (f:=(D.int .i64)) 4 5 8 51 3 Q Q Q (oL (f:=Node.enc) 4 6 9 51 3 Q Q Q (TN (WN [3,4,6,8] Q Q (RS ?_))))));iterate 4 (refine SA TK Q ?_)
 refine SX Q Q (bK Q zX uW Q Q Q Q) (BE hm λr1 hr1 hm=>?_);obtain⟨r2,r3⟩:=r1;refine eN [4,8,9,3] (λj=>Nat.beq j 1||Nat.beq j 2) Q Q Q (by decide) Q Q Q Q (lD hr1) Q Q Q ?_;refine SA TK Q (TN (WN [6,8,9] Q Q (TQ (RS (SA TK Q (SA TK Q (TN (WN [6,8,9,22] Q Q ?_))))))));refine TC _ Q (λh4=>?_) (λh4=>?_)
 ·replace hm:=JA h4 hm;refine RS (SX Q Q (bK Q gL bN Q Q Q Q) (qI 23 [some 3,none] Q (SA TK Q (SA TK Q (TN (WN [6,7] Q Q (TR (WR ?_))))))));obtain⟨rfl,rfl⟩:=Prod.mk.inj (Option.some.inj hm);exact⟨_,.mk _ (.cons (.agg (TK.lay Q) Q Q Q Q) (.cons (.tmp 7) .nil)) Q,(.cons (.d _) (.refl _) (.cons (.d _) (.refl _) .nil))⟩
 replace hm:=JB h4 hm;refine TS (WT (WN [6,8,9] Q Q (RS ?_)));iterate 4 (refine SA TK Q ?_)
 refine SX Q Q (lM Q gL bN Q Q Q Q) (SA TK Q (SA TK Q (TN (WN [6,7] Q Q (TR ?_)))));obtain⟨rfl,rfl⟩:=Prod.mk.inj (Option.some.inj hm);exact⟨_,.mk _ (.cons (.agg (TK.lay Q) Q Q Q Q) (.cons (.tmp 7) .nil)) Q,(.cons (sV (.cons (fJ Q) Q (.cons (.d _) Q .nil))) (.refl _) (.cons (.d _) (.refl _) .nil))⟩
theorem qA:∀ (fu:Nat) {p0:Expr} {r0:Diagram} {r1:Bool} (hm:bL fu p0=some (r0,r1)),RetT Try.prog 34 [p0.enc] [r0.enc,.bool (r1)]:=by
 intro fu
 induction fu with
 | zero=>
  intro p0 r0 r1 hm;unfold bL at hm;cases hm
 | succ fu ih=>
  intro p0 r0 r1 hm;refine .of (mv:=λ_=>false) (fD qDI Try.func34 Q Try.ntmps34 Q Q (λwX gX=>?_));unfold bL at hm;refine WN [0] Q Q (RS (dI 0 Q Q Q (dX 1 Q Q bN Q (gB 1 [some 3,none] Q Q (SA TK Q (TN (WN [1,2] Q Q ?_)))))));refine cV hm (λ_=>([]:Fr)) (λ_=>([]:List (Nat×Blk))) [] [2] Q (λz1 hm hz1=>?_) (λj hm=>?_)
  ·refine RS (SA TK Q (SA TK Q (TN (WN [1,2,13] Q Q (TB (RS (SA TK Q (SA TK Q (TN (WN [1,2,13,14] Q Q ?_))))))))));refine TC _ Q (λh2=>?_) (λh2=>?_)
   ·replace hm:=JT h2 hm;refine RS (SX Q Q (bK Q gL bN Q Q Q Q) (qI 16 [some 3,none] Q (SA TK Q (SA TK Q (TN (WN [2,3] Q Q (TR (WB (IE hm λv3 hm hz=>?_)))))))));rw [hz1 _ hz] at hm;refine WR ?_;obtain⟨rfl,rfl⟩:=Prod.mk.inj (Option.some.inj hm);exact⟨_,.mk _ (.cons (.agg (TK.lay Q) Q Q Q Q) (.cons (.tmp 3) .nil)) Q,(.cons (.d _) (.refl _) (.cons (.d _) (.refl _) .nil))⟩
   replace hm:=JF h2 hm;refine RS (SA TK Q (SA TK Q (TN (WN [1,2,13,17] Q Q ?_))));refine TC _ Q (λh4=>?_) (λh4=>?_)
   ·replace hm:=JT h4 hm;refine RS (SA TK Q (SA TK Q (SX Q Q (bK Q tI bI Q Q Q Q) (SX Q Q (kH [.tmp 21] TK Q Q bI Q Q Q Q Q) (SX Q Q (bK Q gL bN Q Q Q Q) (SA TK Q (SA TK Q (TN (WN [2,3] Q Q (TR ?_))))))))));refine WB (IE hm λv5 hm hz=>?_);rw [hz1 _ hz] at hm;refine WR ?_;obtain⟨rfl,rfl⟩:=Prod.mk.inj (Option.some.inj hm);exact⟨_,.mk _ (.cons (.agg (TK.lay Q) Q Q Q Q) (.cons (.tmp 3) .nil)) Q,(.cons (.d _) (.refl _) (.cons (.d _) (.refl _) .nil))⟩
   replace hm:=JF h4 hm;refine RS (SA TK Q (SA TK Q (TN (WN [1,2,13,24] Q Q ?_))));refine TC _ Q (λh6=>?_) (λh6=>?_)
   ·replace hm:=JT h6 hm;refine RS (SA TK Q (SA TK Q (VE hm λe7 he7 hm=>SX Q Q (nE TK Q Q Q Q he7 (Expr.encR_eq _)) (SA TK Q (BE hm λr8 hr8 hm=>?_)))));obtain⟨r9,r10⟩:=r8;refine SX Q Q (dU Q Q Q (ih hr8)) (SA TK Q (SA TK Q (SA TK Q (dX 2 Q Q bN Q (gB 2 [some 3,none] Q Q (SA TK Q (SA TK Q (TN (WN [2,4,5] Q Q (RS (SA TK Q ?_)))))))))));refine BE hm λr11 hr11 hm=>SX Q Q (RD Q Q Q (pZ hr11)) (SA TK Q (SA TK Q (SA TK Q (TN (WN [2,3] Q Q (TR (WB (IE hm λv12 hm hz=>?_))))))));rw [hz1 _ hz] at hm;refine WR ?_;obtain⟨rfl,rfl⟩:=Prod.mk.inj (Option.some.inj hm);exact⟨_,.mk _ (.cons (.agg (TK.lay Q) Q Q Q Q) (.cons (.tmp 3) .nil)) Q,(.cons (.d _) (.refl _) (.cons (.d _) (.refl _) .nil))⟩
   replace hm:=JF h6 hm;refine aN hm (λx13=>([(37,.d (.bool (x13)))]:Fr)) (λx13=>([]:List (Nat×Blk))) [37] [1,2] Q (λz14 hm=>?_) (λx13 hm=>?_)
   ·refine RS (SA TK Q (SA TK Q (TN (WN [1,2,13,37] Q Q ?_))));refine TC _ Q (λh15=>?_) (λh15=>?_)
    ·replace hm:=JT h15 hm;refine TS (WT ?_);exact⟨_,[0,1],(SJ hm),Q,k0,Q⟩
    replace hm:=JF h15 hm;refine TG (SA TK Q (SA TK Q (TN (WT ?_))));exact⟨_,[0,1],(SJ hm),Q,k0,Q⟩
   refine WN [1,2,37] Q Q ?_;refine TC _ Q (λh16=>?_) (λh16=>?_)
   ·replace hm:=JA h16 hm;refine RS ?_;iterate 4 (refine SA TK Q ?_)
    refine TN (WN [1,2,6] Q Q (RS (SA TK Q (BE hm λr17 hr17 hm=>SX Q Q (RD Q Q Q (jG hr17)) (dX 2 Q Q bN Q (gB 2 [some 3,none] Q Q (SA TK Q ?_)))))));refine TN (WN [1,2,6,7] Q Q ?_);refine cV hm (λ(c18,c19)=>([]:Fr)) (λ(c18,c19)=>([(2,.box 29 [.d (.sl 3 (c18.map Node.enc)),.d (.int .i64 c19)])]:List (Nat×Blk))) [] [2,7] Q (λz20 hm hz20=>?_) (λj hm=>?_)
    ·refine RS (SA TK Q (SA TK Q (SX Q Q (cL TK Q Q Q) (SA TK Q (TN (WN [2,6,7,46,47,48] Q Q (TB (dH hm (λ(x25,c26,c27)=>([(48,.d (.int .i64 x25))]:Fr)) (λ(x25,c26,c27)=>([(2,.box 29 [.d (.sl 3 (c26.map Node.enc)),.d (.int .i64 c27)])]:List (Nat×Blk))) [48] [2,6,7,46,47] [0,1,2] Q k0 Q Q Q Q Q (λs z28 hm hz28=>?_)))))))));obtain⟨x25,c26,c27⟩:=s;refine WN [2,6,7,46,47,48] Q Q (RS (SA TK Q (TN (WN [2,6,7,46,47,48,49] Q Q (TQ ?_)))));refine TC _ Q (λh29=>?_) (λh29=>?_)
     ·replace hm:=JT h29 hm;refine TS (WT (WN [2,6,7,46,47,48] Q Q (TQ (TB (RS (VE hm λe30 he30 hm=>SX Q Q (nE TK Q Q Q Q he30 (Expr.encR_eq _)) (SA TK Q ?_)))))));refine dX 3 Q Q oH Q (gB 3 [none,none,some 3] Q Q (SA TK Q (TN (WN [2,6,7,9,46,47,48] Q Q (RS (SA TK Q (BE hm λr31 hr31 hm=>?_)))))));obtain⟨r32,r33⟩:=r31;refine SX Q Q (dU Q Q Q (ih hr31)) (SA TK Q (SA TK Q (SA TK Q (dX 4 Q Q bN Q (gB 4 [some 3,none] Q Q (SA TK Q (SA TK Q (TN (WN [2,6,7,10,11,46,47,48] Q Q (TQ (RS ?_)))))))))));refine SA TK Q (SA TK Q (TN (WN [2,6,7,10,46,47,48,58] Q Q ?_)));refine TC _ Q (λh34=>?_) (λh34=>?_)
      ·replace hm:=JA h34 hm;refine RS (SX Q Q (bK Q gL bN Q Q Q Q) (qI 59 [some 3,none] Q (SA TK Q (SA TK Q (TN (WN [2,3] Q Q (TR (WR (WB ?_)))))))));refine WR (IE hm λv35 hm hz=>?_);rw [hz28 _ hz] at hm;refine WR (WB (IE hm λv36 hm hz=>?_));rw [hz20 _ hz] at hm;refine WR (WB (IE hm λv37 hm hz=>?_));rw [hz1 _ hz] at hm;refine WR ?_;obtain⟨rfl,rfl⟩:=Prod.mk.inj (Option.some.inj hm);exact⟨_,.mk _ (.cons (.agg (TK.lay Q) Q Q Q Q) (.cons (.tmp 3) .nil)) Q,(.cons (.d _) (.refl _) (.cons (.d _) (.refl _) .nil))⟩
      replace hm:=JB h34 hm;refine TS (WT (WN [2,6,7,10,46,47,48] Q Q (RS (SA TK Q (SA TK Q (SA TK Q (BE hm λr38 hr38 hm=>?_)))))));obtain⟨r39,r40⟩:=r38;refine SX Q Q (dU Q Q Q (qV hr38)) ?_;iterate 5 (refine SA TK Q ?_)
      refine TN (WN [2,6,7,11,46,47,48] Q Q (RS (SA TK Q (SA TK Q (TN (WN [2,6,7,46,47,48,68] Q Q ?_))))));refine TC _ Q (λh41=>?_) (λh41=>?_)
      ·replace hm:=JA h41 hm;refine RS (SX Q Q (bK Q gL bN Q Q Q Q) (qI 69 [some 3,none] Q (SA TK Q (SA TK Q (TN (WN [2,3] Q Q (TR (WB (WR ?_)))))))));refine IE hm λv42 hm hz=>?_;rw [hz28 _ hz] at hm;refine WR (WB (IE hm λv43 hm hz=>?_));rw [hz20 _ hz] at hm;refine WR (WB (IE hm λv44 hm hz=>?_));rw [hz1 _ hz] at hm;refine WR ?_;obtain⟨rfl,rfl⟩:=Prod.mk.inj (Option.some.inj hm);exact⟨_,.mk _ (.cons (.agg (TK.lay Q) Q Q Q Q) (.cons (.tmp 3) .nil)) Q,(.cons (.d _) (.refl _) (.cons (.d _) (.refl _) .nil))⟩
      replace hm:=JB h41 hm;refine TS (WK (WT (WN [2,6,7,46,47,48] Q Q (TG (GE hm λg45 hm=>SX Q Q (cB Q Q Q Q g45) (SA TK Q (TN ?_)))))));refine WT ?_;exact⟨_,[0,1,2],(SJ hm),Q,k0,Q⟩
     replace hm:=JF h29 hm;refine bW (WX (IE hm λv46 hm hz=>?_));rw [hz28 _ hz] at hm;refine WX (WH (WT ?_));exact⟨_,[0,1,2],(SJ hm),Q,k0,Q⟩
    obtain⟨c18,c19⟩:=j;refine WN [2,7] Q Q (RS (SA TK Q (SA TK Q (SA TK Q (TN (WN [2,3] Q Q (TR (WB (IE hm λv47 hm hz=>?_)))))))));rw [hz1 _ hz] at hm;refine WR ?_;obtain⟨rfl,rfl⟩:=Prod.mk.inj (Option.some.inj hm);exact⟨_,.mk _ (.cons (.agg (TK.lay Q) Q Q Q Q) (.cons (.tmp 3) .nil)) Q,(.cons (.d _) (.refl _) (.cons (.d _) (.refl _) .nil))⟩
   replace hm:=JB h16 hm;refine TS (WK (WT ?_));exact⟨_,[0,1],(SJ hm),Q,k0,Q⟩
  refine WN [2] Q Q (RS (BE hm λr48 hr48 hm=>SX Q Q (RD Q Q Q (jG hr48)) (SA TK Q (SA TK Q (TN (WN [2,3] Q Q (TR ?_)))))));obtain⟨rfl,rfl⟩:=Prod.mk.inj (Option.some.inj hm);exact⟨_,.mk _ (.cons (.agg (TK.lay Q) Q Q Q Q) (.cons (.tmp 3) .nil)) Q,(.cons (.d _) (.refl _) (.cons (.d _) (.refl _) .nil))⟩
theorem qU {p0:Expr} {r0:Diagram} {r1:Bool} (hm:gE p0=some (r0,r1)):RetT Try.prog 34 [p0.enc] [r0.enc,.bool (r1)]:=qA aF hm
theorem qB {p0:Expr} {p1:Int} {r0:Diagram} {r1:Int} (hm:lF p0 p1=some (r0,r1)):RetT Try.prog 11 [p0.enc,.int .i64 p1] [r0.enc,.int .i64 r1]:=by
 refine .of (mv:=λ_=>false) (fD qDT Try.func11 Q Try.ntmps11 Q Q (λwX gX=>?_));unfold lF at hm;refine WN [0,1] Q Q (RS (dI 0 Q Q Q (dX 1 Q Q bN Q (gB 1 [some 3,none] Q Q (SA TK Q (TN (WN [1,2,4] Q Q (TQ ?_))))))));refine RS (SA TK Q (SA TK Q (TN (WN [1,2,4,9] Q Q ?_))));refine TC _ Q (λh1=>?_) (λh1=>?_)
 ·replace hm:=JT h1 hm;refine RS (SX Q Q (bK Q gL bN Q Q Q Q) (qI 10 [some 3,none] Q (SA TK Q (SA TK Q (TN (WN [4,5] Q Q (TR (WR ?_))))))));obtain⟨rfl,rfl⟩:=Prod.mk.inj (Option.some.inj hm);exact⟨_,.mk _ (.cons (.agg (TK.lay Q) Q Q Q Q) (.cons (.tmp 5) .nil)) Q,(.cons (.d _) (.refl _) (.cons (.d _) (.refl _) .nil))⟩
 replace hm:=JF h1 hm;refine TS (WT (WN [1,2,4] Q Q (TQ ?_)));refine aN hm (λx2=>([(18,.d (.bool (x2)))]:Fr)) (λx2=>([]:List (Nat×Blk))) [18] [2,4] Q (λz3 hm=>?_) (λx2 hm=>?_)
 ·refine TG (SA TK Q (SA TK Q (SB TK Q (λq4 hq4=>?_))));cases q4
  ·replace hm:=JF hq4 hm;refine SA TK Q (SA TK Q (BE hm λr5 hr5 hm=>SX Q Q (RN Q Q (SC (.d _) (SC (.d _) SN)) (sM hr5)) (SA TK Q (SA TK Q (TN (WT ?_))))));exact⟨_,[0,1],(SJ hm),Q,k0,Q⟩
  replace hm:=JT hq4 hm;iterate 5 (refine SA TK Q ?_)
  refine TN (WT ?_);exact⟨_,[0,1],(SJ hm),Q,k0,Q⟩
 refine WN [2,4,18] Q Q ?_;refine TC _ Q (λh6=>?_) (λh6=>?_)
 ·replace hm:=JA h6 hm;refine RS (SX Q Q (bK Q gL bN Q Q Q Q) (qI 19 [some 3,none] Q (SA TK Q (SA TK Q (TN (WN [4,5] Q Q (TR (WR ?_))))))));obtain⟨rfl,rfl⟩:=Prod.mk.inj (Option.some.inj hm);exact⟨_,.mk _ (.cons (.agg (TK.lay Q) Q Q Q Q) (.cons (.tmp 5) .nil)) Q,(.cons (.d _) (.refl _) (.cons (.d _) (.refl _) .nil))⟩
 replace hm:=JB h6 hm;refine TS (WT (WN [2,4] Q Q (RS (SA TK Q (BE hm λr7 hr7 hm=>?_)))));obtain⟨r8,r9⟩:=r7;refine SX Q Q (dU Q Q Q (qU hr7)) (SA TK Q (SA TK Q (SA TK Q (dX 2 Q Q bN Q (gB 2 [some 3,none] Q Q (SA TK Q (SA TK Q (TN (WN [4,6,7] Q Q (TQ (RS ?_)))))))))));refine SA TK Q (SA TK Q (TN (WN [4,6,26] Q Q ?_)));refine TC _ Q (λh10=>?_) (λh10=>?_)
 ·replace hm:=JA h10 hm;refine RS (SX Q Q (bK Q gL bN Q Q Q Q) (qI 27 [some 3,none] Q (SA TK Q (SA TK Q (TN (WN [4,5] Q Q (TR (WR ?_))))))));obtain⟨rfl,rfl⟩:=Prod.mk.inj (Option.some.inj hm);exact⟨_,.mk _ (.cons (.agg (TK.lay Q) Q Q Q Q) (.cons (.tmp 5) .nil)) Q,(.cons (.d _) (.refl _) (.cons (.d _) (.refl _) .nil))⟩
 replace hm:=JB h10 hm;refine TS (WT (WN [4,6] Q Q (RS (SA TK Q (SA TK Q (SA TK Q (TN (WN [4,5] Q Q (TR ?_)))))))));obtain⟨rfl,rfl⟩:=Prod.mk.inj (Option.some.inj hm);exact⟨_,.mk _ (.cons (.agg (TK.lay Q) Q Q Q Q) (.cons (.tmp 5) .nil)) Q,(.cons (.d _) (.refl _) (.cons (.d _) (.refl _) .nil))⟩
theorem nO {p0:Diagram} {p1:Int} {p2:Int} {r:Bool} (hm:dS p0 p1 p2=some r):RetN Try.prog 41 [p0.enc,.int .i64 p1,.int .i64 p2] (.bool (r)):=by
 refine .unit (aR qDF Try.func41 Q Try.ntmps41 Q Q (λwX gX=>?_)) Q;unfold dS at hm;refine WN [0,1,2] Q Q (RS (dI 0 Q Q Q (SA TK Q (TN (WN [1,2,3] Q Q (TQ ?_))))));refine iH [(12,.d (.bool (((decide (p2=(0:Int)))||(decide (p2=(1:Int)))))))] [12] [1,2,3] Q ?_ ?_
 ·refine TG (SA TK Q (SA TK Q (SB TK Q (λq1 hq1=>?_))));cases q1
  ·refine SA TK Q (SA TK Q (SA TK Q (TN (WT ?_))));exact⟨[0],Q,k0,cN (bE (bF (by simp [hq1])) Q) Q⟩
  refine SA TK Q (SA TK Q (SA TK Q (TN (WT ?_))));exact⟨[0],Q,k0,cN (bE (bF (by simp [hq1])) Q) Q⟩
 refine WN [1,2,3,12] Q Q ?_;refine TC _ Q (λh2=>?_) (λh2=>?_)
 ·replace hm:=JA h2 hm;refine RS (SA TK Q (TN (WN [6] Q Q (TR (WR ?_)))));obtain rfl:=OJ hm;exact EndsS.one _ Q (.d _) (.refl _)
 replace hm:=JB h2 hm;refine TS (WT (WN [1,2,3] Q Q ?_));refine aN hm (λx3=>([(6,.d (.bool (x3)))]:Fr)) (λx3=>([]:List (Nat×Blk))) [6] [] Q (λz4 hm=>?_) (λx3 hm=>?_)
 ·refine lH follows  ?_;iterate 2 (refine DA [0] TK Q ?_)
  refine d_b [0] TK Q (λq5 hq5=>?_);cases q5
  ·replace hm:=JF hq5 hm;iterate 21 (refine DA [0] TK Q ?_)
   refine DT ?_ (by kernel_rfl);refine SA TK Q (TN (WT ?_));exact⟨_,[0],(SJ hm),Q,k0,Q⟩
  replace hm:=JT hq5 hm;iterate 2 (refine DA [0] TK Q ?_)
  refine GE hm λg6 hm=>DX [0] Q Q (cB Q Q Q Q g6) ?_;iterate 2 (refine DA [0] TK Q ?_)
  refine d_b [0] TK Q (λq7 hq7=>?_);cases q7
  ·replace hm:=JF hq7 hm;iterate 15 (refine DA [0] TK Q ?_)
   refine DT ?_ (by kernel_rfl);refine SA TK Q (TN (WT ?_));exact⟨_,[0],(SJ hm),Q,k0,Q⟩
  replace hm:=JT hq7 hm;iterate 3 (refine DA [0] TK Q ?_)
  refine GE hm λg8 hm=>DX [0] Q Q (cB Q Q Q Q g8) (VE hm λe9 he9 hm=>DX [0] Q Q (gT TK Q Q Q Q he9) ?_);iterate 5 (refine DA [0] TK Q ?_)
  refine VE hm λe10 he10 hm=>DX [0] Q Q (gT TK Q Q Q Q he10) ?_;iterate 4 (refine DA [0] TK Q ?_)
  refine DT ?_ (by kernel_rfl);refine SA TK Q (TN (WT ?_));exact⟨_,[0],(SJ hm),Q,k0,Q⟩
 refine WN [6] Q Q (TR ?_);obtain rfl:=OJ hm;exact EndsS.one _ Q (.d _) (.refl _)
theorem mD:∀ (fu:Nat) {p0:Int} {p1:(List Bool)} {p2:Diagram} {p4:Int} {r0:Bool} {r1:(List Bool)} {r2:Int} (hm:bD fu p0 p1 p2 p4=some (r0,r1,r2)),Ret Try.prog 54 [.box 36 [.msl 1 1 0 p1.length],.flat 4 1 (p1.map D.bool),.box 3 [.d (.int .i64 p4)],.box 78 [.fnc 54 [.mptr 0 0 0 0,.d (.ptr (p2.enc) 0),.mptr 3 0 0 0,.mptr 2 0 0 0]]] (λ_=>false) [.d (.int .i64 p0),.mptr 0 0 0 0,.d (.ptr (p2.enc) 0),.mptr 3 0 0 0,.mptr 2 0 0 0] (.d (.bool (r0))) [.box 36 [.msl 1 1 0 r1.length],.flat 4 1 (r1.map D.bool),.box 3 [.d (.int .i64 r2)],.box 78 [.fnc 54 [.mptr 0 0 0 0,.d (.ptr (p2.enc) 0),.mptr 3 0 0 0,.mptr 2 0 0 0]]]:=by
 intro fu
 induction fu with
 | zero=>
  intro p0 p1 p2 p4 r0 r1 r2 hm;unfold bD at hm;cases hm
 | succ fu ih=>
  intro p0 p1 p2 p4 r0 r1 r2 hm;refine iR qCX Try.func54 Q Try.ntmps54 Q Q (λwX gX=>?_);unfold bD at hm;refine WN [0,1,2,3,4] Q Q (RS (SA TK Q (TN (WN [0,1,2,3,4] Q Q (TQ ?_)))));refine aN hm (λx1=>([(15,.d (.bool (x1)))]:Fr)) (λx1=>([]:List (Nat×Blk))) [15] [0,1,2,3,4] Q (λz2 hm=>?_) (λx1 hm=>?_)
  ·refine TG (SA TK Q (SA TK Q (SB TK Q (λq3 hq3=>?_))));cases q3
   ·replace hm:=JF hq3 hm;refine SA TK Q (SA TK Q (VE hm λe4 he4 hm=>SX Q Q (qX TK Q Q Q Q he4 Q) (SX Q Q (wO TK Q Q Q Q he4.2 Q) (SA TK Q (TN (WT ?_))))));exact⟨_,[0,1,2,3],(SJ hm),Q,(kB Q),Q⟩
   replace hm:=JT hq3 hm;iterate 5 (refine SA TK Q ?_)
   refine TN (WT ?_);exact⟨_,[0,1,2,3],(SJ hm),Q,(kB Q),Q⟩
  refine WN [0,1,2,3,4,15] Q Q ?_;refine TC _ Q (λh5=>?_) (λh5=>?_)
  ·replace hm:=JA h5 hm;refine RS (SA TK Q (TN (WN [6] Q Q (TR (WR ?_)))));obtain⟨rfl,hmj0⟩:=Prod.mk.inj (Option.some.inj hm);obtain⟨rfl,rfl⟩:=Prod.mk.inj (hmj0);exact⟨_,[0,1,2,3],res Q,by decide,(kB Q),Q,Q⟩
  replace hm:=JB h5 hm;refine TS (WT (WN [0,1,2,3,4] Q Q (RS (SA TK Q (SA TK Q (VE hm λe6 he6 hm=>SX Q Q (qX TK Q Q Q Q he6 Q) (qEJ (x':=true) TK Q Q Q Q Q he6.2 Q Q Q (zQ 16 (p1.set p0.toNat true).length Q List.length_set.symm ?_))))))));refine s_eqB 0 [.msl 1 1 0 (p1.set p0.toNat true).length] Q (by simp only [List.length_set]) ?_;refine TN (WN [0,2,3,4] Q Q (RS (SA TK Q (SA TK Q (SA TK Q (GE hm λg7 hm=>SX Q Q (cB Q Q Q Q g7) (VE hm λe8 he8 hm=>SX Q Q (gT TK Q Q Q Q he8) (SA TK Q ?_))))))));refine dX 4 Q Q bI Q (SA TK Q (TN (WN [0,3,4,7] Q Q (TQ ?_))));refine aN hm (λ(x9,b10,c11)=>([(41,.d (.bool (x9)))]:Fr)) (λ(x9,b10,c11)=>([(0,.box 36 [.msl 1 1 0 b10.length]),(1,.flat 4 1 (b10.map D.bool)),(2,.box 3 [.d (.int .i64 c11)])]:List (Nat×Blk))) [41] [4] Q (λz12 hm=>?_) (λj hm=>?_)
  ·refine TG (SA TK Q (SA TK Q (SA TK Q (BE hm λr13 hr13 hm=>?_))));obtain⟨r14,r15,r16⟩:=r13;refine eN [0,1,2,3] (λ_=>false) Q Q Q (by decide) Q Q Q Q (ih hr13) Q Q Q ?_;refine SA TK Q (SB TK Q (λq17 hq17=>?_));cases q17
   ·replace hm:=JB hq17 hm;refine SA TK Q (SA TK Q (SA TK Q (BE hm λr18 hr18 hm=>?_)));obtain⟨r19,r20,r21⟩:=r18;refine s_on Q ?_;refine eN [0,1,2,3] (λ_=>false) Q Q Q (by decide) Q Q Q Q (ih hr18) Q Q Q ?_;refine SA TK Q (SA TK Q (SB TK Q (λq22 hq22=>?_)));cases q22
    ·replace hm:=JB hq22 hm;iterate 4 (refine SA TK Q ?_)
     refine TN (WT ?_);exact⟨_,[0,1,2,3,4],(SJ hm),Q,(kB Q),Q⟩
    replace hm:=JA hq22 hm;iterate 4 (refine SA TK Q ?_)
    refine TN (WT ?_);exact⟨_,[0,1,2,3,4],(SJ hm),Q,(kB Q),Q⟩
   replace hm:=JA hq17 hm;iterate 11 (refine SA TK Q ?_)
   refine TN (WT ?_);exact⟨_,[0,1,2,3,4],(SJ hm),Q,(kB Q),Q⟩
  obtain⟨x9,b10,c11⟩:=j;refine WN [4,41] Q Q ?_;refine TC _ Q (λh23=>?_) (λh23=>?_)
  ·replace hm:=JA h23 hm;refine RS (SA TK Q (TN (WN [6] Q Q (TR (WR ?_)))));obtain⟨rfl,hmj0⟩:=Prod.mk.inj (Option.some.inj hm);obtain⟨rfl,rfl⟩:=Prod.mk.inj (hmj0);exact⟨_,[0,1,2,3],res Q,by decide,(kB Q),Q,Q⟩
  replace hm:=JB h23 hm;refine TS (WT (WN [4] Q Q (RS (SA TK Q (GE hm λg24 hm=>SX Q Q (cB Q Q Q Q g24) (SA TK Q (TN ?_)))))));refine WN [] Q Q (RS (SA TK Q (TN (WN [6] Q Q (TR ?_)))));obtain⟨rfl,hmj0⟩:=Prod.mk.inj (Option.some.inj hm);obtain⟨rfl,rfl⟩:=Prod.mk.inj (hmj0);exact⟨_,[0,1,2,3],res Q,by decide,(kB Q),Q,Q⟩
theorem nA {p0:Int} {p1:(List Bool)} {p2:Diagram} {p4:Int} {r0:Bool} {r1:(List Bool)} {r2:Int} (hm:fU p0 p1 p2 p4=some (r0,r1,r2)):Ret Try.prog 54 [.box 36 [.msl 1 1 0 p1.length],.flat 4 1 (p1.map D.bool),.box 3 [.d (.int .i64 p4)],.box 78 [.fnc 54 [.mptr 0 0 0 0,.d (.ptr (p2.enc) 0),.mptr 3 0 0 0,.mptr 2 0 0 0]]] (λ_=>false) [.d (.int .i64 p0),.mptr 0 0 0 0,.d (.ptr (p2.enc) 0),.mptr 3 0 0 0,.mptr 2 0 0 0] (.d (.bool (r0))) [.box 36 [.msl 1 1 0 r1.length],.flat 4 1 (r1.map D.bool),.box 3 [.d (.int .i64 r2)],.box 78 [.fnc 54 [.mptr 0 0 0 0,.d (.ptr (p2.enc) 0),.mptr 3 0 0 0,.mptr 2 0 0 0]]]:=mD aF hm
theorem qT {p0:Diagram} {r:Bool} (hm:eV p0=some r):RetN Try.prog 43 [p0.enc] (.bool (r)):=by
 refine .unit (aR qDE Try.func43 Q Try.ntmps43 Q Q (λwX gX=>?_)) Q;unfold eV at hm;refine WN [0] Q Q (RS (dI 0 Q Q Q (SA TK Q (TN (WN [1] Q Q (RS (SA TK Q (SA TK Q (SX Q Q (cL TK Q Q Q) ?_)))))))));refine GE hm λg1 hm=>SX Q Q (cB Q Q Q Q g1) (GE hm λg2 hm=>qEK (f:=D.bool) (x:=false) 1 TK Q Q Q sR Q Q Q Q Q g2 Q (dX 2 Q Q zero36 Q (oL (f:=D.bool) 2 0 3 4 1 Q Q Q (SA TK Q (TN (WN [1,3] Q Q ?_))))));refine RS (dX 4 Q Q oG Q (SA TK Q (TN (WN [1,3,4] Q Q (RS (dX 5 Q Q zero78 Q (TN (WN [1,3,4,5] Q Q ?_))))))));refine xQ 0 Q Q Q Q Q (RS (SX Q Q (tB Q) (SA TK Q (TN (WN [1,4,5] Q Q ?_)))));refine aN hm (λ(x3,b4,c5)=>([(2,.d (.bool (x3)))]:Fr)) (λ(x3,b4,c5)=>([(1,.flat 4 1 (b4.map D.bool)),(2,.box 36 [.msl 1 1 0 b4.length]),(4,.box 3 [.d (.int .i64 c5)])]:List (Nat×Blk))) [2] [] Q (λz6 hm=>?_) (λj hm=>?_)
 ·refine TG (SA TK Q (SA TK Q (SA TK Q (BE hm λr7 hr7 hm=>?_))));obtain⟨r8,r9,r10⟩:=r7;refine eN [2,1,4,5] (λ_=>false) Q Q Q (by decide) Q Q Q Q (nA hr7) Q Q Q ?_;refine SB TK Q (λq11 hq11=>?_);cases q11
  ·replace hm:=JB hq11 hm;iterate 8 (refine SA TK Q ?_)
   refine TN (WT ?_);exact⟨_,[0,1,2,3,4,5],(SJ hm),Q,k0,Q⟩
  replace hm:=JA hq11 hm;refine SA TK Q (SA TK Q (SA TK Q (SX Q Q (cL TK Q Q Q) (GE hm λg12 hm=>SX Q Q (cB Q Q Q Q g12) (SA TK Q (SA TK Q (SA TK Q (TN (WT ?_)))))))));exact⟨_,[0,1,2,3,4,5],(SJ hm),Q,k0,Q⟩
 obtain⟨x3,b4,c5⟩:=j;refine WN [2] Q Q (TR ?_);obtain rfl:=OJ hm;exact EndsS.one _ Q (.d _) (.refl _)
theorem eC {p0:Node'} {p1:Node} {r0:Int} {r1:Node'} (hm:aP p0 p1=some (r0,r1)):Ret Try.prog 42 [.box 63 [.mmapN 1 p0.index.length,.msl 2 3 0 p0.list.length],.map 51 3 (aK Node.enc (D.int .i64) p0.index),.flat 51 3 (p0.list.map Node.enc)] (λj=>Nat.beq j 1||Nat.beq j 2) [.mptr 0 0 0 0,.d (p1.enc)] (.d (.int .i64 r0)) [.box 63 [.mmapN 1 r1.index.length,.msl 2 3 0 r1.list.length],.map 51 3 (aK Node.enc (D.int .i64) r1.index),.flat 51 3 (r1.list.map Node.enc)]:=by
 refine iR xP Try.func42 Q Try.ntmps42 Q Q (λwX gX=>?_);unfold aP at hm;refine uO 0 0 1 Q Q Q (λhn=>?_) ?_
 ·replace hm:=qAF hn hm;refine WN [0,1] Q Q (RS (dI 3 Q Q Q (SA TK Q (TN (WN [0,3] Q Q (TQ (aQ follows  ?_)))))));iterate 5 (refine DA [0,1,2,3] TK Q ?_)
  refine GE hm λg1 hm=>DX [0,1,2,3] Q Q (sS iN iZ (D.int .i64) p1 (0:Int) Q nK oG Q Q Q g1) ?_;iterate 4 (refine DA [0,1,2,3] TK Q ?_)
  refine DT ?_ (by kernel_rfl);refine SA TK Q (TN (WN [0,3,5,6] Q Q (RS (SA TK Q (TN (WN [0,3,5,16] Q Q (TC false Q (λh=>by cases h) (λ_=>TS ?_))))))));refine WT (WN [0,3] Q Q ?_);refine aN hm (λ_=>([]:Fr)) (λ_=>([(0,.box 63 [.mmap 1,.msl 2 3 0 p0.list.length])]:List (Nat×Blk))) [] [0,3] Q (λz2 hm=>?_) (λj hm=>?_)
  ·refine RS ?_;iterate 4 (refine SA TK Q ?_)
   refine SX Q Q (oT Q Try.underlying61 Q Q) (TN (WN [0,3,22] Q Q ?_));refine TC true Q (λ_=>?_) (λh=>by cases h);refine TG (SA TK Q (nG (kf:=Node.enc) (f:=(D.int .i64)) 1 51 3 Q Q (λ_=>Q) Q Q (SA TK Q (SA TK Q (SA TK Q (TN (WT ?_)))))));exact⟨_,[0,1,2,3],(SJ hm),Q,(kB Q),Q⟩
  refine WN [0,3] Q Q (aQ follows  ?_);iterate 10 (refine DA [0,1,2,3] TK Q ?_)
  refine DT ?_ (by kernel_rfl);refine GE hm λg3 hm=>mK iN iZ (D.int .i64) nK Q Q Q Q g3 (TN (WN [0,3] Q Q (aQ follows  ?_)));iterate 6 (refine DA [0,1,2,3] TK Q ?_)
  refine DX [0,1,2,3] Q Q (kH [.tmp 42] TK Q Q bI Q Q Q Q Q) ?_;refine oC 0 37 ?_ ?_ Q (by kernel_rfl) (by kernel_rfl) (by kernel_rfl)
  ·refine GE hm λg4 hm=>kJ (f:=Node.enc) ([p1]:List Node) TK Q Q bI Q Q Q Q Q (λ_=>Q) Q iM g4 Q Q (SA TK Q (SA TK Q (SA TK Q (TN (WN [0] Q Q (RS ?_))))));iterate 5 (refine SA TK Q ?_)
   refine GE hm λg5 hm=>SX Q Q (cB Q Q Q Q g5) (SA TK Q (TN (WN [4] Q Q (kQ 0 0 1 (eP ([]:List (Node×Int)) p1 (p0.list.length:Int)).length Q Q (TR ?_)))));obtain⟨rfl,rfl⟩:=Prod.mk.inj (Option.some.inj hm);exact⟨_,[0,1,2],res Q,by decide,(kB Q),Q,Q⟩
  refine GE hm λg6 hm=>kJ (f:=Node.enc) ([p1]:List Node) TK Q Q bI Q Q Q Q Q (λ_=>Q) Q iM g6 Q Q ?_;iterate 4 (refine SA TK Q ?_)
  refine TN (WN [0] Q Q (RS ?_));iterate 5 (refine SA TK Q ?_)
  refine GE hm λg7 hm=>SX Q Q (cB Q Q Q Q g7) (SA TK Q (TN (WN [4] Q Q (kQ 0 0 1 (eP ([]:List (Node×Int)) p1 (p0.list.length:Int)).length Q Q (TR ?_)))));obtain⟨rfl,rfl⟩:=Prod.mk.inj (Option.some.inj hm);exact⟨_,[0,1,2],res Q,by decide,(kB Q),Q,Q⟩
 replace hm:=qEM hm;refine WN [0,1] Q Q (RS (dI 3 Q Q Q (SA TK Q (TN (WN [0,3] Q Q (TQ (aQ follows  ?_)))))));iterate 5 (refine DA [0,1,2,3] TK Q ?_)
 refine GE hm λg8 hm=>DX [0,1,2,3] Q Q (rP iN iZ (D.int .i64) _ _ (0:Int) Q nK oG Q Q Q Q g8) ?_;iterate 4 (refine DA [0,1,2,3] TK Q ?_)
 refine DT ?_ (by kernel_rfl);refine SA TK Q (TN (WN [0,3,5,6] Q Q (RS (SA TK Q (TN (WN [0,3,5,16] Q Q ?_))))));refine TC _ Q (λh9=>?_) (λh9=>?_)
 ·replace hm:=JA h9 hm;refine RS (SA TK Q (SA TK Q (TN (WN [4] Q Q (kQ 0 0 1 p0.index.length Q Q (TR (WR ?_)))))));obtain⟨rfl,rfl⟩:=Prod.mk.inj (Option.some.inj hm);exact⟨_,[0,1,2],res Q,by decide,(kB Q),Q,Q⟩
 replace hm:=JB h9 hm;refine TS (WT (WN [0,3] Q Q ?_));refine aN hm (λ_=>([]:Fr)) (λ_=>([]:List (Nat×Blk))) [] [0,3] Q (λz10 hm=>?_) (λj hm=>?_)
 ·refine RS ?_;iterate 4 (refine SA TK Q ?_)
  refine SX Q Q (oU Q Try.underlying61 Q Q) (TN (WN [0,3,22] Q Q (TC false Q (λh=>by cases h) (λ_=>TS (WT ?_)))));exact⟨_,[0,1,2,3],(SJ hm),Q,(kB Q),Q⟩
 refine WN [0,3] Q Q (aQ follows  ?_);iterate 10 (refine DA [0,1,2,3] TK Q ?_)
 refine DT ?_ (by kernel_rfl);refine GE hm λg11 hm=>mK iN iZ (D.int .i64) nK Q Q Q Q g11 (TN (WN [0,3] Q Q (aQ follows  ?_)));iterate 6 (refine DA [0,1,2,3] TK Q ?_)
 refine DX [0,1,2,3] Q Q (kH [.tmp 42] TK Q Q bI Q Q Q Q Q) ?_;refine oC 0 37 ?_ ?_ Q (by kernel_rfl) (by kernel_rfl) (by kernel_rfl)
 ·refine GE hm λg12 hm=>kJ (f:=Node.enc) ([p1]:List Node) TK Q Q bI Q Q Q Q Q (λ_=>Q) Q iM g12 Q Q (SA TK Q (SA TK Q (SA TK Q (TN (WN [0] Q Q (RS ?_))))));iterate 5 (refine SA TK Q ?_)
  refine GE hm λg13 hm=>SX Q Q (cB Q Q Q Q g13) (SA TK Q (TN (WN [4] Q Q (kQ 0 0 1 (eP p0.index p1 (p0.list.length:Int)).length Q Q (TR ?_)))));obtain⟨rfl,rfl⟩:=Prod.mk.inj (Option.some.inj hm);exact⟨_,[0,1,2],res Q,by decide,(kB Q),Q,Q⟩
 refine GE hm λg14 hm=>kJ (f:=Node.enc) ([p1]:List Node) TK Q Q bI Q Q Q Q Q (λ_=>Q) Q iM g14 Q Q ?_;iterate 4 (refine SA TK Q ?_)
 refine TN (WN [0] Q Q (RS ?_));iterate 5 (refine SA TK Q ?_)
 refine GE hm λg15 hm=>SX Q Q (cB Q Q Q Q g15) (SA TK Q (TN (WN [4] Q Q (kQ 0 0 1 (eP p0.index p1 (p0.list.length:Int)).length Q Q (TR ?_)))));obtain⟨rfl,rfl⟩:=Prod.mk.inj (Option.some.inj hm);exact⟨_,[0,1,2],res Q,by decide,(kB Q),Q,Q⟩
theorem eW {p0:Diagram} {r:Bool} (hm:dA p0=some r):RetN Try.prog 19 [p0.enc] (.bool (r)):=by
 refine .unit (aR qDP Try.func19 Q Try.ntmps19 Q Q (λwX gX=>?_)) Q;unfold dA at hm;refine WN [0] Q Q (RS (dI 0 Q Q Q (SA TK Q (TN (WN [1] Q Q (TQ (RS (SA TK Q (SA TK Q ?_)))))))));refine SX Q Q (cL TK Q Q Q) (SA TK Q (TN (WN [1,9] Q Q ?_)));refine TC _ Q (λh1=>?_) (λh1=>?_)
 ·replace hm:=JT h1 hm;refine RS (SA TK Q (TN (WN [2] Q Q (TR (WR ?_)))));obtain rfl:=OJ hm;exact EndsS.one _ Q (.d _) (.refl _)
 replace hm:=JF h1 hm;refine TS (WT (WN [1] Q Q (RS (dX 1 Q Q zero63 Q (wU (kf:=Node.enc) (f:=(D.int .i64)) 1 0 2 51 3 Q Q Q (oL (f:=Node.enc) 1 1 3 51 3 Q Q Q (TN (WN [1,3] Q Q ?_))))))));refine cV hm (λ(m2,b3)=>([]:Fr)) (λ(m2,b3)=>([(1,.box 63 [.mmapN 2 m2.length,.msl 3 3 0 b3.length]),(2,.map 51 3 (aK Node.enc (D.int .i64) m2)),(3,.flat 51 3 (b3.map Node.enc))]:List (Nat×Blk))) [] [1] Q (λz4 hm hz4=>?_) (λj hm=>?_)
 ·refine RS (SA TK Q (SA TK Q (SX Q Q (cL TK Q Q Q) (SA TK Q (TN (WN [1,3,11,12,13] Q Q (TB (dH hm (λ(x9,b10,b11)=>([(13,.d (.int .i64 x9))]:Fr)) (λ(x9,b10,b11)=>([(1,.box 63 [.mmapN 2 b10.length,.msl 3 3 0 b11.length]),(2,.map 51 3 (aK Node.enc (D.int .i64) b10)),(3,.flat 51 3 (b11.map Node.enc))]:List (Nat×Blk))) [13] [1,3,11,12] [0,1,2,3] Q k0 Q Q Q Q Q (λs z12 hm hz12=>?_)))))))));obtain⟨x9,b10,b11⟩:=s;refine WN [1,3,11,12,13] Q Q (RS (SA TK Q (TN (WN [1,3,11,12,13,14] Q Q (TQ ?_)))));refine TC _ Q (λh13=>?_) (λh13=>?_)
  ·replace hm:=JT h13 hm;refine TS (WT (WN [1,3,11,12,13] Q Q (TQ (TB (RS (SA TK Q (VE hm λe14 he14 hm=>SX Q Q (gT TK Q Q Q Q he14) ?_)))))));refine SA TK Q (dX 4 Q Q bI Q (SA TK Q (SA TK Q (TN (WN [1,3,4,5,11,12,13] Q Q (TQ ?_))))));refine aN hm (λx15=>([(48,.d (.bool (x15)))]:Fr)) (λx15=>([]:List (Nat×Blk))) [48] [1,3,4,5,11,12,13] Q (λz16 hm=>?_) (λx15 hm=>?_)
   ·refine TG (SA TK Q (SA TK Q (SA TK Q (SB TK Q (λq17 hq17=>?_)))));cases q17
    ·replace hm:=JF hq17 hm;iterate 4 (refine SA TK Q ?_)
     refine SB TK Q (λq18 hq18=>?_);cases q18
     ·replace hm:=JF hq18 hm;iterate 6 (refine SA TK Q ?_)
      refine SB TK Q (λq19 hq19=>?_);cases q19
      ·replace hm:=JF hq19 hm;iterate 4 (refine SA TK Q ?_)
       refine BE hm λr20 hr20 hm=>SX Q Q (RN Q Q (SC (.d _) (SC (.d _) (SC (.d _) SN))) (nO hr20)) (SA TK Q (SA TK Q (SB TK Q (λq21 hq21=>?_))));cases q21
       ·replace hm:=JB hq21 hm;iterate 4 (refine SA TK Q ?_)
        refine BE hm λr22 hr22 hm=>SX Q Q (RN Q Q (SC (.d _) (SC (.d _) (SC (.d _) SN))) (nO hr22)) (SA TK Q (SA TK Q (TN (WT ?_))));exact⟨_,[0,1,2,3,4],(SJ hm),Q,k0,Q⟩
       replace hm:=JA hq21 hm;iterate 7 (refine SA TK Q ?_)
       refine TN (WT ?_);exact⟨_,[0,1,2,3,4],(SJ hm),Q,k0,Q⟩
      replace hm:=JT hq19 hm;iterate 15 (refine SA TK Q ?_)
      refine TN (WT ?_);exact⟨_,[0,1,2,3,4],(SJ hm),Q,k0,Q⟩
     replace hm:=JT hq18 hm;iterate 22 (refine SA TK Q ?_)
     refine TN (WT ?_);exact⟨_,[0,1,2,3,4],(SJ hm),Q,k0,Q⟩
    replace hm:=JT hq17 hm;iterate 27 (refine SA TK Q ?_)
    refine TN (WT ?_);exact⟨_,[0,1,2,3,4],(SJ hm),Q,k0,Q⟩
   refine WN [1,3,4,5,11,12,13,48] Q Q ?_;refine TC _ Q (λh23=>?_) (λh23=>?_)
   ·replace hm:=JA h23 hm;refine RS (SA TK Q (TN (WN [2] Q Q (TR (WR (WB (WR (IE hm λv24 hm hz=>?_))))))));rw [hz12 _ hz] at hm;refine WR (WB (IE hm λv25 hm hz=>?_));rw [hz4 _ hz] at hm;refine WR ?_;obtain rfl:=OJ hm;exact EndsS.one _ Q (.d _) (.refl _)
   replace hm:=JB h23 hm;refine TS (WT (WN [1,3,4,5,11,12,13] Q Q (RS (SA TK Q (BE hm λr26 hr26 hm=>?_)))));obtain⟨r27,r28⟩:=r26;refine eN [1,2,3] (λj=>Nat.beq j 1||Nat.beq j 2) Q Q Q (by decide) Q Q Q Q (eC hr26) Q Q Q ?_;refine SA TK Q (SA TK Q (TN (WN [1,3,11,12,13,52] Q Q ?_)));refine TC _ Q (λh29=>?_) (λh29=>?_)
   ·replace hm:=gG h29 hm;refine RS (SA TK Q (TN (WN [2] Q Q (TR (WB (WR (IE hm λv30 hm hz=>?_)))))));rw [hz12 _ hz] at hm;refine WR (WB (IE hm λv31 hm hz=>?_));rw [hz4 _ hz] at hm;refine WR ?_;obtain rfl:=OJ hm;exact EndsS.one _ Q (.d _) (.refl _)
   replace hm:=gH h29 hm;refine TS (WK (WT (WN [1,3,11,12,13] Q Q (TG (GE hm λg32 hm=>SX Q Q (cB Q Q Q Q g32) (SA TK Q (TN ?_)))))));refine WT ?_;exact⟨_,[0,1,2,3],(SJ hm),Q,k0,Q⟩
  replace hm:=JF h13 hm;refine bW (WX (IE hm λv33 hm hz=>?_));rw [hz12 _ hz] at hm;refine WX (WH (WT ?_));exact⟨_,[0,1,2,3],(SJ hm),Q,k0,Q⟩
 obtain⟨m2,b3⟩:=j;refine WN [1] Q Q (TQ (RS (SA TK Q (SA TK Q (SX Q Q (cL TK Q Q Q) (SA TK Q (TN (WN [1,57] Q Q ?_))))))));refine TC _ Q (λh34=>?_) (λh34=>?_)
 ·replace hm:=JT h34 hm;refine iH [(2,.d (.bool (((decide (p0.root=(0:Int)))||(decide (p0.root=(1:Int)))))))] [2] [] Q ?_ ?_
  ·refine TG (SA TK Q (SA TK Q (SA TK Q (SB TK Q (λq35 hq35=>?_)))));cases q35
   ·iterate 5 (refine SA TK Q ?_)
    refine TN (WT ?_);exact⟨[0,1,2,3],Q,k0,cN (bE (bF (by simp [hq35])) Q) Q⟩
   iterate 5 (refine SA TK Q ?_)
   refine TN (WT ?_);exact⟨[0,1,2,3],Q,k0,cN (bE (bF (by simp [hq35])) Q) Q⟩
  refine WN [2] Q Q (TR (WR ?_));obtain rfl:=OJ hm;exact EndsS.one _ Q (.d _) (.refl _)
 replace hm:=JF h34 hm;refine TS (WT (WN [1] Q Q ?_));refine aN hm (λx36=>([(2,.d (.bool (x36)))]:Fr)) (λx36=>([]:List (Nat×Blk))) [2] [] Q (λz37 hm=>?_) (λx36 hm=>?_)
 ·refine TG ?_;iterate 4 (refine SA TK Q ?_)
  refine SX Q Q (cL TK Q Q Q) (GE hm λg38 hm=>SX Q Q (cB Q Q Q Q g38) (SA TK Q (SB TK Q (λq39 hq39=>?_))));cases q39
  ·replace hm:=JF hq39 hm;iterate 4 (refine SA TK Q ?_)
   refine TN (WT ?_);exact⟨_,[0,1,2,3],(SJ hm),Q,k0,Q⟩
  replace hm:=JT hq39 hm;refine SA TK Q (BE hm λr40 hr40 hm=>SX Q Q (RN Q Q (SC (.d _) SN) (qT hr40)) (SA TK Q (SA TK Q (TN (WT ?_)))));exact⟨_,[0,1,2,3],(SJ hm),Q,k0,Q⟩
 refine WN [2] Q Q (TR ?_);obtain rfl:=OJ hm;exact EndsS.one _ Q (.d _) (.refl _)
theorem nP {p0:Diagram} {p1:Int} {r:Bool} (hm:jY p0 p1=some r):RetN Try.prog 38 [p0.enc,.int .i64 p1] (.bool (r)):=by
 refine .unit (aR qDH Try.func38 Q Try.ntmps38 Q Q (λwX gX=>?_)) Q;unfold jY at hm;refine WN [0,1] Q Q (RS (dI 0 Q Q Q (SA TK Q (TN (WN [1,2] Q Q ?_)))));refine cV hm (λ_=>([]:Fr)) (λ_=>([]:List (Nat×Blk))) [] [] Q (λz1 hm hz1=>?_) (λj hm=>?_)
 ·refine RS (SA TK Q (SA TK Q (SX Q Q (cL TK Q Q Q) (SA TK Q (TN (WN [1,8,9,10] Q Q (TB (dH hm (λx3=>([(10,.d (.int .i64 x3))]:Fr)) (λx3=>([]:List (Nat×Blk))) [10] [1,8,9] [0] Q k0 Q Q Q Q Q (λx3 z4 hm hz4=>WN [1,8,9,10] Q Q ?_)))))))));refine RS (SA TK Q (TN (WN [1,8,9,10,11] Q Q (TQ ?_))));refine TC _ Q (λh5=>?_) (λh5=>?_)
  ·replace hm:=JT h5 hm;refine TS (WT (WN [1,8,9,10] Q Q (TQ (TB (RS (VE hm λe6 he6 hm=>SX Q Q (gT TK Q Q Q Q he6) (SA TK Q ?_)))))));refine dX 1 Q Q bI Q (SA TK Q (TN (WN [1,6,8,9,10] Q Q (RS ?_))));iterate 4 (refine SA TK Q ?_)
   refine TN (WN [1,8,9,10,17] Q Q ?_);refine TC _ Q (λh7=>?_) (λh7=>?_)
   ·replace hm:=JT h7 hm;refine RS (SA TK Q (TN (WN [4] Q Q (TR (WB (WR (IE hm λv8 hm hz=>?_)))))));rw [hz4 _ hz] at hm;refine WR (WB (IE hm λv9 hm hz=>?_));rw [hz1 _ hz] at hm;refine WR ?_;obtain rfl:=OJ hm;exact EndsS.one _ Q (.d _) (.refl _)
   replace hm:=JF h7 hm;refine TS (WK (WT (WN [1,8,9,10] Q Q (TG (GE hm λg10 hm=>SX Q Q (cB Q Q Q Q g10) (SA TK Q (TN ?_)))))));refine WT ?_;exact⟨_,[0],(SJ hm),Q,k0,Q⟩
  replace hm:=JF h5 hm;refine bW (WX (IE hm λv11 hm hz=>?_));rw [hz4 _ hz] at hm;refine WX (WH (WT ?_));exact⟨_,[0],(SJ hm),Q,k0,Q⟩
 refine WN [] Q Q (RS (SA TK Q (TN (WN [4] Q Q (TR ?_)))));obtain rfl:=OJ hm;exact EndsS.one _ Q (.d _) (.refl _)
theorem fW {p0:Int} {p1:Int} {p2:Diagram} {r:Int} (hm:eB p0 p1 p2=some r):RetN Try.prog 40 [.int .i64 p0,.ptr (.agg [.int .i64 p1]) 0,.ptr (p2.enc) 0] (.int .i64 r):=by
 refine .unit (aR qDG Try.func40 Q Try.ntmps40 Q Q (λwX gX=>?_)) Q;unfold eB at hm;refine WN [0,1,2] Q Q (RS (SA TK Q (TN (WN [0,1,2] Q Q (TQ (RS (SA TK Q (SA TK Q (TN ?_)))))))));refine WN [0,1,2,6] Q Q ?_;refine TC _ Q (λh1=>?_) (λh1=>?_)
 ·replace hm:=JT h1 hm;refine RS (SA TK Q (SA TK Q (TN (WN [4] Q Q (TR (WR ?_))))));obtain rfl:=OJ hm;exact EndsS.one _ Q (.d _) (.refl _)
 replace hm:=JF h1 hm;refine TS (WT (WN [0,2] Q Q (RS (SA TK Q (SA TK Q (SA TK Q (GE hm λg2 hm=>SX Q Q (cB Q Q Q Q g2) (VE hm λe3 he3 hm=>SX Q Q (gT TK Q Q Q Q he3) ?_))))))));refine SA TK Q (SA TK Q (SA TK Q (TN (WN [4] Q Q (TR ?_)))));obtain rfl:=OJ hm;exact EndsS.one _ Q (.d _) (.refl _)
theorem uS {p0:Diagram} {p1:Int} {r0:Int} {r1:Int} (hm:nC p0 p1=some (r0,r1)):RetT Try.prog 17 [p0.enc,.int .i64 p1] [.int .u64 r0,.int .i64 r1]:=by
 refine .of (mv:=λ_=>false) (fD qDQ Try.func17 Q Try.ntmps17 Q Q (λwX gX=>?_));unfold nC at hm;refine WN [0,1] Q Q (RS (dI 0 Q Q Q (dI 1 Q Q Q (SA TK Q (SA TK Q (TN (WN [2,3] Q Q (TQ ?_))))))));refine iH [(17,.d (.bool (((decide (p1 < (0:Int)))||(decide ((62:Int) < p1))))))] [17] [2,3] Q ?_ ?_
 ·refine TG (SA TK Q (SA TK Q (SB TK Q (λq1 hq1=>?_))));cases q1
  ·refine SA TK Q (SA TK Q (SA TK Q (TN (WT ?_))));exact⟨[0,1],Q,k0,cN (bE (bF (by simp [hq1])) Q) Q⟩
  refine SA TK Q (SA TK Q (SA TK Q (TN (WT ?_))));exact⟨[0,1],Q,k0,cN (bE (bF (by simp [hq1])) Q) Q⟩
 refine WN [2,3,17] Q Q ?_;refine TC _ Q (λh2=>?_) (λh2=>?_)
 ·replace hm:=JA h2 hm;refine RS (SA TK Q (SA TK Q (TN (WN [4,5] Q Q (TR (WR ?_))))));obtain⟨rfl,rfl⟩:=Prod.mk.inj (Option.some.inj hm);exact EndsT.two Q (.d _) (.refl _) (.d _) (.refl _)
 replace hm:=JB h2 hm;refine TS (WT (WN [2,3] Q Q (TQ ?_)));refine aN hm (λx3=>([(26,.d (.bool (x3)))]:Fr)) (λx3=>([]:List (Nat×Blk))) [26] [2,3] Q (λz4 hm=>?_) (λx3 hm=>?_)
 ·refine TG (SA TK Q (BE hm λr5 hr5 hm=>SX Q Q (RN Q Q (SC (.d _) SN) (eW hr5)) (SA TK Q (SB TK Q (λq6 hq6=>?_)))));cases q6
  ·replace hm:=JB hq6 hm;refine SA TK Q (SA TK Q (BE hm λr7 hr7 hm=>SX Q Q (RN Q Q (SC (.d _) (SC (.d _) SN)) (nP hr7)) (SA TK Q (SA TK Q (TN (WT ?_))))));exact⟨_,[0,1],(SJ hm),Q,k0,Q⟩
  replace hm:=JA hq6 hm;iterate 5 (refine SA TK Q ?_)
  refine TN (WT ?_);exact⟨_,[0,1],(SJ hm),Q,k0,Q⟩
 refine WN [2,3,26] Q Q ?_;refine TC _ Q (λh8=>?_) (λh8=>?_)
 ·replace hm:=JA h8 hm;refine RS (SA TK Q (SA TK Q (TN (WN [4,5] Q Q (TR (WR ?_))))));obtain⟨rfl,rfl⟩:=Prod.mk.inj (Option.some.inj hm);exact EndsT.two Q (.d _) (.refl _) (.d _) (.refl _)
 replace hm:=JB h8 hm;refine TS (WT (WN [2,3] Q Q (RS (zR (f:=(D.int .u64)) 2 [.const (Value.int IntKind.u64 0),.const (Value.int IntKind.u64 1)] ([(0:Int),(1:Int)]:List Int) TK Q Q Q uX Q Q Q Q Q (SA TK Q (TN (WN [2,3,6] Q Q (xQ 1 Q Q Q Q Q ?_))))))));refine xQ 0 Q Q Q Q Q (RS (SA TK Q (SA TK Q (TN (WN [2,6,7] Q Q ?_)))));refine aN hm (λb9=>([(6,.msl 2 1 0 b9.length)]:Fr)) (λb9=>([(2,.flat 39 1 (b9.map (D.int .u64)))]:List (Nat×Blk))) [6] [2,7] Q (λz10 hm=>?_) (λb9 hm=>?_)
 ·refine RS (SA TK Q (SA TK Q (SX Q Q (cL TK Q Q Q) (SA TK Q (TN (WN [2,6,7,30,31,32] Q Q (TB (dH hm (λ(x14,b15)=>([(6,.msl 2 1 0 b15.length),(32,.d (.int .i64 x14))]:Fr)) (λ(x14,b15)=>([(2,.flat 39 1 (b15.map (D.int .u64)))]:List (Nat×Blk))) [6,32] [2,7,30,31] [0,1,2] Q k0 Q Q Q Q Q (λs z16 hm hz16=>?_)))))))));obtain⟨x14,b15⟩:=s;refine WN [2,6,7,30,31,32] Q Q (RS (SA TK Q (TN (WN [2,6,7,30,31,32,33] Q Q (TQ ?_)))));refine TC _ Q (λh17=>?_) (λh17=>?_)
  ·replace hm:=JT h17 hm;refine TS (WT (WN [2,6,7,30,31,32] Q Q (TQ (TB (RS (VE hm λe18 he18 hm=>SX Q Q (gT TK Q Q Q Q he18) (SA TK Q ?_)))))));refine dX 3 Q Q bI Q (SA TK Q (TN (WN [2,6,7,9,30,31,32] Q Q (aQ follows  ?_))));iterate 3 (refine DA [0,1,2,3] TK Q ?_)
   refine VE hm λe19 he19 hm=>DX [0,1,2,3] Q Q (qX TK Q Q Q Q he19 Q) (DX [0,1,2,3] Q Q (wO TK Q Q Q Q he19.2 Q) ?_);iterate 3 (refine DA [0,1,2,3] TK Q ?_)
   refine BE hm λr20 hr20 hm=>DX [0,1,2,3] Q Q (oW (ds:=[.int .i64 e18.lo]) Q Q Q Q ((fW hr20).retD)) ?_;iterate 2 (refine DA [0,1,2,3] TK Q ?_)
   refine GE hm λg21 hm=>DX [0,1,2,3] Q Q (cB Q Q Q Q g21) (GE hm λg22 hm=>DX [0,1,2,3] Q Q (cB Q Q Q Q g22) (GE hm λg23 hm=>DX [0,1,2,3] Q Q (wN Q Q Q Q g23) ?_));refine DT ?_ (by kernel_rfl);refine SA TK Q (TN (WN [2,6,7,9,10,30,31,32] Q Q (aQ follows  ?_)));iterate 3 (refine DA [0,1,2,3] TK Q ?_)
   refine VE hm λe24 he24 hm=>DX [0,1,2,3] Q Q (qX TK Q Q Q Q he24 Q) (DX [0,1,2,3] Q Q (wO TK Q Q Q Q he24.2 Q) ?_);iterate 3 (refine DA [0,1,2,3] TK Q ?_)
   refine BE hm λr25 hr25 hm=>DX [0,1,2,3] Q Q (oW (ds:=[.int .i64 e18.hi]) Q Q Q Q ((fW hr25).retD)) ?_;iterate 2 (refine DA [0,1,2,3] TK Q ?_)
   refine GE hm λg26 hm=>DX [0,1,2,3] Q Q (cB Q Q Q Q g26) (GE hm λg27 hm=>DX [0,1,2,3] Q Q (cB Q Q Q Q g27) (GE hm λg28 hm=>DX [0,1,2,3] Q Q (wN Q Q Q Q g28) ?_));refine DT ?_ (by kernel_rfl);refine SA TK Q (TN (WN [2,6,7,10,11,30,31,32] Q Q (TG (SA TK Q (SA TK Q (SA TK Q (SX Q Q (qEI Q Q Q Q) (SX Q Q (kH [.tmp 67] TK Q Q uX Q Q Q Q Q) (GE hm λg29 hm=>kJ (f:=(D.int .u64)) ([(IntKind.u64.wrap ((IntKind.u64.wrap (e19 * (2 ^ (min ((r20 - e18.var) - (1:Int)).toNat IntKind.u64.bits))))+(IntKind.u64.wrap (e24 * (2 ^ (min ((r25 - e18.var) - (1:Int)).toNat IntKind.u64.bits))))))]:List Int) TK Q Q uX Q Q Q Q Q (λh=>absurd h (zQV _)) Q iM g29 Q Q ?_)))))))));refine SA TK Q (TN (WK (WT (WN [2,6,7,30,31,32] Q Q (TG (GE hm λg30 hm=>SX Q Q (cB Q Q Q Q g30) (SA TK Q ?_)))))));refine TN (WT ?_);exact⟨_,[0,1,2],(SJ hm),Q,k0,Q⟩
  replace hm:=JF h17 hm;refine bW (WX (IE hm λv31 hm hz=>?_));rw [hz16 _ hz] at hm;refine WX (WH (WT ?_));exact⟨_,[0,1,2],(SJ hm),Q,k0,Q⟩
 refine WN [2,6,7] Q Q (aQ follows  ?_);iterate 3 (refine DA [0,1,2] TK Q ?_)
 refine VE hm λe32 he32 hm=>DX [0,1,2] Q Q (qX TK Q Q Q Q he32 Q) (DX [0,1,2] Q Q (wO TK Q Q Q Q he32.2 Q) ?_);iterate 3 (refine DA [0,1,2] TK Q ?_)
 refine BE hm λr33 hr33 hm=>DX [0,1,2] Q Q (oW (ds:=[.int .i64 p0.root]) Q Q Q Q ((fW hr33).retD)) (GE hm λg34 hm=>DX [0,1,2] Q Q (wN Q Q Q Q g34) ?_);refine DT ?_ (by kernel_rfl);refine SA TK Q (SA TK Q (TN (WN [4,5] Q Q (TR ?_))));obtain⟨rfl,rfl⟩:=Prod.mk.inj (Option.some.inj hm);exact EndsT.two Q (.d _) (.refl _) (.d _) (.refl _)
theorem uR {p0:Diagram} {p1:Int} {r0:(List Bool)} {r1:Bool} (hm:nB p0 p1=some (r0,r1)):RetT Try.prog 15 [p0.enc,.int .i64 p1] [.sl 1 (r0.map D.bool),.bool (r1)]:=by
 refine .of (mv:=λ_=>false) (fD qDR Try.func15 Q Try.ntmps15 Q Q (λwX gX=>?_));unfold nB at hm;refine WN [0,1] Q Q (RS (dI 0 Q Q Q (SA TK Q (SA TK Q (TN (WN [1,2] Q Q (TQ ?_)))))));refine aN hm (λx1=>([(30,.d (.bool (x1)))]:Fr)) (λx1=>([]:List (Nat×Blk))) [30] [1,2] Q (λz2 hm=>?_) (λx1 hm=>?_)
 ·refine TG (SA TK Q (SA TK Q (SB TK Q (λq3 hq3=>?_))));cases q3
  ·replace hm:=JF hq3 hm;refine SA TK Q (SA TK Q (SA TK Q (SB TK Q (λq4 hq4=>?_))));cases q4
   ·replace hm:=JF hq4 hm;refine SA TK Q (BE hm λr5 hr5 hm=>SX Q Q (RN Q Q (SC (.d _) SN) (eW hr5)) (SA TK Q (SA TK Q (SB TK Q (λq6 hq6=>?_)))));cases q6
    ·replace hm:=JB hq6 hm;refine SA TK Q (SA TK Q (BE hm λr7 hr7 hm=>SX Q Q (RN Q Q (SC (.d _) (SC (.d _) SN)) (nP hr7)) (SA TK Q (SA TK Q (SB TK Q (λq8 hq8=>?_))))));cases q8
     ·replace hm:=JB hq8 hm;iterate 4 (refine SA TK Q ?_)
      refine TN (WT ?_);exact⟨_,[0],(SJ hm),Q,k0,Q⟩
     replace hm:=JA hq8 hm;iterate 4 (refine SA TK Q ?_)
     refine TN (WT ?_);exact⟨_,[0],(SJ hm),Q,k0,Q⟩
    replace hm:=JA hq6 hm;iterate 10 (refine SA TK Q ?_)
    refine TN (WT ?_);exact⟨_,[0],(SJ hm),Q,k0,Q⟩
   replace hm:=JT hq4 hm;iterate 15 (refine SA TK Q ?_)
   refine TN (WT ?_);exact⟨_,[0],(SJ hm),Q,k0,Q⟩
  replace hm:=JT hq3 hm;iterate 19 (refine SA TK Q ?_)
  refine TN (WT ?_);exact⟨_,[0],(SJ hm),Q,k0,Q⟩
 refine WN [1,2,30] Q Q ?_;refine TC _ Q (λh9=>?_) (λh9=>?_)
 ·replace hm:=JA h9 hm;refine RS (SA TK Q (SA TK Q (TN (c_wk 4 [some 1] Q (WN [4,5] Q Q (TR (WR ?_)))))));obtain⟨rfl,rfl⟩:=Prod.mk.inj (Option.some.inj hm);exact EndsT.two Q (.d _) (.refl _) (.d _) (.refl _)
 replace hm:=JB h9 hm;refine TS (WT (WN [1,2] Q Q (RS (SA TK Q (GE hm λg10 hm=>qEK (f:=D.bool) (x:=false) 1 TK Q Q Q sR Q Q Q Q Q g10 Q (SA TK Q (TN ?_)))))));refine WN [2,6] Q Q (RS (SA TK Q (SA TK Q (SA TK Q (TN (WN [2,6,7] Q Q ?_))))));refine aN hm (λb11=>([(6,.msl 1 1 0 b11.length)]:Fr)) (λb11=>([(1,.flat 4 1 (b11.map D.bool))]:List (Nat×Blk))) [6] [] Q (λz12 hm=>?_) (λb11 hm=>?_)
 ·refine TB (dH hm (λ(at16,b17)=>([(6,.msl 1 1 0 b17.length),(7,.d (.int .i64 at16))]:Fr)) (λ(at16,b17)=>([(1,.flat 4 1 (b17.map D.bool))]:List (Nat×Blk))) [6,7] [2] [0,1] Q k0 Q Q Q Q Q (λs z18 hm hz18=>?_));obtain⟨at16,b17⟩:=s;refine WN [2,6,7] Q Q (TQ (RS (SA TK Q (SA TK Q (TN (WN [2,6,7,36] Q Q ?_))))));refine TC _ Q (λh19=>?_) (λh19=>?_)
  ·replace hm:=JT h19 hm;refine TS (WT (WN [2,6,7] Q Q (TB (RS (SA TK Q (SA TK Q (SA TK Q (GE hm λg20 hm=>SX Q Q (cB Q Q Q Q g20) (VE hm λe21 he21 hm=>?_)))))))));refine SX Q Q (gT TK Q Q Q Q he21) (SA TK Q (dX 2 Q Q bI Q (SA TK Q (TN (WN [2,6,8] Q Q (RS (SA TK Q (SA TK Q (SA TK Q (TN ?_))))))))));refine WN [2,6,8,45] Q Q ?_;refine TC _ Q (λh22=>?_) (λh22=>?_)
   ·replace hm:=gG h22 hm;refine TG (SA TK Q (SA TK Q (SA TK Q (TN (WK (WT ?_))))));exact⟨_,[0,1],(SJ hm),Q,k0,Q⟩
   replace hm:=gH h22 hm;refine RS (SA TK Q (SA TK Q (SA TK Q (VE hm λe23 he23 hm=>SX Q Q (qX TK Q Q Q Q he23 Q) (qEJ (x':=true) TK Q Q Q Q Q he23.2 Q Q Q (zQ 6 (b17.set e21.var.toNat true).length Q List.length_set.symm (zQ 48 (b17.set e21.var.toNat true).length Q List.length_set.symm (TN (WN [2,6,8] Q Q ?_)))))))));refine TG (SA TK Q (SA TK Q (SA TK Q (TN (WK (WT ?_))))));exact⟨_,[0,1],(SJ hm),Q,k0,Q⟩
  replace hm:=JF h19 hm;refine bW (WX (IE hm λv24 hm hz=>?_));rw [hz18 _ hz] at hm;refine WX (WH (WT ?_));exact⟨_,[0,1],(SJ hm),Q,k0,Q⟩
 refine WN [6] Q Q (RS (SA TK Q (SA TK Q (SA TK Q (TN (WN [4,5] Q Q (TR ?_)))))));obtain⟨rfl,rfl⟩:=Prod.mk.inj (Option.some.inj hm);exact EndsT.two Q (fJ Q) (.refl _) (.d _) (.refl _)
theorem lJ {p0:Diagram} {p1:Diagram} {r:Bool} (hm:eE p0 p1=some r):RetN Try.prog 13 [p0.enc,p1.enc] (.bool (r)):=by
 refine .unit (aR qDS Try.func13 Q Try.ntmps13 Q Q (λwX gX=>?_)) Q;unfold eE at hm;refine WN [0,1] Q Q (RS (dI 0 Q Q Q (dI 1 Q Q Q (SA TK Q (TN (WN [2,3] Q Q (TQ ?_)))))));refine iH [(19,.d (.bool (((!(decide ((p0.nodes.length:Int)=(p1.nodes.length:Int))))||(!(decide (p0.root=p1.root)))))))] [19] [2,3] Q ?_ ?_
 ·refine TG (SA TK Q (SA TK Q (SX Q Q (cL TK Q Q Q) (SA TK Q (SA TK Q (SX Q Q (cL TK Q Q Q) (SA TK Q (SB TK Q (λq1 hq1=>?_)))))))));cases q1
  ·iterate 6 (refine SA TK Q ?_)
   refine TN (WT ?_);exact⟨[0,1],Q,k0,cN (bE (bF (by simp [hq1])) Q) Q⟩
  iterate 6 (refine SA TK Q ?_)
  refine TN (WT ?_);exact⟨[0,1],Q,k0,cN (bE (bF (by simp [hq1])) Q) Q⟩
 refine WN [2,3,19] Q Q ?_;refine TC _ Q (λh2=>?_) (λh2=>?_)
 ·replace hm:=JA h2 hm;refine RS (SA TK Q (TN (WN [4] Q Q (TR (WR ?_)))));obtain rfl:=OJ hm;exact EndsS.one _ Q (.d _) (.refl _)
 replace hm:=JB h2 hm;refine TS (WT (WN [2,3] Q Q ?_));refine cV hm (λ_=>([]:Fr)) (λ_=>([]:List (Nat×Blk))) [] [] Q (λz3 hm hz3=>?_) (λj hm=>?_)
 ·refine RS (SA TK Q (SA TK Q (SX Q Q (cL TK Q Q Q) (SA TK Q (TN (WN [2,3,22,23] Q Q (TB (dH hm (λx5=>([(23,.d (.int .i64 x5))]:Fr)) (λx5=>([]:List (Nat×Blk))) [23] [2,3,22] [0,1] Q k0 Q Q Q Q Q (λx5 z6 hm hz6=>WN [2,3,22,23] Q Q ?_)))))))));refine RS (SA TK Q (TN (WN [2,3,22,23,24] Q Q (TQ ?_))));refine TC _ Q (λh7=>?_) (λh7=>?_)
  ·replace hm:=JT h7 hm;refine TS (WT (WN [2,3,22,23] Q Q (TQ (TB (RS (SA TK Q (SA TK Q (TN (WN [2,3,5,22,23] Q Q ?_)))))))));refine aQ follows  ?_;iterate 3 (refine DA [0,1] TK Q ?_)
   refine VE hm λe8 he8 hm=>DX [0,1] Q Q (gT TK Q Q Q Q he8) ?_;iterate 4 (refine DA [0,1] TK Q ?_)
   refine VE hm λe9 he9 hm=>DX [0,1] Q Q (gT TK Q Q Q Q he9) (DA [0,1] TK Q (GE hm λg10 hm=>DX [0,1] Q Q (qEG Q Q Q g10.1 g10.2) ?_));refine DT ?_ (by kernel_rfl);refine TN (WN [2,3,22,23,36] Q Q ?_);refine TC _ Q (λh12=>?_) (λh12=>?_)
   ·replace hm:=gG h12 hm;refine RS (SA TK Q (TN (WN [4] Q Q (TR (WB (WR (IE hm λv13 hm hz=>?_)))))));rw [hz6 _ hz] at hm;refine WR (WB (IE hm λv14 hm hz=>?_));rw [hz3 _ hz] at hm;refine WR ?_;obtain rfl:=OJ hm;exact EndsS.one _ Q (.d _) (.refl _)
   replace hm:=gH h12 hm;refine TS (WK (WT (WN [2,3,22,23] Q Q (TG (GE hm λg15 hm=>SX Q Q (cB Q Q Q Q g15) (SA TK Q (TN ?_)))))));refine WT ?_;exact⟨_,[0,1],(SJ hm),Q,k0,Q⟩
  replace hm:=JF h7 hm;refine bW (WX (IE hm λv16 hm hz=>?_));rw [hz6 _ hz] at hm;refine WX (WH (WT ?_));exact⟨_,[0,1],(SJ hm),Q,k0,Q⟩
 refine WN [] Q Q (RS (SA TK Q (TN (WN [4] Q Q (TR ?_)))));obtain rfl:=OJ hm;exact EndsS.one _ Q (.d _) (.refl _)
theorem kN  {r:Bool} (hm:eT=some r):RetN Try.prog 10 [] (.bool (r)):=by
 refine .unit (aR qDU Try.func10 Q Try.ntmps10 Q Q (λwX gX=>?_)) Q;unfold eT at hm;refine WN [] Q Q (RS (SA TK Q (TN (WN [] Q Q (RS (BE hm λr1 hr1 hm=>SX Q Q (RD Q Q Q (pJ hr1)) (BE hm λr2 hr2 hm=>?_)))))));refine SX Q Q (RD Q Q Q (pJ hr2)) (SX Q Q (x_litE (f:=Expr.encR) (xs:=([r1,r2]:List Expr)) [.tmp 8,.tmp 9] TK Q Q oH Q (evD_of Q (rL (Expr.encR_eq _) (rL (Expr.encR_eq _) qBA))) Q (yH Expr.encR_cells) Q) (SX Q Q (bK Q qEL oH Q Q Q Q) (BE hm λr3 hr3 hm=>?_)));obtain⟨r4,r5⟩:=r3;refine SX Q Q (dU Q Q Q (qB hr3)) (SA TK Q (SA TK Q (SA TK Q (dX 0 Q Q bN Q (gB 0 [some 3,none] Q Q (SA TK Q (SA TK Q (TN (WN [1,2] Q Q (RS (SA TK Q ?_)))))))))));refine BE hm λr6 hr6 hm=>?_;obtain⟨r7,r8⟩:=r6;refine SX Q Q (dU Q Q Q (uS hr6)) ?_;iterate 5 (refine SA TK Q ?_)
 refine TN (WN [1,2,3,4] Q Q (RS (SA TK Q (BE hm λr9 hr9 hm=>?_))));obtain⟨r10,r11⟩:=r9;refine SX Q Q (dU Q Q Q (uR hr9)) ?_;iterate 5 (refine SA TK Q ?_)
 refine TN (WN [1,2,3,4,5,6] Q Q ?_);refine aN hm (λx12=>([(0,.d (.bool (x12)))]:Fr)) (λx12=>([]:List (Nat×Blk))) [0] [] Q (λz13 hm=>?_) (λx12 hm=>?_)
 ·refine TG (SA TK Q (SA TK Q (SB TK Q (λq14 hq14=>?_))));cases q14
  ·replace hm:=JF hq14 hm;iterate 38 (refine SA TK Q ?_)
   refine TN (WT ?_);exact⟨_,[0],(SJ hm),Q,k0,Q⟩
  replace hm:=JT hq14 hm;refine SA TK Q (SA TK Q (SA TK Q (SB TK Q (λq15 hq15=>?_))));cases q15
  ·replace hm:=JF hq15 hm;iterate 34 (refine SA TK Q ?_)
   refine TN (WT ?_);exact⟨_,[0],(SJ hm),Q,k0,Q⟩
  replace hm:=JT hq15 hm;refine SA TK Q (SA TK Q (SA TK Q (SB TK Q (λq16 hq16=>?_))));cases q16
  ·replace hm:=JF hq16 hm;iterate 30 (refine SA TK Q ?_)
   refine TN (WT ?_);exact⟨_,[0],(SJ hm),Q,k0,Q⟩
  replace hm:=JT hq16 hm;refine SA TK Q (SA TK Q (SB TK Q (λq17 hq17=>?_)));cases q17
  ·replace hm:=JB hq17 hm;iterate 27 (refine SA TK Q ?_)
   refine TN (WT ?_);exact⟨_,[0],(SJ hm),Q,k0,Q⟩
  replace hm:=JA hq17 hm;refine SA TK Q (SX Q Q (cL TK Q Q Q) (SA TK Q (SA TK Q (SB TK Q (λq18 hq18=>?_)))));cases q18
  ·replace hm:=JF hq18 hm;iterate 22 (refine SA TK Q ?_)
   refine TN (WT ?_);exact⟨_,[0],(SJ hm),Q,k0,Q⟩
  replace hm:=JT hq18 hm;refine SA TK Q (VE hm λe19 he19 hm=>SX Q Q (gT TK Q Q Q Q he19) (SA TK Q (SA TK Q (SB TK Q (λq20 hq20=>?_)))));cases q20
  ·replace hm:=JB hq20 hm;iterate 17 (refine SA TK Q ?_)
   refine TN (WT ?_);exact⟨_,[0],(SJ hm),Q,k0,Q⟩
  replace hm:=JA hq20 hm;refine SA TK Q (VE hm λe21 he21 hm=>SX Q Q (gT TK Q Q Q Q he21) (SA TK Q (SA TK Q (SB TK Q (λq22 hq22=>?_)))));cases q22
  ·replace hm:=JB hq22 hm;iterate 12 (refine SA TK Q ?_)
   refine TN (WT ?_);exact⟨_,[0],(SJ hm),Q,k0,Q⟩
  replace hm:=JA hq22 hm;refine SA TK Q (SX Q Q (bK Q tI bI Q Q Q Q) (SX Q Q (bK Q tI bI Q Q Q Q) (SX Q Q (kH [.tmp 55,.tmp 56] TK Q Q bI Q Q Q Q Q) (SX Q Q (bK Q gL bN Q Q Q Q) (BE hm λr23 hr23 hm=>SX Q Q (RN Q Q (SC (.d _) (SC (.d _) SN)) (lJ hr23)) (SA TK Q (SB TK Q (λq24 hq24=>?_))))))));cases q24
  ·replace hm:=JB hq24 hm;iterate 4 (refine SA TK Q ?_)
   refine TN (WT ?_);exact⟨_,[0],(SJ hm),Q,k0,Q⟩
  replace hm:=JA hq24 hm;refine SA TK Q (BE hm λr25 hr25 hm=>SX Q Q (RN Q Q (SC (.d _) SN) (eW hr25)) (SA TK Q (SA TK Q (TN (WT ?_)))));exact⟨_,[0],(SJ hm),Q,k0,Q⟩
 refine WN [0] Q Q (TR ?_);obtain rfl:=OJ hm;exact EndsS.one _ Q (.d _) (.refl _)
theorem oS:∀ (fu:Nat) {p0:Expr} {r:Int} (hm:cC fu p0=some r),RetN Try.prog 46 [p0.enc] (.int .i64 r):=by
 intro fu
 induction fu with
 | zero=>
  intro p0 r hm;unfold cC at hm;cases hm
 | succ fu ih=>
  intro p0 r hm;refine .unit (aR qDD Try.func46 Q Try.ntmps46 Q Q (λwX gX=>?_)) Q;unfold cC at hm;refine WN [0] Q Q (RS (dI 0 Q Q Q (SA TK Q (TN (WN [1] Q Q (RS (SA TK Q (TN ?_))))))));refine WN [1,3] Q Q ?_;refine aN hm (λd1=>([(3,.d (.int .i64 d1))]:Fr)) (λd1=>([]:List (Nat×Blk))) [3] [] Q (λz2 hm=>?_) (λd1 hm=>?_)
  ·refine RS (SA TK Q (TN (WN [1,3,4] Q Q (TB (dH hm (λ(d5,i6)=>([(3,.d (.int .i64 d5)),(4,.d (.int .i64 i6))]:Fr)) (λ(d5,i6)=>([]:List (Nat×Blk))) [3,4] [1] [0] Q k0 Q Q Q Q Q (λs z7 hm hz7=>?_))))));obtain⟨d5,i6⟩:=s;refine WN [1,3,4] Q Q (TQ (RS (SA TK Q (SA TK Q (SA TK Q (SX Q Q (cL TK Q Q Q) (SA TK Q (TN (WN [1,3,4,9] Q Q ?_)))))))));refine TC _ Q (λh8=>?_) (λh8=>?_)
   ·replace hm:=JT h8 hm;refine TS (WT (WN [1,3,4] Q Q (TQ (TB (TG ?_)))));iterate 4 (refine SA TK Q ?_)
    refine VE hm λe9 he9 hm=>SX Q Q (nE TK Q Q Q Q he9 (Expr.encR_eq _)) (SA TK Q (BE hm λr10 hr10 hm=>SX Q Q (RN Q Q (SC (.d _) SN) (ih hr10)) (SX Q Q (rd_max Q Q Q Q) (SA TK Q (TN (WK ?_))))));refine WT (WN [1,3,4] Q Q (TG (SA TK Q (GE hm λg11 hm=>SX Q Q (cB Q Q Q Q g11) (SA TK Q (TN (WT ?_)))))));exact⟨_,[0],(SJ hm),Q,k0,Q⟩
   replace hm:=JF h8 hm;refine bW (WX (IE hm λv12 hm hz=>?_));rw [hz7 _ hz] at hm;refine WX (WH (WT ?_));exact⟨_,[0],(SJ hm),Q,k0,Q⟩
  refine WN [3] Q Q (RS (SA TK Q (GE hm λg13 hm=>SX Q Q (cB Q Q Q Q g13) (SA TK Q (TN (WN [2] Q Q (TR ?_)))))));obtain rfl:=OJ hm;exact EndsS.one _ Q (.d _) (.refl _)
theorem qM {p0:Expr} {r:Int} (hm:gD p0=some r):RetN Try.prog 46 [p0.enc] (.int .i64 r):=oS aF hm
theorem qJ:∀ (fu:Nat) {p0:Expr} {p1:Int} {r:Bool} (hm:bZ fu p0 p1=some r),RetN Try.prog 47 [p0.enc,.int .i64 p1] (.bool (r)):=by
 intro fu
 induction fu with
 | zero=>
  intro p0 p1 r hm;unfold bZ at hm;cases hm
 | succ fu ih=>
  intro p0 p1 r hm;refine .unit (aR qDC Try.func47 Q Try.ntmps47 Q Q (λwX gX=>?_)) Q;unfold bZ at hm;refine WN [0,1] Q Q (RS (dI 0 Q Q Q (SA TK Q (TN (WN [1,2] Q Q (RS (SA TK Q (SA TK Q (SX Q Q (cL TK Q Q Q) ?_)))))))));refine SA TK Q (TN (WN [1,2,5] Q Q ?_));refine cV hm (λ_=>([]:Fr)) (λ_=>([]:List (Nat×Blk))) [] [1,2,5] Q (λz1 hm hz1=>?_) (λj hm=>?_)
  ·refine RS (SA TK Q (SA TK Q (TN (WN [1,2,5,11] Q Q (TB ?_)))));refine aN hm (λx2=>([(12,.d (.bool (x2)))]:Fr)) (λx2=>([]:List (Nat×Blk))) [12] [1,2,5,11] Q (λz3 hm=>?_) (λx2 hm=>?_)
   ·refine RS (SA TK Q (SA TK Q (TN (WN [1,2,5,11,12] Q Q ?_))));refine TC _ Q (λh4=>?_) (λh4=>?_)
    ·replace hm:=JT h4 hm;refine TS (WT ?_);exact⟨_,[0],(SJ hm),Q,k0,Q⟩
    replace hm:=JF h4 hm;refine TG (SA TK Q (SA TK Q (TN (WT ?_))));exact⟨_,[0],(SJ hm),Q,k0,Q⟩
   refine WN [1,2,5,11,12] Q Q ?_;refine TC _ Q (λh5=>?_) (λh5=>?_)
   ·replace hm:=JA h5 hm;refine iH [(4,.d (.bool (((decide (p0.var=(0:Int)))&&(decide ((p0.args.length:Int)=(0:Int)))))))] [4] [] Q ?_ ?_
    ·refine TG (SA TK Q (SA TK Q (SA TK Q (SB TK Q (λq6 hq6=>?_)))));cases q6
     ·iterate 4 (refine SA TK Q ?_)
      refine TN (WT ?_);exact⟨[0],Q,k0,cN (bE (bF (by simp [hq6])) Q) Q⟩
     iterate 4 (refine SA TK Q ?_)
     refine TN (WT ?_);exact⟨[0],Q,k0,cN (bE (bF (by simp [hq6])) Q) Q⟩
    refine WN [4] Q Q (TR (WB (IE hm λv7 hm hz=>?_)));rw [hz1 _ hz] at hm;refine WR ?_;obtain rfl:=OJ hm;exact EndsS.one _ Q (.d _) (.refl _)
   replace hm:=JB h5 hm;refine RS (SA TK Q (SA TK Q (TN (WN [1,2,5,11,22] Q Q ?_))));refine TC _ Q (λh8=>?_) (λh8=>?_)
   ·replace hm:=JT h8 hm;refine iH [(4,.d (.bool (((decide ((0:Int)≤p0.var))&&((decide (p0.var < p1))&&(decide ((p0.args.length:Int)=(0:Int))))))))] [4] [] Q ?_ ?_
    ·refine TG (SA TK Q (SA TK Q (SA TK Q (SB TK Q (λq9 hq9=>?_)))));cases q9
     ·iterate 10 (refine SA TK Q ?_)
      refine TN (WT ?_);exact⟨[0],Q,k0,cN (bE (bF (by simp [hq9])) Q) Q⟩
     iterate 5 (refine SA TK Q ?_)
     refine SB TK Q (λq10 hq10=>?_);cases q10
     ·iterate 4 (refine SA TK Q ?_)
      refine TN (WT ?_);exact⟨[0],Q,k0,cN (bE (bF (by simp [hq9,hq10])) Q) Q⟩
     iterate 4 (refine SA TK Q ?_)
     refine TN (WT ?_);exact⟨[0],Q,k0,cN (bE (bF (by simp [hq9,hq10])) Q) Q⟩
    refine WN [4] Q Q (TR (WB (IE hm λv11 hm hz=>?_)));rw [hz1 _ hz] at hm;refine WR ?_;obtain rfl:=OJ hm;exact EndsS.one _ Q (.d _) (.refl _)
   replace hm:=JF h8 hm;refine RS (SA TK Q (SA TK Q (TN (WN [1,2,5,11,37] Q Q ?_))));refine TC _ Q (λh12=>?_) (λh12=>?_)
   ·replace hm:=JT h12 hm;refine RS (SA TK Q (SA TK Q (TN (WN [1,2,5,40] Q Q ?_))));refine TC _ Q (λh13=>?_) (λh13=>?_)
    ·replace hm:=gG h13 hm;refine RS (SA TK Q (TN (WN [4] Q Q (TR (WB (IE hm λv14 hm hz=>?_))))));rw [hz1 _ hz] at hm;refine WR ?_;obtain rfl:=OJ hm;exact EndsS.one _ Q (.d _) (.refl _)
    replace hm:=gH h13 hm;refine TS (WK (WT ?_));exact⟨_,[0],(SJ hm),Q,k0,Q⟩
   replace hm:=JF h12 hm;refine TQ (RS (SA TK Q (SA TK Q (TN (WN [1,2,5,11,41] Q Q ?_)))));refine TC _ Q (λh15=>?_) (λh15=>?_)
   ·replace hm:=JT h15 hm;refine TS (WT (WN [1,2,5,41] Q Q (wQ Q true h15 (TS (WK (WT ?_))))));exact⟨_,[0],(SJ hm),Q,k0,Q⟩
   replace hm:=JF h15 hm;refine TG (SA TK Q (SA TK Q (TN (WT (WN [1,2,5,41] Q Q ?_)))));refine TC _ Q (λh16=>?_) (λh16=>?_)
   ·replace hm:=JT h16 hm;refine TS (WK (WT ?_));exact⟨_,[0],(SJ hm),Q,k0,Q⟩
   replace hm:=JF h16 hm;refine RS (SA TK Q (TN (WN [4] Q Q (TR (WB (IE hm λv17 hm hz=>?_))))));rw [hz1 _ hz] at hm;refine WR ?_;obtain rfl:=OJ hm;exact EndsS.one _ Q (.d _) (.refl _)
  refine WN [1,2,5] Q Q ?_;refine cV hm (λ_=>([]:Fr)) (λ_=>([]:List (Nat×Blk))) [] [2] Q (λz18 hm hz18=>?_) (λj hm=>?_)
  ·refine RS (SA TK Q (TN (WN [1,2,5,6] Q Q (TB (dH hm (λi20=>([(6,.d (.int .i64 i20))]:Fr)) (λi20=>([]:List (Nat×Blk))) [6] [1,2,5] [0] Q k0 Q Q Q Q Q (λi20 z21 hm hz21=>WN [1,2,5,6] Q Q (TQ (RS ?_))))))));refine SA TK Q (SA TK Q (SA TK Q (TN (WN [1,2,5,6,46] Q Q ?_))));refine TC _ Q (λh22=>?_) (λh22=>?_)
   ·replace hm:=JT h22 hm;refine TS (WT (WN [1,2,5,6] Q Q (TQ (TB (RS (SA TK Q (SA TK Q (SA TK Q (VE hm λe23 he23 hm=>SX Q Q (nE TK Q Q Q Q he23 (Expr.encR_eq _)) ?_)))))))));refine SA TK Q (SA TK Q (BE hm λr24 hr24 hm=>SX Q Q (RN Q Q (SC (.d _) (SC (.d _) SN)) (ih hr24)) (SA TK Q (TN (WN [1,2,5,6,56] Q Q ?_)))));refine TC _ Q (λh25=>?_) (λh25=>?_)
    ·replace hm:=JA h25 hm;refine RS (SA TK Q (TN (WN [4] Q Q (TR (WB (WR (IE hm λv26 hm hz=>?_)))))));rw [hz21 _ hz] at hm;refine WR (WB (IE hm λv27 hm hz=>?_));rw [hz18 _ hz] at hm;refine WR ?_;obtain rfl:=OJ hm;exact EndsS.one _ Q (.d _) (.refl _)
    replace hm:=JB h25 hm;refine TS (WK (WT (WN [1,2,5,6] Q Q (TG (SA TK Q (GE hm λg28 hm=>SX Q Q (cB Q Q Q Q g28) (SA TK Q ?_)))))));refine TN (WT ?_);exact⟨_,[0],(SJ hm),Q,k0,Q⟩
   replace hm:=JF h22 hm;refine bW (WX (IE hm λv29 hm hz=>?_));rw [hz21 _ hz] at hm;refine WX (WH (WT ?_));exact⟨_,[0],(SJ hm),Q,k0,Q⟩
  refine WN [2] Q Q (RS ?_);iterate 4 (refine SA TK Q ?_)
  refine TN (WN [4] Q Q (TR ?_));obtain rfl:=OJ hm;exact EndsS.one _ Q (.d _) (.refl _)
theorem rX {p0:Expr} {p1:Int} {r:Bool} (hm:gY p0 p1=some r):RetN Try.prog 47 [p0.enc,.int .i64 p1] (.bool (r)):=qJ aF hm
theorem kL {p0:Expr} {p1:Int} {r:Bool} (hm:dM p0 p1=some r):RetN Try.prog 23 [p0.enc,.int .i64 p1] (.bool (r)):=by
 refine .unit (aR qDN Try.func23 Q Try.ntmps23 Q Q (λwX gX=>?_)) Q;unfold dM at hm;refine WN [0,1] Q Q (RS (dI 0 Q Q Q (SA TK Q (TN (WN [1,2] Q Q ?_)))));refine aN hm (λx1=>([(4,.d (.bool (x1)))]:Fr)) (λx1=>([]:List (Nat×Blk))) [4] [] Q (λz2 hm=>?_) (λx1 hm=>?_)
 ·refine TG (SA TK Q (BE hm λr3 hr3 hm=>SX Q Q (RN Q Q (SC (.d _) SN) (lK hr3)) (SA TK Q (SB TK Q (λq4 hq4=>?_)))));cases q4
  ·replace hm:=JF hq4 hm;iterate 10 (refine SA TK Q ?_)
   refine TN (WT ?_);exact⟨_,[0],(SJ hm),Q,k0,Q⟩
  replace hm:=JT hq4 hm;refine SA TK Q (BE hm λr5 hr5 hm=>SX Q Q (RN Q Q (SC (.d _) SN) (qM hr5)) (SA TK Q (SA TK Q (SB TK Q (λq6 hq6=>?_)))));cases q6
  ·replace hm:=JF hq6 hm;iterate 5 (refine SA TK Q ?_)
   refine TN (WT ?_);exact⟨_,[0],(SJ hm),Q,k0,Q⟩
  replace hm:=JT hq6 hm;refine SA TK Q (SA TK Q (BE hm λr7 hr7 hm=>SX Q Q (RN Q Q (SC (.d _) (SC (.d _) SN)) (rX hr7)) (SA TK Q (SA TK Q (TN (WT ?_))))));exact⟨_,[0],(SJ hm),Q,k0,Q⟩
 refine WN [4] Q Q (TR ?_);obtain rfl:=OJ hm;exact EndsS.one _ Q (.d _) (.refl _)
theorem qL:∀ (fu:Nat) {p0:Expr} {p1:(List Bool)} {r:Bool} (hm:bR fu p0 p1=some r),RetN Try.prog 24 [p0.enc,.sl 1 (p1.map D.bool)] (.bool (r)):=by
 intro fu
 induction fu with
 | zero=>
  intro p0 p1 r hm;unfold bR at hm;cases hm
 | succ fu ih=>
  intro p0 p1 r hm;refine .unit (aR qDM Try.func24 Q Try.ntmps24 Q Q (λwX gX=>?_)) Q;unfold bR at hm;refine WN [0,1] Q Q (RS (dI 0 Q Q Q (SA TK Q (TN (WN [1,2] Q Q ?_)))));refine cV hm (λ_=>([]:Fr)) (λ_=>([]:List (Nat×Blk))) [] [] Q (λz1 hm hz1=>?_) (λj hm=>?_)
  ·refine RS (SA TK Q (SA TK Q (TN (WN [1,2,7] Q Q (TB (RS (SA TK Q (SA TK Q (TN (WN [1,2,7,8] Q Q ?_))))))))));refine TC _ Q (λh2=>?_) (λh2=>?_)
   ·replace hm:=JT h2 hm;refine RS (SA TK Q (TN (WN [4] Q Q (TR (WB (IE hm λv3 hm hz=>?_))))));rw [hz1 _ hz] at hm;refine WR ?_;obtain rfl:=OJ hm;exact EndsS.one _ Q (.d _) (.refl _)
   replace hm:=JF h2 hm;refine RS (SA TK Q (SA TK Q (TN (WN [1,2,7,10] Q Q ?_))));refine TC _ Q (λh4=>?_) (λh4=>?_)
   ·replace hm:=JT h4 hm;refine aN hm (λx5=>([(4,.d (.bool (x5)))]:Fr)) (λx5=>([]:List (Nat×Blk))) [4] [] Q (λz6 hm=>?_) (λx5 hm=>?_)
    ·refine TG (SA TK Q (SA TK Q (SA TK Q (SB TK Q (λq7 hq7=>?_)))));cases q7
     ·replace hm:=JF hq7 hm;iterate 14 (refine SA TK Q ?_)
      refine TN (WT ?_);exact⟨_,[0],(SJ hm),Q,k0,Q⟩
     replace hm:=JT hq7 hm;refine SA TK Q (SA TK Q (SA TK Q (SX Q Q (cL TK Q Q Q) (SA TK Q (SA TK Q (SB TK Q (λq8 hq8=>?_)))))));cases q8
     ·replace hm:=JF hq8 hm;iterate 7 (refine SA TK Q ?_)
      refine TN (WT ?_);exact⟨_,[0],(SJ hm),Q,k0,Q⟩
     replace hm:=JT hq8 hm;refine SA TK Q (SA TK Q (SA TK Q (VE hm λe9 he9 hm=>SX Q Q (gT TK Q Q Q Q he9) (SA TK Q (SA TK Q (SA TK Q (TN (WT ?_))))))));exact⟨_,[0],(SJ hm),Q,k0,Q⟩
    refine WN [4] Q Q (TR (WB (IE hm λv10 hm hz=>?_)));rw [hz1 _ hz] at hm;refine WR ?_;obtain rfl:=OJ hm;exact EndsS.one _ Q (.d _) (.refl _)
   replace hm:=JF h4 hm;refine RS (SA TK Q (SA TK Q (TN (WN [1,2,7,29] Q Q ?_))));refine TC _ Q (λh11=>?_) (λh11=>?_)
   ·replace hm:=JT h11 hm;refine aN hm (λx12=>([(4,.d (.bool (x12)))]:Fr)) (λx12=>([]:List (Nat×Blk))) [4] [] Q (λz13 hm=>?_) (λx12 hm=>?_)
    ·refine TG (SA TK Q (SA TK Q (SX Q Q (cL TK Q Q Q) (SA TK Q (SB TK Q (λq14 hq14=>?_))))));cases q14
     ·replace hm:=JF hq14 hm;iterate 9 (refine SA TK Q ?_)
      refine TN (WT ?_);exact⟨_,[0],(SJ hm),Q,k0,Q⟩
     replace hm:=JT hq14 hm;refine SA TK Q (SA TK Q (VE hm λe15 he15 hm=>SX Q Q (nE TK Q Q Q Q he15 (Expr.encR_eq _)) (SA TK Q (SA TK Q (BE hm λr16 hr16 hm=>SX Q Q (RN Q Q (SC (.d _) (SC (.d _) SN)) (ih hr16)) (SA TK Q (SA TK Q (SA TK Q (TN (WT ?_))))))))));exact⟨_,[0],(SJ hm),Q,k0,Q⟩
    refine WN [4] Q Q (TR (WB (IE hm λv17 hm hz=>?_)));rw [hz1 _ hz] at hm;refine WR ?_;obtain rfl:=OJ hm;exact EndsS.one _ Q (.d _) (.refl _)
   replace hm:=JF h11 hm;refine aN hm (λx18=>([(44,.d (.bool (x18)))]:Fr)) (λx18=>([]:List (Nat×Blk))) [44] [1,2] Q (λz19 hm=>?_) (λx18 hm=>?_)
   ·refine RS (SA TK Q (SA TK Q (TN (WN [1,2,7,44] Q Q ?_))));refine TC _ Q (λh20=>?_) (λh20=>?_)
    ·replace hm:=JT h20 hm;refine TS (WT ?_);exact⟨_,[0],(SJ hm),Q,k0,Q⟩
    replace hm:=JF h20 hm;refine TG (SA TK Q (SA TK Q (TN (WT ?_))));exact⟨_,[0],(SJ hm),Q,k0,Q⟩
   refine WN [1,2,44] Q Q ?_;refine TC _ Q (λh21=>?_) (λh21=>?_)
   ·replace hm:=JA h21 hm;refine cV hm (λ_=>([]:Fr)) (λ_=>([]:List (Nat×Blk))) [] [2] Q (λz22 hm hz22=>?_) (λj hm=>?_)
    ·refine RS (SA TK Q (TN (WN [1,2,5] Q Q (TB (dH hm (λi24=>([(5,.d (.int .i64 i24))]:Fr)) (λi24=>([]:List (Nat×Blk))) [5] [1,2] [0] Q k0 Q Q Q Q Q (λi24 z25 hm hz25=>WN [1,2,5] Q Q (TQ (RS ?_))))))));refine SA TK Q (SA TK Q (SA TK Q (SX Q Q (cL TK Q Q Q) (SA TK Q (TN (WN [1,2,5,51] Q Q ?_))))));refine TC _ Q (λh26=>?_) (λh26=>?_)
     ·replace hm:=JT h26 hm;refine TS (WT (WN [1,2,5] Q Q (TQ (TB (aQ follows  ?_)))));iterate 3 (refine DA [0] TK Q ?_)
      refine VE hm λe27 he27 hm=>DX [0] Q Q (nE TK Q Q Q Q he27 (Expr.encR_eq _)) ?_;iterate 2 (refine DA [0] TK Q ?_)
      refine BE hm λr28 hr28 hm=>DX [0] Q Q (RN Q Q (SC (.d _) (SC (.d _) SN)) (ih hr28)) ?_;iterate 4 (refine DA [0] TK Q ?_)
      refine DT ?_ (by kernel_rfl);refine TN (WN [1,2,5,64] Q Q ?_);refine TC _ Q (λh29=>?_) (λh29=>?_)
      ·replace hm:=JA h29 hm;refine RS ?_;iterate 4 (refine SA TK Q ?_)
       refine TN (WN [4] Q Q (TR (WB (WR (IE hm λv30 hm hz=>?_)))));rw [hz25 _ hz] at hm;refine WR (WB (IE hm λv31 hm hz=>?_));rw [hz22 _ hz] at hm;refine WR (WB (IE hm λv32 hm hz=>?_));rw [hz1 _ hz] at hm;refine WR ?_;obtain rfl:=OJ hm;exact EndsS.one _ Q (.d _) (.refl _)
      replace hm:=JB h29 hm;refine TS (WK (WT (WN [1,2,5] Q Q (TG (SA TK Q (GE hm λg33 hm=>SX Q Q (cB Q Q Q Q g33) (SA TK Q ?_)))))));refine TN (WT ?_);exact⟨_,[0],(SJ hm),Q,k0,Q⟩
     replace hm:=JF h26 hm;refine bW (WX (IE hm λv34 hm hz=>?_));rw [hz25 _ hz] at hm;refine WX (WH (WT ?_));exact⟨_,[0],(SJ hm),Q,k0,Q⟩
    refine WN [2] Q Q (RS ?_);iterate 4 (refine SA TK Q ?_)
    refine TN (WN [4] Q Q (TR (WB (IE hm λv35 hm hz=>?_))));rw [hz1 _ hz] at hm;refine WR ?_;obtain rfl:=OJ hm;exact EndsS.one _ Q (.d _) (.refl _)
   replace hm:=JB h21 hm;refine TS (WK (WT ?_));exact⟨_,[0],(SJ hm),Q,k0,Q⟩
  refine WN [] Q Q (RS (SA TK Q (TN (WN [4] Q Q (TR ?_)))));obtain rfl:=OJ hm;exact EndsS.one _ Q (.d _) (.refl _)
theorem gZ {p0:Expr} {p1:(List Bool)} {r:Bool} (hm:eF p0 p1=some r):RetN Try.prog 24 [p0.enc,.sl 1 (p1.map D.bool)] (.bool (r)):=qL aF hm
theorem wJ {p0:Diagram} {p1:(List Bool)} {r:Bool} (hm:gR p0 p1=some r):RetN Try.prog 21 [p0.enc,.sl 1 (p1.map D.bool)] (.bool (r)):=by
 refine .unit (aR qDO Try.func21 Q Try.ntmps21 Q Q (λwX gX=>?_)) Q;unfold gR at hm;refine WN [0,1] Q Q (RS (dI 0 Q Q Q (SA TK Q (TN (WN [1,2] Q Q (TQ (RS (SA TK Q ?_))))))));refine BE hm λr1 hr1 hm=>SX Q Q (RN Q Q (SC (.d _) SN) (eW hr1)) (SA TK Q (TN (WN [1,2,9] Q Q ?_)));refine TC _ Q (λh2=>?_) (λh2=>?_)
 ·replace hm:=JA h2 hm;refine RS (SA TK Q (TN (WN [4] Q Q (TR (WR ?_)))));obtain rfl:=OJ hm;exact EndsS.one _ Q (.d _) (.refl _)
 replace hm:=JB h2 hm;refine TS (WT (WN [1,2] Q Q (RS (SA TK Q (SA TK Q (SA TK Q (TN (WN [1,2,5] Q Q ?_))))))));refine aN hm (λat3=>([(5,.d (.int .i64 at3))]:Fr)) (λat3=>([]:List (Nat×Blk))) [5] [] Q (λz4 hm=>?_) (λat3 hm=>?_)
 ·refine TB (dH hm (λat6=>([(5,.d (.int .i64 at6))]:Fr)) (λat6=>([]:List (Nat×Blk))) [5] [1,2] [0] Q k0 Q Q Q Q Q (λat6 z7 hm hz7=>WN [1,2,5] Q Q (TQ (RS (SA TK Q (SA TK Q (TN (WN [1,2,5,13] Q Q ?_))))))));refine TC _ Q (λh8=>?_) (λh8=>?_)
  ·replace hm:=JT h8 hm;refine TS (WT (WN [1,2,5] Q Q (TB (RS (SA TK Q (SA TK Q (SA TK Q (GE hm λg9 hm=>SX Q Q (cB Q Q Q Q g9) (VE hm λe10 he10 hm=>?_)))))))));refine SX Q Q (gT TK Q Q Q Q he10) (SA TK Q (dX 1 Q Q bI Q (SA TK Q (TN (WN [1,2,6] Q Q ?_)))));refine aN hm (λx11=>([(31,.d (.bool (x11)))]:Fr)) (λx11=>([]:List (Nat×Blk))) [31] [1,2,6] Q (λz12 hm=>?_) (λx11 hm=>?_)
   ·refine TG (SA TK Q (SA TK Q (SA TK Q (SX Q Q (cL TK Q Q Q) (SA TK Q (SB TK Q (λq13 hq13=>?_)))))));cases q13
    ·replace hm:=JF hq13 hm;iterate 6 (refine SA TK Q ?_)
     refine TN (WT ?_);exact⟨_,[0,1],(SJ hm),Q,k0,Q⟩
    replace hm:=JT hq13 hm;refine SA TK Q (SA TK Q (SA TK Q (VE hm λe14 he14 hm=>SX Q Q (gT TK Q Q Q Q he14) (SA TK Q (SA TK Q (TN (WT ?_)))))));exact⟨_,[0,1],(SJ hm),Q,k0,Q⟩
   refine WN [1,2,6,31] Q Q ?_;refine TC _ Q (λh15=>?_) (λh15=>?_)
   ·replace hm:=JA h15 hm;refine TG (SA TK Q (SA TK Q (SA TK Q (TN (WK (WT ?_))))));exact⟨_,[0],(SJ hm),Q,k0,Q⟩
   replace hm:=JB h15 hm;refine TG (SA TK Q (SA TK Q (SA TK Q (TN (WK (WT ?_))))));exact⟨_,[0],(SJ hm),Q,k0,Q⟩
  replace hm:=JF h8 hm;refine bW (WX (IE hm λv16 hm hz=>?_));rw [hz7 _ hz] at hm;refine WX (WH (WT ?_));exact⟨_,[0],(SJ hm),Q,k0,Q⟩
 refine WN [5] Q Q (RS (SA TK Q (SA TK Q (SA TK Q (TN (WN [4] Q Q (TR ?_)))))));obtain rfl:=OJ hm;exact EndsS.one _ Q (.d _) (.refl _)
theorem iY {p0:Expr} {p1:Expr} {r:Bool} (hm:cJ p0 p1=some r):Ret Try.prog 6 [] (λ_=>false) ([p0.enc,p1.enc].map .d) (.d (.bool (r))) []:=by
 refine aR callB6 Try.func6 Q Try.ntmps6 Q Q (λwX gX=>?_);unfold cJ at hm;refine WN [0,1] Q Q (RS (dI 0 Q Q Q (dI 1 Q Q Q (SA TK Q (TN (WN [2,3] Q Q (TQ ?_)))))));refine aN hm (λx1=>([(30,.d (.bool (x1)))]:Fr)) (λx1=>([]:List (Nat×Blk))) [30] [2,3] Q (λz2 hm=>?_) (λx1 hm=>?_)
 ·refine TG (SA TK Q (BE hm λr3 hr3 hm=>SX Q Q (RN Q Q (SC (.d _) SN) (nL hr3)) (SA TK Q (SB TK Q (λq4 hq4=>?_)))));cases q4
  ·replace hm:=JB hq4 hm;refine SA TK Q (BE hm λr5 hr5 hm=>SX Q Q (RN Q Q (SC (.d _) SN) (nL hr5)) (SA TK Q (SA TK Q (SB TK Q (λq6 hq6=>?_)))));cases q6
   ·replace hm:=JB hq6 hm;refine SA TK Q (BE hm λr7 hr7 hm=>SX Q Q (RN Q Q (SC (.d _) (SC (.d _) SN)) (kL hr7)) (SA TK Q (SA TK Q (SB TK Q (λq8 hq8=>?_)))));cases q8
    ·replace hm:=JB hq8 hm;refine SA TK Q (BE hm λr9 hr9 hm=>SX Q Q (RN Q Q (SC (.d _) (SC (.d _) SN)) (kL hr9)) (SA TK Q (SA TK Q (TN (WT ?_)))));exact⟨_,[0,1],(SJ hm),Q,k0,Q⟩
    replace hm:=JA hq8 hm;iterate 4 (refine SA TK Q ?_)
    refine TN (WT ?_);exact⟨_,[0,1],(SJ hm),Q,k0,Q⟩
   replace hm:=JA hq6 hm;iterate 9 (refine SA TK Q ?_)
   refine TN (WT ?_);exact⟨_,[0,1],(SJ hm),Q,k0,Q⟩
  replace hm:=JA hq4 hm;iterate 14 (refine SA TK Q ?_)
  refine TN (WT ?_);exact⟨_,[0,1],(SJ hm),Q,k0,Q⟩
 refine WN [2,3,30] Q Q ?_;refine TC _ Q (λh10=>?_) (λh10=>?_)
 ·replace hm:=JA h10 hm;refine RS (BE hm λr11 hr11 hm=>SX Q Q (RN Q Q SN (kN hr11)) (SA TK Q (TN (WN [4] Q Q (TR (WR ?_))))));obtain rfl:=OJ hm;exact EndsS.one _ Q (.d _) (.refl _)
 replace hm:=JB h10 hm;refine TS (WT (WN [2,3] Q Q (RS (SA TK Q (BE hm λr12 hr12 hm=>?_)))));obtain⟨r13,r14⟩:=r12;refine SX Q Q (dU Q Q Q (qB hr12)) (SA TK Q (SA TK Q (SA TK Q (dX 2 Q Q bN Q (gB 2 [some 3,none] Q Q (SA TK Q (SA TK Q (TN (WN [2,3,5,6] Q Q (RS (SA TK Q ?_)))))))))));refine BE hm λr15 hr15 hm=>?_;obtain⟨r16,r17⟩:=r15;refine SX Q Q (dU Q Q Q (qB hr15)) (SA TK Q (SA TK Q (SA TK Q (dX 3 Q Q bN Q (gB 3 [some 3,none] Q Q (SA TK Q (SA TK Q (TN (WN [2,3,5,6,7,8] Q Q (TQ ?_))))))))));refine aN hm (λx18=>([(52,.d (.bool (x18)))]:Fr)) (λx18=>([]:List (Nat×Blk))) [52] [2,3,5,7] Q (λz19 hm=>?_) (λx18 hm=>?_)
 ·refine TG (SA TK Q (SA TK Q (SB TK Q (λq20 hq20=>?_))));cases q20
  ·replace hm:=gH hq20 hm;refine SA TK Q (SA TK Q (SA TK Q (SB TK Q (λq21 hq21=>?_))));cases q21
   ·replace hm:=gH hq21 hm;refine SA TK Q (BE hm λr22 hr22 hm=>SX Q Q (RN Q Q (SC (.d _) SN) (eW hr22)) (SA TK Q (SA TK Q (TN (WT ?_)))));exact⟨_,[0,1,2,3],(SJ hm),Q,k0,Q⟩
   replace hm:=gG hq21 hm;iterate 4 (refine SA TK Q ?_)
   refine TN (WT ?_);exact⟨_,[0,1,2,3],(SJ hm),Q,k0,Q⟩
  replace hm:=gG hq20 hm;iterate 8 (refine SA TK Q ?_)
  refine TN (WT ?_);exact⟨_,[0,1,2,3],(SJ hm),Q,k0,Q⟩
 refine WN [2,3,5,7,52] Q Q ?_;refine TC _ Q (λh23=>?_) (λh23=>?_)
 ·replace hm:=JA h23 hm;refine RS (SA TK Q (TN (WN [4] Q Q (TR (WR ?_)))));obtain rfl:=OJ hm;exact EndsS.one _ Q (.d _) (.refl _)
 replace hm:=JB h23 hm;refine TS (WT (WN [2,3,5,7] Q Q (RS (SA TK Q (TN (WN [2,3,5,7,9] Q Q ?_))))));refine cV hm (λequal24=>([(9,.d (.bool (equal24)))]:Fr)) (λequal24=>([]:List (Nat×Blk))) [9] [5,7] Q (λz25 hm hz25=>?_) (λequal24 hm=>?_)
 ·refine RS (SA TK Q (TN (WN [2,3,5,7,9,10] Q Q (TB (dH hm (λ(equal28,n29)=>([(9,.d (.bool (equal28))),(10,.d (.int .i64 n29))]:Fr)) (λ(equal28,n29)=>([]:List (Nat×Blk))) [9,10] [2,3,5,7] [0,1,2,3] Q k0 Q Q Q Q Q (λs z30 hm hz30=>?_))))));obtain⟨equal28,n29⟩:=s;refine WN [2,3,5,7,9,10] Q Q (TQ (RS (SA TK Q (SA TK Q (TN (WN [2,3,5,7,9,10,54] Q Q ?_))))));refine TC _ Q (λh31=>?_) (λh31=>?_)
  ·replace hm:=JT h31 hm;refine TS (WT (WN [2,3,5,7,9,10] Q Q ?_));refine cV hm (λequal32=>([(9,.d (.bool (equal32)))]:Fr)) (λequal32=>([]:List (Nat×Blk))) [9] [2,3,5,7,10] Q (λz33 hm hz33=>?_) (λequal32 hm=>?_)
   ·refine TB (RS (zR (f:=D.bool) 4 [] ([]:List Bool) TK Q Q Q sR Q Q Q Q Q (SA TK Q (TN (WN [2,3,5,7,9,10,11] Q Q ?_)))));refine aN hm (λb34=>([(11,.msl 4 1 0 b34.length)]:Fr)) (λb34=>([(4,.flat 4 1 (b34.map D.bool))]:List (Nat×Blk))) [11] [2,3,5,7,9,10] Q (λz35 hm=>?_) (λb34 hm=>?_)
    ·refine RS (SA TK Q (TN (WN [2,3,5,7,9,10,11,12] Q Q (TB (dH hm (λ(x39,b40)=>([(11,.msl 4 1 0 b40.length),(12,.d (.int .i64 x39))]:Fr)) (λ(x39,b40)=>([(4,.flat 4 1 (b40.map D.bool))]:List (Nat×Blk))) [11,12] [2,3,5,7,9,10] [0,1,2,3,4] Q k0 Q Q Q Q Q (λs z41 hm hz41=>?_))))));obtain⟨x39,b40⟩:=s;refine WN [2,3,5,7,9,10,11,12] Q Q (TQ (RS (SA TK Q (SA TK Q (TN (WN [2,3,5,7,9,10,11,12,59] Q Q ?_))))));refine TC _ Q (λh42=>?_) (λh42=>?_)
     ·replace hm:=JT h42 hm;refine TS (WT (WN [2,3,5,7,9,10,11,12] Q Q (TQ (TB (TG (SA TK Q (SA TK Q (SA TK Q (GE hm λg43 hm=>SX Q Q (wN Q Q Q Q g43) ?_)))))))));refine SX Q Q (qEI Q Q Q Q) (SA TK Q (SX Q Q (kH [.tmp 67] TK Q Q sR Q Q Q Q Q) (GE hm λg44 hm=>kJ (f:=D.bool) ([decide ((IntKind.i64.wrap (BitVec.ofInt IntKind.i64.bits (n29.fdiv (2 ^ (min x39.toNat IntKind.i64.bits))) &&& BitVec.ofInt IntKind.i64.bits (1:Int)).toNat)=(1:Int))]:List Bool) TK Q Q sR Q Q Q Q Q (λh=>absurd h (zQV _)) Q iM g44 Q Q (SA TK Q (TN (WK (WT ?_)))))));refine WN [2,3,5,7,9,10,11,12] Q Q (TG (SA TK Q (GE hm λg45 hm=>SX Q Q (cB Q Q Q Q g45) (SA TK Q (TN (WT ?_))))));exact⟨_,[0,1,2,3,4],(SJ hm),Q,k0,Q⟩
     replace hm:=JF h42 hm;refine bW (WX (IE hm λv46 hm hz=>?_));rw [hz41 _ hz] at hm;refine WX (WH (WT ?_));exact⟨_,[0,1,2,3,4],(SJ hm),Q,k0,Q⟩
    refine WN [2,3,5,7,9,10,11] Q Q (TQ (aQ follows  ?_));iterate 2 (refine DA [0,1,2,3,4] TK Q ?_)
    refine BE hm λr47 hr47 hm=>DX [0,1,2,3,4] Q Q (RN Q Q (SC (.d _) (SC (fJ Q) SN)) (wJ hr47)) ?_;iterate 2 (refine DA [0,1,2,3,4] TK Q ?_)
    refine BE hm λr48 hr48 hm=>DX [0,1,2,3,4] Q Q (RN Q Q (SC (.d _) (SC (fJ Q) SN)) (gZ hr48)) (DA [0,1,2,3,4] TK Q ?_);refine DT ?_ (by kernel_rfl);refine TN (WN [2,3,5,7,9,10,11,76] Q Q ?_);refine TC _ Q (λh49=>?_) (λh49=>?_)
    ·replace hm:=JA h49 hm;refine RS (SA TK Q (TN (WN [4] Q Q (TR (WR (WB (IE hm λv50 hm hz=>?_)))))));rw [hz33 _ hz] at hm;refine WR (IE hm λv51 hm hz=>?_);rw [hz30 _ hz] at hm;refine WR (WB (IE hm λv52 hm hz=>?_));rw [hz25 _ hz] at hm;refine WR ?_;obtain rfl:=OJ hm;exact EndsS.one _ Q (.d _) (.refl _)
    replace hm:=JB h49 hm;refine TS (WT (WN [2,3,5,7,9,10,11] Q Q (lH follows  (DA [0,1,2,3,4] TK Q (d_b [0,1,2,3,4] TK Q (λq53 hq53=>?_))))));cases q53
    ·replace hm:=JB hq53 hm;iterate 8 (refine DA [0,1,2,3,4] TK Q ?_)
     refine DT ?_ (by kernel_rfl);refine SA TK Q (TN (WK (WT ?_)));exact⟨_,[0,1,2,3],(SJ hm),Q,k0,Q⟩
    replace hm:=JA hq53 hm;iterate 2 (refine DA [0,1,2,3,4] TK Q ?_)
    refine BE hm λr54 hr54 hm=>DX [0,1,2,3,4] Q Q (RN Q Q (SC (.d _) (SC (fJ Q) SN)) (gZ hr54)) ?_;iterate 2 (refine DA [0,1,2,3,4] TK Q ?_)
    refine BE hm λr55 hr55 hm=>DX [0,1,2,3,4] Q Q (RN Q Q (SC (.d _) (SC (fJ Q) SN)) (gZ hr55)) ?_;iterate 2 (refine DA [0,1,2,3,4] TK Q ?_)
    refine DT ?_ (by kernel_rfl);refine SA TK Q (TN (WK (WT ?_)));exact⟨_,[0,1,2,3],(SJ hm),Q,k0,Q⟩
   refine WN [2,3,5,7,9,10] Q Q (TG (SA TK Q (GE hm λg56 hm=>SX Q Q (cB Q Q Q Q g56) (SA TK Q (TN (WT ?_))))));exact⟨_,[0,1,2,3],(SJ hm),Q,k0,Q⟩
  replace hm:=JF h31 hm;refine bW (WX (IE hm λv57 hm hz=>?_));rw [hz30 _ hz] at hm;refine WX (WH (WT ?_));exact⟨_,[0,1,2,3],(SJ hm),Q,k0,Q⟩
 refine WN [5,7,9] Q Q ?_;refine aN hm (λx58=>([(4,.d (.bool (x58)))]:Fr)) (λx58=>([]:List (Nat×Blk))) [4] [] Q (λz59 hm=>?_) (λx58 hm=>?_)
 ·refine TG (SA TK Q (SA TK Q (BE hm λr60 hr60 hm=>SX Q Q (RN Q Q (SC (.d _) (SC (.d _) SN)) (lJ hr60)) (SA TK Q (SA TK Q (SB TK Q (λq61 hq61=>?_)))))));cases q61
  ·replace hm:=JB hq61 hm;refine SA TK Q (SA TK Q (SA TK Q (TN (WT ?_))));exact⟨_,[0,1,2,3],(SJ hm),Q,k0,Q⟩
  replace hm:=JA hq61 hm;refine BE hm λr62 hr62 hm=>SX Q Q (RN Q Q SN (kN hr62)) (SA TK Q (SA TK Q (TN (WT ?_))));exact⟨_,[0,1,2,3],(SJ hm),Q,k0,Q⟩
 refine WN [4] Q Q (TR ?_);obtain rfl:=OJ hm;exact EndsS.one _ Q (.d _) (.refl _)
@[simp] theorem aB {α:Type} {p:Prop} [Decidable p] {k:Option α} (h:p):aC p k=k:=if_pos h
@[simp] theorem aA {α β:Type} (a:α) (k:α→Option β):aD (some a) k=k a:=rfl
@[simp] theorem aU {α β:Type} (a:α) (k:α→Option β):cO (some (.inl a)) k=k a:=rfl
@[simp] theorem aT {α β:Type} (b:β) (k:α→Option β):cO (some (.inr b)) k=some b:=rfl
@[simp] theorem aS {α β:Type} (b:β):(aI (some b):Option (α ⊕ β))=some (.inr b):=rfl
theorem cA {α β:Type} {l:List α} {i:Nat} {e:α} {k:α→Option β} (h:l[i]?=some e):bG l (i:Int) k=k e:=by simp [bG,h]
theorem bX {α β:Type} {l:List α} {i:Int} {e:α} {k:α→Option β} (h0:0≤i) (h:l[i.toNat]?=some e):bG l i k=k e:=by simp [bG,h0,h]
@[simp] theorem ite_bindM {α β:Type} {p:Prop} [Decidable p] (a b:α) (k:α→Option β):aD (if p then some a else some b) k=k (if p then a else b):=by split<;>rfl
theorem sU {α:Type} (l:List α) (i:Nat):sub l (i:Int) (l.length:Int)=l.drop i:=by simp [sub,← List.length_drop]
theorem zL {α:Type} (l:List α) (i:Nat):sub l 0 (i:Int)=l.take i:=by simp [sub]
variable {σ ρ:Type}
theorem uA {f:σ→Option (σ ⊕ ρ)} (B:Nat→σ) {o:ρ}:∀ (n k:Nat),(∀ i,k≤i→i < k+n→f (B i)=some (.inl (B (i+1))))→f (B (k+n))=some (.inr o)→eU f (n+1) (B k)=some o
 | 0,k,_,he=>by simp only [Nat.add_zero] at he;simp [eU,he]
 | n+1,k,hf,he=>by
  simp only [eU];rw [hf k (zQW _) (by omega)];exact uA B n (k+1) (λi h1 h2=>hf i (by omega) (by omega)) (by rw [show k+1+n=k+(n+1) by omega];exact he)
theorem fB {f:σ→Option (σ ⊕ ρ)} (B:Nat→σ) (n:Nat) {o:ρ} {s:σ} (hs:s=B 0) (hn:n≤9223372036854775807) (hf:∀ i,i < n→f (B i)=some (.inl (B (i+1)))) (he:f (B n)=some (.inr o)):bC f s=some o:=by
 subst hs;exact tT (uA B n 0 (λi _ h=>hf i (by omega)) (by rw [Nat.zero_add];exact he)) (by unfold aF;omega)
theorem pH {f : Int → Option (Int ⊕ ρ)} (n : Nat) (c : Nat → Option ρ) (o : ρ) (hn : n ≤ 9223372036854775807) (hf : ∀ i, i < n → f (i : Int) = match c i with
  | some r => some (.inr r)
  | none => some (.inl ((i : Int) + 1))) (he : f (n : Int) = some (.inr o)) : bC f 0 = some (((List.range n).findSome? c).getD o) := by
 cases h:(List.range n).findSome? c with
 | none=>
  rw [List.findSome?_eq_none_iff] at h;refine fB (λi=>(i:Int)) n rfl hn (λi hi=>?_) he;rw [hf i hi,h i (List.mem_range.2 hi)];rfl
 | some r=>
  rw [List.findSome?_eq_some_iff] at h;obtain⟨l1,a,l2,h1,h2,h3⟩:=h
  have ha:l1.length=a∧a < n:=by
   have hlen:l1.length < (List.range n).length:=by rw [h1];simp
   have:(List.range n)[l1.length]?=some a:=by rw [h1];simp
   simp only [List.length_range] at hlen;simp [hlen] at this;exact⟨this,by omega⟩
  obtain⟨ha1,ha2⟩:=ha;refine fB (λi=>(i:Int)) a rfl (by omega) (λi hi=>?_) ?_
  ·have hm:i∈l1:=by
    have:(List.range n)[i]?=some i:=List.getElem?_range (by omega);rw [h1,List.getElem?_append_left (by omega)] at this;exact zQM this
   rw [hf i (by omega),h3 i hm];rfl
  rw [hf a ha2,h2];rfl
theorem pP {α β:Type} (l:List α) (c:Nat→Option β) (d:α→Option β) (h:∀ (i:Nat) (e:α),l[i]?=some e→c i=d e):(List.range l.length).findSome? c=l.findSome? d:=by
 induction l generalizing c with
 | nil=>rfl
 | cons x r ih=>
  rw [List.length_cons,List.range_succ_eq_map,List.findSome?_cons,List.findSome?_map,List.findSome?_cons,h 0 x rfl]
  cases d x with
  | some b=>rfl
  | none=>exact ih (c ∘ Nat.succ) λi e he=>h (i+1) e (by simpa using he)
theorem yC {α : Type} {f : Int → Option (Int ⊕ ρ)} (l : List α) (d : α → Option ρ) (o : ρ) (hn : l.length ≤ 9223372036854775807) (hf : ∀ (i : Nat) (e : α), l[i]? = some e → f (i : Int) = match d e with
  | some r => some (.inr r)
  | none => some (.inl ((i : Int) + 1))) (he : f (l.length : Int) = some (.inr o)) : bC f 0 = some ((l.findSome? d).getD o) := by
 rw [pH l.length (λi=>(l[i]?).bind d) o hn (λi hi=>?_) he,pP l _ d (λi e he=>by simp [he])];rw [hf i l[i] (by simp),zQR hi];rfl
theorem lZ {α β:Type} (l:List α) (c:α→Bool) (v:β):l.findSome? (λe=>if c e=true then some v else none)=if l.any c=true then some v else none:=by
 induction l with
 | nil=>rfl
 | cons x r ih=>
  rw [List.findSome?_cons,List.any_cons,ih];cases c x<;>simp
theorem lS {α:Type} {f:Int→Option (Int ⊕ ρ)} (l:List α) (c:α→Bool) (v o:ρ) (hn:l.length≤9223372036854775807) (hf:∀ (i:Nat) (e:α),l[i]?=some e→f (i:Int)=if c e=true then some (.inr v) else some (.inl ((i:Int)+1))) (he:f (l.length:Int)=some (.inr o)):bC f 0=some (if l.any c=true then v else o):=by
 rw [yC l (λe=>if c e=true then some v else none) o hn (λi e h=>by rw [hf i e h];cases c e<;>simp) he,lZ];split<;>rfl
theorem mS {f:Int→Option (Int ⊕ ρ)} (n:Nat) (c:Nat→Bool) (v o:ρ) (hn:n≤9223372036854775807) (hf:∀ i,i < n→f (i:Int)=if c i=true then some (.inr v) else some (.inl ((i:Int)+1))) (he:f (n:Int)=some (.inr o)):bC f 0=some (if (List.range n).any c=true then v else o):=by
 rw [pH n (λe=>if c e=true then some v else none) o hn (λi h=>by rw [hf i h];cases c i<;>simp) he,lZ];split<;>rfl
theorem yD {α:Type} {f:Int→Option (Int ⊕ ρ)} (l:List α) (c:α→Bool) (w:Nat→ρ) (o:ρ) (hn:l.length≤9223372036854775807) (hf:∀ (i:Nat) (e:α),l[i]?=some e→f (i:Int)=if c e=true then some (.inr (w i)) else some (.inl ((i:Int)+1))) (he:f (l.length:Int)=some (.inr o)):bC f 0=some (match l.findIdx? c with|some i=>w i|none=>o):=by
 cases h:l.findIdx? c with
 | none=>
  rw [List.findIdx?_eq_none_iff] at h;refine fB (λi=>(i:Int)) l.length rfl hn (λi hi=>?_) he;rw [hf i l[i] (by simp),if_neg (by rw [h l[i] (by simp)];simp)];rfl
 | some k=>
  rw [List.findIdx?_eq_some_iff_getElem] at h;obtain⟨hk,h1,h2⟩:=h;refine fB (λi=>(i:Int)) k rfl (by omega) (λi hi=>?_) ?_
  ·have hl : i < l.length := by omega
   have:=h2 i hi;rw [hf i l[i] (by simp),if_neg (by simpa using this)];rfl
  rw [hf k l[k] (by simp),if_pos h1]
theorem lT {β:Type} {f:Int×β→Option ((Int×β) ⊕ ρ)} (n:Nat) (B:Nat→β) {o:ρ} {b:β} (hb:b=B 0) (hn:n≤9223372036854775807) (hf:∀ i,i < n→f ((i:Int),B i)=some (.inl ((i:Int)+1,B (i+1)))) (he:f ((n:Int),B n)=some (.inr o)):bC f (0,b)=some o:=
 fB (λi=>((i:Int),B i)) n (by rw [hb];rfl) hn (λi hi=>by rw [hf i hi];rfl) he
theorem yE {β:Type} {f:Int×β→Option ((Int×β) ⊕ ρ)} (n:Nat) (B:Nat→β) (c:Nat→Bool) (v o:ρ) {b:β} (hb:b=B 0) (hn:n≤9223372036854775807) (hf:∀ i,i < n→(∀ j,j < i→c j=false)→f ((i:Int),B i)=if c i=true then some (.inr v) else some (.inl ((i:Int)+1,B (i+1)))) (he:(∀ j,j < n→c j=false)→f ((n:Int),B n)=some (.inr o)):bC f (0,b)=some (if (List.range n).any c=true then v else o):=by
 cases h:(List.range n).findIdx? c with
 | none=>
  rw [List.findIdx?_eq_none_iff] at h;have hall:∀ j,j < n→c j=false:=λj hj=>by simpa using h j (List.mem_range.2 hj)
  have hno:¬ (List.range n).any c=true:=by
   rw [zQU];rintro⟨j,hj,hc⟩;rw [hall j (List.mem_range.1 hj)] at hc;cases hc
  rw [if_neg hno];exact lT n B hb hn (λi hi=>by rw [hf i hi (λj hj=>hall j (by omega)),hall i hi];rfl) (he hall)
 | some k=>
  rw [List.findIdx?_eq_some_iff_getElem] at h;obtain⟨hk,h1,h2⟩:=h;simp only [List.length_range] at hk;simp only [List.getElem_range] at h1;have hb':∀ j,j < k→c j=false:=λj hj=>by have:=h2 j hj;simpa using this
  have hyes:(List.range n).any c=true:=zQU.2 ⟨k,List.mem_range.2 hk,h1⟩;rw [if_pos hyes];exact lT k B hb (by omega) (λi hi=>by rw [hf i (by omega) (λj hj=>hb' j (by omega)),hb' i hi];rfl) (by rw [hf k hk hb',h1];rfl)
theorem qCJ {i n:Nat} (h:i < n) (hn:n≤9223372036854775807):I64 ((i:Int)+1):=by unfold I64;omega
def aY (b:Bool):Int:=if b=true then 1 else 0
def bH (D:List Node) (n:Node):List Node×Int:=
 if n.lo=n.hi then (D,n.lo) else match D.findIdx? (λm=>decide (m=n)) with|some i=>(D,(i:Int)+2)|none=>(D++[n],(D.length:Int)+2)
abbrev Fn:=List Bool→Bool
def aE (D:List Node):Nat→Fn→Int→List Node×Int
 | 0,f,_=>(D,aY (f []))
 | k+1,f,v=>
  let a:=aE D k (λl=>f (false :: l)) (v+1)
  let b:=aE a.1 k (λl=>f (true :: l)) (v+1)
  bH b.1 ⟨v,a.2,b.2⟩
def Has (D:List Node):Nat→Fn→Int→Int→Prop
 | 0,f,_,x=>x=aY (f [])
 | k+1,f,v,x=>∃ lo hi,Has D k (λl=>f (false :: l)) (v+1) lo∧Has D k (λl=>f (true :: l)) (v+1) hi∧(if lo=hi then x=lo else 2≤x∧D[(x - 2).toNat]?=some ⟨v,lo,hi⟩)
theorem gF (D:List Node) (n:Node):D <+: (bH D n).1:=by
 unfold bH;split
 ·exact List.prefix_refl _
 split
 ·exact List.prefix_refl _
 exact List.prefix_append _ _
theorem bB:∀ (k:Nat) (D:List Node) (f:Fn) (v:Int),D <+: (aE D k f v).1
 | 0,D,f,v=>List.prefix_refl _
 | k+1,D,f,v=>((bB k D _ _).trans (bB k _ _ _)).trans (gF _ _)
theorem fO {D E:List Node} (h:D <+: E) {i:Nat} {n:Node} (hi:D[i]?=some n):E[i]?=some n:=by
 obtain⟨t,rfl⟩:=h;rw [List.getElem?_append_left (zQQ.1 hi).1];exact hi
theorem Has.mono {D E:List Node} (h:D <+: E):∀ {k:Nat} {f:Fn} {v x:Int},Has D k f v x→Has E k f v x
 | 0,f,v,x,hh=>hh
 | k+1,f,v,x,⟨lo,hi,h1,h2,h3⟩=>by
  refine⟨lo,hi,h1.mono h,h2.mono h,?_⟩;split
  ·rename_i he;rw [if_pos he] at h3;exact h3
  rename_i he;rw [if_neg he] at h3;exact⟨h3.1,fO h h3.2⟩
theorem qBO (D:List Node) (n:Node):if n.lo=n.hi then (bH D n).2=n.lo else 2≤(bH D n).2∧(bH D n).1[((bH D n).2 - 2).toNat]?=some n:=by
 unfold bH;by_cases he:n.lo=n.hi
 ·simp only [if_pos he]
 simp only [if_neg he]
 cases hf:D.findIdx? (λm=>decide (m=n)) with
 | some i=>
  rw [List.findIdx?_eq_some_iff_getElem] at hf;obtain⟨hi,hp,_⟩:=hf;dsimp only;refine⟨by omega,?_⟩;rw [show ((i:Int)+2 - 2).toNat=i by omega,zQR hi,of_decide_eq_true hp]
 | none=>
  dsimp only;refine⟨by omega,?_⟩;rw [show ((D.length:Int)+2 - 2).toNat=D.length by omega];simp
theorem bY:∀ (k:Nat) (D:List Node) (f:Fn) (v:Int),Has (aE D k f v).1 k f v (aE D k f v).2
 | 0,D,f,v=>rfl
 | k+1,D,f,v=>by
  have h1:=bY k D (λl=>f (false :: l)) (v+1);have h2:=bY k (aE D k (λl=>f (false :: l)) (v+1)).1 (λl=>f (true :: l)) (v+1);have p2:=bB k (aE D k (λl=>f (false :: l)) (v+1)).1 (λl=>f (true :: l)) (v+1);have p3:=gF (aE (aE D k (λl=>f (false :: l)) (v+1)).1 k (λl=>f (true :: l)) (v+1)).1 ⟨v,(aE D k (λl=>f (false :: l)) (v+1)).2,(aE (aE D k (λl=>f (false :: l)) (v+1)).1 k (λl=>f (true :: l)) (v+1)).2⟩;refine⟨_,_,h1.mono (p2.trans p3),h2.mono p3,?_⟩;exact qBO (aE (aE D k (λl=>f (false :: l)) (v+1)).1 k (λl=>f (true :: l)) (v+1)).1 ⟨v,(aE D k (λl=>f (false :: l)) (v+1)).2,(aE (aE D k (λl=>f (false :: l)) (v+1)).1 k (λl=>f (true :: l)) (v+1)).2⟩
theorem qF {D:List Node} (h:D.Nodup) (n:Node):(bH D n).1.Nodup:=by
 unfold bH;split
 ·exact h
 split
 ·exact h
 rename_i hf;rw [List.findIdx?_eq_none_iff] at hf;rw [List.nodup_append];refine⟨h,by simp,λa ha b hb=>?_⟩;rw [List.mem_singleton] at hb;subst hb;intro he;have:=hf a ha;simp [he] at this
theorem eR:∀ (k:Nat) {D:List Node} (f:Fn) (v:Int),D.Nodup→(aE D k f v).1.Nodup
 | 0,D,f,v,h=>h
 | k+1,D,f,v,h=>qF (eR k _ _ (eR k _ _ h)) _
theorem vR {D:List Node} (h:D.Nodup) {i:Nat} {n:Node} (hi:D[i]?=some n):D.findIdx? (λm=>decide (m=n))=some i:=by
 rw [List.findIdx?_eq_some_iff_getElem];obtain⟨hl,he⟩:=zQQ.1 hi;refine⟨hl,decide_eq_true he,λj hj=>?_⟩
 have hne:D[j]≠D[i]:=by
  unfold List.Nodup at h;rw [List.pairwise_iff_getElem] at h;exact h j i (by omega) hl hj
 rw [he] at hne;simpa using hne
theorem cD {D:List Node} (hn:D.Nodup):∀ {k:Nat} {f:Fn} {v x:Int},Has D k f v x→aE D k f v=(D,x)
 | 0,f,v,x,h=>by
  have h:x=aY (f []):=h;rw [h];rfl
 | k+1,f,v,x,⟨lo,hi,h1,h2,h3⟩=>by
  have e1:=cD hn h1;have e2:=cD hn h2;show bH (aE (aE D k (λl=>f (false :: l)) (v+1)).1 k (λl=>f (true :: l)) (v+1)).1 _=_;rw [e1];dsimp only;rw [e2];unfold bH;dsimp only;by_cases he:lo=hi
  ·rw [if_pos he];rw [if_pos he] at h3;rw [h3]
  rw [if_neg he];rw [if_neg he] at h3;rw [vR hn h3.2];dsimp only;rw [show (((x - 2).toNat:Nat):Int)+2=x by omega]
theorem Has.unique {D:List Node} (hn:D.Nodup) {k:Nat} {f:Fn} {v x y:Int} (h1:Has D k f v x) (h2:Has D k f v y):x=y:=by
 have a:=cD hn h1;have b:=cD hn h2;rw [a] at b;exact (Prod.mk.inj b).2
theorem Has.congr {D:List Node}:∀ {k:Nat} {f g:Fn} {v x:Int},(∀ l,l.length=k→f l=g l)→Has D k f v x→Has D k g v x
 | 0,f,g,v,x,h,hh=>by
  have hh:x=aY (f []):=hh;show x=aY (g []);rw [← h [] rfl];exact hh
 | k+1,f,g,v,x,h,⟨lo,hi,h1,h2,h3⟩=>⟨lo,hi,h1.congr λl hl=>h _ (by simp [hl]),h2.congr λl hl=>h _ (by simp [hl]),h3⟩
theorem bO:∀ {k:Nat} {D:List Node} {f g:Fn} {v:Int},(∀ l,l.length=k→f l=g l)→aE D k f v=aE D k g v
 | 0,D,f,g,v,h=>by show (D,aY (f []))=(D,aY (g []));rw [h [] rfl]
 | k+1,D,f,g,v,h=>by
  show bH (aE (aE D k (λl=>f (false :: l)) (v+1)).1 k (λl=>f (true :: l)) (v+1)).1 _=bH (aE (aE D k (λl=>g (false :: l)) (v+1)).1 k (λl=>g (true :: l)) (v+1)).1 _;rw [bO (k:=k) (D:=D) (f:=λl=>f (false :: l)) (g:=λl=>g (false :: l)) λl hl=>h _ (by simp [hl])];rw [bO (k:=k) (f:=λl=>f (true :: l)) (g:=λl=>g (true :: l)) λl hl=>h _ (by simp [hl])]
theorem Has.skip {D:List Node} {k:Nat} {f:Fn} {v x:Int} (h:∀ l,l.length=k→f (false :: l)=f (true :: l)) (hh:Has D k (λl=>f (false :: l)) (v+1) x):Has D (k+1) f v x:=
 ⟨x,x,hh,hh.congr h,by rw [if_pos rfl]⟩
theorem Has.unskip {D:List Node} (hn:D.Nodup) {k:Nat} {f:Fn} {v x:Int} (h:∀ l,l.length=k→f (false :: l)=f (true :: l)) (hh:Has D (k+1) f v x):Has D k (λl=>f (false :: l)) (v+1) x:=by
 obtain⟨lo,hi,h1,h2,h3⟩:=hh;have he:lo=hi:=Has.unique hn (h1.congr h) h2;rw [if_pos he] at h3;rw [h3];exact h1
theorem Has.const {D:List Node} (c:Bool):∀ {k:Nat} {f:Fn} {v:Int},(∀ l,l.length=k→f l=c)→Has D k f v (aY c)
 | 0,f,v,h=>by show aY c=aY (f []);rw [h [] rfl]
 | k+1,f,v,h=>Has.skip (λl hl=>by rw [h _ (by simp [hl]),h _ (by simp [hl])]) (Has.const c λl hl=>h _ (by simp [hl]))
theorem pB {D:List Node} (hn:D.Nodup) {k:Nat} {f:Fn} {v:Int} (h:∀ l,l.length=k→f (false :: l)=f (true :: l)):aE D (k+1) f v=aE D k (λl=>f (false :: l)) (v+1):=by
 have h1:=bY k D (λl=>f (false :: l)) (v+1);have h2:=eR k (λl=>f (false :: l)) (v+1) hn;show bH (aE (aE D k (λl=>f (false :: l)) (v+1)).1 k (λl=>f (true :: l)) (v+1)).1 _=_;rw [cD h2 (h1.congr h)];unfold bH;rw [if_pos rfl]
theorem iW {D:List Node} (hn:D.Nodup) (c:Bool) {k:Nat} {f:Fn} {v:Int} (h:∀ l,l.length=k→f l=c):aE D k f v=(D,aY c):=cD hn (Has.const c h)
def aH (D:List Node) (x:Int):Int:=if x < 2 then 64 else match D[(x - 2).toNat]? with|some n=>n.var|none=>64
def evF (D:List Node) (s:Int→Bool):Nat→Int→Bool
 | 0,x=>decide (x=1)
 | f+1,x=>if x < 2 then decide (x=1) else match D[(x - 2).toNat]? with|some n=>evF D s f (if s n.var=true then n.hi else n.lo)|none=>false
def eD (D:List Node) (x:Int) (s:Int→Bool):Bool:=evF D s x.toNat x
structure WfD (D:List Node):Prop where
 vars:∀ (i:Nat) (n:Node),D[i]?=some n→0≤n.var∧n.var < 64
 lo:∀ (i:Nat) (n:Node),D[i]?=some n→0≤n.lo∧n.lo < (i:Int)+2∧n.var < aH D n.lo
 hi:∀ (i:Nat) (n:Node),D[i]?=some n→0≤n.hi∧n.hi < (i:Int)+2∧n.var < aH D n.hi
 ne:∀ (i:Nat) (n:Node),D[i]?=some n→n.lo≠n.hi
theorem pR {D:List Node} (h:WfD D) (s:Int→Bool):∀ (f:Nat) (x:Int),0≤x→x≤(f:Int)→evF D s f x=evF D s x.toNat x
 | 0,x,h0,h1=>by rw [show x=0 by omega];rfl
 | f+1,x,h0,h1=>by
  by_cases hx:x < 2
  ·rcases (by omega : x = 0 ∨ x = 1) with e | e <;> subst e
   ·rfl
   rfl
  obtain ⟨m, hm⟩ : ∃ m : Nat, x.toNat = m + 1 := ⟨x.toNat - 1, by omega⟩;rw [hm];unfold evF;rw [if_neg hx,if_neg hx]
  cases hn:D[(x - 2).toNat]? with
  | none=>rfl
  | some n=>
   dsimp only;have hl:=h.lo _ n hn;have hh:=h.hi _ n hn;have hc:0≤(if s n.var=true then n.hi else n.lo)∧(if s n.var=true then n.hi else n.lo) < x:=by split<;>omega
   rw [pR h s f _ hc.1 (by omega),pR h s m _ hc.1 (by omega)]
theorem wP (D:List Node) (s:Int→Bool) (b:Bool):eD D (aY b) s=b:=by cases b<;>rfl
theorem dD {D:List Node} (h:WfD D) {x:Int} {n:Node} (hx:2≤x) (hn:D[(x - 2).toNat]?=some n) (s:Int→Bool):eD D x s=eD D (if s n.var=true then n.hi else n.lo) s:=by
 have hl:=h.lo _ n hn;have hh:=h.hi _ n hn;have hc:0≤(if s n.var=true then n.hi else n.lo)∧(if s n.var=true then n.hi else n.lo) < x:=by split<;>omega
 obtain⟨m,hm⟩:∃ m:Nat,x.toNat=m+1:=⟨x.toNat - 1,by omega⟩;unfold eD;rw [hm]
 conv=>lhs;unfold evF
 rw [if_neg (by omega),hn];dsimp only;exact pR h s m _ hc.1 (by omega)
theorem dL {D:List Node} (h:WfD D) {s u:Int→Bool}:∀ (m:Nat) (x:Int),0≤x→x.toNat≤m→(∀ w,aH D x≤w→w < 64→s w=u w)→eD D x s=eD D x u
 | m,x,h0,hm,hs=>by
  by_cases hx:x < 2
  ·rcases (by omega:x=0∨x=1) with e|e<;>subst e<;>rfl
  cases hn:D[(x - 2).toNat]? with
  | none=>
   unfold eD;obtain⟨q,hq⟩:∃ q:Nat,x.toNat=q+1:=⟨x.toNat - 1,by omega⟩;rw [hq];unfold evF;rw [if_neg hx,if_neg hx,hn]
  | some n=>
   have hvx:aH D x=n.var:=by unfold aH;rw [if_neg hx,hn]
   have hl:=h.lo _ n hn;have hh:=h.hi _ n hn;have hv:=h.vars _ n hn;rw [dD h (by omega) hn,dD h (by omega) hn,hs n.var (by omega) hv.2]
   cases m with
   | zero=>omega
   | succ m=>
    split
    ·exact dL h m _ hh.1 (by omega) λw hw hw2=>hs w (by omega) hw2
    exact dL h m _ hl.1 (by omega) λw hw hw2=>hs w (by omega) hw2
def asg (v:Int) (l:List Bool):Int→Bool:=λw=>decide (v≤w)&&l.getD (w - v).toNat false
theorem gS {v:Int} {b:Bool} {l:List Bool} {w:Int} (h:v < w):asg v (b :: l) w=asg (v+1) l w:=by
 unfold asg;rw [decide_eq_true (show v≤w by omega),decide_eq_true (show v+1≤w by omega),show (w - v).toNat=(w - (v+1)).toNat+1 by omega];rfl
theorem mF (v:Int) (b:Bool) (l:List Bool):asg v (b :: l) v=b:=by
 unfold asg;rw [decide_eq_true (Int.le_refl v),Int.sub_self];rfl
def fnD (D:List Node) (x v:Int):Fn:=λl=>eD D x (asg v l)
def InD (D:List Node) (x:Int):Prop:=0≤x∧x < (D.length:Int)+2
theorem InD.get {D:List Node} {x:Int} (h:InD D x) (hx:2≤x):∃ n,D[(x - 2).toNat]?=some n:=⟨_,zQR (by have:=h.2;omega)⟩
theorem dV {D:List Node} (h:WfD D) (x:Int):aH D x≤64:=by
 unfold aH;split
 ·omega
 split
 ·rename_i n hn;have:=h.vars _ n hn;omega
 omega
theorem jU {D:List Node} (h:WfD D) {x v:Int} (h0:0≤x) (hv:v < aH D x) (b:Bool) (l:List Bool):fnD D x v (b :: l)=fnD D x (v+1) l:=
 dL h x.toNat x h0 (zQW _) λw hw _=>gS (by omega)
theorem gQ {D:List Node} (h:WfD D):∀ (k:Nat) (x v:Int),InD D x→v≤aH D x→(aH D x < 64→aH D x < v+k)→(∀ (i:Nat) (n:Node),D[i]?=some n→n.var < v+k)→Has D k (fnD D x v) v x
 | 0,x,v,hx,hv,hw,hall=>by
  have hlt:x < 2:=by
   rcases Int.lt_or_le x 2 with h1|h1
   ·exact h1
   obtain⟨n,hn⟩:=hx.get h1;have hvx:aH D x=n.var:=by unfold aH;rw [if_neg (by omega),hn]
   have:=hall _ n hn;omega
  have h0:=hx.1;rcases (by omega:x=0∨x=1) with e|e<;>subst e<;>rfl
 | k+1,x,v,hx,hv,hw,hall=>by
  by_cases he:aH D x=v∧2≤x
  ·obtain⟨n,hn⟩:=hx.get he.2;have hvx:aH D x=n.var:=by unfold aH;rw [if_neg (by omega),hn]
   have hl:=h.lo _ n hn;have hh:=h.hi _ n hn;have hin:∀ c:Int,0≤c→c < (((x - 2).toNat:Nat):Int)+2→InD D c:=λc a b=>⟨a,by have:=hx.2;omega⟩
   have sub:∀ c:Int,InD D c→aH D c < 64→aH D c < v+1+(k:Int):=λc hc hc2=>by
    unfold aH at hc2 ⊢;by_cases h2:c < 2
    ·rw [if_pos h2] at hc2;omega
    obtain ⟨q, hq⟩ := hc.get (by omega);rw [if_neg h2,hq];have:=hall _ q hq;dsimp only;omega
   have f0:∀ l:List Bool,fnD D x v (false :: l)=fnD D n.lo (v+1) l:=λl=>by
    show eD D x _=eD D n.lo _;rw [dD h he.2 hn,show n.var=v by omega,mF,if_neg (by simp)];exact dL h n.lo.toNat n.lo hl.1 (zQW _) λw hw2 _=>gS (by omega)
   have f1:∀ l:List Bool,fnD D x v (true :: l)=fnD D n.hi (v+1) l:=λl=>by
    show eD D x _=eD D n.hi _;rw [dD h he.2 hn,show n.var=v by omega,mF,if_pos rfl];exact dL h n.hi.toNat n.hi hh.1 (zQW _) λw hw2 _=>gS (by omega)
   refine⟨n.lo,n.hi,?_,?_,?_⟩
   ·exact (gQ h k n.lo (v+1) (hin _ hl.1 hl.2.1) (by omega) (sub _ (hin _ hl.1 hl.2.1)) λi q hq=>by have:=hall i q hq;omega).congr λl _=>(f0 l).symm
   ·exact (gQ h k n.hi (v+1) (hin _ hh.1 hh.2.1) (by omega) (sub _ (hin _ hh.1 hh.2.1)) λi q hq=>by have:=hall i q hq;omega).congr λl _=>(f1 l).symm
   rw [if_neg (h.ne _ n hn)];refine⟨he.2,?_⟩;rw [hn,show v=n.var by omega]
  have hlt : v < aH D x ∨ x < 2 := by omega
  have hsk:∀ (b:Bool) (l:List Bool),fnD D x v (b :: l)=fnD D x (v+1) l:=λb l=>by
   rcases hlt with h1|h1
   ·exact jU h hx.1 h1 b l
   have h0:=hx.1;rcases (by omega:x=0∨x=1) with e|e<;>subst e<;>rfl
  have hv2:v+1≤aH D x∨x < 2:=by omega
  refine Has.skip (λl _=>by rw [hsk,hsk]) ?_;by_cases h2:x < 2
  ·have h0:=hx.1;have hb:x=aY (decide (x=1)):=by rcases (by omega:x=0∨x=1) with e|e<;>subst e<;>rfl
   have hcst:∀ l:List Bool,fnD D x v (false :: l)=decide (x=1):=λl=>by rcases (by omega:x=0∨x=1) with e|e<;>subst e<;>rfl
   have:=Has.const (D:=D) (decide (x=1)) (k:=k) (f:=λl=>fnD D x v (false :: l)) (v:=v+1) (λl _=>hcst l);rw [← hb] at this;exact this
  exact (gQ h k x (v+1) hx (by omega) (λh64=>by have:=hw h64;omega) λi q hq=>by have:=hall i q hq;omega).congr λl _=>(hsk false l).symm
def cE (D:List Node):Nat→Int→Int→Option Int
 | 0,_,_=>none
 | f+1,x,left=>if x < 2∨x < left then some left else match D[(x - 2).toNat]? with
  | none=>none
  | some n=>(cE D f n.lo left).bind λl1=>(cE D f n.hi l1).bind λl2=>if x=l2 then some (l2+1) else none
theorem WfD.take {D:List Node} (h:WfD D) (m:Nat):WfD (D.take m):=by
 have hg:∀ (i:Nat) (n:Node),(D.take m)[i]?=some n→D[i]?=some n∧i < m:=λi n hn=>by
  rw [List.getElem?_take] at hn;split at hn
  ·exact⟨hn,by assumption⟩
  cases hn
 have hv:∀ (i:Nat) (c:Int),i < m→c < (i:Int)+2→aH (D.take m) c=aH D c:=λi c hi hc=>by
  unfold aH;split
  ·rfl
  rw [List.getElem?_take,if_pos (by omega)]
 refine⟨λi n hn=>h.vars i n (hg i n hn).1,λi n hn=>?_,λi n hn=>?_,λi n hn=>h.ne i n (hg i n hn).1⟩
 ·have h1:=hg i n hn;have h2:=h.lo i n h1.1;rw [hv i _ h1.2 h2.2.1];exact h2
 have h1:=hg i n hn;have h2:=h.hi i n h1.1;rw [hv i _ h1.2 h2.2.1];exact h2
theorem lG {D:List Node} (h:WfD D) (m:Nat) (s:Int→Bool):∀ (q:Nat) (x:Int),0≤x→x.toNat≤q→x < (m:Int)+2→eD (D.take m) x s=eD D x s
 | q,x,h0,hq,hm=>by
  by_cases hx:x < 2
  ·rcases (by omega:x=0∨x=1) with e|e<;>subst e<;>rfl
  have hg : (D.take m)[(x - 2).toNat]? = D[(x - 2).toNat]? := by rw [List.getElem?_take, if_pos (by omega)]
  cases hn:D[(x - 2).toNat]? with
  | none=>
   unfold eD;obtain⟨z,hz⟩:∃ z:Nat,x.toNat=z+1:=⟨x.toNat - 1,by omega⟩;rw [hz];unfold evF;rw [if_neg hx,if_neg hx,hg,hn]
  | some n=>
   have hl:=h.lo _ n hn;have hh:=h.hi _ n hn;rw [dD (h.take m) (by omega) (hg.trans hn),dD h (by omega) hn]
   cases q with
   | zero=>omega
   | succ q=>
    split
    ·exact lG h m s q _ hh.1 (by omega) (by omega)
    exact lG h m s q _ hl.1 (by omega) (by omega)
theorem qY {D:List Node} {m:Nat} {c:Int} (hc:c < (m:Int)+2):aH (D.take m) c=aH D c:=by
 unfold aH;split
 ·rfl
 rw [List.getElem?_take,if_pos (by omega)]
theorem qCP {D:List Node} (h:WfD D) {m:Nat} {x v:Int} (h0:0≤x) (hx:x < (m:Int)+2) (l:List Bool):fnD (D.take m) x v l=fnD D x v l:=lG h m _ x.toNat x h0 (zQW _) hx
theorem qAV {D:List Node} (h:WfD D) {x:Int} {n:Node} (hx:2≤x) (hn:D[(x - 2).toNat]?=some n) (l:List Bool):fnD D x n.var (false :: l)=fnD D n.lo (n.var+1) l:=by
 have hl:=h.lo _ n hn;show eD D x _=eD D n.lo _;rw [dD h hx hn,mF,if_neg (by simp)];exact dL h n.lo.toNat n.lo hl.1 (zQW _) λw hw2 _=>gS (by omega)
theorem qAX {D:List Node} (h:WfD D) {x:Int} {n:Node} (hx:2≤x) (hn:D[(x - 2).toNat]?=some n) (l:List Bool):fnD D x n.var (true :: l)=fnD D n.hi (n.var+1) l:=by
 have hl:=h.hi _ n hn;show eD D x _=eD D n.hi _;rw [dD h hx hn,mF,if_pos rfl];exact dL h n.hi.toNat n.hi hl.1 (zQW _) λw hw2 _=>gS (by omega)
theorem xU {D:List Node} (h:WfD D) (hnd:D.Nodup) {k:Nat} {x v:Int} {m:Nat} (h0:0≤x) (hx:x < (m:Int)+2) (hxl:x < (D.length:Int)+2) (hv:v≤aH D x) (hall:∀ (i:Nat) (n:Node),D[i]?=some n→n.var < v+k):aE (D.take m) k (fnD D x v) v=(D.take m,x):=by
 have hin:InD (D.take m) x:=⟨h0,by rw [List.length_take];omega⟩
 have hall2:∀ (i:Nat) (n:Node),(D.take m)[i]?=some n→n.var < v+k:=λi n hn=>by
  rw [List.getElem?_take] at hn;split at hn
  ·exact hall i n hn
  cases hn
 refine cD (hnd.sublist (List.take_sublist m D)) ?_;refine (gQ (h.take m) k x v hin (by rw [qY hx];exact hv) (λhlt=>?_) hall2).congr λl _=>qCP h h0 hx l;rw [qY hx] at hlt ⊢;unfold aH at hlt ⊢;by_cases h2:x < 2
 ·rw [if_pos h2] at hlt;omega
 obtain ⟨n, hn⟩ := (show InD D x from ⟨h0, hxl⟩).get (by omega);rw [if_neg h2,hn];have:=hall _ n hn;dsimp only;omega
theorem oI {D:List Node} (h:WfD D) (hnd:D.Nodup):∀ (f k:Nat) (x v left left':Int),cE D f x left=some left'→InD D x→2≤left→left≤(D.length:Int)+2→v≤aH D x→(∀ (i:Nat) (n:Node),D[i]?=some n→n.var < v+k)→aE (D.take (left - 2).toNat) k (fnD D x v) v=(D.take (left' - 2).toNat,x)∧left≤left'∧left'≤(D.length:Int)+2
 | 0,k,x,v,left,left',hvis,_,_,_,_,_=>by cases hvis
 | f+1,k,x,v,left,left',hvis,hx,hl1,hl2,hv,hall=>by
  by_cases hs:x < 2∨x < left
  ·unfold cE at hvis;rw [if_pos hs] at hvis;cases hvis;exact⟨xU h hnd hx.1 (by omega) hx.2 hv hall,by omega,hl2⟩
  have hx2 : 2 ≤ x := by omega
  obtain⟨n,hn⟩:=hx.get hx2;have hvx:aH D x=n.var:=by unfold aH;rw [if_neg (by omega),hn]
  have hvis0:=hvis;unfold cE at hvis;rw [if_neg hs,hn] at hvis;dsimp only at hvis
  cases e1:cE D f n.lo left with
  | none=>rw [e1] at hvis;cases hvis
  | some l1=>
   rw [e1] at hvis;simp only [Option.bind_some] at hvis
   cases e2:cE D f n.hi l1 with
   | none=>rw [e2] at hvis;cases hvis
   | some l2=>
    rw [e2] at hvis;simp only [Option.bind_some] at hvis;by_cases hxl:x=l2
    ·rw [if_pos hxl] at hvis;have hl':left'=l2+1:=(Option.some.inj hvis).symm;have hlo:=h.lo _ n hn;have hhi:=h.hi _ n hn;have hvars:=h.vars _ n hn;have inlo:InD D n.lo:=⟨hlo.1,by have:=hx.2;omega⟩;have inhi:InD D n.hi:=⟨hhi.1,by have:=hx.2;omega⟩
     have down:∀ (d:Nat) (v:Int) (k:Nat),n.var=v+d→(∀ (i:Nat) (n:Node),D[i]?=some n→n.var < v+k)→aE (D.take (left - 2).toNat) k (fnD D x v) v=(D.take (left' - 2).toNat,x)∧left≤left'∧left'≤(D.length:Int)+2:=by
      intro d
      induction d with
      | zero=>
       intro v k hd hall;have hvn:v=n.var:=by omega
       subst hvn;have hk:=hall _ n hn;obtain⟨q,rfl⟩:∃ q,k=q+1:=⟨k - 1,by omega⟩;have hall':∀ (i:Nat) (z:Node),D[i]?=some z→z.var < n.var+1+q:=λi z hz=>by have:=hall i z hz;omega
       have r1:=oI h hnd f q n.lo (n.var+1) left l1 e1 inlo hl1 hl2 (by omega) hall';have r2:=oI h hnd f q n.hi (n.var+1) l1 l2 e2 inhi (by omega) r1.2.2 (by omega) hall'
       have f0:aE (D.take (left - 2).toNat) q (λl=>fnD D x n.var (false :: l)) (n.var+1)=(D.take (l1 - 2).toNat,n.lo):=by
        rw [bO (g:=fnD D n.lo (n.var+1)) λl _=>qAV h hx2 hn l];exact r1.1
       have f1:aE (D.take (l1 - 2).toNat) q (λl=>fnD D x n.var (true :: l)) (n.var+1)=(D.take (l2 - 2).toNat,n.hi):=by
        rw [bO (g:=fnD D n.hi (n.var+1)) λl _=>qAX h hx2 hn l];exact r2.1
       refine⟨?_,by omega,by have:=hx.2;omega⟩;show bH (aE (aE (D.take (left - 2).toNat) q (λl=>fnD D x n.var (false :: l)) (n.var+1)).1 q (λl=>fnD D x n.var (true :: l)) (n.var+1)).1 _=_;rw [f0];dsimp only;rw [f1];unfold bH;dsimp only;rw [if_neg (h.ne _ n hn)]
       have hnf:(D.take (l2 - 2).toNat).findIdx? (λm=>decide (m=n))=none:=by
        rw [List.findIdx?_eq_none_iff];intro z hz;refine decide_eq_false λhe=>?_;subst he;obtain⟨i,hi,hie⟩:=List.mem_take_iff_getElem.1 hz;have hxl2:(x - 2).toNat < D.length:=(zQQ.1 hn).1
        have hne:D[i]'(by omega)≠D[(x - 2).toNat]:=by
         unfold List.Nodup at hnd;rw [List.pairwise_iff_getElem] at hnd;exact hnd i _ (by omega) hxl2 (by omega)
        exact hne (by rw [hie,(zQQ.1 hn).2])
       rw [hnf];dsimp only;have hlen:(D.take (l2 - 2).toNat).length=(l2 - 2).toNat:=by rw [List.length_take];have:=hx.2;omega
       rw [hlen,show (((l2 - 2).toNat:Nat):Int)+2=x by omega,show (left' - 2).toNat=(l2 - 2).toNat+1 by omega,List.take_add_one,show (l2 - 2).toNat=(x - 2).toNat by omega,hn];rfl
      | succ d ih=>
       intro v k hd hall;have hk:=hall _ n hn;obtain⟨q,rfl⟩:∃ q,k=q+1:=⟨k - 1,by omega⟩;have hsk:∀ (b:Bool) (l:List Bool),fnD D x v (b :: l)=fnD D x (v+1) l:=λb l=>jU h hx.1 (by omega) b l;rw [pB (hnd.sublist (List.take_sublist _ D)) λl _=>by rw [hsk,hsk],bO (g:=fnD D x (v+1)) λl _=>hsk false l];exact ih (v+1) q (by omega) λi z hz=>by have:=hall i z hz;omega
     exact down (n.var - v).toNat v k (by omega) hall
    rw [if_neg hxl] at hvis;cases hvis
theorem vA {D:List Node} (h:WfD D) (hnd:D.Nodup) {f:Nat} {root:Int} (hr:InD D root) (hv:cE D f root 2=some ((D.length:Int)+2)) {k:Nat} (hall:∀ (i:Nat) (n:Node),D[i]?=some n→n.var < (k:Int)):aE [] k (fnD D root 0) 0=(D,root):=by
 have h0:(0:Int)≤aH D root:=by
  unfold aH;split
  ·omega
  split
  ·rename_i n hn;exact (h.vars _ n hn).1
  omega
 have:=(oI h hnd f k root 0 2 _ hv hr (by omega) (by omega) h0 λi n hn=>by have:=hall i n hn;omega).1;rw [show (D.take (((2:Int) - 2).toNat))=[] from rfl] at this;rw [this,show ((D.length:Int)+2 - 2).toNat=D.length by omega,List.take_length]
def dP (x:Int):Int:=if x < 2 then 1 - x else x
def eG (n:Node):Node:=⟨n.var,dP n.lo,dP n.hi⟩
def NN (D:List Node):Prop:=∀ n∈D,0≤n.lo∧0≤n.hi
theorem pO {x y:Int} (hx:0≤x) (hy:0≤y):dP x=dP y↔x=y:=by unfold dP;split<;>split<;>omega
theorem qAA {n m:Node} (hn:0≤n.lo∧0≤n.hi) (hm:0≤m.lo∧0≤m.hi):eG n=eG m↔n=m:=by
 cases n;cases m;simp only [eG,Node.mk.injEq] at *;rw [pO hn.1 hm.1,pO hn.2 hm.2]
theorem qEB {D:List Node} (h:NN D) {n:Node} (hn:0≤n.lo∧0≤n.hi):NN (bH D n).1∧0≤(bH D n).2:=by
 unfold bH;split
 ·exact⟨h,hn.1⟩
 split
 ·exact⟨h,by dsimp only;omega⟩
 refine ⟨fun m hm => ?_, by dsimp only; omega⟩;rcases zQN.1 hm with hm|hm
 ·exact h m hm
 rw [List.mem_singleton] at hm;subst hm;exact hn
theorem lQ:∀ (k:Nat) {D:List Node} (f:Fn) (v:Int),NN D→NN (aE D k f v).1∧0≤(aE D k f v).2
 | 0,D,f,v,h=>⟨h,by show 0≤aY _;unfold aY;split<;>omega⟩
 | k+1,D,f,v,h=>by
  have h1:=lQ k (λl=>f (false :: l)) (v+1) h;have h2:=lQ k (λl=>f (true :: l)) (v+1) h1.1;exact qEB h2.1 ⟨h1.2,h2.2⟩
theorem qBN {D:List Node} (h:NN D) {n:Node} (hn:0≤n.lo∧0≤n.hi):bH (D.map eG) (eG n)=((bH D n).1.map eG,dP (bH D n).2):=by
 unfold bH;by_cases he:n.lo=n.hi
 ·rw [if_pos (show (eG n).lo = (eG n).hi by show dP n.lo = dP n.hi; rw [he]), if_pos he];rfl
 rw [if_neg (show ¬ (eG n).lo = (eG n).hi by show ¬ dP n.lo = dP n.hi; rw [pO hn.1 hn.2]; exact he), if_neg he, List.findIdx?_map]
 have hc:D.findIdx? ((λm=>decide (m=eG n)) ∘ eG)=D.findIdx? (λm=>decide (m=n)):=by
  have:∀ E:List Node,NN E→E.findIdx? ((λm=>decide (m=eG n)) ∘ eG)=E.findIdx? (λm=>decide (m=n)):=by
   intro E
   induction E with
   | nil=>intro _;rfl
   | cons m r ih=>
    intro hE;rw [List.findIdx?_cons,List.findIdx?_cons,ih λx hx=>hE x (List.mem_cons_of_mem _ hx)]
    have hm:((λm=>decide (m=eG n)) ∘ eG) m=decide (m=n):=by
     show decide (eG m=eG n)=decide (m=n);rw [Bool.eq_iff_iff,decide_eq_true_eq,decide_eq_true_eq,qAA (hE m List.mem_cons_self) hn]
    rw [hm]
  exact this D h
 rw [hc]
 cases D.findIdx? (λm=>decide (m=n)) with
 | some i=>dsimp only;rw [show dP ((i:Int)+2)=(i:Int)+2 by unfold dP;rw [if_neg (by omega)]]
 | none=>
  dsimp only;rw [zQC,List.map_append,show dP ((D.length:Int)+2)=(D.length:Int)+2 by unfold dP;rw [if_neg (by omega)]];rfl
theorem oZ : ∀ (k : Nat) {D : List Node} (f : Fn) (v : Int), NN D → aE (D.map eG) k (fun l => !f l) v = ((aE D k f v).1.map eG, dP (aE D k f v).2)
 | 0,D,f,v,h=>by
  show (D.map eG,aY (!f []))=(D.map eG,dP (aY (f [])));cases f []<;>rfl
 | k+1,D,f,v,h=>by
  have h1:=lQ k (λl=>f (false :: l)) (v+1) h;have h2:=lQ k (λl=>f (true :: l)) (v+1) h1.1;show bH (aE (aE (D.map eG) k (λl=>!f (false :: l)) (v+1)).1 k (λl=>!f (true :: l)) (v+1)).1 _=_;rw [oZ k (λl=>f (false :: l)) (v+1) h];dsimp only;rw [oZ k (λl=>f (true :: l)) (v+1) h1.1];dsimp only;exact qBN h2.1 (n:=⟨v,(aE D k (λl=>f (false :: l)) (v+1)).2,(aE (aE D k (λl=>f (false :: l)) (v+1)).1 k (λl=>f (true :: l)) (v+1)).2⟩) ⟨h1.2,h2.2⟩
theorem mH (D:List Node) (n:Node):(bH D n).1.length≤D.length+1:=by
 unfold bH;split
 ·simp
 split
 ·simp
 simp
theorem eH:∀ (k:Nat) (D:List Node) (f:Fn) (v:Int),(aE D k f v).1.length+1≤D.length+2 ^ k
 | 0,D,f,v=>by show D.length+1≤D.length+2 ^ 0;simp
 | k+1,D,f,v=>by
  have h1:=eH k D (λl=>f (false :: l)) (v+1);have h2:=eH k (aE D k (λl=>f (false :: l)) (v+1)).1 (λl=>f (true :: l)) (v+1);have h3:=mH (aE (aE D k (λl=>f (false :: l)) (v+1)).1 k (λl=>f (true :: l)) (v+1)).1 ⟨v,(aE D k (λl=>f (false :: l)) (v+1)).2,(aE (aE D k (λl=>f (false :: l)) (v+1)).1 k (λl=>f (true :: l)) (v+1)).2⟩;have h4:(aE D (k+1) f v).1.length≤(aE (aE D k (λl=>f (false :: l)) (v+1)).1 k (λl=>f (true :: l)) (v+1)).1.length+1:=h3;rw [Nat.pow_succ];omega
section merge
variable (A B:List Node) (op:Bool→Bool→Bool) (N:Int)
def fn2 (x y v:Int):Fn:=λl=>op (fnD A x v l) (fnD B y v l)
def Has2 (D:List Node) (x y r:Int):Prop:=∀ (v:Int) (k:Nat),v+k=N→v≤aH A x→v≤aH B y→Has D k (fn2 A B op x y v) v r
variable {A B} {op N}
theorem pN (hA:WfD A) (hB:WfD B) {x y v:Int} (hx:0≤x) (hy:0≤y) (h1:v < aH A x) (h2:v < aH B y) (b:Bool) (l:List Bool):fn2 A B op x y v (b :: l)=fn2 A B op x y (v+1) l:=by
 unfold fn2;rw [jU hA hx h1,jU hB hy h2]
theorem qCM (hA:WfD A) (hB:WfD B) {D:List Node} (hn:D.Nodup) {x y r:Int} (hx:0≤x) (hy:0≤y) {v:Int} {k:Nat} (hN:v+k=N) (h1:v≤aH A x) (h2:v≤aH B y) (h:Has D k (fn2 A B op x y v) v r):Has2 A B op N D x y r:=by
 have up:∀ (d:Nat) (v:Int) (k:Nat),v+d+k=N→v+d≤aH A x→v+d≤aH B y→Has D (d+k) (fn2 A B op x y v) v r→Has D k (fn2 A B op x y (v+d)) (v+d) r:=by
  intro d
  induction d with
  | zero=>intro v k _ _ _ h;simpa using h
  | succ d ih=>
   intro v k hN h1 h2 h;have hs:∀ (b:Bool) (l:List Bool),fn2 A B op x y v (b :: l)=fn2 A B op x y (v+1) l:=λb l=>pN hA hB hx hy (by omega) (by omega) b l;rw [show d+1+k=(d+k)+1 by omega] at h;have h':=Has.unskip hn (λl _=>by rw [hs,hs]) h;have h'':=h'.congr (g:=fn2 A B op x y (v+1)) λl _=>hs false l;have:=ih (v+1) k (by omega) (by omega) (by omega) h'';rw [show v+((d+1:Nat):Int)=v+1+(d:Int) by omega];exact this
 have down:∀ (d:Nat) (v:Int) (k:Nat),v+d+k=N→v+d≤aH A x→v+d≤aH B y→Has D k (fn2 A B op x y (v+d)) (v+d) r→Has D (d+k) (fn2 A B op x y v) v r:=by
  intro d
  induction d with
  | zero=>intro v k _ _ _ h;simpa using h
  | succ d ih=>
   intro v k hN h1 h2 h;have hs:∀ (b:Bool) (l:List Bool),fn2 A B op x y v (b :: l)=fn2 A B op x y (v+1) l:=λb l=>pN hA hB hx hy (by omega) (by omega) b l;rw [show v+((d+1:Nat):Int)=v+1+(d:Int) by omega] at h;have:=ih (v+1) k (by omega) (by omega) (by omega) h;rw [show d+1+k=(d+k)+1 by omega];exact Has.skip (λl _=>by rw [hs,hs]) (this.congr λl _=>(hs false l).symm)
 intro v' k' hN' h1' h2';rcases Int.lt_or_le v v' with hlt|hle
 ·have := up (v' - v).toNat v k' (by omega) (by omega) (by omega) (by rw [show (v' - v).toNat + k' = k by omega]; exact h)
  rwa [show v+((v' - v).toNat:Int)=v' by omega] at this
 have := down (v - v').toNat v' k (by omega) (by omega) (by omega) (by rw [show v' + ((v - v').toNat : Int) = v by omega]; exact h)
 rwa [show (v - v').toNat+k=k' by omega] at this
theorem Has2.mono {D E:List Node} (h:D <+: E) {x y r:Int} (hh:Has2 A B op N D x y r):Has2 A B op N E x y r:=λv k hN h1 h2=>(hh v k hN h1 h2).mono h
end merge
structure MS where
 nodes:List Node
 done:Int×Int→Option Int
 full:Bool
def cR (D:List Node) (x v:Int):Int×Int:=if aH D x=v then (match D[(x - 2).toNat]? with|some n=>(n.lo,n.hi)|none=>(x,x)) else (x,x)
def opQ (all:Bool):Bool→Bool→Bool:=λa b=>if all=true then a&&b else a||b
def dB (A B:List Node) (all:Bool):Nat→MS→Int→Int→MS×Int
 | 0,s,_,_=>(s,0)
 | f+1,s,x,y=>
  if s.full=true then (s,0)
  else if x=aY (!all)∨y=aY (!all) then (s,aY (!all))
  else if x=aY all∧y=aY all then (s,aY all)
  else match s.done (x,y) with
  | some r=>(s,r)
  | none=>
   let w:=min (aH A x) (aH B y)
   let a:=dB A B all f s (cR A x w).1 (cR B y w).1
   let b:=dB A B all f a.1 (cR A x w).2 (cR B y w).2
   let c:=bH b.1.nodes ⟨w,a.2,b.2⟩
   (⟨c.1,λp=>if p=(x,y) then some c.2 else b.1.done p,b.1.full||decide (20000 < c.1.length)⟩,c.2)
section
variable {A B:List Node} {all:Bool} {N:Int}
structure MOk (A B:List Node) (all:Bool) (N:Int) (s:MS):Prop where
 nodup:s.nodes.Nodup
 part:s.full=false
 done:∀ x y r,s.done (x,y)=some r→InD A x∧InD B y∧Has2 A B (opQ all) N s.nodes x y r
theorem mB {D:List Node} {x:Int} (h:InD D x) (hx:x < 2):x=aY (decide (x=1))∧∀ (v:Int) (l:List Bool),fnD D x v l=decide (x=1):=by
 have h0:=h.1;rcases (by omega:x=0∨x=1) with e|e<;>subst e
 ·exact⟨rfl,λv l=>rfl⟩
 exact⟨rfl,λv l=>rfl⟩
theorem qAB (all b:Bool):opQ all (!all) b=!all∧opQ all b (!all)=!all:=by cases all<;>cases b<;>exact⟨rfl,rfl⟩
theorem op_oth (all:Bool):opQ all all all=all:=by cases all<;>rfl
theorem vZ (D:List Node) (b:Bool) (v:Int) (l:List Bool):fnD D (aY b) v l=b:=wP D _ b
theorem xG (hA:WfD A) (hB:WfD B) {op:Bool→Bool→Bool} {D:List Node} (hn:D.Nodup) {x y:Int} (hx:0≤x) (hy:0≤y):∀ (d:Nat) (v:Int) (k:Nat),v+d≤aH A x→v+d≤aH B y→aE D (d+k) (fn2 A B op x y v) v=aE D k (fn2 A B op x y (v+d)) (v+d)
 | 0,v,k,_,_=>by simp
 | d+1,v,k,h1,h2=>by
  have hs:∀ (b:Bool) (l:List Bool),fn2 A B op x y v (b :: l)=fn2 A B op x y (v+1) l:=λb l=>pN hA hB hx hy (by omega) (by omega) b l;rw [show d+1+k=(d+k)+1 by omega,pB hn λl _=>by rw [hs,hs],bO (g:=fn2 A B op x y (v+1)) λl _=>hs false l,xG hA hB hn hx hy d (v+1) k (by omega) (by omega)];rw [show v+1+(d:Int)=v+((d+1:Nat):Int) by omega]
theorem oA {D:List Node} (h:WfD D) {x w:Int} (hx:InD D x) (hw:w≤aH D x) (hw2:w < 64):InD D (cR D x w).1∧InD D (cR D x w).2∧w+1≤aH D (cR D x w).1∧w+1≤aH D (cR D x w).2∧(∀ l,fnD D x w (false :: l)=fnD D (cR D x w).1 (w+1) l)∧(∀ l,fnD D x w (true :: l)=fnD D (cR D x w).2 (w+1) l):=by
 unfold cR;by_cases he:aH D x=w
 ·rw [if_pos he]
  have h2:2≤x:=by
   rcases Int.lt_or_le x 2 with h1|h1
   ·unfold aH at he;rw [if_pos h1] at he;omega
   exact h1
  obtain⟨n,hn⟩:=hx.get h2;have hvx:aH D x=n.var:=by unfold aH;rw [if_neg (by omega),hn]
  have hl:=h.lo _ n hn;have hh:=h.hi _ n hn;rw [hn];dsimp only;have hwn:w=n.var:=by omega
  subst hwn;exact⟨⟨hl.1,by have:=hx.2;omega⟩,⟨hh.1,by have:=hx.2;omega⟩,by omega,by omega,qAV h h2 hn,qAX h h2 hn⟩
 rw [if_neg he];exact⟨hx,hx,by dsimp only;omega,by dsimp only;omega,λl=>jU h hx.1 (by omega) false l,λl=>jU h hx.1 (by omega) true l⟩
theorem fR (hA:WfD A) (hB:WfD B) (hN:N≤64) (hAN:∀ (i:Nat) (n:Node),A[i]?=some n→n.var < N) (hBN:∀ (i:Nat) (n:Node),B[i]?=some n→n.var < N):∀ (f:Nat) (s:MS) (x y v:Int) (k:Nat),65≤(f:Int)+min (aH A x) (aH B y)→InD A x→InD B y→MOk A B all N s→v+k=N→v≤aH A x→v≤aH B y→s.nodes.length+2 ^ k≤20001→
  ((dB A B all f s x y).1.nodes,(dB A B all f s x y).2)=aE s.nodes k (fn2 A B (opQ all) x y v) v∧MOk A B all N (dB A B all f s x y).1
 | 0,s,x,y,v,k,hf,hx,hy,hs,hv,h1,h2,hlen=>by
  have:=dV hA x;omega
 | f+1,s,x,y,v,k,hf,hx,hy,hs,hv,h1,h2,hlen=>by
  unfold dB;rw [if_neg (by rw [hs.part];exact Bool.false_ne_true)];by_cases hd:x=aY (!all)∨y=aY (!all)
  ·rw [if_pos hd];refine⟨?_,hs⟩;rw [iW hs.nodup (!all) λl _=>?_];unfold fn2;rcases hd with e|e<;>rw [e,vZ]
   ·exact (qAB all _).1
   exact (qAB all _).2
  rw [if_neg hd];by_cases ho:x=aY all∧y=aY all
  ·rw [if_pos ho];refine⟨?_,hs⟩;rw [iW hs.nodup all λl _=>?_];unfold fn2;rw [ho.1,ho.2,vZ,vZ];exact op_oth all
  rw [if_neg ho]
  cases hm:s.done (x,y) with
  | some r=>
   dsimp only;refine⟨?_,hs⟩;exact (cD hs.nodup ((hs.done x y r hm).2.2 v k hv h1 h2)).symm
  | none=>
   dsimp only;have hvA:=dV hA x;have hvB:=dV hB y
   have hlt:min (aH A x) (aH B y) < N:=by
    rcases Int.lt_or_le x 2 with hx2|hx2
    ·rcases Int.lt_or_le y 2 with hy2|hy2
     ·exfalso;have cx:=(mB hx hx2).1;have cy:=(mB hy hy2).1;have bb:∀ b:Bool,aY b=aY all∨aY b=aY (!all):=λb=>by cases b<;>cases all<;>simp [aY]
      rcases bb (decide (x=1)) with e1|e1
      ·rcases bb (decide (y=1)) with e2|e2
       ·exact ho ⟨cx.trans e1,cy.trans e2⟩
       exact hd (.inr (cy.trans e2))
      exact hd (.inl (cx.trans e1))
     obtain⟨n,hn⟩:=hy.get hy2;have:aH B y=n.var:=by unfold aH;rw [if_neg (by omega),hn]
     have:=hBN _ n hn;omega
    obtain⟨n,hn⟩:=hx.get hx2;have:aH A x=n.var:=by unfold aH;rw [if_neg (by omega),hn]
    have:=hAN _ n hn;omega
   obtain⟨w,hw⟩:∃ w,w=min (aH A x) (aH B y):=⟨_,rfl⟩;rw [← hw];rw [← hw] at hlt hf;obtain⟨d,hdv⟩:∃ d:Nat,w=v+d:=⟨(w - v).toNat,by omega⟩;obtain⟨q,hq⟩:∃ q:Nat,k=d+(q+1):=⟨k - d - 1,by omega⟩;have KA:=oA hA hx (w:=w) (by omega) (by omega);have KB:=oA hB hy (w:=w) (by omega) (by omega);have hpow:2 ^ (q+1)≤2 ^ k:=Nat.pow_le_pow_right (by omega) (by omega);rw [Nat.pow_succ] at hpow;have h2q:0 < 2 ^ q:=Nat.pos_of_ne_zero (by simp)
   have e0:aE s.nodes k (fn2 A B (opQ all) x y v) v=aE s.nodes (q+1) (fn2 A B (opQ all) x y w) w:=by
    rw [hq,xG hA hB hs.nodup hx.1 hy.1 d v (q+1) (by omega) (by omega),← hdv]
   have f0:∀ l:List Bool,fn2 A B (opQ all) x y w (false :: l)=fn2 A B (opQ all) (cR A x w).1 (cR B y w).1 (w+1) l:=λl=>by unfold fn2;rw [KA.2.2.2.2.1,KB.2.2.2.2.1]
   have f1:∀ l:List Bool,fn2 A B (opQ all) x y w (true :: l)=fn2 A B (opQ all) (cR A x w).2 (cR B y w).2 (w+1) l:=λl=>by unfold fn2;rw [KA.2.2.2.2.2,KB.2.2.2.2.2]
   have r1:=fR hA hB hN hAN hBN f s (cR A x w).1 (cR B y w).1 (w+1) q (by omega) KA.1 KB.1 hs (by omega) KA.2.2.1 KB.2.2.1 (by omega);generalize dB A B all f s (cR A x w).1 (cR B y w).1=a at r1;have l1:=eH q s.nodes (fn2 A B (opQ all) (cR A x w).1 (cR B y w).1 (w+1)) (w+1);rw [← r1.1] at l1;dsimp only at l1;have r2:=fR hA hB hN hAN hBN f a.1 (cR A x w).2 (cR B y w).2 (w+1) q (by omega) KA.2.1 KB.2.1 r1.2 (by omega) KA.2.2.2.1 KB.2.2.2.1 (by omega);generalize dB A B all f a.1 (cR A x w).2 (cR B y w).2=b at r2;have l2:=eH q a.1.nodes (fn2 A B (opQ all) (cR A x w).2 (cR B y w).2 (w+1)) (w+1);rw [← r2.1] at l2;dsimp only at l2
   have e1:aE s.nodes (q+1) (fn2 A B (opQ all) x y w) w=bH b.1.nodes ⟨w,a.2,b.2⟩:=by
    show bH (aE (aE s.nodes q (λl=>fn2 A B (opQ all) x y w (false :: l)) (w+1)).1 q (λl=>fn2 A B (opQ all) x y w (true :: l)) (w+1)).1 _=_;rw [bO (g:=fn2 A B (opQ all) (cR A x w).1 (cR B y w).1 (w+1)) λl _=>f0 l,← r1.1];dsimp only;rw [bO (g:=fn2 A B (opQ all) (cR A x w).2 (cR B y w).2 (w+1)) λl _=>f1 l,← r2.1]
   have hp:s.nodes <+: (bH b.1.nodes ⟨w,a.2,b.2⟩).1:=by rw [← e1];exact bB _ _ _ _
   have hp2:=gF b.1.nodes ⟨w,a.2,b.2⟩;have hnd:=qF r2.2.nodup ⟨w,a.2,b.2⟩;have hl:=mH b.1.nodes ⟨w,a.2,b.2⟩
   have hhas:Has (bH b.1.nodes ⟨w,a.2,b.2⟩).1 k (fn2 A B (opQ all) x y v) v (bH b.1.nodes ⟨w,a.2,b.2⟩).2:=by
    have:=bY k s.nodes (fn2 A B (opQ all) x y v) v;rw [e0,e1] at this;exact this
   refine⟨by rw [e0,e1],hnd,?_,λx' y' r' hr'=>?_⟩
   ·dsimp only;rw [r2.2.part,Bool.false_or];exact decide_eq_false (by omega)
   dsimp only at hr' ⊢;by_cases he:(x',y')=(x,y)
   ·rw [if_pos he] at hr';cases hr';obtain⟨rfl,rfl⟩:=Prod.mk.inj he;exact⟨hx,hy,qCM hA hB hnd hx.1 hy.1 hv h1 h2 hhas⟩
   rw [if_neg he] at hr';have:=r2.2.done x' y' r' hr';exact⟨this.1,this.2.1,this.2.2.mono hp2⟩
end
theorem fC {D:List Node} (h:WfD D):∀ {k:Nat} {f:Fn} {v x:Int},Has D k f v x→0≤x∧x < (D.length:Int)+2∧(aH D x < 64→v≤aH D x∧aH D x < v+k)∧∀ l,l.length=k→eD D x (asg v l)=f l
 | 0,f,v,x,hh=>by
  have hx:x=aY (f []):=hh;have hb:x=0∨x=1:=by rw [hx];unfold aY;split<;>simp
  have hv:aH D x=64:=by unfold aH;rw [if_pos (by omega)]
  refine⟨by omega,by omega,λh=>by omega,λl hl=>?_⟩;rw [hx,wP,List.eq_nil_of_length_eq_zero hl]
 | k+1,f,v,x,⟨lo,hi,h1,h2,h3⟩=>by
  have r1:=fC h h1;have r2:=fC h h2;by_cases he:lo=hi
  ·rw [if_pos he] at h3;subst h3;refine⟨r1.1,r1.2.1,λhlt=>by have:=r1.2.2.1 hlt;omega,λl hl=>?_⟩
   cases l with
   | nil=>cases hl
   | cons b l=>
    have hl':l.length=k:=by simpa using hl
    have hcg : eD D x (asg v (b :: l)) = eD D x (asg (v + 1) l) := dL h x.toNat x r1.1 (zQW _) fun w hw hw2 => gS (by
     have := r1.2.2.1 (by have := dV h x; omega)
     omega)
    rw [hcg];cases b
    ·exact r1.2.2.2 l hl'
    rw [← he] at r2;exact r2.2.2.2 l hl'
  rw [if_neg he] at h3;obtain⟨hx2,hn⟩:=h3;have hvx:aH D x=v:=by unfold aH;rw [if_neg (by omega),hn]
  have hlen:=(zQQ.1 hn).1;refine⟨by omega,by omega,λ_=>by omega,λl hl=>?_⟩
  cases l with
  | nil=>cases hl
  | cons b l=>
   have hl':l.length=k:=by simpa using hl
   cases b
   ·have:=qAV h hx2 hn l;dsimp only at this;exact this.trans (r1.2.2.2 l hl')
   have:=qAX h hx2 hn l;dsimp only at this;exact this.trans (r2.2.2.2 l hl')
theorem fN {D E:List Node} (h:D <+: E) {x:Int} (hx:x < (D.length:Int)+2):aH E x=aH D x:=by
 obtain⟨t,rfl⟩:=h;unfold aH;split
 ·rfl
 rw [List.getElem?_append_left (by omega)]
theorem qDZ {D:List Node} (h:WfD D) {n:Node} (hv:0≤n.var∧n.var < 64) (hl:0≤n.lo∧n.lo < (D.length:Int)+2∧n.var < aH D n.lo) (hh:0≤n.hi∧n.hi < (D.length:Int)+2∧n.var < aH D n.hi):WfD (bH D n).1:=by
 unfold bH;by_cases he:n.lo=n.hi
 ·rw [if_pos he];exact h
 rw [if_neg he];split
 ·exact h
 dsimp only;have hp:D <+: D++[n]:=List.prefix_append _ _
 have hc:∀ (i:Nat) (m:Node),(D++[n])[i]?=some m→D[i]?=some m∧i < D.length∨i=D.length∧m=n:=λi m hm=>by
  rcases Nat.lt_or_ge i D.length with h1|h1
  ·rw [List.getElem?_append_left h1] at hm;exact .inl ⟨hm,h1⟩
  rw [List.getElem?_append_right h1] at hm;rcases Nat.eq_or_lt_of_le h1 with h2|h2
  ·rw [← h2,Nat.sub_self] at hm;exact .inr ⟨h2.symm,(Option.some.inj hm).symm⟩
  rw [List.getElem?_eq_none (by simp;omega)] at hm;cases hm
 refine⟨λi m hm=>?_,λi m hm=>?_,λi m hm=>?_,λi m hm=>?_⟩
 ·rcases hc i m hm with ⟨h1,_⟩|⟨_,rfl⟩
  ·exact h.vars i m h1
  exact hv
 ·rcases hc i m hm with ⟨h1,h2⟩|⟨rfl,rfl⟩
  ·have:=h.lo i m h1;rw [fN hp (by omega)];exact this
  rw [fN hp (by omega)];exact hl
 ·rcases hc i m hm with ⟨h1,h2⟩|⟨rfl,rfl⟩
  ·have:=h.hi i m h1;rw [fN hp (by omega)];exact this
  rw [fN hp (by omega)];exact hh
 rcases hc i m hm with ⟨h1,_⟩|⟨_,rfl⟩
 ·exact h.ne i m h1
 exact he
theorem gM:∀ (k:Nat) {D:List Node} (f:Fn) (v:Int),WfD D→0≤v→v+k≤64→WfD (aE D k f v).1
 | 0,D,f,v,h,_,_=>h
 | k+1,D,f,v,h,h0,h64=>by
  have w1:=gM k (λl=>f (false :: l)) (v+1) h (by omega) (by omega);have w2:=gM k (λl=>f (true :: l)) (v+1) w1 (by omega) (by omega);have a1:=(bY k D (λl=>f (false :: l)) (v+1)).mono (bB k (aE D k (λl=>f (false :: l)) (v+1)).1 (λl=>f (true :: l)) (v+1));have a2:=bY k (aE D k (λl=>f (false :: l)) (v+1)).1 (λl=>f (true :: l)) (v+1);have r1:=fC w2 a1;have r2:=fC w2 a2;have q1:=dV w2 (aE D k (λl=>f (false :: l)) (v+1)).2;have q2:=dV w2 (aE (aE D k (λl=>f (false :: l)) (v+1)).1 k (λl=>f (true :: l)) (v+1)).2;refine qDZ w2 (n:=⟨v,(aE D k (λl=>f (false :: l)) (v+1)).2,(aE (aE D k (λl=>f (false :: l)) (v+1)).1 k (λl=>f (true :: l)) (v+1)).2⟩) ⟨h0,by show v < 64;omega⟩ ⟨r1.1,r1.2.1,?_⟩ ⟨r2.1,r2.2.1,?_⟩
  ·dsimp only;have:=r1.2.2.1;omega
  dsimp only;have:=r2.2.2.1;omega
theorem fQ:∀ (k:Nat) (D:List Node) (f:Fn) (v:Int) (i:Nat) (n:Node),(aE D k f v).1[i]?=some n→i < D.length∨v≤n.var∧n.var < v+k
 | 0,D,f,v,i,n,h=>.inl (zQQ.1 h).1
 | k+1,D,f,v,i,n,h=>by
  have s1:=fQ k D (λl=>f (false :: l)) (v+1);have s2:=fQ k (aE D k (λl=>f (false :: l)) (v+1)).1 (λl=>f (true :: l)) (v+1);have p1:=bB k D (λl=>f (false :: l)) (v+1);have h':(bH (aE (aE D k (λl=>f (false :: l)) (v+1)).1 k (λl=>f (true :: l)) (v+1)).1 ⟨v,(aE D k (λl=>f (false :: l)) (v+1)).2,(aE (aE D k (λl=>f (false :: l)) (v+1)).1 k (λl=>f (true :: l)) (v+1)).2⟩).1[i]?=some n:=h
  have two:∀ (i:Nat) (n:Node),(aE (aE D k (λl=>f (false :: l)) (v+1)).1 k (λl=>f (true :: l)) (v+1)).1[i]?=some n→i < D.length∨v≤n.var∧n.var < v+((k+1:Nat):Int):=λi n hn=>by
   rcases s2 i n hn with h1|h1
   ·have hp2 := bB k (aE D k (fun l => f (false :: l)) (v + 1)).1 (fun l => f (true :: l)) (v + 1)
    have hn1:(aE D k (λl=>f (false :: l)) (v+1)).1[i]?=some n:=by
     rw [← hn,fO hp2 (zQR h1),zQR h1]
    rcases s1 i n hn1 with h2|h2
    ·exact .inl h2
    exact .inr ⟨by omega,by omega⟩
   exact .inr ⟨by omega,by omega⟩
  unfold bH at h';dsimp only at h';split at h'
  ·exact two i n h'
  split at h'
  ·exact two i n h'
  dsimp only at h';rcases Nat.lt_or_ge i (aE (aE D k (λl=>f (false :: l)) (v+1)).1 k (λl=>f (true :: l)) (v+1)).1.length with h1|h1
  ·rw [List.getElem?_append_left h1] at h';exact two i n h'
  rw [List.getElem?_append_right h1] at h'
  have hi0:i - (aE (aE D k (λl=>f (false :: l)) (v+1)).1 k (λl=>f (true :: l)) (v+1)).1.length=0:=by
   have:=(zQQ.1 h').1;simpa using this
  rw [hi0] at h';have:=Option.some.inj h';subst this;exact .inr ⟨Int.le_refl _,by show v < v+((k+1:Nat):Int);omega⟩
def kD (f:Fn):Nat→List Bool
 | 0=>[f []]
 | k+1=>kD (λl=>f (false :: l)) k++kD (λl=>f (true :: l)) k
theorem lI:∀ (k:Nat) (f:Fn),(kD f k).length=2 ^ k
 | 0,f=>rfl
 | k+1,f=>by rw [kD,zQL,lI k,lI k,Nat.pow_succ];omega
def pI:Nat→List (List Bool)
 | 0=>[[]]
 | k+1=>(pI k).map (false :: ·)++(pI k).map (true :: ·)
theorem rS:∀ (k:Nat) (f:Fn),kD f k=(pI k).map f
 | 0,f=>rfl
 | k+1,f=>by rw [kD,pI,List.map_append,List.map_map,List.map_map,rS k,rS k];rfl
def eQ (D:List Node):Nat→List Bool→Int→List Node×Int
 | 0,T,_=>(D,aY (T.getD 0 false))
 | k+1,T,v=>
  let a:=eQ D k (T.take (2 ^ k)) (v+1)
  let b:=eQ a.1 k (T.drop (2 ^ k)) (v+1)
  bH b.1 ⟨v,a.2,b.2⟩
theorem pA:∀ (k:Nat) (D:List Node) (f:Fn) (v:Int),eQ D k (kD f k) v=aE D k f v
 | 0,D,f,v=>rfl
 | k+1,D,f,v=>by
  show bH (eQ (eQ D k ((kD f (k+1)).take (2 ^ k)) (v+1)).1 k ((kD f (k+1)).drop (2 ^ k)) (v+1)).1 _=bH (aE (aE D k (λl=>f (false :: l)) (v+1)).1 k (λl=>f (true :: l)) (v+1)).1 _;rw [show (kD f (k+1)).take (2 ^ k)=kD (λl=>f (false :: l)) k by rw [kD,← lI k (λl=>f (false :: l)),List.take_left],show (kD f (k+1)).drop (2 ^ k)=kD (λl=>f (true :: l)) k by rw [kD,← lI k (λl=>f (false :: l)),List.drop_left],pA k,pA k]
theorem oK {D E:List Node} (h:D <+: E) (hE:WfD E) {x:Int} (h0:0≤x) (hx:x < (D.length:Int)+2) (s:Int→Bool):eD D x s=eD E x s:=by
 have:D=E.take D.length:=by obtain⟨t,rfl⟩:=h;simp
 conv=>lhs;rw [this]
 exact lG hE D.length s x.toNat x h0 (zQW _) hx
theorem qCL {D E:List Node} (hp:D <+: E) (hD:WfD D) (hE:WfD E) {k:Nat} {f:Fn} {v x:Int} (hall:∀ (i:Nat) (n:Node),D[i]?=some n→n.var < v+k) (h64:v+k≤64) (h:Has E k f v x) (hx:x < (D.length:Int)+2):Has D k f v x:=by
 have r:=fC hE h;have hv:=fN hp hx;have hvl:=dV hE x;refine (gQ hD k x v ⟨r.1,hx⟩ ?_ (λhlt=>?_) hall).congr λl hl=>?_
 ·rw [← hv];rcases Int.lt_or_le (aH E x) 64 with h1|h1
  ·exact (r.2.2.1 h1).1
  omega
 ·rw [← hv] at hlt ⊢;exact (r.2.2.1 hlt).2
 show eD D x (asg v l)=f l;rw [oK hp hE r.1 hx,r.2.2.2 l hl]
theorem mR:∀ (k:Nat) (D:List Node) (f:Fn) (v:Int) (F:List Node) (q:Nat),WfD D→D.Nodup→0≤v→v+k≤64→(∀ (i:Nat) (n:Node),D[i]?=some n→n.var < v+k)→(aE D k f v).1 <+: F→WfD F→k+1≤q→cE F q (aE D k f v).2 ((D.length:Int)+2)=some (((aE D k f v).1.length:Int)+2)
 | 0,D,f,v,F,q,hD,hn,h0,h64,hall,hF,hFw,hq=>by
  obtain⟨q,rfl⟩:∃ z,q=z+1:=⟨q - 1,by omega⟩;show cE F (q+1) (aY (f [])) _=some ((D.length:Int)+2);unfold cE;rw [if_pos (.inl (by unfold aY;split<;>omega))]
 | k+1,D,f,v,F,q,hD,hn,h0,h64,hall,hF,hFw,hq=>by
  obtain⟨q,rfl⟩:∃ z,q=z+1:=⟨q - 1,by omega⟩;have wE:=gM (k+1) f v hD h0 (by omega);have hhas:=bY (k+1) D f v;have hpD:=bB (k+1) D f v;have rE:=fC wE hhas;by_cases hx:(aE D (k+1) f v).2 < (D.length:Int)+2
  ·have hold := qCL hpD hD wE hall (by omega) hhas hx;have hid:=cD hn hold;unfold cE;rw [if_pos (.inr hx)];rw [show (aE D (k+1) f v).1=D from by rw [hid]]
  have w1 := gM k (fun l => f (false :: l)) (v + 1) hD (by omega) (by omega);have n1:=eR k (λl=>f (false :: l)) (v+1) hn;have vs1:=fQ k D (λl=>f (false :: l)) (v+1);have hh1:=bY k D (λl=>f (false :: l)) (v+1);have ih1:=mR k D (λl=>f (false :: l)) (v+1)
  have hall1:∀ (i:Nat) (n:Node),(aE D k (λl=>f (false :: l)) (v+1)).1[i]?=some n→n.var < v+1+(k:Int):=λi n hin=>by
   rcases vs1 i n hin with h1|h1
   ·have hp1 := bB k D (fun l => f (false :: l)) (v + 1);have:D[i]?=some n:=by rw [← hin,fO hp1 (zQR h1),zQR h1]
    have:=hall i n this;omega
   omega
  have hp1:=bB k D (λl=>f (false :: l)) (v+1);have hE:aE D (k+1) f v=bH (aE (aE D k (λl=>f (false :: l)) (v+1)).1 k (λl=>f (true :: l)) (v+1)).1 ⟨v,(aE D k (λl=>f (false :: l)) (v+1)).2,(aE (aE D k (λl=>f (false :: l)) (v+1)).1 k (λl=>f (true :: l)) (v+1)).2⟩:=rfl;rw [hE] at hx hF wE rE ⊢;generalize aE D k (λl=>f (false :: l)) (v+1)=a at *;obtain⟨D1,lo⟩:=a;dsimp only at *;have w2:=gM k (λl=>f (true :: l)) (v+1) w1 (by omega) (by omega);have vs2:=fQ k D1 (λl=>f (true :: l)) (v+1);have hh2:=bY k D1 (λl=>f (true :: l)) (v+1);have ih2:=mR k D1 (λl=>f (true :: l)) (v+1);have hp2:=bB k D1 (λl=>f (true :: l)) (v+1);have hid2:∀ x,Has D1 k (λl=>f (true :: l)) (v+1) x→aE D1 k (λl=>f (true :: l)) (v+1)=(D1,x):=λx h=>cD n1 h;generalize aE D1 k (λl=>f (true :: l)) (v+1)=b at *;obtain⟨D2,hi⟩:=b;dsimp only at *;by_cases he:lo=hi
  ·have hadd : bH D2 ⟨v, lo, hi⟩ = (D2, lo) := by unfold bH; rw [if_pos he]
   rw [hadd] at hx hF wE rE ⊢;dsimp only at *;have r1:=fC w1 hh1;have r2:=fC w2 hh2
   have hsame:Has D1 k (λl=>f (true :: l)) (v+1) lo:=hh1.congr λl hl=>by
    rw [← r1.2.2.2 l hl,← r2.2.2.2 l hl,oK hp2 w2 r1.1 r1.2.1,he]
   have hD2:=(Prod.mk.inj (hid2 lo hsame)).1;rw [hD2] at hF ⊢;exact ih1 F (q+1) hD hn (by omega) (by omega) (λi n hin=>by have:=hall i n hin;omega) hF hFw (by omega)
  have hadd:bH D2 ⟨v,lo,hi⟩=match D2.findIdx? (λm=>decide (m=⟨v,lo,hi⟩)) with|some i=>(D2,(i:Int)+2)|none=>(D2++[⟨v,lo,hi⟩],(D2.length:Int)+2):=by
   unfold bH;dsimp only;exact if_neg he
  cases hf:D2.findIdx? (λm=>decide (m=(⟨v,lo,hi⟩:Node))) with
  | some i=>
   exfalso;rw [hf] at hadd;rw [hadd] at hx;dsimp only at hx;rw [List.findIdx?_eq_some_iff_getElem] at hf;obtain⟨hil,hie,_⟩:=hf;have hin:D2[i]?=some ⟨v,lo,hi⟩:=by rw [zQR hil,of_decide_eq_true hie]
   rcases vs2 i _ hin with h1|h1
   ·have hin1 : D1[i]? = some ⟨v, lo, hi⟩ := by rw [← hin, fO hp2 (zQR h1), zQR h1]
    rcases vs1 i _ hin1 with h2|h2
    ·omega
    dsimp only at h2;omega
   dsimp only at h1;omega
  | none=>
   rw [hf] at hadd;rw [hadd] at hx hF wE rE ⊢;dsimp only at *;have hp3:D2 <+: D2++[(⟨v,lo,hi⟩:Node)]:=List.prefix_append _ _;have g1:=ih1 F q hD hn (by omega) (by omega) (λi n hin=>by have:=hall i n hin;omega) ((hp2.trans hp3).trans hF) hFw (by omega);have g2:=ih2 F q w1 n1 (by omega) (by omega) hall1 (hp3.trans hF) hFw (by omega);unfold cE;rw [if_neg (by omega),show ((D2.length:Int)+2 - 2).toNat=D2.length by omega,fO hF (i:=D2.length) (n:=⟨v,lo,hi⟩) (by simp)];dsimp only;rw [g1];simp only [Option.bind_some];rw [g2];simp only [Option.bind_some];rw [if_pos trivial,zQL];simp only [List.length_cons,List.length_nil]
   congr 1
def fZ (D:List Node):Nat→Int→List Int→List Int
 | 0,_,left=>left
 | f+1,x,left=>if x < 2 then left else if x∈left then left else match D[(x - 2).toNat]? with
  | none=>left
  | some n=>fZ D f n.hi (fZ D f n.lo left)++[x]
def fP (m:Nat):List Int:=(List.range m).map λ(i:Nat)=>(i:Int)+2
theorem dZ (m:Nat):(fP m).length=m:=by simp [fP]
theorem ordL_mem {m:Nat} {x:Int}:x∈fP m↔2≤x∧x < (m:Int)+2:=by
 unfold fP;rw [List.mem_map];constructor
 ·rintro⟨i,hi,rfl⟩;have:=List.mem_range.1 hi;omega
 rintro⟨h1,h2⟩;exact⟨(x - 2).toNat,List.mem_range.2 (by omega),by omega⟩
theorem rC (m:Nat):fP (m+1)=fP m++[(m:Int)+2]:=by unfold fP;rw [List.range_succ];simp
theorem iK (D:List Node):∀ (f:Nat) (x:Int) (left:List Int),left <+: fZ D f x left
 | 0,x,left=>List.prefix_refl _
 | f+1,x,left=>by
  unfold fZ;split
  ·exact List.prefix_refl _
  split
  ·exact List.prefix_refl _
  split
  ·exact List.prefix_refl _
  exact ((iK D f _ left).trans (iK D f _ _)).trans (List.prefix_append _ _)
theorem tK {l:List Int} {m:Nat} (h:l <+: fP m):l=fP l.length:=by
 obtain⟨t,ht⟩:=h;have hl:l.length≤m:=by have:=congrArg List.length ht;rw [zQL,dZ] at this;omega
 have h1:l=(fP m).take l.length:=by rw [← ht,List.take_left]
 have h2:(fP m).take l.length=fP l.length:=by unfold fP;rw [← List.map_take,List.take_range,Nat.min_eq_left hl]
 exact h1.trans h2
theorem iJ {D:List Node} (h:WfD D):∀ (f:Nat) (x:Int) (m m':Nat),InD D x→x < (f:Int)→(fZ D f x (fP m)=fP m'↔cE D f x ((m:Int)+2)=some ((m':Int)+2))
 | 0,x,m,m',hx,hf=>by have:=hx.1;omega
 | f+1,x,m,m',hx,hf=>by
  unfold fZ cE;by_cases h2:x < 2
  ·rw [if_pos h2,if_pos (.inl h2)];constructor
   ·intro he;have:=congrArg List.length he;rw [dZ,dZ] at this;rw [this]
   intro he;have:=Option.some.inj he;rw [show m=m' by omega]
  rw [if_neg h2];by_cases hm:x < (m:Int)+2
  ·rw [if_pos (ordL_mem.2 ⟨by omega, hm⟩), if_pos (.inr hm)];constructor
   ·intro he;have:=congrArg List.length he;rw [dZ,dZ] at this;rw [this]
   intro he;have:=Option.some.inj he;rw [show m=m' by omega]
  rw [if_neg (fun hc => hm (ordL_mem.1 hc).2), if_neg (by omega)];obtain⟨n,hn⟩:=hx.get (by omega);have hl:=h.lo _ n hn;have hh:=h.hi _ n hn;have inlo:InD D n.lo:=⟨hl.1,by have:=hx.2;omega⟩;have inhi:InD D n.hi:=⟨hh.1,by have:=hx.2;omega⟩;rw [hn];dsimp only;constructor
  ·intro he
   obtain ⟨q, hq⟩ : ∃ q, m' = q + 1 := ⟨m' - 1, by
    have := congrArg List.length he;rw [zQL, dZ] at this;simp at this
    omega⟩
   subst hq;rw [rC] at he;have hin:=List.append_inj' he rfl;have hxq:x=(q:Int)+2:=by have:=hin.2;simpa using this
   have hp:fZ D f n.lo (fP m) <+: fP q:=by rw [← hin.1];exact iK D f n.hi _
   have e1:=tK hp;obtain⟨m1,hm1⟩:∃ m1,m1=(fZ D f n.lo (fP m)).length:=⟨_,rfl⟩;rw [← hm1] at e1;have v1:=(iJ h f n.lo m m1 inlo (by omega)).1 e1;have v2:=(iJ h f n.hi m1 q inhi (by omega)).1 (by rw [← e1];exact hin.1);rw [v1];simp only [Option.bind_some];rw [v2];simp only [Option.bind_some];rw [if_pos hxq]
   congr 1
  intro he
  cases e1:cE D f n.lo ((m:Int)+2) with
  | none=>rw [e1] at he;cases he
  | some l1=>
   rw [e1] at he;simp only [Option.bind_some] at he
   cases e2:cE D f n.hi l1 with
   | none=>rw [e2] at he;cases he
   | some l2=>
    rw [e2] at he;simp only [Option.bind_some] at he
    have mono:∀ (f:Nat) (x l l':Int),cE D f x l=some l'→l≤l':=by
     intro f
     induction f with
     | zero=>intro x l l' hv;cases hv
     | succ f ih=>
      intro x l l' hv;unfold cE at hv;split at hv
      ·cases hv;omega
      split at hv
      ·cases hv
      rename_i z hz
      cases ha:cE D f z.lo l with
      | none=>rw [ha] at hv;cases hv
      | some a=>
       rw [ha] at hv;simp only [Option.bind_some] at hv
       cases hb:cE D f z.hi a with
       | none=>rw [hb] at hv;cases hv
       | some b=>
        rw [hb] at hv;simp only [Option.bind_some] at hv;split at hv
        ·have:=Option.some.inj hv;have:=ih _ _ _ ha;have:=ih _ _ _ hb;omega
        cases hv
    have g1:=mono f _ _ _ e1;have g2:=mono f _ _ _ e2;split at he
    ·rename_i hxl;have hl2:=Option.some.inj he;obtain⟨a,ha⟩:∃ a:Nat,l1=(a:Int)+2:=⟨(l1 - 2).toNat,by omega⟩;obtain⟨b,hb⟩:∃ b:Nat,l2=(b:Int)+2:=⟨(l2 - 2).toNat,by omega⟩;subst ha hb;rw [(iJ h f n.lo m a inlo (by omega)).2 e1,(iJ h f n.hi a b inhi (by omega)).2 e2,show m'=b+1 by omega,rC,hxl]
    cases he
def bV (N:Nat) (f:Fn):List Node×Int:=aE [] N f 0
theorem yZ:WfD []:=⟨λi n h=>by simp at h,λi n h=>by simp at h,λi n h=>by simp at h,λi n h=>by simp at h⟩
structure MakeOk (N:Nat) (f:Fn) (D:List Node) (x:Int):Prop where
 wf:WfD D
 nodup:D.Nodup
 root:InD D x
 vars:∀ (i:Nat) (n:Node),D[i]?=some n→n.var < (N:Int)
 low:0≤aH D x
 val:∀ l,l.length=N→fnD D x 0 l=f l
 len:D.length+1≤2 ^ N
 order:∀ q,N+1≤q→cE D q x 2=some ((D.length:Int)+2)
theorem jP (N:Nat) (f:Fn) (hN:N≤64):MakeOk N f (bV N f).1 (bV N f).2:=by
 have w:=gM N f 0 yZ (by omega) (by omega);have hh:=bY N [] f 0;have r:=fC w hh;have vl:=dV w (aE [] N f 0).2;refine⟨w,eR N f 0 List.nodup_nil,⟨r.1,r.2.1⟩,λi n hn=>?_,?_,r.2.2.2,?_,λq hq=>?_⟩
 ·rcases fQ N [] f 0 i n hn with h|h
  ·simp at h
  omega
 ·rcases Int.lt_or_le (aH (aE [] N f 0).1 (aE [] N f 0).2) 64 with h|h
  ·exact (r.2.2.1 h).1
  show 0≤aH (aE [] N f 0).1 (aE [] N f 0).2;omega
 ·have:=eH N [] f 0;simpa [bV] using this
 exact mR N [] f 0 (aE [] N f 0).1 q yZ List.nodup_nil (by omega) (by omega) (λi n h=>by simp at h) (List.prefix_refl _) w hq
theorem xJ {N:Nat} {f:Fn} {D:List Node} {x:Int} (h:MakeOk N f D x):bV N f=(D,x):=by
 have:=vA h.wf h.nodup h.root (h.order (N+1) (zQW _)) h.vars;unfold bV;rw [← this];exact bO λl hl=>(h.val l hl).symm
theorem qAM {N:Nat} {f g:Fn} (hN:N≤64) (h:bV N f=bV N g):∀ l,l.length=N→f l=g l:=by
 intro l hl;rw [← (jP N f hN).val l hl,← (jP N g hN).val l hl,h]
theorem pG {N:Nat} {f g:Fn} (h:∀ l,l.length=N→f l=g l):bV N f=bV N g:=bO h
def ms0:MS:=⟨[],λ_=>none,false⟩
theorem vU {N:Nat} {f g:Fn} {A B:List Node} {x y:Int} (hN:N≤14) (hA:MakeOk N f A x) (hB:MakeOk N g B y) (all:Bool) {q:Nat} (hq:65≤q):((dB A B all q ms0 x y).1.nodes,(dB A B all q ms0 x y).2)=bV N (λl=>opQ all (f l) (g l))∧(dB A B all q ms0 x y).1.full=false:=by
 have hp:2 ^ N≤2 ^ 14:=Nat.pow_le_pow_right (by omega) hN;have m0:MOk A B all (N:Int) ms0:=⟨List.nodup_nil,rfl,λx y r h=>by cases h⟩;have:=fR (all:=all) (N:=(N:Int)) hA.wf hB.wf (by omega) hA.vars hB.vars q ms0 x y 0 N (by have:=hA.low;have:=hB.low;omega) hA.root hB.root m0 (by omega) hA.low hB.low (by show 0+2 ^ N≤20001;omega);refine⟨this.1.trans ?_,this.2.part⟩;unfold bV;exact bO λl hl=>by unfold fn2;rw [hA.val l hl,hB.val l hl]
theorem qAL {N:Nat} {f:Fn} {A:List Node} {x:Int} (h:MakeOk N f A x):bV N (λl=>!f l)=(A.map eG,dP x):=by
 have:=xJ h;unfold bV at this ⊢;have e:=oZ N (D:=[]) f 0 (λn hn=>by cases hn);rw [List.map_nil] at e;rw [e,this]
theorem vV (N:Nat) (c:Bool):bV N (λ_=>c)=([],aY c):=iW List.nodup_nil c λ_ _=>rfl
theorem uF:∀ (bs:List Bool) (c:Bool),bs.foldl (opQ true) c=(c&&bs.all id)
 | [],c=>by simp
 | b :: bs,c=>by
  show bs.foldl (opQ true) (opQ true c b)=_;rw [uF bs];cases c<;>cases b<;>rfl
theorem uE:∀ (bs:List Bool) (c:Bool),bs.foldl (opQ false) c=(c||bs.any id)
 | [],c=>by simp
 | b :: bs,c=>by
  show bs.foldl (opQ false) (opQ false c b)=_;rw [uE bs];cases c<;>cases b<;>rfl
theorem var_ok {N v:Nat} (hv:v < N) (hN:N≤64):MakeOk N (λl=>l.getD v false) [⟨(v:Int),0,1⟩] 2:=by
 have g:∀ (i:Nat) (n:Node),([⟨(v:Int),0,1⟩]:List Node)[i]?=some n→i=0∧n=⟨(v:Int),0,1⟩:=λi n h=>by
  cases i with
  | zero=>exact⟨rfl,by simpa using h.symm⟩
  | succ i=>simp at h
 have e:(([⟨(v:Int),0,1⟩]:List Node)[((2:Int) - 2).toNat]?)=some ⟨(v:Int),0,1⟩:=rfl;have h0:∀ D,aH D 0=64:=λD=>rfl;have h1:∀ D,aH D 1=64:=λD=>rfl
 have w:WfD [⟨(v:Int),0,1⟩]:=by
  refine⟨λi n h=>?_,λi n h=>?_,λi n h=>?_,λi n h=>?_⟩<;>obtain⟨rfl,rfl⟩:=g i n h
  ·exact⟨by dsimp only;omega,by dsimp only;omega⟩
  ·exact⟨by dsimp only;omega,by dsimp only;omega,by rw [h0];dsimp only;omega⟩
  ·exact⟨by dsimp only;omega,by dsimp only;omega,by rw [h1];dsimp only;omega⟩
  dsimp only;omega
 refine⟨w,by simp,⟨by omega,by simp⟩,λi n h=>?_,?_,λl hl=>?_,?_,λq hq=>?_⟩
 ·obtain⟨rfl,rfl⟩:=g i n h;dsimp only;omega
 ·show (0:Int)≤(v:Int);omega
 ·show eD _ 2 (asg 0 l)=_;rw [dD w (by omega) e];dsimp only;unfold asg;rw [decide_eq_true (show (0:Int)≤(v:Int) by omega),show ((v:Int) - 0).toNat=v by omega,Bool.true_and];cases l.getD v false<;>rfl
 ·show 2≤2 ^ N;exact Nat.le_trans (show 2≤2 ^ 1 by omega) (Nat.pow_le_pow_right (by omega) (by omega))
 obtain ⟨q, rfl⟩ : ∃ p, q = p + 2 := ⟨q - 2, by omega⟩;rfl
theorem qAK {N v:Nat} (hv:v < N) (hN:N≤64):bV N (λl=>l.getD v false)=([⟨(v:Int),0,1⟩],2):=xJ (var_ok hv hN)
theorem qAO {D:List Node} (h:WfD D) (x:Int):0≤aH D x:=by
 unfold aH;split
 ·omega
 split
 ·rename_i n hn;exact (h.vars _ n hn).1
 omega
def dQ:Nat→Nat→List Bool
 | 0,_=>[]
 | n+1,k=>decide (k % 2=1) :: dQ n (k / 2)
theorem jX:∀ n k,(dQ n k).length=n
 | 0,k=>rfl
 | n+1,k=>by show (dQ n _).length+1=_;rw [jX n]
theorem rM : ∀ n k, dQ n k = (List.range n).map fun v => decide (k / 2 ^ v % 2 = 1)
 | 0,k=>rfl
 | n+1,k=>by
  rw [List.range_succ_eq_map,List.map_cons,List.map_map];unfold dQ;rw [rM n,Nat.pow_zero,Nat.div_one]
  congr 1
  refine List.map_congr_left λv _=>?_;show _=decide (k / 2 ^ (v+1) % 2=1);rw [Nat.pow_succ,Nat.mul_comm,← Nat.div_div_eq_div_mul]
theorem rN:∀ (n:Nat) (l:List Bool),l.length=n→∃ k,k < 2 ^ n∧dQ n k=l
 | 0,[],_=>⟨0,by simp,rfl⟩
 | n+1,b :: l,h=>by
  obtain⟨k,hk,e⟩:=rN n l (by simpa using h);refine⟨2 * k+(if b=true then 1 else 0),?_,?_⟩
  ·rw [Nat.pow_succ];split<;>omega
  unfold dQ;cases b
  ·rw [if_neg (by simp),Nat.add_zero,Nat.mul_div_cancel_left _ (by omega),e,show 2 * k % 2=0 by omega];rfl
  rw [if_pos rfl,show (2 * k+1) / 2=k by omega,e,show (2 * k+1) % 2=1 by omega];rfl
theorem qAN {n:Nat} (hn:n≤64) (f g:Fn):bV n f=bV n g↔∀ k,k < 2 ^ n→f (dQ n k)=g (dQ n k):=
 ⟨λh k _=>qAM hn h _ (jX n k),λh=>pG λl hl=>by obtain⟨k,hk,e⟩:=rN n l hl;rw [← e];exact h k hk⟩
def fG (D:List Node):Nat→Int→List Bool×Int→Option (List Bool×Int)
 | 0,_,_=>none
 | f+1,x,s=>if x < 2∨s.1.getD x.toNat false=true then some s else match D[(x - 2).toNat]? with
  | none=>none
  | some n=>(fG D f n.lo (s.1.set x.toNat true,s.2)).bind λs1=>(fG D f n.hi s1).bind λs2=>if x=s2.2 then some (s2.1,s2.2+1) else none
def InvP (B:Int) (vis:List Bool) (left:Int):Prop:=∀ y:Nat,2≤y→(y:Int) < B→(vis.getD y false=true↔(y:Int) < left)
theorem sQ {l:List Bool} {i j:Nat} (h:i≠j) (b:Bool):(l.set i b).getD j false=l.getD j false:=by
 rw [zQD,zQD,List.getElem?_set_ne h]
theorem qDV {l:List Bool} {i:Nat} (h:i < l.length) (b:Bool):(l.set i b).getD i false=b:=by
 rw [zQD,List.getElem?_set_self h];rfl
structure OutP (D:List Node) (f:Nat) (x B:Int) (vis:List Bool) (left l':Int) (vis':List Bool):Prop where
 run:fG D f x (vis,left)=some (vis',l')
 inv:InvP B vis' l'
 keep:∀ y:Nat,B≤(y:Int)→vis'.getD y false=vis.getD y false
 len:vis'.length=vis.length
theorem zB {D:List Node} (h:WfD D):∀ (f:Nat) (x B:Int) (vis:List Bool) (left:Int),InD D x→x < B→InvP B vis left→vis.length=D.length+2→match cE D f x left with
  | none=>fG D f x (vis,left)=none
  | some l'=>∃ vis',OutP D f x B vis left l' vis'
 | 0,x,B,vis,left,hx,hB,hi,hl=>rfl
 | f+1,x,B,vis,left,hx,hB,hi,hl=>by
  have hx0:=hx.1;have hx1:=hx.2;by_cases h2:x < 2
  ·have e : cE D (f + 1) x left = some left := by unfold cE; rw [if_pos (Or.inl h2)]
   rw [e];refine⟨vis,?_,hi,λ_ _=>rfl,rfl⟩;unfold fG;rw [if_pos (Or.inl h2)]
  have hxi := hi x.toNat (by omega) (by omega);rw [show ((x.toNat:Nat):Int)=x by omega] at hxi;by_cases hlt:x < left
  ·have e : cE D (f + 1) x left = some left := by unfold cE; rw [if_pos (Or.inr hlt)]
   rw [e];refine⟨vis,?_,hi,λ_ _=>rfl,rfl⟩;unfold fG;rw [if_pos (Or.inr (hxi.2 hlt))]
  obtain ⟨n, hn⟩ := hx.get (by omega);have hlo:=h.lo _ n hn;have hhi:=h.hi _ n hn
  have e:cE D (f+1) x left=(cE D f n.lo left).bind λl1=>(cE D f n.hi l1).bind λl2=>if x=l2 then some (l2+1) else none:=by
   rw [cE,if_neg (by omega),hn]
  have e':fG D (f+1) x (vis,left)=(fG D f n.lo (vis.set x.toNat true,left)).bind λs1=>(fG D f n.hi s1).bind λs2=>if x=s2.2 then some (s2.1,s2.2+1) else none:=by
   rw [fG,if_neg (by intro hc;rcases hc with hc|hc;exact h2 hc;exact hlt (hxi.1 hc)),hn]
  have i0:InvP x (vis.set x.toNat true) left:=λy hy hyx=>by
   rw [sQ (by omega)];exact hi y hy (by omega)
  have r1:=zB h f n.lo x (vis.set x.toNat true) left ⟨hlo.1,by omega⟩ (by omega) i0 (by rw [List.length_set];exact hl);rw [e]
  cases h1:cE D f n.lo left with
  | none=>
   rw [h1] at r1;show fG D (f+1) x (vis,left)=none;rw [e',r1];rfl
  | some l1=>
   rw [h1] at r1;obtain⟨v1,o1⟩:=r1;have hl1:v1.length=D.length+2:=by rw [o1.len,List.length_set];exact hl
   have r2:=zB h f n.hi x v1 l1 ⟨hhi.1,by omega⟩ (by omega) o1.inv hl1
   show match (cE D f n.hi l1).bind λl2=>if x=l2 then some (l2+1) else none with
    | none=>fG D (f+1) x (vis,left)=none
    | some l'=>∃ vis',OutP D (f+1) x B vis left l' vis'
   cases h3:cE D f n.hi l1 with
   | none=>
    rw [h3] at r2;show fG D (f+1) x (vis,left)=none;rw [e',o1.run];show (fG D f n.hi (v1,l1)).bind _=none;rw [r2];rfl
   | some l2=>
    rw [h3] at r2;obtain⟨v2,o2⟩:=r2
    have er:fG D (f+1) x (vis,left)=if x=l2 then some (v2,l2+1) else none:=by
     rw [e',o1.run];show (fG D f n.hi (v1,l1)).bind _=_;rw [o2.run];rfl
    show match (if x=l2 then some (l2+1) else none) with
     | none=>fG D (f+1) x (vis,left)=none
     | some l'=>∃ vis',OutP D (f+1) x B vis left l' vis'
    by_cases hq:x=l2
    ·rw [if_pos hq];rw [if_pos hq] at er;refine⟨v2,er,λy hy hyB=>?_,λy hy=>?_,by rw [o2.len,o1.len,List.length_set]⟩
     ·rcases Int.lt_trichotomy (y:Int) x with hc|hc|hc
      ·have:=o2.inv y hy hc;rw [this];omega
      ·have e1:v2.getD y false=true:=by
        rw [o2.keep y (by omega),o1.keep y (by omega),show y=x.toNat by omega,qDV (by omega)]
       rw [e1];simp only [true_iff];omega
      rw [o2.keep y (by omega), o1.keep y (by omega), sQ (by omega), hi y hy hyB];omega
     rw [o2.keep y (by omega),o1.keep y (by omega),sQ (by omega)]
    rw [if_neg hq];rw [if_neg hq] at er;exact er
theorem qBT {D:List Node} (h:WfD D) (f:Nat) {x:Int} (hx:InD D x):(fG D f x (List.replicate (D.length+2) false,2)).map (·.2)=cE D f x 2:=by
 have := zB h f x ((D.length : Int) + 2) (List.replicate (D.length + 2) false) 2 hx hx.2 (fun y hy hyB => by
  rw [zQD, List.getElem?_replicate, if_pos (by omega)];constructor
  ·intro hc; cases hc
  intro hc; omega) (by simp)
 revert this
 cases cE D f x 2 with
 | none=>intro e;rw [e];rfl
 | some l=>intro ⟨v,o⟩;rw [o.run];rfl
def NOK (D:List Node):Prop:=∀ n∈D,Node.ok n
theorem NOK.at {D:List Node} (h:NOK D) {i:Nat} {n:Node} (hn:D[i]?=some n):Node.ok n:=h n (zQM hn)
theorem xE:NOK []:=λn h=>by cases h
theorem xF {D:List Node} {n:Node} (h:NOK D) (hn:Node.ok n):NOK (D++[n]):=λm hm=>by
 rcases zQN.1 hm with h1|h1
 ·exact h m h1
 rw [List.mem_singleton.1 h1];exact hn
theorem xN {a b:Diagram}:a=b↔a.nodes=b.nodes∧a.root=b.root:=by cases a;cases b;simp
theorem qEF {a b:Diagram} (ha:NOK a.nodes) (hb:NOK b.nodes) (hl:a.nodes.length≤4611686018427387903):eE a b=some (decide (a=b)):=by
 unfold eE;by_cases h:a.nodes.length=b.nodes.length∧a.root=b.root
 ·obtain⟨h1,h2⟩:=h;rw [if_neg (by simp [h1,h2])];rw [pH (ρ:=Unit ⊕ Bool) a.nodes.length (λi=>if a.nodes[i]?=b.nodes[i]? then none else some (.inr false)) (.inl ()) (by omega) ?hf ?he]
  ·cases hf:(List.range a.nodes.length).findSome? (λi=>if a.nodes[i]?=b.nodes[i]? then none else some (Sum.inr false:Unit ⊕ Bool)) with
   | none=>
    rw [List.findSome?_eq_none_iff] at hf
    have:a=b:=by
     rw [xN];refine⟨List.ext_getElem? λi=>?_,h2⟩;by_cases hi:i < a.nodes.length
     ·have:=hf i (List.mem_range.2 hi);split at this
      ·assumption
      cases this
     rw [List.getElem?_eq_none (by omega),List.getElem?_eq_none (by omega)]
    simp [this]
   | some r=>
    rw [List.findSome?_eq_some_iff] at hf;obtain⟨l1,i,l2,_,h3,_⟩:=hf;split at h3
    ·cases h3
    rename_i hne;cases h3;have:¬ a=b:=λe=>hne (by rw [e]);simp [this]
  case hf=>
   intro i hi;have hi2:i < b.nodes.length:=by omega
   rw [if_pos (by omega),cA (zQR hi),cA (zQR hi2),aB ⟨ha _ (List.getElem_mem hi),hb _ (List.getElem_mem hi2)⟩,zQR hi,zQR hi2];by_cases he:a.nodes[i]=b.nodes[i]
   ·rw [if_pos he,aB (by unfold I64;omega),if_pos (by rw [he])]
   rw [if_neg he, if_neg (by simpa using he)];rfl
  case he=>
   rw [if_neg (by omega)];rfl
 rw [if_pos (by simp only [Bool.or_eq_true, Bool.not_eq_true', decide_eq_false_iff_not]; omega)];have:¬ a=b:=λe=>h ⟨by rw [e],by rw [e]⟩;simp [this]
def eI (L:List Node):List (Node×Int):=L.zipIdx.map λx=>(x.1,(x.2:Int))
theorem mV (L:List Node):(eI L).map (·.1)=L:=by
 unfold eI;rw [List.map_map];exact List.zipIdx_map_fst 0 L
theorem uB (L:List Node) (n:Node):eI (L++[n])=eI L++[(n,(L.length:Int))]:=by
 unfold eI;rw [List.zipIdx_append,List.map_append];simp
theorem qAT (L:List Node) (i:Nat):(eI L)[i]?=(L[i]?).map λn=>(n,(i:Int)):=by
 unfold eI;rw [zQP,List.getElem?_zipIdx];cases L[i]?<;>simp
theorem rG (L:List Node) (n:Node):(eI L).findIdx? (λx=>decide (x.1=n))=L.findIdx? λm=>decide (m=n):=by
 have:L.findIdx? (λm=>decide (m=n))=((eI L).map (·.1)).findIdx? (λm=>decide (m=n)):=by rw [mV]
 rw [this,List.findIdx?_map];rfl
section maps
variable {α β:Type} [DecidableEq α]
theorem yP (q:α):bT ([]:List (α×β)) q=none:=rfl
theorem eM (x:α×β) (r:List (α×β)) (q:α):bT (x :: r) q=if x.1=q then some x.2 else bT r q:=by
 unfold bT;rw [List.find?_cons];by_cases h:x.1=q<;>simp [h]
theorem oX (k:α) (v:β):eP ([]:List (α×β)) k v=[(k,v)]:=rfl
theorem mO (x:α×β) (r:List (α×β)) (k:α) (v:β):eP (x :: r) k v=if x.1=k then (k,v) :: r else x :: eP r k v:=by
 unfold eP;rw [List.findIdx?_cons];by_cases h:x.1=k
 ·simp [h]
 simp only [h,decide_false,Bool.false_eq_true,if_false];cases r.findIdx? (λx=>decide (x.1=k))<;>simp
theorem yO (fs:List (α×β)) (k:α) (v:β) (q:α):bT (eP fs k v) q=if q=k then some v else bT fs q:=by
 induction fs with
 | nil=>rw [oX,eM,yP];by_cases h:k=q<;>simp [h,eq_comm]
 | cons x r ih=>
  rw [mO];by_cases h:x.1=k
  ·rw [if_pos h,eM,eM];by_cases h2:k=q
   ·simp [h2]
   rw [if_neg h2,if_neg (λe=>h2 e.symm),if_neg (by rw [h];exact h2)]
  rw [if_neg h,eM,eM,ih];by_cases h2:x.1=q
  ·rw [if_pos h2,if_pos h2,if_neg (λe=>h (h2.trans e))]
  rw [if_neg h2,if_neg h2]
theorem wY {fs:List (α×β)} {k:α} {v:β} {x:α×β} (h:x∈eP fs k v):x=(k,v)∨x∈fs:=by
 induction fs with
 | nil=>rw [oX] at h;exact .inl (List.mem_singleton.1 h)
 | cons y r ih=>
  rw [mO] at h;split at h
  ·rcases zQB.1 h with h|h
   ·exact .inl h
   exact .inr (List.mem_cons_of_mem _ h)
  rcases zQB.1 h with h|h
  ·exact .inr (h ▸ List.mem_cons_self ..)
  exact (ih h).imp id (List.mem_cons_of_mem _)
theorem xZ {fs:List (α×β)} (h:(fs.map (·.1)).Nodup) (k:α) (v:β):((eP fs k v).map (·.1)).Nodup:=by
 induction fs with
 | nil=>rw [oX];simp
 | cons y r ih=>
  rw [List.map_cons,List.nodup_cons] at h;rw [mO];by_cases e:y.1=k
  ·rw [if_pos e,List.map_cons,List.nodup_cons];exact⟨by rw [← e];exact h.1,h.2⟩
  rw [if_neg e,List.map_cons,List.nodup_cons];refine⟨λhm=>?_,ih h.2⟩;obtain⟨x,hx,he⟩:=List.mem_map.1 hm;rcases wY hx with rfl|hx
  ·exact e he.symm
  exact h.1 (he ▸ List.mem_map_of_mem hx)
theorem wL (fs:List (α×β)) (q:α):bT fs q=(fs.findIdx? λx=>decide (x.1=q)).bind λj=>(fs[j]?).map (·.2):=by
 induction fs with
 | nil=>rfl
 | cons x r ih=>
  rw [eM,List.findIdx?_cons];by_cases h:x.1=q
  ·simp [h]
  simp only [h,decide_false,Bool.false_eq_true,if_false];rw [ih];cases r.findIdx? (λx=>decide (x.1=q))<;>simp
end maps
theorem rO (L:List Node) (n:Node):bT (eI L) n=(L.findIdx? λm=>decide (m=n)).map λi=>(i:Int):=by
 rw [wL,rG]
 cases h:L.findIdx? (λm=>decide (m=n)) with
 | none=>rfl
 | some j=>
  rw [List.findIdx?_eq_some_iff_getElem] at h;obtain⟨hj,_,_⟩:=h;show ((eI L)[j]?).map (·.2)=_;rw [qAT,zQR hj];rfl
theorem tG {L:List Node} {n:Node} (h:L.findIdx? (λm=>decide (m=n))=none) (v:Int):eP (eI L) n v=eI L++[(n,v)]:=by
 unfold eP;rw [rG,h]
theorem lW {L:List Node} (hn:L.Nodup) (ho:NOK L) {n:Node} (hk:Node.ok n):dJ Node.okb (eI L) n:=
 ⟨by rw [mV]; exact hn, fun x hx => by
  have : x.1 ∈ (eI L).map (·.1) := List.mem_map_of_mem hx;rw [mV] at this
  exact decide_eq_true (ho _ this), decide_eq_true hk⟩
theorem xH {α ρ:Type} [DecidableEq ρ] {l:List α} {a b:Option ρ} {x:ρ} (ha:l=[]→a=some x) (hb:b=some x):tP l a b=some x:=by
 cases l with
 | nil=>rw [ha rfl,hb];simp [tP]
 | cons y r=>exact hb
theorem vQ {L : List Node} {n : Node} (hn : L.Nodup) (ho : NOK L) (hk : Node.ok n) (hl : L.length + 1 ≤ 1000000000) : aP ⟨eI L, L⟩ n = some (match L.findIdx? (fun m => decide (m = n)) with
  | some j => ((j : Int), ⟨eI L, L⟩)
  | none => ((L.length : Int), ⟨eI (L ++ [n]), L ++ [n]⟩)) := by
 have hlen:((L++[n]).length:Int) - 1=(L.length:Int):=by simp
 have hg1:(L++[n]).length≤1000000000:=by simp;omega
 have hg2:I64 (((L++[n]).length:Int) - 1):=by rw [hlen];unfold I64;omega
 unfold aP;dsimp only;refine xH (λhe=>?_) ?_
 ·have hL : L = [] := by have := congrArg List.length he; simpa [eI] using this
  subst hL;rw [aB (show n.okb=true from decide_eq_true hk),aA,aB ⟨List.nodup_nil,(λx h=>by cases h),decide_eq_true hk⟩,aB hg1,aB hg2];simp only [hlen];rfl
 rw [aB (lW hn ho hk),rO]
 cases h:L.findIdx? (λm=>decide (m=n)) with
 | some j=>simp
 | none=>
  rw [if_neg (by simp),aA,aB (lW hn ho hk),aB hg1,aB hg2];simp only [hlen,tG h,uB]
theorem yA {m : Merger} {L : List Node} {n : Node} (hm : m.nodes = ⟨eI L, L⟩) (hn : L.Nodup) (ho : NOK L) (hk : Node.ok n) (hl : L.length + 1 ≤ 1000000000) : aL m n = some (match L.findIdx? (fun m => decide (m = n)) with
  | some j => ((j : Int), m)
  | none => ((L.length : Int), ⟨m.a, m.b, m.all, ⟨eI (L ++ [n]), L ++ [n]⟩, m.done, m.full⟩)) := by
 have hlen:((L++[n]).length:Int) - 1=(L.length:Int):=by simp
 have hg1:(L++[n]).length≤1000000000:=by simp;omega
 have hg2:I64 (((L++[n]).length:Int) - 1):=by rw [hlen];unfold I64;omega
 unfold aL;rw [hm];dsimp only;refine xH (λhe=>?_) ?_
 ·have hL : L = [] := by have := congrArg List.length he; simpa [eI] using this
  subst hL;rw [aB (show n.okb=true from decide_eq_true hk),aA,aB ⟨List.nodup_nil,(λx h=>by cases h),decide_eq_true hk⟩,aB hg1,aB hg2];simp only [hlen];rfl
 rw [aB (lW hn ho hk),rO]
 cases h:L.findIdx? (λm=>decide (m=n)) with
 | some j=>simp
 | none=>
  rw [if_neg (by simp),aA,aB (lW hn ho hk),aB hg1,aB hg2];simp only [hlen,tG h,uB]
theorem InD.i64 {D:List Node} {x:Int} (h:InD D x) (hl:D.length≤4611686018427387903):I64 (x - 2)∧I64 x:=by
 have:=h.1;have:=h.2;unfold I64;omega
theorem iI {d:Diagram} {x:Int} (h:InD d.nodes x) (hl:d.nodes.length≤4611686018427387903):cK d x=some (aH d.nodes x):=by
 unfold cK aH;by_cases hx:x < 2
 ·rw [if_pos hx,if_pos hx]
 obtain ⟨n, hn⟩ := h.get (by omega);rw [if_neg hx,if_neg hx,aB (h.i64 hl).1,bX (by omega) hn,hn]
theorem nN {d:Diagram} {x w:Int} (h:InD d.nodes x) (hl:d.nodes.length≤4611686018427387903) (hw:w < 64):cZ d x w=some (cR d.nodes x w):=by
 unfold cZ cR;rw [iI h hl,aA];by_cases he:aH d.nodes x=w
 ·rw [if_pos he,if_pos he];have h2:¬ x < 2:=λh1=>by unfold aH at he;rw [if_pos h1] at he;omega
  obtain⟨n,hn⟩:=h.get (by omega);rw [aB (h.i64 hl).1,bX (by omega) hn,hn]
 rw [if_neg he,if_neg he]
theorem sK {x:Int} (h:I64 x) (h0:0≤x):fV x=some (dP x):=by
 unfold fV dP;split
 ·rw [aB (by unfold I64 at *; omega)]
 rfl
theorem jD (b:Bool):cY b=some ⟨[],aY b⟩:=by
 unfold cY aY;cases b<;>rfl
theorem qAP {α β ρ:Type} {f:Int×List β→Option ((Int×List β) ⊕ ρ)} (l:List α) (g:α→β) (o:ρ) (hn:l.length≤9223372036854775807) (hf:∀ (i:Nat) (e:α),l[i]?=some e→f ((i:Int),(l.take i).map g)=some (.inl ((i:Int)+1,(l.take i).map g++[g e]))) (he:f ((l.length:Int),l.map g)=some (.inr o)):bC f (0,[])=some o:=by
 refine lT l.length (λi=>(l.take i).map g) rfl hn (λi hi=>?_) (by rw [List.take_length];exact he);rw [hf i l[i] (by simp)]
 have:(l.take (i+1)).map g=(l.take i).map g++[g l[i]]:=by
  rw [List.take_add_one,zQR hi,Option.toList_some,List.map_append];rfl
 rw [this]
theorem tL {d:Diagram} (hn:NN d.nodes) (ho:NOK d.nodes) (h0:0≤d.root) (hr:I64 d.root) (hl:d.nodes.length≤1000000000):cX d=some ⟨d.nodes.map eG,dP d.root⟩:=by
 unfold cX;rw [sK hr h0,aA,qAP d.nodes eG (d.nodes.map eG) (by omega) ?_ ?_]
 ·rfl
 ·intro i e he;have hi:=(zQQ.1 he).1;have hm:=zQM he;dsimp only;rw [if_pos (by omega),cA he,sK (ho _ hm).2.1 (hn _ hm).1,aA,sK (ho _ hm).2.2 (hn _ hm).2,aA,aB (by simp;omega),aB (by unfold I64;omega)];rfl
 dsimp only;rw [if_neg (by omega)];rfl
end Go.Proofs.Ytdkhkhidekpfoaa
