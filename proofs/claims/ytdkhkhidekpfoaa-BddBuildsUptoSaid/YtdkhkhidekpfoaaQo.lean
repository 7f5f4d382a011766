/- Texts of this proof, joined, without what it does not use. No condition. -/
import Derived.DeepKeys3
import Derived.Test.YtdkhkhidekpfoaaQn

set_option linter.unusedVariables false
set_option linter.unusedSimpArgs false
set_option linter.unusedSectionVars false
namespace Go.TL
open Go.Sort Go.Proofs
variable {P:Program} {C:Ctx} {st:St} {g:Gh} {a:Act} {w:World}
def fY (ks:List TypeDesc) (k:D):Prop:=∃ cs L,k=.agg cs∧dS cs=some L∧cL ks L
def eU:D→Value
  | .agg cs=>.agg (((dS cs).getD []).map bK).toArray
  | _=>undef
theorem jF {cs:List D} {L:List Lit} (h:dS cs=some L):eU (.agg cs)=.agg (L.map bK).toArray:=by
  show Value.agg (((dS cs).getD []).map bK).toArray=_;rw [h];rfl
theorem zP {c d:D} {x:Lit} (h:tC c=some x) (h':tC d=some x):c=d:=by
  have e:tC c=tC d:=h.trans h'.symm;have n:tC c≠none:=by rw [h];simp
  clear h h'
  cases c<;>first
    | exact absurd rfl n
    | (cases d<;>simp only [tC,Option.some.injEq,reduceCtorEq,Lit.bool.injEq,Lit.int.injEq,Lit.string.injEq] at e)
  · rw [e]
  · rw [e.1,e.2]
  congr 1
  exact ByteArray.ext (Array.ext' e)
theorem qE:∀ {cs ds:List D} {L:List Lit},dS cs=some L→dS ds=some L→cs=ds
  | [],[],L,h,h'=>rfl
  | [],d :: ds,L,h,h'=>by
    cases h;simp only [dS] at h';split at h'<;>cases h'
  | c :: cs,[],L,h,h'=>by
    cases h';simp only [dS] at h;split at h<;>cases h
  | c :: cs,d :: ds,L,h,h'=>by
    simp only [dS] at h h';split at h
    · rename_i x xs hx hxs
      cases h;split at h'
      · rename_i y ys hy hys
        simp only [Option.some.injEq,List.cons.injEq] at h';obtain⟨rfl,rfl⟩:=h';rw [zP hx hy,qE hxs hys]
      cases h'
    cases h
theorem vF {k:TypeDesc} {x y:Lit} (hx:tB k x) (hy:tB k y) (h:bK x=bK y):x=y:=by
  cases k<;>cases x<;>simp only [tB] at hx<;>cases y<;>simp only [tB] at hy<;>simp only [bK] at h
  · cases h;rfl
  · simp only [Value.int.injEq] at h
    rw [h.1,h.2]
  rename_i bs cs;simp only [Value.string.injEq,ByteArray.mk.injEq] at h;have:=congrArg Array.toList h;simp at this;rw [this]
theorem tA:∀ {ks:List TypeDesc} {L M:List Lit},cL ks L→cL ks M→L.map bK=M.map bK→L=M
  | [],[],[],_,_,_=>rfl
  | k :: ks,x :: xs,y :: ys,h,h',e=>by
    simp only [List.map_cons,List.cons.injEq] at e;rw [vF h.1 h'.1 e.1,tA h.2 h'.2 e.2]
  | [],_ :: _,_,h,_,_=>h.elim
  | [],[],_ :: _,_,h,_=>h.elim
  | _ :: _,[],_,h,_,_=>h.elim
  | _ :: _,_ :: _,[],_,h,_=>h.elim
theorem gI {ks:List TypeDesc} {k:D} (hk:fY ks k) {X:Nat→Prop} {v:Value} (h:DRep w X k v):v=eU k:=by
  obtain⟨cs,L,rfl,hl,ho⟩:=hk
  cases h with
  | agg _ vs hlen _ h=>
    have:=lX cs L vs.toList hl ⟨by simpa using hlen,λi x y hx hy=>h i x y hx (by simpa using hy)⟩;rw [jF hl,← this]
theorem tJ {ks:List TypeDesc} {k k':D} (hk:fY ks k) (hk':fY ks k') (h:eU k=eU k'):k=k':=by
  obtain⟨cs,L,rfl,hl,ho⟩:=hk;obtain⟨ds,M,rfl,hm,hp⟩:=hk';rw [jF hl,jF hm] at h;simp only [Value.agg.injEq] at h;have e:L.map bK=M.map bK:=by have:=congrArg Array.toList h;simpa using this
  have:=tA ho hp e;subst this;rw [qE hl hm]
structure SKey (P:Program) (kt:TypeId) (ks:List TypeDesc):Prop where
  law:WideMaps.KeyLaw P kt
  of:∀ k,fY ks k→∃ l,keyOf P kt (eU k)=some l
theorem sKey {kt:TypeId} {ks:List TypeDesc} (m:Nat) (hm:m+1≤10000) (hk:(P.keyTypeAt m kt&&P.tiled m kt&&P.keyType kt&&(match P.underlying kt with|some (.struct _)=>true|_=>false)&&ks.length == P.cellsOf kt)=true) (hks:jZ P (P.types.size+1) kt=some ks):SKey P kt ks:=by
  simp only [zQA,beq_iff_eq] at hk;obtain⟨⟨⟨⟨h1,h2⟩,h3⟩,h4⟩,h5⟩:=hk;refine⟨deep_law hm h1 h2 (by split at h4<;>simp_all),λk hk=>?_⟩;obtain⟨cs,L,rfl,hl,ho⟩:=hk;have hlen:=eH ho;have hv:=jF hl
  have hf:Value.formed P kt (.agg (L.map bK).toArray)=true:=by
    split at h4
    · rename_i hu;simp [Value.formed,hu];omega
    cases h4
  have hkl:=gV (P.types.size+1) kt ks L hks ho;rw [hv];unfold keyOf;split at h4
  · rename_i hu
    rw [hu];dsimp only;rw [h3,hf];refine⟨.string (keyBytes L),?_⟩;simp [Value.cells,hkl]
  cases h4
theorem xH {α:Type} {l:List α} (hn:l.Nodup) {i j:Nat} {x:α} (hi:l[i]?=some x) (hj:l[j]?=some x):i=j:=by
  obtain⟨h1,h1'⟩:=zQQ.1 hi;obtain⟨h2,h2'⟩:=zQQ.1 hj;exact (List.getElem_inj hn).1 (h1'.trans h2'.symm)
section find
variable {kt:TypeId} {ks:List TypeDesc} {k:D} {es:List (D×D)} {ents:Array MapEntry}
theorem qK (S:SKey P kt ks) {X:Nat→Prop} (hE:lO w X es ents) (hks:∀ e∈es,fY ks e.1):∀ x∈ents.toList,∃ l,keyOf P kt x.key=some l:=by
  intro x hx;obtain⟨i,hi⟩:=List.getElem?_of_mem hx;have hi':ents[i]?=some x:=by simpa using hi
  have hlt:i < es.length:=by rw [← hE.1];exact (Array.getElem?_eq_some_iff.1 hi').1
  have hk:=hks es[i] (List.getElem_mem hlt);rw [gI hk (hE.2 i es[i] x (by simp [hlt]) hi').1];exact S.of _ hk
theorem tQ (S:SKey P kt ks) {X:Nat→Prop} (hE:lO w X es ents) (hks:∀ e∈es,fY ks e.1) (hk:fY ks k) (hne:∀ e∈es,e.1≠k):(Instr.findKey kt (eU k) ents.toList).run P w=.ok none w:=by
  obtain⟨l,hl⟩:=S.of k hk;rcases S.law.find w hl ents.toList (qK S hE hks) with ⟨h1,_⟩|⟨j,e,_,h2,h3⟩
  · exact h1
  exfalso;have hj:ents[j]?=some e:=by simpa using h2
  have hlt:j < es.length:=by rw [← hE.1];exact (Array.getElem?_eq_some_iff.1 hj).1
  have hmem:=List.getElem_mem hlt;have:=gI (hks es[j] hmem) (hE.2 j es[j] e (by simp [hlt]) hj).1;exact hne _ hmem (tJ (hks _ hmem) hk (by rw [← this,h3]))
theorem qJ (S:SKey P kt ks) {X:Nat→Prop} (hE:lO w X es ents) (hks:∀ e∈es,fY ks e.1) (hnd:(es.map (·.1)).Nodup) {j:Nat} {v:D} (hj:es[j]?=some (k,v)):∃ e,ents[j]?=some e∧e.key=eU k∧DRep w X v e.val∧(Instr.findKey kt (eU k) ents.toList).run P w=.ok (some (j,e.val)) w:=by
  have hjl:=(zQQ.1 hj).1;have hk:fY ks k:=hks (k,v) (zQM hj);have hjs:j < ents.size:=by rw [hE.1];exact hjl
  have he:ents[j]?=some ents[j]:=by simp [hjs]
  have hr:=hE.2 j (k,v) ents[j] hj he;have hkey:=gI hk hr.1;obtain⟨l,hl⟩:=S.of k hk;rcases S.law.find w hl ents.toList (qK S hE hks) with ⟨_,h2⟩|⟨j',e',h1,h2,h3⟩
  · exact absurd hkey (h2 ents[j] (by simp))
  have hj' : ents[j']? = some e' := by simpa using h2
  have hlt:j' < es.length:=by rw [← hE.1];exact (Array.getElem?_eq_some_iff.1 hj').1
  have hmem:=List.getElem_mem hlt;have h4:=gI (hks es[j'] hmem) (hE.2 j' es[j'] e' (by simp [hlt]) hj').1;have h5:es[j'].1=k:=tJ (hks _ hmem) hk (by rw [← h4,h3]);have h6:j'=j:=xH (x:=k) hnd (by simp [hlt,h5]) (by simp [hj]);subst h6;rw [he] at hj';cases hj';exact⟨_,he,hkey,hr.2,by simpa using h1⟩
end find
section look
variable {o:Oper} {ev:Operand→AV} {hp:List Blk} {x y:Operand} {t kt et kt' et':TypeId} {d:TypeDesc} {id:Nat} {es:List (D×D)} {k v zd:D} {z:Value} {ks:List TypeDesc}
theorem gT (hs:Sim C st g a w) (hx:st.fr.ev x=.mmap id) (hb:st.hp[id]?=some (.map kt' et' es)) (hy:st.fr.ev y=.d k) (hk:fY ks k):
    ∃ b ents clock,g.phi id=some b∧a.eval x=.map (some b)∧w.heap[b]?=some (.map ents clock)∧lO w g.X es ents∧a.eval y=eU k:=by
  have h1:=hs.ev x;rw [hx] at h1;obtain⟨b,hp,he⟩:=sV h1;rcases hs.hp id _ hb with ⟨_,hp'⟩|⟨b',ents,clock,hp',hw,hsz,hr⟩<;>cases hp.symm.trans hp'
  have h2:=hs.ev y;rw [hy] at h2;have h3:DRep w g.X k (a.eval y):=by cases h2 with|d _ _ h=>exact h
  exact⟨b,ents,clock,hp,he,hw,⟨hsz,hr⟩,gI hk h3⟩
theorem rC {j:Nat} (S:SKey C.P kt ks) (ho:o.op=.lookup t x y true) (hl:mty C.P t=some (kt,d,et)) (hx:ev x=.mmap id) (hb:hp[id]?=some (.map kt' et' es)) (hy:ev y=.d k) (hks:∀ e∈es,fY ks e.1) (hnd:(es.map (·.1)).Nodup) (hj:es[j]?=some (k,v)):RdOk C o ev hp (.tup [.d v,.d (.bool true)]):=
  RdOk.mk λst hhp hag g a w hs=>by
    have hk:fY ks k:=hks (k,v) (zQM hj);obtain⟨b,ents,clock,hp',hex,hw,hE,hey⟩:=gT hs (by rw [hag x (by simp [ho,Op.operands]),hx]) (hhp id _ hb λe=>by cases e) (by rw [hag y (by simp [ho,Op.operands]),hy]) hk;obtain⟨e,_,_,hv,hf⟩:=qJ S hE hks hnd hj;obtain⟨hu,hd⟩:=lC hl;obtain⟨l,hkl⟩:=S.of k hk;refine⟨.tuple #[e.val,.bool true],?_,.tup _ _ rfl λi c v hc hv'=>?_⟩
    · simp only [execOp,ho,hex,hey]
      simp [Instr.lookup,run_underlying hu,MapKept.run_getObj_map hw,S.law.check w _ hkl,hf,Result.andThen]
    match i,hc,hv' with
    | 0,hc,hv'=>simp at hc hv';subst hc hv';exact .d _ _ hv
    | 1,hc,hv'=>simp at hc hv';subst hc hv';exact .d _ _ (.bool true)
    | i+2,hc,_=>simp at hc
theorem sJ (S:SKey C.P kt ks) (ho:o.op=.lookup t x y true) (hl:mty C.P t=some (kt,d,et)) (hz:(C.P.info? et).bind (·.zero)=some z) (hzd:bM z=.d zd) (hx:ev x=.mmap id) (hb:hp[id]?=some (.map kt' et' es)) (hy:ev y=.d k) (hk:fY ks k) (hks:∀ e∈es,fY ks e.1) (hne:∀ e∈es,e.1≠k):RdOk C o ev hp (.tup [.d zd,.d (.bool false)]):=
  RdOk.mk λst hhp hag g a w hs=>by
    obtain⟨b,ents,clock,hp',hex,hw,hE,hey⟩:=gT hs (by rw [hag x (by simp [ho,Op.operands]),hx]) (hhp id _ hb λe=>by cases e) (by rw [hag y (by simp [ho,Op.operands]),hy]) hk;have hf:=tQ S hE hks hk hne;obtain⟨hu,hd⟩:=lC hl;obtain⟨l,hkl⟩:=S.of k hk;refine⟨.tuple #[z,.bool false],?_,.tup _ _ rfl λi c v hc hv'=>?_⟩
    · simp only [execOp,ho,hex,hey]
      simp [Instr.lookup,run_underlying hu,MapKept.run_getObj_map hw,S.law.check w _ hkl,hf,jW hz,Result.andThen]
    match i,hc,hv' with
    | 0,hc,hv'=>simp at hc hv';subst hc hv';rw [← hzd];exact dH w g _
    | 1,hc,hv'=>simp at hc hv';subst hc hv';exact .d _ _ (.bool false)
    | i+2,hc,_=>simp at hc
theorem rD (S:SKey C.P kt ks) (ho:o.op=.lookup t x y true) (hl:mty C.P t=some (kt,d,et)) (hz:(C.P.info? et).bind (·.zero)=some z) (hzd:bM z=.d zd) (hx:ev x=.d .nilmap) (hy:ev y=.d k) (hk:fY ks k):RdOk C o ev hp (.tup [.d zd,.d (.bool false)]):=
  RdOk.mk λst hhp hag g a w hs=>by
    have h1:=hs.ev x;rw [hag x (by simp [ho,Op.operands]),hx] at h1;have h2:=hs.ev y;rw [hag y (by simp [ho,Op.operands]),hy] at h2;have h3:DRep w g.X k (a.eval y):=by cases h2 with|d _ _ h=>exact h
    have hey:=gI hk h3
    have hex:a.eval x=.map none:=by
      generalize a.eval x=v at *;cases h1 with|d _ _ h=>cases h;rfl
    obtain⟨hu,hd⟩:=lC hl;obtain⟨l,hkl⟩:=S.of k hk
    have hf:(Instr.findKey kt (eU k) []).run C.P w=.ok none w:=by
      rcases S.law.find w hkl [] (λe he=>by cases he) with ⟨h,_⟩|⟨j,e,_,h,_⟩
      · exact h
      simp at h
    refine⟨.tuple #[z,.bool false],?_,.tup _ _ rfl λi c v hc hv'=>?_⟩
    · simp only [execOp,ho,hex,hey]
      simp [Instr.lookup,run_underlying hu,S.law.check w _ hkl,hf,jW hz,Result.andThen]
    match i,hc,hv' with
    | 0,hc,hv'=>simp at hc hv';subst hc hv';rw [← hzd];exact dH w g _
    | 1,hc,hv'=>simp at hc hv';subst hc hv';exact .d _ _ (.bool false)
    | i+2,hc,_=>simp at hc
end look
section upd
variable {o:Oper} {K:St→Prop} {x y u:Operand} {t kt et kt' et':TypeId} {d:TypeDesc} {id:Nat} {es:List (D×D)} {k v:D} {ks:List TypeDesc}
theorem sR (S:SKey C.P kt ks) (ho:o.op=.mapUpdate t x y u) (hd:o.dst=none) (hl:mty C.P t=some (kt,d,et)) (hx:st.fr.ev x=.mmap id) (hb:st.hp[id]?=some (.map kt' et' es)) (hy:st.fr.ev y=.d k) (hu:st.fr.ev u=.d v) (hk:fY ks k) (hks:∀ e∈es,fY ks e.1) (hne:∀ e∈es,e.1≠k)
    (hK:K ⟨st.fr,st.hp.set id (.map kt' et' (es++[(k,v)]))⟩):OpOk C o st K:=
  OpOk.skip λg a w hs=>by
    obtain⟨b,ents,clock,hp,hex,hw,hE,hey⟩:=gT hs hx hb hy hk;have hf:=tQ S hE hks hk hne;obtain⟨hu',hd'⟩:=lC hl;obtain⟨l,hkl⟩:=S.of k hk;have hv:=hs.ev u;rw [hu] at hv;have hv':DRep w g.X v (a.eval u):=by cases hv with|d _ _ h=>exact h
    have hkd:=hs.ev y;rw [hy,hey] at hkd;have hkd':DRep w g.X k (eU k):=by cases hkd with|d _ _ h=>exact h
    refine⟨{ w with heap:=w.heap.setIfInBounds b (.map (ents.push { key:=eU k,val:=a.eval u,born:=clock }) (clock+1)) },?_,_,g,hK,?_⟩
    · simp only [execOp,ho,hex,hey]
      simp [Instr.mapUpdate,run_underlying hu',MapKept.run_getObj_map hw,S.law.check w _ hkl,hf,MapKept.run_setObj_map _ hw,Result.andThen]
    rw [hd];refine oL hs hp hb hw ⟨by simp [hE.1],λj e m he hm=>?_⟩;rw [List.getElem?_append] at he;rw [Array.getElem?_push] at hm;split at he
    · rename_i hlt
      rw [if_neg (by rw [hE.1];omega)] at hm;exact hE.2 j e m he hm
    rename_i hge
    have hj:j=es.length:=by
      rcases Nat.lt_or_ge (j - es.length) 1 with h1|h1
      · omega
      rw [List.getElem?_eq_none (by simpa using h1)] at he;cases he
    subst hj;rw [if_pos hE.1.symm] at hm;simp at he hm;subst he hm;exact⟨hkd',hv'⟩
theorem uW {j:Nat} {v0:D} (S:SKey C.P kt ks) (ho:o.op=.mapUpdate t x y u) (hd:o.dst=none) (hl:mty C.P t=some (kt,d,et)) (hx:st.fr.ev x=.mmap id) (hb:st.hp[id]?=some (.map kt' et' es)) (hy:st.fr.ev y=.d k) (hu:st.fr.ev u=.d v) (hks:∀ e∈es,fY ks e.1) (hnd:(es.map (·.1)).Nodup) (hj:es[j]?=some (k,v0))
    (hK:K ⟨st.fr,st.hp.set id (.map kt' et' (es.set j (k,v)))⟩):OpOk C o st K:=
  OpOk.skip λg a w hs=>by
    have hk:fY ks k:=hks (k,v0) (zQM hj);obtain⟨b,ents,clock,hp,hex,hw,hE,hey⟩:=gT hs hx hb hy hk;obtain⟨e0,he0,hek,_,hf⟩:=qJ S hE hks hnd hj;obtain⟨hu',hd'⟩:=lC hl;obtain⟨l,hkl⟩:=S.of k hk;have hv:=hs.ev u;rw [hu] at hv;have hv':DRep w g.X v (a.eval u):=by cases hv with|d _ _ h=>exact h
    have hkd:=hs.ev y;rw [hy,hey] at hkd;have hkd':DRep w g.X k (eU k):=by cases hkd with|d _ _ h=>exact h
    have hst:(Instr.keyThatStays e0.key (eU k)).run C.P w=.ok (eU k) w:=by rw [hek];exact S.law.stays w hkl
    refine⟨{ w with heap:=w.heap.setIfInBounds b (.map (ents.modify j λe=>{ e with key:=eU k,val:=a.eval u }) clock) },?_,_,g,hK,?_⟩
    · simp only [execOp,ho,hex,hey]
      simp [Instr.mapUpdate,run_underlying hu',MapKept.run_getObj_map hw,S.law.check w _ hkl,hf,he0,hst,MapKept.run_setObj_map _ hw,Result.andThen]
    rw [hd];refine oL hs hp hb hw ⟨by simp [hE.1],λi e m he hm=>?_⟩;rw [List.getElem?_set] at he;rw [Array.getElem?_modify] at hm;split at he
    · rename_i hij
      subst hij;rw [if_pos rfl,he0] at hm;split at he
      · cases he
        simp at hm;subst hm;exact⟨hkd',hv'⟩
      cases he
    rename_i hij;rw [if_neg hij] at hm;exact hE.2 i e m he hm
end upd
structure KeyG (ks:List TypeDesc) {α:Type} (kf:α→D) (ok:α→Bool):Prop where
  key:∀ a,ok a=true→fY ks (kf a)
  inj:∀ a b,kf a=kf b→a=b
def dF {α β:Type} (ok:α→Bool) (fs:List (α×β)) (s:α):Prop:=(fs.map (·.1)).Nodup∧(∀ x∈fs,ok x.1=true)∧ok s=true
instance {α β:Type} [DecidableEq α] (ok:α→Bool) (fs:List (α×β)) (s:α):Decidable (dF ok fs s):=by unfold dF;infer_instance
section pm
variable {α β:Type} [DecidableEq α] {dk:TypeDesc} {kf:α→D} {ok:α→Bool} {ks:List TypeDesc}
variable {o:Oper} {ev:Operand→AV} {hp:List Blk} {x y u:Operand} {t kt et kt' et':TypeId} {id:Nat} {zd:D} {z:Value}
theorem jD (hk:KeyG ks kf ok) (f:β→D) {fs:List (α×β)} (h:∀ x∈fs,ok x.1=true):∀ e∈aJ kf f fs,fY ks e.1:=λe he=>by
  unfold aJ at he;simp only [List.mem_map] at he;obtain⟨x,hx,rfl⟩:=he;exact hk.key _ (h x hx)
theorem mM (hk:KeyG ks kf ok) (f:β→D) {fs:List (α×β)} (h:(fs.map (·.1)).Nodup):((aJ kf f fs).map (·.1)).Nodup:=by
  have:(aJ kf f fs).map (·.1)=(fs.map (·.1)).map kf:=by simp [aJ]
  rw [this];exact h.map _ λa b hab e=>hab (hk.inj _ _ e)
theorem sP (hk:KeyG ks kf ok) (f:β→D) {fs:List (α×β)} {s:α} (h:∀ x∈fs,x.1≠s):∀ e∈aJ kf f fs,e.1≠kf s:=λe he=>by
  unfold aJ at he;simp only [List.mem_map] at he;obtain⟨x,hx,rfl⟩:=he;exact λq=>h x hx (hk.inj _ _ q)
theorem qQ (S:SKey C.P kt ks) (hk:KeyG ks kf ok) (f:β→D) (fs:List (α×β)) (s:α) (z0:β) (ho:o.op=.lookup t x y true) (hl:mty C.P t=some (kt,dk,et)) (hz:(C.P.info? et).bind (·.zero)=some z) (hzd:bM z=.d (f z0))
    (hx:ev x=.mmap id) (hb:hp[id]?=some (.map kt' et' (aJ kf f fs))) (hy:ev y=.d (kf s)) (hg:dF ok fs s):RdOk C o ev hp (.tup [.d (f ((bS fs s).getD z0)),.d (.bool (bS fs s).isSome)]):=by
  cases h:bS fs s with
  | none=>exact sJ S ho hl hz hzd hx hb hy (hk.key _ hg.2.2) (jD hk f hg.2.1) (sP hk f (mU h))
  | some b=>
    obtain⟨j,hj⟩:=uB h;exact rC (j:=j) S ho hl hx hb hy (jD hk f hg.2.1) (mM hk f hg.1) (by simp [aJ,hj])
theorem lQ {ops:Array Oper} {l:List Oper} {K:St→Prop} {fr:Fr} {ty:TypeId} {pos:String} {after:Array Edge} (S:SKey C.P kt ks) (hk:KeyG ks kf ok) (f:β→D) {fs:List (α×β)} {s:α} {b:β} (hl:mty C.P t=some (kt,dk,et)) (hx:fr.ev x=.mmap id) (hb:hp[id]?=some (.map kt' et' (aJ kf f fs))) (hy:fr.ev y=.d (kf s)) (hu:fr.ev u=.d (f b)) (hg:dF ok fs s)
    (h:aO C ops l ⟨fr,hp.set id (.map kt' et' (aJ kf f (eL fs s b)))⟩ K):aO C ops (⟨none,.mapUpdate t x y u,ty,pos,after,none⟩ :: l) ⟨fr,hp⟩ K:=by
  cases e:fs.findIdx? λx=>decide (x.1=s) with
  | none=>
    have hn:bS fs s=none:=by
      unfold bS;rw [Option.map_eq_none_iff,List.find?_eq_none];rw [List.findIdx?_eq_none_iff] at e;intro x hx;simpa using e x hx
    refine bX rfl (sR S rfl rfl hl hx hb hy hu (hk.key _ hg.2.2) (jD hk f hg.2.1) (sP hk f (mU hn)) ?_);have e2:aJ kf f (fs++[(s,b)])=aJ kf f fs++[(kf s,f b)]:=by simp [aJ]
    rw [← e2];simpa only [eL,e] using h
  | some j=>
    have e':=e;rw [List.findIdx?_eq_some_iff_getElem] at e;obtain⟨hlt,hj,_⟩:=e
    have hj':fs[j]?=some (s,fs[j].2):=by
      rw [zQR hlt,← of_decide_eq_true hj]
    refine bX rfl (uW (j:=j) (v0:=f fs[j].2) S rfl rfl hl hx hb hy hu (jD hk f hg.2.1) (mM hk f hg.1) (by simp [aJ,hj']) ?_);simp only [eL,e'] at h;simpa [aJ,List.map_set] using h
end pm
variable {P:Program} {C:Ctx} {st:St} {g:Gh} {a:Act} {w:World}
theorem Sim.virtM (h:Sim C st g a w) (kt vt:Nat):Sim C ⟨st.fr,st.hp++[.map kt vt []]⟩ g a w:=by
  refine { h with hp:=?_,lt:=?_,inj:=?_,kle:=?_ }
  · intro i B hi
    simp only [List.getElem?_append] at hi;split at hi
    · exact h.hp i B hi
    rename_i hge
    have:i=st.hp.length:=by
      rcases Nat.lt_or_ge (i - st.hp.length) 1 with h1|h1
      · omega
      rw [List.getElem?_eq_none (by simpa using h1)] at hi;cases hi
    subst this;simp at hi;subst hi;exact .inl ⟨rfl,h.phi_none (zQW _)⟩
  · intro i b hp
    have:=h.lt i b hp;simp only [zQL,List.length_cons,List.length_nil];exact⟨this.1,by omega,this.2.2⟩
  · intro i j b Bi Bj hBi hBj hdi hdj hi hj
    have l1:=(h.lt _ _ hi).2.1;have l2:=(h.lt _ _ hj).2.1;rw [List.getElem?_append,if_pos l1] at hBi;rw [List.getElem?_append,if_pos l2] at hBj;exact h.inj i j b Bi Bj hBi hBj hdi hdj hi hj
  have:=h.kle;simp only [zQL,List.length_cons,List.length_nil];omega
theorem Sim.recell (h:Sim C st g a w) {i j:Nat} {t:TypeId} {cs:List AV} {y:AV} (hb:st.hp[i]?=some (.box t cs))
    (hy:∀ v,(∀ x,cs[j]?=some x→ARep w g x v)→(∃ b cells,g.phi i=some b∧w.heap[b]?=some (.cells cells t (0,0))∧cells[j]?=some v)→ARep w g y v):Sim C ⟨st.fr,st.hp.set i (.box t (cs.set j y))⟩ g a w:=by
  have hi:=(zQQ.1 hb).1;obtain⟨b,cells,hp,hw,hps,hl,hr⟩:=h.hp i _ hb;refine { h with hp:=λk B hk=>?_,lt:=λk b hk=>by have:=h.lt k b hk;simpa using this,inj:=λk k' b Bk Bk' h1 h2 d1 d2 p1 p2=>?_,kle:=by simpa using h.kle }
  · by_cases e1:i=k
    · subst e1
      rw [List.getElem?_set,if_pos rfl] at hk
      have hk:B=.box t (cs.set j y):=by
        simp only [hi,if_true,Option.some.injEq] at hk;exact hk.symm
      subst hk;refine⟨b,cells,hp,hw,hps,by simpa using hl,λq c v hq hv'=>?_⟩;by_cases e2:j=q
      · subst e2
        rw [List.getElem?_set,if_pos rfl] at hq;split at hq
        · cases hq
          exact hy v (λx hx=>hr _ x v hx hv') ⟨b,cells,hp,hw,hv'⟩
        cases hq
      rw [List.getElem?_set_ne e2] at hq;exact hr q c v hq hv'
    rw [List.getElem?_set_ne e1] at hk;exact h.hp k B hk
  have key:∀ (k:Nat) (Bk:Blk),(st.hp.set i (.box t (cs.set j y)))[k]?=some Bk→Bk≠.dead→∃ B',st.hp[k]?=some B'∧B'≠.dead:=by
    intro k Bk hk hd;rw [List.getElem?_set] at hk;split at hk
    · rename_i e1
      subst e1;exact⟨.box t cs,hb,λe=>by cases e⟩
    exact⟨Bk,hk,hd⟩
  obtain⟨B1,e1,d1'⟩:=key k Bk h1 d1;obtain⟨B2,e2,d2'⟩:=key k' Bk' h2 d2;exact h.inj k k' b B1 B2 e1 e2 d1' d2' p1 p2
theorem Sim.upM (h:Sim C st g a w) {i j:Nat} {t kt vt:Nat} {cs:List AV} (hb:st.hp[i]?=some (.box t cs)) (hc:cs[j]?=some (.d .nilmap)):Sim C ⟨st.fr,(st.hp.set i (.box t (cs.set j (.mmapN st.hp.length 0))))++[Blk.map kt vt []]⟩ g a w:=by
  have hi:=(zQQ.1 hb).1;have hb':(st.hp++[Blk.map kt vt []])[i]?=some (.box t cs):=by rw [List.getElem?_append,if_pos hi];exact hb
  have h2:=Sim.recell (h.virtM kt vt) (i:=i) (j:=j) (y:=.mmapN st.hp.length 0) hb' λv hv _=>by
    cases hv _ hc with
    | d _ _ hd=>cases hd with
      | nilmap=>exact .mmapN0 _
  simp only [List.set_append,if_pos hi] at h2;exact h2
section
variable {ops:Array Oper} {l:List Oper} {K:St→Prop} {fr:Fr} {hp:List Blk} {c:Code} {Q:Exit→St→Prop} {α β:Type}
theorem wA {kf:α→D} {f:β→D} (i j N kt vt:Nat) {t:TypeId} {cs:List AV} (hN:Nat.beq hp.length N=true) (hb:hp[i]?=some (.box t cs)) (hc:cs[j]?=some (.d .nilmap))
    (h:aO C ops l ⟨fr,(hp.set i (.box t (cs.set j (.mmapN N ([]:List (α×β)).length))))++[Blk.map kt vt (aJ kf f ([]:List (α×β)))]⟩ K):aO C ops l ⟨fr,hp⟩ K:=by
  have e:=Nat.eq_of_beq_eq_true hN;subst e;exact λg a w hs=>h g a w (Sim.upM (st:=⟨fr,hp⟩) hs hb hc)
theorem tV {kf:α→D} {f:β→D} {fs:List (α×β)} (i j m:Nat) {t kt vt:Nat} {cs:List AV} (hb:hp[i]?=some (.box t cs)) (hc:cs[j]?=some (.mmapN m fs.length)) (hm:hp[m]?=some (.map kt vt (aJ kf f fs)))
    (h1:fs=[]→TWp C c ⟨fr,(hp.set i (.box t (cs.set j (.d .nilmap)))).set m (.map kt vt (aJ kf f ([]:List (α×β))))⟩ Q)
    (h2:TWp C c ⟨fr,hp.set i (.box t (cs.set j (.mmap m)))⟩ Q):TWp C c ⟨fr,hp⟩ Q:=λg a w hs=>by
  have hne:i≠m:=λe=>by subst e;rw [hb] at hm;cases hm
  obtain⟨b,cells,hpi,hw,hps,hl,hr⟩:=hs.hp i _ hb;have hj:=(zQQ.1 hc).1;have hjc:j < cells.size:=by omega
  have hcell:cells[j]?=some cells[j]:=by simp [hjc]
  have hrep:=hr j _ _ hc hcell;generalize hv:cells[j]=v at *
  have key:∀ u,(∃ b cells,g.phi i=some b∧w.heap[b]?=some (.cells cells t (0,0))∧cells[j]?=some u)→u=v:=by
    rintro u ⟨b',cells',e1,e2,e3⟩;cases hpi.symm.trans e1;rw [hw] at e2;cases e2;rw [hcell] at e3;exact (Option.some.inj e3).symm
  generalize hn:fs.length=n at *
  cases hrep with
  | mmapN0=>
    have hfs:fs=[]:=List.length_eq_zero_iff.1 hn;subst hfs
    have hset:(hp.set i (.box t (cs.set j (.d .nilmap)))).set m (.map kt vt (aJ kf f ([]:List (α×β))))=hp.set i (.box t (cs.set j (.d .nilmap))):=by
      apply List.ext_getElem?;intro k;rw [List.getElem?_set];split
      · rename_i e;subst e
        have hml:=(zQQ.1 hm).1;rw [if_pos (by simpa using hml),List.getElem?_set_ne hne,hm]
      rfl
    have h1':=h1 rfl;rw [hset] at h1';exact h1' g a w (Sim.recell (st:=⟨fr,hp⟩) hs hb λu _ hu=>by rw [key u hu];exact .d _ _ .nilmap)
  | mmapN _ _ b' hb'=>exact h2 g a w (Sim.recell (st:=⟨fr,hp⟩) hs hb λu _ hu=>by rw [key u hu];exact .mmap _ b' hb')
theorem zE {ρ:Type} [DecidableEq ρ] {l:List α} {a b:Option ρ} {o:ρ} (h:l=[]) (hm:sU l a b=some o):a=some o:=by
  subst h;simp only [sU] at hm;split at hm
  · split at hm
    · exact hm
    cases hm
  cases hm
def wkN (m n:Nat):AV→Bool
  | .mmap q=>Nat.beq q m
  | .mmapN q k=>Nat.beq q m&&Nat.beq k n
  | _=>false
theorem Sim.wkM (h:Sim C st g a w) {i j m n:Nat} {t:TypeId} {cs:List AV} {x:AV} (hb:st.hp[i]?=some (.box t cs)) (hc:cs[j]?=some x) (hx:wkN m n x=true∨(x=.d .nilmap∧n=0)):Sim C ⟨st.fr,st.hp.set i (.box t (cs.set j (.mmapN m n)))⟩ g a w:=
  h.recell hb λv hv _=>by
    have:=hv _ hc;rcases hx with hx|⟨rfl,rfl⟩
    · cases x<;>simp only [wkN,Bool.false_eq_true] at hx
      · have e:=Nat.eq_of_beq_eq_true hx
        subst e;cases this with|mmap _ b hb=>exact .mmapN _ _ b hb
      simp only [zQA] at hx;have e1:=Nat.eq_of_beq_eq_true hx.1;have e2:=Nat.eq_of_beq_eq_true hx.2;subst e1 e2;exact this
    cases this with
    | d _ _ hd=>cases hd with
      | nilmap=>exact .mmapN0 _
theorem kD (i j m n:Nat) {t:TypeId} {cs:List AV} (hb:hp[i]?=some (.box t cs)) (hc:cs[j]?=some (.mmap m)) (h:TWp C c ⟨fr,hp.set i (.box t (cs.set j (.mmapN m n)))⟩ Q):TWp C c ⟨fr,hp⟩ Q:=λg a w hs=>h g a w (Sim.wkM (st:=⟨fr,hp⟩) hs hb hc (.inl (Nat.beq_refl m)))
end
theorem rM {o:Oper} {K:St→Prop} {t:TypeId} {m:Nat} {B0:Blk} (ho:o.op=.makeMap t none) (hd:iQ C.n o.dst=true) (kt et:TypeId) (hb:st.hp[m]?=some B0) (hm:m < C.k→C.mv m=true) (hK:K (St.put ⟨(st.purge m).fr,(st.purge m).hp.set m (.map kt et [])⟩ o.dst (.mmap m))):OpOk C o st K:=
  OpOk.change λg a w hs=>by
    refine⟨.map (some w.heap.size),w.alloc (.map #[] 0),?_,_,_,hK,(hs.move (i:=m) (n:=0) (B:=.map kt et []) (zQQ.1 hb).1 hm (.inr ⟨w.heap.size,#[],0,by simp [Gh.new,upd],heap_alloc_new w _,rfl,λk e m he=>by simp at he⟩)).put' hd (.mmap _ w.heap.size (by simp [Gh.new,upd]))⟩;simp only [execOp,ho];simp [Instr.makeMap,newObj,Sem.run,Result.andThen]
theorem mL {ops:Array Oper} {l:List Oper} {K:St→Prop} {fr fr':Fr} {hp hp':List Blk} {dd:Nat} {t ty:TypeId} {pos:String} {after:Array Edge} {B0:Blk} {α β:Type} {kf:α→D} {f:β→D} (m kt et:Nat) (hd:decide (dd < C.n)=true) (hb:hp[m]?=some B0) (hm:m < C.k→C.mv m=true) (hf:Fr.mapRef (purge m) fr=fr') (hh:(hp.map (Blk.mapRef (purge m))).set m (.map kt et (aJ kf f ([]:List (α×β))))=hp')
    (h:aO C ops l ⟨(dd,.mmap m) :: fr',hp'⟩ K):aO C ops (⟨some dd,.makeMap t none,ty,pos,after,none⟩ :: l) ⟨fr,hp⟩ K:=by
  subst hf hh;exact bX rfl (rM rfl hd kt et (st:=⟨fr,hp⟩) hb hm h)
theorem nW {t k e:TypeId} (hu:P.underlying t=some (.map k e)) (b:Option Nat) (w:World):(binOp .eql t (.map b) (.map none)).run P w=.ok (.bool b.isNone) w:=by
  have h:(Op.equalIn (9999+1) t (.map b) (.map none)).run P w=.ok b.isNone w:=by
    unfold Op.equalIn;cases b<;>simp [run_underlying hu]
  have h':(Op.equal t (.map b) (.map none)).run P w=.ok b.isNone w:=h;simp [binOp,h']
theorem qH {op:BinOp} {t:TypeId} {x y:Operand} {b b':Option Nat} (w:World):(eqGuard op t x y (.map b) (.map b')).run P w=.ok () w:=by
  unfold eqGuard;cases op<;>simp
section
variable {o:Oper} {ev:Operand→AV} {hp:List Blk} {x y:Operand} {t t' k e:TypeId}
theorem nZ (ho:o.op=.binOp .eql t x y t') (hu:C.P.underlying t=some (.map k e)) (hx:ev x=.d .nilmap) (hy:y=.const (.map none)):RdOk C o ev hp (.d (.bool true)):=
  RdOk.mk λst hhp hag g a w hs=>by
    subst hy;have h:=hs.ev x;rw [hag x (by simp [ho,Op.operands]),hx] at h
    have hv:a.eval x=.map none:=by
      generalize a.eval x=v at *;cases h with|d _ _ h=>cases h;rfl
    refine⟨.bool true,?_,.d _ _ (.bool true)⟩;have he:a.eval (.const (.map none))=.map none:=rfl;simp only [execOp,ho,hv,he,Sem.run_bind,qH,Result.andThen_ok,nW hu];rfl
theorem oA {id:Nat} (ho:o.op=.binOp .eql t x y t') (hu:C.P.underlying t=some (.map k e)) (hx:ev x=.mmap id) (hy:y=.const (.map none)):RdOk C o ev hp (.d (.bool false)):=
  RdOk.mk λst hhp hag g a w hs=>by
    subst hy;have h:=hs.ev x;rw [hag x (by simp [ho,Op.operands]),hx] at h;obtain⟨b,_,hv⟩:=sV h;refine⟨.bool false,?_,.d _ _ (.bool false)⟩;have he:a.eval (.const (.map none))=.map none:=rfl;simp only [execOp,ho,hv,he,Sem.run_bind,qH,Result.andThen_ok,nW hu];rfl
end
theorem rX {α β:Type} {dk:TypeDesc} {kf:α→D} {ok:α→Bool} {ks:List TypeDesc} {o:Oper} {ev:Operand→AV} {hp:List Blk} {x y:Operand} {t kt et:TypeId} {z:Value} (S:SKey C.P kt ks) (hk:KeyG ks kf ok) (f:β→D) (s:α) (z0:β) (ho:o.op=.lookup t x y true) (hl:mty C.P t=some (kt,dk,et)) (hz:(C.P.info? et).bind (·.zero)=some z) (hzd:bM z=.d (f z0))
    (hx:ev x=.d .nilmap) (hy:ev y=.d (kf s)) (hg:ok s=true):RdOk C o ev hp (.tup [.d (f z0),.d (.bool false)]):=
  rD S ho hl hz hzd hx hy (hk.key _ hg)
inductive ArgW:AV→AV→Prop
  | refl (x:AV):ArgW x x
  | nil (i sz:Nat):ArgW (.d .nilsl) (.msl i sz 0 0)
inductive ArgsW:List AV→List AV→Prop
  | nil:ArgsW [] []
  | cons {x y:AV} {xs ys:List AV} (h:ArgW x y) (hr:ArgsW xs ys):ArgsW (x :: xs) (y :: ys)
theorem s_on {ops:Array Oper} {op:Op} {dst:Option Nat} {ty:TypeId} {pos:String} {after:Array Edge} {gd:Option (Nat×Bool)} {l:List Oper} {K:St→Prop} {fr:Fr} {hp:List Blk} (hon:onE ops gd fr=some true)
    (k:aO C ops (⟨dst,op,ty,pos,after,none⟩ :: l) ⟨fr,hp⟩ K):aO C ops (⟨dst,op,ty,pos,after,gd⟩ :: l) ⟨fr,hp⟩ K:=by
  intro g a w hs;have h:=k g a w hs;unfold wpList at h ⊢
  have hw:Region.wanted ⟨dst,op,ty,pos,after,gd⟩ (yielded ops a.tmps)=true:=by
    rcases rJ hs hon with ⟨hg,_⟩|⟨i,want,hg,⟨hy,_⟩|⟨_,hc⟩⟩
    · simp [Region.wanted,hg]
    · simp [Region.wanted,hg,hy]
    cases hc
  rw [if_pos hw];rw [if_pos (by simp [Region.wanted])] at h;exact h
end Go.TL
set_option maxHeartbeats 8000000
set_option linter.unusedSimpArgs false
set_option linter.unusedVariables false
set_option maxRecDepth 20000
namespace Go.Proofs.Ytdkhkhidekpfoaa
open Go Go.TL
structure Expr where
 op:Int
 var:Int
 args:(List Expr)
instance:Inhabited Expr:=⟨⟨default,default,[]⟩⟩
mutual
def Expr.encR:Expr→D
 | ⟨a0,a1,a2⟩=>.agg [.int .i64 a0,.int .i64 a1,.sl 3 (Expr.encsR a2)]
def Expr.encsR:List Expr→List D
 | []=>[]
 | e :: r=>Expr.encR e :: Expr.encsR r
end
theorem Expr.encsR_map:∀ xs:List Expr,Expr.encsR xs=xs.map Expr.encR
 | []=>by simp [Expr.encsR]
 | e :: r=>by simp [Expr.encsR,Expr.encsR_map r]
def Expr.enc (x:Expr):D:=.agg [.int .i64 x.op,.int .i64 x.var,.sl 3 (x.args.map Expr.encR)]
theorem Expr.encR_eq (x:Expr):x.encR=x.enc:=by cases x;simp [Expr.encR,Expr.enc,Expr.encsR_map]
theorem Expr.encR_cells (x:Expr):x.encR.cells.length=3:=by rw [Expr.encR_eq];rfl
mutual
def Expr.beq:Expr→Expr→Bool
 | ⟨a0,a1,a2⟩,⟨b0,b1,b2⟩=>decide (a0=b0)&&decide (a1=b1)&&Expr.beqs a2 b2
def Expr.beqs:List Expr→List Expr→Bool
 | [],[]=>true
 | x :: xs,y :: ys=>Expr.beq x y&&Expr.beqs xs ys
 | _,_=>false
end
mutual
theorem Expr.beq_iff:∀ a b:Expr,Expr.beq a b=true↔a=b
 | ⟨a0,a1,a2⟩,⟨b0,b1,b2⟩=>by simp [Expr.beq,Expr.beqs_iff a2 b2,and_assoc]
theorem Expr.beqs_iff:∀ a b:List Expr,Expr.beqs a b=true↔a=b
 | [],[]=>by simp [Expr.beqs]
 | [],_ :: _=>by simp [Expr.beqs]
 | _ :: _,[]=>by simp [Expr.beqs]
 | x :: xs,y :: ys=>by simp [Expr.beqs,Expr.beq_iff x y,Expr.beqs_iff xs ys]
end
instance:DecidableEq Expr:=λa b=>decidable_of_iff _ (Expr.beq_iff a b)
inductive Expr.Wf:Expr→Prop
 | mk (x:Expr) (h0:I64 x.op) (h1:I64 x.var) (h2:x.args.length≤reachBytes) (g2:∀ y∈x.args,Expr.Wf y):Expr.Wf x
structure Node where
 var:Int
 lo:Int
 hi:Int
deriving DecidableEq,Inhabited
def Node.enc (x:Node):D:=.agg [.int .i64 x.var,.int .i64 x.lo,.int .i64 x.hi]
structure Node.Wf (x:Node):Prop where
 var:I64 x.var
 lo:I64 x.lo
 hi:I64 x.hi
structure Diagram where
 nodes:(List Node)
 root:Int
deriving DecidableEq,Inhabited
def Diagram.enc (x:Diagram):D:=.agg [.sl 3 (x.nodes.map Node.enc),.int .i64 x.root]
structure Diagram.Wf (x:Diagram):Prop where
 nodes:x.nodes.length≤reachBytes∧∀ y∈x.nodes,Node.Wf y
 root:I64 x.root
structure Pair where
 a:Int
 b:Int
deriving DecidableEq,Inhabited
def Pair.enc (x:Pair):D:=.agg [.int .i64 x.a,.int .i64 x.b]
structure Pair.Wf (x:Pair):Prop where
 a:I64 x.a
 b:I64 x.b
structure Node' where
 index:(List (Node×Int))
 list:(List Node)
deriving DecidableEq,Inhabited
structure Node'.Wf (x:Node'):Prop where
 index:True
 list:x.list.length≤reachBytes∧∀ y∈x.list,Node.Wf y
structure Merger where
 a:Diagram
 b:Diagram
 all:Bool
 nodes:Node'
 done:(List (Pair×Int))
 full:Bool
deriving DecidableEq,Inhabited
structure Merger.Wf (x:Merger):Prop where
 a:Diagram.Wf x.a
 b:Diagram.Wf x.b
 all:True
 nodes:Node'.Wf x.nodes
 done:True
 full:True
def Node.ok (x:Node):Prop:=I64 x.var∧I64 x.lo∧I64 x.hi
instance (x:Node):Decidable (Node.ok x):=by unfold Node.ok;infer_instance
def Node.okb (x:Node):Bool:=decide (Node.ok x)
theorem qO (x y:Node):([.int .i64 x.var,.int .i64 x.lo,.int .i64 x.hi]:List Lit)=[.int .i64 y.var,.int .i64 y.lo,.int .i64 y.hi]↔decide (x=y)=true:=by
 rw [decide_eq_true_eq]
 obtain⟨_,_,_⟩:=x
 obtain⟨_,_,_⟩:=y
 simp [Node.mk.injEq,vP,and_assoc]
def Pair.ok (x:Pair):Prop:=I64 x.a∧I64 x.b
instance (x:Pair):Decidable (Pair.ok x):=by unfold Pair.ok;infer_instance
def Pair.okb (x:Pair):Bool:=decide (Pair.ok x)
theorem follows:Try.prog.follows .mixedOrders=true:=by kernel_rfl
theorem own:ownKnob Try.prog.godebug=none:=by kernel_rfl
theorem qBL:laidOutB Try.prog=true:=by kernel_rfl
def tab:Tab where
 lay:=[(3,false,1),(4,false,1),(22,false,1),(24,true,3),(27,false,1),(29,true,2),(36,false,1),(39,false,1),(51,true,3),(61,false,1),(78,false,1),(79,false,1),(81,true,9),(84,true,2)]
 fs:=[(24,[(0,false,1),(1,false,1),(2,false,1)]),(29,[(0,false,1),(1,false,1)]),(51,[(0,false,1),(1,false,1),(2,false,1)]),(63,[(0,false,1),(1,false,1)]),(81,[(0,true,2),(2,true,2),(4,false,1),(5,true,2),(7,false,1),(8,false,1)]),(84,[(0,false,1),(1,false,1)])]
 sel:=[(22,24,3,40),(27,51,3,24),(36,4,1,1),(54,36,1,24),(59,39,1,8),(66,3,1,8)]
 str:=[]
 boo:=[(4,())]
 con:=[]
theorem TK:TabOk Try.prog tab:=qAW (by kernel_rfl)
theorem qDC:bD Try.prog 10=true:=by kernel_rfl
theorem qDB:bD Try.prog 11=true:=by kernel_rfl
theorem qDA:bD Try.prog 12=true:=by kernel_rfl
theorem qCZ:bD Try.prog 13=true:=by kernel_rfl
theorem qCY:bD Try.prog 15=true:=by kernel_rfl
theorem qCX:bD Try.prog 17=true:=by kernel_rfl
theorem qCW:bD Try.prog 19=true:=by kernel_rfl
theorem qCV:bD Try.prog 23=true:=by kernel_rfl
theorem qCU:bD Try.prog 24=true:=by kernel_rfl
theorem callB3:bD Try.prog 3=true:=by kernel_rfl
theorem qCT:bD Try.prog 31=true:=by kernel_rfl
theorem qCS:bD Try.prog 32=true:=by kernel_rfl
theorem qCR:bD Try.prog 33=true:=by kernel_rfl
theorem qCQ:bD Try.prog 34=true:=by kernel_rfl
theorem qCP:bD Try.prog 35=true:=by kernel_rfl
theorem qCO:bD Try.prog 36=true:=by kernel_rfl
theorem qCN:bD Try.prog 38=true:=by kernel_rfl
theorem qCM:bD Try.prog 40=true:=by kernel_rfl
theorem qCL:bD Try.prog 41=true:=by kernel_rfl
theorem wS:bD Try.prog 42=true:=by kernel_rfl
theorem qCK:bD Try.prog 43=true:=by kernel_rfl
theorem qCJ:bD Try.prog 46=true:=by kernel_rfl
theorem qCI:bD Try.prog 47=true:=by kernel_rfl
theorem qCH:bD Try.prog 49=true:=by kernel_rfl
theorem qCG:bD Try.prog 50=true:=by kernel_rfl
theorem qCF:bD Try.prog 51=true:=by kernel_rfl
theorem qCE:bD Try.prog 52=true:=by kernel_rfl
theorem qCD:bD Try.prog 53=true:=by kernel_rfl
theorem qCC:bD Try.prog 54=true:=by kernel_rfl
theorem qCB:bD Try.prog 55=true:=by kernel_rfl
theorem qCA:bD Try.prog 56=true:=by kernel_rfl
theorem qBZ:bD Try.prog 57=true:=by kernel_rfl
theorem qBY:bD Try.prog 58=true:=by kernel_rfl
theorem qBX:bD Try.prog 59=true:=by kernel_rfl
theorem callB9:bD Try.prog 9=true:=by kernel_rfl
theorem zQ:(Try.prog.keyTypeAt 30 51&&!Try.prog.eqGuardType Try.prog.depth 51&&(match Try.prog.underlying 51 with|some (.struct _)=>true|_=>false)&&[TypeDesc.int .i64,TypeDesc.int .i64,TypeDesc.int .i64].length == Try.prog.cellsOf 51)=true:=by kernel_rfl
theorem wN:jZ Try.prog 30 51=some [.int .i64,.int .i64,.int .i64]:=by kernel_rfl
theorem mP:mty Try.prog 61=some (51,(Try.prog.underlying 51).getD .bool,3):=by kernel_rfl
theorem zG:mty Try.prog 79=some (84,(Try.prog.underlying 84).getD .bool,3):=by kernel_rfl
theorem qDT:plc Try.prog 24=some [(0,1),(1,1),(2,1)]:=by kernel_rfl
theorem eT:plc Try.prog 29=some [(0,1),(1,1)]:=by kernel_rfl
theorem qD:plc Try.prog 51=some [(0,1),(1,1),(2,1)]:=by kernel_rfl
theorem plc81:plc Try.prog 81=some [(0,2),(2,2),(4,1),(5,2),(7,1),(8,1)]:=by kernel_rfl
theorem yX:plc Try.prog 84=some [(0,1),(1,1)]:=by kernel_rfl
theorem iD:SKey Try.prog 51 [.int .i64,.int .i64,.int .i64]:=sKey 3 (by decide) (by kernel_rfl) (by kernel_rfl)
theorem uL:SKey Try.prog 84 [.int .i64,.int .i64]:=sKey 3 (by decide) (by kernel_rfl) (by kernel_rfl)
theorem nN:(Try.prog.info? 24).bind (·.zero)=Option.some (Go.Value.agg #[Go.Value.int Go.IntKind.i64 0,Go.Value.int Go.IntKind.i64 0,Go.Value.slice Option.none 0 0]):=by kernel_rfl
theorem bA:(Try.prog.info? 29).bind (·.zero)=Option.some (Go.Value.agg #[Go.Value.slice Option.none 0 0,Go.Value.int Go.IntKind.i64 0]):=by kernel_rfl
theorem nM:(Try.prog.info? 3).bind (·.zero)=Option.some (Go.Value.int Go.IntKind.i64 0):=by kernel_rfl
theorem uE:(Try.prog.info? 36).bind (·.zero)=Option.some (Go.Value.slice Option.none 0 0):=by kernel_rfl
theorem uD:(Try.prog.info? 39).bind (·.zero)=Option.some (Go.Value.int Go.IntKind.u64 0):=by kernel_rfl
theorem pY:(Try.prog.info? 4).bind (·.zero)=Option.some (Go.Value.bool Bool.false):=by kernel_rfl
theorem aX:(Try.prog.info? 51).bind (·.zero)=Option.some (Go.Value.agg #[Go.Value.int Go.IntKind.i64 0,Go.Value.int Go.IntKind.i64 0,Go.Value.int Go.IntKind.i64 0]):=by kernel_rfl
theorem zero63:(Try.prog.info? 63).bind (·.zero)=Option.some (Go.Value.agg #[Go.Value.map Option.none,Go.Value.slice Option.none 0 0]):=by kernel_rfl
theorem zero78:(Try.prog.info? 78).bind (·.zero)=Option.some Go.Value.nilFunc:=by kernel_rfl
theorem xY:(Try.prog.info? 81).bind (·.zero)=Option.some (Go.Value.agg #[Go.Value.slice Option.none 0 0,Go.Value.int Go.IntKind.i64 0,Go.Value.slice Option.none 0 0,Go.Value.int Go.IntKind.i64 0,Go.Value.bool Bool.false,Go.Value.map Option.none,Go.Value.slice Option.none 0 0,Go.Value.map Option.none,Go.Value.bool Bool.false]):=by kernel_rfl
theorem uC:(Try.prog.info? 84).bind (·.zero)=Option.some (Go.Value.agg #[Go.Value.int Go.IntKind.i64 0,Go.Value.int Go.IntKind.i64 0]):=by kernel_rfl
theorem qDP {w:World} {n k:Nat} {g:Gh} {mv:Nat→Bool} {o:Oper} {ev:Operand→AV} {hp:List Blk} {a b:Operand} {t':TypeId} {x y:Node} (ho:o.op=.binOp .eql 51 a b t') (hx:ev a=.d x.enc) (hy:ev b=.d y.enc) (h1:x.ok) (h2:y.ok):RdOk ⟨Try.prog,n,w,k,g,mv⟩ o ev hp (.d (.bool (decide (x=y)))):=
 eq_yes ho hx hy wN zQ rfl rfl ⟨⟨rfl,h1.1⟩,⟨rfl,h1.2.1⟩,⟨rfl,h1.2.2⟩,trivial⟩ ⟨⟨rfl,h2.1⟩,⟨rfl,h2.2.1⟩,⟨rfl,h2.2.2⟩,trivial⟩ (qO x y)
theorem qDO {w:World} {n k:Nat} {g:Gh} {mv:Nat→Bool} {o:Oper} {ev:Operand→AV} {hp:List Blk} {a b:Operand} {t':TypeId} {x y:Node} (ho:o.op=.binOp .neq 51 a b t') (hx:ev a=.d x.enc) (hy:ev b=.d y.enc) (h1:x.ok) (h2:y.ok):RdOk ⟨Try.prog,n,w,k,g,mv⟩ o ev hp (.d (.bool (!decide (x=y)))):=
 eq_not ho hx hy wN zQ rfl rfl ⟨⟨rfl,h1.1⟩,⟨rfl,h1.2.1⟩,⟨rfl,h1.2.2⟩,trivial⟩ ⟨⟨rfl,h2.1⟩,⟨rfl,h2.2.1⟩,⟨rfl,h2.2.2⟩,trivial⟩ (qO x y)
theorem iL : KeyG [.int .i64, .int .i64, .int .i64] Node.enc Node.okb := ⟨fun x h => by
 have h : Node.ok x := of_decide_eq_true h
 exact ⟨_, [.int .i64 x.var, .int .i64 x.lo, .int .i64 x.hi], rfl, rfl, ⟨⟨rfl, h.1⟩, ⟨rfl, h.2.1⟩, ⟨rfl, h.2.2⟩, trivial⟩⟩, fun a b h => by
 cases a; cases b; simpa [Node.enc] using h⟩
theorem vG : KeyG [.int .i64, .int .i64] Pair.enc Pair.okb := ⟨fun x h => by
 have h : Pair.ok x := of_decide_eq_true h
 exact ⟨_, [.int .i64 x.a, .int .i64 x.b], rfl, rfl, ⟨⟨rfl, h.1⟩, ⟨rfl, h.2⟩, trivial⟩⟩, fun a b h => by
 cases a; cases b; simpa [Pair.enc] using h⟩
theorem wR:Try.prog.cellsOf 24=3:=by kernel_rfl
theorem tree24 {t:TypeId} {cs:List D} (h:HasTy Try.prog t cs):(t=24→∃ x:Expr,x.Wf∧cs=[.int .i64 x.op,.int .i64 x.var,.sl 3 (x.args.map Expr.encR)])∧(t=22→∃ es:List Expr,es.length≤reachBytes∧(∀ e∈es,e.Wf)∧cs=[.sl 3 (es.map Expr.encR)]):=by
 induction h with
 | bool t ht b=>exact⟨λe=>(by subst e;rw [Try.underlying24] at ht;cases ht),λe=>(by subst e;rw [Try.underlying22] at ht;cases ht)⟩
 | int t k ht n hn=>exact⟨λe=>(by subst e;rw [Try.underlying24] at ht;cases ht),λe=>(by subst e;rw [Try.underlying22] at ht;cases ht)⟩
 | str t ht s hs=>exact⟨λe=>(by subst e;rw [Try.underlying24] at ht;cases ht),λe=>(by subst e;rw [Try.underlying22] at ht;cases ht)⟩
 | sl t e ht css hl h0 h ih=>
  refine⟨λe=>(by subst e;rw [Try.underlying24] at ht;cases ht),λe=>?_⟩;subst e;rw [Try.underlying22] at ht;cases ht
  have key:∀ css:List (List D),(∀ cs∈css,∃ x:Expr,x.Wf∧cs=[.int .i64 x.op,.int .i64 x.var,.sl 3 (x.args.map Expr.encR)])→∃ es:List Expr,es.length=css.length∧(∀ e∈es,e.Wf)∧css.map (aH Try.prog 24)=es.map Expr.encR:=by
   intro css
   induction css with
   | nil=>intro _;exact⟨[],rfl,λe he=>by simp at he,by simp⟩
   | cons cs r ih=>
    intro h;obtain⟨x,hx,hcs⟩:=h cs (by simp);obtain⟨es,h1,h2,h3⟩:=ih λc hc=>h c (by simp [hc]);refine⟨x :: es,by simp [h1],λy hy=>?_,?_⟩
    ·rcases zQB.1 hy with rfl|hy
     ·exact hx
     exact h2 y hy
    rw [List.map_cons,h3,List.map_cons,hcs,Expr.encR_eq];simp [aH,Try.underlying24,Expr.enc]
  obtain⟨es,h1,h2,h3⟩:=key css λcs hcs=>(ih cs hcs).1 rfl;exact⟨es,by omega,h2,by rw [h3,wR]⟩
 | struct t fs ht cs hl h ih=>
  refine⟨λe=>?_,λe=>(by subst e;rw [Try.underlying22] at ht;cases ht)⟩;subst e;rw [Try.underlying24] at ht;cases ht;rw [wR] at hl
  match cs,hl with
  | [a0,a1,a2],_=>
   obtain⟨x0,e0,w0⟩:=(h 0 _ rfl).int_inv Try.underlying3;have e0':=(List.cons.inj (show [a0]=[D.int .i64 x0] from e0)).1;obtain⟨x1,e1,w1⟩:=(h 1 _ rfl).int_inv Try.underlying3;have e1':=(List.cons.inj (show [a1]=[D.int .i64 x1] from e1)).1;obtain⟨es,l1,l2,e2⟩:=(ih 2 _ rfl).2 rfl;have e2':=(List.cons.inj (show [a2]=[D.sl 3 (es.map Expr.encR)] from e2)).1;subst e0' e1' e2';exact⟨⟨x0,x1,es⟩,.mk _ w0 w1 l1 l2,rfl⟩
theorem ty24c (cs:List D) (h:HasTy Try.prog 24 cs):∃ x:Expr,x.Wf∧cs=[.int .i64 x.op,.int .i64 x.var,.sl 3 (x.args.map Expr.encR)]:=(tree24 h).1 rfl
theorem ty24 (cs:List D) (h:HasTy Try.prog 24 cs):∃ x:Expr,x.Wf∧aH Try.prog 24 cs=Expr.encR x:=by
 obtain⟨x,w,rfl⟩:=ty24c cs h;exact⟨x,w,by rw [Expr.encR_eq];simp [aH,Try.underlying24,Expr.enc]⟩
theorem ty3 (cs:List D) (h:HasTy Try.prog 3 cs):∃ x:Int,I64 x∧aH Try.prog 3 cs=(D.int .i64) x:=by
 obtain⟨x,rfl,w⟩:=h.int_inv Try.underlying3;exact⟨x,w,by simp [aH,Try.underlying3]⟩
def cG:Nat→Expr→Option Int
 | 0,_=>none
 | fu+1,p0=>
 aE (
 bV (λ(n5,i6)=>
 if i6 < (p0.args.length:Int) then
 bW p0.args i6 λe9=>
 aE ((cG fu) e9) λr10=>
 aC (I64 (n5+r10)) <|
 aC (I64 (i6+(1:Int))) <|
 some (.inl ((n5+r10),(i6+(1:Int))))
 else
 aQ (
 some n5)) ((1:Int),(0:Int))) λn1=>
 some n1
def fF (p0:Expr):Option Int:=cG aG p0
def gH (p0:Expr):Option Bool:=
 aE (fF p0) λr1=>
 some (decide (r1≤(120:Int)))
def lD (p0:Int):Option Expr:=
 some (⟨(3:Int),p0,([]:List Expr)⟩:Expr)
def bR:Nat→Expr→Int→Int→Int→Option (Bool×Int)
 | 0,_,_,_,_=>none
 | fu+1,p0,p1,p2,p3=>
 if ((decide ((12:Int) < p2))||(decide (p3=(0:Int))))=true then
 some (false,p3)
 else
 aC (I64 (p3 - (1:Int))) <|
 eP (
 aE (
 if p0.op=(1:Int) then
 some (decide (p0.op=(1:Int)))
 else
 some (decide (p0.op=(2:Int)))) λx5=>
 if x5=true then
 aQ (
 some (((decide (p0.var=(0:Int)))&&(decide ((p0.args.length:Int)=(0:Int)))),(p3 - (1:Int))))
 else
 if p0.op=(3:Int) then
 aQ (
 some (((decide ((0:Int)≤p0.var))&&((decide (p0.var < p1))&&(decide ((p0.args.length:Int)=(0:Int))))),(p3 - (1:Int))))
 else
 if p0.op=(4:Int) then
 if (p0.args.length:Int)=(1:Int) then
 some (.inl ())
 else
 aQ (
 some (false,(p3 - (1:Int))))
 else
 if p0.op=(5:Int) then
 some (.inl ())
 else
 if p0.op=(6:Int) then
 some (.inl ())
 else
 aQ (
 some (false,(p3 - (1:Int))))) λ_=>
 if p0.var=(0:Int) then
 eP (
 bV (λ(x27,c28)=>
 if x27 < (p0.args.length:Int) then
 bW p0.args x27 λe31=>
 aC (I64 (p2+(1:Int))) <|
 aE ((bR fu) e31 p1 (p2+(1:Int)) c28) λ(r34,r35)=>
 if (!(r34))=true then
 aQ (
 aQ (
 some (false,r35)))
 else
 aC (I64 (x27+(1:Int))) <|
 some (.inl ((x27+(1:Int)),r35))
 else
 aQ (
 some (.inl c28))) ((0:Int),(p3 - (1:Int)))) λc22=>
 some (true,c22)
 else
 some (false,(p3 - (1:Int)))
def kM (p0:Expr) (p1:Int) (p2:Int) (p3:Int):Option (Bool×Int):=bR aG p0 p1 p2 p3
def fL (p0:Expr) (p1:Int):Option Bool:=
 aE (kM p0 p1 (1:Int) (20000:Int)) λ(r2,r3)=>
 some r2
def fN (p0:Int):Option Int:=
 if p0 < (2:Int) then
 aC (I64 ((1:Int) - p0)) <|
 some ((1:Int) - p0)
 else
 some p0
def cT (p0:Diagram):Option Diagram:=
 aE (fN p0.root) λr1=>
 aE (
 bV (λ(x7,b8)=>
 if x7 < (p0.nodes.length:Int) then
 bW p0.nodes x7 λe11=>
 aE (fN e11.lo) λr12=>
 aE (fN e11.hi) λr13=>
 aC ((b8++([(⟨e11.var,r12,r13⟩:Node)]:List Node)).length≤1000000000) <|
 aC (I64 (x7+(1:Int))) <|
 some (.inl ((x7+(1:Int)),(b8++([(⟨e11.var,r12,r13⟩:Node)]:List Node))))
 else
 aQ (
 some b8)) ((0:Int),([]:List Node))) λb2=>
 some (⟨b2,r1⟩:Diagram)
def cU (p0:Bool):Option Diagram:=
 if p0=true then
 some (⟨([]:List Node),(1:Int)⟩:Diagram)
 else
 some (⟨([]:List Node),(0:Int)⟩:Diagram)
def cI (p0:Diagram) (p1:Int):Option Int:=
 if p1 < (2:Int) then
 some (64:Int)
 else
 aC (I64 (p1 - (2:Int))) <|
 bW p0.nodes (p1 - (2:Int)) λe3=>
 some e3.var
def cV (p0:Diagram) (p1:Int) (p2:Int):Option (Int×Int):=
 aE (cI p0 p1) λr1=>
 if r1=p2 then
 aC (I64 (p1 - (2:Int))) <|
 bW p0.nodes (p1 - (2:Int)) λe4=>
 some (e4.lo,e4.hi)
 else
 some (p1,p1)
def aK (p0:Merger) (p1:Node):Option (Int×Merger):=
 sU p0.nodes.index (
 aC (Node.okb p1=true) <|
 aE (
 some ()) λ_=>
 aC (dF Node.okb ([]:List (Node×Int)) p1) <|
 aC ((p0.nodes.list++([p1]:List Node)).length≤1000000000) <|
 aC (I64 (((p0.nodes.list++([p1]:List Node)).length:Int) - (1:Int))) <|
 some ((((p0.nodes.list++([p1]:List Node)).length:Int) - (1:Int)),(⟨p0.a,p0.b,p0.all,(⟨(eL ([]:List (Node×Int)) p1 (p0.nodes.list.length:Int)),(p0.nodes.list++([p1]:List Node))⟩:Node'),p0.done,p0.full⟩:Merger))) (
 aC (dF Node.okb p0.nodes.index p1) <|
 if ((bS p0.nodes.index p1).isSome)=true then
 some (((bS p0.nodes.index p1).getD (0:Int)),p0)
 else
 aE (
 some ()) λ_=>
 aC (dF Node.okb p0.nodes.index p1) <|
 aC ((p0.nodes.list++([p1]:List Node)).length≤1000000000) <|
 aC (I64 (((p0.nodes.list++([p1]:List Node)).length:Int) - (1:Int))) <|
 some ((((p0.nodes.list++([p1]:List Node)).length:Int) - (1:Int)),(⟨p0.a,p0.b,p0.all,(⟨(eL p0.nodes.index p1 (p0.nodes.list.length:Int)),(p0.nodes.list++([p1]:List Node))⟩:Node'),p0.done,p0.full⟩:Merger)))
def aU:Nat→Merger→Pair→Option (Int×Merger)
 | 0,_,_=>none
 | fu+1,p0,p1=>
 if (p0.full)=true then
 some ((0:Int),p0)
 else
 aE (
 if (!(p0.all))=true then
 some ((1:Int),(0:Int))
 else
 some ((0:Int),(1:Int))) λ(decides2,other3)=>
 if ((decide (p1.a=decides2))||(decide (p1.b=decides2)))=true then
 some (decides2,p0)
 else
 if ((decide (p1.a=other3))&&(decide (p1.b=other3)))=true then
 some (other3,p0)
 else
 aC (dF Pair.okb p0.done p1) <|
 if ((bS p0.done p1).isSome)=true then
 some (((bS p0.done p1).getD (0:Int)),p0)
 else
 aE (cI p0.a p1.a) λr12=>
 aE (cI p0.b p1.b) λr13=>
 aE (cV p0.a p1.a (min r12 r13)) λ(r15,r16)=>
 aE (cV p0.b p1.b (min r12 r13)) λ(r18,r19)=>
 aE ((aU fu) p0 (⟨r15,r18⟩:Pair)) λ(r21,r22)=>
 aE (
 aE ((aU fu) (⟨p0.a,p0.b,p0.all,r22.nodes,r22.done,r22.full⟩:Merger) (⟨r16,r19⟩:Pair)) λ(r30,r31)=>
 if r30=r21 then
 some (r21,r31.full,r31.nodes.index,r31.nodes.list,r31.done)
 else
 aE (aK (⟨p0.a,p0.b,p0.all,r31.nodes,r31.done,r31.full⟩:Merger) (⟨(min r12 r13),r21,r30⟩:Node)) λ(r34,r35)=>
 aC (I64 (r34+(2:Int))) <|
 some ((r34+(2:Int)),r31.full,r35.nodes.index,r35.nodes.list,r31.done)) λ(x23,c24,m25,b26,m27)=>
 if (20000:Int) < (b26.length:Int) then
 aC (dF Pair.okb m27 p1) <|
 some (x23,(⟨p0.a,p0.b,p0.all,(⟨m25,b26⟩:Node'),(eL m27 p1 x23),true⟩:Merger))
 else
 aC (dF Pair.okb m27 p1) <|
 some (x23,(⟨p0.a,p0.b,p0.all,(⟨m25,b26⟩:Node'),(eL m27 p1 x23),c24⟩:Merger))
def eE (p0:Merger) (p1:Pair):Option (Int×Merger):=aU aG p0 p1
def dK (p0:Diagram) (p1:Diagram) (p2:Bool):Option (Diagram×Bool):=
 aE (eE (⟨p0,p1,p2,(⟨([]:List (Node×Int)),([]:List Node)⟩:Node'),([]:List (Pair×Int)),false⟩:Merger) (⟨p0.root,p1.root⟩:Pair)) λ(r2,r3)=>
 if (r3.full)=true then
 some ((⟨([]:List Node),(0:Int)⟩:Diagram),false)
 else
 some ((⟨r3.nodes.list,r2⟩:Diagram),true)
def bI:Nat→Expr→Option (Diagram×Bool)
 | 0,_=>none
 | fu+1,p0=>
 eP (
 if p0.op=(1:Int) then
 aQ (
 some ((⟨([]:List Node),(0:Int)⟩:Diagram),true))
 else
 if p0.op=(3:Int) then
 aQ (
 some ((⟨([(⟨p0.var,(0:Int),(1:Int)⟩:Node)]:List Node),(2:Int)⟩:Diagram),true))
 else
 if p0.op=(4:Int) then
 bW p0.args (0:Int) λe7=>
 aE ((bI fu) e7) λ(r9,r10)=>
 aE (cT r9) λr11=>
 aQ (
 some (r11,r10))
 else
 aE (
 if p0.op=(5:Int) then
 some (decide (p0.op=(5:Int)))
 else
 some (decide (p0.op=(6:Int)))) λx13=>
 if x13=true then
 aE (cU (decide (p0.op=(5:Int)))) λr17=>
 eP (
 bV (λ(x25,c26,c27)=>
 if x25 < (p0.args.length:Int) then
 bW p0.args x25 λe30=>
 aE ((bI fu) e30) λ(r32,r33)=>
 if (!(r33))=true then
 aQ (
 aQ (
 aQ (
 some ((⟨([]:List Node),(0:Int)⟩:Diagram),false))))
 else
 aE (dK (⟨c26,c27⟩:Diagram) r32 (decide (p0.op=(5:Int)))) λ(r39,r40)=>
 if (!(r40))=true then
 aQ (
 aQ (
 aQ (
 some ((⟨([]:List Node),(0:Int)⟩:Diagram),false))))
 else
 aC (I64 (x25+(1:Int))) <|
 some (.inl ((x25+(1:Int)),r39.nodes,r39.root))
 else
 aQ (
 some (.inl (c26,c27)))) ((0:Int),r17.nodes,r17.root)) λ(c18,c19)=>
 aQ (
 some ((⟨c18,c19⟩:Diagram),true))
 else
 some (.inl ())) λ_=>
 aE (cU true) λr48=>
 some (r48,true)
def fW (p0:Expr):Option (Diagram×Bool):=bI aG p0
def gA (p0:Expr) (p1:Int):Option (Diagram×Int):=
 if (64:Int) < p1 then
 some ((⟨([]:List Node),(0:Int)⟩:Diagram),(2:Int))
 else
 aE (
 if p1 < (0:Int) then
 some true
 else
 aE (fL p0 p1) λr5=>
 some (!(r5))) λx2=>
 if x2=true then
 some ((⟨([]:List Node),(0:Int)⟩:Diagram),(1:Int))
 else
 aE (fW p0) λ(r8,r9)=>
 if (!(r9))=true then
 some ((⟨([]:List Node),(0:Int)⟩:Diagram),(2:Int))
 else
 some (r8,(0:Int))
def jM (p0:Diagram) (p1:Int) (p2:Int):Option Bool:=
 if ((decide (p2=(0:Int)))||(decide (p2=(1:Int))))=true then
 some true
 else
 aE (
 if (2:Int)≤p2 then
 aC (I64 (p1+(2:Int))) <|
 if p2 < (p1+(2:Int)) then
 aC (I64 (p2 - (2:Int))) <|
 bW p0.nodes (p2 - (2:Int)) λe9=>
 bW p0.nodes p1 λe10=>
 some (decide (e10.var < e9.var))
 else
 some false
 else
 some false) λx3=>
 some x3
def bU:Nat→Int→(List Bool)→Diagram→Int→Option (Bool×(List Bool)×Int)
 | 0,_,_,_,_=>none
 | fu+1,p0,p1,p2,p4=>
 aE (
 if p0 < (2:Int) then
 some true
 else
 bW p1 p0 λe4=>
 some e4) λx1=>
 if x1=true then
 some (true,p1,p4)
 else
 bW p1 p0 λe6=>
 aC (I64 (p0 - (2:Int))) <|
 bW p2.nodes (p0 - (2:Int)) λe8=>
 aE (
 aE ((bU fu) e8.lo (p1.set p0.toNat true) p2 p4) λ(r14,r15,r16)=>
 if (!(r14))=true then
 some (true,r15,r16)
 else
 aE ((bU fu) e8.hi r15 p2 r16) λ(r19,r20,r21)=>
 if (!(r19))=true then
 some (true,r20,r21)
 else
 some (!(decide (p0=r21)),r20,r21)) λ(x9,b10,c11)=>
 if x9=true then
 some (false,b10,c11)
 else
 aC (I64 (c11+(1:Int))) <|
 some (true,b10,(c11+(1:Int)))
def iU (p0:Int) (p1:(List Bool)) (p2:Diagram) (p4:Int):Option (Bool×(List Bool)×Int):=bU aG p0 p1 p2 p4
def iV (p0:Diagram):Option Bool:=
 aC (I64 ((p0.nodes.length:Int)+(2:Int))) <|
 aC (0≤((p0.nodes.length:Int)+(2:Int))∧((p0.nodes.length:Int)+(2:Int))≤1000000000) <|
 aE (
 aE (iU p0.root (List.replicate ((p0.nodes.length:Int)+(2:Int)).toNat false) p0 (2:Int)) λ(r8,r9,r10)=>
 if r8=true then
 aC (I64 ((p0.nodes.length:Int)+(2:Int))) <|
 some (decide (r10=((p0.nodes.length:Int)+(2:Int))),r9,r10)
 else
 some (false,r9,r10)) λ(x3,b4,c5)=>
 some x3
def bL (p0:Node') (p1:Node):Option (Int×Node'):=
 sU p0.index (
 aC (Node.okb p1=true) <|
 aE (
 some ()) λ_=>
 aC (dF Node.okb ([]:List (Node×Int)) p1) <|
 aC ((p0.list++([p1]:List Node)).length≤1000000000) <|
 aC (I64 (((p0.list++([p1]:List Node)).length:Int) - (1:Int))) <|
 some ((((p0.list++([p1]:List Node)).length:Int) - (1:Int)),(⟨(eL ([]:List (Node×Int)) p1 (p0.list.length:Int)),(p0.list++([p1]:List Node))⟩:Node'))) (
 aC (dF Node.okb p0.index p1) <|
 if ((bS p0.index p1).isSome)=true then
 some (((bS p0.index p1).getD (0:Int)),p0)
 else
 aE (
 some ()) λ_=>
 aC (dF Node.okb p0.index p1) <|
 aC ((p0.list++([p1]:List Node)).length≤1000000000) <|
 aC (I64 (((p0.list++([p1]:List Node)).length:Int) - (1:Int))) <|
 some ((((p0.list++([p1]:List Node)).length:Int) - (1:Int)),(⟨(eL p0.index p1 (p0.list.length:Int)),(p0.list++([p1]:List Node))⟩:Node')))
def gM (p0:Diagram):Option Bool:=
 if (20000:Int) < (p0.nodes.length:Int) then
 some false
 else
 eP (
 bV (λ(x9,b10,b11)=>
 if x9 < (p0.nodes.length:Int) then
 bW p0.nodes x9 λe14=>
 aE (
 if e14.var < (0:Int) then
 some true
 else
 if (64:Int)≤e14.var then
 some true
 else
 if e14.lo=e14.hi then
 some true
 else
 aE (jM p0 x9 e14.lo) λr20=>
 if (!(r20))=true then
 some true
 else
 aE (jM p0 x9 e14.hi) λr22=>
 some (!(r22))) λx15=>
 if x15=true then
 aQ (
 aQ (
 some false))
 else
 aE (bL (⟨b10,b11⟩:Node') e14) λ(r27,r28)=>
 if r27=x9 then
 aC (I64 (x9+(1:Int))) <|
 some (.inl ((x9+(1:Int)),r28.index,r28.list))
 else
 aQ (
 aQ (
 some false))
 else
 aQ (
 some (.inl (b10,b11)))) ((0:Int),([]:List (Node×Int)),([]:List Node))) λ(m2,b3)=>
 if (p0.nodes.length:Int)=(0:Int) then
 some ((decide (p0.root=(0:Int)))||(decide (p0.root=(1:Int))))
 else
 aE (
 aC (I64 ((p0.nodes.length:Int)+(1:Int))) <|
 if p0.root=((p0.nodes.length:Int)+(1:Int)) then
 aE (iV p0) λr40=>
 some r40
 else
 some false) λx36=>
 some x36
def jN (p0:Diagram) (p1:Int):Option Bool:=
 eP (
 bV (λx3=>
 if x3 < (p0.nodes.length:Int) then
 bW p0.nodes x3 λe6=>
 if p1≤e6.var then
 aQ (
 aQ (
 some false))
 else
 aC (I64 (x3+(1:Int))) <|
 some (.inl (x3+(1:Int)))
 else
 aQ (
 some (.inl ()))) (0:Int)) λ_=>
 some true
def dV (p0:Int) (p1:Int) (p2:Diagram):Option Int:=
 if p0 < (2:Int) then
 some p1
 else
 aC (I64 (p0 - (2:Int))) <|
 bW p2.nodes (p0 - (2:Int)) λe3=>
 some e3.var
def mH (p0:Diagram) (p1:Int):Option (Int×Int):=
 if ((decide (p1 < (0:Int)))||(decide ((62:Int) < p1)))=true then
 some ((0:Int),(2:Int))
 else
 aE (
 aE (gM p0) λr5=>
 if (!(r5))=true then
 some true
 else
 aE (jN p0 p1) λr7=>
 some (!(r7))) λx3=>
 if x3=true then
 some ((0:Int),(1:Int))
 else
 aE (
 bV (λ(x14,b15)=>
 if x14 < (p0.nodes.length:Int) then
 bW p0.nodes x14 λe18=>
 bW b15 e18.lo λe19=>
 aE (dV e18.lo p1 p0) λr20=>
 aC (I64 (r20 - e18.var)) <|
 aC (I64 ((r20 - e18.var) - (1:Int))) <|
 aC (0≤((r20 - e18.var) - (1:Int))) <|
 bW b15 e18.hi λe24=>
 aE (dV e18.hi p1 p0) λr25=>
 aC (I64 (r25 - e18.var)) <|
 aC (I64 ((r25 - e18.var) - (1:Int))) <|
 aC (0≤((r25 - e18.var) - (1:Int))) <|
 aC ((b15++([(IntKind.u64.wrap ((IntKind.u64.wrap (e19 * (2 ^ (min ((r20 - e18.var) - (1:Int)).toNat IntKind.u64.bits))))+(IntKind.u64.wrap (e24 * (2 ^ (min ((r25 - e18.var) - (1:Int)).toNat IntKind.u64.bits))))))]:List Int)).length≤1000000000) <|
 aC (I64 (x14+(1:Int))) <|
 some (.inl ((x14+(1:Int)),(b15++([(IntKind.u64.wrap ((IntKind.u64.wrap (e19 * (2 ^ (min ((r20 - e18.var) - (1:Int)).toNat IntKind.u64.bits))))+(IntKind.u64.wrap (e24 * (2 ^ (min ((r25 - e18.var) - (1:Int)).toNat IntKind.u64.bits))))))]:List Int))))
 else
 aQ (
 some b15)) ((0:Int),([(0:Int),(1:Int)]:List Int))) λb9=>
 bW b9 p0.root λe32=>
 aE (dV p0.root p1 p0) λr33=>
 aC (0≤r33) <|
 some ((IntKind.u64.wrap (e32 * (2 ^ (min r33.toNat IntKind.u64.bits)))),(0:Int))
def mG (p0:Diagram) (p1:Int):Option ((List Bool)×Bool):=
 aE (
 if p1 < (0:Int) then
 some true
 else
 if (64:Int) < p1 then
 some true
 else
 aE (gM p0) λr5=>
 if (!(r5))=true then
 some true
 else
 aE (jN p0 p1) λr7=>
 if (!(r7))=true then
 some true
 else
 some (decide (p0.root=(0:Int)))) λx1=>
 if x1=true then
 some (([]:List Bool),false)
 else
 aC (0≤p1∧p1≤1000000000) <|
 aE (
 bV (λ(at16,b17)=>
 if (1:Int) < at16 then
 aC (I64 (at16 - (2:Int))) <|
 bW p0.nodes (at16 - (2:Int)) λe21=>
 if e21.lo=(0:Int) then
 bW b17 e21.var λe23=>
 some (.inl (e21.hi,(b17.set e21.var.toNat true)))
 else
 some (.inl (e21.lo,b17))
 else
 aQ (
 some b17)) (p0.root,(List.replicate p1.toNat false))) λb11=>
 some (b11,true)
def cF (p0:Diagram) (p1:Diagram):Option Bool:=
 if ((!(decide ((p0.nodes.length:Int)=(p1.nodes.length:Int))))||(!(decide (p0.root=p1.root))))=true then
 some false
 else
 eP (
 bV (λx5=>
 if x5 < (p0.nodes.length:Int) then
 bW p0.nodes x5 λe8=>
 bW p1.nodes x5 λe9=>
 aC (Node.ok e8∧Node.ok e9) <|
 if e8=e9 then
 aC (I64 (x5+(1:Int))) <|
 some (.inl (x5+(1:Int)))
 else
 aQ (
 aQ (
 some false))
 else
 aQ (
 some (.inl ()))) (0:Int)) λ_=>
 some true
def eO:Option Bool:=
 aE (lD (0:Int)) λr1=>
 aE (lD (1:Int)) λr2=>
 aE (gA (⟨(5:Int),(0:Int),([r1,r2]:List Expr)⟩:Expr) (2:Int)) λ(r4,r5)=>
 aE (mH r4 (3:Int)) λ(r7,r8)=>
 aE (mG r4 (2:Int)) λ(r10,r11)=>
 aE (
 if r5=(0:Int) then
 if r8=(0:Int) then
 if r7=(2:Int) then
 if r11=true then
 if (r10.length:Int)=(2:Int) then
 bW r10 (0:Int) λe19=>
 if e19=true then
 bW r10 (1:Int) λe21=>
 if e21=true then
 aE (cF r4 (⟨([(⟨(1:Int),(0:Int),(1:Int)⟩:Node),(⟨(0:Int),(0:Int),(2:Int)⟩:Node)]:List Node),(3:Int)⟩:Diagram)) λr23=>
 if r23=true then
 aE (gM r4) λr25=>
 some r25
 else
 some false
 else
 some false
 else
 some false
 else
 some false
 else
 some false
 else
 some false
 else
 some false
 else
 some false) λx12=>
 some x12
def cB:Nat→Expr→Option Int
 | 0,_=>none
 | fu+1,p0=>
 aE (
 bV (λ(d5,i6)=>
 if i6 < (p0.args.length:Int) then
 bW p0.args i6 λe9=>
 aE ((cB fu) e9) λr10=>
 aC (I64 (i6+(1:Int))) <|
 some (.inl ((max d5 r10),(i6+(1:Int))))
 else
 aQ (
 some d5)) ((0:Int),(0:Int))) λd1=>
 aC (I64 (d1+(1:Int))) <|
 some (d1+(1:Int))
def fV (p0:Expr):Option Int:=cB aG p0
def cA:Nat→Expr→Int→Option Bool
 | 0,_,_=>none
 | fu+1,p0,p1=>
 eP (
 aE (
 if p0.op=(1:Int) then
 some (decide (p0.op=(1:Int)))
 else
 some (decide (p0.op=(2:Int)))) λx2=>
 if x2=true then
 aQ (
 some ((decide (p0.var=(0:Int)))&&(decide ((p0.args.length:Int)=(0:Int)))))
 else
 if p0.op=(3:Int) then
 aQ (
 some ((decide ((0:Int)≤p0.var))&&((decide (p0.var < p1))&&(decide ((p0.args.length:Int)=(0:Int))))))
 else
 if p0.op=(4:Int) then
 if (p0.args.length:Int)=(1:Int) then
 some (.inl ())
 else
 aQ (
 some false)
 else
 if p0.op=(5:Int) then
 some (.inl ())
 else
 if p0.op=(6:Int) then
 some (.inl ())
 else
 aQ (
 some false)) λ_=>
 eP (
 bV (λi20=>
 if i20 < (p0.args.length:Int) then
 bW p0.args i20 λe23=>
 aE ((cA fu) e23 p1) λr24=>
 if (!(r24))=true then
 aQ (
 aQ (
 some false))
 else
 aC (I64 (i20+(1:Int))) <|
 some (.inl (i20+(1:Int)))
 else
 aQ (
 some (.inl ()))) (0:Int)) λ_=>
 some (decide (p0.var=(0:Int)))
def gR (p0:Expr) (p1:Int):Option Bool:=cA aG p0 p1
def eK (p0:Expr) (p1:Int):Option Bool:=
 aE (
 aE (fF p0) λr3=>
 if r3≤(20000:Int) then
 aE (fV p0) λr5=>
 if r5≤(12:Int) then
 aE (gR p0 p1) λr7=>
 some r7
 else
 some false
 else
 some false) λx1=>
 some x1
def eJ (p0:Int):Option ((List (List Bool))):=
 aE (
 bV (λ(k6,b7)=>
 aC (0≤p0) <|
 if k6 < (IntKind.i64.wrap ((1:Int) * (2 ^ (min p0.toNat IntKind.i64.bits)))) then
 aE (
 aE (
 aC (I64 (p0 - (1:Int))) <|
 bV (λ(i19,b20)=>
 if (0:Int)≤i19 then
 aC (0≤i19) <|
 aC ((b20++([decide ((IntKind.i64.wrap (BitVec.ofInt IntKind.i64.bits (k6.fdiv (2 ^ (min i19.toNat IntKind.i64.bits))) &&& BitVec.ofInt IntKind.i64.bits (1:Int)).toNat)=(1:Int))]:List Bool)).length≤1000000000) <|
 aC (I64 (i19 - (1:Int))) <|
 some (.inl ((i19 - (1:Int)),(b20++([decide ((IntKind.i64.wrap (BitVec.ofInt IntKind.i64.bits (k6.fdiv (2 ^ (min i19.toNat IntKind.i64.bits))) &&& BitVec.ofInt IntKind.i64.bits (1:Int)).toNat)=(1:Int))]:List Bool))))
 else
 aQ (
 some b20)) ((p0 - (1:Int)),([]:List Bool))) λb13=>
 aC ((b7++([b13]:List (List Bool))).length≤1000000000) <|
 some (b7++([b13]:List (List Bool)))) λb11=>
 aC (I64 (k6+(1:Int))) <|
 some (.inl ((k6+(1:Int)),b11))
 else
 aQ (
 some b7)) ((0:Int),([]:List (List Bool)))) λb1=>
 some b1
def bQ:Nat→Expr→(List Bool)→Option Bool
 | 0,_,_=>none
 | fu+1,p0,p1=>
 eP (
 if p0.op=(2:Int) then
 aQ (
 some true)
 else
 if p0.op=(3:Int) then
 aE (
 if (0:Int)≤p0.var then
 if p0.var < (p1.length:Int) then
 bW p1 p0.var λe9=>
 some e9
 else
 some false
 else
 some false) λx5=>
 aQ (
 some x5)
 else
 if p0.op=(4:Int) then
 aE (
 if (0:Int) < (p0.args.length:Int) then
 bW p0.args (0:Int) λe15=>
 aE ((bQ fu) e15 p1) λr16=>
 some (!(r16))
 else
 some false) λx12=>
 aQ (
 some x12)
 else
 aE (
 if p0.op=(5:Int) then
 some (decide (p0.op=(5:Int)))
 else
 some (decide (p0.op=(6:Int)))) λx18=>
 if x18=true then
 eP (
 bV (λi24=>
 if i24 < (p0.args.length:Int) then
 bW p0.args i24 λe27=>
 aE ((bQ fu) e27 p1) λr28=>
 if ((r28 == (decide (p0.op=(6:Int)))))=true then
 aQ (
 aQ (
 aQ (
 some (decide (p0.op=(6:Int))))))
 else
 aC (I64 (i24+(1:Int))) <|
 some (.inl (i24+(1:Int)))
 else
 aQ (
 some (.inl ()))) (0:Int)) λ_=>
 aQ (
 some (decide (p0.op=(5:Int))))
 else
 some (.inl ())) λ_=>
 some false
def gS (p0:Expr) (p1:(List Bool)):Option Bool:=bQ aG p0 p1
def gE (p0:Diagram) (p1:Node):Option (Int×Diagram):=
 if p1.lo=p1.hi then
 some (p1.lo,p0)
 else
 eP (
 bV (λx4=>
 if x4 < (p0.nodes.length:Int) then
 bW p0.nodes x4 λe7=>
 aC (Node.ok e7∧Node.ok p1) <|
 if e7=p1 then
 aC (I64 (x4+(2:Int))) <|
 aQ (
 aQ (
 some ((x4+(2:Int)),p0)))
 else
 aC (I64 (x4+(1:Int))) <|
 some (.inl (x4+(1:Int)))
 else
 aQ (
 some (.inl ()))) (0:Int)) λ_=>
 aC ((p0.nodes++([p1]:List Node)).length≤1000000000) <|
 aC (I64 (((p0.nodes++([p1]:List Node)).length:Int)+(1:Int))) <|
 some ((((p0.nodes++([p1]:List Node)).length:Int)+(1:Int)),(⟨(p0.nodes++([p1]:List Node)),p0.root⟩:Diagram))
def bP:Nat→Diagram→(List Bool)→Int→Option (Int×Diagram)
 | 0,_,_,_=>none
 | fu+1,p0,p1,p2=>
 if (p1.length:Int)=(1:Int) then
 bW p1 (0:Int) λe2=>
 if e2=true then
 some ((1:Int),p0)
 else
 some ((0:Int),p0)
 else
 aC (¬ (2:Int)=0) <|
 aC (0≤(0:Int)∧(0:Int)≤(IntKind.i64.wrap ((p1.length:Int).tdiv (2:Int)))∧(IntKind.i64.wrap ((p1.length:Int).tdiv (2:Int)))≤(p1.length:Int)) <|
 aC (I64 (p2+(1:Int))) <|
 aE ((bP fu) p0 (sub p1 (0:Int) (IntKind.i64.wrap ((p1.length:Int).tdiv (2:Int)))) (p2+(1:Int))) λ(r8,r9)=>
 aC (0≤(IntKind.i64.wrap ((p1.length:Int).tdiv (2:Int)))∧(IntKind.i64.wrap ((p1.length:Int).tdiv (2:Int)))≤(p1.length:Int)∧(p1.length:Int)≤(p1.length:Int)) <|
 aC (I64 (p2+(1:Int))) <|
 aE ((bP fu) (⟨r9.nodes,p0.root⟩:Diagram) (sub p1 (IntKind.i64.wrap ((p1.length:Int).tdiv (2:Int))) (p1.length:Int)) (p2+(1:Int))) λ(r13,r14)=>
 aE (gE (⟨r14.nodes,p0.root⟩:Diagram) (⟨p2,r8,r13⟩:Node)) λ(r16,r17)=>
 some (r16,(⟨r17.nodes,p0.root⟩:Diagram))
def kH (p0:Diagram) (p1:(List Bool)) (p2:Int):Option (Int×Diagram):=bP aG p0 p1 p2
def fE (p0:(List Bool)):Option Diagram:=
 aE (kH (⟨([]:List Node),(0:Int)⟩:Diagram) p0 (0:Int)) λ(r2,r3)=>
 some (⟨r3.nodes,r2⟩:Diagram)
def dQ (p0:Expr) (p1:Int):Option (Diagram×Int):=
 if (64:Int) < p1 then
 some ((⟨([]:List Node),(0:Int)⟩:Diagram),(2:Int))
 else
 aE (
 if p1 < (0:Int) then
 some true
 else
 aE (eK p0 p1) λr5=>
 some (!(r5))) λx2=>
 if x2=true then
 some ((⟨([]:List Node),(0:Int)⟩:Diagram),(1:Int))
 else
 aE (
 aE (eJ p1) λr9=>
 bV (λ(x13,b14)=>
 if x13 < (r9.length:Int) then
 bW r9 x13 λe17=>
 aE (gS p0 e17) λr18=>
 aC ((b14++([r18]:List Bool)).length≤1000000000) <|
 aC (I64 (x13+(1:Int))) <|
 some (.inl ((x13+(1:Int)),(b14++([r18]:List Bool))))
 else
 aQ (
 some b14)) ((0:Int),([]:List Bool))) λb7=>
 aE (fE b7) λr22=>
 some (r22,(0:Int))
def dD (p0:Expr) (p1:Int):Option Bool:=
 aE (
 aE (gH p0) λr3=>
 if (!(r3))=true then
 some true
 else
 if (9:Int) < p1 then
 some (decide (p1≤(64:Int)))
 else
 some false) λx1=>
 if x1=true then
 aE (eO) λr7=>
 some r7
 else
 aE (gA p0 p1) λ(r9,r10)=>
 aE (dQ p0 p1) λ(r12,r13)=>
 aE (
 if r10=r13 then
 aE (cF r9 r12) λr17=>
 if r17=true then
 aE (eO) λr19=>
 some r19
 else
 some false
 else
 some false) λx14=>
 some x14
theorem pN:∀ (fu:Nat) {p0:Expr} {r:Int} (hm:cG fu p0=some r),RetN Try.prog 31 [p0.enc] (.int .i64 r):=by
 intro fu
 induction fu with
 | zero=>
  intro p0 r hm;unfold cG at hm;cases hm
 | succ fu ih=>
  intro p0 r hm;refine .unit (aP qCT Try.func31 Q Try.ntmps31 Q Q (λwX gX=>?_)) Q;unfold cG at hm;refine WN [0] Q Q (RS (dE 0 Q Q Q (SA TK Q (TN (WN [1] Q Q (RS (SA TK Q (TN ?_))))))));refine WN [1,3] Q Q ?_;refine aL hm (λn1=>([(3,.d (.int .i64 n1))]:Fr)) (λn1=>([]:List (Nat×Blk))) [3] [] Q (λz2 hm=>?_) (λn1 hm=>?_)
  ·refine RS (SA TK Q (TN (WN [1,3,4] Q Q (TB (cW hm (λ(n5,i6)=>([(3,.d (.int .i64 n5)),(4,.d (.int .i64 i6))]:Fr)) (λ(n5,i6)=>([]:List (Nat×Blk))) [3,4] [1] [0] Q k0 Q Q Q Q Q (λs z7 hm hz7=>?_))))));obtain⟨n5,i6⟩:=s;refine WN [1,3,4] Q Q (TQ (RS (SA TK Q (SA TK Q (SA TK Q (SX Q Q (cE TK Q Q Q) (SA TK Q (TN (WN [1,3,4,9] Q Q ?_)))))))));refine TC _ Q (λh8=>?_) (λh8=>?_)
   ·replace hm:=JT h8 hm;refine TS (WT (WN [1,3,4] Q Q (TQ (TB (TG ?_)))));iterate 4 (refine SA TK Q ?_)
    refine VE hm λe9 he9 hm=>SX Q Q (mJ TK Q Q Q Q he9 (Expr.encR_eq _)) (SA TK Q (BE hm λr10 hr10 hm=>SX Q Q (RN Q Q (SC (.d _) SN) (ih hr10)) (GE hm λg11 hm=>SX Q Q (bN Q Q Q Q g11) (SA TK Q (TN ?_)))));refine WK (WT (WN [1,3,4] Q Q (TG (SA TK Q (GE hm λg12 hm=>SX Q Q (bN Q Q Q Q g12) (SA TK Q (TN ?_)))))));refine WT ?_;exact⟨_,[0],(SJ hm),Q,k0,Q⟩
   replace hm:=JF h8 hm;refine bO (WX (IE hm λv13 hm hz=>?_));rw [hz7 _ hz] at hm;refine WX (WH (WT ?_));exact⟨_,[0],(SJ hm),Q,k0,Q⟩
  refine WN [3] Q Q (RS (SA TK Q (SA TK Q (TN (WN [2] Q Q (TR ?_))))));obtain rfl:=OJ hm;exact EndsS.one _ Q (.d _) (.refl _)
theorem kU {p0:Expr} {r:Int} (hm:fF p0=some r):RetN Try.prog 31 [p0.enc] (.int .i64 r):=pN aG hm
theorem tH {p0:Expr} {r:Bool} (hm:gH p0=some r):RetN Try.prog 9 [p0.enc] (.bool (r)):=by
 refine .unit (aP callB9 Try.func9 Q Try.ntmps9 Q Q (λwX gX=>?_)) Q;unfold gH at hm;refine WN [0] Q Q (RS (dE 0 Q Q Q (SA TK Q (TN (WN [1] Q Q (RS (SA TK Q (BE hm λr1 hr1 hm=>?_))))))));refine SX Q Q (RN Q Q (SC (.d _) SN) (kU hr1)) (SA TK Q (SA TK Q (TN (WN [2] Q Q (TR ?_)))));obtain rfl:=OJ hm;exact EndsS.one _ Q (.d _) (.refl _)
theorem oM {p0:Int} {r:Expr} (hm:lD p0=some r):RetD Try.prog 32 [.int .i64 p0] (r.enc):=by
 refine .of (mv:=λ_=>false) (aP qCS Try.func32 Q Try.ntmps32 Q Q (λwX gX=>?_));unfold lD at hm;refine WN [0] Q Q (RS (cY 0 Q Q nN Q (fA 0 [none,none,some 3] Q Q (TN (WN [0,2] Q Q (RS (SA TK Q (SX Q Q (bF Q qDT nN Q Q Q Q) ?_))))))));refine mW 4 [none,none,some 3] Q (SA TK Q (TN (WN [2] Q Q (TR ?_))));obtain rfl:=OJ hm;exact EndsS.cellR _ TK Q Q Q Q Q (.d _)
theorem pU:∀ (fu:Nat) {p0:Expr} {p1:Int} {p2:Int} {p3:Int} {r0:Bool} {r1:Int} (hm:bR fu p0 p1 p2 p3=some (r0,r1)),Ret Try.prog 50 [.box 3 [.d (.int .i64 p3)]] (λ_=>false) [.d (.ptr (p0.enc) 0),.d (.int .i64 p1),.d (.int .i64 p2),.mptr 0 0 0 0] (.d (.bool (r0))) [.box 3 [.d (.int .i64 r1)]]:=by
 intro fu
 induction fu with
 | zero=>
  intro p0 p1 p2 p3 r0 r1 hm;unfold bR at hm;cases hm
 | succ fu ih=>
  intro p0 p1 p2 p3 r0 r1 hm;refine fD qCG Try.func50 Q Try.ntmps50 Q Q (λwX gX=>?_);unfold bR at hm;refine WN [0,1,2,3] Q Q (RS (SA TK Q (TN (WN [0,1,2,3] Q Q (TQ ?_)))));refine iA [(17,.d (.bool (((decide ((12:Int) < p2))||(decide (p3=(0:Int)))))))] [17] [0,1,2,3] Q ?_ ?_
  ·refine TG (SA TK Q (SA TK Q (SB TK Q (λq1 hq1=>?_))));cases q1
   ·iterate 5 (refine SA TK Q ?_)
    refine TN (WT ?_);exact⟨[0],Q,(kB Q),cM (bE (bG (by simp [hq1])) Q) Q⟩
   iterate 5 (refine SA TK Q ?_)
   refine TN (WT ?_);exact⟨[0],Q,(kB Q),cM (bE (bG (by simp [hq1])) Q) Q⟩
  refine WN [0,1,2,3,17] Q Q ?_;refine TC _ Q (λh2=>?_) (λh2=>?_)
  ·replace hm:=JA h2 hm;refine RS (SA TK Q (TN (WN [8] Q Q (TR (WR ?_)))));obtain⟨rfl,rfl⟩:=Prod.mk.inj (Option.some.inj hm);exact⟨_,[0],res Q,by decide,(kB Q),Q,Q⟩
  replace hm:=JB h2 hm;refine TS (WT (WN [0,1,2,3] Q Q (RS (SA TK Q (SA TK Q (SA TK Q (GE hm λg3 hm=>SX Q Q (bN Q Q Q Q g3) (SA TK Q (SA TK Q (TN ?_))))))))));refine WN [0,1,2,3] Q Q ?_;refine dA hm (λ_=>([]:Fr)) (λ_=>([]:List (Nat×Blk))) [] [0,1,2,3] Q (λz4 hm hz4=>?_) (λj hm=>?_)
  ·refine RS ?_;iterate 4 (refine SA TK Q ?_)
   refine TN (WN [0,1,2,3,26] Q Q (TB ?_));refine aL hm (λx5=>([(27,.d (.bool (x5)))]:Fr)) (λx5=>([]:List (Nat×Blk))) [27] [0,1,2,3,26] Q (λz6 hm=>?_) (λx5 hm=>?_)
   ·refine RS (SA TK Q (SA TK Q (TN (WN [0,1,2,3,26,27] Q Q ?_))));refine TC _ Q (λh7=>?_) (λh7=>?_)
    ·replace hm:=JT h7 hm;refine TS (WT ?_);exact⟨_,[0],(SJ hm),Q,(kB Q),Q⟩
    replace hm:=JF h7 hm;refine TG (SA TK Q (SA TK Q (TN (WT ?_))));exact⟨_,[0],(SJ hm),Q,(kB Q),Q⟩
   refine WN [0,1,2,3,26,27] Q Q ?_;refine TC _ Q (λh8=>?_) (λh8=>?_)
   ·replace hm:=JA h8 hm;refine iA [(8,.d (.bool (((decide (p0.var=(0:Int)))&&(decide ((p0.args.length:Int)=(0:Int)))))))] [8] [] Q ?_ ?_
    ·refine TG ?_;iterate 5 (refine SA TK Q ?_)
     refine SB TK Q (λq9 hq9=>?_);cases q9
     ·iterate 8 (refine SA TK Q ?_)
      refine TN (WT ?_);exact⟨[0],Q,(kB Q),cM (bE (bG (by simp [hq9])) Q) Q⟩
     iterate 4 (refine SA TK Q ?_)
     refine SX Q Q (cE TK Q Q Q) (SA TK Q (SA TK Q (SA TK Q (TN (WT ?_)))));exact⟨[0],Q,(kB Q),cM (bE (bG (by simp [hq9])) Q) Q⟩
    refine WN [8] Q Q (TR (WB (IE hm λv10 hm hz=>?_)));rw [hz4 _ hz] at hm;refine WR ?_;obtain⟨rfl,rfl⟩:=Prod.mk.inj (Option.some.inj hm);exact⟨_,[0],res Q,by decide,(kB Q),Q,Q⟩
   replace hm:=JB h8 hm;refine RS (SA TK Q (SA TK Q (TN (WN [0,1,2,3,26,43] Q Q ?_))));refine TC _ Q (λh11=>?_) (λh11=>?_)
   ·replace hm:=JT h11 hm;refine iA [(8,.d (.bool (((decide ((0:Int)≤p0.var))&&((decide (p0.var < p1))&&(decide ((p0.args.length:Int)=(0:Int))))))))] [8] [] Q ?_ ?_
    ·refine TG ?_;iterate 5 (refine SA TK Q ?_)
     refine SB TK Q (λq12 hq12=>?_);cases q12
     ·iterate 16 (refine SA TK Q ?_)
      refine TN (WT ?_);exact⟨[0],Q,(kB Q),cM (bE (bG (by simp [hq12])) Q) Q⟩
     iterate 7 (refine SA TK Q ?_)
     refine SB TK Q (λq13 hq13=>?_);cases q13
     ·iterate 8 (refine SA TK Q ?_)
      refine TN (WT ?_);exact⟨[0],Q,(kB Q),cM (bE (bG (by simp [hq12,hq13])) Q) Q⟩
     iterate 4 (refine SA TK Q ?_)
     refine SX Q Q (cE TK Q Q Q) (SA TK Q (SA TK Q (SA TK Q (TN (WT ?_)))));exact⟨[0],Q,(kB Q),cM (bE (bG (by simp [hq12,hq13])) Q) Q⟩
    refine WN [8] Q Q (TR (WB (IE hm λv14 hm hz=>?_)));rw [hz4 _ hz] at hm;refine WR ?_;obtain⟨rfl,rfl⟩:=Prod.mk.inj (Option.some.inj hm);exact⟨_,[0],res Q,by decide,(kB Q),Q,Q⟩
   replace hm:=JF h11 hm;refine RS (SA TK Q (SA TK Q (TN (WN [0,1,2,3,26,66] Q Q ?_))));refine TC _ Q (λh15=>?_) (λh15=>?_)
   ·replace hm:=JT h15 hm;refine RS ?_;iterate 4 (refine SA TK Q ?_)
    refine SX Q Q (cE TK Q Q Q) (SA TK Q (TN (WN [0,1,2,3,73] Q Q ?_)));refine TC _ Q (λh16=>?_) (λh16=>?_)
    ·replace hm:=iM h16 hm;refine RS (SA TK Q (TN (WN [8] Q Q (TR (WB (IE hm λv17 hm hz=>?_))))));rw [hz4 _ hz] at hm;refine WR ?_;obtain⟨rfl,rfl⟩:=Prod.mk.inj (Option.some.inj hm);exact⟨_,[0],res Q,by decide,(kB Q),Q,Q⟩
    replace hm:=iN h16 hm;refine TS (WK (WT ?_));exact⟨_,[0],(SJ hm),Q,(kB Q),Q⟩
   replace hm:=JF h15 hm;refine TQ (RS (SA TK Q (SA TK Q (TN (WN [0,1,2,3,26,74] Q Q ?_)))));refine TC _ Q (λh18=>?_) (λh18=>?_)
   ·replace hm:=JT h18 hm;refine TS (WT (WN [0,1,2,3,74] Q Q (vV Q true h18 (TS (WK (WT ?_))))));exact⟨_,[0],(SJ hm),Q,(kB Q),Q⟩
   replace hm:=JF h18 hm;refine TG (SA TK Q (SA TK Q (TN (WT (WN [0,1,2,3,74] Q Q ?_)))));refine TC _ Q (λh19=>?_) (λh19=>?_)
   ·replace hm:=JT h19 hm;refine TS (WK (WT ?_));exact⟨_,[0],(SJ hm),Q,(kB Q),Q⟩
   replace hm:=JF h19 hm;refine RS (SA TK Q (TN (WN [8] Q Q (TR (WB (IE hm λv20 hm hz=>?_))))));rw [hz4 _ hz] at hm;refine WR ?_;obtain⟨rfl,rfl⟩:=Prod.mk.inj (Option.some.inj hm);exact⟨_,[0],res Q,by decide,(kB Q),Q,Q⟩
  refine WN [0,1,2,3] Q Q (TQ (RS ?_));iterate 5 (refine SA TK Q ?_)
  refine TN (WN [0,1,2,3,81] Q Q ?_);refine TC _ Q (λh21=>?_) (λh21=>?_)
  ·replace hm:=iM h21 hm;refine RS (SA TK Q (TN (WN [8] Q Q (TR (WR ?_)))));obtain⟨rfl,rfl⟩:=Prod.mk.inj (Option.some.inj hm);exact⟨_,[0],res Q,by decide,(kB Q),Q,Q⟩
  replace hm:=iN h21 hm;refine TS (WT (WN [0,1,2,3] Q Q ?_));refine dA hm (λc22=>([]:Fr)) (λc22=>([(0,.box 3 [.d (.int .i64 c22)])]:List (Nat×Blk))) [] [] Q (λz23 hm hz23=>?_) (λc22 hm=>?_)
  ·refine RS ?_;iterate 4 (refine SA TK Q ?_)
   refine SX Q Q (cE TK Q Q Q) (SA TK Q (TN (WN [0,1,2,3,86,87] Q Q (TB (cW hm (λ(x27,c28)=>([(87,.d (.int .i64 x27))]:Fr)) (λ(x27,c28)=>([(0,.box 3 [.d (.int .i64 c28)])]:List (Nat×Blk))) [87] [0,1,2,3,86] [0] Q (kB Q) Q Q Q Q Q (λs z29 hm hz29=>?_))))));obtain⟨x27,c28⟩:=s;refine WN [0,1,2,3,86,87] Q Q (RS (SA TK Q (TN (WN [0,1,2,3,86,87,88] Q Q (TQ ?_)))));refine TC _ Q (λh30=>?_) (λh30=>?_)
   ·replace hm:=JT h30 hm;refine TS (WT (WN [0,1,2,3,86,87] Q Q (TQ (TB (RS (SA TK Q (SA TK Q (TN (WN [0,1,2,3,9,86,87] Q Q ?_)))))))));refine RS ?_;iterate 5 (refine SA TK Q ?_)
    refine VE hm λe31 he31 hm=>SX Q Q (mJ TK Q Q Q Q he31 (Expr.encR_eq _)) (SA TK Q (SA TK Q (GE hm λg32 hm=>SX Q Q (bN Q Q Q Q g32) (SA TK Q (BE hm λr33 hr33 hm=>?_)))));obtain⟨r34,r35⟩:=r33;refine cN [0] (λ_=>false) Q Q Q (by decide) Q Q Q Q (ih hr33) Q Q Q ?_;refine SA TK Q (TN (WN [0,1,2,3,86,87,101] Q Q ?_));refine TC _ Q (λh36=>?_) (λh36=>?_)
    ·replace hm:=JA h36 hm;refine RS (SA TK Q (TN (WN [8] Q Q (TR (WB (WR (IE hm λv37 hm hz=>?_)))))));rw [hz29 _ hz] at hm;refine WR (WB (IE hm λv38 hm hz=>?_));rw [hz23 _ hz] at hm;refine WR ?_;obtain⟨rfl,rfl⟩:=Prod.mk.inj (Option.some.inj hm);exact⟨_,[0],res Q,by decide,(kB Q),Q,Q⟩
    replace hm:=JB h36 hm;refine TS (WK (WT (WN [0,1,2,3,86,87] Q Q (TG (GE hm λg39 hm=>SX Q Q (bN Q Q Q Q g39) (SA TK Q (TN ?_)))))));refine WT ?_;exact⟨_,[0],(SJ hm),Q,(kB Q),Q⟩
   replace hm:=JF h30 hm;refine bO (WX (IE hm λv40 hm hz=>?_));rw [hz29 _ hz] at hm;refine WX (WH (WT ?_));exact⟨_,[0],(SJ hm),Q,(kB Q),Q⟩
  refine WN [] Q Q (RS (SA TK Q (TN (WN [8] Q Q (TR ?_)))));obtain⟨rfl,rfl⟩:=Prod.mk.inj (Option.some.inj hm);exact⟨_,[0],res Q,by decide,(kB Q),Q,Q⟩
theorem rR {p0:Expr} {p1:Int} {p2:Int} {p3:Int} {r0:Bool} {r1:Int} (hm:kM p0 p1 p2 p3=some (r0,r1)):Ret Try.prog 50 [.box 3 [.d (.int .i64 p3)]] (λ_=>false) [.d (.ptr (p0.enc) 0),.d (.int .i64 p1),.d (.int .i64 p2),.mptr 0 0 0 0] (.d (.bool (r0))) [.box 3 [.d (.int .i64 r1)]]:=pU aG hm
theorem rS {p0:Expr} {p1:Int} {r:Bool} (hm:fL p0 p1=some r):RetN Try.prog 33 [p0.enc,.int .i64 p1] (.bool (r)):=by
 refine .unit (aP qCR Try.func33 Q Try.ntmps33 Q Q (λwX gX=>?_)) Q;unfold fL at hm;refine WN [0,1] Q Q (RS (dE 0 Q Q Q (SA TK Q (TN (WN [1,2] Q Q (RS (cY 1 Q Q nM Q (SA TK Q ?_))))))));refine TN (WN [1,2,5] Q Q (wT 0 Q Q Q Q Q (RS (SA TK Q (BE hm λr1 hr1 hm=>?_)))));obtain⟨r2,r3⟩:=r1;refine cN [1] (λ_=>false) Q Q Q (by decide) Q Q Q Q (rR hr1) Q Q Q ?_;refine SA TK Q (TN (WN [4] Q Q (TR ?_)));obtain rfl:=OJ hm;exact EndsS.one _ Q (.d _) (.refl _)
theorem kQ {p0:Int} {r:Int} (hm:fN p0=some r):RetN Try.prog 55 [.int .i64 p0] (.int .i64 r):=by
 refine .unit (aP qCB Try.func55 Q Try.ntmps55 Q Q (λwX gX=>?_)) Q;unfold fN at hm;refine WN [0] Q Q (RS (SA TK Q (TN (WN [0] Q Q (TQ (RS (SA TK Q (SA TK Q (TN ?_)))))))));refine WN [0,4] Q Q ?_;refine TC _ Q (λh1=>?_) (λh1=>?_)
 ·replace hm:=JT h1 hm;refine RS (SA TK Q (GE hm λg2 hm=>SX Q Q (bN Q Q Q Q g2) (SA TK Q (TN (WN [2] Q Q (TR (WR ?_)))))));obtain rfl:=OJ hm;exact EndsS.one _ Q (.d _) (.refl _)
 replace hm:=JF h1 hm;refine TS (WT (WN [0] Q Q (RS (SA TK Q (SA TK Q (TN (WN [2] Q Q (TR ?_))))))));obtain rfl:=OJ hm;exact EndsS.one _ Q (.d _) (.refl _)
theorem pC {p0:Diagram} {r:Diagram} (hm:cT p0=some r):RetD Try.prog 49 [p0.enc] (r.enc):=by
 refine .of (mv:=λ_=>false) (aP qCH Try.func49 Q Try.ntmps49 Q Q (λwX gX=>?_));unfold cT at hm;refine WN [0] Q Q (RS (dE 0 Q Q Q (cY 1 Q Q bA Q (jV (f:=Node.enc) 1 0 2 51 3 Q Q Q (TN (WN [1,2] Q Q (RS (SA TK Q (SA TK Q ?_)))))))));refine BE hm λr1 hr1 hm=>SX Q Q (RN Q Q (SC (.d _) SN) (kQ hr1)) (SX Q Q (iI Q eT bA Q Q Q Q) (cY 3 Q Q bA Q (jV (f:=Node.enc) 3 0 4 51 3 Q Q Q (SA TK Q (jV (f:=Node.enc) 3 0 5 51 3 Q Q Q (TN (WN [1,2,3] Q Q ?_)))))));refine aL hm (λb2=>([]:Fr)) (λb2=>([(3,.box 29 [.msl 5 3 0 b2.length,.d (.int .i64 r1)]),(5,.flat 51 3 (b2.map Node.enc))]:List (Nat×Blk))) [] [2,3] Q (λz3 hm=>?_) (λb2 hm=>?_)
 ·refine RS (SA TK Q (SA TK Q (SX Q Q (cE TK Q Q Q) (SA TK Q (TN (WN [2,3,11,12,13] Q Q (TB (cW hm (λ(x7,b8)=>([(13,.d (.int .i64 x7))]:Fr)) (λ(x7,b8)=>([(3,.box 29 [.msl 5 3 0 b8.length,.d (.int .i64 r1)]),(5,.flat 51 3 (b8.map Node.enc))]:List (Nat×Blk))) [13] [2,3,11,12] [0,1,2,3,4,5] Q k0 Q Q Q Q Q (λs z9 hm hz9=>?_)))))))));obtain⟨x7,b8⟩:=s;refine WN [2,3,11,12,13] Q Q (RS (SA TK Q (TN (WN [2,3,11,12,13,14] Q Q (TQ ?_)))));refine TC _ Q (λh10=>?_) (λh10=>?_)
  ·replace hm:=JT h10 hm;refine TS (WT (WN [2,3,11,12,13] Q Q (TQ (TB (RS (VE hm λe11 he11 hm=>SX Q Q (gP TK Q Q Q Q he11) (SA TK Q ?_)))))));refine cY 6 Q Q aX Q (SA TK Q (TN (WN [2,3,5,11,12,13] Q Q (yH (nS follows  (DA [] TK Q (DA [3] TK Q (DA [] TK Q ?_))))))));refine DA [6] TK Q (DA [] TK Q (DA [6] TK Q (BE hm λr12 hr12 hm=>DX [] Q Q (RN Q Q (SC (.d _) SN) (kQ hr12)) (DA [] TK Q (DA [6] TK Q (BE hm λr13 hr13 hm=>DX [] Q Q (RN Q Q (SC (.d _) SN) (kQ hr13)) ?_))))));refine DX [] Q Q (bF Q qD aX Q Q Q Q) (DX [] Q Q (gB [.tmp 27] TK Q Q aX Q Q Q Q Q) (GE hm λg14 hm=>d_wr [5,7] _ (.msl 7 3 0 (b8++([(⟨e11.var,r12,r13⟩:Node)]:List Node)).length) Q (wF Q) Q (w_appD (f:=Node.enc) (xs:=b8) ([(⟨e11.var,r12,r13⟩:Node)]:List Node) Q Q Q TK Q aX Q Q Q Q Q Q eZ g14) (DA [] TK Q ?_)));refine DT ?_ (by kernel_rfl);refine SA TK Q (TN (WK (WT (WN [2,3,11,12,13] Q Q (TG (GE hm λg15 hm=>SX Q Q (bN Q Q Q Q g15) (SA TK Q ?_)))))));refine TN (WT ?_);exact⟨_,[0,1,2,3,4,7],(SJ hm),Q,k0,Q⟩
  replace hm:=JF h10 hm;refine bO (WX (IE hm λv16 hm hz=>?_));rw [hz9 _ hz] at hm;refine WX (WH (WT ?_));exact⟨_,[0,1,2,3,4,5],(SJ hm),Q,k0,Q⟩
 refine WN [2,3] Q Q (RS (SA TK Q (SA TK Q (TN (WN [2] Q Q (TR ?_))))));obtain rfl:=OJ hm;exact EndsS.cellR _ TK Q Q Q Q Q (nT (.cons (iC Q) Q (.cons (.d _) Q .nil)))
theorem iW {p0:Bool} {r:Diagram} (hm:cU p0=some r):RetD Try.prog 51 [.bool (p0)] (r.enc):=by
 refine .of (mv:=λ_=>false) (aP qCF Try.func51 Q Try.ntmps51 Q Q (λwX gX=>?_));unfold cU at hm;refine WN [0] Q Q (RS (cY 0 Q Q bA Q (fA 0 [some 3,none] Q Q (TN (WN [0,2] Q Q (TQ (RS (SA TK Q ?_))))))));refine TN (WN [2,3] Q Q ?_);refine TC _ Q (λh1=>?_) (λh1=>?_)
 ·replace hm:=JA h1 hm;refine RS (SX Q Q (bF Q eT bA Q Q Q Q) (mW 4 [some 3,none] Q (SA TK Q (TN (WN [2] Q Q (TR (WR ?_)))))));obtain rfl:=OJ hm;exact EndsS.cellR _ TK Q Q Q Q Q (.d _)
 replace hm:=JB h1 hm;refine TS (WT (WN [2] Q Q (RS (SX Q Q (bF Q eT bA Q Q Q Q) (mW 5 [some 3,none] Q (SA TK Q (TN (WN [2] Q Q ?_))))))));refine TR ?_;obtain rfl:=OJ hm;exact EndsS.cellR _ TK Q Q Q Q Q (.d _)
theorem fM {p0:Diagram} {p1:Int} {r:Int} (hm:cI p0 p1=some r):RetN Try.prog 58 [p0.enc,.int .i64 p1] (.int .i64 r):=by
 refine .unit (aP qBY Try.func58 Q Try.ntmps58 Q Q (λwX gX=>?_)) Q;unfold cI at hm;refine WN [0,1] Q Q (RS (dE 0 Q Q Q (SA TK Q (TN (WN [1,2] Q Q (TQ (RS (SA TK Q (SA TK Q ?_)))))))));refine TN (WN [1,2,6] Q Q ?_);refine TC _ Q (λh1=>?_) (λh1=>?_)
 ·replace hm:=JT h1 hm;refine RS (SA TK Q (TN (WN [4] Q Q (TR (WR ?_)))));obtain rfl:=OJ hm;exact EndsS.one _ Q (.d _) (.refl _)
 replace hm:=JF h1 hm;refine TS (WT (WN [1,2] Q Q (RS (SA TK Q (SA TK Q (SA TK Q (GE hm λg2 hm=>SX Q Q (bN Q Q Q Q g2) (VE hm λe3 he3 hm=>SX Q Q (gP TK Q Q Q Q he3) ?_))))))));refine SA TK Q (SA TK Q (SA TK Q (TN (WN [4] Q Q (TR ?_)))));obtain rfl:=OJ hm;exact EndsS.one _ Q (.d _) (.refl _)
theorem iX {p0:Diagram} {p1:Int} {p2:Int} {r0:Int} {r1:Int} (hm:cV p0 p1 p2=some (r0,r1)):RetT Try.prog 59 [p0.enc,.int .i64 p1,.int .i64 p2] [.int .i64 r0,.int .i64 r1]:=by
 refine .of (mv:=λ_=>false) (dY qBX Try.func59 Q Try.ntmps59 Q Q (λwX gX=>?_));unfold cV at hm;refine WN [0,1,2] Q Q (RS (dE 0 Q Q Q (SA TK Q (SA TK Q (TN (WN [1,2,3] Q Q (TQ (RS (SA TK Q (SA TK Q ?_))))))))));refine BE hm λr1 hr1 hm=>SX Q Q (RN Q Q (SC (.d _) (SC (.d _) SN)) (fM hr1)) (SA TK Q (SA TK Q (TN (WN [1,3,13] Q Q ?_))));refine TC _ Q (λh2=>?_) (λh2=>?_)
 ·replace hm:=iM h2 hm;refine RS ?_;iterate 4 (refine SA TK Q ?_)
  refine TN (WN [6,7] Q Q (TR (WR ?_)));obtain⟨rfl,rfl⟩:=Prod.mk.inj (Option.some.inj hm);exact EndsT.two Q (.d _) (.refl _) (.d _) (.refl _)
 replace hm:=iN h2 hm;refine TS (WT (WN [1,3] Q Q (RS (SA TK Q (SA TK Q (SA TK Q (GE hm λg3 hm=>SX Q Q (bN Q Q Q Q g3) (VE hm λe4 he4 hm=>SX Q Q (gP TK Q Q Q Q he4) ?_))))))));refine SA TK Q (cY 1 Q Q aX Q (SA TK Q (TN (WN [8] Q Q (aR follows  ?_)))));iterate 5 (refine DA [0,1] TK Q ?_)
 refine DT ?_ (by kernel_rfl);refine SA TK Q (TN (WN [6,7] Q Q (TR ?_)));obtain⟨rfl,rfl⟩:=Prod.mk.inj (Option.some.inj hm);exact EndsT.two Q (.d _) (.refl _) (.d _) (.refl _)
theorem eD {p0:Merger} {p1:Node} {r0:Int} {r1:Merger} (hm:aK p0 p1=some (r0,r1)):Ret Try.prog 42 [.box 81 [.d (.sl 3 (p0.a.nodes.map Node.enc)),.d (.int .i64 p0.a.root),.d (.sl 3 (p0.b.nodes.map Node.enc)),.d (.int .i64 p0.b.root),.d (.bool (p0.all)),.mmapN 1 p0.nodes.index.length,.msl 2 3 0 p0.nodes.list.length,.mmap 3,.d (.bool (p0.full))],.map 51 3 (aJ Node.enc (D.int .i64) p0.nodes.index),.flat 51 3 (p0.nodes.list.map Node.enc),.map 84 3 (aJ Pair.enc (D.int .i64) p0.done)] (λj=>Nat.beq j 1||Nat.beq j 2) [.mptr 0 0 0 5,.d (p1.enc)] (.d (.int .i64 r0)) [.box 81 [.d (.sl 3 (p0.a.nodes.map Node.enc)),.d (.int .i64 p0.a.root),.d (.sl 3 (p0.b.nodes.map Node.enc)),.d (.int .i64 p0.b.root),.d (.bool (p0.all)),.mmapN 1 r1.nodes.index.length,.msl 2 3 0 r1.nodes.list.length,.mmap 3,.d (.bool (p0.full))],.map 51 3 (aJ Node.enc (D.int .i64) r1.nodes.index),.flat 51 3 (r1.nodes.list.map Node.enc),.map 84 3 (aJ Pair.enc (D.int .i64) p0.done)]:=by
 refine fD wS Try.func42 Q Try.ntmps42 Q Q (λwX gX=>?_);unfold aK at hm;refine tV 0 5 1 Q Q Q (λhn=>?_) ?_
 ·replace hm:=zE hn hm;refine WN [0,1] Q Q (RS (dE 4 Q Q Q (SA TK Q (TN (WN [0,3] Q Q (TQ (aR follows  ?_)))))));iterate 5 (refine DA [0,1,2,3,4] TK Q ?_)
  refine GE hm λg1 hm=>DX [0,1,2,3,4] Q Q (rX iD iL (D.int .i64) p1 (0:Int) Q mP nM Q Q Q g1) ?_;iterate 4 (refine DA [0,1,2,3,4] TK Q ?_)
  refine DT ?_ (by kernel_rfl);refine SA TK Q (TN (WN [0,3,5,6] Q Q (RS (SA TK Q (TN (WN [0,3,5,16] Q Q (TC false Q (λh=>by cases h) (λ_=>TS ?_))))))));refine WT (WN [0,3] Q Q ?_);refine aL hm (λ_=>([]:Fr)) (λ_=>([(0,.box 81 [.d (.sl 3 (p0.a.nodes.map Node.enc)),.d (.int .i64 p0.a.root),.d (.sl 3 (p0.b.nodes.map Node.enc)),.d (.int .i64 p0.b.root),.d (.bool (p0.all)),.mmap 1,.msl 2 3 0 p0.nodes.list.length,.mmap 3,.d (.bool (p0.full))])]:List (Nat×Blk))) [] [0,3] Q (λz2 hm=>?_) (λj hm=>?_)
  ·refine RS ?_;iterate 4 (refine SA TK Q ?_)
   refine SX Q Q (nZ Q Try.underlying61 Q Q) (TN (WN [0,3,22] Q Q ?_));refine TC true Q (λ_=>?_) (λh=>by cases h);refine TG (SA TK Q (mL (kf:=Node.enc) (f:=(D.int .i64)) 1 51 3 Q Q (λ_=>Q) Q Q (SA TK Q (SA TK Q (SA TK Q (TN (WT ?_)))))));exact⟨_,[0,1,2,3,4],(SJ hm),Q,(kB Q),Q⟩
  refine WN [0,3] Q Q (aR follows  ?_);iterate 10 (refine DA [0,1,2,3,4] TK Q ?_)
  refine DT ?_ (by kernel_rfl);refine GE hm λg3 hm=>lQ iD iL (D.int .i64) mP Q Q Q Q g3 (TN (WN [0,3] Q Q (aR follows  ?_)));iterate 6 (refine DA [0,1,2,3,4] TK Q ?_)
  refine DX [0,1,2,3,4] Q Q (gB [.tmp 42] TK Q Q aX Q Q Q Q Q) ?_;refine lH 0 37 ?_ ?_ Q (by kernel_rfl) (by kernel_rfl) (by kernel_rfl)
  ·refine GE hm λg4 hm=>fT (f:=Node.enc) ([p1]:List Node) TK Q Q aX Q Q Q Q Q (λ_=>Q) Q eZ g4 Q Q (SA TK Q (SA TK Q (SA TK Q (TN (WN [0] Q Q (RS ?_))))));iterate 5 (refine SA TK Q ?_)
   refine GE hm λg5 hm=>SX Q Q (bN Q Q Q Q g5) (SA TK Q (TN (WN [4] Q Q (kD 0 5 1 (eL ([]:List (Node×Int)) p1 (p0.nodes.list.length:Int)).length Q Q (TR ?_)))));obtain⟨rfl,rfl⟩:=Prod.mk.inj (Option.some.inj hm);exact⟨_,[0,1,2,3],res Q,by decide,(kB Q),Q,Q⟩
  refine GE hm λg6 hm=>fT (f:=Node.enc) ([p1]:List Node) TK Q Q aX Q Q Q Q Q (λ_=>Q) Q eZ g6 Q Q ?_;iterate 4 (refine SA TK Q ?_)
  refine TN (WN [0] Q Q (RS ?_));iterate 5 (refine SA TK Q ?_)
  refine GE hm λg7 hm=>SX Q Q (bN Q Q Q Q g7) (SA TK Q (TN (WN [4] Q Q (kD 0 5 1 (eL ([]:List (Node×Int)) p1 (p0.nodes.list.length:Int)).length Q Q (TR ?_)))));obtain⟨rfl,rfl⟩:=Prod.mk.inj (Option.some.inj hm);exact⟨_,[0,1,2,3],res Q,by decide,(kB Q),Q,Q⟩
 replace hm:=qDU hm;refine WN [0,1] Q Q (RS (dE 4 Q Q Q (SA TK Q (TN (WN [0,3] Q Q (TQ (aR follows  ?_)))))));iterate 5 (refine DA [0,1,2,3,4] TK Q ?_)
 refine GE hm λg8 hm=>DX [0,1,2,3,4] Q Q (qQ iD iL (D.int .i64) _ _ (0:Int) Q mP nM Q Q Q Q g8) ?_;iterate 4 (refine DA [0,1,2,3,4] TK Q ?_)
 refine DT ?_ (by kernel_rfl);refine SA TK Q (TN (WN [0,3,5,6] Q Q (RS (SA TK Q (TN (WN [0,3,5,16] Q Q ?_))))));refine TC _ Q (λh9=>?_) (λh9=>?_)
 ·replace hm:=JA h9 hm;refine RS (SA TK Q (SA TK Q (TN (WN [4] Q Q (kD 0 5 1 p0.nodes.index.length Q Q (TR (WR ?_)))))));obtain⟨rfl,rfl⟩:=Prod.mk.inj (Option.some.inj hm);exact⟨_,[0,1,2,3],res Q,by decide,(kB Q),Q,Q⟩
 replace hm:=JB h9 hm;refine TS (WT (WN [0,3] Q Q ?_));refine aL hm (λ_=>([]:Fr)) (λ_=>([]:List (Nat×Blk))) [] [0,3] Q (λz10 hm=>?_) (λj hm=>?_)
 ·refine RS ?_;iterate 4 (refine SA TK Q ?_)
  refine SX Q Q (oA Q Try.underlying61 Q Q) (TN (WN [0,3,22] Q Q (TC false Q (λh=>by cases h) (λ_=>TS (WT ?_)))));exact⟨_,[0,1,2,3,4],(SJ hm),Q,(kB Q),Q⟩
 refine WN [0,3] Q Q (aR follows  ?_);iterate 10 (refine DA [0,1,2,3,4] TK Q ?_)
 refine DT ?_ (by kernel_rfl);refine GE hm λg11 hm=>lQ iD iL (D.int .i64) mP Q Q Q Q g11 (TN (WN [0,3] Q Q (aR follows  ?_)));iterate 6 (refine DA [0,1,2,3,4] TK Q ?_)
 refine DX [0,1,2,3,4] Q Q (gB [.tmp 42] TK Q Q aX Q Q Q Q Q) ?_;refine lH 0 37 ?_ ?_ Q (by kernel_rfl) (by kernel_rfl) (by kernel_rfl)
 ·refine GE hm λg12 hm=>fT (f:=Node.enc) ([p1]:List Node) TK Q Q aX Q Q Q Q Q (λ_=>Q) Q eZ g12 Q Q (SA TK Q (SA TK Q (SA TK Q (TN (WN [0] Q Q (RS ?_))))));iterate 5 (refine SA TK Q ?_)
  refine GE hm λg13 hm=>SX Q Q (bN Q Q Q Q g13) (SA TK Q (TN (WN [4] Q Q (kD 0 5 1 (eL p0.nodes.index p1 (p0.nodes.list.length:Int)).length Q Q (TR ?_)))));obtain⟨rfl,rfl⟩:=Prod.mk.inj (Option.some.inj hm);exact⟨_,[0,1,2,3],res Q,by decide,(kB Q),Q,Q⟩
 refine GE hm λg14 hm=>fT (f:=Node.enc) ([p1]:List Node) TK Q Q aX Q Q Q Q Q (λ_=>Q) Q eZ g14 Q Q ?_;iterate 4 (refine SA TK Q ?_)
 refine TN (WN [0] Q Q (RS ?_));iterate 5 (refine SA TK Q ?_)
 refine GE hm λg15 hm=>SX Q Q (bN Q Q Q Q g15) (SA TK Q (TN (WN [4] Q Q (kD 0 5 1 (eL p0.nodes.index p1 (p0.nodes.list.length:Int)).length Q Q (TR ?_)))));obtain⟨rfl,rfl⟩:=Prod.mk.inj (Option.some.inj hm);exact⟨_,[0,1,2,3],res Q,by decide,(kB Q),Q,Q⟩
theorem jS:∀ (fu:Nat) {p0:Merger} {p1:Pair} {r0:Int} {r1:Merger} (hm:aU fu p0 p1=some (r0,r1)),Ret Try.prog 56 [.box 81 [.d (.sl 3 (p0.a.nodes.map Node.enc)),.d (.int .i64 p0.a.root),.d (.sl 3 (p0.b.nodes.map Node.enc)),.d (.int .i64 p0.b.root),.d (.bool (p0.all)),.mmapN 1 p0.nodes.index.length,.msl 2 3 0 p0.nodes.list.length,.mmap 3,.d (.bool (p0.full))],.map 51 3 (aJ Node.enc (D.int .i64) p0.nodes.index),.flat 51 3 (p0.nodes.list.map Node.enc),.map 84 3 (aJ Pair.enc (D.int .i64) p0.done)] (λj=>Nat.beq j 1||Nat.beq j 2) [.mptr 0 0 0 0,.d (p1.enc)] (.d (.int .i64 r0)) [.box 81 [.d (.sl 3 (p0.a.nodes.map Node.enc)),.d (.int .i64 p0.a.root),.d (.sl 3 (p0.b.nodes.map Node.enc)),.d (.int .i64 p0.b.root),.d (.bool (p0.all)),.mmapN 1 r1.nodes.index.length,.msl 2 3 0 r1.nodes.list.length,.mmap 3,.d (.bool (r1.full))],.map 51 3 (aJ Node.enc (D.int .i64) r1.nodes.index),.flat 51 3 (r1.nodes.list.map Node.enc),.map 84 3 (aJ Pair.enc (D.int .i64) r1.done)]:=by
 intro fu
 induction fu with
 | zero=>
  intro p0 p1 r0 r1 hm;unfold aU at hm;cases hm
 | succ fu ih=>
  intro p0 p1 r0 r1 hm;refine fD qCA Try.func56 Q Try.ntmps56 Q Q (λwX gX=>?_);unfold aU at hm;refine WN [0,1] Q Q (RS (dE 4 Q Q Q (SA TK Q (TN (WN [0,3] Q Q (TQ (RS ?_)))))));iterate 4 (refine SA TK Q ?_)
  refine TN (WN [0,3,19] Q Q ?_);refine TC _ Q (λh1=>?_) (λh1=>?_)
  ·replace hm:=JA h1 hm;refine RS (SA TK Q (TN (WN [4] Q Q (TR (WR ?_)))));obtain⟨rfl,rfl⟩:=Prod.mk.inj (Option.some.inj hm);exact⟨_,[0,1,2,3],res Q,by decide,(kB Q),Q,Q⟩
  replace hm:=JB h1 hm;refine TS (WT (WN [0,3] Q Q (RS (SA TK Q (SA TK Q (TN (WN [0,3,5,6] Q Q ?_)))))));refine aL hm (λ(decides2,other3)=>([(5,.d (.int .i64 decides2)),(6,.d (.int .i64 other3))]:Fr)) (λ(decides2,other3)=>([]:List (Nat×Blk))) [5,6] [0,3] Q (λz4 hm=>?_) (λj hm=>?_)
  ·refine RS ?_;iterate 5 (refine SA TK Q ?_)
   refine TN (WN [0,3,5,6,24] Q Q ?_);refine TC _ Q (λh5=>?_) (λh5=>?_)
   ·replace hm:=JA h5 hm;refine TG (SA TK Q (SA TK Q (TN (WT ?_))));exact⟨_,[0,1,2,3,4],(SJ hm),Q,(kB Q),Q⟩
   replace hm:=JB h5 hm;refine TS (WT ?_);exact⟨_,[0,1,2,3,4],(SJ hm),Q,(kB Q),Q⟩
  obtain⟨decides2,other3⟩:=j;refine WN [0,3,5,6] Q Q (TQ ?_);refine iA [(34,.d (.bool (((decide (p1.a=decides2))||(decide (p1.b=decides2))))))] [34] [0,3,5,6] Q ?_ ?_
  ·refine TG ?_;iterate 4 (refine SA TK Q ?_)
   refine SB TK Q (λq6 hq6=>?_);cases q6
   ·iterate 5 (refine SA TK Q ?_)
    refine TN (WT ?_);exact⟨[0,1,2,3,4],Q,(kB Q),cM (bE (bG (by simp [hq6])) Q) Q⟩
   iterate 5 (refine SA TK Q ?_)
   refine TN (WT ?_);exact⟨[0,1,2,3,4],Q,(kB Q),cM (bE (bG (by simp [hq6])) Q) Q⟩
  refine WN [0,3,5,6,34] Q Q ?_;refine TC _ Q (λh7=>?_) (λh7=>?_)
  ·replace hm:=JA h7 hm;refine RS (SA TK Q (SA TK Q (TN (WN [4] Q Q (TR (WR ?_))))));obtain⟨rfl,rfl⟩:=Prod.mk.inj (Option.some.inj hm);exact⟨_,[0,1,2,3],res Q,by decide,(kB Q),Q,Q⟩
  replace hm:=JB h7 hm;refine TS (WT (WN [0,3,6] Q Q (TQ ?_)));refine iA [(45,.d (.bool (((decide (p1.a=other3))&&(decide (p1.b=other3))))))] [45] [0,3,6] Q ?_ ?_
  ·refine TG ?_;iterate 4 (refine SA TK Q ?_)
   refine SB TK Q (λq8 hq8=>?_);cases q8
   ·iterate 5 (refine SA TK Q ?_)
    refine TN (WT ?_);exact⟨[0,1,2,3,4],Q,(kB Q),cM (bE (bG (by simp [hq8])) Q) Q⟩
   iterate 5 (refine SA TK Q ?_)
   refine TN (WT ?_);exact⟨[0,1,2,3,4],Q,(kB Q),cM (bE (bG (by simp [hq8])) Q) Q⟩
  refine WN [0,3,6,45] Q Q ?_;refine TC _ Q (λh9=>?_) (λh9=>?_)
  ·replace hm:=JA h9 hm;refine RS (SA TK Q (SA TK Q (TN (WN [4] Q Q (TR (WR ?_))))));obtain⟨rfl,rfl⟩:=Prod.mk.inj (Option.some.inj hm);exact⟨_,[0,1,2,3],res Q,by decide,(kB Q),Q,Q⟩
  replace hm:=JB h9 hm;refine TS (WT (WN [0,3] Q Q (TQ (aR follows  ?_))));iterate 5 (refine DA [0,1,2,3,4] TK Q ?_)
  refine GE hm λg10 hm=>DX [0,1,2,3,4] Q Q (qQ uL vG (D.int .i64) _ _ (0:Int) Q zG nM Q Q Q Q g10) ?_;iterate 4 (refine DA [0,1,2,3,4] TK Q ?_)
  refine DT ?_ (by kernel_rfl);refine SA TK Q (TN (WN [0,3,7,8] Q Q (RS (SA TK Q (TN (WN [0,3,7,56] Q Q ?_))))));refine TC _ Q (λh11=>?_) (λh11=>?_)
  ·replace hm:=JA h11 hm;refine RS (SA TK Q (SA TK Q (TN (WN [4] Q Q (TR (WR ?_))))));obtain⟨rfl,rfl⟩:=Prod.mk.inj (Option.some.inj hm);exact⟨_,[0,1,2,3],res Q,by decide,(kB Q),Q,Q⟩
  replace hm:=JB h11 hm;refine TS (WT (WN [0,3] Q Q (aR follows  ?_)));iterate 6 (refine DA [0,1,2,3,4] TK Q ?_)
  refine BE hm λr12 hr12 hm=>DX [0,1,2,3,4] Q Q (RN Q Q (SC (.d _) (SC (.d _) SN)) (fM hr12)) ?_;iterate 6 (refine DA [0,1,2,3,4] TK Q ?_)
  refine BE hm λr13 hr13 hm=>DX [0,1,2,3,4] Q Q (RN Q Q (SC (.d _) (SC (.d _) SN)) (fM hr13)) (DX [0,1,2,3,4] Q Q (rd_min Q Q Q Q) ?_);refine DT ?_ (by kernel_rfl);refine SA TK Q (TN (WN [0,3,9] Q Q (aR follows  ?_)));iterate 7 (refine DA [0,1,2,3,4] TK Q ?_)
  refine BE hm λr14 hr14 hm=>?_;obtain⟨r15,r16⟩:=r14;refine DX [0,1,2,3,4] Q Q (dM Q Q Q (iX hr14)) ?_;iterate 4 (refine DA [0,1,2,3,4] TK Q ?_)
  refine DT ?_ (by kernel_rfl);refine SA TK Q (TN (WN [0,3,9,10,11] Q Q (aR follows  ?_)));iterate 7 (refine DA [0,1,2,3,4] TK Q ?_)
  refine BE hm λr17 hr17 hm=>?_;obtain⟨r18,r19⟩:=r17;refine DX [0,1,2,3,4] Q Q (dM Q Q Q (iX hr17)) ?_;iterate 4 (refine DA [0,1,2,3,4] TK Q ?_)
  refine DT ?_ (by kernel_rfl);refine SA TK Q (TN (WN [0,3,9,10,11,12,13] Q Q (RS (SA TK Q (SA TK Q (SA TK Q (SX Q Q (bF Q yX uC Q Q Q Q) (BE hm λr20 hr20 hm=>?_))))))));obtain⟨r21,r22⟩:=r20;refine cN [0,1,2,3] (λj=>Nat.beq j 1||Nat.beq j 2) Q Q Q (by decide) Q Q Q Q (ih hr20) Q Q Q ?_;refine SA TK Q (TN (WN [0,3,9,11,13,14] Q Q ?_));refine aL hm (λ(x23,c24,m25,b26,m27)=>([(14,.d (.int .i64 x23))]:Fr)) (λ(x23,c24,m25,b26,m27)=>([(0,.box 81 [.d (.sl 3 (p0.a.nodes.map Node.enc)),.d (.int .i64 p0.a.root),.d (.sl 3 (p0.b.nodes.map Node.enc)),.d (.int .i64 p0.b.root),.d (.bool (p0.all)),.mmapN 1 m25.length,.msl 2 3 0 b26.length,.mmap 3,.d (.bool (c24))]),(1,.map 51 3 (aJ Node.enc (D.int .i64) m25)),(2,.flat 51 3 (b26.map Node.enc)),(3,.map 84 3 (aJ Pair.enc (D.int .i64) m27))]:List (Nat×Blk))) [14] [0,3] Q (λz28 hm=>?_) (λj hm=>?_)
  ·refine RS (SA TK Q (SA TK Q (SA TK Q (SX Q Q (bF Q yX uC Q Q Q Q) (BE hm λr29 hr29 hm=>?_)))));obtain⟨r30,r31⟩:=r29;refine cN [0,1,2,3] (λj=>Nat.beq j 1||Nat.beq j 2) Q Q Q (by decide) Q Q Q Q (ih hr29) Q Q Q ?_;refine SA TK Q (TN (WN [0,3,9,14,15] Q Q (RS (SA TK Q (SA TK Q (SA TK Q (TN (WN [0,3,9,14,15,107] Q Q ?_))))))));refine TC _ Q (λh32=>?_) (λh32=>?_)
   ·replace hm:=iM h32 hm;refine TG ?_;iterate 6 (refine SA TK Q ?_)
    refine SX Q Q (bF Q qD aX Q Q Q Q) (BE hm λr33 hr33 hm=>?_);obtain⟨r34,r35⟩:=r33;refine cN [0,1,2,3] (λj=>Nat.beq j 1||Nat.beq j 2) Q Q Q (by decide) Q Q Q Q (eD hr33) Q Q Q ?_;refine GE hm λg36 hm=>SX Q Q (bN Q Q Q Q g36) (SA TK Q (TN (WT ?_)));exact⟨_,[0,1,2,3,4],(SJ hm),Q,(kB Q),Q⟩
   replace hm:=iN h32 hm;refine TS (WT ?_);exact⟨_,[0,1,2,3,4],(SJ hm),Q,(kB Q),Q⟩
  obtain⟨x23,c24,m25,b26,m27⟩:=j;refine WN [0,3,14] Q Q (TQ (RS ?_));iterate 7 (refine SA TK Q ?_)
  refine TN (WN [0,3,14,123] Q Q ?_);refine TC _ Q (λh37=>?_) (λh37=>?_)
  ·replace hm:=JT h37 hm;refine TG ?_;iterate 4 (refine SA TK Q ?_)
   refine TN (WT (WN [0,3,14] Q Q (aR follows  ?_)));iterate 6 (refine DA [0,1,2,3,4] TK Q ?_)
   refine DT ?_ (by kernel_rfl);refine GE hm λg38 hm=>lQ uL vG (D.int .i64) zG Q Q Q Q g38 (TN (WN [14] Q Q (RS (SA TK Q (SA TK Q (TN (WN [4] Q Q (TR ?_))))))));obtain⟨rfl,rfl⟩:=Prod.mk.inj (Option.some.inj hm);exact⟨_,[0,1,2,3],res Q,by decide,(kB Q),Q,Q⟩
  replace hm:=JF h37 hm;refine TS (WT (WN [0,3,14] Q Q (aR follows  ?_)));iterate 6 (refine DA [0,1,2,3,4] TK Q ?_)
  refine DT ?_ (by kernel_rfl);refine GE hm λg39 hm=>lQ uL vG (D.int .i64) zG Q Q Q Q g39 (TN (WN [14] Q Q (RS (SA TK Q (SA TK Q (TN (WN [4] Q Q (TR ?_))))))));obtain⟨rfl,rfl⟩:=Prod.mk.inj (Option.some.inj hm);exact⟨_,[0,1,2,3],res Q,by decide,(kB Q),Q,Q⟩
theorem kP {p0:Merger} {p1:Pair} {r0:Int} {r1:Merger} (hm:eE p0 p1=some (r0,r1)):Ret Try.prog 56 [.box 81 [.d (.sl 3 (p0.a.nodes.map Node.enc)),.d (.int .i64 p0.a.root),.d (.sl 3 (p0.b.nodes.map Node.enc)),.d (.int .i64 p0.b.root),.d (.bool (p0.all)),.mmapN 1 p0.nodes.index.length,.msl 2 3 0 p0.nodes.list.length,.mmap 3,.d (.bool (p0.full))],.map 51 3 (aJ Node.enc (D.int .i64) p0.nodes.index),.flat 51 3 (p0.nodes.list.map Node.enc),.map 84 3 (aJ Pair.enc (D.int .i64) p0.done)] (λj=>Nat.beq j 1||Nat.beq j 2) [.mptr 0 0 0 0,.d (p1.enc)] (.d (.int .i64 r0)) [.box 81 [.d (.sl 3 (p0.a.nodes.map Node.enc)),.d (.int .i64 p0.a.root),.d (.sl 3 (p0.b.nodes.map Node.enc)),.d (.int .i64 p0.b.root),.d (.bool (p0.all)),.mmapN 1 r1.nodes.index.length,.msl 2 3 0 r1.nodes.list.length,.mmap 3,.d (.bool (r1.full))],.map 51 3 (aJ Node.enc (D.int .i64) r1.nodes.index),.flat 51 3 (r1.nodes.list.map Node.enc),.map 84 3 (aJ Pair.enc (D.int .i64) r1.done)]:=jS aG hm
theorem pX {p0:Diagram} {p1:Diagram} {p2:Bool} {r0:Diagram} {r1:Bool} (hm:dK p0 p1 p2=some (r0,r1)):RetT Try.prog 52 [p0.enc,p1.enc,.bool (p2)] [r0.enc,.bool (r1)]:=by
 refine .of (mv:=λ_=>false) (dY qCE Try.func52 Q Try.ntmps52 Q Q (λwX gX=>?_));unfold dK at hm;refine WN [0,1,2] Q Q (RS (dE 0 Q Q Q (dE 1 Q Q Q (cY 2 Q Q bA Q (fA 2 [some 3,none] Q Q (SA TK Q (TN (WN [2,3,4,6] Q Q ?_))))))));refine RS (SA TK Q (SA TK Q (SA TK Q (xB 84 3 Q (s_eq 13 (.mmap 3) Q Q (SX Q Q (iI Q plc81 xY Q Q Q Q) (cY 4 Q Q xY Q (wA (kf:=Node.enc) (f:=(D.int .i64)) 4 5 5 51 3 Q Q Q (jV (f:=Node.enc) 4 6 6 51 3 Q Q Q (wA (kf:=Pair.enc) (f:=(D.int .i64)) 4 7 7 84 3 Q Q Q ?_))))))))));refine fA 4 [some 3,none,some 3,none,none,none,none,none,none] Q Q (SA TK Q (wA (kf:=Node.enc) (f:=(D.int .i64)) 4 5 8 51 3 Q Q Q (jV (f:=Node.enc) 4 6 9 51 3 Q Q Q (TN (WN [3,4,6,8] Q Q (RS ?_))))));iterate 4 (refine SA TK Q ?_)
 refine SX Q Q (bF Q yX uC Q Q Q Q) (BE hm λr1 hr1 hm=>?_);obtain⟨r2,r3⟩:=r1;refine cN [4,8,9,3] (λj=>Nat.beq j 1||Nat.beq j 2) Q Q Q (by decide) Q Q Q Q (kP hr1) Q Q Q ?_;refine SA TK Q (TN (WN [6,8,9] Q Q (TQ (RS (SA TK Q (SA TK Q (TN (WN [6,8,9,22] Q Q ?_))))))));refine TC _ Q (λh4=>?_) (λh4=>?_)
 ·replace hm:=JA h4 hm;refine RS (SX Q Q (bF Q eT bA Q Q Q Q) (mW 23 [some 3,none] Q (SA TK Q (SA TK Q (TN (WN [6,7] Q Q (TR (WR ?_))))))));obtain⟨rfl,rfl⟩:=Prod.mk.inj (Option.some.inj hm);exact⟨_,.mk _ (.cons (.agg (TK.lay Q) Q Q Q Q) (.cons (.tmp 7) .nil)) Q,(.cons (.d _) (.refl _) (.cons (.d _) (.refl _) .nil))⟩
 replace hm:=JB h4 hm;refine TS (WT (WN [6,8,9] Q Q (RS ?_)));iterate 4 (refine SA TK Q ?_)
 refine SX Q Q (iI Q eT bA Q Q Q Q) (SA TK Q (SA TK Q (TN (WN [6,7] Q Q (TR ?_)))));obtain⟨rfl,rfl⟩:=Prod.mk.inj (Option.some.inj hm);exact⟨_,.mk _ (.cons (.agg (TK.lay Q) Q Q Q Q) (.cons (.tmp 7) .nil)) Q,(.cons (nT (.cons (iC Q) Q (.cons (.d _) Q .nil))) (.refl _) (.cons (.d _) (.refl _) .nil))⟩
theorem pD:∀ (fu:Nat) {p0:Expr} {r0:Diagram} {r1:Bool} (hm:bI fu p0=some (r0,r1)),RetT Try.prog 34 [p0.enc] [r0.enc,.bool (r1)]:=by
 intro fu
 induction fu with
 | zero=>
  intro p0 r0 r1 hm;unfold bI at hm;cases hm
 | succ fu ih=>
  intro p0 r0 r1 hm;refine .of (mv:=λ_=>false) (dY qCQ Try.func34 Q Try.ntmps34 Q Q (λwX gX=>?_));unfold bI at hm;refine WN [0] Q Q (RS (dE 0 Q Q Q (cY 1 Q Q bA Q (fA 1 [some 3,none] Q Q (SA TK Q (TN (WN [1,2] Q Q ?_)))))));refine dA hm (λ_=>([]:Fr)) (λ_=>([]:List (Nat×Blk))) [] [2] Q (λz1 hm hz1=>?_) (λj hm=>?_)
  ·refine RS (SA TK Q (SA TK Q (TN (WN [1,2,13] Q Q (TB (RS (SA TK Q (SA TK Q (TN (WN [1,2,13,14] Q Q ?_))))))))));refine TC _ Q (λh2=>?_) (λh2=>?_)
   ·replace hm:=JT h2 hm;refine RS (SX Q Q (bF Q eT bA Q Q Q Q) (mW 16 [some 3,none] Q (SA TK Q (SA TK Q (TN (WN [2,3] Q Q (TR (WB (IE hm λv3 hm hz=>?_)))))))));rw [hz1 _ hz] at hm;refine WR ?_;obtain⟨rfl,rfl⟩:=Prod.mk.inj (Option.some.inj hm);exact⟨_,.mk _ (.cons (.agg (TK.lay Q) Q Q Q Q) (.cons (.tmp 3) .nil)) Q,(.cons (.d _) (.refl _) (.cons (.d _) (.refl _) .nil))⟩
   replace hm:=JF h2 hm;refine RS (SA TK Q (SA TK Q (TN (WN [1,2,13,17] Q Q ?_))));refine TC _ Q (λh4=>?_) (λh4=>?_)
   ·replace hm:=JT h4 hm;refine RS (SA TK Q (SA TK Q (SX Q Q (bF Q qD aX Q Q Q Q) (SX Q Q (gB [.tmp 21] TK Q Q aX Q Q Q Q Q) (SX Q Q (bF Q eT bA Q Q Q Q) (SA TK Q (SA TK Q (TN (WN [2,3] Q Q (TR ?_))))))))));refine WB (IE hm λv5 hm hz=>?_);rw [hz1 _ hz] at hm;refine WR ?_;obtain⟨rfl,rfl⟩:=Prod.mk.inj (Option.some.inj hm);exact⟨_,.mk _ (.cons (.agg (TK.lay Q) Q Q Q Q) (.cons (.tmp 3) .nil)) Q,(.cons (.d _) (.refl _) (.cons (.d _) (.refl _) .nil))⟩
   replace hm:=JF h4 hm;refine RS (SA TK Q (SA TK Q (TN (WN [1,2,13,24] Q Q ?_))));refine TC _ Q (λh6=>?_) (λh6=>?_)
   ·replace hm:=JT h6 hm;refine RS (SA TK Q (SA TK Q (VE hm λe7 he7 hm=>SX Q Q (mJ TK Q Q Q Q he7 (Expr.encR_eq _)) (SA TK Q (BE hm λr8 hr8 hm=>?_)))));obtain⟨r9,r10⟩:=r8;refine SX Q Q (dM Q Q Q (ih hr8)) (SA TK Q (SA TK Q (SA TK Q (cY 2 Q Q bA Q (fA 2 [some 3,none] Q Q (SA TK Q (SA TK Q (TN (WN [2,4,5] Q Q (RS (SA TK Q ?_)))))))))));refine BE hm λr11 hr11 hm=>SX Q Q (RD Q Q Q (pC hr11)) (SA TK Q (SA TK Q (SA TK Q (TN (WN [2,3] Q Q (TR (WB (IE hm λv12 hm hz=>?_))))))));rw [hz1 _ hz] at hm;refine WR ?_;obtain⟨rfl,rfl⟩:=Prod.mk.inj (Option.some.inj hm);exact⟨_,.mk _ (.cons (.agg (TK.lay Q) Q Q Q Q) (.cons (.tmp 3) .nil)) Q,(.cons (.d _) (.refl _) (.cons (.d _) (.refl _) .nil))⟩
   replace hm:=JF h6 hm;refine aL hm (λx13=>([(37,.d (.bool (x13)))]:Fr)) (λx13=>([]:List (Nat×Blk))) [37] [1,2] Q (λz14 hm=>?_) (λx13 hm=>?_)
   ·refine RS (SA TK Q (SA TK Q (TN (WN [1,2,13,37] Q Q ?_))));refine TC _ Q (λh15=>?_) (λh15=>?_)
    ·replace hm:=JT h15 hm;refine TS (WT ?_);exact⟨_,[0,1],(SJ hm),Q,k0,Q⟩
    replace hm:=JF h15 hm;refine TG (SA TK Q (SA TK Q (TN (WT ?_))));exact⟨_,[0,1],(SJ hm),Q,k0,Q⟩
   refine WN [1,2,37] Q Q ?_;refine TC _ Q (λh16=>?_) (λh16=>?_)
   ·replace hm:=JA h16 hm;refine RS ?_;iterate 4 (refine SA TK Q ?_)
    refine TN (WN [1,2,6] Q Q (RS (SA TK Q (BE hm λr17 hr17 hm=>SX Q Q (RD Q Q Q (iW hr17)) (cY 2 Q Q bA Q (fA 2 [some 3,none] Q Q (SA TK Q ?_)))))));refine TN (WN [1,2,6,7] Q Q ?_);refine dA hm (λ(c18,c19)=>([]:Fr)) (λ(c18,c19)=>([(2,.box 29 [.d (.sl 3 (c18.map Node.enc)),.d (.int .i64 c19)])]:List (Nat×Blk))) [] [2,7] Q (λz20 hm hz20=>?_) (λj hm=>?_)
    ·refine RS (SA TK Q (SA TK Q (SX Q Q (cE TK Q Q Q) (SA TK Q (TN (WN [2,6,7,46,47,48] Q Q (TB (cW hm (λ(x25,c26,c27)=>([(48,.d (.int .i64 x25))]:Fr)) (λ(x25,c26,c27)=>([(2,.box 29 [.d (.sl 3 (c26.map Node.enc)),.d (.int .i64 c27)])]:List (Nat×Blk))) [48] [2,6,7,46,47] [0,1,2] Q k0 Q Q Q Q Q (λs z28 hm hz28=>?_)))))))));obtain⟨x25,c26,c27⟩:=s;refine WN [2,6,7,46,47,48] Q Q (RS (SA TK Q (TN (WN [2,6,7,46,47,48,49] Q Q (TQ ?_)))));refine TC _ Q (λh29=>?_) (λh29=>?_)
     ·replace hm:=JT h29 hm;refine TS (WT (WN [2,6,7,46,47,48] Q Q (TQ (TB (RS (VE hm λe30 he30 hm=>SX Q Q (mJ TK Q Q Q Q he30 (Expr.encR_eq _)) (SA TK Q ?_)))))));refine cY 3 Q Q nN Q (fA 3 [none,none,some 3] Q Q (SA TK Q (TN (WN [2,6,7,9,46,47,48] Q Q (RS (SA TK Q (BE hm λr31 hr31 hm=>?_)))))));obtain⟨r32,r33⟩:=r31;refine SX Q Q (dM Q Q Q (ih hr31)) (SA TK Q (SA TK Q (SA TK Q (cY 4 Q Q bA Q (fA 4 [some 3,none] Q Q (SA TK Q (SA TK Q (TN (WN [2,6,7,10,11,46,47,48] Q Q (TQ (RS ?_)))))))))));refine SA TK Q (SA TK Q (TN (WN [2,6,7,10,46,47,48,58] Q Q ?_)));refine TC _ Q (λh34=>?_) (λh34=>?_)
      ·replace hm:=JA h34 hm;refine RS (SX Q Q (bF Q eT bA Q Q Q Q) (mW 59 [some 3,none] Q (SA TK Q (SA TK Q (TN (WN [2,3] Q Q (TR (WR (WB ?_)))))))));refine WR (IE hm λv35 hm hz=>?_);rw [hz28 _ hz] at hm;refine WR (WB (IE hm λv36 hm hz=>?_));rw [hz20 _ hz] at hm;refine WR (WB (IE hm λv37 hm hz=>?_));rw [hz1 _ hz] at hm;refine WR ?_;obtain⟨rfl,rfl⟩:=Prod.mk.inj (Option.some.inj hm);exact⟨_,.mk _ (.cons (.agg (TK.lay Q) Q Q Q Q) (.cons (.tmp 3) .nil)) Q,(.cons (.d _) (.refl _) (.cons (.d _) (.refl _) .nil))⟩
      replace hm:=JB h34 hm;refine TS (WT (WN [2,6,7,10,46,47,48] Q Q (RS (SA TK Q (SA TK Q (SA TK Q (BE hm λr38 hr38 hm=>?_)))))));obtain⟨r39,r40⟩:=r38;refine SX Q Q (dM Q Q Q (pX hr38)) ?_;iterate 5 (refine SA TK Q ?_)
      refine TN (WN [2,6,7,11,46,47,48] Q Q (RS (SA TK Q (SA TK Q (TN (WN [2,6,7,46,47,48,68] Q Q ?_))))));refine TC _ Q (λh41=>?_) (λh41=>?_)
      ·replace hm:=JA h41 hm;refine RS (SX Q Q (bF Q eT bA Q Q Q Q) (mW 69 [some 3,none] Q (SA TK Q (SA TK Q (TN (WN [2,3] Q Q (TR (WB (WR ?_)))))))));refine IE hm λv42 hm hz=>?_;rw [hz28 _ hz] at hm;refine WR (WB (IE hm λv43 hm hz=>?_));rw [hz20 _ hz] at hm;refine WR (WB (IE hm λv44 hm hz=>?_));rw [hz1 _ hz] at hm;refine WR ?_;obtain⟨rfl,rfl⟩:=Prod.mk.inj (Option.some.inj hm);exact⟨_,.mk _ (.cons (.agg (TK.lay Q) Q Q Q Q) (.cons (.tmp 3) .nil)) Q,(.cons (.d _) (.refl _) (.cons (.d _) (.refl _) .nil))⟩
      replace hm:=JB h41 hm;refine TS (WK (WT (WN [2,6,7,46,47,48] Q Q (TG (GE hm λg45 hm=>SX Q Q (bN Q Q Q Q g45) (SA TK Q (TN ?_)))))));refine WT ?_;exact⟨_,[0,1,2],(SJ hm),Q,k0,Q⟩
     replace hm:=JF h29 hm;refine bO (WX (IE hm λv46 hm hz=>?_));rw [hz28 _ hz] at hm;refine WX (WH (WT ?_));exact⟨_,[0,1,2],(SJ hm),Q,k0,Q⟩
    obtain⟨c18,c19⟩:=j;refine WN [2,7] Q Q (RS (SA TK Q (SA TK Q (SA TK Q (TN (WN [2,3] Q Q (TR (WB (IE hm λv47 hm hz=>?_)))))))));rw [hz1 _ hz] at hm;refine WR ?_;obtain⟨rfl,rfl⟩:=Prod.mk.inj (Option.some.inj hm);exact⟨_,.mk _ (.cons (.agg (TK.lay Q) Q Q Q Q) (.cons (.tmp 3) .nil)) Q,(.cons (.d _) (.refl _) (.cons (.d _) (.refl _) .nil))⟩
   replace hm:=JB h16 hm;refine TS (WK (WT ?_));exact⟨_,[0,1],(SJ hm),Q,k0,Q⟩
  refine WN [2] Q Q (RS (BE hm λr48 hr48 hm=>SX Q Q (RD Q Q Q (iW hr48)) (SA TK Q (SA TK Q (TN (WN [2,3] Q Q (TR ?_)))))));obtain⟨rfl,rfl⟩:=Prod.mk.inj (Option.some.inj hm);exact⟨_,.mk _ (.cons (.agg (TK.lay Q) Q Q Q Q) (.cons (.tmp 3) .nil)) Q,(.cons (.d _) (.refl _) (.cons (.d _) (.refl _) .nil))⟩
theorem pW {p0:Expr} {r0:Diagram} {r1:Bool} (hm:fW p0=some (r0,r1)):RetT Try.prog 34 [p0.enc] [r0.enc,.bool (r1)]:=pD aG hm
theorem tY {p0:Expr} {p1:Int} {r0:Diagram} {r1:Int} (hm:gA p0 p1=some (r0,r1)):RetT Try.prog 11 [p0.enc,.int .i64 p1] [r0.enc,.int .i64 r1]:=by
 refine .of (mv:=λ_=>false) (dY qDB Try.func11 Q Try.ntmps11 Q Q (λwX gX=>?_));unfold gA at hm;refine WN [0,1] Q Q (RS (dE 0 Q Q Q (cY 1 Q Q bA Q (fA 1 [some 3,none] Q Q (SA TK Q (TN (WN [1,2,4] Q Q (TQ ?_))))))));refine RS (SA TK Q (SA TK Q (TN (WN [1,2,4,9] Q Q ?_))));refine TC _ Q (λh1=>?_) (λh1=>?_)
 ·replace hm:=JT h1 hm;refine RS (SX Q Q (bF Q eT bA Q Q Q Q) (mW 10 [some 3,none] Q (SA TK Q (SA TK Q (TN (WN [4,5] Q Q (TR (WR ?_))))))));obtain⟨rfl,rfl⟩:=Prod.mk.inj (Option.some.inj hm);exact⟨_,.mk _ (.cons (.agg (TK.lay Q) Q Q Q Q) (.cons (.tmp 5) .nil)) Q,(.cons (.d _) (.refl _) (.cons (.d _) (.refl _) .nil))⟩
 replace hm:=JF h1 hm;refine TS (WT (WN [1,2,4] Q Q (TQ ?_)));refine aL hm (λx2=>([(18,.d (.bool (x2)))]:Fr)) (λx2=>([]:List (Nat×Blk))) [18] [2,4] Q (λz3 hm=>?_) (λx2 hm=>?_)
 ·refine TG (SA TK Q (SA TK Q (SB TK Q (λq4 hq4=>?_))));cases q4
  ·replace hm:=JF hq4 hm;refine SA TK Q (SA TK Q (BE hm λr5 hr5 hm=>SX Q Q (RN Q Q (SC (.d _) (SC (.d _) SN)) (rS hr5)) (SA TK Q (SA TK Q (TN (WT ?_))))));exact⟨_,[0,1],(SJ hm),Q,k0,Q⟩
  replace hm:=JT hq4 hm;iterate 5 (refine SA TK Q ?_)
  refine TN (WT ?_);exact⟨_,[0,1],(SJ hm),Q,k0,Q⟩
 refine WN [2,4,18] Q Q ?_;refine TC _ Q (λh6=>?_) (λh6=>?_)
 ·replace hm:=JA h6 hm;refine RS (SX Q Q (bF Q eT bA Q Q Q Q) (mW 19 [some 3,none] Q (SA TK Q (SA TK Q (TN (WN [4,5] Q Q (TR (WR ?_))))))));obtain⟨rfl,rfl⟩:=Prod.mk.inj (Option.some.inj hm);exact⟨_,.mk _ (.cons (.agg (TK.lay Q) Q Q Q Q) (.cons (.tmp 5) .nil)) Q,(.cons (.d _) (.refl _) (.cons (.d _) (.refl _) .nil))⟩
 replace hm:=JB h6 hm;refine TS (WT (WN [2,4] Q Q (RS (SA TK Q (BE hm λr7 hr7 hm=>?_)))));obtain⟨r8,r9⟩:=r7;refine SX Q Q (dM Q Q Q (pW hr7)) (SA TK Q (SA TK Q (SA TK Q (cY 2 Q Q bA Q (fA 2 [some 3,none] Q Q (SA TK Q (SA TK Q (TN (WN [4,6,7] Q Q (TQ (RS ?_)))))))))));refine SA TK Q (SA TK Q (TN (WN [4,6,26] Q Q ?_)));refine TC _ Q (λh10=>?_) (λh10=>?_)
 ·replace hm:=JA h10 hm;refine RS (SX Q Q (bF Q eT bA Q Q Q Q) (mW 27 [some 3,none] Q (SA TK Q (SA TK Q (TN (WN [4,5] Q Q (TR (WR ?_))))))));obtain⟨rfl,rfl⟩:=Prod.mk.inj (Option.some.inj hm);exact⟨_,.mk _ (.cons (.agg (TK.lay Q) Q Q Q Q) (.cons (.tmp 5) .nil)) Q,(.cons (.d _) (.refl _) (.cons (.d _) (.refl _) .nil))⟩
 replace hm:=JB h10 hm;refine TS (WT (WN [4,6] Q Q (RS (SA TK Q (SA TK Q (SA TK Q (TN (WN [4,5] Q Q (TR ?_)))))))));obtain⟨rfl,rfl⟩:=Prod.mk.inj (Option.some.inj hm);exact⟨_,.mk _ (.cons (.agg (TK.lay Q) Q Q Q Q) (.cons (.tmp 5) .nil)) Q,(.cons (.d _) (.refl _) (.cons (.d _) (.refl _) .nil))⟩
theorem mS {p0:Diagram} {p1:Int} {p2:Int} {r:Bool} (hm:jM p0 p1 p2=some r):RetN Try.prog 41 [p0.enc,.int .i64 p1,.int .i64 p2] (.bool (r)):=by
 refine .unit (aP qCL Try.func41 Q Try.ntmps41 Q Q (λwX gX=>?_)) Q;unfold jM at hm;refine WN [0,1,2] Q Q (RS (dE 0 Q Q Q (SA TK Q (TN (WN [1,2,3] Q Q (TQ ?_))))));refine iA [(12,.d (.bool (((decide (p2=(0:Int)))||(decide (p2=(1:Int)))))))] [12] [1,2,3] Q ?_ ?_
 ·refine TG (SA TK Q (SA TK Q (SB TK Q (λq1 hq1=>?_))));cases q1
  ·refine SA TK Q (SA TK Q (SA TK Q (TN (WT ?_))));exact⟨[0],Q,k0,cM (bE (bG (by simp [hq1])) Q) Q⟩
  refine SA TK Q (SA TK Q (SA TK Q (TN (WT ?_))));exact⟨[0],Q,k0,cM (bE (bG (by simp [hq1])) Q) Q⟩
 refine WN [1,2,3,12] Q Q ?_;refine TC _ Q (λh2=>?_) (λh2=>?_)
 ·replace hm:=JA h2 hm;refine RS (SA TK Q (TN (WN [6] Q Q (TR (WR ?_)))));obtain rfl:=OJ hm;exact EndsS.one _ Q (.d _) (.refl _)
 replace hm:=JB h2 hm;refine TS (WT (WN [1,2,3] Q Q ?_));refine aL hm (λx3=>([(6,.d (.bool (x3)))]:Fr)) (λx3=>([]:List (Nat×Blk))) [6] [] Q (λz4 hm=>?_) (λx3 hm=>?_)
 ·refine nS follows  ?_;iterate 2 (refine DA [0] TK Q ?_)
  refine d_b [0] TK Q (λq5 hq5=>?_);cases q5
  ·replace hm:=JF hq5 hm;iterate 21 (refine DA [0] TK Q ?_)
   refine DT ?_ (by kernel_rfl);refine SA TK Q (TN (WT ?_));exact⟨_,[0],(SJ hm),Q,k0,Q⟩
  replace hm:=JT hq5 hm;iterate 2 (refine DA [0] TK Q ?_)
  refine GE hm λg6 hm=>DX [0] Q Q (bN Q Q Q Q g6) ?_;iterate 2 (refine DA [0] TK Q ?_)
  refine d_b [0] TK Q (λq7 hq7=>?_);cases q7
  ·replace hm:=JF hq7 hm;iterate 15 (refine DA [0] TK Q ?_)
   refine DT ?_ (by kernel_rfl);refine SA TK Q (TN (WT ?_));exact⟨_,[0],(SJ hm),Q,k0,Q⟩
  replace hm:=JT hq7 hm;iterate 3 (refine DA [0] TK Q ?_)
  refine GE hm λg8 hm=>DX [0] Q Q (bN Q Q Q Q g8) (VE hm λe9 he9 hm=>DX [0] Q Q (gP TK Q Q Q Q he9) ?_);iterate 5 (refine DA [0] TK Q ?_)
  refine VE hm λe10 he10 hm=>DX [0] Q Q (gP TK Q Q Q Q he10) ?_;iterate 4 (refine DA [0] TK Q ?_)
  refine DT ?_ (by kernel_rfl);refine SA TK Q (TN (WT ?_));exact⟨_,[0],(SJ hm),Q,k0,Q⟩
 refine WN [6] Q Q (TR ?_);obtain rfl:=OJ hm;exact EndsS.one _ Q (.d _) (.refl _)
theorem lK:∀ (fu:Nat) {p0:Int} {p1:(List Bool)} {p2:Diagram} {p4:Int} {r0:Bool} {r1:(List Bool)} {r2:Int} (hm:bU fu p0 p1 p2 p4=some (r0,r1,r2)),Ret Try.prog 54 [.box 36 [.msl 1 1 0 p1.length],.flat 4 1 (p1.map D.bool),.box 3 [.d (.int .i64 p4)],.box 78 [.fnc 54 [.mptr 0 0 0 0,.d (.ptr (p2.enc) 0),.mptr 3 0 0 0,.mptr 2 0 0 0]]] (λ_=>false) [.d (.int .i64 p0),.mptr 0 0 0 0,.d (.ptr (p2.enc) 0),.mptr 3 0 0 0,.mptr 2 0 0 0] (.d (.bool (r0))) [.box 36 [.msl 1 1 0 r1.length],.flat 4 1 (r1.map D.bool),.box 3 [.d (.int .i64 r2)],.box 78 [.fnc 54 [.mptr 0 0 0 0,.d (.ptr (p2.enc) 0),.mptr 3 0 0 0,.mptr 2 0 0 0]]]:=by
 intro fu
 induction fu with
 | zero=>
  intro p0 p1 p2 p4 r0 r1 r2 hm;unfold bU at hm;cases hm
 | succ fu ih=>
  intro p0 p1 p2 p4 r0 r1 r2 hm;refine fD qCC Try.func54 Q Try.ntmps54 Q Q (λwX gX=>?_);unfold bU at hm;refine WN [0,1,2,3,4] Q Q (RS (SA TK Q (TN (WN [0,1,2,3,4] Q Q (TQ ?_)))));refine aL hm (λx1=>([(15,.d (.bool (x1)))]:Fr)) (λx1=>([]:List (Nat×Blk))) [15] [0,1,2,3,4] Q (λz2 hm=>?_) (λx1 hm=>?_)
  ·refine TG (SA TK Q (SA TK Q (SB TK Q (λq3 hq3=>?_))));cases q3
   ·replace hm:=JF hq3 hm;refine SA TK Q (SA TK Q (VE hm λe4 he4 hm=>SX Q Q (nO TK Q Q Q Q he4 Q) (SX Q Q (rY TK Q Q Q Q he4.2 Q) (SA TK Q (TN (WT ?_))))));exact⟨_,[0,1,2,3],(SJ hm),Q,(kB Q),Q⟩
   replace hm:=JT hq3 hm;iterate 5 (refine SA TK Q ?_)
   refine TN (WT ?_);exact⟨_,[0,1,2,3],(SJ hm),Q,(kB Q),Q⟩
  refine WN [0,1,2,3,4,15] Q Q ?_;refine TC _ Q (λh5=>?_) (λh5=>?_)
  ·replace hm:=JA h5 hm;refine RS (SA TK Q (TN (WN [6] Q Q (TR (WR ?_)))));obtain⟨rfl,hmj0⟩:=Prod.mk.inj (Option.some.inj hm);obtain⟨rfl,rfl⟩:=Prod.mk.inj (hmj0);exact⟨_,[0,1,2,3],res Q,by decide,(kB Q),Q,Q⟩
  replace hm:=JB h5 hm;refine TS (WT (WN [0,1,2,3,4] Q Q (RS (SA TK Q (SA TK Q (VE hm λe6 he6 hm=>SX Q Q (nO TK Q Q Q Q he6 Q) (qDR (x':=true) TK Q Q Q Q Q he6.2 Q Q Q (yP 16 (p1.set p0.toNat true).length Q List.length_set.symm ?_))))))));refine s_eqB 0 [.msl 1 1 0 (p1.set p0.toNat true).length] Q (by simp only [List.length_set]) ?_;refine TN (WN [0,2,3,4] Q Q (RS (SA TK Q (SA TK Q (SA TK Q (GE hm λg7 hm=>SX Q Q (bN Q Q Q Q g7) (VE hm λe8 he8 hm=>SX Q Q (gP TK Q Q Q Q he8) (SA TK Q ?_))))))));refine cY 4 Q Q aX Q (SA TK Q (TN (WN [0,3,4,7] Q Q (TQ ?_))));refine aL hm (λ(x9,b10,c11)=>([(41,.d (.bool (x9)))]:Fr)) (λ(x9,b10,c11)=>([(0,.box 36 [.msl 1 1 0 b10.length]),(1,.flat 4 1 (b10.map D.bool)),(2,.box 3 [.d (.int .i64 c11)])]:List (Nat×Blk))) [41] [4] Q (λz12 hm=>?_) (λj hm=>?_)
  ·refine TG (SA TK Q (SA TK Q (SA TK Q (BE hm λr13 hr13 hm=>?_))));obtain⟨r14,r15,r16⟩:=r13;refine cN [0,1,2,3] (λ_=>false) Q Q Q (by decide) Q Q Q Q (ih hr13) Q Q Q ?_;refine SA TK Q (SB TK Q (λq17 hq17=>?_));cases q17
   ·replace hm:=JB hq17 hm;refine SA TK Q (SA TK Q (SA TK Q (BE hm λr18 hr18 hm=>?_)));obtain⟨r19,r20,r21⟩:=r18;refine s_on Q ?_;refine cN [0,1,2,3] (λ_=>false) Q Q Q (by decide) Q Q Q Q (ih hr18) Q Q Q ?_;refine SA TK Q (SA TK Q (SB TK Q (λq22 hq22=>?_)));cases q22
    ·replace hm:=JB hq22 hm;iterate 4 (refine SA TK Q ?_)
     refine TN (WT ?_);exact⟨_,[0,1,2,3,4],(SJ hm),Q,(kB Q),Q⟩
    replace hm:=JA hq22 hm;iterate 4 (refine SA TK Q ?_)
    refine TN (WT ?_);exact⟨_,[0,1,2,3,4],(SJ hm),Q,(kB Q),Q⟩
   replace hm:=JA hq17 hm;iterate 11 (refine SA TK Q ?_)
   refine TN (WT ?_);exact⟨_,[0,1,2,3,4],(SJ hm),Q,(kB Q),Q⟩
  obtain⟨x9,b10,c11⟩:=j;refine WN [4,41] Q Q ?_;refine TC _ Q (λh23=>?_) (λh23=>?_)
  ·replace hm:=JA h23 hm;refine RS (SA TK Q (TN (WN [6] Q Q (TR (WR ?_)))));obtain⟨rfl,hmj0⟩:=Prod.mk.inj (Option.some.inj hm);obtain⟨rfl,rfl⟩:=Prod.mk.inj (hmj0);exact⟨_,[0,1,2,3],res Q,by decide,(kB Q),Q,Q⟩
  replace hm:=JB h23 hm;refine TS (WT (WN [4] Q Q (RS (SA TK Q (GE hm λg24 hm=>SX Q Q (bN Q Q Q Q g24) (SA TK Q (TN ?_)))))));refine WN [] Q Q (RS (SA TK Q (TN (WN [6] Q Q (TR ?_)))));obtain⟨rfl,hmj0⟩:=Prod.mk.inj (Option.some.inj hm);obtain⟨rfl,rfl⟩:=Prod.mk.inj (hmj0);exact⟨_,[0,1,2,3],res Q,by decide,(kB Q),Q,Q⟩
theorem mF {p0:Int} {p1:(List Bool)} {p2:Diagram} {p4:Int} {r0:Bool} {r1:(List Bool)} {r2:Int} (hm:iU p0 p1 p2 p4=some (r0,r1,r2)):Ret Try.prog 54 [.box 36 [.msl 1 1 0 p1.length],.flat 4 1 (p1.map D.bool),.box 3 [.d (.int .i64 p4)],.box 78 [.fnc 54 [.mptr 0 0 0 0,.d (.ptr (p2.enc) 0),.mptr 3 0 0 0,.mptr 2 0 0 0]]] (λ_=>false) [.d (.int .i64 p0),.mptr 0 0 0 0,.d (.ptr (p2.enc) 0),.mptr 3 0 0 0,.mptr 2 0 0 0] (.d (.bool (r0))) [.box 36 [.msl 1 1 0 r1.length],.flat 4 1 (r1.map D.bool),.box 3 [.d (.int .i64 r2)],.box 78 [.fnc 54 [.mptr 0 0 0 0,.d (.ptr (p2.enc) 0),.mptr 3 0 0 0,.mptr 2 0 0 0]]]:=lK aG hm
theorem pV {p0:Diagram} {r:Bool} (hm:iV p0=some r):RetN Try.prog 43 [p0.enc] (.bool (r)):=by
 refine .unit (aP qCK Try.func43 Q Try.ntmps43 Q Q (λwX gX=>?_)) Q;unfold iV at hm;refine WN [0] Q Q (RS (dE 0 Q Q Q (SA TK Q (TN (WN [1] Q Q (RS (SA TK Q (SA TK Q (SX Q Q (cE TK Q Q Q) ?_)))))))));refine GE hm λg1 hm=>SX Q Q (bN Q Q Q Q g1) (GE hm λg2 hm=>qDS (f:=D.bool) (x:=false) 1 TK Q Q Q pY Q Q Q Q Q g2 Q (cY 2 Q Q uE Q (jV (f:=D.bool) 2 0 3 4 1 Q Q Q (SA TK Q (TN (WN [1,3] Q Q ?_))))));refine RS (cY 4 Q Q nM Q (SA TK Q (TN (WN [1,3,4] Q Q (RS (cY 5 Q Q zero78 Q (TN (WN [1,3,4,5] Q Q ?_))))))));refine wT 0 Q Q Q Q Q (RS (SX Q Q (sI Q) (SA TK Q (TN (WN [1,4,5] Q Q ?_)))));refine aL hm (λ(x3,b4,c5)=>([(2,.d (.bool (x3)))]:Fr)) (λ(x3,b4,c5)=>([(1,.flat 4 1 (b4.map D.bool)),(2,.box 36 [.msl 1 1 0 b4.length]),(4,.box 3 [.d (.int .i64 c5)])]:List (Nat×Blk))) [2] [] Q (λz6 hm=>?_) (λj hm=>?_)
 ·refine TG (SA TK Q (SA TK Q (SA TK Q (BE hm λr7 hr7 hm=>?_))));obtain⟨r8,r9,r10⟩:=r7;refine cN [2,1,4,5] (λ_=>false) Q Q Q (by decide) Q Q Q Q (mF hr7) Q Q Q ?_;refine SB TK Q (λq11 hq11=>?_);cases q11
  ·replace hm:=JB hq11 hm;iterate 8 (refine SA TK Q ?_)
   refine TN (WT ?_);exact⟨_,[0,1,2,3,4,5],(SJ hm),Q,k0,Q⟩
  replace hm:=JA hq11 hm;refine SA TK Q (SA TK Q (SA TK Q (SX Q Q (cE TK Q Q Q) (GE hm λg12 hm=>SX Q Q (bN Q Q Q Q g12) (SA TK Q (SA TK Q (SA TK Q (TN (WT ?_)))))))));exact⟨_,[0,1,2,3,4,5],(SJ hm),Q,k0,Q⟩
 obtain⟨x3,b4,c5⟩:=j;refine WN [2] Q Q (TR ?_);obtain rfl:=OJ hm;exact EndsS.one _ Q (.d _) (.refl _)
theorem dW {p0:Node'} {p1:Node} {r0:Int} {r1:Node'} (hm:bL p0 p1=some (r0,r1)):Ret Try.prog 42 [.box 63 [.mmapN 1 p0.index.length,.msl 2 3 0 p0.list.length],.map 51 3 (aJ Node.enc (D.int .i64) p0.index),.flat 51 3 (p0.list.map Node.enc)] (λj=>Nat.beq j 1||Nat.beq j 2) [.mptr 0 0 0 0,.d (p1.enc)] (.d (.int .i64 r0)) [.box 63 [.mmapN 1 r1.index.length,.msl 2 3 0 r1.list.length],.map 51 3 (aJ Node.enc (D.int .i64) r1.index),.flat 51 3 (r1.list.map Node.enc)]:=by
 refine fD wS Try.func42 Q Try.ntmps42 Q Q (λwX gX=>?_);unfold bL at hm;refine tV 0 0 1 Q Q Q (λhn=>?_) ?_
 ·replace hm:=zE hn hm;refine WN [0,1] Q Q (RS (dE 3 Q Q Q (SA TK Q (TN (WN [0,3] Q Q (TQ (aR follows  ?_)))))));iterate 5 (refine DA [0,1,2,3] TK Q ?_)
  refine GE hm λg1 hm=>DX [0,1,2,3] Q Q (rX iD iL (D.int .i64) p1 (0:Int) Q mP nM Q Q Q g1) ?_;iterate 4 (refine DA [0,1,2,3] TK Q ?_)
  refine DT ?_ (by kernel_rfl);refine SA TK Q (TN (WN [0,3,5,6] Q Q (RS (SA TK Q (TN (WN [0,3,5,16] Q Q (TC false Q (λh=>by cases h) (λ_=>TS ?_))))))));refine WT (WN [0,3] Q Q ?_);refine aL hm (λ_=>([]:Fr)) (λ_=>([(0,.box 63 [.mmap 1,.msl 2 3 0 p0.list.length])]:List (Nat×Blk))) [] [0,3] Q (λz2 hm=>?_) (λj hm=>?_)
  ·refine RS ?_;iterate 4 (refine SA TK Q ?_)
   refine SX Q Q (nZ Q Try.underlying61 Q Q) (TN (WN [0,3,22] Q Q ?_));refine TC true Q (λ_=>?_) (λh=>by cases h);refine TG (SA TK Q (mL (kf:=Node.enc) (f:=(D.int .i64)) 1 51 3 Q Q (λ_=>Q) Q Q (SA TK Q (SA TK Q (SA TK Q (TN (WT ?_)))))));exact⟨_,[0,1,2,3],(SJ hm),Q,(kB Q),Q⟩
  refine WN [0,3] Q Q (aR follows  ?_);iterate 10 (refine DA [0,1,2,3] TK Q ?_)
  refine DT ?_ (by kernel_rfl);refine GE hm λg3 hm=>lQ iD iL (D.int .i64) mP Q Q Q Q g3 (TN (WN [0,3] Q Q (aR follows  ?_)));iterate 6 (refine DA [0,1,2,3] TK Q ?_)
  refine DX [0,1,2,3] Q Q (gB [.tmp 42] TK Q Q aX Q Q Q Q Q) ?_;refine lH 0 37 ?_ ?_ Q (by kernel_rfl) (by kernel_rfl) (by kernel_rfl)
  ·refine GE hm λg4 hm=>fT (f:=Node.enc) ([p1]:List Node) TK Q Q aX Q Q Q Q Q (λ_=>Q) Q eZ g4 Q Q (SA TK Q (SA TK Q (SA TK Q (TN (WN [0] Q Q (RS ?_))))));iterate 5 (refine SA TK Q ?_)
   refine GE hm λg5 hm=>SX Q Q (bN Q Q Q Q g5) (SA TK Q (TN (WN [4] Q Q (kD 0 0 1 (eL ([]:List (Node×Int)) p1 (p0.list.length:Int)).length Q Q (TR ?_)))));obtain⟨rfl,rfl⟩:=Prod.mk.inj (Option.some.inj hm);exact⟨_,[0,1,2],res Q,by decide,(kB Q),Q,Q⟩
  refine GE hm λg6 hm=>fT (f:=Node.enc) ([p1]:List Node) TK Q Q aX Q Q Q Q Q (λ_=>Q) Q eZ g6 Q Q ?_;iterate 4 (refine SA TK Q ?_)
  refine TN (WN [0] Q Q (RS ?_));iterate 5 (refine SA TK Q ?_)
  refine GE hm λg7 hm=>SX Q Q (bN Q Q Q Q g7) (SA TK Q (TN (WN [4] Q Q (kD 0 0 1 (eL ([]:List (Node×Int)) p1 (p0.list.length:Int)).length Q Q (TR ?_)))));obtain⟨rfl,rfl⟩:=Prod.mk.inj (Option.some.inj hm);exact⟨_,[0,1,2],res Q,by decide,(kB Q),Q,Q⟩
 replace hm:=qDU hm;refine WN [0,1] Q Q (RS (dE 3 Q Q Q (SA TK Q (TN (WN [0,3] Q Q (TQ (aR follows  ?_)))))));iterate 5 (refine DA [0,1,2,3] TK Q ?_)
 refine GE hm λg8 hm=>DX [0,1,2,3] Q Q (qQ iD iL (D.int .i64) _ _ (0:Int) Q mP nM Q Q Q Q g8) ?_;iterate 4 (refine DA [0,1,2,3] TK Q ?_)
 refine DT ?_ (by kernel_rfl);refine SA TK Q (TN (WN [0,3,5,6] Q Q (RS (SA TK Q (TN (WN [0,3,5,16] Q Q ?_))))));refine TC _ Q (λh9=>?_) (λh9=>?_)
 ·replace hm:=JA h9 hm;refine RS (SA TK Q (SA TK Q (TN (WN [4] Q Q (kD 0 0 1 p0.index.length Q Q (TR (WR ?_)))))));obtain⟨rfl,rfl⟩:=Prod.mk.inj (Option.some.inj hm);exact⟨_,[0,1,2],res Q,by decide,(kB Q),Q,Q⟩
 replace hm:=JB h9 hm;refine TS (WT (WN [0,3] Q Q ?_));refine aL hm (λ_=>([]:Fr)) (λ_=>([]:List (Nat×Blk))) [] [0,3] Q (λz10 hm=>?_) (λj hm=>?_)
 ·refine RS ?_;iterate 4 (refine SA TK Q ?_)
  refine SX Q Q (oA Q Try.underlying61 Q Q) (TN (WN [0,3,22] Q Q (TC false Q (λh=>by cases h) (λ_=>TS (WT ?_)))));exact⟨_,[0,1,2,3],(SJ hm),Q,(kB Q),Q⟩
 refine WN [0,3] Q Q (aR follows  ?_);iterate 10 (refine DA [0,1,2,3] TK Q ?_)
 refine DT ?_ (by kernel_rfl);refine GE hm λg11 hm=>lQ iD iL (D.int .i64) mP Q Q Q Q g11 (TN (WN [0,3] Q Q (aR follows  ?_)));iterate 6 (refine DA [0,1,2,3] TK Q ?_)
 refine DX [0,1,2,3] Q Q (gB [.tmp 42] TK Q Q aX Q Q Q Q Q) ?_;refine lH 0 37 ?_ ?_ Q (by kernel_rfl) (by kernel_rfl) (by kernel_rfl)
 ·refine GE hm λg12 hm=>fT (f:=Node.enc) ([p1]:List Node) TK Q Q aX Q Q Q Q Q (λ_=>Q) Q eZ g12 Q Q (SA TK Q (SA TK Q (SA TK Q (TN (WN [0] Q Q (RS ?_))))));iterate 5 (refine SA TK Q ?_)
  refine GE hm λg13 hm=>SX Q Q (bN Q Q Q Q g13) (SA TK Q (TN (WN [4] Q Q (kD 0 0 1 (eL p0.index p1 (p0.list.length:Int)).length Q Q (TR ?_)))));obtain⟨rfl,rfl⟩:=Prod.mk.inj (Option.some.inj hm);exact⟨_,[0,1,2],res Q,by decide,(kB Q),Q,Q⟩
 refine GE hm λg14 hm=>fT (f:=Node.enc) ([p1]:List Node) TK Q Q aX Q Q Q Q Q (λ_=>Q) Q eZ g14 Q Q ?_;iterate 4 (refine SA TK Q ?_)
 refine TN (WN [0] Q Q (RS ?_));iterate 5 (refine SA TK Q ?_)
 refine GE hm λg15 hm=>SX Q Q (bN Q Q Q Q g15) (SA TK Q (TN (WN [4] Q Q (kD 0 0 1 (eL p0.index p1 (p0.list.length:Int)).length Q Q (TR ?_)))));obtain⟨rfl,rfl⟩:=Prod.mk.inj (Option.some.inj hm);exact⟨_,[0,1,2],res Q,by decide,(kB Q),Q,Q⟩
theorem iY {p0:Diagram} {r:Bool} (hm:gM p0=some r):RetN Try.prog 19 [p0.enc] (.bool (r)):=by
 refine .unit (aP qCW Try.func19 Q Try.ntmps19 Q Q (λwX gX=>?_)) Q;unfold gM at hm;refine WN [0] Q Q (RS (dE 0 Q Q Q (SA TK Q (TN (WN [1] Q Q (TQ (RS (SA TK Q (SA TK Q ?_)))))))));refine SX Q Q (cE TK Q Q Q) (SA TK Q (TN (WN [1,9] Q Q ?_)));refine TC _ Q (λh1=>?_) (λh1=>?_)
 ·replace hm:=JT h1 hm;refine RS (SA TK Q (TN (WN [2] Q Q (TR (WR ?_)))));obtain rfl:=OJ hm;exact EndsS.one _ Q (.d _) (.refl _)
 replace hm:=JF h1 hm;refine TS (WT (WN [1] Q Q (RS (cY 1 Q Q zero63 Q (wA (kf:=Node.enc) (f:=(D.int .i64)) 1 0 2 51 3 Q Q Q (jV (f:=Node.enc) 1 1 3 51 3 Q Q Q (TN (WN [1,3] Q Q ?_))))))));refine dA hm (λ(m2,b3)=>([]:Fr)) (λ(m2,b3)=>([(1,.box 63 [.mmapN 2 m2.length,.msl 3 3 0 b3.length]),(2,.map 51 3 (aJ Node.enc (D.int .i64) m2)),(3,.flat 51 3 (b3.map Node.enc))]:List (Nat×Blk))) [] [1] Q (λz4 hm hz4=>?_) (λj hm=>?_)
 ·refine RS (SA TK Q (SA TK Q (SX Q Q (cE TK Q Q Q) (SA TK Q (TN (WN [1,3,11,12,13] Q Q (TB (cW hm (λ(x9,b10,b11)=>([(13,.d (.int .i64 x9))]:Fr)) (λ(x9,b10,b11)=>([(1,.box 63 [.mmapN 2 b10.length,.msl 3 3 0 b11.length]),(2,.map 51 3 (aJ Node.enc (D.int .i64) b10)),(3,.flat 51 3 (b11.map Node.enc))]:List (Nat×Blk))) [13] [1,3,11,12] [0,1,2,3] Q k0 Q Q Q Q Q (λs z12 hm hz12=>?_)))))))));obtain⟨x9,b10,b11⟩:=s;refine WN [1,3,11,12,13] Q Q (RS (SA TK Q (TN (WN [1,3,11,12,13,14] Q Q (TQ ?_)))));refine TC _ Q (λh13=>?_) (λh13=>?_)
  ·replace hm:=JT h13 hm;refine TS (WT (WN [1,3,11,12,13] Q Q (TQ (TB (RS (SA TK Q (VE hm λe14 he14 hm=>SX Q Q (gP TK Q Q Q Q he14) ?_)))))));refine SA TK Q (cY 4 Q Q aX Q (SA TK Q (SA TK Q (TN (WN [1,3,4,5,11,12,13] Q Q (TQ ?_))))));refine aL hm (λx15=>([(48,.d (.bool (x15)))]:Fr)) (λx15=>([]:List (Nat×Blk))) [48] [1,3,4,5,11,12,13] Q (λz16 hm=>?_) (λx15 hm=>?_)
   ·refine TG (SA TK Q (SA TK Q (SA TK Q (SB TK Q (λq17 hq17=>?_)))));cases q17
    ·replace hm:=JF hq17 hm;iterate 4 (refine SA TK Q ?_)
     refine SB TK Q (λq18 hq18=>?_);cases q18
     ·replace hm:=JF hq18 hm;iterate 6 (refine SA TK Q ?_)
      refine SB TK Q (λq19 hq19=>?_);cases q19
      ·replace hm:=JF hq19 hm;iterate 4 (refine SA TK Q ?_)
       refine BE hm λr20 hr20 hm=>SX Q Q (RN Q Q (SC (.d _) (SC (.d _) (SC (.d _) SN))) (mS hr20)) (SA TK Q (SA TK Q (SB TK Q (λq21 hq21=>?_))));cases q21
       ·replace hm:=JB hq21 hm;iterate 4 (refine SA TK Q ?_)
        refine BE hm λr22 hr22 hm=>SX Q Q (RN Q Q (SC (.d _) (SC (.d _) (SC (.d _) SN))) (mS hr22)) (SA TK Q (SA TK Q (TN (WT ?_))));exact⟨_,[0,1,2,3,4],(SJ hm),Q,k0,Q⟩
       replace hm:=JA hq21 hm;iterate 7 (refine SA TK Q ?_)
       refine TN (WT ?_);exact⟨_,[0,1,2,3,4],(SJ hm),Q,k0,Q⟩
      replace hm:=JT hq19 hm;iterate 15 (refine SA TK Q ?_)
      refine TN (WT ?_);exact⟨_,[0,1,2,3,4],(SJ hm),Q,k0,Q⟩
     replace hm:=JT hq18 hm;iterate 22 (refine SA TK Q ?_)
     refine TN (WT ?_);exact⟨_,[0,1,2,3,4],(SJ hm),Q,k0,Q⟩
    replace hm:=JT hq17 hm;iterate 27 (refine SA TK Q ?_)
    refine TN (WT ?_);exact⟨_,[0,1,2,3,4],(SJ hm),Q,k0,Q⟩
   refine WN [1,3,4,5,11,12,13,48] Q Q ?_;refine TC _ Q (λh23=>?_) (λh23=>?_)
   ·replace hm:=JA h23 hm;refine RS (SA TK Q (TN (WN [2] Q Q (TR (WR (WB (WR (IE hm λv24 hm hz=>?_))))))));rw [hz12 _ hz] at hm;refine WR (WB (IE hm λv25 hm hz=>?_));rw [hz4 _ hz] at hm;refine WR ?_;obtain rfl:=OJ hm;exact EndsS.one _ Q (.d _) (.refl _)
   replace hm:=JB h23 hm;refine TS (WT (WN [1,3,4,5,11,12,13] Q Q (RS (SA TK Q (BE hm λr26 hr26 hm=>?_)))));obtain⟨r27,r28⟩:=r26;refine cN [1,2,3] (λj=>Nat.beq j 1||Nat.beq j 2) Q Q Q (by decide) Q Q Q Q (dW hr26) Q Q Q ?_;refine SA TK Q (SA TK Q (TN (WN [1,3,11,12,13,52] Q Q ?_)));refine TC _ Q (λh29=>?_) (λh29=>?_)
   ·replace hm:=iM h29 hm;refine RS (SA TK Q (TN (WN [2] Q Q (TR (WB (WR (IE hm λv30 hm hz=>?_)))))));rw [hz12 _ hz] at hm;refine WR (WB (IE hm λv31 hm hz=>?_));rw [hz4 _ hz] at hm;refine WR ?_;obtain rfl:=OJ hm;exact EndsS.one _ Q (.d _) (.refl _)
   replace hm:=iN h29 hm;refine TS (WK (WT (WN [1,3,11,12,13] Q Q (TG (GE hm λg32 hm=>SX Q Q (bN Q Q Q Q g32) (SA TK Q (TN ?_)))))));refine WT ?_;exact⟨_,[0,1,2,3],(SJ hm),Q,k0,Q⟩
  replace hm:=JF h13 hm;refine bO (WX (IE hm λv33 hm hz=>?_));rw [hz12 _ hz] at hm;refine WX (WH (WT ?_));exact⟨_,[0,1,2,3],(SJ hm),Q,k0,Q⟩
 obtain⟨m2,b3⟩:=j;refine WN [1] Q Q (TQ (RS (SA TK Q (SA TK Q (SX Q Q (cE TK Q Q Q) (SA TK Q (TN (WN [1,57] Q Q ?_))))))));refine TC _ Q (λh34=>?_) (λh34=>?_)
 ·replace hm:=JT h34 hm;refine iA [(2,.d (.bool (((decide (p0.root=(0:Int)))||(decide (p0.root=(1:Int)))))))] [2] [] Q ?_ ?_
  ·refine TG (SA TK Q (SA TK Q (SA TK Q (SB TK Q (λq35 hq35=>?_)))));cases q35
   ·iterate 5 (refine SA TK Q ?_)
    refine TN (WT ?_);exact⟨[0,1,2,3],Q,k0,cM (bE (bG (by simp [hq35])) Q) Q⟩
   iterate 5 (refine SA TK Q ?_)
   refine TN (WT ?_);exact⟨[0,1,2,3],Q,k0,cM (bE (bG (by simp [hq35])) Q) Q⟩
  refine WN [2] Q Q (TR (WR ?_));obtain rfl:=OJ hm;exact EndsS.one _ Q (.d _) (.refl _)
 replace hm:=JF h34 hm;refine TS (WT (WN [1] Q Q ?_));refine aL hm (λx36=>([(2,.d (.bool (x36)))]:Fr)) (λx36=>([]:List (Nat×Blk))) [2] [] Q (λz37 hm=>?_) (λx36 hm=>?_)
 ·refine TG ?_;iterate 4 (refine SA TK Q ?_)
  refine SX Q Q (cE TK Q Q Q) (GE hm λg38 hm=>SX Q Q (bN Q Q Q Q g38) (SA TK Q (SB TK Q (λq39 hq39=>?_))));cases q39
  ·replace hm:=JF hq39 hm;iterate 4 (refine SA TK Q ?_)
   refine TN (WT ?_);exact⟨_,[0,1,2,3],(SJ hm),Q,k0,Q⟩
  replace hm:=JT hq39 hm;refine SA TK Q (BE hm λr40 hr40 hm=>SX Q Q (RN Q Q (SC (.d _) SN) (pV hr40)) (SA TK Q (SA TK Q (TN (WT ?_)))));exact⟨_,[0,1,2,3],(SJ hm),Q,k0,Q⟩
 refine WN [2] Q Q (TR ?_);obtain rfl:=OJ hm;exact EndsS.one _ Q (.d _) (.refl _)
theorem mT {p0:Diagram} {p1:Int} {r:Bool} (hm:jN p0 p1=some r):RetN Try.prog 38 [p0.enc,.int .i64 p1] (.bool (r)):=by
 refine .unit (aP qCN Try.func38 Q Try.ntmps38 Q Q (λwX gX=>?_)) Q;unfold jN at hm;refine WN [0,1] Q Q (RS (dE 0 Q Q Q (SA TK Q (TN (WN [1,2] Q Q ?_)))));refine dA hm (λ_=>([]:Fr)) (λ_=>([]:List (Nat×Blk))) [] [] Q (λz1 hm hz1=>?_) (λj hm=>?_)
 ·refine RS (SA TK Q (SA TK Q (SX Q Q (cE TK Q Q Q) (SA TK Q (TN (WN [1,8,9,10] Q Q (TB (cW hm (λx3=>([(10,.d (.int .i64 x3))]:Fr)) (λx3=>([]:List (Nat×Blk))) [10] [1,8,9] [0] Q k0 Q Q Q Q Q (λx3 z4 hm hz4=>WN [1,8,9,10] Q Q ?_)))))))));refine RS (SA TK Q (TN (WN [1,8,9,10,11] Q Q (TQ ?_))));refine TC _ Q (λh5=>?_) (λh5=>?_)
  ·replace hm:=JT h5 hm;refine TS (WT (WN [1,8,9,10] Q Q (TQ (TB (RS (VE hm λe6 he6 hm=>SX Q Q (gP TK Q Q Q Q he6) (SA TK Q ?_)))))));refine cY 1 Q Q aX Q (SA TK Q (TN (WN [1,6,8,9,10] Q Q (RS ?_))));iterate 4 (refine SA TK Q ?_)
   refine TN (WN [1,8,9,10,17] Q Q ?_);refine TC _ Q (λh7=>?_) (λh7=>?_)
   ·replace hm:=JT h7 hm;refine RS (SA TK Q (TN (WN [4] Q Q (TR (WB (WR (IE hm λv8 hm hz=>?_)))))));rw [hz4 _ hz] at hm;refine WR (WB (IE hm λv9 hm hz=>?_));rw [hz1 _ hz] at hm;refine WR ?_;obtain rfl:=OJ hm;exact EndsS.one _ Q (.d _) (.refl _)
   replace hm:=JF h7 hm;refine TS (WK (WT (WN [1,8,9,10] Q Q (TG (GE hm λg10 hm=>SX Q Q (bN Q Q Q Q g10) (SA TK Q (TN ?_)))))));refine WT ?_;exact⟨_,[0],(SJ hm),Q,k0,Q⟩
  replace hm:=JF h5 hm;refine bO (WX (IE hm λv11 hm hz=>?_));rw [hz4 _ hz] at hm;refine WX (WH (WT ?_));exact⟨_,[0],(SJ hm),Q,k0,Q⟩
 refine WN [] Q Q (RS (SA TK Q (TN (WN [4] Q Q (TR ?_)))));obtain rfl:=OJ hm;exact EndsS.one _ Q (.d _) (.refl _)
theorem fO {p0:Int} {p1:Int} {p2:Diagram} {r:Int} (hm:dV p0 p1 p2=some r):RetN Try.prog 40 [.int .i64 p0,.ptr (.agg [.int .i64 p1]) 0,.ptr (p2.enc) 0] (.int .i64 r):=by
 refine .unit (aP qCM Try.func40 Q Try.ntmps40 Q Q (λwX gX=>?_)) Q;unfold dV at hm;refine WN [0,1,2] Q Q (RS (SA TK Q (TN (WN [0,1,2] Q Q (TQ (RS (SA TK Q (SA TK Q (TN ?_)))))))));refine WN [0,1,2,6] Q Q ?_;refine TC _ Q (λh1=>?_) (λh1=>?_)
 ·replace hm:=JT h1 hm;refine RS (SA TK Q (SA TK Q (TN (WN [4] Q Q (TR (WR ?_))))));obtain rfl:=OJ hm;exact EndsS.one _ Q (.d _) (.refl _)
 replace hm:=JF h1 hm;refine TS (WT (WN [0,2] Q Q (RS (SA TK Q (SA TK Q (SA TK Q (GE hm λg2 hm=>SX Q Q (bN Q Q Q Q g2) (VE hm λe3 he3 hm=>SX Q Q (gP TK Q Q Q Q he3) ?_))))))));refine SA TK Q (SA TK Q (SA TK Q (TN (WN [4] Q Q (TR ?_)))));obtain rfl:=OJ hm;exact EndsS.one _ Q (.d _) (.refl _)
theorem uA {p0:Diagram} {p1:Int} {r0:Int} {r1:Int} (hm:mH p0 p1=some (r0,r1)):RetT Try.prog 17 [p0.enc,.int .i64 p1] [.int .u64 r0,.int .i64 r1]:=by
 refine .of (mv:=λ_=>false) (dY qCX Try.func17 Q Try.ntmps17 Q Q (λwX gX=>?_));unfold mH at hm;refine WN [0,1] Q Q (RS (dE 0 Q Q Q (dE 1 Q Q Q (SA TK Q (SA TK Q (TN (WN [2,3] Q Q (TQ ?_))))))));refine iA [(17,.d (.bool (((decide (p1 < (0:Int)))||(decide ((62:Int) < p1))))))] [17] [2,3] Q ?_ ?_
 ·refine TG (SA TK Q (SA TK Q (SB TK Q (λq1 hq1=>?_))));cases q1
  ·refine SA TK Q (SA TK Q (SA TK Q (TN (WT ?_))));exact⟨[0,1],Q,k0,cM (bE (bG (by simp [hq1])) Q) Q⟩
  refine SA TK Q (SA TK Q (SA TK Q (TN (WT ?_))));exact⟨[0,1],Q,k0,cM (bE (bG (by simp [hq1])) Q) Q⟩
 refine WN [2,3,17] Q Q ?_;refine TC _ Q (λh2=>?_) (λh2=>?_)
 ·replace hm:=JA h2 hm;refine RS (SA TK Q (SA TK Q (TN (WN [4,5] Q Q (TR (WR ?_))))));obtain⟨rfl,rfl⟩:=Prod.mk.inj (Option.some.inj hm);exact EndsT.two Q (.d _) (.refl _) (.d _) (.refl _)
 replace hm:=JB h2 hm;refine TS (WT (WN [2,3] Q Q (TQ ?_)));refine aL hm (λx3=>([(26,.d (.bool (x3)))]:Fr)) (λx3=>([]:List (Nat×Blk))) [26] [2,3] Q (λz4 hm=>?_) (λx3 hm=>?_)
 ·refine TG (SA TK Q (BE hm λr5 hr5 hm=>SX Q Q (RN Q Q (SC (.d _) SN) (iY hr5)) (SA TK Q (SB TK Q (λq6 hq6=>?_)))));cases q6
  ·replace hm:=JB hq6 hm;refine SA TK Q (SA TK Q (BE hm λr7 hr7 hm=>SX Q Q (RN Q Q (SC (.d _) (SC (.d _) SN)) (mT hr7)) (SA TK Q (SA TK Q (TN (WT ?_))))));exact⟨_,[0,1],(SJ hm),Q,k0,Q⟩
  replace hm:=JA hq6 hm;iterate 5 (refine SA TK Q ?_)
  refine TN (WT ?_);exact⟨_,[0,1],(SJ hm),Q,k0,Q⟩
 refine WN [2,3,26] Q Q ?_;refine TC _ Q (λh8=>?_) (λh8=>?_)
 ·replace hm:=JA h8 hm;refine RS (SA TK Q (SA TK Q (TN (WN [4,5] Q Q (TR (WR ?_))))));obtain⟨rfl,rfl⟩:=Prod.mk.inj (Option.some.inj hm);exact EndsT.two Q (.d _) (.refl _) (.d _) (.refl _)
 replace hm:=JB h8 hm;refine TS (WT (WN [2,3] Q Q (RS (s_litO (f:=(D.int .u64)) 2 [.const (Value.int IntKind.u64 0),.const (Value.int IntKind.u64 1)] ([(0:Int),(1:Int)]:List Int) TK Q Q Q uD Q Q Q Q Q (SA TK Q (TN (WN [2,3,6] Q Q (wT 1 Q Q Q Q Q ?_))))))));refine wT 0 Q Q Q Q Q (RS (SA TK Q (SA TK Q (TN (WN [2,6,7] Q Q ?_)))));refine aL hm (λb9=>([(6,.msl 2 1 0 b9.length)]:Fr)) (λb9=>([(2,.flat 39 1 (b9.map (D.int .u64)))]:List (Nat×Blk))) [6] [2,7] Q (λz10 hm=>?_) (λb9 hm=>?_)
 ·refine RS (SA TK Q (SA TK Q (SX Q Q (cE TK Q Q Q) (SA TK Q (TN (WN [2,6,7,30,31,32] Q Q (TB (cW hm (λ(x14,b15)=>([(6,.msl 2 1 0 b15.length),(32,.d (.int .i64 x14))]:Fr)) (λ(x14,b15)=>([(2,.flat 39 1 (b15.map (D.int .u64)))]:List (Nat×Blk))) [6,32] [2,7,30,31] [0,1,2] Q k0 Q Q Q Q Q (λs z16 hm hz16=>?_)))))))));obtain⟨x14,b15⟩:=s;refine WN [2,6,7,30,31,32] Q Q (RS (SA TK Q (TN (WN [2,6,7,30,31,32,33] Q Q (TQ ?_)))));refine TC _ Q (λh17=>?_) (λh17=>?_)
  ·replace hm:=JT h17 hm;refine TS (WT (WN [2,6,7,30,31,32] Q Q (TQ (TB (RS (VE hm λe18 he18 hm=>SX Q Q (gP TK Q Q Q Q he18) (SA TK Q ?_)))))));refine cY 3 Q Q aX Q (SA TK Q (TN (WN [2,6,7,9,30,31,32] Q Q (aR follows  ?_))));iterate 3 (refine DA [0,1,2,3] TK Q ?_)
   refine VE hm λe19 he19 hm=>DX [0,1,2,3] Q Q (nO TK Q Q Q Q he19 Q) (DX [0,1,2,3] Q Q (rY TK Q Q Q Q he19.2 Q) ?_);iterate 3 (refine DA [0,1,2,3] TK Q ?_)
   refine BE hm λr20 hr20 hm=>DX [0,1,2,3] Q Q (oC (ds:=[.int .i64 e18.lo]) Q Q Q Q ((fO hr20).retD)) ?_;iterate 2 (refine DA [0,1,2,3] TK Q ?_)
   refine GE hm λg21 hm=>DX [0,1,2,3] Q Q (bN Q Q Q Q g21) (GE hm λg22 hm=>DX [0,1,2,3] Q Q (bN Q Q Q Q g22) (GE hm λg23 hm=>DX [0,1,2,3] Q Q (rW Q Q Q Q g23) ?_));refine DT ?_ (by kernel_rfl);refine SA TK Q (TN (WN [2,6,7,9,10,30,31,32] Q Q (aR follows  ?_)));iterate 3 (refine DA [0,1,2,3] TK Q ?_)
   refine VE hm λe24 he24 hm=>DX [0,1,2,3] Q Q (nO TK Q Q Q Q he24 Q) (DX [0,1,2,3] Q Q (rY TK Q Q Q Q he24.2 Q) ?_);iterate 3 (refine DA [0,1,2,3] TK Q ?_)
   refine BE hm λr25 hr25 hm=>DX [0,1,2,3] Q Q (oC (ds:=[.int .i64 e18.hi]) Q Q Q Q ((fO hr25).retD)) ?_;iterate 2 (refine DA [0,1,2,3] TK Q ?_)
   refine GE hm λg26 hm=>DX [0,1,2,3] Q Q (bN Q Q Q Q g26) (GE hm λg27 hm=>DX [0,1,2,3] Q Q (bN Q Q Q Q g27) (GE hm λg28 hm=>DX [0,1,2,3] Q Q (rW Q Q Q Q g28) ?_));refine DT ?_ (by kernel_rfl);refine SA TK Q (TN (WN [2,6,7,10,11,30,31,32] Q Q (TG (SA TK Q (SA TK Q (SA TK Q (SX Q Q (xZ Q Q Q Q) (SX Q Q (gB [.tmp 67] TK Q Q uD Q Q Q Q Q) (GE hm λg29 hm=>fT (f:=(D.int .u64)) ([(IntKind.u64.wrap ((IntKind.u64.wrap (e19 * (2 ^ (min ((r20 - e18.var) - (1:Int)).toNat IntKind.u64.bits))))+(IntKind.u64.wrap (e24 * (2 ^ (min ((r25 - e18.var) - (1:Int)).toNat IntKind.u64.bits))))))]:List Int) TK Q Q uD Q Q Q Q Q (λh=>absurd h (zQV _)) Q eZ g29 Q Q ?_)))))))));refine SA TK Q (TN (WK (WT (WN [2,6,7,30,31,32] Q Q (TG (GE hm λg30 hm=>SX Q Q (bN Q Q Q Q g30) (SA TK Q ?_)))))));refine TN (WT ?_);exact⟨_,[0,1,2],(SJ hm),Q,k0,Q⟩
  replace hm:=JF h17 hm;refine bO (WX (IE hm λv31 hm hz=>?_));rw [hz16 _ hz] at hm;refine WX (WH (WT ?_));exact⟨_,[0,1,2],(SJ hm),Q,k0,Q⟩
 refine WN [2,6,7] Q Q (aR follows  ?_);iterate 3 (refine DA [0,1,2] TK Q ?_)
 refine VE hm λe32 he32 hm=>DX [0,1,2] Q Q (nO TK Q Q Q Q he32 Q) (DX [0,1,2] Q Q (rY TK Q Q Q Q he32.2 Q) ?_);iterate 3 (refine DA [0,1,2] TK Q ?_)
 refine BE hm λr33 hr33 hm=>DX [0,1,2] Q Q (oC (ds:=[.int .i64 p0.root]) Q Q Q Q ((fO hr33).retD)) (GE hm λg34 hm=>DX [0,1,2] Q Q (rW Q Q Q Q g34) ?_);refine DT ?_ (by kernel_rfl);refine SA TK Q (SA TK Q (TN (WN [4,5] Q Q (TR ?_))));obtain⟨rfl,rfl⟩:=Prod.mk.inj (Option.some.inj hm);exact EndsT.two Q (.d _) (.refl _) (.d _) (.refl _)
theorem tZ {p0:Diagram} {p1:Int} {r0:(List Bool)} {r1:Bool} (hm:mG p0 p1=some (r0,r1)):RetT Try.prog 15 [p0.enc,.int .i64 p1] [.sl 1 (r0.map D.bool),.bool (r1)]:=by
 refine .of (mv:=λ_=>false) (dY qCY Try.func15 Q Try.ntmps15 Q Q (λwX gX=>?_));unfold mG at hm;refine WN [0,1] Q Q (RS (dE 0 Q Q Q (SA TK Q (SA TK Q (TN (WN [1,2] Q Q (TQ ?_)))))));refine aL hm (λx1=>([(30,.d (.bool (x1)))]:Fr)) (λx1=>([]:List (Nat×Blk))) [30] [1,2] Q (λz2 hm=>?_) (λx1 hm=>?_)
 ·refine TG (SA TK Q (SA TK Q (SB TK Q (λq3 hq3=>?_))));cases q3
  ·replace hm:=JF hq3 hm;refine SA TK Q (SA TK Q (SA TK Q (SB TK Q (λq4 hq4=>?_))));cases q4
   ·replace hm:=JF hq4 hm;refine SA TK Q (BE hm λr5 hr5 hm=>SX Q Q (RN Q Q (SC (.d _) SN) (iY hr5)) (SA TK Q (SA TK Q (SB TK Q (λq6 hq6=>?_)))));cases q6
    ·replace hm:=JB hq6 hm;refine SA TK Q (SA TK Q (BE hm λr7 hr7 hm=>SX Q Q (RN Q Q (SC (.d _) (SC (.d _) SN)) (mT hr7)) (SA TK Q (SA TK Q (SB TK Q (λq8 hq8=>?_))))));cases q8
     ·replace hm:=JB hq8 hm;iterate 4 (refine SA TK Q ?_)
      refine TN (WT ?_);exact⟨_,[0],(SJ hm),Q,k0,Q⟩
     replace hm:=JA hq8 hm;iterate 4 (refine SA TK Q ?_)
     refine TN (WT ?_);exact⟨_,[0],(SJ hm),Q,k0,Q⟩
    replace hm:=JA hq6 hm;iterate 10 (refine SA TK Q ?_)
    refine TN (WT ?_);exact⟨_,[0],(SJ hm),Q,k0,Q⟩
   replace hm:=JT hq4 hm;iterate 15 (refine SA TK Q ?_)
   refine TN (WT ?_);exact⟨_,[0],(SJ hm),Q,k0,Q⟩
  replace hm:=JT hq3 hm;iterate 19 (refine SA TK Q ?_)
  refine TN (WT ?_);exact⟨_,[0],(SJ hm),Q,k0,Q⟩
 refine WN [1,2,30] Q Q ?_;refine TC _ Q (λh9=>?_) (λh9=>?_)
 ·replace hm:=JA h9 hm;refine RS (SA TK Q (SA TK Q (TN (c_wk 4 [some 1] Q (WN [4,5] Q Q (TR (WR ?_)))))));obtain⟨rfl,rfl⟩:=Prod.mk.inj (Option.some.inj hm);exact EndsT.two Q (.d _) (.refl _) (.d _) (.refl _)
 replace hm:=JB h9 hm;refine TS (WT (WN [1,2] Q Q (RS (SA TK Q (GE hm λg10 hm=>qDS (f:=D.bool) (x:=false) 1 TK Q Q Q pY Q Q Q Q Q g10 Q (SA TK Q (TN ?_)))))));refine WN [2,6] Q Q (RS (SA TK Q (SA TK Q (SA TK Q (TN (WN [2,6,7] Q Q ?_))))));refine aL hm (λb11=>([(6,.msl 1 1 0 b11.length)]:Fr)) (λb11=>([(1,.flat 4 1 (b11.map D.bool))]:List (Nat×Blk))) [6] [] Q (λz12 hm=>?_) (λb11 hm=>?_)
 ·refine TB (cW hm (λ(at16,b17)=>([(6,.msl 1 1 0 b17.length),(7,.d (.int .i64 at16))]:Fr)) (λ(at16,b17)=>([(1,.flat 4 1 (b17.map D.bool))]:List (Nat×Blk))) [6,7] [2] [0,1] Q k0 Q Q Q Q Q (λs z18 hm hz18=>?_));obtain⟨at16,b17⟩:=s;refine WN [2,6,7] Q Q (TQ (RS (SA TK Q (SA TK Q (TN (WN [2,6,7,36] Q Q ?_))))));refine TC _ Q (λh19=>?_) (λh19=>?_)
  ·replace hm:=JT h19 hm;refine TS (WT (WN [2,6,7] Q Q (TB (RS (SA TK Q (SA TK Q (SA TK Q (GE hm λg20 hm=>SX Q Q (bN Q Q Q Q g20) (VE hm λe21 he21 hm=>?_)))))))));refine SX Q Q (gP TK Q Q Q Q he21) (SA TK Q (cY 2 Q Q aX Q (SA TK Q (TN (WN [2,6,8] Q Q (RS (SA TK Q (SA TK Q (SA TK Q (TN ?_))))))))));refine WN [2,6,8,45] Q Q ?_;refine TC _ Q (λh22=>?_) (λh22=>?_)
   ·replace hm:=iM h22 hm;refine TG (SA TK Q (SA TK Q (SA TK Q (TN (WK (WT ?_))))));exact⟨_,[0,1],(SJ hm),Q,k0,Q⟩
   replace hm:=iN h22 hm;refine RS (SA TK Q (SA TK Q (SA TK Q (VE hm λe23 he23 hm=>SX Q Q (nO TK Q Q Q Q he23 Q) (qDR (x':=true) TK Q Q Q Q Q he23.2 Q Q Q (yP 6 (b17.set e21.var.toNat true).length Q List.length_set.symm (yP 48 (b17.set e21.var.toNat true).length Q List.length_set.symm (TN (WN [2,6,8] Q Q ?_)))))))));refine TG (SA TK Q (SA TK Q (SA TK Q (TN (WK (WT ?_))))));exact⟨_,[0,1],(SJ hm),Q,k0,Q⟩
  replace hm:=JF h19 hm;refine bO (WX (IE hm λv24 hm hz=>?_));rw [hz18 _ hz] at hm;refine WX (WH (WT ?_));exact⟨_,[0,1],(SJ hm),Q,k0,Q⟩
 refine WN [6] Q Q (RS (SA TK Q (SA TK Q (SA TK Q (TN (WN [4,5] Q Q (TR ?_)))))));obtain⟨rfl,rfl⟩:=Prod.mk.inj (Option.some.inj hm);exact EndsT.two Q (iC Q) (.refl _) (.d _) (.refl _)
theorem kT {p0:Diagram} {p1:Diagram} {r:Bool} (hm:cF p0 p1=some r):RetN Try.prog 13 [p0.enc,p1.enc] (.bool (r)):=by
 refine .unit (aP qCZ Try.func13 Q Try.ntmps13 Q Q (λwX gX=>?_)) Q;unfold cF at hm;refine WN [0,1] Q Q (RS (dE 0 Q Q Q (dE 1 Q Q Q (SA TK Q (TN (WN [2,3] Q Q (TQ ?_)))))));refine iA [(19,.d (.bool (((!(decide ((p0.nodes.length:Int)=(p1.nodes.length:Int))))||(!(decide (p0.root=p1.root)))))))] [19] [2,3] Q ?_ ?_
 ·refine TG (SA TK Q (SA TK Q (SX Q Q (cE TK Q Q Q) (SA TK Q (SA TK Q (SX Q Q (cE TK Q Q Q) (SA TK Q (SB TK Q (λq1 hq1=>?_)))))))));cases q1
  ·iterate 6 (refine SA TK Q ?_)
   refine TN (WT ?_);exact⟨[0,1],Q,k0,cM (bE (bG (by simp [hq1])) Q) Q⟩
  iterate 6 (refine SA TK Q ?_)
  refine TN (WT ?_);exact⟨[0,1],Q,k0,cM (bE (bG (by simp [hq1])) Q) Q⟩
 refine WN [2,3,19] Q Q ?_;refine TC _ Q (λh2=>?_) (λh2=>?_)
 ·replace hm:=JA h2 hm;refine RS (SA TK Q (TN (WN [4] Q Q (TR (WR ?_)))));obtain rfl:=OJ hm;exact EndsS.one _ Q (.d _) (.refl _)
 replace hm:=JB h2 hm;refine TS (WT (WN [2,3] Q Q ?_));refine dA hm (λ_=>([]:Fr)) (λ_=>([]:List (Nat×Blk))) [] [] Q (λz3 hm hz3=>?_) (λj hm=>?_)
 ·refine RS (SA TK Q (SA TK Q (SX Q Q (cE TK Q Q Q) (SA TK Q (TN (WN [2,3,22,23] Q Q (TB (cW hm (λx5=>([(23,.d (.int .i64 x5))]:Fr)) (λx5=>([]:List (Nat×Blk))) [23] [2,3,22] [0,1] Q k0 Q Q Q Q Q (λx5 z6 hm hz6=>WN [2,3,22,23] Q Q ?_)))))))));refine RS (SA TK Q (TN (WN [2,3,22,23,24] Q Q (TQ ?_))));refine TC _ Q (λh7=>?_) (λh7=>?_)
  ·replace hm:=JT h7 hm;refine TS (WT (WN [2,3,22,23] Q Q (TQ (TB (RS (SA TK Q (SA TK Q (TN (WN [2,3,5,22,23] Q Q ?_)))))))));refine aR follows  ?_;iterate 3 (refine DA [0,1] TK Q ?_)
   refine VE hm λe8 he8 hm=>DX [0,1] Q Q (gP TK Q Q Q Q he8) ?_;iterate 4 (refine DA [0,1] TK Q ?_)
   refine VE hm λe9 he9 hm=>DX [0,1] Q Q (gP TK Q Q Q Q he9) (DA [0,1] TK Q (GE hm λg10 hm=>DX [0,1] Q Q (qDO Q Q Q g10.1 g10.2) ?_));refine DT ?_ (by kernel_rfl);refine TN (WN [2,3,22,23,36] Q Q ?_);refine TC _ Q (λh12=>?_) (λh12=>?_)
   ·replace hm:=iM h12 hm;refine RS (SA TK Q (TN (WN [4] Q Q (TR (WB (WR (IE hm λv13 hm hz=>?_)))))));rw [hz6 _ hz] at hm;refine WR (WB (IE hm λv14 hm hz=>?_));rw [hz3 _ hz] at hm;refine WR ?_;obtain rfl:=OJ hm;exact EndsS.one _ Q (.d _) (.refl _)
   replace hm:=iN h12 hm;refine TS (WK (WT (WN [2,3,22,23] Q Q (TG (GE hm λg15 hm=>SX Q Q (bN Q Q Q Q g15) (SA TK Q (TN ?_)))))));refine WT ?_;exact⟨_,[0,1],(SJ hm),Q,k0,Q⟩
  replace hm:=JF h7 hm;refine bO (WX (IE hm λv16 hm hz=>?_));rw [hz6 _ hz] at hm;refine WX (WH (WT ?_));exact⟨_,[0,1],(SJ hm),Q,k0,Q⟩
 refine WN [] Q Q (RS (SA TK Q (TN (WN [4] Q Q (TR ?_)))));obtain rfl:=OJ hm;exact EndsS.one _ Q (.d _) (.refl _)
theorem jY  {r:Bool} (hm:eO=some r):RetN Try.prog 10 [] (.bool (r)):=by
 refine .unit (aP qDC Try.func10 Q Try.ntmps10 Q Q (λwX gX=>?_)) Q;unfold eO at hm;refine WN [] Q Q (RS (SA TK Q (TN (WN [] Q Q (RS (BE hm λr1 hr1 hm=>SX Q Q (RD Q Q Q (oM hr1)) (BE hm λr2 hr2 hm=>?_)))))));refine SX Q Q (RD Q Q Q (oM hr2)) (SX Q Q (x_litE (f:=Expr.encR) (xs:=([r1,r2]:List Expr)) [.tmp 8,.tmp 9] TK Q Q nN Q (evD_of Q (qL (Expr.encR_eq _) (qL (Expr.encR_eq _) qAC))) Q (xM Expr.encR_cells) Q) (SX Q Q (bF Q qDT nN Q Q Q Q) (BE hm λr3 hr3 hm=>?_)));obtain⟨r4,r5⟩:=r3;refine SX Q Q (dM Q Q Q (tY hr3)) (SA TK Q (SA TK Q (SA TK Q (cY 0 Q Q bA Q (fA 0 [some 3,none] Q Q (SA TK Q (SA TK Q (TN (WN [1,2] Q Q (RS (SA TK Q ?_)))))))))));refine BE hm λr6 hr6 hm=>?_;obtain⟨r7,r8⟩:=r6;refine SX Q Q (dM Q Q Q (uA hr6)) ?_;iterate 5 (refine SA TK Q ?_)
 refine TN (WN [1,2,3,4] Q Q (RS (SA TK Q (BE hm λr9 hr9 hm=>?_))));obtain⟨r10,r11⟩:=r9;refine SX Q Q (dM Q Q Q (tZ hr9)) ?_;iterate 5 (refine SA TK Q ?_)
 refine TN (WN [1,2,3,4,5,6] Q Q ?_);refine aL hm (λx12=>([(0,.d (.bool (x12)))]:Fr)) (λx12=>([]:List (Nat×Blk))) [0] [] Q (λz13 hm=>?_) (λx12 hm=>?_)
 ·refine TG (SA TK Q (SA TK Q (SB TK Q (λq14 hq14=>?_))));cases q14
  ·replace hm:=JF hq14 hm;iterate 38 (refine SA TK Q ?_)
   refine TN (WT ?_);exact⟨_,[0],(SJ hm),Q,k0,Q⟩
  replace hm:=JT hq14 hm;refine SA TK Q (SA TK Q (SA TK Q (SB TK Q (λq15 hq15=>?_))));cases q15
  ·replace hm:=JF hq15 hm;iterate 34 (refine SA TK Q ?_)
   refine TN (WT ?_);exact⟨_,[0],(SJ hm),Q,k0,Q⟩
  replace hm:=JT hq15 hm;refine SA TK Q (SA TK Q (SA TK Q (SB TK Q (λq16 hq16=>?_))));cases q16
  ·replace hm:=JF hq16 hm;iterate 30 (refine SA TK Q ?_)
   refine TN (WT ?_);exact⟨_,[0],(SJ hm),Q,k0,Q⟩
  replace hm:=JT hq16 hm;refine SA TK Q (SA TK Q (SB TK Q (λq17 hq17=>?_)));cases q17
  ·replace hm:=JB hq17 hm;iterate 27 (refine SA TK Q ?_)
   refine TN (WT ?_);exact⟨_,[0],(SJ hm),Q,k0,Q⟩
  replace hm:=JA hq17 hm;refine SA TK Q (SX Q Q (cE TK Q Q Q) (SA TK Q (SA TK Q (SB TK Q (λq18 hq18=>?_)))));cases q18
  ·replace hm:=JF hq18 hm;iterate 22 (refine SA TK Q ?_)
   refine TN (WT ?_);exact⟨_,[0],(SJ hm),Q,k0,Q⟩
  replace hm:=JT hq18 hm;refine SA TK Q (VE hm λe19 he19 hm=>SX Q Q (gP TK Q Q Q Q he19) (SA TK Q (SA TK Q (SB TK Q (λq20 hq20=>?_)))));cases q20
  ·replace hm:=JB hq20 hm;iterate 17 (refine SA TK Q ?_)
   refine TN (WT ?_);exact⟨_,[0],(SJ hm),Q,k0,Q⟩
  replace hm:=JA hq20 hm;refine SA TK Q (VE hm λe21 he21 hm=>SX Q Q (gP TK Q Q Q Q he21) (SA TK Q (SA TK Q (SB TK Q (λq22 hq22=>?_)))));cases q22
  ·replace hm:=JB hq22 hm;iterate 12 (refine SA TK Q ?_)
   refine TN (WT ?_);exact⟨_,[0],(SJ hm),Q,k0,Q⟩
  replace hm:=JA hq22 hm;refine SA TK Q (SX Q Q (bF Q qD aX Q Q Q Q) (SX Q Q (bF Q qD aX Q Q Q Q) (SX Q Q (gB [.tmp 55,.tmp 56] TK Q Q aX Q Q Q Q Q) (SX Q Q (bF Q eT bA Q Q Q Q) (BE hm λr23 hr23 hm=>SX Q Q (RN Q Q (SC (.d _) (SC (.d _) SN)) (kT hr23)) (SA TK Q (SB TK Q (λq24 hq24=>?_))))))));cases q24
  ·replace hm:=JB hq24 hm;iterate 4 (refine SA TK Q ?_)
   refine TN (WT ?_);exact⟨_,[0],(SJ hm),Q,k0,Q⟩
  replace hm:=JA hq24 hm;refine SA TK Q (BE hm λr25 hr25 hm=>SX Q Q (RN Q Q (SC (.d _) SN) (iY hr25)) (SA TK Q (SA TK Q (TN (WT ?_)))));exact⟨_,[0],(SJ hm),Q,k0,Q⟩
 refine WN [0] Q Q (TR ?_);obtain rfl:=OJ hm;exact EndsS.one _ Q (.d _) (.refl _)
theorem nY:∀ (fu:Nat) {p0:Expr} {r:Int} (hm:cB fu p0=some r),RetN Try.prog 46 [p0.enc] (.int .i64 r):=by
 intro fu
 induction fu with
 | zero=>
  intro p0 r hm;unfold cB at hm;cases hm
 | succ fu ih=>
  intro p0 r hm;refine .unit (aP qCJ Try.func46 Q Try.ntmps46 Q Q (λwX gX=>?_)) Q;unfold cB at hm;refine WN [0] Q Q (RS (dE 0 Q Q Q (SA TK Q (TN (WN [1] Q Q (RS (SA TK Q (TN ?_))))))));refine WN [1,3] Q Q ?_;refine aL hm (λd1=>([(3,.d (.int .i64 d1))]:Fr)) (λd1=>([]:List (Nat×Blk))) [3] [] Q (λz2 hm=>?_) (λd1 hm=>?_)
  ·refine RS (SA TK Q (TN (WN [1,3,4] Q Q (TB (cW hm (λ(d5,i6)=>([(3,.d (.int .i64 d5)),(4,.d (.int .i64 i6))]:Fr)) (λ(d5,i6)=>([]:List (Nat×Blk))) [3,4] [1] [0] Q k0 Q Q Q Q Q (λs z7 hm hz7=>?_))))));obtain⟨d5,i6⟩:=s;refine WN [1,3,4] Q Q (TQ (RS (SA TK Q (SA TK Q (SA TK Q (SX Q Q (cE TK Q Q Q) (SA TK Q (TN (WN [1,3,4,9] Q Q ?_)))))))));refine TC _ Q (λh8=>?_) (λh8=>?_)
   ·replace hm:=JT h8 hm;refine TS (WT (WN [1,3,4] Q Q (TQ (TB (TG ?_)))));iterate 4 (refine SA TK Q ?_)
    refine VE hm λe9 he9 hm=>SX Q Q (mJ TK Q Q Q Q he9 (Expr.encR_eq _)) (SA TK Q (BE hm λr10 hr10 hm=>SX Q Q (RN Q Q (SC (.d _) SN) (ih hr10)) (SX Q Q (rd_max Q Q Q Q) (SA TK Q (TN (WK ?_))))));refine WT (WN [1,3,4] Q Q (TG (SA TK Q (GE hm λg11 hm=>SX Q Q (bN Q Q Q Q g11) (SA TK Q (TN (WT ?_)))))));exact⟨_,[0],(SJ hm),Q,k0,Q⟩
   replace hm:=JF h8 hm;refine bO (WX (IE hm λv12 hm hz=>?_));rw [hz7 _ hz] at hm;refine WX (WH (WT ?_));exact⟨_,[0],(SJ hm),Q,k0,Q⟩
  refine WN [3] Q Q (RS (SA TK Q (GE hm λg13 hm=>SX Q Q (bN Q Q Q Q g13) (SA TK Q (TN (WN [2] Q Q (TR ?_)))))));obtain rfl:=OJ hm;exact EndsS.one _ Q (.d _) (.refl _)
theorem pP {p0:Expr} {r:Int} (hm:fV p0=some r):RetN Try.prog 46 [p0.enc] (.int .i64 r):=nY aG hm
theorem pL:∀ (fu:Nat) {p0:Expr} {p1:Int} {r:Bool} (hm:cA fu p0 p1=some r),RetN Try.prog 47 [p0.enc,.int .i64 p1] (.bool (r)):=by
 intro fu
 induction fu with
 | zero=>
  intro p0 p1 r hm;unfold cA at hm;cases hm
 | succ fu ih=>
  intro p0 p1 r hm;refine .unit (aP qCI Try.func47 Q Try.ntmps47 Q Q (λwX gX=>?_)) Q;unfold cA at hm;refine WN [0,1] Q Q (RS (dE 0 Q Q Q (SA TK Q (TN (WN [1,2] Q Q (RS (SA TK Q (SA TK Q (SX Q Q (cE TK Q Q Q) ?_)))))))));refine SA TK Q (TN (WN [1,2,5] Q Q ?_));refine dA hm (λ_=>([]:Fr)) (λ_=>([]:List (Nat×Blk))) [] [1,2,5] Q (λz1 hm hz1=>?_) (λj hm=>?_)
  ·refine RS (SA TK Q (SA TK Q (TN (WN [1,2,5,11] Q Q (TB ?_)))));refine aL hm (λx2=>([(12,.d (.bool (x2)))]:Fr)) (λx2=>([]:List (Nat×Blk))) [12] [1,2,5,11] Q (λz3 hm=>?_) (λx2 hm=>?_)
   ·refine RS (SA TK Q (SA TK Q (TN (WN [1,2,5,11,12] Q Q ?_))));refine TC _ Q (λh4=>?_) (λh4=>?_)
    ·replace hm:=JT h4 hm;refine TS (WT ?_);exact⟨_,[0],(SJ hm),Q,k0,Q⟩
    replace hm:=JF h4 hm;refine TG (SA TK Q (SA TK Q (TN (WT ?_))));exact⟨_,[0],(SJ hm),Q,k0,Q⟩
   refine WN [1,2,5,11,12] Q Q ?_;refine TC _ Q (λh5=>?_) (λh5=>?_)
   ·replace hm:=JA h5 hm;refine iA [(4,.d (.bool (((decide (p0.var=(0:Int)))&&(decide ((p0.args.length:Int)=(0:Int)))))))] [4] [] Q ?_ ?_
    ·refine TG (SA TK Q (SA TK Q (SA TK Q (SB TK Q (λq6 hq6=>?_)))));cases q6
     ·iterate 4 (refine SA TK Q ?_)
      refine TN (WT ?_);exact⟨[0],Q,k0,cM (bE (bG (by simp [hq6])) Q) Q⟩
     iterate 4 (refine SA TK Q ?_)
     refine TN (WT ?_);exact⟨[0],Q,k0,cM (bE (bG (by simp [hq6])) Q) Q⟩
    refine WN [4] Q Q (TR (WB (IE hm λv7 hm hz=>?_)));rw [hz1 _ hz] at hm;refine WR ?_;obtain rfl:=OJ hm;exact EndsS.one _ Q (.d _) (.refl _)
   replace hm:=JB h5 hm;refine RS (SA TK Q (SA TK Q (TN (WN [1,2,5,11,22] Q Q ?_))));refine TC _ Q (λh8=>?_) (λh8=>?_)
   ·replace hm:=JT h8 hm;refine iA [(4,.d (.bool (((decide ((0:Int)≤p0.var))&&((decide (p0.var < p1))&&(decide ((p0.args.length:Int)=(0:Int))))))))] [4] [] Q ?_ ?_
    ·refine TG (SA TK Q (SA TK Q (SA TK Q (SB TK Q (λq9 hq9=>?_)))));cases q9
     ·iterate 10 (refine SA TK Q ?_)
      refine TN (WT ?_);exact⟨[0],Q,k0,cM (bE (bG (by simp [hq9])) Q) Q⟩
     iterate 5 (refine SA TK Q ?_)
     refine SB TK Q (λq10 hq10=>?_);cases q10
     ·iterate 4 (refine SA TK Q ?_)
      refine TN (WT ?_);exact⟨[0],Q,k0,cM (bE (bG (by simp [hq9,hq10])) Q) Q⟩
     iterate 4 (refine SA TK Q ?_)
     refine TN (WT ?_);exact⟨[0],Q,k0,cM (bE (bG (by simp [hq9,hq10])) Q) Q⟩
    refine WN [4] Q Q (TR (WB (IE hm λv11 hm hz=>?_)));rw [hz1 _ hz] at hm;refine WR ?_;obtain rfl:=OJ hm;exact EndsS.one _ Q (.d _) (.refl _)
   replace hm:=JF h8 hm;refine RS (SA TK Q (SA TK Q (TN (WN [1,2,5,11,37] Q Q ?_))));refine TC _ Q (λh12=>?_) (λh12=>?_)
   ·replace hm:=JT h12 hm;refine RS (SA TK Q (SA TK Q (TN (WN [1,2,5,40] Q Q ?_))));refine TC _ Q (λh13=>?_) (λh13=>?_)
    ·replace hm:=iM h13 hm;refine RS (SA TK Q (TN (WN [4] Q Q (TR (WB (IE hm λv14 hm hz=>?_))))));rw [hz1 _ hz] at hm;refine WR ?_;obtain rfl:=OJ hm;exact EndsS.one _ Q (.d _) (.refl _)
    replace hm:=iN h13 hm;refine TS (WK (WT ?_));exact⟨_,[0],(SJ hm),Q,k0,Q⟩
   replace hm:=JF h12 hm;refine TQ (RS (SA TK Q (SA TK Q (TN (WN [1,2,5,11,41] Q Q ?_)))));refine TC _ Q (λh15=>?_) (λh15=>?_)
   ·replace hm:=JT h15 hm;refine TS (WT (WN [1,2,5,41] Q Q (vV Q true h15 (TS (WK (WT ?_))))));exact⟨_,[0],(SJ hm),Q,k0,Q⟩
   replace hm:=JF h15 hm;refine TG (SA TK Q (SA TK Q (TN (WT (WN [1,2,5,41] Q Q ?_)))));refine TC _ Q (λh16=>?_) (λh16=>?_)
   ·replace hm:=JT h16 hm;refine TS (WK (WT ?_));exact⟨_,[0],(SJ hm),Q,k0,Q⟩
   replace hm:=JF h16 hm;refine RS (SA TK Q (TN (WN [4] Q Q (TR (WB (IE hm λv17 hm hz=>?_))))));rw [hz1 _ hz] at hm;refine WR ?_;obtain rfl:=OJ hm;exact EndsS.one _ Q (.d _) (.refl _)
  refine WN [1,2,5] Q Q ?_;refine dA hm (λ_=>([]:Fr)) (λ_=>([]:List (Nat×Blk))) [] [2] Q (λz18 hm hz18=>?_) (λj hm=>?_)
  ·refine RS (SA TK Q (TN (WN [1,2,5,6] Q Q (TB (cW hm (λi20=>([(6,.d (.int .i64 i20))]:Fr)) (λi20=>([]:List (Nat×Blk))) [6] [1,2,5] [0] Q k0 Q Q Q Q Q (λi20 z21 hm hz21=>WN [1,2,5,6] Q Q (TQ (RS ?_))))))));refine SA TK Q (SA TK Q (SA TK Q (TN (WN [1,2,5,6,46] Q Q ?_))));refine TC _ Q (λh22=>?_) (λh22=>?_)
   ·replace hm:=JT h22 hm;refine TS (WT (WN [1,2,5,6] Q Q (TQ (TB (RS (SA TK Q (SA TK Q (SA TK Q (VE hm λe23 he23 hm=>SX Q Q (mJ TK Q Q Q Q he23 (Expr.encR_eq _)) ?_)))))))));refine SA TK Q (SA TK Q (BE hm λr24 hr24 hm=>SX Q Q (RN Q Q (SC (.d _) (SC (.d _) SN)) (ih hr24)) (SA TK Q (TN (WN [1,2,5,6,56] Q Q ?_)))));refine TC _ Q (λh25=>?_) (λh25=>?_)
    ·replace hm:=JA h25 hm;refine RS (SA TK Q (TN (WN [4] Q Q (TR (WB (WR (IE hm λv26 hm hz=>?_)))))));rw [hz21 _ hz] at hm;refine WR (WB (IE hm λv27 hm hz=>?_));rw [hz18 _ hz] at hm;refine WR ?_;obtain rfl:=OJ hm;exact EndsS.one _ Q (.d _) (.refl _)
    replace hm:=JB h25 hm;refine TS (WK (WT (WN [1,2,5,6] Q Q (TG (SA TK Q (GE hm λg28 hm=>SX Q Q (bN Q Q Q Q g28) (SA TK Q ?_)))))));refine TN (WT ?_);exact⟨_,[0],(SJ hm),Q,k0,Q⟩
   replace hm:=JF h22 hm;refine bO (WX (IE hm λv29 hm hz=>?_));rw [hz21 _ hz] at hm;refine WX (WH (WT ?_));exact⟨_,[0],(SJ hm),Q,k0,Q⟩
  refine WN [2] Q Q (RS ?_);iterate 4 (refine SA TK Q ?_)
  refine TN (WN [4] Q Q (TR ?_));obtain rfl:=OJ hm;exact EndsS.one _ Q (.d _) (.refl _)
theorem qY {p0:Expr} {p1:Int} {r:Bool} (hm:gR p0 p1=some r):RetN Try.prog 47 [p0.enc,.int .i64 p1] (.bool (r)):=pL aG hm
theorem pM {p0:Expr} {p1:Int} {r:Bool} (hm:eK p0 p1=some r):RetN Try.prog 23 [p0.enc,.int .i64 p1] (.bool (r)):=by
 refine .unit (aP qCV Try.func23 Q Try.ntmps23 Q Q (λwX gX=>?_)) Q;unfold eK at hm;refine WN [0,1] Q Q (RS (dE 0 Q Q Q (SA TK Q (TN (WN [1,2] Q Q ?_)))));refine aL hm (λx1=>([(4,.d (.bool (x1)))]:Fr)) (λx1=>([]:List (Nat×Blk))) [4] [] Q (λz2 hm=>?_) (λx1 hm=>?_)
 ·refine TG (SA TK Q (BE hm λr3 hr3 hm=>SX Q Q (RN Q Q (SC (.d _) SN) (kU hr3)) (SA TK Q (SB TK Q (λq4 hq4=>?_)))));cases q4
  ·replace hm:=JF hq4 hm;iterate 10 (refine SA TK Q ?_)
   refine TN (WT ?_);exact⟨_,[0],(SJ hm),Q,k0,Q⟩
  replace hm:=JT hq4 hm;refine SA TK Q (BE hm λr5 hr5 hm=>SX Q Q (RN Q Q (SC (.d _) SN) (pP hr5)) (SA TK Q (SA TK Q (SB TK Q (λq6 hq6=>?_)))));cases q6
  ·replace hm:=JF hq6 hm;iterate 5 (refine SA TK Q ?_)
   refine TN (WT ?_);exact⟨_,[0],(SJ hm),Q,k0,Q⟩
  replace hm:=JT hq6 hm;refine SA TK Q (SA TK Q (BE hm λr7 hr7 hm=>SX Q Q (RN Q Q (SC (.d _) (SC (.d _) SN)) (qY hr7)) (SA TK Q (SA TK Q (TN (WT ?_))))));exact⟨_,[0],(SJ hm),Q,k0,Q⟩
 refine WN [4] Q Q (TR ?_);obtain rfl:=OJ hm;exact EndsS.one _ Q (.d _) (.refl _)
theorem pK {p0:Int} {r:(List (List Bool))} (hm:eJ p0=some r):RetD Try.prog 35 [.int .i64 p0] (.sl 1 (r.map (λ(l:List Bool)=>D.sl 1 (l.map D.bool)))):=by
 refine .of (mv:=λ_=>false) (aP qCP Try.func35 Q Try.ntmps35 Q Q (λwX gX=>?_));unfold eJ at hm;refine WN [0] Q Q (RS (SA TK Q (TN (WN [0] Q Q (RS (uM (f:=(λ(l:List Bool)=>D.sl 1 (l.map D.bool))) 0 36 1 Q Q Q (TN (WN [0,3] Q Q ?_))))))));refine aL hm (λb1=>([(3,.msl 0 1 0 b1.length)]:Fr)) (λb1=>([(0,.flat 36 1 (b1.map (λ(l:List Bool)=>D.sl 1 (l.map D.bool))))]:List (Nat×Blk))) [3] [] Q (λz2 hm=>?_) (λb1 hm=>?_)
 ·refine RS (SA TK Q (TN (WN [0,3,4] Q Q (TB (cW hm (λ(k6,b7)=>([(3,.msl 0 1 0 b7.length),(4,.d (.int .i64 k6))]:Fr)) (λ(k6,b7)=>([(0,.flat 36 1 (b7.map (λ(l:List Bool)=>D.sl 1 (l.map D.bool))))]:List (Nat×Blk))) [3,4] [0] [0] Q k0 Q Q Q Q Q (λs z8 hm hz8=>?_))))));obtain⟨k6,b7⟩:=s;refine WN [0,3,4] Q Q (TQ (RS (SA TK Q (SA TK Q (GE hm λg9 hm=>SX Q Q (rW Q Q Q Q g9) (SA TK Q (TN (WN [0,3,4,10] Q Q ?_))))))));refine TC _ Q (λh10=>?_) (λh10=>?_)
  ·replace hm:=JT h10 hm;refine TS (WT (WN [0,3,4] Q Q ?_));refine aL hm (λb11=>([(3,.msl 0 1 0 b11.length)]:Fr)) (λb11=>([(0,.flat 36 1 (b11.map (λ(l:List Bool)=>D.sl 1 (l.map D.bool))))]:List (Nat×Blk))) [3] [0,4] Q (λz12 hm=>?_) (λb11 hm=>?_)
   ·refine TB (RS (uM (f:=D.bool) 1 4 1 Q Q Q (TN (WN [0,3,4,5] Q Q ?_))));refine aL hm (λb13=>([(5,.msl 1 1 0 b13.length)]:Fr)) (λb13=>([(1,.flat 4 1 (b13.map D.bool))]:List (Nat×Blk))) [5] [0,3,4] Q (λz14 hm=>?_) (λb13 hm=>?_)
    ·refine RS (SA TK Q (GE hm λg15 hm=>SX Q Q (bN Q Q Q Q g15) (SA TK Q (TN (WN [0,3,4,5,6] Q Q (TB (cW hm (λ(i19,b20)=>([(5,.msl 1 1 0 b20.length),(6,.d (.int .i64 i19))]:Fr)) (λ(i19,b20)=>([(1,.flat 4 1 (b20.map D.bool))]:List (Nat×Blk))) [5,6] [0,3,4] [0,1] Q k0 Q Q Q Q Q (λs z21 hm hz21=>?_))))))));obtain⟨i19,b20⟩:=s;refine WN [0,3,4,5,6] Q Q (TQ (RS (SA TK Q (SA TK Q (TN (WN [0,3,4,5,6,16] Q Q ?_))))));refine TC _ Q (λh22=>?_) (λh22=>?_)
     ·replace hm:=JT h22 hm;refine TS (WT (WN [0,3,4,5,6] Q Q (TQ (TB (TG (SA TK Q (SA TK Q (SA TK Q (GE hm λg23 hm=>SX Q Q (rW Q Q Q Q g23) ?_)))))))));refine SX Q Q (xZ Q Q Q Q) (SA TK Q (SX Q Q (gB [.tmp 24] TK Q Q pY Q Q Q Q Q) (GE hm λg24 hm=>fT (f:=D.bool) ([decide ((IntKind.i64.wrap (BitVec.ofInt IntKind.i64.bits (k6.fdiv (2 ^ (min i19.toNat IntKind.i64.bits))) &&& BitVec.ofInt IntKind.i64.bits (1:Int)).toNat)=(1:Int))]:List Bool) TK Q Q pY Q Q Q Q Q (λh=>absurd h (zQV _)) Q eZ g24 Q Q (SA TK Q (TN (WK (WT ?_)))))));refine WN [0,3,4,5,6] Q Q (TG (SA TK Q (GE hm λg25 hm=>SX Q Q (bN Q Q Q Q g25) (SA TK Q (TN (WT ?_))))));exact⟨_,[0,1],(SJ hm),Q,k0,Q⟩
     replace hm:=JF h22 hm;refine bO (WX (IE hm λv26 hm hz=>?_));rw [hz21 _ hz] at hm;refine WX (WH (WT ?_));exact⟨_,[0,1],(SJ hm),Q,k0,Q⟩
    refine WN [0,3,4,5] Q Q ?_;refine qAK 5 1 [0,3,4] Q Q Q Q Q (by simp) Q Q ?_;refine TG (SA TK Q (SA TK Q (SX Q Q (gB [.tmp 28] TK Q Q uE Q Q Q Q Q) (GE hm λg27 hm=>fT (f:=(λ(l:List Bool)=>D.sl 1 (l.map D.bool))) ([b13]:List (List Bool)) TK Q Q uE Q Q Q Q Q (λh=>absurd h (zQV _)) Q eZ g27 Q Q (SA TK Q (TN (WK (WT ?_))))))));exact⟨_,[0],(SJ hm),Q,k0,Q⟩
   refine WN [0,3,4] Q Q (TG (SA TK Q (GE hm λg28 hm=>SX Q Q (bN Q Q Q Q g28) (SA TK Q (TN (WT ?_))))));exact⟨_,[0],(SJ hm),Q,k0,Q⟩
  replace hm:=JF h10 hm;refine bO (WX (IE hm λv29 hm hz=>?_));rw [hz8 _ hz] at hm;refine WX (WH (WT ?_));exact⟨_,[0],(SJ hm),Q,k0,Q⟩
 refine WN [3] Q Q (RS (SA TK Q (SA TK Q (TN (WN [2] Q Q (TR ?_))))));obtain rfl:=OJ hm;exact EndsS.one _ Q (iC Q) (.refl _)
theorem pO:∀ (fu:Nat) {p0:Expr} {p1:(List Bool)} {r:Bool} (hm:bQ fu p0 p1=some r),RetN Try.prog 24 [p0.enc,.sl 1 (p1.map D.bool)] (.bool (r)):=by
 intro fu
 induction fu with
 | zero=>
  intro p0 p1 r hm;unfold bQ at hm;cases hm
 | succ fu ih=>
  intro p0 p1 r hm;refine .unit (aP qCU Try.func24 Q Try.ntmps24 Q Q (λwX gX=>?_)) Q;unfold bQ at hm;refine WN [0,1] Q Q (RS (dE 0 Q Q Q (SA TK Q (TN (WN [1,2] Q Q ?_)))));refine dA hm (λ_=>([]:Fr)) (λ_=>([]:List (Nat×Blk))) [] [] Q (λz1 hm hz1=>?_) (λj hm=>?_)
  ·refine RS (SA TK Q (SA TK Q (TN (WN [1,2,7] Q Q (TB (RS (SA TK Q (SA TK Q (TN (WN [1,2,7,8] Q Q ?_))))))))));refine TC _ Q (λh2=>?_) (λh2=>?_)
   ·replace hm:=JT h2 hm;refine RS (SA TK Q (TN (WN [4] Q Q (TR (WB (IE hm λv3 hm hz=>?_))))));rw [hz1 _ hz] at hm;refine WR ?_;obtain rfl:=OJ hm;exact EndsS.one _ Q (.d _) (.refl _)
   replace hm:=JF h2 hm;refine RS (SA TK Q (SA TK Q (TN (WN [1,2,7,10] Q Q ?_))));refine TC _ Q (λh4=>?_) (λh4=>?_)
   ·replace hm:=JT h4 hm;refine aL hm (λx5=>([(4,.d (.bool (x5)))]:Fr)) (λx5=>([]:List (Nat×Blk))) [4] [] Q (λz6 hm=>?_) (λx5 hm=>?_)
    ·refine TG (SA TK Q (SA TK Q (SA TK Q (SB TK Q (λq7 hq7=>?_)))));cases q7
     ·replace hm:=JF hq7 hm;iterate 14 (refine SA TK Q ?_)
      refine TN (WT ?_);exact⟨_,[0],(SJ hm),Q,k0,Q⟩
     replace hm:=JT hq7 hm;refine SA TK Q (SA TK Q (SA TK Q (SX Q Q (cE TK Q Q Q) (SA TK Q (SA TK Q (SB TK Q (λq8 hq8=>?_)))))));cases q8
     ·replace hm:=JF hq8 hm;iterate 7 (refine SA TK Q ?_)
      refine TN (WT ?_);exact⟨_,[0],(SJ hm),Q,k0,Q⟩
     replace hm:=JT hq8 hm;refine SA TK Q (SA TK Q (SA TK Q (VE hm λe9 he9 hm=>SX Q Q (gP TK Q Q Q Q he9) (SA TK Q (SA TK Q (SA TK Q (TN (WT ?_))))))));exact⟨_,[0],(SJ hm),Q,k0,Q⟩
    refine WN [4] Q Q (TR (WB (IE hm λv10 hm hz=>?_)));rw [hz1 _ hz] at hm;refine WR ?_;obtain rfl:=OJ hm;exact EndsS.one _ Q (.d _) (.refl _)
   replace hm:=JF h4 hm;refine RS (SA TK Q (SA TK Q (TN (WN [1,2,7,29] Q Q ?_))));refine TC _ Q (λh11=>?_) (λh11=>?_)
   ·replace hm:=JT h11 hm;refine aL hm (λx12=>([(4,.d (.bool (x12)))]:Fr)) (λx12=>([]:List (Nat×Blk))) [4] [] Q (λz13 hm=>?_) (λx12 hm=>?_)
    ·refine TG (SA TK Q (SA TK Q (SX Q Q (cE TK Q Q Q) (SA TK Q (SB TK Q (λq14 hq14=>?_))))));cases q14
     ·replace hm:=JF hq14 hm;iterate 9 (refine SA TK Q ?_)
      refine TN (WT ?_);exact⟨_,[0],(SJ hm),Q,k0,Q⟩
     replace hm:=JT hq14 hm;refine SA TK Q (SA TK Q (VE hm λe15 he15 hm=>SX Q Q (mJ TK Q Q Q Q he15 (Expr.encR_eq _)) (SA TK Q (SA TK Q (BE hm λr16 hr16 hm=>SX Q Q (RN Q Q (SC (.d _) (SC (.d _) SN)) (ih hr16)) (SA TK Q (SA TK Q (SA TK Q (TN (WT ?_))))))))));exact⟨_,[0],(SJ hm),Q,k0,Q⟩
    refine WN [4] Q Q (TR (WB (IE hm λv17 hm hz=>?_)));rw [hz1 _ hz] at hm;refine WR ?_;obtain rfl:=OJ hm;exact EndsS.one _ Q (.d _) (.refl _)
   replace hm:=JF h11 hm;refine aL hm (λx18=>([(44,.d (.bool (x18)))]:Fr)) (λx18=>([]:List (Nat×Blk))) [44] [1,2] Q (λz19 hm=>?_) (λx18 hm=>?_)
   ·refine RS (SA TK Q (SA TK Q (TN (WN [1,2,7,44] Q Q ?_))));refine TC _ Q (λh20=>?_) (λh20=>?_)
    ·replace hm:=JT h20 hm;refine TS (WT ?_);exact⟨_,[0],(SJ hm),Q,k0,Q⟩
    replace hm:=JF h20 hm;refine TG (SA TK Q (SA TK Q (TN (WT ?_))));exact⟨_,[0],(SJ hm),Q,k0,Q⟩
   refine WN [1,2,44] Q Q ?_;refine TC _ Q (λh21=>?_) (λh21=>?_)
   ·replace hm:=JA h21 hm;refine dA hm (λ_=>([]:Fr)) (λ_=>([]:List (Nat×Blk))) [] [2] Q (λz22 hm hz22=>?_) (λj hm=>?_)
    ·refine RS (SA TK Q (TN (WN [1,2,5] Q Q (TB (cW hm (λi24=>([(5,.d (.int .i64 i24))]:Fr)) (λi24=>([]:List (Nat×Blk))) [5] [1,2] [0] Q k0 Q Q Q Q Q (λi24 z25 hm hz25=>WN [1,2,5] Q Q (TQ (RS ?_))))))));refine SA TK Q (SA TK Q (SA TK Q (SX Q Q (cE TK Q Q Q) (SA TK Q (TN (WN [1,2,5,51] Q Q ?_))))));refine TC _ Q (λh26=>?_) (λh26=>?_)
     ·replace hm:=JT h26 hm;refine TS (WT (WN [1,2,5] Q Q (TQ (TB (aR follows  ?_)))));iterate 3 (refine DA [0] TK Q ?_)
      refine VE hm λe27 he27 hm=>DX [0] Q Q (mJ TK Q Q Q Q he27 (Expr.encR_eq _)) ?_;iterate 2 (refine DA [0] TK Q ?_)
      refine BE hm λr28 hr28 hm=>DX [0] Q Q (RN Q Q (SC (.d _) (SC (.d _) SN)) (ih hr28)) ?_;iterate 4 (refine DA [0] TK Q ?_)
      refine DT ?_ (by kernel_rfl);refine TN (WN [1,2,5,64] Q Q ?_);refine TC _ Q (λh29=>?_) (λh29=>?_)
      ·replace hm:=JA h29 hm;refine RS ?_;iterate 4 (refine SA TK Q ?_)
       refine TN (WN [4] Q Q (TR (WB (WR (IE hm λv30 hm hz=>?_)))));rw [hz25 _ hz] at hm;refine WR (WB (IE hm λv31 hm hz=>?_));rw [hz22 _ hz] at hm;refine WR (WB (IE hm λv32 hm hz=>?_));rw [hz1 _ hz] at hm;refine WR ?_;obtain rfl:=OJ hm;exact EndsS.one _ Q (.d _) (.refl _)
      replace hm:=JB h29 hm;refine TS (WK (WT (WN [1,2,5] Q Q (TG (SA TK Q (GE hm λg33 hm=>SX Q Q (bN Q Q Q Q g33) (SA TK Q ?_)))))));refine TN (WT ?_);exact⟨_,[0],(SJ hm),Q,k0,Q⟩
     replace hm:=JF h26 hm;refine bO (WX (IE hm λv34 hm hz=>?_));rw [hz25 _ hz] at hm;refine WX (WH (WT ?_));exact⟨_,[0],(SJ hm),Q,k0,Q⟩
    refine WN [2] Q Q (RS ?_);iterate 4 (refine SA TK Q ?_)
    refine TN (WN [4] Q Q (TR (WB (IE hm λv35 hm hz=>?_))));rw [hz1 _ hz] at hm;refine WR ?_;obtain rfl:=OJ hm;exact EndsS.one _ Q (.d _) (.refl _)
   replace hm:=JB h21 hm;refine TS (WK (WT ?_));exact⟨_,[0],(SJ hm),Q,k0,Q⟩
  refine WN [] Q Q (RS (SA TK Q (TN (WN [4] Q Q (TR ?_)))));obtain rfl:=OJ hm;exact EndsS.one _ Q (.d _) (.refl _)
theorem qZ {p0:Expr} {p1:(List Bool)} {r:Bool} (hm:gS p0 p1=some r):RetN Try.prog 24 [p0.enc,.sl 1 (p1.map D.bool)] (.bool (r)):=pO aG hm
theorem sG {p0:Diagram} {p1:Node} {r0:Int} {r1:Diagram} (hm:gE p0 p1=some (r0,r1)):Ret Try.prog 57 [.box 29 [.msl 1 3 0 p0.nodes.length,.d (.int .i64 p0.root)],.flat 51 3 (p0.nodes.map Node.enc)] (λj=>Nat.beq j 1) [.mptr 0 0 0 0,.d (p1.enc)] (.d (.int .i64 r0)) [.box 29 [.msl 1 3 0 r1.nodes.length,.d (.int .i64 p0.root)],.flat 51 3 (r1.nodes.map Node.enc)]:=by
 refine fD qBZ Try.func57 Q Try.ntmps57 Q Q (λwX gX=>?_);unfold gE at hm;refine WN [0,1] Q Q (RS (dE 2 Q Q Q (SA TK Q (TN (WN [0,3] Q Q (TQ (RS ?_)))))));iterate 5 (refine SA TK Q ?_)
 refine TN (WN [0,3,11] Q Q ?_);refine TC _ Q (λh1=>?_) (λh1=>?_)
 ·replace hm:=JT h1 hm;refine RS (SA TK Q (SA TK Q (SA TK Q (TN (WN [4] Q Q (TR (WR ?_)))))));obtain⟨rfl,rfl⟩:=Prod.mk.inj (Option.some.inj hm);exact⟨_,[0,1],res Q,by decide,(kB Q),Q,Q⟩
 replace hm:=JF h1 hm;refine TS (WT (WN [0,3] Q Q ?_));refine dA hm (λ_=>([]:Fr)) (λ_=>([]:List (Nat×Blk))) [] [0,3] Q (λz2 hm hz2=>?_) (λj hm=>?_)
 ·refine RS ?_;iterate 6 (refine SA TK Q ?_)
  refine TN (WN [0,3,17,18,19] Q Q (TB (cW hm (λx4=>([(19,.d (.int .i64 x4))]:Fr)) (λx4=>([]:List (Nat×Blk))) [19] [0,3,17,18] [0,1,2] Q (kB Q) Q Q Q Q Q (λx4 z5 hm hz5=>WN [0,3,17,18,19] Q Q (RS (SA TK Q (TN (WN [0,3,17,18,19,20] Q Q ?_))))))));refine TQ ?_;refine TC _ Q (λh6=>?_) (λh6=>?_)
  ·replace hm:=JT h6 hm;refine TS (WT (WN [0,3,17,18,19] Q Q (TQ (TB (RS (SA TK Q (VE hm λe7 he7 hm=>SX Q Q (nO TK Q Q Q Q he7 Q) ?_)))))));refine SX Q Q (rY TK Q Q Q Q he7.2 Q) (cY 3 Q Q aX Q (SA TK Q (SA TK Q (TN (WN [0,3,5,6,17,18,19] Q Q (RS (SA TK Q (SA TK Q (GE hm λg8 hm=>SX Q Q (qDP Q Q Q g8.1 g8.2) ?_)))))))));refine TN (WN [0,3,5,17,18,19,26] Q Q ?_);refine TC _ Q (λh10=>?_) (λh10=>?_)
   ·replace hm:=JT h10 hm;refine RS (SA TK Q (GE hm λg11 hm=>SX Q Q (bN Q Q Q Q g11) (SA TK Q (TN (WN [4] Q Q (TR (WB ?_)))))));refine WR (IE hm λv12 hm hz=>?_);rw [hz5 _ hz] at hm;refine WR (WB (IE hm λv13 hm hz=>?_));rw [hz2 _ hz] at hm;refine WR ?_;obtain⟨rfl,rfl⟩:=Prod.mk.inj (Option.some.inj hm);exact⟨_,[0,1],res Q,by decide,(kB Q),Q,Q⟩
   replace hm:=JF h10 hm;refine TS (WK (WT (WN [0,3,17,18,19] Q Q (TG (GE hm λg14 hm=>SX Q Q (bN Q Q Q Q g14) (SA TK Q (TN ?_)))))));refine WT ?_;exact⟨_,[0,1,2],(SJ hm),Q,(kB Q),Q⟩
  replace hm:=JF h6 hm;refine bO (WX (IE hm λv15 hm hz=>?_));rw [hz5 _ hz] at hm;refine WX (WH (WT ?_));exact⟨_,[0,1,2],(SJ hm),Q,(kB Q),Q⟩
 refine WN [0,3] Q Q (aR follows  ?_);iterate 6 (refine DA [0,1,2] TK Q ?_)
 refine DX [0,1,2] Q Q (gB [.tmp 35] TK Q Q aX Q Q Q Q Q) ?_;refine lH 0 30 ?_ ?_ Q (by kernel_rfl) (by kernel_rfl) (by kernel_rfl)
 ·refine GE hm λg16 hm=>fT (f:=Node.enc) ([p1]:List Node) TK Q Q aX Q Q Q Q Q (λ_=>Q) Q eZ g16 Q Q (SA TK Q (SA TK Q (SA TK Q (TN (WN [0] Q Q (RS ?_))))));iterate 5 (refine SA TK Q ?_)
  refine GE hm λg17 hm=>SX Q Q (bN Q Q Q Q g17) (SA TK Q (TN (WN [4] Q Q (TR ?_))));obtain⟨rfl,rfl⟩:=Prod.mk.inj (Option.some.inj hm);exact⟨_,[0,1],res Q,by decide,(kB Q),Q,Q⟩
 refine GE hm λg18 hm=>fT (f:=Node.enc) ([p1]:List Node) TK Q Q aX Q Q Q Q Q (λ_=>Q) Q eZ g18 Q Q ?_;iterate 4 (refine SA TK Q ?_)
 refine TN (WN [0] Q Q (RS ?_));iterate 5 (refine SA TK Q ?_)
 refine GE hm λg19 hm=>SX Q Q (bN Q Q Q Q g19) (SA TK Q (TN (WN [4] Q Q (TR ?_))));obtain⟨rfl,rfl⟩:=Prod.mk.inj (Option.some.inj hm);exact⟨_,[0,1],res Q,by decide,(kB Q),Q,Q⟩
theorem pJ:∀ (fu:Nat) {p0:Diagram} {p1:(List Bool)} {p2:Int} {r0:Int} {r1:Diagram} (hm:bP fu p0 p1 p2=some (r0,r1)),Ret Try.prog 53 [.box 29 [.msl 1 3 0 p0.nodes.length,.d (.int .i64 p0.root)],.flat 51 3 (p0.nodes.map Node.enc)] (λj=>Nat.beq j 1) [.mptr 0 0 0 0,.d (.sl 1 (p1.map D.bool)),.d (.int .i64 p2)] (.d (.int .i64 r0)) [.box 29 [.msl 1 3 0 r1.nodes.length,.d (.int .i64 p0.root)],.flat 51 3 (r1.nodes.map Node.enc)]:=by
 intro fu
 induction fu with
 | zero=>
  intro p0 p1 p2 r0 r1 hm;unfold bP at hm;cases hm
 | succ fu ih=>
  intro p0 p1 p2 r0 r1 hm;refine fD qCD Try.func53 Q Try.ntmps53 Q Q (λwX gX=>?_);unfold bP at hm;refine WN [0,1,2] Q Q (RS (SA TK Q (TN (WN [0,1,2] Q Q (TQ (RS (SA TK Q (SX Q Q (cE TK Q Q Q) ?_))))))));refine SA TK Q (TN (WN [0,1,2,12] Q Q ?_));refine TC _ Q (λh1=>?_) (λh1=>?_)
  ·replace hm:=JT h1 hm;refine TQ (RS (SA TK Q (VE hm λe2 he2 hm=>SX Q Q (gP TK Q Q Q Q he2) (SA TK Q (TN (WN [15] Q Q ?_))))));refine TC _ Q (λh3=>?_) (λh3=>?_)
   ·replace hm:=JA h3 hm;refine RS (SA TK Q (TN (WN [6] Q Q (TR (WR (WR ?_))))));obtain⟨rfl,rfl⟩:=Prod.mk.inj (Option.some.inj hm);exact⟨_,[0,1],res Q,by decide,(kB Q),Q,Q⟩
   replace hm:=JB h3 hm;refine TS (WT (WN [] Q Q (RS (SA TK Q (TN (WN [6] Q Q (TR (WR ?_))))))));obtain⟨rfl,rfl⟩:=Prod.mk.inj (Option.some.inj hm);exact⟨_,[0,1],res Q,by decide,(kB Q),Q,Q⟩
  replace hm:=JF h1 hm;refine TS (WT (WN [0,1,2] Q Q (RS (SA TK Q (SX Q Q (cE TK Q Q Q) (GE hm λg4 hm=>SX Q Q (xZ Q Q Q (qDE g4)) (SA TK Q ?_)))))));refine TN (WN [0,1,2,7] Q Q (RS (SA TK Q (SA TK Q (SA TK Q (GE hm λg5 hm=>SX Q Q (qDQ TK Q Q Q Q Q g5) (SA TK Q (GE hm λg6 hm=>SX Q Q (bN Q Q Q Q g6) ?_))))))));refine BE hm λr7 hr7 hm=>?_;obtain⟨r8,r9⟩:=r7;refine cN [0,1] (λj=>Nat.beq j 1) Q Q Q (by decide) Q Q Q Q (ih hr7) Q Q Q ?_;refine SA TK Q (TN (WN [0,1,2,7,8] Q Q (RS (SA TK Q (SA TK Q (SA TK Q (GE hm λg10 hm=>SX Q Q (qDQ TK Q Q Q Q Q g10) (SA TK Q (GE hm λg11 hm=>?_)))))))));refine SX Q Q (bN Q Q Q Q g11) (BE hm λr12 hr12 hm=>?_);obtain⟨r13,r14⟩:=r12;refine cN [0,1] (λj=>Nat.beq j 1) Q Q Q (by decide) Q Q Q Q (ih hr12) Q Q Q ?_;refine SA TK Q (TN (WN [0,2,8,9] Q Q (RS ?_)));iterate 4 (refine SA TK Q ?_)
  refine SX Q Q (bF Q qD aX Q Q Q Q) (BE hm λr15 hr15 hm=>?_);obtain⟨r16,r17⟩:=r15;refine cN [0,1] (λj=>Nat.beq j 1) Q Q Q (by decide) Q Q Q Q (sG hr15) Q Q Q ?_;refine SA TK Q (TN (WN [6] Q Q (TR ?_)));obtain⟨rfl,rfl⟩:=Prod.mk.inj (Option.some.inj hm);exact⟨_,[0,1],res Q,by decide,(kB Q),Q,Q⟩
theorem qW {p0:Diagram} {p1:(List Bool)} {p2:Int} {r0:Int} {r1:Diagram} (hm:kH p0 p1 p2=some (r0,r1)):Ret Try.prog 53 [.box 29 [.msl 1 3 0 p0.nodes.length,.d (.int .i64 p0.root)],.flat 51 3 (p0.nodes.map Node.enc)] (λj=>Nat.beq j 1) [.mptr 0 0 0 0,.d (.sl 1 (p1.map D.bool)),.d (.int .i64 p2)] (.d (.int .i64 r0)) [.box 29 [.msl 1 3 0 r1.nodes.length,.d (.int .i64 p0.root)],.flat 51 3 (r1.nodes.map Node.enc)]:=pJ aG hm
theorem qX {p0:(List Bool)} {r:Diagram} (hm:fE p0=some r):RetD Try.prog 36 [.sl 1 (p0.map D.bool)] (r.enc):=by
 refine .of (mv:=λ_=>false) (aP qCO Try.func36 Q Try.ntmps36 Q Q (λwX gX=>?_));unfold fE at hm;refine WN [0] Q Q (RS (cY 0 Q Q bA Q (jV (f:=Node.enc) 0 0 1 51 3 Q Q Q (TN (WN [0,2] Q Q (RS (SX Q Q (iI Q eT bA Q Q Q Q) (cY 2 Q Q bA Q ?_))))))));refine jV (f:=Node.enc) 2 0 3 51 3 Q Q Q (SA TK Q (jV (f:=Node.enc) 2 0 4 51 3 Q Q Q (TN (WN [0,2,3] Q Q (RS (SA TK Q (BE hm λr1 hr1 hm=>?_)))))));obtain⟨r2,r3⟩:=r1;refine cN [2,4] (λj=>Nat.beq j 1) Q Q Q (by decide) Q Q Q Q (qW hr1) Q Q Q ?_;refine SA TK Q (SA TK Q (TN (WN [2,3] Q Q (RS (SA TK Q (SA TK Q (TN (WN [2] Q Q (TR ?_)))))))));obtain rfl:=OJ hm;exact EndsS.cellR _ TK Q Q Q Q Q (nT (.cons (iC Q) Q (.cons (.d _) Q .nil)))
theorem uR {p0:Expr} {p1:Int} {r0:Diagram} {r1:Int} (hm:dQ p0 p1=some (r0,r1)):RetT Try.prog 12 [p0.enc,.int .i64 p1] [r0.enc,.int .i64 r1]:=by
 refine .of (mv:=λ_=>false) (dY qDA Try.func12 Q Try.ntmps12 Q Q (λwX gX=>?_));unfold dQ at hm;refine WN [0,1] Q Q (RS (dE 0 Q Q Q (cY 1 Q Q bA Q (fA 1 [some 3,none] Q Q (SA TK Q (TN (WN [1,2,4] Q Q (TQ ?_))))))));refine RS (SA TK Q (SA TK Q (TN (WN [1,2,4,10] Q Q ?_))));refine TC _ Q (λh1=>?_) (λh1=>?_)
 ·replace hm:=JT h1 hm;refine RS (SX Q Q (bF Q eT bA Q Q Q Q) (mW 11 [some 3,none] Q (SA TK Q (SA TK Q (TN (WN [4,5] Q Q (TR (WR ?_))))))));obtain⟨rfl,rfl⟩:=Prod.mk.inj (Option.some.inj hm);exact⟨_,.mk _ (.cons (.agg (TK.lay Q) Q Q Q Q) (.cons (.tmp 5) .nil)) Q,(.cons (.d _) (.refl _) (.cons (.d _) (.refl _) .nil))⟩
 replace hm:=JF h1 hm;refine TS (WT (WN [1,2,4] Q Q (TQ ?_)));refine aL hm (λx2=>([(19,.d (.bool (x2)))]:Fr)) (λx2=>([]:List (Nat×Blk))) [19] [1,2,4] Q (λz3 hm=>?_) (λx2 hm=>?_)
 ·refine TG (SA TK Q (SA TK Q (SB TK Q (λq4 hq4=>?_))));cases q4
  ·replace hm:=JF hq4 hm;refine SA TK Q (SA TK Q (BE hm λr5 hr5 hm=>SX Q Q (RN Q Q (SC (.d _) (SC (.d _) SN)) (pM hr5)) (SA TK Q (SA TK Q (TN (WT ?_))))));exact⟨_,[0,1],(SJ hm),Q,k0,Q⟩
  replace hm:=JT hq4 hm;iterate 5 (refine SA TK Q ?_)
  refine TN (WT ?_);exact⟨_,[0,1],(SJ hm),Q,k0,Q⟩
 refine WN [1,2,4,19] Q Q ?_;refine TC _ Q (λh6=>?_) (λh6=>?_)
 ·replace hm:=JA h6 hm;refine RS (SX Q Q (bF Q eT bA Q Q Q Q) (mW 20 [some 3,none] Q (SA TK Q (SA TK Q (TN (WN [4,5] Q Q (TR (WR ?_))))))));obtain⟨rfl,rfl⟩:=Prod.mk.inj (Option.some.inj hm);exact⟨_,.mk _ (.cons (.agg (TK.lay Q) Q Q Q Q) (.cons (.tmp 5) .nil)) Q,(.cons (.d _) (.refl _) (.cons (.d _) (.refl _) .nil))⟩
 replace hm:=JB h6 hm;refine TS (WT (WN [1,2,4] Q Q (RS (uM (f:=D.bool) 2 4 1 Q Q Q (TN (WN [1,2,4,6] Q Q ?_))))));refine aL hm (λb7=>([(6,.msl 2 1 0 b7.length)]:Fr)) (λb7=>([(2,.flat 4 1 (b7.map D.bool))]:List (Nat×Blk))) [6] [4] Q (λz8 hm=>?_) (λb7 hm=>?_)
 ·refine RS (SA TK Q (BE hm λr9 hr9 hm=>SX Q Q (RD Q Q Q (pK hr9)) (SX Q Q (cE TK Q Q Q) (SA TK Q (TN (WN [2,4,6,22,23,24] Q Q (TB ?_)))))));refine cW hm (λ(x13,b14)=>([(6,.msl 2 1 0 b14.length),(24,.d (.int .i64 x13))]:Fr)) (λ(x13,b14)=>([(2,.flat 4 1 (b14.map D.bool))]:List (Nat×Blk))) [6,24] [2,4,22,23] [0,1,2] Q k0 Q Q Q Q Q (λs z15 hm hz15=>?_);obtain⟨x13,b14⟩:=s;refine WN [2,4,6,22,23,24] Q Q (RS (SA TK Q (TN (WN [2,4,6,22,23,24,25] Q Q (TQ ?_)))));refine TC _ Q (λh16=>?_) (λh16=>?_)
  ·replace hm:=JT h16 hm;refine TS (WT (WN [2,4,6,22,23,24] Q Q (TQ (TB (RS (VE hm λe17 he17 hm=>SX Q Q (gP TK Q Q Q Q he17) (SA TK Q (SA TK Q ?_))))))));refine TN (WN [2,4,6,8,22,23,24] Q Q (TG (SA TK Q (SA TK Q (SA TK Q (BE hm λr18 hr18 hm=>SX Q Q (RN Q Q (SC (.d _) (SC (.d _) SN)) (qZ hr18)) (SX Q Q (gB [.tmp 31] TK Q Q pY Q Q Q Q Q) (GE hm λg19 hm=>fT (f:=D.bool) ([r18]:List Bool) TK Q Q pY Q Q Q Q Q (λh=>absurd h (zQV _)) Q eZ g19 Q Q ?_))))))));refine SA TK Q (TN (WK (WT (WN [2,4,6,22,23,24] Q Q (TG (GE hm λg20 hm=>SX Q Q (bN Q Q Q Q g20) (SA TK Q ?_)))))));refine TN (WT ?_);exact⟨_,[0,1,2],(SJ hm),Q,k0,Q⟩
  replace hm:=JF h16 hm;refine bO (WX (IE hm λv21 hm hz=>?_));rw [hz15 _ hz] at hm;refine WX (WH (WT ?_));exact⟨_,[0,1,2],(SJ hm),Q,k0,Q⟩
 refine WN [4,6] Q Q ?_;refine qAK 6 2 [4] Q Q Q Q Q (by simp) Q Q ?_;refine RS (SA TK Q (BE hm λr22 hr22 hm=>SX Q Q (RD Q Q Q (qX hr22)) (SA TK Q (SA TK Q (TN (WN [4,5] Q Q (TR ?_)))))));obtain⟨rfl,rfl⟩:=Prod.mk.inj (Option.some.inj hm);exact⟨_,.mk _ (.cons (.agg (TK.lay Q) Q Q Q Q) (.cons (.tmp 5) .nil)) Q,(.cons (.d _) (.refl _) (.cons (.d _) (.refl _) .nil))⟩
theorem lE {p0:Expr} {p1:Int} {r:Bool} (hm:dD p0 p1=some r):Ret Try.prog 3 [] (λ_=>false) ([p0.enc,.int .i64 p1].map .d) (.d (.bool (r))) []:=by
 refine aP callB3 Try.func3 Q Try.ntmps3 Q Q (λwX gX=>?_);unfold dD at hm;refine WN [0,1] Q Q (RS (dE 0 Q Q Q (SA TK Q (TN (WN [1,2] Q Q (TQ ?_))))));refine aL hm (λx1=>([(19,.d (.bool (x1)))]:Fr)) (λx1=>([]:List (Nat×Blk))) [19] [1,2] Q (λz2 hm=>?_) (λx1 hm=>?_)
 ·refine TG (SA TK Q (BE hm λr3 hr3 hm=>SX Q Q (RN Q Q (SC (.d _) SN) (tH hr3)) (SA TK Q (SB TK Q (λq4 hq4=>?_)))));cases q4
  ·replace hm:=JB hq4 hm;refine SA TK Q (SA TK Q (SB TK Q (λq5 hq5=>?_)));cases q5
   ·replace hm:=JF hq5 hm;iterate 4 (refine SA TK Q ?_)
    refine TN (WT ?_);exact⟨_,[0],(SJ hm),Q,k0,Q⟩
   replace hm:=JT hq5 hm;iterate 4 (refine SA TK Q ?_)
   refine TN (WT ?_);exact⟨_,[0],(SJ hm),Q,k0,Q⟩
  replace hm:=JA hq4 hm;iterate 7 (refine SA TK Q ?_)
  refine TN (WT ?_);exact⟨_,[0],(SJ hm),Q,k0,Q⟩
 refine WN [1,2,19] Q Q ?_;refine TC _ Q (λh6=>?_) (λh6=>?_)
 ·replace hm:=JA h6 hm;refine RS (BE hm λr7 hr7 hm=>SX Q Q (RN Q Q SN (jY hr7)) (SA TK Q (TN (WN [4] Q Q (TR (WR ?_))))));obtain rfl:=OJ hm;exact EndsS.one _ Q (.d _) (.refl _)
 replace hm:=JB h6 hm;refine TS (WT (WN [1,2] Q Q (RS (SA TK Q (SA TK Q (BE hm λr8 hr8 hm=>?_))))));obtain⟨r9,r10⟩:=r8;refine SX Q Q (dM Q Q Q (tY hr8)) (SA TK Q (SA TK Q (SA TK Q (cY 1 Q Q bA Q (fA 1 [some 3,none] Q Q (SA TK Q (SA TK Q (TN (WN [1,2,5,6] Q Q (RS (SA TK Q (SA TK Q ?_))))))))))));refine BE hm λr11 hr11 hm=>?_;obtain⟨r12,r13⟩:=r11;refine SX Q Q (dM Q Q Q (uR hr11)) (SA TK Q (SA TK Q (SA TK Q (cY 2 Q Q bA Q (fA 2 [some 3,none] Q Q (SA TK Q (SA TK Q (TN (WN [5,6,7,8] Q Q ?_)))))))));refine aL hm (λx14=>([(4,.d (.bool (x14)))]:Fr)) (λx14=>([]:List (Nat×Blk))) [4] [] Q (λz15 hm=>?_) (λx14 hm=>?_)
 ·refine TG (SA TK Q (SA TK Q (SA TK Q (SB TK Q (λq16 hq16=>?_)))));cases q16
  ·replace hm:=JF hq16 hm;iterate 8 (refine SA TK Q ?_)
   refine TN (WT ?_);exact⟨_,[0,1,2],(SJ hm),Q,k0,Q⟩
  replace hm:=JT hq16 hm;refine SA TK Q (SA TK Q (BE hm λr17 hr17 hm=>SX Q Q (RN Q Q (SC (.d _) (SC (.d _) SN)) (kT hr17)) (SA TK Q (SB TK Q (λq18 hq18=>?_)))));cases q18
  ·replace hm:=JB hq18 hm;refine SA TK Q (SA TK Q (SA TK Q (TN (WT ?_))));exact⟨_,[0,1,2],(SJ hm),Q,k0,Q⟩
  replace hm:=JA hq18 hm;refine BE hm λr19 hr19 hm=>SX Q Q (RN Q Q SN (jY hr19)) (SA TK Q (SA TK Q (TN (WT ?_))));exact⟨_,[0,1,2],(SJ hm),Q,k0,Q⟩
 refine WN [4] Q Q (TR ?_);obtain rfl:=OJ hm;exact EndsS.one _ Q (.d _) (.refl _)
@[simp] theorem aB {α:Type} {p:Prop} [Decidable p] {k:Option α} (h:p):aC p k=k:=if_pos h
@[simp] theorem aA {α β:Type} (a:α) (k:α→Option β):aE (some a) k=k a:=rfl
@[simp] theorem bZ {α β:Type} (a:α) (k:α→Option β):eP (some (.inl a)) k=k a:=rfl
@[simp] theorem aT {α β:Type} (b:β) (k:α→Option β):eP (some (.inr b)) k=some b:=rfl
@[simp] theorem aS {α β:Type} (b:β):(aQ (some b):Option (α ⊕ β))=some (.inr b):=rfl
theorem dT {α β:Type} {l:List α} {i:Nat} {e:α} {k:α→Option β} (h:l[i]?=some e):bW l (i:Int) k=k e:=by simp [bW,h]
theorem gL {α β:Type} {l:List α} {i:Int} {e:α} {k:α→Option β} (h0:0≤i) (h:l[i.toNat]?=some e):bW l i k=k e:=by simp [bW,h0,h]
@[simp] theorem ite_bindM {α β:Type} {p:Prop} [Decidable p] (a b:α) (k:α→Option β):aE (if p then some a else some b) k=k (if p then a else b):=by split<;>rfl
theorem sA {α:Type} (l:List α) (i:Nat):sub l (i:Int) (l.length:Int)=l.drop i:=by simp [sub,← List.length_drop]
theorem yK {α:Type} (l:List α) (i:Nat):sub l 0 (i:Int)=l.take i:=by simp [sub]
variable {σ ρ:Type}
theorem tK {f:σ→Option (σ ⊕ ρ)} (B:Nat→σ) {o:ρ}:∀ (n k:Nat),(∀ i,k≤i→i < k+n→f (B i)=some (.inl (B (i+1))))→f (B (k+n))=some (.inr o)→fK f (n+1) (B k)=some o
 | 0,k,_,he=>by simp only [Nat.add_zero] at he;simp [fK,he]
 | n+1,k,hf,he=>by
  simp only [fK];rw [hf k (zQW _) (by omega)];exact tK B n (k+1) (λi h1 h2=>hf i (by omega) (by omega)) (by rw [show k+1+n=k+(n+1) by omega];exact he)
theorem eG {f:σ→Option (σ ⊕ ρ)} (B:Nat→σ) (n:Nat) {o:ρ} {s:σ} (hs:s=B 0) (hn:n≤9223372036854775807) (hf:∀ i,i < n→f (B i)=some (.inl (B (i+1)))) (he:f (B n)=some (.inr o)):bV f s=some o:=by
 subst hs;exact sZ (tK B n 0 (λi _ h=>hf i (by omega)) (by rw [Nat.zero_add];exact he)) (by unfold aG;omega)
theorem sX {f : Int → Option (Int ⊕ ρ)} (n : Nat) (c : Nat → Option ρ) (o : ρ) (hn : n ≤ 9223372036854775807) (hf : ∀ i, i < n → f (i : Int) = match c i with
  | some r => some (.inr r)
  | none => some (.inl ((i : Int) + 1))) (he : f (n : Int) = some (.inr o)) : bV f 0 = some (((List.range n).findSome? c).getD o) := by
 cases h:(List.range n).findSome? c with
 | none=>
  rw [List.findSome?_eq_none_iff] at h;refine eG (λi=>(i:Int)) n rfl hn (λi hi=>?_) he;rw [hf i hi,h i (List.mem_range.2 hi)];rfl
 | some r=>
  rw [List.findSome?_eq_some_iff] at h;obtain⟨l1,a,l2,h1,h2,h3⟩:=h
  have ha:l1.length=a∧a < n:=by
   have hlen:l1.length < (List.range n).length:=by rw [h1];simp
   have:(List.range n)[l1.length]?=some a:=by rw [h1];simp
   simp only [List.length_range] at hlen;simp [hlen] at this;exact⟨this,by omega⟩
  obtain⟨ha1,ha2⟩:=ha;refine eG (λi=>(i:Int)) a rfl (by omega) (λi hi=>?_) ?_
  ·have hm:i∈l1:=by
    have:(List.range n)[i]?=some i:=List.getElem?_range (by omega);rw [h1,List.getElem?_append_left (by omega)] at this;exact zQM this
   rw [hf i (by omega),h3 i hm];rfl
  rw [hf a ha2,h2];rfl
theorem oS {α β:Type} (l:List α) (c:Nat→Option β) (d:α→Option β) (h:∀ (i:Nat) (e:α),l[i]?=some e→c i=d e):(List.range l.length).findSome? c=l.findSome? d:=by
 induction l generalizing c with
 | nil=>rfl
 | cons x r ih=>
  rw [List.length_cons,List.range_succ_eq_map,List.findSome?_cons,List.findSome?_map,List.findSome?_cons,h 0 x rfl]
  cases d x with
  | some b=>rfl
  | none=>exact ih (c ∘ Nat.succ) λi e he=>h (i+1) e (by simpa using he)
theorem xI {α : Type} {f : Int → Option (Int ⊕ ρ)} (l : List α) (d : α → Option ρ) (o : ρ) (hn : l.length ≤ 9223372036854775807) (hf : ∀ (i : Nat) (e : α), l[i]? = some e → f (i : Int) = match d e with
  | some r => some (.inr r)
  | none => some (.inl ((i : Int) + 1))) (he : f (l.length : Int) = some (.inr o)) : bV f 0 = some ((l.findSome? d).getD o) := by
 rw [sX l.length (λi=>(l[i]?).bind d) o hn (λi hi=>?_) he,oS l _ d (λi e he=>by simp [he])];rw [hf i l[i] (by simp),zQR hi];rfl
theorem rQ {α β:Type} (l:List α) (c:α→Bool) (v:β):l.findSome? (λe=>if c e=true then some v else none)=if l.any c=true then some v else none:=by
 induction l with
 | nil=>rfl
 | cons x r ih=>
  rw [List.findSome?_cons,List.any_cons,ih];cases c x<;>simp
theorem sY {α:Type} {f:Int→Option (Int ⊕ ρ)} (l:List α) (c:α→Bool) (v o:ρ) (hn:l.length≤9223372036854775807) (hf:∀ (i:Nat) (e:α),l[i]?=some e→f (i:Int)=if c e=true then some (.inr v) else some (.inl ((i:Int)+1))) (he:f (l.length:Int)=some (.inr o)):bV f 0=some (if l.any c=true then v else o):=by
 rw [xI l (λe=>if c e=true then some v else none) o hn (λi e h=>by rw [hf i e h];cases c e<;>simp) he,rQ];split<;>rfl
theorem xJ {α:Type} {f:Int→Option (Int ⊕ ρ)} (l:List α) (c:α→Bool) (w:Nat→ρ) (o:ρ) (hn:l.length≤9223372036854775807) (hf:∀ (i:Nat) (e:α),l[i]?=some e→f (i:Int)=if c e=true then some (.inr (w i)) else some (.inl ((i:Int)+1))) (he:f (l.length:Int)=some (.inr o)):bV f 0=some (match l.findIdx? c with|some i=>w i|none=>o):=by
 cases h:l.findIdx? c with
 | none=>
  rw [List.findIdx?_eq_none_iff] at h;refine eG (λi=>(i:Int)) l.length rfl hn (λi hi=>?_) he;rw [hf i l[i] (by simp),if_neg (by rw [h l[i] (by simp)];simp)];rfl
 | some k=>
  rw [List.findIdx?_eq_some_iff_getElem] at h;obtain⟨hk,h1,h2⟩:=h;refine eG (λi=>(i:Int)) k rfl (by omega) (λi hi=>?_) ?_
  ·have hl : i < l.length := by omega
   have:=h2 i hi;rw [hf i l[i] (by simp),if_neg (by simpa using this)];rfl
  rw [hf k l[k] (by simp),if_pos h1]
theorem zN {β:Type} {f:Int×β→Option ((Int×β) ⊕ ρ)} (n:Nat) (B:Nat→β) {o:ρ} {b:β} (hb:b=B 0) (hn:n≤9223372036854775807) (hf:∀ i,i < n→f ((i:Int),B i)=some (.inl ((i:Int)+1,B (i+1)))) (he:f ((n:Int),B n)=some (.inr o)):bV f (0,b)=some o:=
 eG (λi=>((i:Int),B i)) n (by rw [hb];rfl) hn (λi hi=>by rw [hf i hi];rfl) he
theorem qBN {i n:Nat} (h:i < n) (hn:n≤9223372036854775807):I64 ((i:Int)+1):=by unfold I64;omega
def aW (b:Bool):Int:=if b=true then 1 else 0
def bH (D:List Node) (n:Node):List Node×Int:=
 if n.lo=n.hi then (D,n.lo) else match D.findIdx? (λm=>decide (m=n)) with|some i=>(D,(i:Int)+2)|none=>(D++[n],(D.length:Int)+2)
abbrev Fn:=List Bool→Bool
def aD (D:List Node):Nat→Fn→Int→List Node×Int
 | 0,f,_=>(D,aW (f []))
 | k+1,f,v=>
  let a:=aD D k (λl=>f (false :: l)) (v+1)
  let b:=aD a.1 k (λl=>f (true :: l)) (v+1)
  bH b.1 ⟨v,a.2,b.2⟩
def Has (D:List Node):Nat→Fn→Int→Int→Prop
 | 0,f,_,x=>x=aW (f [])
 | k+1,f,v,x=>∃ lo hi,Has D k (λl=>f (false :: l)) (v+1) lo∧Has D k (λl=>f (true :: l)) (v+1) hi∧(if lo=hi then x=lo else 2≤x∧D[(x - 2).toNat]?=some ⟨v,lo,hi⟩)
theorem fX (D:List Node) (n:Node):D <+: (bH D n).1:=by
 unfold bH;split
 ·exact List.prefix_refl _
 split
 ·exact List.prefix_refl _
 exact List.prefix_append _ _
theorem bB:∀ (k:Nat) (D:List Node) (f:Fn) (v:Int),D <+: (aD D k f v).1
 | 0,D,f,v=>List.prefix_refl _
 | k+1,D,f,v=>((bB k D _ _).trans (bB k _ _ _)).trans (fX _ _)
theorem fH {D E:List Node} (h:D <+: E) {i:Nat} {n:Node} (hi:D[i]?=some n):E[i]?=some n:=by
 obtain⟨t,rfl⟩:=h;rw [List.getElem?_append_left (zQQ.1 hi).1];exact hi
theorem Has.mono {D E:List Node} (h:D <+: E):∀ {k:Nat} {f:Fn} {v x:Int},Has D k f v x→Has E k f v x
 | 0,f,v,x,hh=>hh
 | k+1,f,v,x,⟨lo,hi,h1,h2,h3⟩=>by
  refine⟨lo,hi,h1.mono h,h2.mono h,?_⟩;split
  ·rename_i he;rw [if_pos he] at h3;exact h3
  rename_i he;rw [if_neg he] at h3;exact⟨h3.1,fH h h3.2⟩
theorem qAR (D:List Node) (n:Node):if n.lo=n.hi then (bH D n).2=n.lo else 2≤(bH D n).2∧(bH D n).1[((bH D n).2 - 2).toNat]?=some n:=by
 unfold bH;by_cases he:n.lo=n.hi
 ·simp only [if_pos he]
 simp only [if_neg he]
 cases hf:D.findIdx? (λm=>decide (m=n)) with
 | some i=>
  rw [List.findIdx?_eq_some_iff_getElem] at hf;obtain⟨hi,hp,_⟩:=hf;dsimp only;refine⟨by omega,?_⟩;rw [show ((i:Int)+2 - 2).toNat=i by omega,zQR hi,of_decide_eq_true hp]
 | none=>
  dsimp only;refine⟨by omega,?_⟩;rw [show ((D.length:Int)+2 - 2).toNat=D.length by omega];simp
theorem bY:∀ (k:Nat) (D:List Node) (f:Fn) (v:Int),Has (aD D k f v).1 k f v (aD D k f v).2
 | 0,D,f,v=>rfl
 | k+1,D,f,v=>by
  have h1:=bY k D (λl=>f (false :: l)) (v+1);have h2:=bY k (aD D k (λl=>f (false :: l)) (v+1)).1 (λl=>f (true :: l)) (v+1);have p2:=bB k (aD D k (λl=>f (false :: l)) (v+1)).1 (λl=>f (true :: l)) (v+1);have p3:=fX (aD (aD D k (λl=>f (false :: l)) (v+1)).1 k (λl=>f (true :: l)) (v+1)).1 ⟨v,(aD D k (λl=>f (false :: l)) (v+1)).2,(aD (aD D k (λl=>f (false :: l)) (v+1)).1 k (λl=>f (true :: l)) (v+1)).2⟩;refine⟨_,_,h1.mono (p2.trans p3),h2.mono p3,?_⟩;exact qAR (aD (aD D k (λl=>f (false :: l)) (v+1)).1 k (λl=>f (true :: l)) (v+1)).1 ⟨v,(aD D k (λl=>f (false :: l)) (v+1)).2,(aD (aD D k (λl=>f (false :: l)) (v+1)).1 k (λl=>f (true :: l)) (v+1)).2⟩
theorem pG {D:List Node} (h:D.Nodup) (n:Node):(bH D n).1.Nodup:=by
 unfold bH;split
 ·exact h
 split
 ·exact h
 rename_i hf;rw [List.findIdx?_eq_none_iff] at hf;rw [List.nodup_append];refine⟨h,by simp,λa ha b hb=>?_⟩;rw [List.mem_singleton] at hb;subst hb;intro he;have:=hf a ha;simp [he] at this
theorem eN:∀ (k:Nat) {D:List Node} (f:Fn) (v:Int),D.Nodup→(aD D k f v).1.Nodup
 | 0,D,f,v,h=>h
 | k+1,D,f,v,h=>pG (eN k _ _ (eN k _ _ h)) _
theorem uY {D:List Node} (h:D.Nodup) {i:Nat} {n:Node} (hi:D[i]?=some n):D.findIdx? (λm=>decide (m=n))=some i:=by
 rw [List.findIdx?_eq_some_iff_getElem];obtain⟨hl,he⟩:=zQQ.1 hi;refine⟨hl,decide_eq_true he,λj hj=>?_⟩
 have hne:D[j]≠D[i]:=by
  unfold List.Nodup at h;rw [List.pairwise_iff_getElem] at h;exact h j i (by omega) hl hj
 rw [he] at hne;simpa using hne
theorem cC {D:List Node} (hn:D.Nodup):∀ {k:Nat} {f:Fn} {v x:Int},Has D k f v x→aD D k f v=(D,x)
 | 0,f,v,x,h=>by
  have h:x=aW (f []):=h;rw [h];rfl
 | k+1,f,v,x,⟨lo,hi,h1,h2,h3⟩=>by
  have e1:=cC hn h1;have e2:=cC hn h2;show bH (aD (aD D k (λl=>f (false :: l)) (v+1)).1 k (λl=>f (true :: l)) (v+1)).1 _=_;rw [e1];dsimp only;rw [e2];unfold bH;dsimp only;by_cases he:lo=hi
  ·rw [if_pos he];rw [if_pos he] at h3;rw [h3]
  rw [if_neg he];rw [if_neg he] at h3;rw [uY hn h3.2];dsimp only;rw [show (((x - 2).toNat:Nat):Int)+2=x by omega]
theorem Has.unique {D:List Node} (hn:D.Nodup) {k:Nat} {f:Fn} {v x y:Int} (h1:Has D k f v x) (h2:Has D k f v y):x=y:=by
 have a:=cC hn h1;have b:=cC hn h2;rw [a] at b;exact (Prod.mk.inj b).2
theorem Has.congr {D:List Node}:∀ {k:Nat} {f g:Fn} {v x:Int},(∀ l,l.length=k→f l=g l)→Has D k f v x→Has D k g v x
 | 0,f,g,v,x,h,hh=>by
  have hh:x=aW (f []):=hh;show x=aW (g []);rw [← h [] rfl];exact hh
 | k+1,f,g,v,x,h,⟨lo,hi,h1,h2,h3⟩=>⟨lo,hi,h1.congr λl hl=>h _ (by simp [hl]),h2.congr λl hl=>h _ (by simp [hl]),h3⟩
theorem bJ:∀ {k:Nat} {D:List Node} {f g:Fn} {v:Int},(∀ l,l.length=k→f l=g l)→aD D k f v=aD D k g v
 | 0,D,f,g,v,h=>by show (D,aW (f []))=(D,aW (g []));rw [h [] rfl]
 | k+1,D,f,g,v,h=>by
  show bH (aD (aD D k (λl=>f (false :: l)) (v+1)).1 k (λl=>f (true :: l)) (v+1)).1 _=bH (aD (aD D k (λl=>g (false :: l)) (v+1)).1 k (λl=>g (true :: l)) (v+1)).1 _;rw [bJ (k:=k) (D:=D) (f:=λl=>f (false :: l)) (g:=λl=>g (false :: l)) λl hl=>h _ (by simp [hl])];rw [bJ (k:=k) (f:=λl=>f (true :: l)) (g:=λl=>g (true :: l)) λl hl=>h _ (by simp [hl])]
theorem Has.skip {D:List Node} {k:Nat} {f:Fn} {v x:Int} (h:∀ l,l.length=k→f (false :: l)=f (true :: l)) (hh:Has D k (λl=>f (false :: l)) (v+1) x):Has D (k+1) f v x:=
 ⟨x,x,hh,hh.congr h,by rw [if_pos rfl]⟩
theorem Has.unskip {D:List Node} (hn:D.Nodup) {k:Nat} {f:Fn} {v x:Int} (h:∀ l,l.length=k→f (false :: l)=f (true :: l)) (hh:Has D (k+1) f v x):Has D k (λl=>f (false :: l)) (v+1) x:=by
 obtain⟨lo,hi,h1,h2,h3⟩:=hh;have he:lo=hi:=Has.unique hn (h1.congr h) h2;rw [if_pos he] at h3;rw [h3];exact h1
theorem Has.const {D:List Node} (c:Bool):∀ {k:Nat} {f:Fn} {v:Int},(∀ l,l.length=k→f l=c)→Has D k f v (aW c)
 | 0,f,v,h=>by show aW c=aW (f []);rw [h [] rfl]
 | k+1,f,v,h=>Has.skip (λl hl=>by rw [h _ (by simp [hl]),h _ (by simp [hl])]) (Has.const c λl hl=>h _ (by simp [hl]))
theorem oH {D:List Node} (hn:D.Nodup) {k:Nat} {f:Fn} {v:Int} (h:∀ l,l.length=k→f (false :: l)=f (true :: l)):aD D (k+1) f v=aD D k (λl=>f (false :: l)) (v+1):=by
 have h1:=bY k D (λl=>f (false :: l)) (v+1);have h2:=eN k (λl=>f (false :: l)) (v+1) hn;show bH (aD (aD D k (λl=>f (false :: l)) (v+1)).1 k (λl=>f (true :: l)) (v+1)).1 _=_;rw [cC h2 (h1.congr h)];unfold bH;rw [if_pos rfl]
theorem iJ {D:List Node} (hn:D.Nodup) (c:Bool) {k:Nat} {f:Fn} {v:Int} (h:∀ l,l.length=k→f l=c):aD D k f v=(D,aW c):=cC hn (Has.const c h)
def aI (D:List Node) (x:Int):Int:=if x < 2 then 64 else match D[(x - 2).toNat]? with|some n=>n.var|none=>64
def evF (D:List Node) (s:Int→Bool):Nat→Int→Bool
 | 0,x=>decide (x=1)
 | f+1,x=>if x < 2 then decide (x=1) else match D[(x - 2).toNat]? with|some n=>evF D s f (if s n.var=true then n.hi else n.lo)|none=>false
def eI (D:List Node) (x:Int) (s:Int→Bool):Bool:=evF D s x.toNat x
structure WfD (D:List Node):Prop where
 vars:∀ (i:Nat) (n:Node),D[i]?=some n→0≤n.var∧n.var < 64
 lo:∀ (i:Nat) (n:Node),D[i]?=some n→0≤n.lo∧n.lo < (i:Int)+2∧n.var < aI D n.lo
 hi:∀ (i:Nat) (n:Node),D[i]?=some n→0≤n.hi∧n.hi < (i:Int)+2∧n.var < aI D n.hi
 ne:∀ (i:Nat) (n:Node),D[i]?=some n→n.lo≠n.hi
theorem oU {D:List Node} (h:WfD D) (s:Int→Bool):∀ (f:Nat) (x:Int),0≤x→x≤(f:Int)→evF D s f x=evF D s x.toNat x
 | 0,x,h0,h1=>by rw [show x=0 by omega];rfl
 | f+1,x,h0,h1=>by
  by_cases hx:x < 2
  ·rcases (by omega : x = 0 ∨ x = 1) with e | e <;> subst e
   ·rfl
   rfl
  obtain ⟨m, hm⟩ : ∃ m : Nat, x.toNat = m + 1 := ⟨x.toNat - 1, by omega⟩;rw [hm];unfold evF;rw [if_neg hx,if_neg hx]
  cases hn:D[(x - 2).toNat]? with
  | none=>rfl
  | some n=>
   dsimp only;have hl:=h.lo _ n hn;have hh:=h.hi _ n hn;have hc:0≤(if s n.var=true then n.hi else n.lo)∧(if s n.var=true then n.hi else n.lo) < x:=by split<;>omega
   rw [oU h s f _ hc.1 (by omega),oU h s m _ hc.1 (by omega)]
theorem vU (D:List Node) (s:Int→Bool) (b:Bool):eI D (aW b) s=b:=by cases b<;>rfl
theorem dO {D:List Node} (h:WfD D) {x:Int} {n:Node} (hx:2≤x) (hn:D[(x - 2).toNat]?=some n) (s:Int→Bool):eI D x s=eI D (if s n.var=true then n.hi else n.lo) s:=by
 have hl:=h.lo _ n hn;have hh:=h.hi _ n hn;have hc:0≤(if s n.var=true then n.hi else n.lo)∧(if s n.var=true then n.hi else n.lo) < x:=by split<;>omega
 obtain⟨m,hm⟩:∃ m:Nat,x.toNat=m+1:=⟨x.toNat - 1,by omega⟩;unfold eI;rw [hm]
 conv=>lhs;unfold evF
 rw [if_neg (by omega),hn];dsimp only;exact oU h s m _ hc.1 (by omega)
theorem dG {D:List Node} (h:WfD D) {s u:Int→Bool}:∀ (m:Nat) (x:Int),0≤x→x.toNat≤m→(∀ w,aI D x≤w→w < 64→s w=u w)→eI D x s=eI D x u
 | m,x,h0,hm,hs=>by
  by_cases hx:x < 2
  ·rcases (by omega:x=0∨x=1) with e|e<;>subst e<;>rfl
  cases hn:D[(x - 2).toNat]? with
  | none=>
   unfold eI;obtain⟨q,hq⟩:∃ q:Nat,x.toNat=q+1:=⟨x.toNat - 1,by omega⟩;rw [hq];unfold evF;rw [if_neg hx,if_neg hx,hn]
  | some n=>
   have hvx:aI D x=n.var:=by unfold aI;rw [if_neg hx,hn]
   have hl:=h.lo _ n hn;have hh:=h.hi _ n hn;have hv:=h.vars _ n hn;rw [dO h (by omega) hn,dO h (by omega) hn,hs n.var (by omega) hv.2]
   cases m with
   | zero=>omega
   | succ m=>
    split
    ·exact dG h m _ hh.1 (by omega) λw hw hw2=>hs w (by omega) hw2
    exact dG h m _ hl.1 (by omega) λw hw hw2=>hs w (by omega) hw2
def asg (v:Int) (l:List Bool):Int→Bool:=λw=>decide (v≤w)&&l.getD (w - v).toNat false
theorem gN {v:Int} {b:Bool} {l:List Bool} {w:Int} (h:v < w):asg v (b :: l) w=asg (v+1) l w:=by
 unfold asg;rw [decide_eq_true (show v≤w by omega),decide_eq_true (show v+1≤w by omega),show (w - v).toNat=(w - (v+1)).toNat+1 by omega];rfl
theorem lL (v:Int) (b:Bool) (l:List Bool):asg v (b :: l) v=b:=by
 unfold asg;rw [decide_eq_true (Int.le_refl v),Int.sub_self];rfl
def fnD (D:List Node) (x v:Int):Fn:=λl=>eI D x (asg v l)
def InD (D:List Node) (x:Int):Prop:=0≤x∧x < (D.length:Int)+2
theorem InD.get {D:List Node} {x:Int} (h:InD D x) (hx:2≤x):∃ n,D[(x - 2).toNat]?=some n:=⟨_,zQR (by have:=h.2;omega)⟩
theorem dN {D:List Node} (h:WfD D) (x:Int):aI D x≤64:=by
 unfold aI;split
 ·omega
 split
 ·rename_i n hn;have:=h.vars _ n hn;omega
 omega
theorem jJ {D:List Node} (h:WfD D) {x v:Int} (h0:0≤x) (hv:v < aI D x) (b:Bool) (l:List Bool):fnD D x v (b :: l)=fnD D x (v+1) l:=
 dG h x.toNat x h0 (zQW _) λw hw _=>gN (by omega)
theorem gK {D:List Node} (h:WfD D):∀ (k:Nat) (x v:Int),InD D x→v≤aI D x→(aI D x < 64→aI D x < v+k)→(∀ (i:Nat) (n:Node),D[i]?=some n→n.var < v+k)→Has D k (fnD D x v) v x
 | 0,x,v,hx,hv,hw,hall=>by
  have hlt:x < 2:=by
   rcases Int.lt_or_le x 2 with h1|h1
   ·exact h1
   obtain⟨n,hn⟩:=hx.get h1;have hvx:aI D x=n.var:=by unfold aI;rw [if_neg (by omega),hn]
   have:=hall _ n hn;omega
  have h0:=hx.1;rcases (by omega:x=0∨x=1) with e|e<;>subst e<;>rfl
 | k+1,x,v,hx,hv,hw,hall=>by
  by_cases he:aI D x=v∧2≤x
  ·obtain⟨n,hn⟩:=hx.get he.2;have hvx:aI D x=n.var:=by unfold aI;rw [if_neg (by omega),hn]
   have hl:=h.lo _ n hn;have hh:=h.hi _ n hn;have hin:∀ c:Int,0≤c→c < (((x - 2).toNat:Nat):Int)+2→InD D c:=λc a b=>⟨a,by have:=hx.2;omega⟩
   have sub:∀ c:Int,InD D c→aI D c < 64→aI D c < v+1+(k:Int):=λc hc hc2=>by
    unfold aI at hc2 ⊢;by_cases h2:c < 2
    ·rw [if_pos h2] at hc2;omega
    obtain ⟨q, hq⟩ := hc.get (by omega);rw [if_neg h2,hq];have:=hall _ q hq;dsimp only;omega
   have f0:∀ l:List Bool,fnD D x v (false :: l)=fnD D n.lo (v+1) l:=λl=>by
    show eI D x _=eI D n.lo _;rw [dO h he.2 hn,show n.var=v by omega,lL,if_neg (by simp)];exact dG h n.lo.toNat n.lo hl.1 (zQW _) λw hw2 _=>gN (by omega)
   have f1:∀ l:List Bool,fnD D x v (true :: l)=fnD D n.hi (v+1) l:=λl=>by
    show eI D x _=eI D n.hi _;rw [dO h he.2 hn,show n.var=v by omega,lL,if_pos rfl];exact dG h n.hi.toNat n.hi hh.1 (zQW _) λw hw2 _=>gN (by omega)
   refine⟨n.lo,n.hi,?_,?_,?_⟩
   ·exact (gK h k n.lo (v+1) (hin _ hl.1 hl.2.1) (by omega) (sub _ (hin _ hl.1 hl.2.1)) λi q hq=>by have:=hall i q hq;omega).congr λl _=>(f0 l).symm
   ·exact (gK h k n.hi (v+1) (hin _ hh.1 hh.2.1) (by omega) (sub _ (hin _ hh.1 hh.2.1)) λi q hq=>by have:=hall i q hq;omega).congr λl _=>(f1 l).symm
   rw [if_neg (h.ne _ n hn)];refine⟨he.2,?_⟩;rw [hn,show v=n.var by omega]
  have hlt : v < aI D x ∨ x < 2 := by omega
  have hsk:∀ (b:Bool) (l:List Bool),fnD D x v (b :: l)=fnD D x (v+1) l:=λb l=>by
   rcases hlt with h1|h1
   ·exact jJ h hx.1 h1 b l
   have h0:=hx.1;rcases (by omega:x=0∨x=1) with e|e<;>subst e<;>rfl
  have hv2:v+1≤aI D x∨x < 2:=by omega
  refine Has.skip (λl _=>by rw [hsk,hsk]) ?_;by_cases h2:x < 2
  ·have h0:=hx.1;have hb:x=aW (decide (x=1)):=by rcases (by omega:x=0∨x=1) with e|e<;>subst e<;>rfl
   have hcst:∀ l:List Bool,fnD D x v (false :: l)=decide (x=1):=λl=>by rcases (by omega:x=0∨x=1) with e|e<;>subst e<;>rfl
   have:=Has.const (D:=D) (decide (x=1)) (k:=k) (f:=λl=>fnD D x v (false :: l)) (v:=v+1) (λl _=>hcst l);rw [← hb] at this;exact this
  exact (gK h k x (v+1) hx (by omega) (λh64=>by have:=hw h64;omega) λi q hq=>by have:=hall i q hq;omega).congr λl _=>(hsk false l).symm
def hU (D:List Node):Nat→Int→Int→Option Int
 | 0,_,_=>none
 | f+1,x,left=>if x < 2∨x < left then some left else match D[(x - 2).toNat]? with
  | none=>none
  | some n=>(hU D f n.lo left).bind λl1=>(hU D f n.hi l1).bind λl2=>if x=l2 then some (l2+1) else none
theorem WfD.take {D:List Node} (h:WfD D) (m:Nat):WfD (D.take m):=by
 have hg:∀ (i:Nat) (n:Node),(D.take m)[i]?=some n→D[i]?=some n∧i < m:=λi n hn=>by
  rw [List.getElem?_take] at hn;split at hn
  ·exact⟨hn,by assumption⟩
  cases hn
 have hv:∀ (i:Nat) (c:Int),i < m→c < (i:Int)+2→aI (D.take m) c=aI D c:=λi c hi hc=>by
  unfold aI;split
  ·rfl
  rw [List.getElem?_take,if_pos (by omega)]
 refine⟨λi n hn=>h.vars i n (hg i n hn).1,λi n hn=>?_,λi n hn=>?_,λi n hn=>h.ne i n (hg i n hn).1⟩
 ·have h1:=hg i n hn;have h2:=h.lo i n h1.1;rw [hv i _ h1.2 h2.2.1];exact h2
 have h1:=hg i n hn;have h2:=h.hi i n h1.1;rw [hv i _ h1.2 h2.2.1];exact h2
theorem kR {D:List Node} (h:WfD D) (m:Nat) (s:Int→Bool):∀ (q:Nat) (x:Int),0≤x→x.toNat≤q→x < (m:Int)+2→eI (D.take m) x s=eI D x s
 | q,x,h0,hq,hm=>by
  by_cases hx:x < 2
  ·rcases (by omega:x=0∨x=1) with e|e<;>subst e<;>rfl
  have hg : (D.take m)[(x - 2).toNat]? = D[(x - 2).toNat]? := by rw [List.getElem?_take, if_pos (by omega)]
  cases hn:D[(x - 2).toNat]? with
  | none=>
   unfold eI;obtain⟨z,hz⟩:∃ z:Nat,x.toNat=z+1:=⟨x.toNat - 1,by omega⟩;rw [hz];unfold evF;rw [if_neg hx,if_neg hx,hg,hn]
  | some n=>
   have hl:=h.lo _ n hn;have hh:=h.hi _ n hn;rw [dO (h.take m) (by omega) (hg.trans hn),dO h (by omega) hn]
   cases q with
   | zero=>omega
   | succ q=>
    split
    ·exact kR h m s q _ hh.1 (by omega) (by omega)
    exact kR h m s q _ hl.1 (by omega) (by omega)
theorem pZ {D:List Node} {m:Nat} {c:Int} (hc:c < (m:Int)+2):aI (D.take m) c=aI D c:=by
 unfold aI;split
 ·rfl
 rw [List.getElem?_take,if_pos (by omega)]
theorem qBS {D:List Node} (h:WfD D) {m:Nat} {x v:Int} (h0:0≤x) (hx:x < (m:Int)+2) (l:List Bool):fnD (D.take m) x v l=fnD D x v l:=kR h m _ x.toNat x h0 (zQW _) hx
theorem zX {D:List Node} (h:WfD D) {x:Int} {n:Node} (hx:2≤x) (hn:D[(x - 2).toNat]?=some n) (l:List Bool):fnD D x n.var (false :: l)=fnD D n.lo (n.var+1) l:=by
 have hl:=h.lo _ n hn;show eI D x _=eI D n.lo _;rw [dO h hx hn,lL,if_neg (by simp)];exact dG h n.lo.toNat n.lo hl.1 (zQW _) λw hw2 _=>gN (by omega)
theorem zZ {D:List Node} (h:WfD D) {x:Int} {n:Node} (hx:2≤x) (hn:D[(x - 2).toNat]?=some n) (l:List Bool):fnD D x n.var (true :: l)=fnD D n.hi (n.var+1) l:=by
 have hl:=h.hi _ n hn;show eI D x _=eI D n.hi _;rw [dO h hx hn,lL,if_pos rfl];exact dG h n.hi.toNat n.hi hl.1 (zQW _) λw hw2 _=>gN (by omega)
theorem xA {D:List Node} (h:WfD D) (hnd:D.Nodup) {k:Nat} {x v:Int} {m:Nat} (h0:0≤x) (hx:x < (m:Int)+2) (hxl:x < (D.length:Int)+2) (hv:v≤aI D x) (hall:∀ (i:Nat) (n:Node),D[i]?=some n→n.var < v+k):aD (D.take m) k (fnD D x v) v=(D.take m,x):=by
 have hin:InD (D.take m) x:=⟨h0,by rw [List.length_take];omega⟩
 have hall2:∀ (i:Nat) (n:Node),(D.take m)[i]?=some n→n.var < v+k:=λi n hn=>by
  rw [List.getElem?_take] at hn;split at hn
  ·exact hall i n hn
  cases hn
 refine cC (hnd.sublist (List.take_sublist m D)) ?_;refine (gK (h.take m) k x v hin (by rw [pZ hx];exact hv) (λhlt=>?_) hall2).congr λl _=>qBS h h0 hx l;rw [pZ hx] at hlt ⊢;unfold aI at hlt ⊢;by_cases h2:x < 2
 ·rw [if_pos h2] at hlt;omega
 obtain ⟨n, hn⟩ := (show InD D x from ⟨h0, hxl⟩).get (by omega);rw [if_neg h2,hn];have:=hall _ n hn;dsimp only;omega
theorem nP {D:List Node} (h:WfD D) (hnd:D.Nodup):∀ (f k:Nat) (x v left left':Int),hU D f x left=some left'→InD D x→2≤left→left≤(D.length:Int)+2→v≤aI D x→(∀ (i:Nat) (n:Node),D[i]?=some n→n.var < v+k)→aD (D.take (left - 2).toNat) k (fnD D x v) v=(D.take (left' - 2).toNat,x)∧left≤left'∧left'≤(D.length:Int)+2
 | 0,k,x,v,left,left',hvis,_,_,_,_,_=>by cases hvis
 | f+1,k,x,v,left,left',hvis,hx,hl1,hl2,hv,hall=>by
  by_cases hs:x < 2∨x < left
  ·unfold hU at hvis;rw [if_pos hs] at hvis;cases hvis;exact⟨xA h hnd hx.1 (by omega) hx.2 hv hall,by omega,hl2⟩
  have hx2 : 2 ≤ x := by omega
  obtain⟨n,hn⟩:=hx.get hx2;have hvx:aI D x=n.var:=by unfold aI;rw [if_neg (by omega),hn]
  have hvis0:=hvis;unfold hU at hvis;rw [if_neg hs,hn] at hvis;dsimp only at hvis
  cases e1:hU D f n.lo left with
  | none=>rw [e1] at hvis;cases hvis
  | some l1=>
   rw [e1] at hvis;simp only [Option.bind_some] at hvis
   cases e2:hU D f n.hi l1 with
   | none=>rw [e2] at hvis;cases hvis
   | some l2=>
    rw [e2] at hvis;simp only [Option.bind_some] at hvis;by_cases hxl:x=l2
    ·rw [if_pos hxl] at hvis;have hl':left'=l2+1:=(Option.some.inj hvis).symm;have hlo:=h.lo _ n hn;have hhi:=h.hi _ n hn;have hvars:=h.vars _ n hn;have inlo:InD D n.lo:=⟨hlo.1,by have:=hx.2;omega⟩;have inhi:InD D n.hi:=⟨hhi.1,by have:=hx.2;omega⟩
     have down:∀ (d:Nat) (v:Int) (k:Nat),n.var=v+d→(∀ (i:Nat) (n:Node),D[i]?=some n→n.var < v+k)→aD (D.take (left - 2).toNat) k (fnD D x v) v=(D.take (left' - 2).toNat,x)∧left≤left'∧left'≤(D.length:Int)+2:=by
      intro d
      induction d with
      | zero=>
       intro v k hd hall;have hvn:v=n.var:=by omega
       subst hvn;have hk:=hall _ n hn;obtain⟨q,rfl⟩:∃ q,k=q+1:=⟨k - 1,by omega⟩;have hall':∀ (i:Nat) (z:Node),D[i]?=some z→z.var < n.var+1+q:=λi z hz=>by have:=hall i z hz;omega
       have r1:=nP h hnd f q n.lo (n.var+1) left l1 e1 inlo hl1 hl2 (by omega) hall';have r2:=nP h hnd f q n.hi (n.var+1) l1 l2 e2 inhi (by omega) r1.2.2 (by omega) hall'
       have f0:aD (D.take (left - 2).toNat) q (λl=>fnD D x n.var (false :: l)) (n.var+1)=(D.take (l1 - 2).toNat,n.lo):=by
        rw [bJ (g:=fnD D n.lo (n.var+1)) λl _=>zX h hx2 hn l];exact r1.1
       have f1:aD (D.take (l1 - 2).toNat) q (λl=>fnD D x n.var (true :: l)) (n.var+1)=(D.take (l2 - 2).toNat,n.hi):=by
        rw [bJ (g:=fnD D n.hi (n.var+1)) λl _=>zZ h hx2 hn l];exact r2.1
       refine⟨?_,by omega,by have:=hx.2;omega⟩;show bH (aD (aD (D.take (left - 2).toNat) q (λl=>fnD D x n.var (false :: l)) (n.var+1)).1 q (λl=>fnD D x n.var (true :: l)) (n.var+1)).1 _=_;rw [f0];dsimp only;rw [f1];unfold bH;dsimp only;rw [if_neg (h.ne _ n hn)]
       have hnf:(D.take (l2 - 2).toNat).findIdx? (λm=>decide (m=n))=none:=by
        rw [List.findIdx?_eq_none_iff];intro z hz;refine decide_eq_false λhe=>?_;subst he;obtain⟨i,hi,hie⟩:=List.mem_take_iff_getElem.1 hz;have hxl2:(x - 2).toNat < D.length:=(zQQ.1 hn).1
        have hne:D[i]'(by omega)≠D[(x - 2).toNat]:=by
         unfold List.Nodup at hnd;rw [List.pairwise_iff_getElem] at hnd;exact hnd i _ (by omega) hxl2 (by omega)
        exact hne (by rw [hie,(zQQ.1 hn).2])
       rw [hnf];dsimp only;have hlen:(D.take (l2 - 2).toNat).length=(l2 - 2).toNat:=by rw [List.length_take];have:=hx.2;omega
       rw [hlen,show (((l2 - 2).toNat:Nat):Int)+2=x by omega,show (left' - 2).toNat=(l2 - 2).toNat+1 by omega,List.take_add_one,show (l2 - 2).toNat=(x - 2).toNat by omega,hn];rfl
      | succ d ih=>
       intro v k hd hall;have hk:=hall _ n hn;obtain⟨q,rfl⟩:∃ q,k=q+1:=⟨k - 1,by omega⟩;have hsk:∀ (b:Bool) (l:List Bool),fnD D x v (b :: l)=fnD D x (v+1) l:=λb l=>jJ h hx.1 (by omega) b l;rw [oH (hnd.sublist (List.take_sublist _ D)) λl _=>by rw [hsk,hsk],bJ (g:=fnD D x (v+1)) λl _=>hsk false l];exact ih (v+1) q (by omega) λi z hz=>by have:=hall i z hz;omega
     exact down (n.var - v).toNat v k (by omega) hall
    rw [if_neg hxl] at hvis;cases hvis
theorem uH {D:List Node} (h:WfD D) (hnd:D.Nodup) {f:Nat} {root:Int} (hr:InD D root) (hv:hU D f root 2=some ((D.length:Int)+2)) {k:Nat} (hall:∀ (i:Nat) (n:Node),D[i]?=some n→n.var < (k:Int)):aD [] k (fnD D root 0) 0=(D,root):=by
 have h0:(0:Int)≤aI D root:=by
  unfold aI;split
  ·omega
  split
  ·rename_i n hn;exact (h.vars _ n hn).1
  omega
 have:=(nP h hnd f k root 0 2 _ hv hr (by omega) (by omega) h0 λi n hn=>by have:=hall i n hn;omega).1;rw [show (D.take (((2:Int) - 2).toNat))=[] from rfl] at this;rw [this,show ((D.length:Int)+2 - 2).toNat=D.length by omega,List.take_length]
def dJ (x:Int):Int:=if x < 2 then 1 - x else x
def dZ (n:Node):Node:=⟨n.var,dJ n.lo,dJ n.hi⟩
def NN (D:List Node):Prop:=∀ n∈D,0≤n.lo∧0≤n.hi
theorem oR {x y:Int} (hx:0≤x) (hy:0≤y):dJ x=dJ y↔x=y:=by unfold dJ;split<;>split<;>omega
theorem yZ {n m:Node} (hn:0≤n.lo∧0≤n.hi) (hm:0≤m.lo∧0≤m.hi):dZ n=dZ m↔n=m:=by
 cases n;cases m;simp only [dZ,Node.mk.injEq] at *;rw [oR hn.1 hm.1,oR hn.2 hm.2]
theorem qDJ {D:List Node} (h:NN D) {n:Node} (hn:0≤n.lo∧0≤n.hi):NN (bH D n).1∧0≤(bH D n).2:=by
 unfold bH;split
 ·exact⟨h,hn.1⟩
 split
 ·exact⟨h,by dsimp only;omega⟩
 refine ⟨fun m hm => ?_, by dsimp only; omega⟩;rcases zQN.1 hm with hm|hm
 ·exact h m hm
 rw [List.mem_singleton] at hm;subst hm;exact hn
theorem kZ:∀ (k:Nat) {D:List Node} (f:Fn) (v:Int),NN D→NN (aD D k f v).1∧0≤(aD D k f v).2
 | 0,D,f,v,h=>⟨h,by show 0≤aW _;unfold aW;split<;>omega⟩
 | k+1,D,f,v,h=>by
  have h1:=kZ k (λl=>f (false :: l)) (v+1) h;have h2:=kZ k (λl=>f (true :: l)) (v+1) h1.1;exact qDJ h2.1 ⟨h1.2,h2.2⟩
theorem qAQ {D:List Node} (h:NN D) {n:Node} (hn:0≤n.lo∧0≤n.hi):bH (D.map dZ) (dZ n)=((bH D n).1.map dZ,dJ (bH D n).2):=by
 unfold bH;by_cases he:n.lo=n.hi
 ·rw [if_pos (show (dZ n).lo = (dZ n).hi by show dJ n.lo = dJ n.hi; rw [he]), if_pos he];rfl
 rw [if_neg (show ¬ (dZ n).lo = (dZ n).hi by show ¬ dJ n.lo = dJ n.hi; rw [oR hn.1 hn.2]; exact he), if_neg he, List.findIdx?_map]
 have hc:D.findIdx? ((λm=>decide (m=dZ n)) ∘ dZ)=D.findIdx? (λm=>decide (m=n)):=by
  have:∀ E:List Node,NN E→E.findIdx? ((λm=>decide (m=dZ n)) ∘ dZ)=E.findIdx? (λm=>decide (m=n)):=by
   intro E
   induction E with
   | nil=>intro _;rfl
   | cons m r ih=>
    intro hE;rw [List.findIdx?_cons,List.findIdx?_cons,ih λx hx=>hE x (List.mem_cons_of_mem _ hx)]
    have hm:((λm=>decide (m=dZ n)) ∘ dZ) m=decide (m=n):=by
     show decide (dZ m=dZ n)=decide (m=n);rw [Bool.eq_iff_iff,decide_eq_true_eq,decide_eq_true_eq,yZ (hE m List.mem_cons_self) hn]
    rw [hm]
  exact this D h
 rw [hc]
 cases D.findIdx? (λm=>decide (m=n)) with
 | some i=>dsimp only;rw [show dJ ((i:Int)+2)=(i:Int)+2 by unfold dJ;rw [if_neg (by omega)]]
 | none=>
  dsimp only;rw [zQC,List.map_append,show dJ ((D.length:Int)+2)=(D.length:Int)+2 by unfold dJ;rw [if_neg (by omega)]];rfl
theorem oF : ∀ (k : Nat) {D : List Node} (f : Fn) (v : Int), NN D → aD (D.map dZ) k (fun l => !f l) v = ((aD D k f v).1.map dZ, dJ (aD D k f v).2)
 | 0,D,f,v,h=>by
  show (D.map dZ,aW (!f []))=(D.map dZ,dJ (aW (f [])));cases f []<;>rfl
 | k+1,D,f,v,h=>by
  have h1:=kZ k (λl=>f (false :: l)) (v+1) h;have h2:=kZ k (λl=>f (true :: l)) (v+1) h1.1;show bH (aD (aD (D.map dZ) k (λl=>!f (false :: l)) (v+1)).1 k (λl=>!f (true :: l)) (v+1)).1 _=_;rw [oF k (λl=>f (false :: l)) (v+1) h];dsimp only;rw [oF k (λl=>f (true :: l)) (v+1) h1.1];dsimp only;exact qAQ h2.1 (n:=⟨v,(aD D k (λl=>f (false :: l)) (v+1)).2,(aD (aD D k (λl=>f (false :: l)) (v+1)).1 k (λl=>f (true :: l)) (v+1)).2⟩) ⟨h1.2,h2.2⟩
theorem lN (D:List Node) (n:Node):(bH D n).1.length≤D.length+1:=by
 unfold bH;split
 ·simp
 split
 ·simp
 simp
theorem eA:∀ (k:Nat) (D:List Node) (f:Fn) (v:Int),(aD D k f v).1.length+1≤D.length+2 ^ k
 | 0,D,f,v=>by show D.length+1≤D.length+2 ^ 0;simp
 | k+1,D,f,v=>by
  have h1:=eA k D (λl=>f (false :: l)) (v+1);have h2:=eA k (aD D k (λl=>f (false :: l)) (v+1)).1 (λl=>f (true :: l)) (v+1);have h3:=lN (aD (aD D k (λl=>f (false :: l)) (v+1)).1 k (λl=>f (true :: l)) (v+1)).1 ⟨v,(aD D k (λl=>f (false :: l)) (v+1)).2,(aD (aD D k (λl=>f (false :: l)) (v+1)).1 k (λl=>f (true :: l)) (v+1)).2⟩;have h4:(aD D (k+1) f v).1.length≤(aD (aD D k (λl=>f (false :: l)) (v+1)).1 k (λl=>f (true :: l)) (v+1)).1.length+1:=h3;rw [Nat.pow_succ];omega
section merge
variable (A B:List Node) (op:Bool→Bool→Bool) (N:Int)
def fn2 (x y v:Int):Fn:=λl=>op (fnD A x v l) (fnD B y v l)
def Has2 (D:List Node) (x y r:Int):Prop:=∀ (v:Int) (k:Nat),v+k=N→v≤aI A x→v≤aI B y→Has D k (fn2 A B op x y v) v r
variable {A B} {op N}
theorem oQ (hA:WfD A) (hB:WfD B) {x y v:Int} (hx:0≤x) (hy:0≤y) (h1:v < aI A x) (h2:v < aI B y) (b:Bool) (l:List Bool):fn2 A B op x y v (b :: l)=fn2 A B op x y (v+1) l:=by
 unfold fn2;rw [jJ hA hx h1,jJ hB hy h2]
theorem qBQ (hA:WfD A) (hB:WfD B) {D:List Node} (hn:D.Nodup) {x y r:Int} (hx:0≤x) (hy:0≤y) {v:Int} {k:Nat} (hN:v+k=N) (h1:v≤aI A x) (h2:v≤aI B y) (h:Has D k (fn2 A B op x y v) v r):Has2 A B op N D x y r:=by
 have up:∀ (d:Nat) (v:Int) (k:Nat),v+d+k=N→v+d≤aI A x→v+d≤aI B y→Has D (d+k) (fn2 A B op x y v) v r→Has D k (fn2 A B op x y (v+d)) (v+d) r:=by
  intro d
  induction d with
  | zero=>intro v k _ _ _ h;simpa using h
  | succ d ih=>
   intro v k hN h1 h2 h;have hs:∀ (b:Bool) (l:List Bool),fn2 A B op x y v (b :: l)=fn2 A B op x y (v+1) l:=λb l=>oQ hA hB hx hy (by omega) (by omega) b l;rw [show d+1+k=(d+k)+1 by omega] at h;have h':=Has.unskip hn (λl _=>by rw [hs,hs]) h;have h'':=h'.congr (g:=fn2 A B op x y (v+1)) λl _=>hs false l;have:=ih (v+1) k (by omega) (by omega) (by omega) h'';rw [show v+((d+1:Nat):Int)=v+1+(d:Int) by omega];exact this
 have down:∀ (d:Nat) (v:Int) (k:Nat),v+d+k=N→v+d≤aI A x→v+d≤aI B y→Has D k (fn2 A B op x y (v+d)) (v+d) r→Has D (d+k) (fn2 A B op x y v) v r:=by
  intro d
  induction d with
  | zero=>intro v k _ _ _ h;simpa using h
  | succ d ih=>
   intro v k hN h1 h2 h;have hs:∀ (b:Bool) (l:List Bool),fn2 A B op x y v (b :: l)=fn2 A B op x y (v+1) l:=λb l=>oQ hA hB hx hy (by omega) (by omega) b l;rw [show v+((d+1:Nat):Int)=v+1+(d:Int) by omega] at h;have:=ih (v+1) k (by omega) (by omega) (by omega) h;rw [show d+1+k=(d+k)+1 by omega];exact Has.skip (λl _=>by rw [hs,hs]) (this.congr λl _=>(hs false l).symm)
 intro v' k' hN' h1' h2';rcases Int.lt_or_le v v' with hlt|hle
 ·have := up (v' - v).toNat v k' (by omega) (by omega) (by omega) (by rw [show (v' - v).toNat + k' = k by omega]; exact h)
  rwa [show v+((v' - v).toNat:Int)=v' by omega] at this
 have := down (v - v').toNat v' k (by omega) (by omega) (by omega) (by rw [show v' + ((v - v').toNat : Int) = v by omega]; exact h)
 rwa [show (v - v').toNat+k=k' by omega] at this
theorem Has2.mono {D E:List Node} (h:D <+: E) {x y r:Int} (hh:Has2 A B op N D x y r):Has2 A B op N E x y r:=λv k hN h1 h2=>(hh v k hN h1 h2).mono h
end merge
structure MS where
 nodes:List Node
 done:Int×Int→Option Int
 full:Bool
def cP (D:List Node) (x v:Int):Int×Int:=if aI D x=v then (match D[(x - 2).toNat]? with|some n=>(n.lo,n.hi)|none=>(x,x)) else (x,x)
def opQ (all:Bool):Bool→Bool→Bool:=λa b=>if all=true then a&&b else a||b
def cX (A B:List Node) (all:Bool):Nat→MS→Int→Int→MS×Int
 | 0,s,_,_=>(s,0)
 | f+1,s,x,y=>
  if s.full=true then (s,0)
  else if x=aW (!all)∨y=aW (!all) then (s,aW (!all))
  else if x=aW all∧y=aW all then (s,aW all)
  else match s.done (x,y) with
  | some r=>(s,r)
  | none=>
   let w:=min (aI A x) (aI B y)
   let a:=cX A B all f s (cP A x w).1 (cP B y w).1
   let b:=cX A B all f a.1 (cP A x w).2 (cP B y w).2
   let c:=bH b.1.nodes ⟨w,a.2,b.2⟩
   (⟨c.1,λp=>if p=(x,y) then some c.2 else b.1.done p,b.1.full||decide (20000 < c.1.length)⟩,c.2)
section
variable {A B:List Node} {all:Bool} {N:Int}
structure MOk (A B:List Node) (all:Bool) (N:Int) (s:MS):Prop where
 nodup:s.nodes.Nodup
 part:s.full=false
 done:∀ x y r,s.done (x,y)=some r→InD A x∧InD B y∧Has2 A B (opQ all) N s.nodes x y r
theorem lI {D:List Node} {x:Int} (h:InD D x) (hx:x < 2):x=aW (decide (x=1))∧∀ (v:Int) (l:List Bool),fnD D x v l=decide (x=1):=by
 have h0:=h.1;rcases (by omega:x=0∨x=1) with e|e<;>subst e
 ·exact⟨rfl,λv l=>rfl⟩
 exact⟨rfl,λv l=>rfl⟩
theorem zA (all b:Bool):opQ all (!all) b=!all∧opQ all b (!all)=!all:=by cases all<;>cases b<;>exact⟨rfl,rfl⟩
theorem op_oth (all:Bool):opQ all all all=all:=by cases all<;>rfl
theorem vH (D:List Node) (b:Bool) (v:Int) (l:List Bool):fnD D (aW b) v l=b:=vU D _ b
theorem wK (hA:WfD A) (hB:WfD B) {op:Bool→Bool→Bool} {D:List Node} (hn:D.Nodup) {x y:Int} (hx:0≤x) (hy:0≤y):∀ (d:Nat) (v:Int) (k:Nat),v+d≤aI A x→v+d≤aI B y→aD D (d+k) (fn2 A B op x y v) v=aD D k (fn2 A B op x y (v+d)) (v+d)
 | 0,v,k,_,_=>by simp
 | d+1,v,k,h1,h2=>by
  have hs:∀ (b:Bool) (l:List Bool),fn2 A B op x y v (b :: l)=fn2 A B op x y (v+1) l:=λb l=>oQ hA hB hx hy (by omega) (by omega) b l;rw [show d+1+k=(d+k)+1 by omega,oH hn λl _=>by rw [hs,hs],bJ (g:=fn2 A B op x y (v+1)) λl _=>hs false l,wK hA hB hn hx hy d (v+1) k (by omega) (by omega)];rw [show v+1+(d:Int)=v+((d+1:Nat):Int) by omega]
theorem nG {D:List Node} (h:WfD D) {x w:Int} (hx:InD D x) (hw:w≤aI D x) (hw2:w < 64):InD D (cP D x w).1∧InD D (cP D x w).2∧w+1≤aI D (cP D x w).1∧w+1≤aI D (cP D x w).2∧(∀ l,fnD D x w (false :: l)=fnD D (cP D x w).1 (w+1) l)∧(∀ l,fnD D x w (true :: l)=fnD D (cP D x w).2 (w+1) l):=by
 unfold cP;by_cases he:aI D x=w
 ·rw [if_pos he]
  have h2:2≤x:=by
   rcases Int.lt_or_le x 2 with h1|h1
   ·unfold aI at he;rw [if_pos h1] at he;omega
   exact h1
  obtain⟨n,hn⟩:=hx.get h2;have hvx:aI D x=n.var:=by unfold aI;rw [if_neg (by omega),hn]
  have hl:=h.lo _ n hn;have hh:=h.hi _ n hn;rw [hn];dsimp only;have hwn:w=n.var:=by omega
  subst hwn;exact⟨⟨hl.1,by have:=hx.2;omega⟩,⟨hh.1,by have:=hx.2;omega⟩,by omega,by omega,zX h h2 hn,zZ h h2 hn⟩
 rw [if_neg he];exact⟨hx,hx,by dsimp only;omega,by dsimp only;omega,λl=>jJ h hx.1 (by omega) false l,λl=>jJ h hx.1 (by omega) true l⟩
theorem fJ (hA:WfD A) (hB:WfD B) (hN:N≤64) (hAN:∀ (i:Nat) (n:Node),A[i]?=some n→n.var < N) (hBN:∀ (i:Nat) (n:Node),B[i]?=some n→n.var < N):∀ (f:Nat) (s:MS) (x y v:Int) (k:Nat),65≤(f:Int)+min (aI A x) (aI B y)→InD A x→InD B y→MOk A B all N s→v+k=N→v≤aI A x→v≤aI B y→s.nodes.length+2 ^ k≤20001→
  ((cX A B all f s x y).1.nodes,(cX A B all f s x y).2)=aD s.nodes k (fn2 A B (opQ all) x y v) v∧MOk A B all N (cX A B all f s x y).1
 | 0,s,x,y,v,k,hf,hx,hy,hs,hv,h1,h2,hlen=>by
  have:=dN hA x;omega
 | f+1,s,x,y,v,k,hf,hx,hy,hs,hv,h1,h2,hlen=>by
  unfold cX;rw [if_neg (by rw [hs.part];exact Bool.false_ne_true)];by_cases hd:x=aW (!all)∨y=aW (!all)
  ·rw [if_pos hd];refine⟨?_,hs⟩;rw [iJ hs.nodup (!all) λl _=>?_];unfold fn2;rcases hd with e|e<;>rw [e,vH]
   ·exact (zA all _).1
   exact (zA all _).2
  rw [if_neg hd];by_cases ho:x=aW all∧y=aW all
  ·rw [if_pos ho];refine⟨?_,hs⟩;rw [iJ hs.nodup all λl _=>?_];unfold fn2;rw [ho.1,ho.2,vH,vH];exact op_oth all
  rw [if_neg ho]
  cases hm:s.done (x,y) with
  | some r=>
   dsimp only;refine⟨?_,hs⟩;exact (cC hs.nodup ((hs.done x y r hm).2.2 v k hv h1 h2)).symm
  | none=>
   dsimp only;have hvA:=dN hA x;have hvB:=dN hB y
   have hlt:min (aI A x) (aI B y) < N:=by
    rcases Int.lt_or_le x 2 with hx2|hx2
    ·rcases Int.lt_or_le y 2 with hy2|hy2
     ·exfalso;have cx:=(lI hx hx2).1;have cy:=(lI hy hy2).1;have bb:∀ b:Bool,aW b=aW all∨aW b=aW (!all):=λb=>by cases b<;>cases all<;>simp [aW]
      rcases bb (decide (x=1)) with e1|e1
      ·rcases bb (decide (y=1)) with e2|e2
       ·exact ho ⟨cx.trans e1,cy.trans e2⟩
       exact hd (.inr (cy.trans e2))
      exact hd (.inl (cx.trans e1))
     obtain⟨n,hn⟩:=hy.get hy2;have:aI B y=n.var:=by unfold aI;rw [if_neg (by omega),hn]
     have:=hBN _ n hn;omega
    obtain⟨n,hn⟩:=hx.get hx2;have:aI A x=n.var:=by unfold aI;rw [if_neg (by omega),hn]
    have:=hAN _ n hn;omega
   obtain⟨w,hw⟩:∃ w,w=min (aI A x) (aI B y):=⟨_,rfl⟩;rw [← hw];rw [← hw] at hlt hf;obtain⟨d,hdv⟩:∃ d:Nat,w=v+d:=⟨(w - v).toNat,by omega⟩;obtain⟨q,hq⟩:∃ q:Nat,k=d+(q+1):=⟨k - d - 1,by omega⟩;have KA:=nG hA hx (w:=w) (by omega) (by omega);have KB:=nG hB hy (w:=w) (by omega) (by omega);have hpow:2 ^ (q+1)≤2 ^ k:=Nat.pow_le_pow_right (by omega) (by omega);rw [Nat.pow_succ] at hpow;have h2q:0 < 2 ^ q:=Nat.pos_of_ne_zero (by simp)
   have e0:aD s.nodes k (fn2 A B (opQ all) x y v) v=aD s.nodes (q+1) (fn2 A B (opQ all) x y w) w:=by
    rw [hq,wK hA hB hs.nodup hx.1 hy.1 d v (q+1) (by omega) (by omega),← hdv]
   have f0:∀ l:List Bool,fn2 A B (opQ all) x y w (false :: l)=fn2 A B (opQ all) (cP A x w).1 (cP B y w).1 (w+1) l:=λl=>by unfold fn2;rw [KA.2.2.2.2.1,KB.2.2.2.2.1]
   have f1:∀ l:List Bool,fn2 A B (opQ all) x y w (true :: l)=fn2 A B (opQ all) (cP A x w).2 (cP B y w).2 (w+1) l:=λl=>by unfold fn2;rw [KA.2.2.2.2.2,KB.2.2.2.2.2]
   have r1:=fJ hA hB hN hAN hBN f s (cP A x w).1 (cP B y w).1 (w+1) q (by omega) KA.1 KB.1 hs (by omega) KA.2.2.1 KB.2.2.1 (by omega);generalize cX A B all f s (cP A x w).1 (cP B y w).1=a at r1;have l1:=eA q s.nodes (fn2 A B (opQ all) (cP A x w).1 (cP B y w).1 (w+1)) (w+1);rw [← r1.1] at l1;dsimp only at l1;have r2:=fJ hA hB hN hAN hBN f a.1 (cP A x w).2 (cP B y w).2 (w+1) q (by omega) KA.2.1 KB.2.1 r1.2 (by omega) KA.2.2.2.1 KB.2.2.2.1 (by omega);generalize cX A B all f a.1 (cP A x w).2 (cP B y w).2=b at r2;have l2:=eA q a.1.nodes (fn2 A B (opQ all) (cP A x w).2 (cP B y w).2 (w+1)) (w+1);rw [← r2.1] at l2;dsimp only at l2
   have e1:aD s.nodes (q+1) (fn2 A B (opQ all) x y w) w=bH b.1.nodes ⟨w,a.2,b.2⟩:=by
    show bH (aD (aD s.nodes q (λl=>fn2 A B (opQ all) x y w (false :: l)) (w+1)).1 q (λl=>fn2 A B (opQ all) x y w (true :: l)) (w+1)).1 _=_;rw [bJ (g:=fn2 A B (opQ all) (cP A x w).1 (cP B y w).1 (w+1)) λl _=>f0 l,← r1.1];dsimp only;rw [bJ (g:=fn2 A B (opQ all) (cP A x w).2 (cP B y w).2 (w+1)) λl _=>f1 l,← r2.1]
   have hp:s.nodes <+: (bH b.1.nodes ⟨w,a.2,b.2⟩).1:=by rw [← e1];exact bB _ _ _ _
   have hp2:=fX b.1.nodes ⟨w,a.2,b.2⟩;have hnd:=pG r2.2.nodup ⟨w,a.2,b.2⟩;have hl:=lN b.1.nodes ⟨w,a.2,b.2⟩
   have hhas:Has (bH b.1.nodes ⟨w,a.2,b.2⟩).1 k (fn2 A B (opQ all) x y v) v (bH b.1.nodes ⟨w,a.2,b.2⟩).2:=by
    have:=bY k s.nodes (fn2 A B (opQ all) x y v) v;rw [e0,e1] at this;exact this
   refine⟨by rw [e0,e1],hnd,?_,λx' y' r' hr'=>?_⟩
   ·dsimp only;rw [r2.2.part,Bool.false_or];exact decide_eq_false (by omega)
   dsimp only at hr' ⊢;by_cases he:(x',y')=(x,y)
   ·rw [if_pos he] at hr';cases hr';obtain⟨rfl,rfl⟩:=Prod.mk.inj he;exact⟨hx,hy,qBQ hA hB hnd hx.1 hy.1 hv h1 h2 hhas⟩
   rw [if_neg he] at hr';have:=r2.2.done x' y' r' hr';exact⟨this.1,this.2.1,this.2.2.mono hp2⟩
end
theorem eV {D:List Node} (h:WfD D):∀ {k:Nat} {f:Fn} {v x:Int},Has D k f v x→0≤x∧x < (D.length:Int)+2∧(aI D x < 64→v≤aI D x∧aI D x < v+k)∧∀ l,l.length=k→eI D x (asg v l)=f l
 | 0,f,v,x,hh=>by
  have hx:x=aW (f []):=hh;have hb:x=0∨x=1:=by rw [hx];unfold aW;split<;>simp
  have hv:aI D x=64:=by unfold aI;rw [if_pos (by omega)]
  refine⟨by omega,by omega,λh=>by omega,λl hl=>?_⟩;rw [hx,vU,List.eq_nil_of_length_eq_zero hl]
 | k+1,f,v,x,⟨lo,hi,h1,h2,h3⟩=>by
  have r1:=eV h h1;have r2:=eV h h2;by_cases he:lo=hi
  ·rw [if_pos he] at h3;subst h3;refine⟨r1.1,r1.2.1,λhlt=>by have:=r1.2.2.1 hlt;omega,λl hl=>?_⟩
   cases l with
   | nil=>cases hl
   | cons b l=>
    have hl':l.length=k:=by simpa using hl
    have hcg : eI D x (asg v (b :: l)) = eI D x (asg (v + 1) l) := dG h x.toNat x r1.1 (zQW _) fun w hw hw2 => gN (by
     have := r1.2.2.1 (by have := dN h x; omega)
     omega)
    rw [hcg];cases b
    ·exact r1.2.2.2 l hl'
    rw [← he] at r2;exact r2.2.2.2 l hl'
  rw [if_neg he] at h3;obtain⟨hx2,hn⟩:=h3;have hvx:aI D x=v:=by unfold aI;rw [if_neg (by omega),hn]
  have hlen:=(zQQ.1 hn).1;refine⟨by omega,by omega,λ_=>by omega,λl hl=>?_⟩
  cases l with
  | nil=>cases hl
  | cons b l=>
   have hl':l.length=k:=by simpa using hl
   cases b
   ·have:=zX h hx2 hn l;dsimp only at this;exact this.trans (r1.2.2.2 l hl')
   have:=zZ h hx2 hn l;dsimp only at this;exact this.trans (r2.2.2.2 l hl')
theorem fG {D E:List Node} (h:D <+: E) {x:Int} (hx:x < (D.length:Int)+2):aI E x=aI D x:=by
 obtain⟨t,rfl⟩:=h;unfold aI;split
 ·rfl
 rw [List.getElem?_append_left (by omega)]
theorem qDH {D:List Node} (h:WfD D) {n:Node} (hv:0≤n.var∧n.var < 64) (hl:0≤n.lo∧n.lo < (D.length:Int)+2∧n.var < aI D n.lo) (hh:0≤n.hi∧n.hi < (D.length:Int)+2∧n.var < aI D n.hi):WfD (bH D n).1:=by
 unfold bH;by_cases he:n.lo=n.hi
 ·rw [if_pos he];exact h
 rw [if_neg he];split
 ·exact h
 dsimp only;have hp:D <+: D++[n]:=List.prefix_append _ _
 have hc:∀ (i:Nat) (m:Node),(D++[n])[i]?=some m→D[i]?=some m∧i < D.length∨i=D.length∧m=n:=λi m hm=>by
  rcases Nat.lt_or_ge i D.length with h1|h1
  ·rw [List.getElem?_append_left h1] at hm;exact .inl ⟨hm,h1⟩
  rw [List.getElem?_append_right h1] at hm;rcases Nat.eq_or_lt_of_le h1 with h2|h2
  ·rw [← h2,Nat.sub_self] at hm;exact .inr ⟨h2.symm,(Option.some.inj hm).symm⟩
  rw [List.getElem?_eq_none (by simp;omega)] at hm;cases hm
 refine⟨λi m hm=>?_,λi m hm=>?_,λi m hm=>?_,λi m hm=>?_⟩
 ·rcases hc i m hm with ⟨h1,_⟩|⟨_,rfl⟩
  ·exact h.vars i m h1
  exact hv
 ·rcases hc i m hm with ⟨h1,h2⟩|⟨rfl,rfl⟩
  ·have:=h.lo i m h1;rw [fG hp (by omega)];exact this
  rw [fG hp (by omega)];exact hl
 ·rcases hc i m hm with ⟨h1,h2⟩|⟨rfl,rfl⟩
  ·have:=h.hi i m h1;rw [fG hp (by omega)];exact this
  rw [fG hp (by omega)];exact hh
 rcases hc i m hm with ⟨h1,_⟩|⟨_,rfl⟩
 ·exact h.ne i m h1
 exact he
theorem gF:∀ (k:Nat) {D:List Node} (f:Fn) (v:Int),WfD D→0≤v→v+k≤64→WfD (aD D k f v).1
 | 0,D,f,v,h,_,_=>h
 | k+1,D,f,v,h,h0,h64=>by
  have w1:=gF k (λl=>f (false :: l)) (v+1) h (by omega) (by omega);have w2:=gF k (λl=>f (true :: l)) (v+1) w1 (by omega) (by omega);have a1:=(bY k D (λl=>f (false :: l)) (v+1)).mono (bB k (aD D k (λl=>f (false :: l)) (v+1)).1 (λl=>f (true :: l)) (v+1));have a2:=bY k (aD D k (λl=>f (false :: l)) (v+1)).1 (λl=>f (true :: l)) (v+1);have r1:=eV w2 a1;have r2:=eV w2 a2;have q1:=dN w2 (aD D k (λl=>f (false :: l)) (v+1)).2;have q2:=dN w2 (aD (aD D k (λl=>f (false :: l)) (v+1)).1 k (λl=>f (true :: l)) (v+1)).2;refine qDH w2 (n:=⟨v,(aD D k (λl=>f (false :: l)) (v+1)).2,(aD (aD D k (λl=>f (false :: l)) (v+1)).1 k (λl=>f (true :: l)) (v+1)).2⟩) ⟨h0,by show v < 64;omega⟩ ⟨r1.1,r1.2.1,?_⟩ ⟨r2.1,r2.2.1,?_⟩
  ·dsimp only;have:=r1.2.2.1;omega
  dsimp only;have:=r2.2.2.1;omega
theorem fI:∀ (k:Nat) (D:List Node) (f:Fn) (v:Int) (i:Nat) (n:Node),(aD D k f v).1[i]?=some n→i < D.length∨v≤n.var∧n.var < v+k
 | 0,D,f,v,i,n,h=>.inl (zQQ.1 h).1
 | k+1,D,f,v,i,n,h=>by
  have s1:=fI k D (λl=>f (false :: l)) (v+1);have s2:=fI k (aD D k (λl=>f (false :: l)) (v+1)).1 (λl=>f (true :: l)) (v+1);have p1:=bB k D (λl=>f (false :: l)) (v+1);have h':(bH (aD (aD D k (λl=>f (false :: l)) (v+1)).1 k (λl=>f (true :: l)) (v+1)).1 ⟨v,(aD D k (λl=>f (false :: l)) (v+1)).2,(aD (aD D k (λl=>f (false :: l)) (v+1)).1 k (λl=>f (true :: l)) (v+1)).2⟩).1[i]?=some n:=h
  have two:∀ (i:Nat) (n:Node),(aD (aD D k (λl=>f (false :: l)) (v+1)).1 k (λl=>f (true :: l)) (v+1)).1[i]?=some n→i < D.length∨v≤n.var∧n.var < v+((k+1:Nat):Int):=λi n hn=>by
   rcases s2 i n hn with h1|h1
   ·have hp2 := bB k (aD D k (fun l => f (false :: l)) (v + 1)).1 (fun l => f (true :: l)) (v + 1)
    have hn1:(aD D k (λl=>f (false :: l)) (v+1)).1[i]?=some n:=by
     rw [← hn,fH hp2 (zQR h1),zQR h1]
    rcases s1 i n hn1 with h2|h2
    ·exact .inl h2
    exact .inr ⟨by omega,by omega⟩
   exact .inr ⟨by omega,by omega⟩
  unfold bH at h';dsimp only at h';split at h'
  ·exact two i n h'
  split at h'
  ·exact two i n h'
  dsimp only at h';rcases Nat.lt_or_ge i (aD (aD D k (λl=>f (false :: l)) (v+1)).1 k (λl=>f (true :: l)) (v+1)).1.length with h1|h1
  ·rw [List.getElem?_append_left h1] at h';exact two i n h'
  rw [List.getElem?_append_right h1] at h'
  have hi0:i - (aD (aD D k (λl=>f (false :: l)) (v+1)).1 k (λl=>f (true :: l)) (v+1)).1.length=0:=by
   have:=(zQQ.1 h').1;simpa using this
  rw [hi0] at h';have:=Option.some.inj h';subst this;exact .inr ⟨Int.le_refl _,by show v < v+((k+1:Nat):Int);omega⟩
def jQ (f:Fn):Nat→List Bool
 | 0=>[f []]
 | k+1=>jQ (λl=>f (false :: l)) k++jQ (λl=>f (true :: l)) k
theorem kS:∀ (k:Nat) (f:Fn),(jQ f k).length=2 ^ k
 | 0,f=>rfl
 | k+1,f=>by rw [jQ,zQL,kS k,kS k,Nat.pow_succ];omega
def eB:Nat→List (List Bool)
 | 0=>[[]]
 | k+1=>(eB k).map (false :: ·)++(eB k).map (true :: ·)
theorem qF:∀ k,(eB k).length=2 ^ k
 | 0=>rfl
 | k+1=>by rw [eB,zQL,zQC,zQC,qF k,Nat.pow_succ];omega
theorem qS:∀ (k:Nat) (f:Fn),jQ f k=(eB k).map f
 | 0,f=>rfl
 | k+1,f=>by rw [jQ,eB,List.map_append,List.map_map,List.map_map,qS k,qS k];rfl
def eM (D:List Node):Nat→List Bool→Int→List Node×Int
 | 0,T,_=>(D,aW (T.getD 0 false))
 | k+1,T,v=>
  let a:=eM D k (T.take (2 ^ k)) (v+1)
  let b:=eM a.1 k (T.drop (2 ^ k)) (v+1)
  bH b.1 ⟨v,a.2,b.2⟩
theorem oG:∀ (k:Nat) (D:List Node) (f:Fn) (v:Int),eM D k (jQ f k) v=aD D k f v
 | 0,D,f,v=>rfl
 | k+1,D,f,v=>by
  show bH (eM (eM D k ((jQ f (k+1)).take (2 ^ k)) (v+1)).1 k ((jQ f (k+1)).drop (2 ^ k)) (v+1)).1 _=bH (aD (aD D k (λl=>f (false :: l)) (v+1)).1 k (λl=>f (true :: l)) (v+1)).1 _;rw [show (jQ f (k+1)).take (2 ^ k)=jQ (λl=>f (false :: l)) k by rw [jQ,← kS k (λl=>f (false :: l)),List.take_left],show (jQ f (k+1)).drop (2 ^ k)=jQ (λl=>f (true :: l)) k by rw [jQ,← kS k (λl=>f (false :: l)),List.drop_left],oG k,oG k]
theorem nR {D E:List Node} (h:D <+: E) (hE:WfD E) {x:Int} (h0:0≤x) (hx:x < (D.length:Int)+2) (s:Int→Bool):eI D x s=eI E x s:=by
 have:D=E.take D.length:=by obtain⟨t,rfl⟩:=h;simp
 conv=>lhs;rw [this]
 exact kR hE D.length s x.toNat x h0 (zQW _) hx
theorem qBP {D E:List Node} (hp:D <+: E) (hD:WfD D) (hE:WfD E) {k:Nat} {f:Fn} {v x:Int} (hall:∀ (i:Nat) (n:Node),D[i]?=some n→n.var < v+k) (h64:v+k≤64) (h:Has E k f v x) (hx:x < (D.length:Int)+2):Has D k f v x:=by
 have r:=eV hE h;have hv:=fG hp hx;have hvl:=dN hE x;refine (gK hD k x v ⟨r.1,hx⟩ ?_ (λhlt=>?_) hall).congr λl hl=>?_
 ·rw [← hv];rcases Int.lt_or_le (aI E x) 64 with h1|h1
  ·exact (r.2.2.1 h1).1
  omega
 ·rw [← hv] at hlt ⊢;exact (r.2.2.1 hlt).2
 show eI D x (asg v l)=f l;rw [nR hp hE r.1 hx,r.2.2.2 l hl]
theorem lW:∀ (k:Nat) (D:List Node) (f:Fn) (v:Int) (F:List Node) (q:Nat),WfD D→D.Nodup→0≤v→v+k≤64→(∀ (i:Nat) (n:Node),D[i]?=some n→n.var < v+k)→(aD D k f v).1 <+: F→WfD F→k+1≤q→hU F q (aD D k f v).2 ((D.length:Int)+2)=some (((aD D k f v).1.length:Int)+2)
 | 0,D,f,v,F,q,hD,hn,h0,h64,hall,hF,hFw,hq=>by
  obtain⟨q,rfl⟩:∃ z,q=z+1:=⟨q - 1,by omega⟩;show hU F (q+1) (aW (f [])) _=some ((D.length:Int)+2);unfold hU;rw [if_pos (.inl (by unfold aW;split<;>omega))]
 | k+1,D,f,v,F,q,hD,hn,h0,h64,hall,hF,hFw,hq=>by
  obtain⟨q,rfl⟩:∃ z,q=z+1:=⟨q - 1,by omega⟩;have wE:=gF (k+1) f v hD h0 (by omega);have hhas:=bY (k+1) D f v;have hpD:=bB (k+1) D f v;have rE:=eV wE hhas;by_cases hx:(aD D (k+1) f v).2 < (D.length:Int)+2
  ·have hold := qBP hpD hD wE hall (by omega) hhas hx;have hid:=cC hn hold;unfold hU;rw [if_pos (.inr hx)];rw [show (aD D (k+1) f v).1=D from by rw [hid]]
  have w1 := gF k (fun l => f (false :: l)) (v + 1) hD (by omega) (by omega);have n1:=eN k (λl=>f (false :: l)) (v+1) hn;have vs1:=fI k D (λl=>f (false :: l)) (v+1);have hh1:=bY k D (λl=>f (false :: l)) (v+1);have ih1:=lW k D (λl=>f (false :: l)) (v+1)
  have hall1:∀ (i:Nat) (n:Node),(aD D k (λl=>f (false :: l)) (v+1)).1[i]?=some n→n.var < v+1+(k:Int):=λi n hin=>by
   rcases vs1 i n hin with h1|h1
   ·have hp1 := bB k D (fun l => f (false :: l)) (v + 1);have:D[i]?=some n:=by rw [← hin,fH hp1 (zQR h1),zQR h1]
    have:=hall i n this;omega
   omega
  have hp1:=bB k D (λl=>f (false :: l)) (v+1);have hE:aD D (k+1) f v=bH (aD (aD D k (λl=>f (false :: l)) (v+1)).1 k (λl=>f (true :: l)) (v+1)).1 ⟨v,(aD D k (λl=>f (false :: l)) (v+1)).2,(aD (aD D k (λl=>f (false :: l)) (v+1)).1 k (λl=>f (true :: l)) (v+1)).2⟩:=rfl;rw [hE] at hx hF wE rE ⊢;generalize aD D k (λl=>f (false :: l)) (v+1)=a at *;obtain⟨D1,lo⟩:=a;dsimp only at *;have w2:=gF k (λl=>f (true :: l)) (v+1) w1 (by omega) (by omega);have vs2:=fI k D1 (λl=>f (true :: l)) (v+1);have hh2:=bY k D1 (λl=>f (true :: l)) (v+1);have ih2:=lW k D1 (λl=>f (true :: l)) (v+1);have hp2:=bB k D1 (λl=>f (true :: l)) (v+1);have hid2:∀ x,Has D1 k (λl=>f (true :: l)) (v+1) x→aD D1 k (λl=>f (true :: l)) (v+1)=(D1,x):=λx h=>cC n1 h;generalize aD D1 k (λl=>f (true :: l)) (v+1)=b at *;obtain⟨D2,hi⟩:=b;dsimp only at *;by_cases he:lo=hi
  ·have hadd : bH D2 ⟨v, lo, hi⟩ = (D2, lo) := by unfold bH; rw [if_pos he]
   rw [hadd] at hx hF wE rE ⊢;dsimp only at *;have r1:=eV w1 hh1;have r2:=eV w2 hh2
   have hsame:Has D1 k (λl=>f (true :: l)) (v+1) lo:=hh1.congr λl hl=>by
    rw [← r1.2.2.2 l hl,← r2.2.2.2 l hl,nR hp2 w2 r1.1 r1.2.1,he]
   have hD2:=(Prod.mk.inj (hid2 lo hsame)).1;rw [hD2] at hF ⊢;exact ih1 F (q+1) hD hn (by omega) (by omega) (λi n hin=>by have:=hall i n hin;omega) hF hFw (by omega)
  have hadd:bH D2 ⟨v,lo,hi⟩=match D2.findIdx? (λm=>decide (m=⟨v,lo,hi⟩)) with|some i=>(D2,(i:Int)+2)|none=>(D2++[⟨v,lo,hi⟩],(D2.length:Int)+2):=by
   unfold bH;dsimp only;exact if_neg he
  cases hf:D2.findIdx? (λm=>decide (m=(⟨v,lo,hi⟩:Node))) with
  | some i=>
   exfalso;rw [hf] at hadd;rw [hadd] at hx;dsimp only at hx;rw [List.findIdx?_eq_some_iff_getElem] at hf;obtain⟨hil,hie,_⟩:=hf;have hin:D2[i]?=some ⟨v,lo,hi⟩:=by rw [zQR hil,of_decide_eq_true hie]
   rcases vs2 i _ hin with h1|h1
   ·have hin1 : D1[i]? = some ⟨v, lo, hi⟩ := by rw [← hin, fH hp2 (zQR h1), zQR h1]
    rcases vs1 i _ hin1 with h2|h2
    ·omega
    dsimp only at h2;omega
   dsimp only at h1;omega
  | none=>
   rw [hf] at hadd;rw [hadd] at hx hF wE rE ⊢;dsimp only at *;have hp3:D2 <+: D2++[(⟨v,lo,hi⟩:Node)]:=List.prefix_append _ _;have g1:=ih1 F q hD hn (by omega) (by omega) (λi n hin=>by have:=hall i n hin;omega) ((hp2.trans hp3).trans hF) hFw (by omega);have g2:=ih2 F q w1 n1 (by omega) (by omega) hall1 (hp3.trans hF) hFw (by omega);unfold hU;rw [if_neg (by omega),show ((D2.length:Int)+2 - 2).toNat=D2.length by omega,fH hF (i:=D2.length) (n:=⟨v,lo,hi⟩) (by simp)];dsimp only;rw [g1];simp only [Option.bind_some];rw [g2];simp only [Option.bind_some];rw [if_pos trivial,zQL];simp only [List.length_cons,List.length_nil]
   congr 1
def cD (N:Nat) (f:Fn):List Node×Int:=aD [] N f 0
theorem yA:WfD []:=⟨λi n h=>by simp at h,λi n h=>by simp at h,λi n h=>by simp at h,λi n h=>by simp at h⟩
structure MakeOk (N:Nat) (f:Fn) (D:List Node) (x:Int):Prop where
 wf:WfD D
 nodup:D.Nodup
 root:InD D x
 vars:∀ (i:Nat) (n:Node),D[i]?=some n→n.var < (N:Int)
 low:0≤aI D x
 val:∀ l,l.length=N→fnD D x 0 l=f l
 len:D.length+1≤2 ^ N
 order:∀ q,N+1≤q→hU D q x 2=some ((D.length:Int)+2)
theorem rO (N:Nat) (f:Fn) (hN:N≤64):MakeOk N f (cD N f).1 (cD N f).2:=by
 have w:=gF N f 0 yA (by omega) (by omega);have hh:=bY N [] f 0;have r:=eV w hh;have vl:=dN w (aD [] N f 0).2;refine⟨w,eN N f 0 List.nodup_nil,⟨r.1,r.2.1⟩,λi n hn=>?_,?_,r.2.2.2,?_,λq hq=>?_⟩
 ·rcases fI N [] f 0 i n hn with h|h
  ·simp at h
  omega
 ·rcases Int.lt_or_le (aI (aD [] N f 0).1 (aD [] N f 0).2) 64 with h|h
  ·exact (r.2.2.1 h).1
  show 0≤aI (aD [] N f 0).1 (aD [] N f 0).2;omega
 ·have:=eA N [] f 0;simpa [cD] using this
 exact lW N [] f 0 (aD [] N f 0).1 q yA List.nodup_nil (by omega) (by omega) (λi n h=>by simp at h) (List.prefix_refl _) w hq
theorem wM {N:Nat} {f:Fn} {D:List Node} {x:Int} (h:MakeOk N f D x):cD N f=(D,x):=by
 have:=uH h.wf h.nodup h.root (h.order (N+1) (zQW _)) h.vars;unfold cD;rw [← this];exact bJ λl hl=>(h.val l hl).symm
theorem vD {N:Nat} {f g:Fn} (h:∀ l,l.length=N→f l=g l):cD N f=cD N g:=bJ h
def ms0:MS:=⟨[],λ_=>none,false⟩
theorem vB {N:Nat} {f g:Fn} {A B:List Node} {x y:Int} (hN:N≤14) (hA:MakeOk N f A x) (hB:MakeOk N g B y) (all:Bool) {q:Nat} (hq:65≤q):((cX A B all q ms0 x y).1.nodes,(cX A B all q ms0 x y).2)=cD N (λl=>opQ all (f l) (g l))∧(cX A B all q ms0 x y).1.full=false:=by
 have hp:2 ^ N≤2 ^ 14:=Nat.pow_le_pow_right (by omega) hN;have m0:MOk A B all (N:Int) ms0:=⟨List.nodup_nil,rfl,λx y r h=>by cases h⟩;have:=fJ (all:=all) (N:=(N:Int)) hA.wf hB.wf (by omega) hA.vars hB.vars q ms0 x y 0 N (by have:=hA.low;have:=hB.low;omega) hA.root hB.root m0 (by omega) hA.low hB.low (by show 0+2 ^ N≤20001;omega);refine⟨this.1.trans ?_,this.2.part⟩;unfold cD;exact bJ λl hl=>by unfold fn2;rw [hA.val l hl,hB.val l hl]
theorem zL {N:Nat} {f:Fn} {A:List Node} {x:Int} (h:MakeOk N f A x):cD N (λl=>!f l)=(A.map dZ,dJ x):=by
 have:=wM h;unfold cD at this ⊢;have e:=oF N (D:=[]) f 0 (λn hn=>by cases hn);rw [List.map_nil] at e;rw [e,this]
theorem vC (N:Nat) (c:Bool):cD N (λ_=>c)=([],aW c):=iJ List.nodup_nil c λ_ _=>rfl
theorem tO:∀ (bs:List Bool) (c:Bool),bs.foldl (opQ true) c=(c&&bs.all id)
 | [],c=>by simp
 | b :: bs,c=>by
  show bs.foldl (opQ true) (opQ true c b)=_;rw [tO bs];cases c<;>cases b<;>rfl
theorem tN:∀ (bs:List Bool) (c:Bool),bs.foldl (opQ false) c=(c||bs.any id)
 | [],c=>by simp
 | b :: bs,c=>by
  show bs.foldl (opQ false) (opQ false c b)=_;rw [tN bs];cases c<;>cases b<;>rfl
theorem var_ok {N v:Nat} (hv:v < N) (hN:N≤64):MakeOk N (λl=>l.getD v false) [⟨(v:Int),0,1⟩] 2:=by
 have g:∀ (i:Nat) (n:Node),([⟨(v:Int),0,1⟩]:List Node)[i]?=some n→i=0∧n=⟨(v:Int),0,1⟩:=λi n h=>by
  cases i with
  | zero=>exact⟨rfl,by simpa using h.symm⟩
  | succ i=>simp at h
 have e:(([⟨(v:Int),0,1⟩]:List Node)[((2:Int) - 2).toNat]?)=some ⟨(v:Int),0,1⟩:=rfl;have h0:∀ D,aI D 0=64:=λD=>rfl;have h1:∀ D,aI D 1=64:=λD=>rfl
 have w:WfD [⟨(v:Int),0,1⟩]:=by
  refine⟨λi n h=>?_,λi n h=>?_,λi n h=>?_,λi n h=>?_⟩<;>obtain⟨rfl,rfl⟩:=g i n h
  ·exact⟨by dsimp only;omega,by dsimp only;omega⟩
  ·exact⟨by dsimp only;omega,by dsimp only;omega,by rw [h0];dsimp only;omega⟩
  ·exact⟨by dsimp only;omega,by dsimp only;omega,by rw [h1];dsimp only;omega⟩
  dsimp only;omega
 refine⟨w,by simp,⟨by omega,by simp⟩,λi n h=>?_,?_,λl hl=>?_,?_,λq hq=>?_⟩
 ·obtain⟨rfl,rfl⟩:=g i n h;dsimp only;omega
 ·show (0:Int)≤(v:Int);omega
 ·show eI _ 2 (asg 0 l)=_;rw [dO w (by omega) e];dsimp only;unfold asg;rw [decide_eq_true (show (0:Int)≤(v:Int) by omega),show ((v:Int) - 0).toNat=v by omega,Bool.true_and];cases l.getD v false<;>rfl
 ·show 2≤2 ^ N;exact Nat.le_trans (show 2≤2 ^ 1 by omega) (Nat.pow_le_pow_right (by omega) (by omega))
 obtain ⟨q, rfl⟩ : ∃ p, q = p + 2 := ⟨q - 2, by omega⟩;rfl
theorem zK {N v:Nat} (hv:v < N) (hN:N≤64):cD N (λl=>l.getD v false)=([⟨(v:Int),0,1⟩],2):=wM (var_ok hv hN)
theorem zM {D:List Node} (h:WfD D) (x:Int):0≤aI D x:=by
 unfold aI;split
 ·omega
 split
 ·rename_i n hn;exact (h.vars _ n hn).1
 omega
def dX:Nat→Nat→List Bool
 | 0,_=>[]
 | n+1,k=>decide (k / 2 ^ n % 2=1) :: dX n k
theorem qN:∀ (n m k:Nat),n≤m→dX n (k+2 ^ m)=dX n k
 | 0,m,k,h=>rfl
 | n+1,m,k,h=>by
  have e:2 ^ m=2 ^ n * (2 * 2 ^ (m - n - 1)):=by rw [← Nat.mul_assoc,← Nat.pow_succ,← Nat.pow_add,show n+1+(m - n - 1)=m by omega]
  unfold dX;rw [qN n m k (by omega)]
  congr 1
  rw [e,Nat.add_mul_div_left _ _ (Nat.two_pow_pos n),Nat.add_mul_mod_self_left]
theorem tE:∀ n,(List.range (2 ^ n)).map (dX n)=eB n
 | 0=>rfl
 | n+1=>by
  rw [eB,← tE n,Nat.pow_succ,show 2 ^ n * 2=2 ^ n+2 ^ n by omega,List.range_add,List.map_append,List.map_map,List.map_map,List.map_map]
  congr 1
  ·refine List.map_congr_left fun k hk => ?_;have:=List.mem_range.1 hk;show decide (k / 2 ^ n % 2=1) :: dX n k=false :: dX n k;rw [Nat.div_eq_of_lt this];rfl
  refine List.map_congr_left fun k hk => ?_;have:=List.mem_range.1 hk;show decide ((2 ^ n+k) / 2 ^ n % 2=1) :: dX n (2 ^ n+k)=true :: dX n k;rw [Nat.add_comm,qN n n k (zQW _),show k+2 ^ n=k+2 ^ n * 1 by omega,Nat.add_mul_div_left _ _ (Nat.two_pow_pos n),Nat.div_eq_of_lt this];rfl
def visP (D:List Node):Nat→Int→List Bool×Int→Option (List Bool×Int)
 | 0,_,_=>none
 | f+1,x,s=>if x < 2∨s.1.getD x.toNat false=true then some s else match D[(x - 2).toNat]? with
  | none=>none
  | some n=>(visP D f n.lo (s.1.set x.toNat true,s.2)).bind λs1=>(visP D f n.hi s1).bind λs2=>if x=s2.2 then some (s2.1,s2.2+1) else none
def InvP (B:Int) (vis:List Bool) (left:Int):Prop:=∀ y:Nat,2≤y→(y:Int) < B→(vis.getD y false=true↔(y:Int) < left)
structure OutP (D:List Node) (f:Nat) (x B:Int) (vis:List Bool) (left l':Int) (vis':List Bool):Prop where
 run:visP D f x (vis,left)=some (vis',l')
 inv:InvP B vis' l'
 keep:∀ y:Nat,B≤(y:Int)→vis'.getD y false=vis.getD y false
 len:vis'.length=vis.length
def NOK (D:List Node):Prop:=∀ n∈D,Node.ok n
theorem NOK.at {D:List Node} (h:NOK D) {i:Nat} {n:Node} (hn:D[i]?=some n):Node.ok n:=h n (zQM hn)
theorem nF:NOK []:=λn h=>by cases h
theorem wJ {D:List Node} {n:Node} (h:NOK D) (hn:Node.ok n):NOK (D++[n]):=λm hm=>by
 rcases zQN.1 hm with h1|h1
 ·exact h m h1
 rw [List.mem_singleton.1 h1];exact hn
theorem qBU {a b:Diagram}:a=b↔a.nodes=b.nodes∧a.root=b.root:=by cases a;cases b;simp
theorem wV {a b:Diagram} (ha:NOK a.nodes) (hb:NOK b.nodes) (hl:a.nodes.length≤4611686018427387903):cF a b=some (decide (a=b)):=by
 unfold cF;by_cases h:a.nodes.length=b.nodes.length∧a.root=b.root
 ·obtain⟨h1,h2⟩:=h;rw [if_neg (by simp [h1,h2])];rw [sX (ρ:=Unit ⊕ Bool) a.nodes.length (λi=>if a.nodes[i]?=b.nodes[i]? then none else some (.inr false)) (.inl ()) (by omega) ?hf ?he]
  ·cases hf:(List.range a.nodes.length).findSome? (λi=>if a.nodes[i]?=b.nodes[i]? then none else some (Sum.inr false:Unit ⊕ Bool)) with
   | none=>
    rw [List.findSome?_eq_none_iff] at hf
    have:a=b:=by
     rw [qBU];refine⟨List.ext_getElem? λi=>?_,h2⟩;by_cases hi:i < a.nodes.length
     ·have:=hf i (List.mem_range.2 hi);split at this
      ·assumption
      cases this
     rw [List.getElem?_eq_none (by omega),List.getElem?_eq_none (by omega)]
    simp [this]
   | some r=>
    rw [List.findSome?_eq_some_iff] at hf;obtain⟨l1,i,l2,_,h3,_⟩:=hf;split at h3
    ·cases h3
    rename_i hne;cases h3;have:¬ a=b:=λe=>hne (by rw [e]);simp [this]
  case hf=>
   intro i hi;have hi2:i < b.nodes.length:=by omega
   rw [if_pos (by omega),dT (zQR hi),dT (zQR hi2),aB ⟨ha _ (List.getElem_mem hi),hb _ (List.getElem_mem hi2)⟩,zQR hi,zQR hi2];by_cases he:a.nodes[i]=b.nodes[i]
   ·rw [if_pos he,aB (by unfold I64;omega),if_pos (by rw [he])]
   rw [if_neg he, if_neg (by simpa using he)];rfl
  case he=>
   rw [if_neg (by omega)];rfl
 rw [if_pos (by simp only [Bool.or_eq_true, Bool.not_eq_true', decide_eq_false_iff_not]; omega)];have:¬ a=b:=λe=>h ⟨by rw [e],by rw [e]⟩;simp [this]
def fZ (L:List Node):List (Node×Int):=L.zipIdx.map λx=>(x.1,(x.2:Int))
theorem lZ (L:List Node):(fZ L).map (·.1)=L:=by
 unfold fZ;rw [List.map_map];exact List.zipIdx_map_fst 0 L
theorem zT (L:List Node) (n:Node):fZ (L++[n])=fZ L++[(n,(L.length:Int))]:=by
 unfold fZ;rw [List.zipIdx_append,List.map_append];simp
theorem zS (L:List Node) (i:Nat):(fZ L)[i]?=(L[i]?).map λn=>(n,(i:Int)):=by
 unfold fZ;rw [zQP,List.getElem?_zipIdx];cases L[i]?<;>simp
theorem qG (L:List Node) (n:Node):(fZ L).findIdx? (λx=>decide (x.1=n))=L.findIdx? λm=>decide (m=n):=by
 have:L.findIdx? (λm=>decide (m=n))=((fZ L).map (·.1)).findIdx? (λm=>decide (m=n)):=by rw [lZ]
 rw [this,List.findIdx?_map];rfl
section maps
variable {α β:Type} [DecidableEq α]
theorem xS (q:α):bS ([]:List (α×β)) q=none:=rfl
theorem eF (x:α×β) (r:List (α×β)) (q:α):bS (x :: r) q=if x.1=q then some x.2 else bS r q:=by
 unfold bS;rw [List.find?_cons];by_cases h:x.1=q<;>simp [h]
theorem oD (k:α) (v:β):eL ([]:List (α×β)) k v=[(k,v)]:=rfl
theorem lT (x:α×β) (r:List (α×β)) (k:α) (v:β):eL (x :: r) k v=if x.1=k then (k,v) :: r else x :: eL r k v:=by
 unfold eL;rw [List.findIdx?_cons];by_cases h:x.1=k
 ·simp [h]
 simp only [h,decide_false,Bool.false_eq_true,if_false];cases r.findIdx? (λx=>decide (x.1=k))<;>simp
theorem xR (fs:List (α×β)) (k:α) (v:β) (q:α):bS (eL fs k v) q=if q=k then some v else bS fs q:=by
 induction fs with
 | nil=>rw [oD,eF,xS];by_cases h:k=q<;>simp [h,eq_comm]
 | cons x r ih=>
  rw [lT];by_cases h:x.1=k
  ·rw [if_pos h,eF,eF];by_cases h2:k=q
   ·simp [h2]
   rw [if_neg h2,if_neg (λe=>h2 e.symm),if_neg (by rw [h];exact h2)]
  rw [if_neg h,eF,eF,ih];by_cases h2:x.1=q
  ·rw [if_pos h2,if_pos h2,if_neg (λe=>h (h2.trans e))]
  rw [if_neg h2,if_neg h2]
theorem wC {fs:List (α×β)} {k:α} {v:β} {x:α×β} (h:x∈eL fs k v):x=(k,v)∨x∈fs:=by
 induction fs with
 | nil=>rw [oD] at h;exact .inl (List.mem_singleton.1 h)
 | cons y r ih=>
  rw [lT] at h;split at h
  ·rcases zQB.1 h with h|h
   ·exact .inl h
   exact .inr (List.mem_cons_of_mem _ h)
  rcases zQB.1 h with h|h
  ·exact .inr (h ▸ List.mem_cons_self ..)
  exact (ih h).imp id (List.mem_cons_of_mem _)
theorem xE {fs:List (α×β)} (h:(fs.map (·.1)).Nodup) (k:α) (v:β):((eL fs k v).map (·.1)).Nodup:=by
 induction fs with
 | nil=>rw [oD];simp
 | cons y r ih=>
  rw [List.map_cons,List.nodup_cons] at h;rw [lT];by_cases e:y.1=k
  ·rw [if_pos e,List.map_cons,List.nodup_cons];exact⟨by rw [← e];exact h.1,h.2⟩
  rw [if_neg e,List.map_cons,List.nodup_cons];refine⟨λhm=>?_,ih h.2⟩;obtain⟨x,hx,he⟩:=List.mem_map.1 hm;rcases wC hx with rfl|hx
  ·exact e he.symm
  exact h.1 (he ▸ List.mem_map_of_mem hx)
theorem vS (fs:List (α×β)) (q:α):bS fs q=(fs.findIdx? λx=>decide (x.1=q)).bind λj=>(fs[j]?).map (·.2):=by
 induction fs with
 | nil=>rfl
 | cons x r ih=>
  rw [eF,List.findIdx?_cons];by_cases h:x.1=q
  ·simp [h]
  simp only [h,decide_false,Bool.false_eq_true,if_false];rw [ih];cases r.findIdx? (λx=>decide (x.1=q))<;>simp
end maps
theorem xT (L:List Node) (n:Node):bS (fZ L) n=(L.findIdx? λm=>decide (m=n)).map λi=>(i:Int):=by
 rw [vS,qG]
 cases h:L.findIdx? (λm=>decide (m=n)) with
 | none=>rfl
 | some j=>
  rw [List.findIdx?_eq_some_iff_getElem] at h;obtain⟨hj,_,_⟩:=h;show ((fZ L)[j]?).map (·.2)=_;rw [zS,zQR hj];rfl
theorem yW {L:List Node} {n:Node} (h:L.findIdx? (λm=>decide (m=n))=none) (v:Int):eL (fZ L) n v=fZ L++[(n,v)]:=by
 unfold eL;rw [qG,h]
theorem tI {L:List Node} (hn:L.Nodup) (ho:NOK L) {n:Node} (hk:Node.ok n):dF Node.okb (fZ L) n:=
 ⟨by rw [lZ]; exact hn, fun x hx => by
  have : x.1 ∈ (fZ L).map (·.1) := List.mem_map_of_mem hx;rw [lZ] at this
  exact decide_eq_true (ho _ this), decide_eq_true hk⟩
theorem qBG {α ρ:Type} [DecidableEq ρ] {l:List α} {a b:Option ρ} {x:ρ} (ha:l=[]→a=some x) (hb:b=some x):sU l a b=some x:=by
 cases l with
 | nil=>rw [ha rfl,hb];simp [sU]
 | cons y r=>exact hb
theorem xG {m : Merger} {L : List Node} {n : Node} (hm : m.nodes = ⟨fZ L, L⟩) (hn : L.Nodup) (ho : NOK L) (hk : Node.ok n) (hl : L.length + 1 ≤ 1000000000) : aK m n = some (match L.findIdx? (fun m => decide (m = n)) with
  | some j => ((j : Int), m)
  | none => ((L.length : Int), ⟨m.a, m.b, m.all, ⟨fZ (L ++ [n]), L ++ [n]⟩, m.done, m.full⟩)) := by
 have hlen:((L++[n]).length:Int) - 1=(L.length:Int):=by simp
 have hg1:(L++[n]).length≤1000000000:=by simp;omega
 have hg2:I64 (((L++[n]).length:Int) - 1):=by rw [hlen];unfold I64;omega
 unfold aK;rw [hm];dsimp only;refine qBG (λhe=>?_) ?_
 ·have hL : L = [] := by have := congrArg List.length he; simpa [fZ] using this
  subst hL;rw [aB (show n.okb=true from decide_eq_true hk),aA,aB ⟨List.nodup_nil,(λx h=>by cases h),decide_eq_true hk⟩,aB hg1,aB hg2];simp only [hlen];rfl
 rw [aB (tI hn ho hk),xT]
 cases h:L.findIdx? (λm=>decide (m=n)) with
 | some j=>simp
 | none=>
  rw [if_neg (by simp),aA,aB (tI hn ho hk),aB hg1,aB hg2];simp only [hlen,yW h,zT]
theorem InD.i64 {D:List Node} {x:Int} (h:InD D x) (hl:D.length≤4611686018427387903):I64 (x - 2)∧I64 x:=by
 have:=h.1;have:=h.2;unfold I64;omega
theorem iB {d:Diagram} {x:Int} (h:InD d.nodes x) (hl:d.nodes.length≤4611686018427387903):cI d x=some (aI d.nodes x):=by
 unfold cI aI;by_cases hx:x < 2
 ·rw [if_pos hx,if_pos hx]
 obtain ⟨n, hn⟩ := h.get (by omega);rw [if_neg hx,if_neg hx,aB (h.i64 hl).1,gL (by omega) hn,hn]
theorem mR {d:Diagram} {x w:Int} (h:InD d.nodes x) (hl:d.nodes.length≤4611686018427387903) (hw:w < 64):cV d x w=some (cP d.nodes x w):=by
 unfold cV cP;rw [iB h hl,aA];by_cases he:aI d.nodes x=w
 ·rw [if_pos he,if_pos he];have h2:¬ x < 2:=λh1=>by unfold aI at he;rw [if_pos h1] at he;omega
  obtain⟨n,hn⟩:=h.get (by omega);rw [aB (h.i64 hl).1,gL (by omega) hn,hn]
 rw [if_neg he,if_neg he]
theorem rP {x:Int} (h:I64 x) (h0:0≤x):fN x=some (dJ x):=by
 unfold fN dJ;split
 ·rw [aB (by unfold I64 at *; omega)]
 rfl
theorem iR (b:Bool):cU b=some ⟨[],aW b⟩:=by
 unfold cU aW;cases b<;>rfl
theorem sW {α β ρ:Type} {f:Int×List β→Option ((Int×List β) ⊕ ρ)} (l:List α) (g:α→β) (o:ρ) (hn:l.length≤9223372036854775807) (hf:∀ (i:Nat) (e:α),l[i]?=some e→f ((i:Int),(l.take i).map g)=some (.inl ((i:Int)+1,(l.take i).map g++[g e]))) (he:f ((l.length:Int),l.map g)=some (.inr o)):bV f (0,[])=some o:=by
 refine zN l.length (λi=>(l.take i).map g) rfl hn (λi hi=>?_) (by rw [List.take_length];exact he);rw [hf i l[i] (by simp)]
 have:(l.take (i+1)).map g=(l.take i).map g++[g l[i]]:=by
  rw [List.take_add_one,zQR hi,Option.toList_some,List.map_append];rfl
 rw [this]
theorem sQ {d:Diagram} (hn:NN d.nodes) (ho:NOK d.nodes) (h0:0≤d.root) (hr:I64 d.root) (hl:d.nodes.length≤1000000000):cT d=some ⟨d.nodes.map dZ,dJ d.root⟩:=by
 unfold cT;rw [rP hr h0,aA,sW d.nodes dZ (d.nodes.map dZ) (by omega) ?_ ?_]
 ·rfl
 ·intro i e he;have hi:=(zQQ.1 he).1;have hm:=zQM he;dsimp only;rw [if_pos (by omega),dT he,rP (ho _ hm).2.1 (hn _ hm).1,aA,rP (ho _ hm).2.2 (hn _ hm).2,aA,aB (by simp;omega),aB (by unfold I64;omega)];rfl
 dsimp only;rw [if_neg (by omega)];rfl
end Go.Proofs.Ytdkhkhidekpfoaa
