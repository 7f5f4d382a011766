/- Texts of this proof, joined, without what it does not use. No condition. -/
import Derived.DeepKeys3
import Derived.Test.YtdkhkhidekpfoaaQl

set_option linter.unusedVariables false
set_option linter.unusedSimpArgs false
set_option linter.unusedSectionVars false
namespace Go.TL
open Go.Sort Go.Proofs
variable {P:Program} {C:Ctx} {st:St} {g:Gh} {a:Act} {w:World}
def fI (ks:List TypeDesc) (k:D):Prop:=∃ cs L,k=.agg cs/\dI cs=some L/\cI ks L
def eH:D->Value
  | .agg cs=>.agg (((dI cs).getD []).map bG).toArray
  | _=>undef
theorem iL {cs:List D} {L:List Lit} (h:dI cs=some L):eH (.agg cs)=.agg (L.map bG).toArray:=by
  show Value.agg (((dI cs).getD []).map bG).toArray=_;rw [h];rfl
theorem xJ {c d:D} {x:Lit} (h:rP c=some x) (h':rP d=some x):c=d:=by
  have e:rP c=rP d:=h.trans h'.symm;have n:rP c≠none:=by rw [h];simp
  clear h h'
  cases c<;>first
    | exact absurd rfl n
    | (cases d<;>simp only [rP,Option.some.injEq,reduceCtorEq,Lit.bool.injEq,Lit.int.injEq,Lit.string.injEq] at e)
  · rw [e]
  · rw [e.1,e.2]
  congr 1
  exact ByteArray.ext (Array.ext' e)
theorem oY:∀ {cs ds:List D} {L:List Lit},dI cs=some L->dI ds=some L->cs=ds
  | [],[],L,h,h'=>rfl
  | [],d :: ds,L,h,h'=>by
    cases h;simp only [dI] at h';split at h'<;>cases h'
  | c :: cs,[],L,h,h'=>by
    cases h';simp only [dI] at h;split at h<;>cases h
  | c :: cs,d :: ds,L,h,h'=>by
    simp only [dI] at h h';split at h
    · rename_i x xs hx hxs
      cases h;split at h'
      · rename_i y ys hy hys
        simp only [Option.some.injEq,List.cons.injEq] at h';obtain⟨rfl,rfl⟩:=h';rw [xJ hx hy,oY hxs hys]
      cases h'
    cases h
theorem tO {k:TypeDesc} {x y:Lit} (hx:rO k x) (hy:rO k y) (h:bG x=bG y):x=y:=by
  cases k<;>cases x<;>simp only [rO] at hx<;>cases y<;>simp only [rO] at hy<;>simp only [bG] at h
  · cases h;rfl
  · simp only [Value.int.injEq] at h
    rw [h.1,h.2]
  rename_i bs cs;simp only [Value.string.injEq,ByteArray.mk.injEq] at h;have:=congrArg Array.toList h;simp at this;rw [this]
theorem rN:∀ {ks:List TypeDesc} {L M:List Lit},cI ks L->cI ks M->L.map bG=M.map bG->L=M
  | [],[],[],_,_,_=>rfl
  | k :: ks,x :: xs,y :: ys,h,h',e=>by
    simp only [List.map_cons,List.cons.injEq] at e;rw [tO h.1 h'.1 e.1,rN h.2 h'.2 e.2]
  | [],_ :: _,_,h,_,_=>h.elim
  | [],[],_ :: _,_,h,_=>h.elim
  | _ :: _,[],_,h,_,_=>h.elim
  | _ :: _,_ :: _,[],_,h,_=>h.elim
theorem fR {ks:List TypeDesc} {k:D} (hk:fI ks k) {X:Nat->Prop} {v:Value} (h:DRep w X k v):v=eH k:=by
  obtain⟨cs,L,rfl,hl,ho⟩:=hk
  cases h with
  | agg _ vs hlen _ h=>
    have:=kV cs L vs.toList hl ⟨by simpa using hlen,λi x y hx hy=>h i x y hx (by simpa using hy)⟩;rw [iL hl,<- this]
theorem rU {ks:List TypeDesc} {k k':D} (hk:fI ks k) (hk':fI ks k') (h:eH k=eH k'):k=k':=by
  obtain⟨cs,L,rfl,hl,ho⟩:=hk;obtain⟨ds,M,rfl,hm,hp⟩:=hk';rw [iL hl,iL hm] at h;simp only [Value.agg.injEq] at h;have e:L.map bG=M.map bG:=by have:=congrArg Array.toList h;simpa using this
  have:=rN ho hp e;subst this;rw [oY hl hm]
structure SKey (P:Program) (kt:TypeId) (ks:List TypeDesc):Prop where
  law:WideMaps.KeyLaw P kt
  of:∀ k,fI ks k->∃ l,keyOf P kt (eH k)=some l
theorem sKey {kt:TypeId} {ks:List TypeDesc} (m:Nat) (hm:m+1<=10000) (hk:(P.keyTypeAt m kt&&P.tiled m kt&&P.keyType kt&&(match P.underlying kt with|some (.struct _)=>true|_=>false)&&ks.length == P.cellsOf kt)=true) (hks:jC P (P.types.size+1) kt=some ks):SKey P kt ks:=by
  simp only [zQA,beq_iff_eq] at hk;obtain⟨⟨⟨⟨h1,h2⟩,h3⟩,h4⟩,h5⟩:=hk;refine⟨deep_law hm h1 h2 (by split at h4<;>simp_all),λk hk=>?_⟩;obtain⟨cs,L,rfl,hl,ho⟩:=hk;have hlen:=dV ho;have hv:=iL hl
  have hf:Value.formed P kt (.agg (L.map bG).toArray)=true:=by
    split at h4
    · rename_i hu;simp [Value.formed,hu];omega
    cases h4
  have hkl:=gF (P.types.size+1) kt ks L hks ho;rw [hv];unfold keyOf;split at h4
  · rename_i hu
    rw [hu];dsimp only;rw [h3,hf];refine⟨.string (keyBytes L),?_⟩;simp [Value.cells,hkl]
  cases h4
theorem vF {α:Type} {l:List α} (hn:l.Nodup) {i j:Nat} {x:α} (hi:l[i]?=some x) (hj:l[j]?=some x):i=j:=by
  obtain⟨h1,h1'⟩:=zQQ.1 hi;obtain⟨h2,h2'⟩:=zQQ.1 hj;exact (List.getElem_inj hn).1 (h1'.trans h2'.symm)
section find
variable {kt:TypeId} {ks:List TypeDesc} {k:D} {es:List (D×D)} {ents:Array MapEntry}
theorem pD (S:SKey P kt ks) {X:Nat->Prop} (hE:kN w X es ents) (hks:∀ e∈es,fI ks e.1):∀ x∈ents.toList,∃ l,keyOf P kt x.key=some l:=by
  intro x hx;obtain⟨i,hi⟩:=List.getElem?_of_mem hx;have hi':ents[i]?=some x:=by simpa using hi
  have hlt:i < es.length:=by rw [<- hE.1];exact (Array.getElem?_eq_some_iff.1 hi').1
  have hk:=hks es[i] (List.getElem_mem hlt);rw [fR hk (hE.2 i es[i] x (by simp [hlt]) hi').1];exact S.of _ hk
theorem sB (S:SKey P kt ks) {X:Nat->Prop} (hE:kN w X es ents) (hks:∀ e∈es,fI ks e.1) (hk:fI ks k) (hne:∀ e∈es,e.1≠k):(Instr.findKey kt (eH k) ents.toList).run P w=.ok none w:=by
  obtain⟨l,hl⟩:=S.of k hk;rcases S.law.find w hl ents.toList (pD S hE hks) with ⟨h1,_⟩|⟨j,e,_,h2,h3⟩
  · exact h1
  exfalso;have hj:ents[j]?=some e:=by simpa using h2
  have hlt:j < es.length:=by rw [<- hE.1];exact (Array.getElem?_eq_some_iff.1 hj).1
  have hmem:=List.getElem_mem hlt;have:=fR (hks es[j] hmem) (hE.2 j es[j] e (by simp [hlt]) hj).1;exact hne _ hmem (rU (hks _ hmem) hk (by rw [<- this,h3]))
theorem pC (S:SKey P kt ks) {X:Nat->Prop} (hE:kN w X es ents) (hks:∀ e∈es,fI ks e.1) (hnd:(es.map (·.1)).Nodup) {j:Nat} {v:D} (hj:es[j]?=some (k,v)):∃ e,ents[j]?=some e/\e.key=eH k/\DRep w X v e.val/\(Instr.findKey kt (eH k) ents.toList).run P w=.ok (some (j,e.val)) w:=by
  have hjl:=(zQQ.1 hj).1;have hk:fI ks k:=hks (k,v) (zQM hj);have hjs:j < ents.size:=by rw [hE.1];exact hjl
  have he:ents[j]?=some ents[j]:=by simp [hjs]
  have hr:=hE.2 j (k,v) ents[j] hj he;have hkey:=fR hk hr.1;obtain⟨l,hl⟩:=S.of k hk;rcases S.law.find w hl ents.toList (pD S hE hks) with ⟨_,h2⟩|⟨j',e',h1,h2,h3⟩
  · exact absurd hkey (h2 ents[j] (by simp))
  have hj' : ents[j']? = some e' := by simpa using h2
  have hlt:j' < es.length:=by rw [<- hE.1];exact (Array.getElem?_eq_some_iff.1 hj').1
  have hmem:=List.getElem_mem hlt;have h4:=fR (hks es[j'] hmem) (hE.2 j' es[j'] e' (by simp [hlt]) hj').1;have h5:es[j'].1=k:=rU (hks _ hmem) hk (by rw [<- h4,h3]);have h6:j'=j:=vF (x:=k) hnd (by simp [hlt,h5]) (by simp [hj]);subst h6;rw [he] at hj';cases hj';exact⟨_,he,hkey,hr.2,by simpa using h1⟩
end find
section look
variable {o:Oper} {ev:Operand->AV} {hp:List Blk} {x y:Operand} {t kt et kt' et':TypeId} {d:TypeDesc} {id:Nat} {es:List (D×D)} {k v zd:D} {z:Value} {ks:List TypeDesc}
theorem gD (hs:Sim C st g a w) (hx:st.fr.ev x=.mmap id) (hb:st.hp[id]?=some (.map kt' et' es)) (hy:st.fr.ev y=.d k) (hk:fI ks k):
    ∃ b ents clock,g.phi id=some b/\a.eval x=.map (some b)/\w.heap[b]?=some (.map ents clock)/\kN w g.X es ents/\a.eval y=eH k:=by
  have h1:=hs.ev x;rw [hx] at h1;obtain⟨b,hp,he⟩:=rL h1;rcases hs.hp id _ hb with ⟨_,hp'⟩|⟨b',ents,clock,hp',hw,hsz,hr⟩<;>cases hp.symm.trans hp'
  have h2:=hs.ev y;rw [hy] at h2;have h3:DRep w g.X k (a.eval y):=by cases h2 with|d _ _ h=>exact h
  exact⟨b,ents,clock,hp,he,hw,⟨hsz,hr⟩,fR hk h3⟩
theorem pT {j:Nat} (S:SKey C.P kt ks) (ho:o.op=.lookup t x y true) (hl:mty C.P t=some (kt,d,et)) (hx:ev x=.mmap id) (hb:hp[id]?=some (.map kt' et' es)) (hy:ev y=.d k) (hks:∀ e∈es,fI ks e.1) (hnd:(es.map (·.1)).Nodup) (hj:es[j]?=some (k,v)):RdOk C o ev hp (.tup [.d v,.d (.bool true)]):=
  RdOk.mk λst hhp hag g a w hs=>by
    have hk:fI ks k:=hks (k,v) (zQM hj);obtain⟨b,ents,clock,hp',hex,hw,hE,hey⟩:=gD hs (by rw [hag x (by simp [ho,Op.operands]),hx]) (hhp id _ hb λe=>by cases e) (by rw [hag y (by simp [ho,Op.operands]),hy]) hk;obtain⟨e,_,_,hv,hf⟩:=pC S hE hks hnd hj;obtain⟨hu,hd⟩:=kA hl;obtain⟨l,hkl⟩:=S.of k hk;refine⟨.tuple #[e.val,.bool true],?_,.tup _ _ rfl λi c v hc hv'=>?_⟩
    · simp only [execOp,ho,hex,hey]
      simp [Instr.lookup,run_underlying hu,MapKept.run_getObj_map hw,S.law.check w _ hkl,hf,Result.andThen]
    match i,hc,hv' with
    | 0,hc,hv'=>simp at hc hv';subst hc hv';exact .d _ _ hv
    | 1,hc,hv'=>simp at hc hv';subst hc hv';exact .d _ _ (.bool true)
    | i+2,hc,_=>simp at hc
theorem qZ (S:SKey C.P kt ks) (ho:o.op=.lookup t x y true) (hl:mty C.P t=some (kt,d,et)) (hz:(C.P.info? et).bind (·.zero)=some z) (hzd:bJ z=.d zd) (hx:ev x=.mmap id) (hb:hp[id]?=some (.map kt' et' es)) (hy:ev y=.d k) (hk:fI ks k) (hks:∀ e∈es,fI ks e.1) (hne:∀ e∈es,e.1≠k):RdOk C o ev hp (.tup [.d zd,.d (.bool false)]):=
  RdOk.mk λst hhp hag g a w hs=>by
    obtain⟨b,ents,clock,hp',hex,hw,hE,hey⟩:=gD hs (by rw [hag x (by simp [ho,Op.operands]),hx]) (hhp id _ hb λe=>by cases e) (by rw [hag y (by simp [ho,Op.operands]),hy]) hk;have hf:=sB S hE hks hk hne;obtain⟨hu,hd⟩:=kA hl;obtain⟨l,hkl⟩:=S.of k hk;refine⟨.tuple #[z,.bool false],?_,.tup _ _ rfl λi c v hc hv'=>?_⟩
    · simp only [execOp,ho,hex,hey]
      simp [Instr.lookup,run_underlying hu,MapKept.run_getObj_map hw,S.law.check w _ hkl,hf,iX hz,Result.andThen]
    match i,hc,hv' with
    | 0,hc,hv'=>simp at hc hv';subst hc hv';rw [<- hzd];exact dA w g _
    | 1,hc,hv'=>simp at hc hv';subst hc hv';exact .d _ _ (.bool false)
    | i+2,hc,_=>simp at hc
theorem pU (S:SKey C.P kt ks) (ho:o.op=.lookup t x y true) (hl:mty C.P t=some (kt,d,et)) (hz:(C.P.info? et).bind (·.zero)=some z) (hzd:bJ z=.d zd) (hx:ev x=.d .nilmap) (hy:ev y=.d k) (hk:fI ks k):RdOk C o ev hp (.tup [.d zd,.d (.bool false)]):=
  RdOk.mk λst hhp hag g a w hs=>by
    have h1:=hs.ev x;rw [hag x (by simp [ho,Op.operands]),hx] at h1;have h2:=hs.ev y;rw [hag y (by simp [ho,Op.operands]),hy] at h2;have h3:DRep w g.X k (a.eval y):=by cases h2 with|d _ _ h=>exact h
    have hey:=fR hk h3
    have hex:a.eval x=.map none:=by
      generalize a.eval x=v at *;cases h1 with|d _ _ h=>cases h;rfl
    obtain⟨hu,hd⟩:=kA hl;obtain⟨l,hkl⟩:=S.of k hk
    have hf:(Instr.findKey kt (eH k) []).run C.P w=.ok none w:=by
      rcases S.law.find w hkl [] (λe he=>by cases he) with ⟨h,_⟩|⟨j,e,_,h,_⟩
      · exact h
      simp at h
    refine⟨.tuple #[z,.bool false],?_,.tup _ _ rfl λi c v hc hv'=>?_⟩
    · simp only [execOp,ho,hex,hey]
      simp [Instr.lookup,run_underlying hu,S.law.check w _ hkl,hf,iX hz,Result.andThen]
    match i,hc,hv' with
    | 0,hc,hv'=>simp at hc hv';subst hc hv';rw [<- hzd];exact dA w g _
    | 1,hc,hv'=>simp at hc hv';subst hc hv';exact .d _ _ (.bool false)
    | i+2,hc,_=>simp at hc
end look
section upd
variable {o:Oper} {K:St->Prop} {x y u:Operand} {t kt et kt' et':TypeId} {d:TypeDesc} {id:Nat} {es:List (D×D)} {k v:D} {ks:List TypeDesc}
theorem rH (S:SKey C.P kt ks) (ho:o.op=.mapUpdate t x y u) (hd:o.dst=none) (hl:mty C.P t=some (kt,d,et)) (hx:st.fr.ev x=.mmap id) (hb:st.hp[id]?=some (.map kt' et' es)) (hy:st.fr.ev y=.d k) (hu:st.fr.ev u=.d v) (hk:fI ks k) (hks:∀ e∈es,fI ks e.1) (hne:∀ e∈es,e.1≠k)
    (hK:K ⟨st.fr,st.hp.set id (.map kt' et' (es++[(k,v)]))⟩):OpOk C o st K:=
  OpOk.skip λg a w hs=>by
    obtain⟨b,ents,clock,hp,hex,hw,hE,hey⟩:=gD hs hx hb hy hk;have hf:=sB S hE hks hk hne;obtain⟨hu',hd'⟩:=kA hl;obtain⟨l,hkl⟩:=S.of k hk;have hv:=hs.ev u;rw [hu] at hv;have hv':DRep w g.X v (a.eval u):=by cases hv with|d _ _ h=>exact h
    have hkd:=hs.ev y;rw [hy,hey] at hkd;have hkd':DRep w g.X k (eH k):=by cases hkd with|d _ _ h=>exact h
    refine⟨{ w with heap:=w.heap.setIfInBounds b (.map (ents.push { key:=eH k,val:=a.eval u,born:=clock }) (clock+1)) },?_,_,g,hK,?_⟩
    · simp only [execOp,ho,hex,hey]
      simp [Instr.mapUpdate,run_underlying hu',MapKept.run_getObj_map hw,S.law.check w _ hkl,hf,MapKept.run_setObj_map _ hw,Result.andThen]
    rw [hd];refine nD hs hp hb hw ⟨by simp [hE.1],λj e m he hm=>?_⟩;rw [List.getElem?_append] at he;rw [Array.getElem?_push] at hm;split at he
    · rename_i hlt
      rw [if_neg (by rw [hE.1];omega)] at hm;exact hE.2 j e m he hm
    rename_i hge
    have hj:j=es.length:=by
      rcases Nat.lt_or_ge (j - es.length) 1 with h1|h1
      · omega
      rw [List.getElem?_eq_none (by simpa using h1)] at he;cases he
    subst hj;rw [if_pos hE.1.symm] at hm;simp at he hm;subst he hm;exact⟨hkd',hv'⟩
theorem tJ {j:Nat} {v0:D} (S:SKey C.P kt ks) (ho:o.op=.mapUpdate t x y u) (hd:o.dst=none) (hl:mty C.P t=some (kt,d,et)) (hx:st.fr.ev x=.mmap id) (hb:st.hp[id]?=some (.map kt' et' es)) (hy:st.fr.ev y=.d k) (hu:st.fr.ev u=.d v) (hks:∀ e∈es,fI ks e.1) (hnd:(es.map (·.1)).Nodup) (hj:es[j]?=some (k,v0))
    (hK:K ⟨st.fr,st.hp.set id (.map kt' et' (es.set j (k,v)))⟩):OpOk C o st K:=
  OpOk.skip λg a w hs=>by
    have hk:fI ks k:=hks (k,v0) (zQM hj);obtain⟨b,ents,clock,hp,hex,hw,hE,hey⟩:=gD hs hx hb hy hk;obtain⟨e0,he0,hek,_,hf⟩:=pC S hE hks hnd hj;obtain⟨hu',hd'⟩:=kA hl;obtain⟨l,hkl⟩:=S.of k hk;have hv:=hs.ev u;rw [hu] at hv;have hv':DRep w g.X v (a.eval u):=by cases hv with|d _ _ h=>exact h
    have hkd:=hs.ev y;rw [hy,hey] at hkd;have hkd':DRep w g.X k (eH k):=by cases hkd with|d _ _ h=>exact h
    have hst:(Instr.keyThatStays e0.key (eH k)).run C.P w=.ok (eH k) w:=by rw [hek];exact S.law.stays w hkl
    refine⟨{ w with heap:=w.heap.setIfInBounds b (.map (ents.modify j λe=>{ e with key:=eH k,val:=a.eval u }) clock) },?_,_,g,hK,?_⟩
    · simp only [execOp,ho,hex,hey]
      simp [Instr.mapUpdate,run_underlying hu',MapKept.run_getObj_map hw,S.law.check w _ hkl,hf,he0,hst,MapKept.run_setObj_map _ hw,Result.andThen]
    rw [hd];refine nD hs hp hb hw ⟨by simp [hE.1],λi e m he hm=>?_⟩;rw [List.getElem?_set] at he;rw [Array.getElem?_modify] at hm;split at he
    · rename_i hij
      subst hij;rw [if_pos rfl,he0] at hm;split at he
      · cases he
        simp at hm;subst hm;exact⟨hkd',hv'⟩
      cases he
    rename_i hij;rw [if_neg hij] at hm;exact hE.2 i e m he hm
end upd
structure KeyG (ks:List TypeDesc) {α:Type} (kf:α->D) (ok:α->Bool):Prop where
  key:∀ a,ok a=true->fI ks (kf a)
  inj:∀ a b,kf a=kf b->a=b
def dJ {α β:Type} (ok:α->Bool) (fs:List (α×β)) (s:α):Prop:=(fs.map (·.1)).Nodup/\(∀ x∈fs,ok x.1=true)/\ok s=true
instance {α β:Type} [DecidableEq α] (ok:α->Bool) (fs:List (α×β)) (s:α):Decidable (dJ ok fs s):=by unfold dJ;infer_instance
section pm
variable {α β:Type} [DecidableEq α] {dk:TypeDesc} {kf:α->D} {ok:α->Bool} {ks:List TypeDesc}
variable {o:Oper} {ev:Operand->AV} {hp:List Blk} {x y u:Operand} {t kt et kt' et':TypeId} {id:Nat} {zd:D} {z:Value}
theorem iI (hk:KeyG ks kf ok) (f:β->D) {fs:List (α×β)} (h:∀ x∈fs,ok x.1=true):∀ e∈aF kf f fs,fI ks e.1:=λe he=>by
  unfold aF at he;simp only [List.mem_map] at he;obtain⟨x,hx,rfl⟩:=he;exact hk.key _ (h x hx)
theorem lJ (hk:KeyG ks kf ok) (f:β->D) {fs:List (α×β)} (h:(fs.map (·.1)).Nodup):((aF kf f fs).map (·.1)).Nodup:=by
  have:(aF kf f fs).map (·.1)=(fs.map (·.1)).map kf:=by simp [aF]
  rw [this];exact h.map _ λa b hab e=>hab (hk.inj _ _ e)
theorem rF (hk:KeyG ks kf ok) (f:β->D) {fs:List (α×β)} {s:α} (h:∀ x∈fs,x.1≠s):∀ e∈aF kf f fs,e.1≠kf s:=λe he=>by
  unfold aF at he;simp only [List.mem_map] at he;obtain⟨x,hx,rfl⟩:=he;exact λq=>h x hx (hk.inj _ _ q)
theorem pK (S:SKey C.P kt ks) (hk:KeyG ks kf ok) (f:β->D) (fs:List (α×β)) (s:α) (z0:β) (ho:o.op=.lookup t x y true) (hl:mty C.P t=some (kt,dk,et)) (hz:(C.P.info? et).bind (·.zero)=some z) (hzd:bJ z=.d (f z0))
    (hx:ev x=.mmap id) (hb:hp[id]?=some (.map kt' et' (aF kf f fs))) (hy:ev y=.d (kf s)) (hg:dJ ok fs s):RdOk C o ev hp (.tup [.d (f ((cA fs s).getD z0)),.d (.bool (cA fs s).isSome)]):=by
  cases h:cA fs s with
  | none=>exact qZ S ho hl hz hzd hx hb hy (hk.key _ hg.2.2) (iI hk f hg.2.1) (rF hk f (lU h))
  | some b=>
    obtain⟨j,hj⟩:=sM h;exact pT (j:=j) S ho hl hx hb hy (iI hk f hg.2.1) (lJ hk f hg.1) (by simp [aF,hj])
theorem kQ {ops:Array Oper} {l:List Oper} {K:St->Prop} {fr:Fr} {ty:TypeId} {pos:String} {after:Array Edge} (S:SKey C.P kt ks) (hk:KeyG ks kf ok) (f:β->D) {fs:List (α×β)} {s:α} {b:β} (hl:mty C.P t=some (kt,dk,et)) (hx:fr.ev x=.mmap id) (hb:hp[id]?=some (.map kt' et' (aF kf f fs))) (hy:fr.ev y=.d (kf s)) (hu:fr.ev u=.d (f b)) (hg:dJ ok fs s)
    (h:aH C ops l ⟨fr,hp.set id (.map kt' et' (aF kf f (gA fs s b)))⟩ K):aH C ops (⟨none,.mapUpdate t x y u,ty,pos,after,none⟩ :: l) ⟨fr,hp⟩ K:=by
  cases e:fs.findIdx? λx=>decide (x.1=s) with
  | none=>
    have hn:cA fs s=none:=by
      unfold cA;rw [Option.map_eq_none_iff,List.find?_eq_none];rw [List.findIdx?_eq_none_iff] at e;intro x hx;simpa using e x hx
    refine bS rfl (rH S rfl rfl hl hx hb hy hu (hk.key _ hg.2.2) (iI hk f hg.2.1) (rF hk f (lU hn)) ?_);have e2:aF kf f (fs++[(s,b)])=aF kf f fs++[(kf s,f b)]:=by simp [aF]
    rw [<- e2];simpa only [gA,e] using h
  | some j=>
    have e':=e;rw [List.findIdx?_eq_some_iff_getElem] at e;obtain⟨hlt,hj,_⟩:=e
    have hj':fs[j]?=some (s,fs[j].2):=by
      rw [zQR hlt,<- of_decide_eq_true hj]
    refine bS rfl (tJ (j:=j) (v0:=f fs[j].2) S rfl rfl hl hx hb hy hu (iI hk f hg.2.1) (lJ hk f hg.1) (by simp [aF,hj']) ?_);simp only [gA,e'] at h;simpa [aF,List.map_set] using h
end pm
variable {P:Program} {C:Ctx} {st:St} {g:Gh} {a:Act} {w:World}
theorem Sim.virtM (h:Sim C st g a w) (kt vt:Nat):Sim C ⟨st.fr,st.hp++[.map kt vt []]⟩ g a w:=by
  refine { h with hp:=?_,lt:=?_,inj:=?_,kle:=?_ }
  · intro i B hi
    simp only [List.getElem?_append] at hi;split at hi
    · exact h.hp i B hi
    rename_i hge
    have:i=st.hp.length:=by
      rcases Nat.lt_or_ge (i - st.hp.length) 1 with h1|h1
      · omega
      rw [List.getElem?_eq_none (by simpa using h1)] at hi;cases hi
    subst this;simp at hi;subst hi;exact .inl ⟨rfl,h.phi_none (zQW _)⟩
  · intro i b hp
    have:=h.lt i b hp;simp only [zQL,List.length_cons,List.length_nil];exact⟨this.1,by omega,this.2.2⟩
  · intro i j b Bi Bj hBi hBj hdi hdj hi hj
    have l1:=(h.lt _ _ hi).2.1;have l2:=(h.lt _ _ hj).2.1;rw [List.getElem?_append,if_pos l1] at hBi;rw [List.getElem?_append,if_pos l2] at hBj;exact h.inj i j b Bi Bj hBi hBj hdi hdj hi hj
  have:=h.kle;simp only [zQL,List.length_cons,List.length_nil];omega
theorem Sim.recell (h:Sim C st g a w) {i j:Nat} {t:TypeId} {cs:List AV} {y:AV} (hb:st.hp[i]?=some (.box t cs))
    (hy:∀ v,(∀ x,cs[j]?=some x->ARep w g x v)->(∃ b cells,g.phi i=some b/\w.heap[b]?=some (.cells cells t (0,0))/\cells[j]?=some v)->ARep w g y v):Sim C ⟨st.fr,st.hp.set i (.box t (cs.set j y))⟩ g a w:=by
  have hi:=(zQQ.1 hb).1;obtain⟨b,cells,hp,hw,hps,hl,hr⟩:=h.hp i _ hb;refine { h with hp:=λk B hk=>?_,lt:=λk b hk=>by have:=h.lt k b hk;simpa using this,inj:=λk k' b Bk Bk' h1 h2 d1 d2 p1 p2=>?_,kle:=by simpa using h.kle }
  · by_cases e1:i=k
    · subst e1
      rw [List.getElem?_set,if_pos rfl] at hk
      have hk:B=.box t (cs.set j y):=by
        simp only [hi,if_true,Option.some.injEq] at hk;exact hk.symm
      subst hk;refine⟨b,cells,hp,hw,hps,by simpa using hl,λq c v hq hv'=>?_⟩;by_cases e2:j=q
      · subst e2
        rw [List.getElem?_set,if_pos rfl] at hq;split at hq
        · cases hq
          exact hy v (λx hx=>hr _ x v hx hv') ⟨b,cells,hp,hw,hv'⟩
        cases hq
      rw [List.getElem?_set_ne e2] at hq;exact hr q c v hq hv'
    rw [List.getElem?_set_ne e1] at hk;exact h.hp k B hk
  have key:∀ (k:Nat) (Bk:Blk),(st.hp.set i (.box t (cs.set j y)))[k]?=some Bk->Bk≠.dead->∃ B',st.hp[k]?=some B'/\B'≠.dead:=by
    intro k Bk hk hd;rw [List.getElem?_set] at hk;split at hk
    · rename_i e1
      subst e1;exact⟨.box t cs,hb,λe=>by cases e⟩
    exact⟨Bk,hk,hd⟩
  obtain⟨B1,e1,d1'⟩:=key k Bk h1 d1;obtain⟨B2,e2,d2'⟩:=key k' Bk' h2 d2;exact h.inj k k' b B1 B2 e1 e2 d1' d2' p1 p2
theorem Sim.upM (h:Sim C st g a w) {i j:Nat} {t kt vt:Nat} {cs:List AV} (hb:st.hp[i]?=some (.box t cs)) (hc:cs[j]?=some (.d .nilmap)):Sim C ⟨st.fr,(st.hp.set i (.box t (cs.set j (.mmapN st.hp.length 0))))++[Blk.map kt vt []]⟩ g a w:=by
  have hi:=(zQQ.1 hb).1;have hb':(st.hp++[Blk.map kt vt []])[i]?=some (.box t cs):=by rw [List.getElem?_append,if_pos hi];exact hb
  have h2:=Sim.recell (h.virtM kt vt) (i:=i) (j:=j) (y:=.mmapN st.hp.length 0) hb' λv hv _=>by
    cases hv _ hc with
    | d _ _ hd=>cases hd with
      | nilmap=>exact .mmapN0 _
  simp only [List.set_append,if_pos hi] at h2;exact h2
section
variable {ops:Array Oper} {l:List Oper} {K:St->Prop} {fr:Fr} {hp:List Blk} {c:Code} {Q:Exit->St->Prop} {α β:Type}
theorem uG {kf:α->D} {f:β->D} (i j N kt vt:Nat) {t:TypeId} {cs:List AV} (hN:Nat.beq hp.length N=true) (hb:hp[i]?=some (.box t cs)) (hc:cs[j]?=some (.d .nilmap))
    (h:aH C ops l ⟨fr,(hp.set i (.box t (cs.set j (.mmapN N ([]:List (α×β)).length))))++[Blk.map kt vt (aF kf f ([]:List (α×β)))]⟩ K):aH C ops l ⟨fr,hp⟩ K:=by
  have e:=Nat.eq_of_beq_eq_true hN;subst e;exact λg a w hs=>h g a w (Sim.upM (st:=⟨fr,hp⟩) hs hb hc)
theorem sJ {kf:α->D} {f:β->D} {fs:List (α×β)} (i j m:Nat) {t kt vt:Nat} {cs:List AV} (hb:hp[i]?=some (.box t cs)) (hc:cs[j]?=some (.mmapN m fs.length)) (hm:hp[m]?=some (.map kt vt (aF kf f fs)))
    (h1:fs=[]->TWp C c ⟨fr,(hp.set i (.box t (cs.set j (.d .nilmap)))).set m (.map kt vt (aF kf f ([]:List (α×β))))⟩ Q)
    (h2:TWp C c ⟨fr,hp.set i (.box t (cs.set j (.mmap m)))⟩ Q):TWp C c ⟨fr,hp⟩ Q:=λg a w hs=>by
  have hne:i≠m:=λe=>by subst e;rw [hb] at hm;cases hm
  obtain⟨b,cells,hpi,hw,hps,hl,hr⟩:=hs.hp i _ hb;have hj:=(zQQ.1 hc).1;have hjc:j < cells.size:=by omega
  have hcell:cells[j]?=some cells[j]:=by simp [hjc]
  have hrep:=hr j _ _ hc hcell;generalize hv:cells[j]=v at *
  have key:∀ u,(∃ b cells,g.phi i=some b/\w.heap[b]?=some (.cells cells t (0,0))/\cells[j]?=some u)->u=v:=by
    rintro u ⟨b',cells',e1,e2,e3⟩;cases hpi.symm.trans e1;rw [hw] at e2;cases e2;rw [hcell] at e3;exact (Option.some.inj e3).symm
  generalize hn:fs.length=n at *
  cases hrep with
  | mmapN0=>
    have hfs:fs=[]:=List.length_eq_zero_iff.1 hn;subst hfs
    have hset:(hp.set i (.box t (cs.set j (.d .nilmap)))).set m (.map kt vt (aF kf f ([]:List (α×β))))=hp.set i (.box t (cs.set j (.d .nilmap))):=by
      apply List.ext_getElem?;intro k;rw [List.getElem?_set];split
      · rename_i e;subst e
        have hml:=(zQQ.1 hm).1;rw [if_pos (by simpa using hml),List.getElem?_set_ne hne,hm]
      rfl
    have h1':=h1 rfl;rw [hset] at h1';exact h1' g a w (Sim.recell (st:=⟨fr,hp⟩) hs hb λu _ hu=>by rw [key u hu];exact .d _ _ .nilmap)
  | mmapN _ _ b' hb'=>exact h2 g a w (Sim.recell (st:=⟨fr,hp⟩) hs hb λu _ hu=>by rw [key u hu];exact .mmap _ b' hb')
theorem xD {ρ:Type} [DecidableEq ρ] {l:List α} {a b:Option ρ} {o:ρ} (h:l=[]) (hm:rK l a b=some o):a=some o:=by
  subst h;simp only [rK] at hm;split at hm
  · split at hm
    · exact hm
    cases hm
  cases hm
def wkN (m n:Nat):AV->Bool
  | .mmap q=>Nat.beq q m
  | .mmapN q k=>Nat.beq q m&&Nat.beq k n
  | _=>false
theorem Sim.wkM (h:Sim C st g a w) {i j m n:Nat} {t:TypeId} {cs:List AV} {x:AV} (hb:st.hp[i]?=some (.box t cs)) (hc:cs[j]?=some x) (hx:wkN m n x=true\/(x=.d .nilmap/\n=0)):Sim C ⟨st.fr,st.hp.set i (.box t (cs.set j (.mmapN m n)))⟩ g a w:=
  h.recell hb λv hv _=>by
    have:=hv _ hc;rcases hx with hx|⟨rfl,rfl⟩
    · cases x<;>simp only [wkN,Bool.false_eq_true] at hx
      · have e:=Nat.eq_of_beq_eq_true hx
        subst e;cases this with|mmap _ b hb=>exact .mmapN _ _ b hb
      simp only [zQA] at hx;have e1:=Nat.eq_of_beq_eq_true hx.1;have e2:=Nat.eq_of_beq_eq_true hx.2;subst e1 e2;exact this
    cases this with
    | d _ _ hd=>cases hd with
      | nilmap=>exact .mmapN0 _
theorem jF (i j m n:Nat) {t:TypeId} {cs:List AV} (hb:hp[i]?=some (.box t cs)) (hc:cs[j]?=some (.mmap m)) (h:TWp C c ⟨fr,hp.set i (.box t (cs.set j (.mmapN m n)))⟩ Q):TWp C c ⟨fr,hp⟩ Q:=λg a w hs=>h g a w (Sim.wkM (st:=⟨fr,hp⟩) hs hb hc (.inl (Nat.beq_refl m)))
end
theorem qC {o:Oper} {K:St->Prop} {t:TypeId} {m:Nat} {B0:Blk} (ho:o.op=.makeMap t none) (hd:fU C.n o.dst=true) (kt et:TypeId) (hb:st.hp[m]?=some B0) (hm:m < C.k->C.mv m=true) (hK:K (St.put ⟨(st.purge m).fr,(st.purge m).hp.set m (.map kt et [])⟩ o.dst (.mmap m))):OpOk C o st K:=
  OpOk.change λg a w hs=>by
    refine⟨.map (some w.heap.size),w.alloc (.map #[] 0),?_,_,_,hK,(hs.move (i:=m) (n:=0) (B:=.map kt et []) (zQQ.1 hb).1 hm (.inr ⟨w.heap.size,#[],0,by simp [Gh.new,upd],heap_alloc_new w _,rfl,λk e m he=>by simp at he⟩)).put' hd (.mmap _ w.heap.size (by simp [Gh.new,upd]))⟩;simp only [execOp,ho];simp [Instr.makeMap,newObj,Sem.run,Result.andThen]
theorem lI {ops:Array Oper} {l:List Oper} {K:St->Prop} {fr fr':Fr} {hp hp':List Blk} {dd:Nat} {t ty:TypeId} {pos:String} {after:Array Edge} {B0:Blk} {α β:Type} {kf:α->D} {f:β->D} (m kt et:Nat) (hd:decide (dd < C.n)=true) (hb:hp[m]?=some B0) (hm:m < C.k->C.mv m=true) (hf:Fr.mapRef (purge m) fr=fr') (hh:(hp.map (Blk.mapRef (purge m))).set m (.map kt et (aF kf f ([]:List (α×β))))=hp')
    (h:aH C ops l ⟨(dd,.mmap m) :: fr',hp'⟩ K):aH C ops (⟨some dd,.makeMap t none,ty,pos,after,none⟩ :: l) ⟨fr,hp⟩ K:=by
  subst hf hh;exact bS rfl (qC rfl hd kt et (st:=⟨fr,hp⟩) hb hm h)
theorem mS {t k e:TypeId} (hu:P.underlying t=some (.map k e)) (b:Option Nat) (w:World):(binOp .eql t (.map b) (.map none)).run P w=.ok (.bool b.isNone) w:=by
  have h:(Op.equalIn (9999+1) t (.map b) (.map none)).run P w=.ok b.isNone w:=by
    unfold Op.equalIn;cases b<;>simp [run_underlying hu]
  have h':(Op.equal t (.map b) (.map none)).run P w=.ok b.isNone w:=h;simp [binOp,h']
theorem pB {op:BinOp} {t:TypeId} {x y:Operand} {b b':Option Nat} (w:World):(eqGuard op t x y (.map b) (.map b')).run P w=.ok () w:=by
  unfold eqGuard;cases op<;>simp
section
variable {o:Oper} {ev:Operand->AV} {hp:List Blk} {x y:Operand} {t t' k e:TypeId}
theorem mX (ho:o.op=.binOp .eql t x y t') (hu:C.P.underlying t=some (.map k e)) (hx:ev x=.d .nilmap) (hy:y=.const (.map none)):RdOk C o ev hp (.d (.bool true)):=
  RdOk.mk λst hhp hag g a w hs=>by
    subst hy;have h:=hs.ev x;rw [hag x (by simp [ho,Op.operands]),hx] at h
    have hv:a.eval x=.map none:=by
      generalize a.eval x=v at *;cases h with|d _ _ h=>cases h;rfl
    refine⟨.bool true,?_,.d _ _ (.bool true)⟩;have he:a.eval (.const (.map none))=.map none:=rfl;simp only [execOp,ho,hv,he,Sem.run_bind,pB,Result.andThen_ok,mS hu];rfl
theorem mY {id:Nat} (ho:o.op=.binOp .eql t x y t') (hu:C.P.underlying t=some (.map k e)) (hx:ev x=.mmap id) (hy:y=.const (.map none)):RdOk C o ev hp (.d (.bool false)):=
  RdOk.mk λst hhp hag g a w hs=>by
    subst hy;have h:=hs.ev x;rw [hag x (by simp [ho,Op.operands]),hx] at h;obtain⟨b,_,hv⟩:=rL h;refine⟨.bool false,?_,.d _ _ (.bool false)⟩;have he:a.eval (.const (.map none))=.map none:=rfl;simp only [execOp,ho,hv,he,Sem.run_bind,pB,Result.andThen_ok,mS hu];rfl
end
theorem qO {α β:Type} {dk:TypeDesc} {kf:α->D} {ok:α->Bool} {ks:List TypeDesc} {o:Oper} {ev:Operand->AV} {hp:List Blk} {x y:Operand} {t kt et:TypeId} {z:Value} (S:SKey C.P kt ks) (hk:KeyG ks kf ok) (f:β->D) (s:α) (z0:β) (ho:o.op=.lookup t x y true) (hl:mty C.P t=some (kt,dk,et)) (hz:(C.P.info? et).bind (·.zero)=some z) (hzd:bJ z=.d (f z0))
    (hx:ev x=.d .nilmap) (hy:ev y=.d (kf s)) (hg:ok s=true):RdOk C o ev hp (.tup [.d (f z0),.d (.bool false)]):=
  pU S ho hl hz hzd hx hy (hk.key _ hg)
theorem yW {ops:Array Oper} {l:List Oper} {K:St->Prop} {fr:Fr} {hp:List Blk} {α:Type} {f:α->D} (N e sz:Nat) (hN:Nat.beq hp.length N=true) (h:aH C ops l ⟨fr,hp++[Blk.flat e sz (([]:List α).map f)]⟩ K):aH C ops l ⟨fr,hp⟩ K:=
  λg a w hs=>h g a w (Sim.virt (st:=⟨fr,hp⟩) hs e sz)
inductive ArgW:AV->AV->Prop
  | refl (x:AV):ArgW x x
  | nil (i sz:Nat):ArgW (.d .nilsl) (.msl i sz 0 0)
  | nilD (sz:Nat):ArgW (.d .nilsl) (.d (.sl sz []))
inductive ArgsW:List AV->List AV->Prop
  | nil:ArgsW [] []
  | cons {x y:AV} {xs ys:List AV} (h:ArgW x y) (hr:ArgsW xs ys):ArgsW (x :: xs) (y :: ys)
theorem ArgW.rep {x y:AV} (h:ArgW x y) {v:Value} (hv:ARep w g x v):ARep w g y v:=by
  cases h with
  | refl=>exact hv
  | nil i sz=>cases hv with
    | d _ _ hd=>cases hd with
      | nilsl ad=>exact .msl0 _ _ _ _
  | nilD sz=>cases hv with
    | d _ _ hd=>cases hd with
      | nilsl ad=>exact .d _ _ (.sl0 _ _ _)
theorem ArgsW.rep:∀ {xs ys:List AV},ArgsW xs ys->∀ {vs:List Value},Pw (ARep w g) xs vs->Pw (ARep w g) ys vs
  | [],[],.nil,vs,h=>h
  | x :: xs,y :: ys,.cons hx hr,vs,h=>by
    cases vs with
    | nil=>have:=h.1;simp at this
    | cons v vs=>
      have h1:Pw (ARep w g) xs vs:=⟨by simpa using h.1,λi a b ha hb=>h.2 (i+1) a b (by simpa using ha) (by simpa using hb)⟩;have h2:=ArgsW.rep hr h1;refine⟨by simp [h2.1],λi a b ha hb=>?_⟩
      cases i with
      | zero=>simp at ha hb;subst ha hb;exact hx.rep (h.2 0 x v rfl rfl)
      | succ i=>exact h2.2 i a b (by simpa using ha) (by simpa using hb)
theorem Ret.argsW {F:FuncId} {hp hp':List Blk} {mv:Nat->Bool} {xs ys:List AV} {r:AV} (h:Ret P F hp mv ys r hp') (hw:ArgsW xs ys):Ret P F hp mv xs r hp':=
  ⟨h.1,λw g vs ho ha=>h.2 w g vs ho (hw.rep ha)⟩
theorem wN {ops : Array Oper} {l : List Oper} {K : St -> Prop} {fr : Fr} {hp : List Blk} {d : Nat} {ty : TypeId} {pos : String} {after : Array Edge} {f : Operand} {xs : Array Operand} {ts : Array TypeId} {F : FuncId} {c : AV} {cs : List AV} (ids : List Nat) (mv : Nat -> Bool) {args0 args : List AV} {r r' : AV} {fr2 : Fr} {hh hp' hp2 : List Blk} (hd : decide (d < C.n) = true) (hf : fr.ev f = c) (hc : kI c = some (F, cs)) (hnd : ids.Nodup) (hal : (ids.all fun j => aI hp j) = true)
    (hmv:((List.range C.k).all λj=>!mvd ids mv j||C.mv j)=true) (hx:((xs.toList.map fr.ev)++cs).map (AV.mapRef (toName (aE ids)))=args0) (hhd:jN ids hp=hh) (hret:Ret C.P F hh mv args r hp') (hw:ArgsW args0 args) (hr:r.mapRef (fwd ids hp.length)=r') (hfr:Fr.mapRef (bV (mvd ids mv)) fr=fr2) (hb:gG ids (hp.map (Blk.mapRef (bV (mvd ids mv)))) hp'=hp2)
    (h:aH C ops l ⟨(d,r') :: fr2,hp2⟩ K):aH C ops (⟨some d,.call { callee:=.value f,args:=xs,argTypes:=ts },ty,pos,after,none⟩ :: l) ⟨fr,hp⟩ K:=
  cP ids mv hd hf hc hnd hal hmv hx hhd (hret.argsW hw) hr hfr hb h
theorem s_on {ops:Array Oper} {op:Op} {dst:Option Nat} {ty:TypeId} {pos:String} {after:Array Edge} {gd:Option (Nat×Bool)} {l:List Oper} {K:St->Prop} {fr:Fr} {hp:List Blk} (hon:onE ops gd fr=some true)
    (k:aH C ops (⟨dst,op,ty,pos,after,none⟩ :: l) ⟨fr,hp⟩ K):aH C ops (⟨dst,op,ty,pos,after,gd⟩ :: l) ⟨fr,hp⟩ K:=by
  intro g a w hs;have h:=k g a w hs;unfold wpList at h ⊢
  have hw:Region.wanted ⟨dst,op,ty,pos,after,gd⟩ (yielded ops a.tmps)=true:=by
    rcases pZ hs hon with ⟨hg,_⟩|⟨i,want,hg,⟨hy,_⟩|⟨_,hc⟩⟩
    · simp [Region.wanted,hg]
    · simp [Region.wanted,hg,hy]
    cases hc
  rw [if_pos hw];rw [if_pos (by simp [Region.wanted])] at h;exact h
end Go.TL
set_option maxHeartbeats 8000000
set_option linter.unusedSimpArgs false
set_option linter.unusedVariables false
set_option maxRecDepth 20000
namespace Go.Proofs.Ytdkhkhidekpfoaa
open Go Go.TL
abbrev BA := ByteArray
structure Ac where
 op:Int
 var:Int
 args:(List Ac)
instance:Inhabited Ac:=⟨⟨default,default,[]⟩⟩
mutual
def Ac.Ah:Ac->D
 | ⟨a0,a1,a2⟩=>.agg [.int .i64 a0,.int .i64 a1,.sl 3 (Ac.Ag a2)]
def Ac.Ag:List Ac->List D
 | []=>[]
 | e :: r=>Ac.Ah e :: Ac.Ag r
end
theorem Ac.encsR_map:∀ xs:List Ac,Ac.Ag xs=xs.map Ac.Ah
 | []=>by simp [Ac.Ag]
 | e :: r=>by simp [Ac.Ag,Ac.encsR_map r]
def Ac.enc (x:Ac):D:=.agg [.int .i64 x.op,.int .i64 x.var,.sl 3 (x.args.map Ac.Ah)]
theorem Ac.Af (x:Ac):x.Ah=x.enc:=by cases x;simp [Ac.Ah,Ac.enc,Ac.encsR_map]
theorem Ac.Ai (x:Ac):x.Ah.cells.length=3:=by rw [Ac.Af];rfl
mutual
def Ac.beq:Ac->Ac->Bool
 | ⟨a0,a1,a2⟩,⟨b0,b1,b2⟩=>decide (a0=b0)&&decide (a1=b1)&&Ac.beqs a2 b2
def Ac.beqs:List Ac->List Ac->Bool
 | [],[]=>true
 | x :: xs,y :: ys=>Ac.beq x y&&Ac.beqs xs ys
 | _,_=>false
end
mutual
theorem Ac.beq_iff:∀ a b:Ac,Ac.beq a b=true↔a=b
 | ⟨a0,a1,a2⟩,⟨b0,b1,b2⟩=>by simp [Ac.beq,Ac.beqs_iff a2 b2,and_assoc]
theorem Ac.beqs_iff:∀ a b:List Ac,Ac.beqs a b=true↔a=b
 | [],[]=>by simp [Ac.beqs]
 | [],_ :: _=>by simp [Ac.beqs]
 | _ :: _,[]=>by simp [Ac.beqs]
 | x :: xs,y :: ys=>by simp [Ac.beqs,Ac.beq_iff x y,Ac.beqs_iff xs ys]
end
instance:DecidableEq Ac:=λa b=>decidable_of_iff _ (Ac.beq_iff a b)
inductive Ac.Wf:Ac->Prop
 | mk (x:Ac) (h0:I64 x.op) (h1:I64 x.var) (h2:x.args.length<=reachBytes) (g2:∀ y∈x.args,Ac.Wf y):Ac.Wf x
structure Aa where
 var:Int
 lo:Int
 hi:Int
deriving DecidableEq,Inhabited
def Aa.enc (x:Aa):D:=.agg [.int .i64 x.var,.int .i64 x.lo,.int .i64 x.hi]
structure Aa.Wf (x:Aa):Prop where
 var:I64 x.var
 lo:I64 x.lo
 hi:I64 x.hi
structure Ab where
 nodes:(List Aa)
 root:Int
deriving DecidableEq,Inhabited
def Ab.enc (x:Ab):D:=.agg [.sl 3 (x.nodes.map Aa.enc),.int .i64 x.root]
structure Ab.Wf (x:Ab):Prop where
 nodes:x.nodes.length<=reachBytes/\∀ y∈x.nodes,Aa.Wf y
 root:I64 x.root
structure Ae where
 a:Int
 b:Int
deriving DecidableEq,Inhabited
def Ae.enc (x:Ae):D:=.agg [.int .i64 x.a,.int .i64 x.b]
structure Ae.Wf (x:Ae):Prop where
 a:I64 x.a
 b:I64 x.b
structure Node' where
 index:(List (Aa×Int))
 list:(List Aa)
deriving DecidableEq,Inhabited
structure Node'.Wf (x:Node'):Prop where
 index:True
 list:x.list.length<=reachBytes/\∀ y∈x.list,Aa.Wf y
structure Ad where
 a:Ab
 b:Ab
 all:Bool
 nodes:Node'
 done:(List (Ae×Int))
 full:Bool
deriving DecidableEq,Inhabited
structure Ad.Wf (x:Ad):Prop where
 a:Ab.Wf x.a
 b:Ab.Wf x.b
 all:True
 nodes:Node'.Wf x.nodes
 done:True
 full:True
def Aa.ok (x:Aa):Prop:=I64 x.var/\I64 x.lo/\I64 x.hi
instance (x:Aa):Decidable (Aa.ok x):=by unfold Aa.ok;infer_instance
def Aa.okb (x:Aa):Bool:=decide (Aa.ok x)
theorem pJ (x y:Aa):([.int .i64 x.var,.int .i64 x.lo,.int .i64 x.hi]:List Lit)=[.int .i64 y.var,.int .i64 y.lo,.int .i64 y.hi]↔decide (x=y)=true:=by
 rw [decide_eq_true_eq]
 obtain⟨_,_,_⟩:=x
 obtain⟨_,_,_⟩:=y
 simp [Aa.mk.injEq,uA,and_assoc]
def Ae.ok (x:Ae):Prop:=I64 x.a/\I64 x.b
instance (x:Ae):Decidable (Ae.ok x):=by unfold Ae.ok;infer_instance
def Ae.okb (x:Ae):Bool:=decide (Ae.ok x)
end Go.Proofs.Ytdkhkhidekpfoaa
