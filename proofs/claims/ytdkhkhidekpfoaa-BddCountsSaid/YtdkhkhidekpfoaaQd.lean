/- Texts of this proof, joined, without what it does not use. No condition. -/
import Derived.Laws.MakeOwn
import Derived.Laws.OwnMore
import Derived.Laws.Append
import Derived.Laws.Slices
import Derived.Great.BuildSlice
import Derived.Test.YtdkhkhidekpfoaaQc

namespace Go.TL
variable {C:Ctx} {st:St} {g:Gh} {a:Act} {w:World} {P:Program}
def SrcA (hp:List Blk) (sz:Nat) (ds:List D):AV->Prop
  | .d (.sl s es)=>s=sz/\es=ds
  | .d .nilsl=>ds=[]
  | .msl id s off len=>s=sz/\∃ ty es,hp[id]?=some (.flat ty sz es)/\off+len<=es.length/\ds=(es.drop off).take len
  | _=>False
def Src (w:World) (X:Nat->Prop) (sz:Nat) (ds:List D) (v:Value):Prop:=
  (∃ a cap,v=.slice a 0 cap/\ds=[])\/
  ∃ (ad:Addr) (cap:Nat) (news:List Value),v=.slice (some ad) ds.length cap/\news.length=ds.length * sz/\(∀ (j:Nat) (u:Value),news[j]?=some u->w.cell? (ad.add j)=some u)/\(∀ u∈news,u.oneCell'=true)/\
    (∀ (i:Nat) (e:D),ds[i]?=some e->e.cells.length=sz)/\(∀ (i:Nat) (e:D) (j:Nat) (c:D),ds[i]?=some e->e.cells[j]?=some c->c.one=true)/\
    ∀ (i:Nat) (e:D) (j:Nat) (c:D),ds[i]?=some e->e.cells[j]?=some c->∃ v,news[i * sz+j]?=some v/\DRep w X c v
theorem jV {sz:Nat} {ds:List D} {X:Nat->Prop} (f:Nat->Option Value) (hs:∀ (i:Nat) (e:D),ds[i]?=some e->e.cells.length=sz)
    (h1:∀ (i:Nat) (e:D) (j:Nat) (c:D),ds[i]?=some e->e.cells[j]?=some c->c.one=true)
    (h:∀ (i:Nat) (e:D) (j:Nat) (c:D),ds[i]?=some e->e.cells[j]?=some c->∃ v,f (i * sz+j)=some v/\DRep w X c v):
    ∃ news:List Value,news.length=ds.length * sz/\(∀ (j:Nat) (u:Value),news[j]?=some u->f j=some u)/\(∀ u∈news,u.oneCell'=true)/\
      ∀ (i:Nat) (e:D) (j:Nat) (c:D),ds[i]?=some e->e.cells[j]?=some c->∃ v,news[i * sz+j]?=some v/\DRep w X c v:=by
  have key:∀ m,m < ds.length * sz->∃ i e j c,ds[i]?=some e/\e.cells[j]?=some c/\m=i * sz+j:=by
    intro m hm
    have hsz : 0 < sz := by rcases Nat.eq_zero_or_pos sz with h0 | h0; · subst h0; simp at hm
                            · exact h0
    have hi:m / sz < ds.length:=by rw [Nat.div_lt_iff_lt_mul hsz];exact hm
    have hj:m % sz < sz:=Nat.mod_lt _ hsz;refine⟨m / sz,ds[m / sz],m % sz,_,List.getElem?_eq_getElem hi,List.getElem?_eq_getElem (by rw [hs _ _ (List.getElem?_eq_getElem hi)];exact hj),?_⟩;have:=Nat.div_add_mod m sz;rw [Nat.mul_comm] at this;exact this.symm
  refine⟨(List.range (ds.length * sz)).map λm=>(f m).getD undef,by simp,?_,?_,?_⟩
  · intro m u hu
    simp only [List.getElem?_map,Option.map_eq_some_iff] at hu;obtain⟨k,hk,rfl⟩:=hu;have hlt:m < ds.length * sz:=by simpa using (List.getElem?_eq_some_iff.1 hk).1
    have:k=m:=by simpa using ((List.getElem?_eq_some_iff.1 hk).2).symm
    subst this;obtain⟨i,e,j,c,he,hc,rfl⟩:=key k hlt;obtain⟨v,hv,_⟩:=h i e j c he hc;simp [hv]
  · intro u hu
    simp only [List.mem_map,List.mem_range] at hu;obtain⟨m,hm,rfl⟩:=hu;obtain⟨i,e,j,c,he,hc,rfl⟩:=key m hm;obtain⟨v,hv,hd⟩:=h i e j c he hc;rw [hv];exact (hd.oneCell (h1 i e j c he hc)).1
  intro i e j c he hc;obtain⟨v,hv,hd⟩:=h i e j c he hc;refine⟨v,?_,hd⟩;have hi:=(List.getElem?_eq_some_iff.1 he).1;have hj:=(List.getElem?_eq_some_iff.1 hc).1;rw [hs i e he] at hj;have hm:=Nat.mul_le_mul_right sz hi;rw [Nat.succ_mul] at hm;rw [List.getElem?_map,List.getElem?_range (by omega)];simp [hv]
theorem wJ (hs:Sim C st g a w) {x:AV} {v:Value} (h:ARep w g x v) {sz:Nat} {ds:List D} (hx:SrcA st.hp sz ds x):Src w g.X sz ds v:=by
  cases h with
  | d d v h=>
    cases h with
    | nilsl ad=>exact Or.inl ⟨ad,0,rfl,hx⟩
    | sl0 s ad cap=>exact Or.inl ⟨ad,cap,rfl,hx.2.symm⟩
    | sl s es ad cap val hX hc h0 h1 hv hr=>
      obtain⟨rfl,rfl⟩:=hx;obtain⟨news,n1,n2,n3,n4⟩:=jV (w:=w) (X:=g.X) (λm=>w.cell? (ad.add m)) h0 h1 λi e j c he hc=>⟨_,hv i e j c he hc,hr i e j c he hc⟩;exact Or.inr ⟨ad,cap,news,rfl,n1,n2,n3,h0,h1,n4⟩
    | _=>cases hx
  | msl0 id s off ad=>
    obtain⟨rfl,ty,es,hb,hle,rfl⟩:=hx;exact Or.inl ⟨ad,0,rfl,by simp⟩
  | msl id s off len cap b hb hc hp=>
    obtain⟨rfl,ty,es,hblk,hle,rfl⟩:=hx;have hlen:((es.drop off).take len).length=len:=by simp;omega
    rcases hs.hp id _ hblk with ⟨he,hn⟩|⟨b',cells,hp',hw,hpsi,hl,h0,h1,hr⟩
    · rw [hb] at hn;cases hn
    cases hb.symm.trans hp'
    have hds:∀ (i:Nat) (e:D),((es.drop off).take len)[i]?=some e->es[off+i]?=some e:=by
      intro i e he;rw [List.getElem?_take] at he;split at he
      · rwa [List.getElem?_drop] at he
      cases he
    obtain⟨news,n1,n2,n3,n4⟩:=jV (w:=w) (X:=g.X) (ds:=(es.drop off).take len) (sz:=s) (λm=>cells[off * s+m]?) (λi e he=>h0 _ e (hds i e he)) (λi e j c he hc=>h1 _ e j c (hds i e he) hc) λi e j c he hc=>by
      obtain⟨u,hu,hd⟩:=hr _ e j c (hds i e he) hc;exact⟨u,by rw [<- hu,Nat.add_mul];congr 1;omega,hd⟩
    refine Or.inr ⟨⟨b,off * s,none⟩,cap,news,by rw [hlen],n1,λj u hu=>?_,n3,λi e he=>h0 _ e (hds i e he),λi e j c he hc=>h1 _ e j c (hds i e he) hc,n4⟩;rw [dU,cell_of_row w b _ cells ty (0,0) hw];exact n2 j u hu
  | _=>cases hx
theorem fJ {t:TypeId} {z:Value} (hz:(P.info? t).bind (·.zero)=some z):∃ i,P.info? t=some i/\i.zero=some z:=by
  cases hi:P.info? t with
  | none=>simp [hi] at hz
  | some i=>exact⟨i,rfl,by simpa [hi] using hz⟩
theorem oJ (z:Array Value) (n sz i j:Nat) (hs:z.size=sz) (hi:i < n) (hj:j < sz):(madeCells z (n * sz))[i * sz+j]?=z[j]?:=by
  have hlt:i * sz+j < n * sz:=by
    have:=Nat.mul_le_mul_right sz hi;rw [Nat.succ_mul] at this;omega
  have hmod:(i * sz+j) % sz=j:=by rw [Nat.mul_comm,Nat.mul_add_mod];exact Nat.mod_eq_of_lt hj
  subst hs;simp only [madeCells,Array.getElem?_map,Array.getElem?_range,hlt];simp [hmod,hj]
theorem uN {ty:TypeId} {sz:Nat} {es:List D} {vs:Array Value} (hsim:Sim C st g a w) (hl:es.length * sz<=vs.size) (h0:∀ (i:Nat) (e:D),es[i]?=some e->e.cells.length=sz)
    (h1:∀ (i:Nat) (e:D) (j:Nat) (c:D),es[i]?=some e->e.cells[j]?=some c->c.one=true)
    (h:∀ (i:Nat) (e:D) (j:Nat) (c:D),es[i]?=some e->e.cells[j]?=some c->∃ v,vs[i * sz+j]?=some v/\DRep w g.X c v):
    Sim C ⟨st.fr,st.hp++[.flat ty sz es]⟩ (g.new st.hp.length w.heap.size vs.size) a (w.alloc (.cells vs ty))/\
      ∀ cap,es.length<=cap->cap * sz<=vs.size->ARep (w.alloc (.cells vs ty)) (g.new st.hp.length w.heap.size vs.size) (.msl st.hp.length sz 0 es.length) (.slice (some ⟨w.heap.size,0,none⟩) es.length cap):=by
  have hgr:=hsim.grow_new (.cells vs ty) vs.size;refine⟨hsim.alloc (.inr ⟨w.heap.size,vs,by simp [Gh.new,upd],heap_alloc_new w _,by simp [Gh.new,upd],hl,h0,h1,λi e j c he hc=>?_⟩),λcap hc hcap=>?_⟩
  · obtain⟨v,hv,hd⟩:=h i e j c he hc
    exact⟨v,hv,hd.mono hgr.X hgr.mem⟩
  have := ARep.msl (w := w.alloc (.cells vs ty)) (g := g.new st.hp.length w.heap.size vs.size) st.hp.length sz 0 es.length cap w.heap.size (by simp [Gh.new, upd]) hc (by simpa [Gh.new, upd] using hcap);simpa using this
structure RowOf (w:World) (X:Nat->Prop) (sz:Nat) (es:List D) (vs:Array Value):Prop where
  le:es.length * sz<=vs.size
  h0:∀ (i:Nat) (e:D),es[i]?=some e->e.cells.length=sz
  h1:∀ (i:Nat) (e:D) (j:Nat) (c:D),es[i]?=some e->e.cells[j]?=some c->c.one=true
  rep:∀ (i:Nat) (e:D) (j:Nat) (c:D),es[i]?=some e->e.cells[j]?=some c->∃ v,vs[i * sz+j]?=some v/\DRep w X c v
theorem nP {o:Oper} {t e:TypeId} {x y:Operand} (sz by':Nat) (n:Int) (z:Value) (zd:D) (ho:o.op=.makeSlice t x y) (hl:sel C.P t=some (e,sz,by')) (hz:(C.P.info? e).bind (·.zero)=some z) (hzd:bJ z=.d zd) (hzs:zd.cells.length=sz)
    (hx:st.fr.ev x=.d (.int .i64 n)) (hy:st.fr.ev y=.d (.int .i64 n)) (h0:0<=n) (hb:(by':Int) * n<=281474976710656) (hm:n<=9223372036854775807)
    (hs:Sim C st g a w):∃ vs:Array Value,(execOp a.eval o).run C.P w=.ok (.value (.slice (some ⟨w.heap.size,0,none⟩) n.toNat n.toNat)) (w.alloc (.cells vs e))/\RowOf w g.X sz (List.replicate n.toNat zd) vs:=by
    obtain⟨inf,hu,hi,hsz,hby⟩:=eK hl;obtain⟨i',hi',hzero⟩:=fJ hz;cases hi.symm.trans hi';have hvx:=hs.ev x;rw [hx] at hvx;have hvy:=hs.ev y;rw [hy] at hvy;have hrun:=run_make (P:=C.P) w t e inf z hu hi hzero .i64 .i64 n n h0 (Int.le_refl _) (by rw [hby];exact hb) hm;have hzr:=dA w g z;rw [hzd] at hzr;have hzr':DRep w g.X zd z:=by cases hzr with|d _ _ h=>exact h
    obtain⟨z1,z2,z3⟩:=hzr'.cells;have hzsz:z.cells.size=sz:=z1.trans hzs
    refine ⟨madeCells z.cells (n.toNat * inf.size), ?_, (by simp [size_madeCells, hsz]),
      (fun i e he => by rw [List.getElem?_replicate] at he; split at he <;> cases he; exact hzs),
      (fun i e j c he hc => by rw [List.getElem?_replicate] at he; split at he <;> cases he; exact z2 c (List.mem_of_getElem? hc)),
      (fun i e j c he hc => by
        rw [List.getElem?_replicate] at he;split at he
        · rename_i hlt
          cases he;obtain ⟨u, hu', hd'⟩ := z3 j c hc;exact ⟨u, by rw [hsz, oJ _ _ _ _ _ hzsz hlt (by rw [<- hzs]; exact (List.getElem?_eq_some_iff.1 hc).1)]; exact hu', hd'⟩
        cases he)⟩
    simp only [execOp,ho,int_inv hvx,int_inv hvy,Sem.run_bind,hrun,Result.andThen_ok,Sem.run_pure]
theorem qB {o:Oper} {K:St->Prop} {t e:TypeId} {x y:Operand} (sz by':Nat) (n:Int) (z:Value) (zd:D) (ho:o.op=.makeSlice t x y) (hd:fU C.n o.dst=true) (hl:sel C.P t=some (e,sz,by')) (hz:(C.P.info? e).bind (·.zero)=some z) (hzd:bJ z=.d zd) (hzs:zd.cells.length=sz)
    (hx:st.fr.ev x=.d (.int .i64 n)) (hy:st.fr.ev y=.d (.int .i64 n)) (h0:0<=n) (hb:(by':Int) * n<=281474976710656) (hm:n<=9223372036854775807)
    (hK:K (St.put ⟨st.fr,st.hp++[.flat e sz (List.replicate n.toNat zd)]⟩ o.dst (.msl st.hp.length sz 0 n.toNat))):OpOk C o st K:=
  OpOk.change λg a w hs=>by
    obtain⟨vs,hr,row⟩:=nP sz by' n z zd ho hl hz hzd hzs hx hy h0 hb hm hs
    obtain⟨h1,h2⟩:=uN (ty:=e) hs row.le row.h0 row.h1 row.rep;refine⟨_,_,hr,_,_,hK,h1.put' hd ?_⟩;have:=h2 n.toNat (by simp) (by simpa using row.le);simpa using this
theorem uR (cells vs:Array Value) (off:Nat) (hfit:off+vs.size<=cells.size):(vs.zipIdx.foldl (λcs (c,j)=>cs.setIfInBounds (off+j) c) cells).toList=spl cells.toList off vs.toList:=by
  have key:∀ (l:List Value) (k:Nat) (cs:Array Value),off+k+l.length<=cs.size->
      ((l.zipIdx k).foldl (λ(cs:Array Value) (x:Value×Nat)=>cs.setIfInBounds (off+x.2) x.1) cs).toList=spl cs.toList (off+k) l:=by
    intro l
    induction l with
    | nil=>intro k cs _;simp [spl]
    | cons v r ih=>
      intro k cs h;simp only [List.length_cons] at h;simp only [List.zipIdx_cons,List.foldl_cons];rw [ih (k+1) _ (by simp;omega)];simp only [spl,Array.toList_setIfInBounds,List.length_cons];apply List.ext_getElem?;intro m;simp only [List.getElem?_append,List.length_take,List.getElem?_take,List.getElem?_drop,List.length_set,Array.length_toList,List.getElem?_set,List.length_cons,List.getElem?_cons];have e1:min (off+(k+1)) cs.size=off+k+1:=by omega
      have e2:min (off+k) cs.size=off+k:=by omega
      rw [e1,e2];by_cases m1:m < off+k
      · simp [m1,show m < off+k+1 by omega,show m < off+(k+1) by omega,show ¬ (off+k=m) by omega]
      by_cases m2:m=off+k
      · subst m2;simp [show off+k < cs.size by omega]
      simp only [m1, show ¬ m < off + k + 1 by omega, if_false, show ¬ (m - (off + k) = 0) by omega];by_cases m3:m - (off+k+1) < r.length
      · simp only [m3, if_true, show m - (off + k) < r.length + 1 by omega]
        congr 1
      simp only [m3, if_false, show ¬ (m - (off + k) < r.length + 1) by omega];rw [if_neg (by omega)]
      congr 1
      omega
  have h:=key vs.toList 0 cells (by simpa using hfit);simp only [Nat.add_zero] at h;rw [<- h,<- Array.foldl_toList,Array.toList_zipIdx]
theorem nL {w:World} {X:Nat->Prop} {sz:Nat}:∀ (ds:List D) (vs:List Value) (k:Nat) (cells:Array Value),Pw (DRep w X) ds vs->(∀ d∈ds,d.cells.length=sz)->(k+ds.length) * sz<=cells.size->
    ∃ res, Instr.fill (fun i => some (i * sz, sz)) cells ((vs.zipIdx k).map fun x => (x.2, x.1)) = some res /\ res.size = cells.size /\ (∀ m, m < k * sz -> res[m]? = cells[m]?) /\
      ∀ (i:Nat) (e:D) (j:Nat) (c:D),ds[i]?=some e->e.cells[j]?=some c->∃ v,res[(k+i) * sz+j]?=some v/\DRep w X c v
  | [],vs,k,cells,hp,_,_=>by
    have:vs=[]:=List.eq_nil_of_length_eq_zero (by simpa using hp.1.symm);subst this;exact⟨cells,by simp [Instr.fill],rfl,λ_ _=>rfl,λi e j c he _=>by simp at he⟩
  | d :: ds,[],k,cells,hp,_,_=>by have:=hp.1;simp at this
  | d :: ds,v :: vs,k,cells,hp,hs,hl=>by
    have hd:DRep w X d v:=hp.2 0 d v rfl rfl;obtain⟨d1,d2,d3⟩:=hd.cells;have hds:d.cells.length=sz:=hs d (by simp);have hvs:v.cells.size=sz:=d1.trans hds;simp only [List.length_cons] at hl;have e1:(k+(ds.length+1)) * sz=k * sz+sz+ds.length * sz:=by rw [Nat.add_mul,Nat.add_mul];omega
    rw [e1] at hl;have hf:=uR cells v.cells (k * sz) (by omega);generalize hc':v.cells.zipIdx.foldl (λcs (c,j)=>cs.setIfInBounds (k * sz+j) c) cells=cells' at hf
    have hsz':cells'.size=cells.size:=by
      have:=congrArg List.length hf;simp only [Array.length_toList,spl,List.length_append,List.length_take,List.length_drop] at this;omega
    have hget:∀ m,cells'[m]?=if m < k * sz then cells[m]? else if m < k * sz+sz then v.cells[m - k * sz]? else cells[m]?:=by
      intro m;rw [<- Array.getElem?_toList,hf];simp only [spl,List.getElem?_append,List.length_take,Array.length_toList,List.getElem?_take,List.getElem?_drop,Array.getElem?_toList,hvs];have hmin:min (k * sz) cells.size=k * sz:=by omega
      rw [hmin];by_cases m1:m < k * sz
      · simp [m1]
      rw [if_neg m1,if_neg m1];by_cases m2:m < k * sz+sz
      · rw [if_pos (by omega),if_pos m2]
      rw [if_neg (by omega), if_neg m2]
      congr 1
      omega
    obtain ⟨res, r1, r2, r3, r4⟩ := nL (w := w) (X := X) (sz := sz) ds vs (k + 1) cells' ⟨by have := hp.1; simpa using this, fun i x y hx hy => hp.2 (i + 1) x y (by simpa using hx) (by simpa using hy)⟩
      (λx hx=>hs x (by simp [hx])) (by rw [hsz',Nat.add_mul,Nat.add_mul,Nat.one_mul];omega)
    refine⟨res,?_,r2.trans hsz',λm hm=>?_,λi e j c he hc=>?_⟩
    · simp only [List.zipIdx_cons,List.map_cons,Instr.fill]
      rw [if_neg (by simp only [hvs,ne_eq,not_true,Bool.or_eq_true,decide_eq_true_eq,false_or,decide_false,Bool.false_eq_true];omega)];rw [hc'];exact r1
    · rw [r3 m (by rw [Nat.add_mul];omega),hget,if_pos hm]
    cases i with
    | zero=>
      simp only [List.getElem?_cons_zero,Option.some.injEq] at he;subst he;obtain⟨u,hu,hdu⟩:=d3 j c hc;have hj:j < sz:=by rw [<- hds];exact (List.getElem?_eq_some_iff.1 hc).1
      refine⟨u,?_,hdu⟩;rw [Nat.add_zero,r3 _ (by rw [Nat.add_mul];omega),hget,if_neg (by omega),if_pos (by omega),show k * sz+j - k * sz=j by omega];exact hu
    | succ i=>
      obtain⟨u,hu,hdu⟩:=r4 i e j c (by simpa using he) hc;exact⟨u,by rw [show k+(i+1)=k+1+i by omega];exact hu,hdu⟩
def cM (parts:Array (Nat×Operand)) (xs:List Operand):Prop:=parts.toList=(xs.zipIdx 0).map λx=>(x.2,x.1)
theorem uS (hs:Sim C st g a w):∀ (xs:List Operand) (ds:List D),xs.map st.fr.ev=ds.map AV.d->Pw (DRep w g.X) ds (xs.map a.eval)
  | [],ds,h=>by
    have:ds=[]:=by simpa using h.symm
    subst this;exact⟨rfl,λi x y hx=>by simp at hx⟩
  | x :: xs,[],h=>by simp at h
  | x :: xs,d :: ds,h=>by
    simp only [List.map_cons,List.cons.injEq] at h;have ih:=uS hs xs ds h.2;refine⟨by simpa using ih.1,λi y v hy hv=>?_⟩
    cases i with
    | zero=>
      simp at hy hv;subst hy hv;have:=hs.ev x;rw [h.1] at this;cases this with|d _ _ h=>exact h
    | succ i=>exact ih.2 i y v (by simpa using hy) (by simpa using hv)
theorem yZ (w:World) (t e:TypeId) (len:Nat) (parts:Array (Nat×Value)) (cells:Array Value) (ie:TypeInfo) (z:Value) (hu:P.underlying t=some (.slice e)) (hie:P.info? e=some ie) (hz:ie.zero=some z) (hsmall:len * ie.size<=16777216)
    (h:Instr.fill (λi=>some (i * ie.size,ie.size)) ((Array.range (len * ie.size)).map (z.cells[· % z.cells.size]!)) parts.toList=some cells):
    (Instr.buildSlice t len parts).run P w=.ok (.slice (some ⟨w.heap.size,0,none⟩) len len) (w.alloc (.cells cells e)):=by
  by_cases h0:len * ie.size=0
  · have hz0 : ∀ f : Nat -> Value, (Array.range (len * ie.size)).map f = #[] := fun f => by rw [h0]; simp
    rw [hz0] at h;unfold Instr.buildSlice;simp only [Sem.run_bind,run_underlying hu,Result.andThen_ok,sizeOf,typeInfo,run_program,hie,Sem.run_pure,hz0];rw [if_neg (by omega),if_pos h0];simp [h,newRow]
  exact run_buildSlice w t e len parts cells ie z hu hie hz (by omega) h0 h
theorem gP {o:Oper} {t e:TypeId} {parts:Array (Nat×Operand)} {n:Nat} (sz by':Nat) (xs:List Operand) (ds:List D) (z:Value) (ho:o.op=.buildSlice t n parts) (hl:sel C.P t=some (e,sz,by'))
    (hz:(C.P.info? e).bind (·.zero)=some z) (hp:cM parts xs) (hx:xs.map st.fr.ev=ds.map AV.d) (hn:ds.length=n) (hs:∀ d∈ds,d.cells.length=sz) (hsmall:n * sz<=16777216)
    (hsim:Sim C st g a w):∃ vs:Array Value,(execOp a.eval o).run C.P w=.ok (.value (.slice (some ⟨w.heap.size,0,none⟩) n n)) (w.alloc (.cells vs e))/\RowOf w g.X sz ds vs/\vs.size=n * sz:=by
    obtain⟨inf,hu,hi,hsz,hby⟩:=eK hl;obtain⟨i',hi',hzero⟩:=fJ hz;cases hi.symm.trans hi';have hpw:=uS hsim xs ds hx
    have hparts:(parts.map λ(i,x)=>(i,a.eval x)).toList=((xs.map a.eval).zipIdx 0).map λx=>(x.2,x.1):=by
      rw [Array.toList_map,hp,List.zipIdx_map,List.map_map,List.map_map];rfl
    obtain⟨res,r1,r2,_,r4⟩:=nL (w:=w) (X:=g.X) (sz:=sz) ds (xs.map a.eval) 0 ((Array.range (n * sz)).map (z.cells[· % z.cells.size]!)) hpw hs (by simp [hn])
    have hones:∀ (i:Nat) (e:D) (j:Nat) (c:D),ds[i]?=some e->e.cells[j]?=some c->c.one=true:=by
      intro i e j c he hc;have hlt:i < (xs.map a.eval).length:=by rw [<- hpw.1];exact (List.getElem?_eq_some_iff.1 he).1
      exact ((hpw.2 i e _ he (List.getElem?_eq_getElem hlt)).cells).2.1 c (List.mem_of_getElem? hc)
    refine⟨res,?_,⟨by rw [r2];simp [hn],λi e he=>hs e (List.mem_of_getElem? he),hones,λi e j c he hc=>by simpa using r4 i e j c he hc⟩,by rw [r2];simp⟩;have hrun:=yZ (P:=C.P) w t e n (parts.map λ(i,x)=>(i,a.eval x)) res inf z hu hi hzero (by rw [hsz];exact hsmall) (by rw [hsz,hparts];exact r1);simp only [execOp,ho,Sem.run_bind,hrun,Result.andThen_ok,Sem.run_pure]
theorem oH {o:Oper} {K:St->Prop} {t e:TypeId} {parts:Array (Nat×Operand)} {n:Nat} (sz by':Nat) (xs:List Operand) (ds:List D) (z:Value) (ho:o.op=.buildSlice t n parts) (hd:fU C.n o.dst=true) (hl:sel C.P t=some (e,sz,by'))
    (hz:(C.P.info? e).bind (·.zero)=some z) (hp:cM parts xs) (hx:xs.map st.fr.ev=ds.map AV.d) (hn:ds.length=n) (hs:∀ d∈ds,d.cells.length=sz) (hsmall:n * sz<=16777216)
    (hK:K (St.put ⟨st.fr,st.hp++[.flat e sz ds]⟩ o.dst (.msl st.hp.length sz 0 n))):OpOk C o st K:=
  OpOk.change λg a w hsim=>by
    obtain⟨vs,hr,row,hsz⟩:=gP sz by' xs ds z ho hl hz hp hx hn hs hsmall hsim
    obtain⟨h1,h2⟩:=uN (ty:=e) hsim row.le row.h0 row.h1 row.rep;exact⟨_,_,hr,_,_,hK,h1.put' hd (by have:=h2 n (by omega) (by rw [hsz];exact Nat.le_refl _);rwa [hn] at this)⟩
theorem gL {t e:TypeId} {s by':Nat} (h:sel P t=some (e,s,by')) (w:World) (ty:TypeId) (b b':Option Addr) (n cap cap':Nat) (hle:n<=cap):
    (Builtin.append_ #[t,t] ty #[.slice b n cap,.slice b' 0 cap']).run P w=.ok (.slice b n cap) w:=by
  obtain⟨inf,hu,hi,hs,_⟩:=eK h
  have hf:(Builtin.firstCells inf.size 0 (.slice b' 0 cap')).run P w=.ok #[] w:=by
    cases b' with
    | none=>simp [Builtin.firstCells]
    | some ad=>have:=run_firstCells_some (P:=P) w inf.size 0 ad 0 cap' [] (by simp) (λj v hv=>by simp at hv);simpa using this
  cases b with
  | none=>simp [Builtin.append_,run_underlying hu,sizeOf,typeInfo,hi,Builtin.lenOf,hle,hf]
  | some ad=>simp [Builtin.append_,run_underlying hu,sizeOf,typeInfo,hi,Builtin.lenOf,hle,hf,storeCells]
theorem aV {o:Oper} {t:TypeId} {x y:Operand} (ho:o.op=.call { callee:=.builtin .append,args:=#[x,y],argTypes:=#[t,t] }) {v:Value} {w':World} (hr:(Builtin.append_ #[t,t] o.type #[a.eval x,a.eval y]).run P w=.ok v w'):
    (execOp a.eval o).run P w=.ok (.value v) w':=by
  simp only [execOp,ho];simp [resolve,invoke,builtin,hr]
theorem eO (olds news:List Value) (zs:Array Value) (m:Nat):(olds.toArray++news.toArray++zs)[m]?=if m < olds.length then olds[m]? else if m < olds.length+news.length then news[m - olds.length]? else zs[m - (olds.length+news.length)]?:=by
  simp only [Array.getElem?_append,List.getElem?_toArray,Array.size_append,List.size_toArray];by_cases m1:m < olds.length
  · simp [m1,show m < olds.length+news.length by omega]
  simp only [m1,if_false]
variable {C:Ctx} {st:St} {g:Gh} {a:Act} {w:World} {P:Program}
theorem nB (i:Nat) (j:Nat) {B:Blk} (h:st.hp[j]?=some B):(st.purge i).hp[j]?=some (B.mapRef (purge i)):=by simp [St.purge,h]
theorem oI {o:Oper} {K:St->Prop} {t e:TypeId} {x y:Operand} (id sz by' n:Nat) (u:AV) (es ds:List D) (z:Value) (ho:o.op=.call { callee:=.builtin .append,args:=#[x,y],argTypes:=#[t,t] }) (hd:fU C.n o.dst=true) (hl:sel C.P t=some (e,sz,by'))
    (hz:(C.P.info? e).bind (·.zero)=some z) (hzs:z.cells.size=sz) (hx:st.fr.ev x=.msl id sz 0 n) (hb:st.hp[id]?=some (.flat e sz es)) (hn:n=es.length) (hmv:id < C.k->C.mv id=true) (hy:st.fr.ev y=u) (hu:SrcA st.hp sz ds u)
    (hlen:(es.length+ds.length) * by'<=140737488355328) (hlen':es.length+ds.length<=9223372036854775807)
    (hK:K (St.put ⟨(st.purge id).fr,(st.purge id).hp.set id (.flat e sz (es++ds))⟩ o.dst (.msl id sz 0 (es.length+ds.length)))):OpOk C o st K:=
  OpOk.change λg a w hsim=>by
    obtain⟨inf,hun,hi,hsz,hby⟩:=eK hl;obtain⟨i',hi',hzero⟩:=fJ hz;cases hi.symm.trans hi';have hid:=(List.getElem?_eq_some_iff.1 hb).1;have hvx:=hsim.ev x;rw [hx] at hvx;have hvy:=hsim.ev y;rw [hy] at hvy;have hsrc:=wJ hsim hvy hu;have hblk:=hsim.hp id _ hb;have hpurge:=hsim.purge id
    have zero:ds=[]->(∃ ad cap,a.eval y=.slice ad 0 cap)->∃ v w',(execOp a.eval o).run C.P w=.ok (.value v) w'/\Sat C K (a.put o.dst v) w':=by
      intro hds ⟨ad,cap,hey⟩;subst hds
      have hexv:∃ b cap',a.eval x=.slice b n cap'/\n<=cap':=by
        generalize a.eval x=vx at *
        cases hvx with
        | msl0=>exact⟨_,_,rfl,Nat.le_refl _⟩
        | msl _ _ _ _ cap b h1 h2 h3=>exact⟨_,_,rfl,h2⟩
      obtain⟨b,cap',hex,hle⟩:=hexv;have hr:=gL hl w o.type b ad n cap' cap hle;rw [<- hex,<- hey] at hr;refine⟨_,_,aV ho hr,_,g,hK,Sim.put' ?_ hd (by simpa [hn] using hvx)⟩
      have hset:(st.purge id).hp.set id (.flat e sz (es++[]))=(st.purge id).hp:=by
        apply List.ext_getElem?;intro m;rw [List.getElem?_set];split
        · rename_i hm
          subst hm;rw [nB id id hb,if_pos (by simpa [St.purge] using hid)];simp [Blk.mapRef]
        rfl
      rw [hset];exact hpurge
    rcases hsrc with ⟨ad,cap,hey,hds⟩|⟨ad,cap,news,hey,n1,n2,n3,n4,n5,n6⟩
    · exact zero hds ⟨ad,cap,hey⟩
    by_cases hm:ds.length=0
    · exact zero (List.eq_nil_of_length_eq_zero hm) ⟨some ad,cap,by rw [hm] at hey;exact hey⟩
    clear zero
    have hes:∀ (i:Nat) (d:D),(es++ds)[i]?=some d->(i < es.length/\es[i]?=some d)\/(es.length<=i/\ds[i - es.length]?=some d):=by
      intro i d h;rw [List.getElem?_append] at h;split at h
      · exact .inl ⟨‹_›,h⟩
      exact .inr ⟨by omega,h⟩
    have holds:∃ olds:List Value,olds.length=es.length * sz/\(∀ (b:Nat) (cells:Array Value),g.phi id=some b->w.heap[b]?=some (.cells cells e (0,0))->∀ (j:Nat) (u:Value),olds[j]?=some u->cells[j]?=some u)/\
        (∀ (i:Nat) (d:D),es[i]?=some d->d.cells.length=sz)/\(∀ (i:Nat) (d:D) (j:Nat) (c:D),es[i]?=some d->d.cells[j]?=some c->c.one=true)/\
        ∀ (i:Nat) (d:D) (j:Nat) (c:D),es[i]?=some d->d.cells[j]?=some c->∃ v,olds[i * sz+j]?=some v/\DRep w g.X c v:=by
      rcases hblk with ⟨he,hn'⟩|⟨b,cells,hp,hw,hpsi,hl',h0,h1,hr⟩
      · subst he;exact⟨[],by simp,λ_ _ _ _ j u hu=>by simp at hu,λi d h=>by simp at h,λi d j c h=>by simp at h,λi d j c h=>by simp at h⟩
      obtain ⟨olds, o1, o2, _, o4⟩ := jV (w := w) (X := g.X) (fun m => cells[m]?) h0 h1 hr;refine⟨olds,o1,λb' cells' hp' hw' j u hu=>?_,h0,h1,o4⟩;cases hp.symm.trans hp';rw [hw] at hw';cases hw';exact o2 j u hu
    obtain⟨olds,o1,o2,o3,o4,o5⟩:=holds
    have hsizes:∀ (i:Nat) (d:D),(es++ds)[i]?=some d->d.cells.length=sz:=λi d h=>by
      rcases hes i d h with ⟨_,h⟩|⟨_,h⟩
      · exact o3 i d h
      exact n4 _ d h
    have hones:∀ (i:Nat) (d:D) (j:Nat) (c:D),(es++ds)[i]?=some d->d.cells[j]?=some c->c.one=true:=λi d j c h hc=>by
      rcases hes i d h with ⟨_,h⟩|⟨_,h⟩
      · exact o4 i d j c h hc
      exact n5 _ d j c h hc
    have hlap:(es.length+ds.length) * sz=es.length * sz+ds.length * sz:=Nat.add_mul _ _ _
    have hcells:∀ f:Nat->Option Value,(∀ m,m < es.length * sz->f m=olds[m]?)->(∀ m,m < ds.length * sz->f (es.length * sz+m)=news[m]?)->
        ∀ (i:Nat) (d:D) (j:Nat) (c:D),(es++ds)[i]?=some d->d.cells[j]?=some c->∃ v,f (i * sz+j)=some v/\DRep w g.X c v:=by
      intro f f1 f2 i d j c h hc;have hj:j < sz:=by rw [<- hsizes i d h];exact (List.getElem?_eq_some_iff.1 hc).1
      rcases hes i d h with ⟨hlt,h⟩|⟨hge,h⟩
      · obtain⟨v,hv,hd⟩:=o5 i d j c h hc
        exact⟨v,by rw [f1 _ (by rw [<- o1];exact (List.getElem?_eq_some_iff.1 hv).1)];exact hv,hd⟩
      obtain⟨v,hv,hd⟩:=n6 _ d j c h hc;refine⟨v,?_,hd⟩;have hsub:i * sz=es.length * sz+(i - es.length) * sz:=by rw [<- Nat.add_mul];congr 1;omega
      rw [hsub,Nat.add_assoc,f2 _ (by rw [<- n1];exact (List.getElem?_eq_some_iff.1 hv).1)];exact hv
    have grown:∀ (zs:Array Value) (cap':Nat),es.length+ds.length<=cap'->zs.size=(cap' - (es.length+ds.length)) * sz->
        Sat C K (a.put o.dst (.slice (some ⟨w.heap.size,0,none⟩) (es.length+ds.length) cap')) (w.drew.alloc (.cells (olds.toArray++news.toArray++zs) e)):=by
      intro zs cap' hcap hzz;have hsd:=hsim.drew
      have htot:(olds.toArray++news.toArray++zs).size=cap' * sz:=by
        simp only [Array.size_append,List.size_toArray,o1,n1,hzz,<- Nat.add_mul]
        congr 1
        omega
      have hB:BRep (w.drew.alloc (.cells (olds.toArray++news.toArray++zs) e)) (g.new id w.heap.size (olds.toArray++news.toArray++zs).size) id (.flat e sz (es++ds)):=by
        refine .inr ⟨w.heap.size,_,by simp [Gh.new,upd],heap_alloc_new w.drew _,by simp [Gh.new,upd],?_,hsizes,hones,λi d j c h hc=>?_⟩
        · rw [htot,List.length_append];exact Nat.mul_le_mul_right _ hcap
        obtain ⟨v, hv, hd⟩ := hcells (fun m => (olds.toArray ++ news.toArray ++ zs)[m]?) (fun m hm => by rw [eO, if_pos (by omega)]) (fun m hm => by rw [eO, if_neg (by omega), if_pos (by omega)]; congr 1; omega) i d j c h hc;exact⟨v,hv,hd.mono (λ_ h=>h) λb hb=>aS w.drew _ b (hsim.Xlt b hb)⟩
      have hmove:=hsd.move (o:=.cells (olds.toArray++news.toArray++zs) e) hid hmv hB;refine⟨_,_,hK,hmove.put' hd ?_⟩;have:=ARep.msl (w:=w.drew.alloc (.cells (olds.toArray++news.toArray++zs) e)) (g:=g.new id w.heap.size (olds.toArray++news.toArray++zs).size) id sz 0 (es.length+ds.length) cap' w.heap.size (by simp [Gh.new,upd]) hcap (by rw [Nat.zero_add];show cap' * sz<=upd g.psi id _ id;rw [wC,htot];exact Nat.le_refl _);simpa using this
    have hzsz:∀ k,(Builtin.zeroCells z.cells k).size=k * sz:=λk=>by rw [size_zeroCells,hzs]
    generalize hex:a.eval x=vx at hvx
    cases hvx with
    | msl0 _ _ _ ad0=>
      have hes0:es=[]:=List.eq_nil_of_length_eq_zero hn.symm;have holds0:olds=[]:=List.eq_nil_of_length_eq_zero (by rw [o1,hes0];simp);have hgr:=grown (Builtin.zeroCells z.cells (grownCap w ds.length 0 e - ds.length)) (grownCap w ds.length 0 e) (by rw [hes0];simpa using grownCap_ge w ds.length 0 e) (by rw [hzsz,hes0];simp);rw [hes0,holds0] at hgr;simp only [List.length_nil,Nat.zero_add] at hgr hlen hlen';rw [hes0] at hlen hlen';simp only [List.length_nil,Nat.zero_add] at hlen hlen';have he:(#[]:Array Value)++news.toArray++Builtin.zeroCells z.cells (grownCap w ds.length 0 e - ds.length)=news.toArray++Builtin.zeroCells z.cells (grownCap w ds.length 0 e - ds.length):=by simp
      rw [show ([]:List Value).toArray=#[] from rfl,he] at hgr
      cases ad0 with
      | none=>
        have hr:=run_append_nil (P:=C.P) w t o.type e inf z hun hi hzero ad ds.length cap news (by rw [n1,hsz]) n2 (by omega) (by omega) (by rw [hby];omega);rw [<- hex,<- hey] at hr;exact⟨_,_,aV ho hr,hgr⟩
      | some b0=>
        have hr := run_append_grow (P := C.P) w t o.type e inf z hun hi hzero b0 0 0 [] (by simp) (fun j v hv => by simp at hv) ad ds.length cap news (by rw [n1, hsz]) n2 (by omega) (by omega)
          (by rw [hby,Nat.zero_add,nextslicecap_zero (by omega)];omega)
        rw [<- hex,<- hey] at hr;simp only [Nat.zero_add] at hr;rw [show ([]:List Value).toArray=#[] from rfl,he] at hr;exact⟨_,_,aV ho hr,hgr⟩
    | msl _ _ _ _ cap0 b hbp hc hpsz=>
      rw [Nat.zero_add] at hpsz;rw [Nat.zero_mul] at hex;rcases hblk with ⟨_,hn'⟩|⟨b',cells,hp',hw,hpsi,hl',h0,h1,hr0⟩
      · rw [hbp] at hn';cases hn'
      cases hbp.symm.trans hp';have hold2:=o2 b cells hbp hw;by_cases hroom:n+ds.length<=cap0
      · have hfit:n * inf.size+news.length<=cells.size:=by
          rw [n1,hsz,<- Nat.add_mul,<- hpsi];exact Nat.le_trans (Nat.mul_le_mul_right _ hroom) hpsz
        have hr:=run_append_room (P:=C.P) w t o.type e inf hun hi b n cap0 cells hw ad ds.length cap news (by rw [n1,hsz]) n2 n3 hroom hfit;rw [<- hex,<- hey] at hr;refine⟨_,_,aV ho hr,_,g,hK,?_⟩;have hX:∀ b',g.X b'->b'≠b:=λb' hX e=>(hsim.lt id b hbp).2.2 (e ▸ hX);have hfit':n * sz+news.length<=cells.size:=by rw [hsz] at hfit;exact hfit
        have hget:∀ m,m < n * sz+news.length->(cells.toList.take (n * inf.size)++news++cells.toList.drop (n * inf.size+news.length)).toArray[m]?=if m < n * sz then cells[m]? else news[m - n * sz]?:=by
          intro m hm;simp only [List.getElem?_toArray,List.getElem?_append,List.length_append,List.length_take,Array.length_toList,List.getElem?_take,Array.getElem?_toList,hsz];have hmin:min (n * sz) cells.size=n * sz:=by omega
          rw [hmin,if_pos hm];by_cases m1:m < n * sz
          · simp [m1]
          simp [m1]
        have hchange := hpurge.change (i := id) (b := b) (nB id id hb) (fun e => by cases e) hbp (w' := w.setRow b (cells.toList.take (n * inf.size) ++ news ++ cells.toList.drop (n * inf.size + news.length)).toArray) (dZ _ _ _) rfl rfl rfl (Nat.le_refl _) (fun b' hb' => setRow_other w b b' _ hb')
          (B:=.flat e sz (es++ds)) (.inr ⟨b,_,hbp,setRow_heap w b cells _ e (0,0) hw,?_,?_,hsizes,hones,λi d j c h hc=>?_⟩)
        · refine hchange.put' hd ?_
          subst hn;have:=ARep.msl (w:=w.setRow b (cells.toList.take (es.length * inf.size)++news++cells.toList.drop (es.length * inf.size+news.length)).toArray) (g:=g) id sz 0 (es.length+ds.length) cap0 b hbp hroom (by simpa using hpsz);simpa using this
        · rw [hpsi]
          simp only [List.size_toArray,List.length_append,List.length_take,List.length_drop,Array.length_toList,hsz];omega
        · simp only [List.size_toArray,List.length_append,List.length_take,List.length_drop,Array.length_toList,hsz]
          rw [hlap];rw [hn,n1] at hfit';rw [hn,n1];omega
        obtain ⟨v, hv, hd⟩ := hcells (fun m => (cells.toList.take (n * inf.size) ++ news ++ cells.toList.drop (n * inf.size + news.length)).toArray[m]?) (fun m hm => by
            rw [hget m (by rw [hn]; omega), if_pos (by rw [hn]; exact hm)];have hlt : m < olds.length := by rw [o1]; exact hm
            rw [List.getElem?_eq_getElem hlt]
            exact hold2 m _ (List.getElem?_eq_getElem hlt)) (fun m hm => by
            rw [hget _ (by rw [hn, n1]; omega), if_neg (by rw [hn]; omega)]; congr 1; rw [hn]; omega) i d j c h hc
        exact⟨v,hv,hd.mono (λ_ h=>h) λb' hb'=>setRow_other w b b' _ (hX b' hb')⟩
      have hr := run_append_grow (P := C.P) w t o.type e inf z hun hi hzero ⟨b, 0, none⟩ n cap0 olds (by rw [o1, hsz, hn]) (fun j v hv => by
          rw [dU, cell_of_row w b _ cells e (0, 0) hw]; simpa using hold2 j v hv) ad ds.length cap news (by rw [n1, hsz]) n2 (by omega) (by omega)
        (by rw [hby];exact growslice_fits (by omega) (by rw [hn];exact hlen))
      rw [<- hex,<- hey] at hr;refine⟨_,_,aV ho hr,?_⟩;rw [hn];exact grown _ _ (by simpa using grownCap_ge w (es.length+ds.length) cap0 e) (by rw [hzsz])
end Go.TL
