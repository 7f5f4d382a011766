/- Texts of this proof, joined, without what it does not use. No condition. -/
import Derived.Laws.CopyRow
import Derived.Laws.Entries
import Derived.Laws.StructEq
import Derived.Test.YtofndjhpbonpbaaGreatDoorQb

namespace Go.TL
variable {C:Ctx} {st:St} {g:Gh} {a:Act} {w:World} {P:Program}
def Pw {α β:Type} (R:α->β->Prop) (xs:List α) (ys:List β):Prop:=xs.length=ys.length/\∀ (i:Nat) (x:α) (y:β),xs[i]?=some x->ys[i]?=some y->R x y
theorem Pw.append {α β:Type} {R:α->β->Prop} {xs xs':List α} {ys ys':List β} (h:Pw R xs ys) (h':Pw R xs' ys'):Pw R (xs++xs') (ys++ys'):=by
  refine⟨by simp [h.1,h'.1],λi x y hx hy=>?_⟩;rw [List.getElem?_append] at hx hy;split at hx
  · rename_i hlt
    rw [if_pos (by rw [<- h.1];exact hlt)] at hy;exact h.2 i x y hx hy
  rename_i hge;rw [if_neg (by rw [<- h.1];exact hge),<- h.1] at hy;exact h'.2 _ x y hx hy
theorem Pw.take {α β:Type} {R:α->β->Prop} {xs:List α} {ys:List β} (h:Pw R xs ys) (n:Nat):Pw R (xs.take n) (ys.take n):=by
  refine⟨by simp [h.1],λi x y hx hy=>?_⟩;rw [List.getElem?_take] at hx hy;split at hx
  · rename_i hlt;rw [if_pos hlt] at hy;exact h.2 i x y hx hy
  cases hx
theorem Pw.drop {α β:Type} {R:α->β->Prop} {xs:List α} {ys:List β} (h:Pw R xs ys) (n:Nat):Pw R (xs.drop n) (ys.drop n):=
  ⟨by simp [h.1],λi x y hx hy=>by rw [List.getElem?_drop] at hx hy;exact h.2 _ x y hx hy⟩
def spl {α:Type} (L:List α) (off:Nat) (cs:List α):List α:=L.take off++(cs++L.drop (off+cs.length))
theorem Pw.spl {α β:Type} {R:α->β->Prop} {xs zs:List α} {ys us:List β} (h:Pw R xs ys) (off:Nat) (h':Pw R zs us):Pw R (spl xs off zs) (spl ys off us):=by
  unfold TL.spl;rw [h'.1];exact (h.take _).append (h'.append (h.drop _))
theorem ARep.pw {w:World} {g:Gh} {c:AV} {v:Value} (h:ARep w g c v) (hf:c.flat=true):Pw (ARep w g) c.cells v.cells.toList/\∀ u∈v.cells.toList,u.oneCell'=true:=by
  obtain⟨h1,h2,h3⟩:=h.cells hf
  have hp : Pw (ARep w g) c.cells v.cells.toList := ⟨by simpa using h1.symm, fun i x y hx hy => by
    obtain ⟨u, hu, hr⟩ := h3 i x hx
    have : u = y := by
      have : v.cells.toList[i]? = some u := by simpa using hu
      rw [hy] at this; cases this; rfl
    exact this ▸ hr⟩
  refine⟨hp,λu hu=>?_⟩;obtain⟨i,hi⟩:=List.getElem?_of_mem hu;have hlt:i < c.cells.length:=by rw [hp.1];exact (List.getElem?_eq_some_iff.1 hi).1
  exact ((hp.2 i _ u (List.getElem?_eq_getElem hlt) hi).oneCell (h2 _ (List.getElem_mem hlt))).1
theorem sR {t:TypeId} {bb:Bool} {s:Nat} (hl:lay P t=some (bb,s)) (w:World) (b off:Nat) (ty:TypeId) (cur:Array Value) (v:Value) (hg:w.heap[b]?=some (.cells cur ty (0,0)))
    (hs:v.cells.size=s) (h1:∀ u∈v.cells.toList,u.oneCell'=true) (hfit:off+s<=cur.size):
    (storeVar t ⟨b,off,none⟩ v).run P w=.ok () (w.setRow b (spl cur.toList off v.cells.toList).toArray):=by
  obtain⟨_,h2⟩:=zF hl w;have h3:=run_storeCells_at P b off ty v.cells.toList 0 cur w hg (by simpa [hs] using hfit) h1;simp only [Nat.add_zero] at h3;simp [storeVar,h2,hs,h3,spl]
theorem uY {o:Oper} {t:TypeId} {x y:Operand} (ho:o.op=.store t x y) {ad:Addr} (he:a.eval x=.pointer (some ad)) {w':World} (hr:(storeVar t ad (a.eval y)).run P w=.ok () w'):
    (execOp a.eval o).run P w=.ok .skip w':=by
  simp only [execOp,ho,he,Sem.run_bind,qOA,hr,Result.andThen_ok,Sem.run_pure]
theorem rI (w:World) (b:Nat) (cs:Array Value):(w.setRow b cs).heap.size=w.heap.size:=by simp [World.setRow]
theorem wA {o:Oper} {t ty:TypeId} {x y:Operand} (id off s:Nat) (bb:Bool) (cs:List AV) (v:AV) (ho:o.op=.store t x y) (hd:o.dst=none) (hl:lay C.P t=some (bb,s)) (hx:st.fr.ev x=.mptr id 0 0 off)
    (hy:st.fr.ev y=v) (hf:v.flat=true) (hs:v.cells.length=s) (hb:st.hp[id]?=some (.box ty cs)) (hc:off+s<=cs.length) (hsim:Sim C st g a w):∃ w',(execOp a.eval o).run C.P w=.ok .skip w'/\Sim C ⟨st.fr,st.hp.set id (.box ty (spl cs off v.cells))⟩ g (a.put o.dst undef) w':=by
    have h:=hsim.ev x;rw [hx] at h;obtain⟨b,hp,he⟩:=gN h;rw [show 0 * 0+off=off by omega] at he;have hv:=hsim.ev y;rw [hy] at hv;obtain⟨hpw,h1⟩:=hv.pw hf;obtain⟨b',cells,hp',hw,hpsi,hlen,hr⟩:=hsim.hp id _ hb;cases hp.symm.trans hp';have hvs:(a.eval y).cells.size=s:=by have:=hpw.1;simp only [Array.length_toList] at this;omega
    refine⟨_,uY ho he (sR hl w b off ty cells _ hw hvs h1 (by omega)),?_⟩;rw [hd];have hX:∀ b',g.X b'->b'≠b:=λb' hX e=>(hsim.lt id b hp).2.2 (e ▸ hX);have hgr:Grow w g (w.setRow b (spl cells.toList off (a.eval y).cells.toList).toArray) g:=⟨λ_ _ h=>h,λ_ _ _=>rfl,λ_ h=>h,λb' hb'=>setRow_other w b b' _ (hX b' hb')⟩;have hpw2:Pw (ARep w g) cs cells.toList:=⟨by simpa using hlen,λi c v hc hv=>hr i c v hc (by simpa using hv)⟩;have hpw3:=hpw2.spl off hpw;refine hsim.change hb (λe=>by cases e) hp (rI _ _ _) rfl rfl rfl (Nat.le_refl _) (λb' hb'=>setRow_other w b b' _ hb') ⟨b,_,hp,setRow_heap w b cells _ ty (0,0) hw,?_,by simpa using hpw3.1,λj c v hc hv=>(hpw3.2 j c v hc (by simpa using hv)).mono hgr⟩;have hlen3:=hpw3.1;simp only [spl,List.length_append,List.length_take,List.length_drop,Array.length_toList] at hlen3;simp only [hpsi,List.size_toArray,spl,List.length_append,List.length_take,List.length_drop,Array.length_toList];omega
theorem qLZ {o:Oper} {K:St->Prop} {t ty:TypeId} {x y:Operand} (id off s:Nat) (bb:Bool) (cs:List AV) (v:AV) (ho:o.op=.store t x y) (hd:o.dst=none) (hl:lay C.P t=some (bb,s)) (hx:st.fr.ev x=.mptr id 0 0 off)
    (hy:st.fr.ev y=v) (hf:v.flat=true) (hs:v.cells.length=s) (hb:st.hp[id]?=some (.box ty cs)) (hc:off+s<=cs.length) (hK:K ⟨st.fr,st.hp.set id (.box ty (spl cs off v.cells))⟩):OpOk C o st K:=
  OpOk.skip λ_ _ _ hsim=>by
    obtain⟨w',h1,h2⟩:=wA id off s bb cs v ho hd hl hx hy hf hs hb hc hsim;exact⟨w',h1,_,_,hK,h2⟩
def D.upd (e:D) (off:Nat) (v:D):D:=
  match e with
  | .agg cs=>.agg (spl cs off v.cells)
  | _=>v
theorem zDF {α:Type} (x y:α):spl [x] 0 [y]=[y]:=by simp [spl]
theorem D.cells_one {e:D} (h:e.one=true):e.cells=[e]:=by cases e<;>first|rfl|cases h
theorem D.cells_upd {e v:D} {off:Nat} (h:e.one=true->v.one=true) (hfit:off+v.cells.length<=e.cells.length):(e.upd off v).cells=spl e.cells off v.cells:=by
  have main:e.one=true->e.upd off v=v->(e.upd off v).cells=spl e.cells off v.cells:=by
    intro he hu;have hv:=h he;rw [hu,D.cells_one he,D.cells_one hv];rw [D.cells_one he,D.cells_one hv] at hfit;have:off=0:=by simpa using hfit
    subst this;exact (zDF _ _).symm
  cases e with
  | agg cs=>rfl
  | _=>exact main rfl rfl
theorem qKS {α:Type} {es:List α} {idx k:Nat} {x y:α} (h:(es.set idx x)[k]?=some y):(k=idx/\y=x)\/(k≠idx/\es[k]?=some y):=by
  rw [List.getElem?_set] at h;by_cases e:idx=k
  · rw [if_pos e] at h
    split at h
    · cases h;exact .inl ⟨e.symm,rfl⟩
    cases h
  rw [if_neg e] at h;exact .inr ⟨λe'=>e e'.symm,h⟩
theorem qEF {o:Oper} {t ty:TypeId} {x y:Operand} (id sz idx off s:Nat) (bb:Bool) (es:List D) (e v:D) (ho:o.op=.store t x y) (hd:o.dst=none) (hl:lay C.P t=some (bb,s)) (hx:st.fr.ev x=.mptr id sz idx off)
    (hy:st.fr.ev y=.d v) (hs:v.cells.length=s) (hb:st.hp[id]?=some (.flat ty sz es)) (hidx:es[idx]?=some e) (hone:e.one=false\/v.one=true) (hc:off+s<=e.cells.length) (hsim:Sim C st g a w):∃ w',(execOp a.eval o).run C.P w=.ok .skip w'/\Sim C ⟨st.fr,st.hp.set id (.flat ty sz (es.set idx (e.upd off v)))⟩ g (a.put o.dst undef) w':=by
    have h:=hsim.ev x;rw [hx] at h;obtain⟨b,hp,he⟩:=gN h;have hv:=hsim.ev y;rw [hy] at hv;obtain⟨hpw,h1⟩:=hv.pw rfl;rcases hsim.hp id _ hb with ⟨h0,_⟩|⟨b',cells,hp',hw,hpsi,hlen,h0,hones,hr⟩
    · subst h0;simp at hidx
    cases hp.symm.trans hp';have hvs:(a.eval y).cells.size=s:=by have:=hpw.1;simp only [Array.length_toList,AV.cells,List.length_map] at this;omega
    have hesz:=h0 idx e hidx;have hilt:=(List.getElem?_eq_some_iff.1 hidx).1;have hmul:(idx+1) * sz<=es.length * sz:=Nat.mul_le_mul_right _ hilt;rw [Nat.add_mul,Nat.one_mul] at hmul;refine⟨_,uY ho he (sR hl w b (idx * sz+off) ty cells _ hw hvs h1 (by omega)),?_⟩;rw [hd];have hX:∀ b',g.X b'->b'≠b:=λb' hX e=>(hsim.lt id b hp).2.2 (e ▸ hX);have hdm:∀ {d:D} {u:Value},DRep w g.X d u->DRep (w.setRow b (spl cells.toList (idx * sz+off) (a.eval y).cells.toList).toArray) g.X d u:=λhd=>hd.mono (λ_ h=>h) λb' hb'=>setRow_other w b b' _ (hX b' hb');have hcu:(e.upd off v).cells=spl e.cells off v.cells:=D.cells_upd (λhe=>hone.resolve_left (by simp [he])) (by omega);have hvd:DRep w g.X v (a.eval y):=by cases hv with|d _ _ h=>exact h
    obtain⟨hvc1,hvc2,hvc3⟩:=hvd.cells;have hul:(e.upd off v).cells.length=sz:=by rw [hcu];simp [spl];omega
    refine hsim.change hb (λe=>by cases e) hp (rI _ _ _) rfl rfl rfl (Nat.le_refl _) (λb' hb'=>setRow_other w b b' _ hb') (.inr ⟨b,_,hp,setRow_heap w b cells _ ty (0,0) hw,?_,?_,?_,?_,?_⟩)
    · simp only [hpsi,List.size_toArray,spl,List.length_append,List.length_take,List.length_drop,Array.length_toList];omega
    · simp only [List.length_set,List.size_toArray,spl,List.length_append,List.length_take,List.length_drop,Array.length_toList];omega
    · intro k e' hk
      rcases qKS hk with ⟨_,rfl⟩|⟨_,hk⟩
      · exact hul
      exact h0 k e' hk
    · intro k e' j c hk hj
      rcases qKS hk with ⟨_,rfl⟩|⟨_,hk⟩
      · rw [hcu] at hj
        have hm:=List.mem_of_getElem? hj;simp only [spl,List.mem_append] at hm;rcases hm with hm|hm|hm
        · obtain⟨j',hj'⟩:=List.getElem?_of_mem (List.mem_of_mem_take hm);exact hones idx e j' c hidx hj'
        · exact hvc2 c hm
        obtain⟨j',hj'⟩:=List.getElem?_of_mem (List.mem_of_mem_drop hm);exact hones idx e j' c hidx hj'
      exact hones k e' j c hk hj
    intro k e' j c hk hj
    have hjlt:j < sz:=by
      have hl':e'.cells.length=sz:=by
        rcases qKS hk with ⟨_,rfl⟩|⟨_,hk⟩
        · exact hul
        exact h0 k e' hk
      rw [<- hl'];exact (List.getElem?_eq_some_iff.1 hj).1
    have hget:∀ m,(spl cells.toList (idx * sz+off) (a.eval y).cells.toList).toArray[m]?=if m < idx * sz+off then cells[m]? else if m < idx * sz+off+s then (a.eval y).cells[m - (idx * sz+off)]? else cells[m]?:=by
      intro m;simp only [List.getElem?_toArray,spl,List.getElem?_append,List.length_take,Array.length_toList,List.getElem?_take,List.getElem?_drop,Array.getElem?_toList,hvs];have hmin:min (idx * sz+off) cells.size=idx * sz+off:=by omega
      rw [hmin];by_cases m1:m < idx * sz+off
      · simp [m1]
      rw [if_neg m1,if_neg m1];by_cases m2:m < idx * sz+off+s
      · rw [if_pos (by omega),if_pos m2]
      rw [if_neg (by omega), if_neg m2]
      congr 1
      omega
    rw [hget];by_cases hki:k=idx
    · subst hki
      rw [List.getElem?_set,if_pos rfl,if_pos hilt] at hk;cases hk;rw [hcu] at hj;simp only [spl,List.getElem?_append,List.length_take,List.getElem?_take,List.getElem?_drop] at hj;have hmin:min off e.cells.length=off:=by omega
      rw [hmin] at hj;by_cases j1:j < off
      · rw [if_pos (by omega)]
        rw [if_pos j1,if_pos j1] at hj;obtain⟨u,hu,hd⟩:=hr k e j c hidx hj;exact⟨u,hu,hdm hd⟩
      rw [if_neg (by omega)];rw [if_neg j1] at hj;by_cases j2:j < off+s
      · rw [if_pos (by omega)]
        rw [if_pos (by omega)] at hj;obtain⟨u,hu,hd⟩:=hvc3 _ c hj;exact⟨u,by rw [show k * sz+j - (k * sz+off)=j - off by omega];exact hu,hdm hd⟩
      rw [if_neg (by omega)];rw [if_neg (by omega)] at hj;obtain⟨u,hu,hd⟩:=hr k e j c hidx (by rw [<- hj];congr 1;omega);exact⟨u,hu,hdm hd⟩
    rw [List.getElem?_set, if_neg (fun e => hki e.symm)] at hk;obtain⟨u,hu,hd⟩:=hr k e' j c hk hj;refine⟨u,?_,hdm hd⟩
    have hne:k * sz+j < idx * sz+off\/idx * sz+off+s<=k * sz+j:=by
      rcases Nat.lt_or_ge k idx with hlt|hge
      · have:=Nat.mul_le_mul_right sz hlt
        rw [Nat.succ_mul] at this;omega
      have hlt : idx < k := by omega
      have:=Nat.mul_le_mul_right sz hlt;rw [Nat.succ_mul] at this;omega
    rcases hne with h'|h'
    · rw [if_pos h'];exact hu
    rw [if_neg (by omega),if_neg (by omega)];exact hu
theorem qIW {o:Oper} {K:St->Prop} {t ty:TypeId} {x y:Operand} (id sz idx off s:Nat) (bb:Bool) (es:List D) (e v:D) (ho:o.op=.store t x y) (hd:o.dst=none) (hl:lay C.P t=some (bb,s)) (hx:st.fr.ev x=.mptr id sz idx off)
    (hy:st.fr.ev y=.d v) (hs:v.cells.length=s) (hb:st.hp[id]?=some (.flat ty sz es)) (hidx:es[idx]?=some e) (hone:e.one=false\/v.one=true) (hc:off+s<=e.cells.length) (hK:K ⟨st.fr,st.hp.set id (.flat ty sz (es.set idx (e.upd off v)))⟩):OpOk C o st K:=
  OpOk.skip λ_ _ _ hsim=>by
    obtain⟨w',h1,h2⟩:=qEF id sz idx off s bb es e v ho hd hl hx hy hs hb hidx hone hc hsim;exact⟨w',h1,_,_,hK,h2⟩
theorem zAR {cs:List AV} {vs:Array Value} (t:TypeId) (hsim:Sim C st g a w) (hpw:Pw (ARep w g) cs vs.toList):
    Sim C ⟨st.fr,st.hp++[.box t cs]⟩ (g.new st.hp.length w.heap.size vs.size) a (w.alloc (.cells vs t))/\ARep (w.alloc (.cells vs t)) (g.new st.hp.length w.heap.size vs.size) (.mptr st.hp.length 0 0 0) (.pointer (some ⟨w.heap.size,0,none⟩)):=by
  have hgr:=hsim.grow_new (.cells vs t) vs.size;refine⟨hsim.alloc ⟨w.heap.size,vs,by simp [Gh.new,upd],heap_alloc_new w _,by simp [Gh.new,upd],by simpa using hpw.1,λj c v hc hv=>(hpw.2 j c v hc (by simpa using hv)).mono hgr⟩,?_⟩;exact .mptr _ 0 0 0 w.heap.size (by simp [Gh.new,upd])
theorem zAP {o:Oper} {K:St->Prop} {t:TypeId} (z:Value) (ho:o.op=.alloc t) (hd:qT C.n o.dst=true) (hz:(C.P.info? t).bind (·.zero)=some z) (hf:(cU z).flat=true)
    (hK:K (St.put ⟨st.fr,st.hp++[.box t (cU z).cells]⟩ o.dst (.mptr st.hp.length 0 0 0))):OpOk C o st K:=
  OpOk.change λg a w hs=>by
    cases hi:C.P.info? t with
    | none=>simp [hi] at hz
    | some i=>
      simp [hi] at hz;obtain⟨h1,h2⟩:=zAR t hs ((fY w g z).pw hf).1;exact⟨_,_,by simp [execOp,ho,Instr.alloc,zeroValue,typeInfo,hi,hz,newVar,newRow],_,_,hK,h1.put' hd h2⟩
theorem ok_box {o:Oper} {K:St->Prop} {t:TypeId} {x:Operand} (v:AV) (ho:o.op=.box t x) (hd:qT C.n o.dst=true) (hx:st.fr.ev x=v) (hf:v.flat=true)
    (hK:K (St.put ⟨st.fr,st.hp++[.box t v.cells]⟩ o.dst (.mptr st.hp.length 0 0 0))):OpOk C o st K:=
  OpOk.change λg a w hs=>by
    have hv:=hs.ev x;rw [hx] at hv;obtain⟨h1,h2⟩:=zAR t hs (hv.pw hf).1;exact⟨_,_,by simp [execOp,ho,Instr.box,newVar,newRow],_,_,hK,h1.put' hd h2⟩
def fld (P:Program) (s:TypeId) (f:Nat):Option Nat:=
  match P.underlying s with
  | some (.struct fs)=>match fs[f]? with
    | some fl=>match P.info? fl.type with
      | some i=>if i.size=0 then none else some fl.offset
      | none=>none
    | none=>none
  | _=>none
theorem qOB {s:TypeId} {f off:Nat} (h:fld P s f=some off) (w:World) (ad:Addr):(Instr.fieldAt s (.pointer (some ad)) f).run P w=.ok (.pointer (some (ad.add off))) w:=by
  unfold fld at h;split at h
  · rename_i fs hu
    split at h
    · rename_i fl hf
      split at h
      · rename_i i hi
        split at h
        · cases h
        rename_i h0;cases h;simp [Instr.fieldAt,run_underlying hu,hf,Instr.sureAddr,fieldPlace,sizeOf,typeInfo,hi,h0]
      cases h
    cases h
  cases h
theorem pV {o:Oper} {s:TypeId} {x:Operand} {f off:Nat} (ho:o.op=.fieldAddr s x f) (hl:fld P s f=some off) {ad:Addr} (he:a.eval x=.pointer (some ad)):
    (execOp a.eval o).run P w=.ok (.value (.pointer (some (ad.add off)))) w:=by
  simp only [execOp,ho,he,Sem.run_bind,qOB hl,Result.andThen_ok,Sem.run_pure]
theorem qCA {o:Oper} {ev:Operand->AV} {hp:List Blk} {s:TypeId} {x:Operand} {f:Nat} (e:D) (off fo:Nat) (ho:o.op=.fieldAddr s x f) (hl:fld C.P s f=some fo) (hx:ev x=.d (.ptr e off)):RdOk C o ev hp (.d (.ptr e (off+fo))):=
  RdOk.mk λst hhp hag g a w hs=>by
    have h:=hs.ev x;rw [hag x (by simp [ho,Op.operands]),hx] at h;generalize he:a.eval x=vx at *
    cases h with
    | d _ _ h=>
      cases h with
      | ptr _ _ ad val hX h1 hv hr=>
        refine⟨_,pV ho hl he,.d _ _ (.ptr e (off+fo) (ad.add fo) (λj=>val (fo+j)) (by rw [tI];exact hX) h1 (λj c hc=>?_) λj c hc=>?_)⟩
        · rw [qAY];exact hv (fo+j) c (by rw [<- Nat.add_assoc];exact hc)
        exact hr (fo+j) c (by rw [<- Nat.add_assoc];exact hc)
theorem zS {o:Oper} {ev:Operand->AV} {hp:List Blk} {s:TypeId} {x:Operand} {f:Nat} (id sz idx off fo:Nat) (ho:o.op=.fieldAddr s x f) (hl:fld C.P s f=some fo) (hx:ev x=.mptr id sz idx off):RdOk C o ev hp (.mptr id sz idx (off+fo)):=
  RdOk.mk λst hhp hag g a w hs=>by
    have h:=hs.ev x;rw [hag x (by simp [ho,Op.operands]),hx] at h;obtain⟨b,hp,he⟩:=gN h;refine⟨_,pV ho hl he,?_⟩;rw [kY,Nat.add_assoc];exact .mptr id sz idx (off+fo) b hp
def sel (P:Program) (t:TypeId):Option (TypeId×Nat×Nat):=
  match P.underlying t with
  | some (.slice e)=>match P.info? e with
    | some i=>some (e,i.size,i.bytes)
    | none=>none
  | _=>none
theorem nC {t e:TypeId} {s by':Nat} (h:sel P t=some (e,s,by')):∃ i,P.underlying t=some (.slice e)/\P.info? e=some i/\i.size=s/\i.bytes=by':=by
  unfold sel at h;split at h
  · rename_i e' hu
    split at h
    · rename_i i hi
      cases h;exact⟨i,hu,hi,rfl,rfl⟩
    cases h
  cases h
theorem qFF {t e:TypeId} {s by':Nat} (h:sel P t=some (e,s,by')) (w:World) (ad:Addr) (len cap:Nat) (k:IntKind) (i:Int) (h0:0<=i) (h1:i < len):
    (Instr.indexAt t (.slice (some ad) len cap) (.int k i)).run P w=.ok (.pointer (some (ad.add (i.toNat * s)))) w:=by
  obtain⟨inf,hu,hi,hs,_⟩:=nC h;simp [Instr.indexAt,run_underlying hu,asIntOf,h0,h1,sizeOf,typeInfo,hi,hs]
theorem pU {o:Oper} {t e:TypeId} {s by':Nat} {x y:Operand} (ho:o.op=.indexAddr t x y) (hl:sel P t=some (e,s,by')) {ad:Addr} {len cap:Nat} {k:IntKind} {i:Int} (he:a.eval x=.slice (some ad) len cap)
    (hi:a.eval y=.int k i) (h0:0<=i) (h1:i < len):(execOp a.eval o).run P w=.ok (.value (.pointer (some (ad.add (i.toNat * s))))) w:=by
  simp only [execOp,ho,he,hi,Sem.run_bind,qFF hl w ad len cap k i h0 h1,Result.andThen_ok,Sem.run_pure]
theorem int_inv {k:IntKind} {n:Int} {v:Value} (h:ARep w g (.d (.int k n)) v):v=.int k n:=by
  cases h with
  | d _ _ h=>cases h;rfl
theorem bool_inv {b:Bool} {v:Value} (h:ARep w g (.d (.bool b)) v):v=.bool b:=by
  cases h with
  | d _ _ h=>cases h;rfl
theorem str_inv {s:ByteArray} {v:Value} (h:ARep w g (.d (.str s)) v):v=.string s:=by
  cases h with
  | d _ _ h=>cases h;rfl
theorem qEB {o:Oper} {ev:Operand->AV} {hp:List Blk} {t e:TypeId} {x y:Operand} (sz by':Nat) (es:List D) (k:IntKind) (i:Int) (d:D) (ho:o.op=.indexAddr t x y) (hl:sel C.P t=some (e,sz,by')) (hx:ev x=.d (.sl sz es))
    (hy:ev y=.d (.int k i)) (h0:0<=i) (he:es[i.toNat]?=some d):RdOk C o ev hp (.d (.ptr d 0)):=
  RdOk.mk λst hhp hag g a w hs=>by
    have h:=hs.ev x;rw [hag x (by simp [ho,Op.operands]),hx] at h;have hi:=hs.ev y;rw [hag y (by simp [ho,Op.operands]),hy] at hi;generalize hev:a.eval x=vx at *;have hlt:=(List.getElem?_eq_some_iff.1 he).1
    cases h with
    | d _ _ h=>
      cases h with
      | sl0=>simp at he
      | sl _ _ ad cap val hX hc hs' h1 hv hr=>
        refine⟨_,pU ho hl hev (int_inv hi) h0 (by omega),.d _ _ (.ptr d 0 _ (val i.toNat) (by rw [tI];exact hX) (λc hc'=>?_) (λj c hj=>?_) λj c hj=>hr i.toNat d j c he (by simpa using hj))⟩
        · obtain⟨j,hj⟩:=List.getElem?_of_mem hc';exact h1 i.toNat d j c he hj
        rw [qAY];exact hv i.toNat d j c he (by simpa using hj)
theorem qBY {o:Oper} {ev:Operand->AV} {hp:List Blk} {t e:TypeId} {x y:Operand} (id sz by' off len:Nat) (k:IntKind) (i:Int) (ho:o.op=.indexAddr t x y) (hl:sel C.P t=some (e,sz,by')) (hx:ev x=.msl id sz off len)
    (hy:ev y=.d (.int k i)) (h0:0<=i) (h1:i < len):RdOk C o ev hp (.mptr id sz (off+i.toNat) 0):=
  RdOk.mk λst hhp hag g a w hs=>by
    have h:=hs.ev x;rw [hag x (by simp [ho,Op.operands]),hx] at h;have hi:=hs.ev y;rw [hag y (by simp [ho,Op.operands]),hy] at hi;generalize hev:a.eval x=vx at *
    cases h with
    | msl0=>omega
    | msl _ _ _ _ cap b hb hc hp=>
      refine⟨_,pU ho hl hev (int_inv hi) h0 h1,?_⟩;rw [kY,<- Nat.add_mul];exact .mptr id sz (off+i.toNat) 0 b hb
def qNE (P:Program) (t:TypeId):Option (Nat×Nat):=
  match P.underlying t with
  | some (.array n e)=>match P.info? e with
    | some i=>some (n,i.size)
    | none=>none
  | _=>none
theorem qRK {t:TypeId} {n s:Nat} (h:qNE P t=some (n,s)):∃ e i,P.underlying t=some (.array n e)/\P.info? e=some i/\i.size=s:=by
  unfold qNE at h;split at h
  · rename_i n' e hu
    split at h
    · rename_i i hi
      cases h;exact⟨e,i,hu,hi,rfl⟩
    cases h
  cases h
theorem qBZ {o:Oper} {ev:Operand->AV} {hp:List Blk} {t:TypeId} {x y:Operand} (id sz idx off n s:Nat) (k:IntKind) (i:Int) (ho:o.op=.indexAddr t x y) (hl:qNE C.P t=some (n,s)) (hx:ev x=.mptr id sz idx off)
    (hy:ev y=.d (.int k i)) (h0:0<=i) (h1:i < n):RdOk C o ev hp (.mptr id sz idx (off+i.toNat * s)):=
  RdOk.mk λst hhp hag g a w hs=>by
    have h:=hs.ev x;rw [hag x (by simp [ho,Op.operands]),hx] at h;obtain⟨b,hp,he⟩:=gN h;have hi:=hs.ev y;rw [hag y (by simp [ho,Op.operands]),hy] at hi;obtain⟨e,inf,hu,hinf,hsz⟩:=qRK hl;refine⟨.pointer (some ((⟨b,idx * sz+off,none⟩:Addr).add (i.toNat * s))),?_,?_⟩
    · simp only [execOp,ho,he,int_inv hi]
      simp [Instr.indexAt,run_underlying hu,asIntOf,h0,h1,sizeOf,typeInfo,hinf,hsz,Instr.sureAddr]
    rw [kY,Nat.add_assoc];exact .mptr id sz idx _ b hp
def AV.isAgg:AV->Bool
  | .agg _|.d (.agg _)=>true
  | _=>false
theorem qOR {o:Oper} {ev:Operand->AV} {hp:List Blk} {s:TypeId} {x:Operand} {f:Nat} (fo fs:Nat) (bb:Bool) (ft:TypeId) (u v:AV) (flds:Array Field) (fl:Field) (ho:o.op=.field s x f)
    (hu:C.P.underlying s=some (.struct flds)) (hfl:flds[f]?=some fl) (hft:fl.type=ft) (hfo:fl.offset=fo) (hl:lay C.P ft=some (bb,fs)) (hx:ev x=u)
    (hagg:u.isAgg=true) (hv:if bb=true then fo+fs<=u.cells.length/\v=rP ((u.cells.drop fo).take fs) else u.cells[fo]?=some v):RdOk C o ev hp v:=
  RdOk.mk λst hhp hag g a w hs=>by
    have h:=hs.ev x;rw [hag x (by simp [ho,Op.operands]),hx] at h;generalize hev:a.eval x=vx at *
    have hagg:∃ vs:Array Value,vx=.agg vs/\Pw (ARep w g) u.cells vs.toList:=by
      cases h with
      | agg cs vs hl h=>exact⟨vs,rfl,by simpa [AV.cells] using hl,λi c v hc hv=>h i c v (by simpa [AV.cells] using hc) (by simpa using hv)⟩
      | d d v h=>
        cases h with
        | agg cs vs hl h1 h=>
          refine⟨vs,rfl,by simpa [AV.cells,D.cells] using hl,λi c v hc hv=>?_⟩;simp only [AV.cells,D.cells,List.getElem?_map,Option.map_eq_some_iff] at hc;obtain⟨c',hc',rfl⟩:=hc;exact .d _ _ (h i c' v hc' (by simpa using hv))
        | _=>cases hagg
      | _=>cases hagg
    obtain⟨vs,rfl,hpw⟩:=hagg;obtain⟨h1,h2⟩:=zF hl w;subst hft hfo
    cases bb with
    | true=>
      simp only [if_true] at hv;obtain⟨hle,rfl⟩:=hv;have hlen:=hpw.1;simp only [Array.length_toList] at hlen;refine⟨.agg (vs.extract fl.offset (fl.offset+fs)),?_,?_⟩
      · simp only [execOp,ho,hev]
        simp [Instr.field,run_underlying hu,hfl,asAgg,part,h1,h2]
      have hp2:=(hpw.drop fl.offset).take fs;refine pE ?_ λi c v hc hv=>hp2.2 i c v hc ?_
      · simp;omega
      simp only [Array.getElem?_extract] at hv;split at hv
      · rename_i hlt
        rw [List.getElem?_take,List.getElem?_drop,if_pos (by omega)];simpa using hv
      cases hv
    | false=>
      simp only [Bool.false_eq_true,if_false] at hv;have hlt:fl.offset < vs.size:=by have:=hpw.1;simp only [Array.length_toList] at this;rw [<- this];exact (List.getElem?_eq_some_iff.1 hv).1
      refine⟨vs[fl.offset],?_,hpw.2 _ _ _ hv (by simp [hlt])⟩;simp only [execOp,ho,hev];simp [Instr.field,run_underlying hu,hfl,asAgg,part,h1,hlt]
def qMV (op:BinOp) (x y:Int):Option Bool:=
  match op with
  | .eql=>some (decide (x=y))
  | .neq=>some (!decide (x=y))
  | .lss=>some (decide (x < y))
  | .leq=>some (decide (x<=y))
  | .gtr=>some (decide (y < x))
  | .geq=>some (decide (y<=x))
  | _=>none
theorem qZW {o:Oper} {ev:Operand->AV} {hp:List Blk} {op:BinOp} {t t':TypeId} {x y:Operand} (k:IntKind) (m n:Int) (b:Bool) (ho:o.op=.binOp op t x y t') (hx:ev x=.d (.int k m)) (hy:ev y=.d (.int k n))
    (hb:qMV op m n=some b):RdOk C o ev hp (.d (.bool b)):=
  RdOk.mk λst hhp hag g a w hs=>by
    have h:=hs.ev x;rw [hag x (by simp [ho,Op.operands]),hx] at h;have hi:=hs.ev y;rw [hag y (by simp [ho,Op.operands]),hy] at hi;refine⟨.bool b,?_,.d _ _ (.bool b)⟩;simp only [execOp,ho,int_inv h,int_inv hi];cases op<;>simp only [qMV] at hb<;>cases hb<;>simp [eqGuard,binOp,Op.intCmp,bne]<;>rfl
def zCG (op:BinOp) (k:IntKind) (x y:Int):Option Int:=
  match op with
  | .add=>some (k.wrap (x+y))
  | .sub=>some (k.wrap (x - y))
  | .mul=>some (k.wrap (x * y))
  | _=>none
theorem qZY {o:Oper} {ev:Operand->AV} {hp:List Blk} {op:BinOp} {t t':TypeId} {x y:Operand} (k:IntKind) (m n r:Int) (ho:o.op=.binOp op t x y t') (hx:ev x=.d (.int k m)) (hy:ev y=.d (.int k n))
    (hr:zCG op k m n=some r):RdOk C o ev hp (.d (.int k r)):=
  RdOk.mk λst hhp hag g a w hs=>by
    have h:=hs.ev x;rw [hag x (by simp [ho,Op.operands]),hx] at h;have hi:=hs.ev y;rw [hag y (by simp [ho,Op.operands]),hy] at hi;refine⟨.int k r,?_,.d _ _ (.int k r)⟩;simp only [execOp,ho,int_inv h,int_inv hi];cases op<;>simp [zCG] at hr<;>subst hr<;>simp [eqGuard,binOp,Op.intArith]
theorem rd_not {o:Oper} {ev:Operand->AV} {hp:List Blk} {t:TypeId} {x:Operand} (b:Bool) (ho:o.op=.unOp .not t x) (hx:ev x=.d (.bool b)):RdOk C o ev hp (.d (.bool (!b))):=
  RdOk.mk λst hhp hag g a w hs=>by
    have h:=hs.ev x;rw [hag x (by simp [ho,Op.operands]),hx] at h;exact⟨.bool (!b),by simp only [execOp,ho,bool_inv h];simp [Op.unary],.d _ _ (.bool _)⟩
theorem qSM {o:Oper} {ev:Operand->AV} {hp:List Blk} {s t:TypeId} {x:Operand} (k k':IntKind) (n:Int) (us:TypeDesc) (ho:o.op=.convert s t x) (hs:C.P.underlying s=some us) (ht:C.P.underlying t=some (.int k')) (hx:ev x=.d (.int k n)):RdOk C o ev hp (.d (.int k' (k'.wrap n))):=
  RdOk.mk λst hhp hag g a w hsim=>by
    have h:=hsim.ev x;rw [hag x (by simp [ho,Op.operands]),hx] at h;exact⟨_,by simp only [execOp,ho,int_inv h];simp [convert,run_underlying hs,run_underlying ht,Conv.intToInt],.d _ _ (.int _ _)⟩
def AV.notNil:AV->Bool
  | .mptr ..|.fnc ..|.ifc ..=>true
  | .d (.ptr ..)|.d (.fn _)|.d (.iface ..)=>true
  | _=>false
theorem qON {o:Oper} {ev:Operand->AV} {hp:List Blk} {x:Operand} (u:AV) (ho:o.op=.nilCheck x) (hx:ev x=u) (hn:u.notNil=true):RdOk C o ev hp u:=
  RdOk.mk λst hhp hag g a w hs=>by
    have h:=hs.ev x;rw [hag x (by simp [ho,Op.operands]),hx] at h;refine⟨a.eval x,?_,h⟩;simp only [execOp,ho];generalize a.eval x=vx at *
    cases h with
    | d d' v' h'=>cases h'<;>first|rfl|cases hn
    | mptr=>rfl
    | fnc=>rfl
    | ifc=>rfl
    | _=>cases hn
theorem qSL {o:Oper} {ev:Operand->AV} {hp:List Blk} {x:Operand} {i:Nat} (vs:List AV) (v:AV) (ho:o.op=.extract x i) (hx:ev x=.tup vs) (hv:vs[i]?=some v):RdOk C o ev hp v:=
  RdOk.mk λst hhp hag g a w hs=>by
    have h:=hs.ev x;rw [hag x (by simp [ho,Op.operands]),hx] at h;generalize he:a.eval x=vx at *
    cases h with
    | tup _ us hl h=>
      have hi:i < us.size:=by rw [<- hl];exact (List.getElem?_eq_some_iff.1 hv).1
      exact⟨us[i],by simp only [execOp,ho,he];simp [Instr.extract,hi],h i v _ hv (by simp [hi])⟩
def AV.slLen:AV->Option Nat
  | .d (.sl _ es)=>some es.length
  | .d .nilsl=>some 0
  | .msl _ _ _ l=>some l
  | _=>none
theorem qBX {o:Oper} {ev:Operand->AV} {hp:List Blk} {t e:TypeId} {x:Operand} (u:AV) (s by' n:Nat) (ho:o.op=.call { callee:=.builtin .len,args:=#[x],argTypes:=#[t] }) (hl:sel C.P t=some (e,s,by')) (hx:ev x=u)
    (hn:u.slLen=some n):RdOk C o ev hp (.d (.int .i64 n)):=
  RdOk.mk λst hhp hag g a w hs=>by
    have h:=hs.ev x;rw [hag x (by simp [ho,Op.operands,Call.operands]),hx] at h;obtain⟨inf,hu,hi,_,_⟩:=nC hl
    have hv:∃ ad cap,a.eval x=.slice ad n cap:=by
      generalize a.eval x=vx at *
      cases h with
      | d d v h=>cases h<;>cases hn<;>exact⟨_,_,rfl⟩
      | msl0=>cases hn;exact⟨_,_,rfl⟩
      | msl=>cases hn;exact⟨_,_,rfl⟩
      | _=>cases hn
    obtain⟨ad,cap,he⟩:=hv;refine⟨goInt n,?_,.d _ _ (.int _ _)⟩;simp only [execOp,ho];simp [resolve,invoke,builtin,Builtin.len_,run_underlying hu,he]
theorem qSJ {o:Oper} {ev:Operand->AV} {hp:List Blk} {t:TypeId} {x:Operand} (s:ByteArray) (ho:o.op=.call { callee:=.builtin .len,args:=#[x],argTypes:=#[t] }) (hl:C.P.underlying t=some .string) (hx:ev x=.d (.str s)):RdOk C o ev hp (.d (.int .i64 s.size)):=
  RdOk.mk λst hhp hag g a w hs=>by
    have h:=hs.ev x;rw [hag x (by simp [ho,Op.operands,Call.operands]),hx] at h;refine⟨goInt s.size,?_,.d _ _ (.int _ _)⟩;simp only [execOp,ho];simp [resolve,invoke,builtin,Builtin.len_,run_underlying hl,str_inv h]
end Go.TL
