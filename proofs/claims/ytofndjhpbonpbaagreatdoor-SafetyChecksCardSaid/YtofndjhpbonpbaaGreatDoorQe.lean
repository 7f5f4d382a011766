/- Texts of this proof, joined, without what it does not use. No condition. -/
import Derived.Deep.LoopGhost
import Derived.Test.YtofndjhpbonpbaaGreatDoorQd

namespace Go.TL
variable {C:Ctx} {st:St} {g:Gh} {a:Act} {w:World} {P:Program}
def QN (C:Ctx) (K:St->Prop):Exit->Act->World->Prop
  | .normal,a,w=>Sat C K a w
  | _,_,_=>False
def cE (C:Ctx) (ops:Array Oper) (l:List Oper) (st:St) (K:St->Prop):Prop:=∀ g a w,Sim C st g a w->wpList C.P ops (QN C K) l a w
theorem TN {ops:Array Oper} {K:St->Prop} (h:K st):cE C ops [] st K:=λg _ _ hs=>⟨st,g,h,hs⟩
theorem eB {ops:Array Oper} {o:Oper} {l:List Oper} {K:St->Prop} (hg:o.guard=none) (h:OpOk C o st λst'=>cE C ops l st' K):cE C ops (o :: l) st K:=by
  intro g a w hs;unfold wpList;rw [if_pos (by simp [Region.wanted,hg])];exact .inl (Oper.wp_mono (λa w ⟨st',g',hK,hs'⟩=>hK g' a w hs') (h g a w _ hs))
theorem qCZ {ops:Array Oper} {i t:Nat} (hs:Sim C st g a w) (ht:(ops[i]?).bind (·.dst)=some t) (hv:st.fr.get t=.und):yielded ops a.tmps i=none:=by
  have h:=hs.fr t;rw [hv] at h
  have he:a.tmps.getD t undef=undef:=by
    generalize a.tmps.getD t undef=v at *;cases h;rfl
  unfold yielded;rw [ht];rw [Array.getD_eq_getD_getElem?] at he
  cases ho:a.tmps[t]? with
  | none=>simp [ho]
  | some v=>
    rw [ho] at he;simp only [Option.getD_some] at he;subst he;simp [ho,undef]
def TWp (C:Ctx) (c:Code) (st:St) (Q:Exit->St->Prop):Prop:=
  ∀ g a w,Sim C st g a w->c.wp C.P (λe a' w'=>∃ st' g',Q e st'/\Sim C st' g' a' w') a w
def rG (next:St->Prop) (Q:Exit->St->Prop):Exit->St->Prop
  | .normal,st=>next st
  | e,st=>Q e st
def oF (id:Nat) (Q:Exit->St->Prop):Exit->St->Prop
  | .exit id',st=>if id'=id then Q .normal st else Q (.exit id') st
  | e,st=>Q e st
theorem TWp.mono {c:Code} {Q Q':Exit->St->Prop} (h:TWp C c st Q) (hq:∀ e st,Q e st->Q' e st):TWp C c st Q':=
  λg a w hs=>Go.wp_mono (h g a w hs) λ_ _ _ ⟨st',g',hQ,hs'⟩=>⟨st',g',hq _ _ hQ,hs'⟩
theorem TG {id:Nat} {ops:Array Oper} {Q:Exit->St->Prop} (h:cE C ops ops.toList st (Q .normal)):TWp C (.region id ops false) st Q:=λg a w hs=>by
  refine Go.wp_mono (wp_region_list (h g a w hs)) ?_;intro e a' w' hq
  cases e with
  | normal=>exact hq
  | _=>exact hq.elim
theorem TQ {x y:Code} {Q:Exit->St->Prop} (h:TWp C x st (rG (λst'=>TWp C y st' Q) Q)):TWp C (.seq x y) st Q:=λg a w hs=>by
  refine wp_seq (Go.wp_mono (h g a w hs) ?_);intro e a' w' hq;obtain⟨st',g',hQ,hs'⟩:=hq
  cases e with
  | normal=>exact hQ g' a' w' hs'
  | exit id=>exact⟨st',g',hQ,hs'⟩
  | goto l=>exact⟨st',g',hQ,hs'⟩
  | ret=>exact⟨st',g',hQ,hs'⟩
  | panic ch=>exact⟨st',g',hQ,hs'⟩
  | outgrown=>exact⟨st',g',hQ,hs'⟩
theorem RS {id:Nat} {ops:Array Oper} {y:Code} {Q:Exit->St->Prop} (h:cE C ops ops.toList st λst'=>TWp C y st' Q):TWp C (.seq (.region id ops false) y) st Q:=TQ (TG h)
theorem TS {Q:Exit->St->Prop} (h:Q .normal st):TWp C .skip st Q:=λg _ _ hs=>wp_skip ⟨st,g,h,hs⟩
theorem uU {id:Nat} {Q:Exit->St->Prop} (h:Q (.exit id) st):TWp C (.exit id) st Q:=λg _ _ hs=>wp_exit ⟨st,g,h,hs⟩
theorem TR {Q:Exit->St->Prop} (h:Q .ret st):TWp C .ret st Q:=λg _ _ hs=>wp_ret ⟨st,g,h,hs⟩
theorem TC {c:Operand} {x y:Code} {Q:Exit->St->Prop} (b:Bool) (hc:st.fr.ev c=.d (.bool b)) (h1:b=true->TWp C x st Q) (h2:b=false->TWp C y st Q):TWp C (.cond c x y) st Q:=λg a w hs=>by
  have h:=hs.ev c;rw [hc] at h;refine Go.wp_cond (bool_inv h) ?_;cases b
  · exact h2 rfl g a w hs
  exact h1 rfl g a w hs
theorem TB {id:Nat} {c:Code} {Q:Exit->St->Prop} (h:TWp C c st (oF id Q)):TWp C (.block id c) st Q:=λg a w hs=>by
  refine Go.wp_block (Go.wp_mono (h g a w hs) ?_);intro e a' w' hq;obtain⟨st',g',hQ,hs'⟩:=hq
  cases e with
  | exit id'=>
    simp only [Exit.inBlock];simp only [oF] at hQ;split
    · rename_i h;rw [if_pos h] at hQ;exact⟨st',g',hQ,hs'⟩
    rename_i h;rw [if_neg h] at hQ;exact⟨st',g',hQ,hs'⟩
  | normal=>exact⟨st',g',hQ,hs'⟩
  | goto l=>exact⟨st',g',hQ,hs'⟩
  | ret=>exact⟨st',g',hQ,hs'⟩
  | panic ch=>exact⟨st',g',hQ,hs'⟩
  | outgrown=>exact⟨st',g',hQ,hs'⟩
theorem qZD {c:Code} {Q:Exit->St->Prop} (I:Nat->St->Prop) (n:Nat) (h0:I n st) (round:∀ n st,I n st->TWp C c st (rG (λst'=>∃ m,m < n/\I m st') Q)):TWp C (.loop c) st Q:=λg a w hs=>by
  refine wp_loop_ghost (λn a w=>∃ st g,I n st/\Sim C st g a w) n ⟨st,g,h0,hs⟩ ?_;rintro n a w ⟨st,g,hI,hs⟩;refine Go.wp_mono (round n st hI g a w hs) ?_;intro e a' w' hq;obtain⟨st',g',hQ,hs'⟩:=hq
  cases e with
  | normal=>obtain⟨m,hm,hI'⟩:=hQ;exact⟨m,hm,st',g',hI',hs'⟩
  | exit id=>exact⟨st',g',hQ,hs'⟩
  | goto l=>exact⟨st',g',hQ,hs'⟩
  | ret=>exact⟨st',g',hQ,hs'⟩
  | panic ch=>exact⟨st',g',hQ,hs'⟩
  | outgrown=>exact⟨st',g',hQ,hs'⟩
theorem wN {c:Code} {Q:Exit->St->Prop} (ks ids:List Nat) (hnd:ids.Nodup) (hk:∀ i,i < C.k->ids[i]?=some i) (h:TWp C c (st.canon ks ids) Q):TWp C c st Q:=λ_ a w hs=>h _ a w (hs.canon ks ids hnd hk)
theorem qZE {c:Code} {Q:Exit->St->Prop} (ks:List Nat) (h:TWp C c ⟨Fr.keep ks st.fr,st.hp⟩ Q):TWp C c st Q:=λg a w hs=>h g a w (hs.forget (Fr.get_keep st.fr ks))
theorem Sim.upgrade (h:Sim C st g a w) (t ty sz:Nat) (ht:st.fr.get t=.d .nilsl):Sim C ⟨(t,.msl st.hp.length sz 0 0) :: st.fr,st.hp++[.flat ty sz []]⟩ g a w:=by
  refine { h.virt ty sz with fr:=λt'=>?_ };simp only [Fr.get];split
  · rename_i e
    subst e;have h1:=h.fr t;rw [ht] at h1;generalize a.tmps.getD t undef=v at *;cases h1 with|d _ _ h=>cases h;exact .msl0 _ _ _ _
  exact h.fr t'
theorem qDB {c:Code} {Q:Exit->St->Prop} (t ty sz:Nat) (ht:st.fr.get t=.d .nilsl) (h:TWp C c ⟨(t,.msl st.hp.length sz 0 0) :: st.fr,st.hp++[.flat ty sz []]⟩ Q):TWp C c st Q:=λg a w hs=>h g a w (hs.upgrade t ty sz ht)
def zDW:Act:={ tmps:=#[],defers:=[] }
def Out (C:Ctx) (hp:List Blk) (g:Gh) (w:World):Prop:=Sim { C with n:=0 } ⟨[],hp⟩ g zDW w
theorem Sim.out (h:Sim C st g a w):Out C st.hp g w:=
  { h with defers:=rfl,size:=rfl,fr:=λ_=>.junk _,hp:=h.hp,lt:=h.lt,inj:=h.inj,kle:=h.kle }
theorem Out.sim {hp:List Blk} {fr:Fr} (h:Out C hp g w) (hd:a.defers=[]) (hs:a.tmps.size=C.n) (hf:∀ t,ARep w g (fr.get t) (a.tmps.getD t undef)):Sim C ⟨fr,hp⟩ g a w:=
  { h with defers:=hd,size:=hs,fr:=hf,hp:=h.hp,lt:=h.lt,inj:=h.inj,kle:=h.kle }
def qW (P:Program) (F:FuncId):Bool:=
  match P.funcs[F]? with
  | some fn => !(fn.name == "runtime.NumGoroutine") && fn.body.isSome
  | none=>false
def Ret (P:Program) (F:FuncId) (hp:List Blk) (mv:Nat->Bool) (args:List AV) (r:AV) (hp':List Blk):Prop:=
  qW P F=true/\∀ (w:World) (g:Gh) (vs:Array Value),Out ⟨P,0,w,hp.length,g,mv⟩ hp g w->Pw (ARep w g) args vs.toList->
    Calls P F vs w λe w'=>∃ v g',e=.returned v/\Out ⟨P,0,w,hp.length,g,mv⟩ hp' g' w'/\ARep w' g' r v
def yF (args:List AV):Fr:=(args.zipIdx 0).map λx=>(x.2,x.1)
theorem wZ : ∀ (args : List AV) (k t : Nat), Fr.get ((args.zipIdx k).map fun x => (x.2, x.1)) t = if k <= t then (args[t - k]?).getD .junk else .junk
  | [],k,t=>by simp [Fr.get]
  | x :: r,k,t=>by
    simp only [List.zipIdx_cons,List.map_cons,Fr.get];rw [wZ r (k+1) t];by_cases h:k=t
    · subst h;simp
    rw [if_neg h];by_cases h1:k<=t
    · rw [if_pos h1,if_pos (by omega),show t - k=(t - (k+1))+1 by omega,List.getElem?_cons_succ]
    rw [if_neg h1,if_neg (by omega)]
def zH (fr:Fr):List ResultVar->Option AV
  | [.tmp t]=>some (fr.get t)
  | [.tmp t,.tmp u]=>some (.tup [fr.get t,fr.get u])
  | [.tmp t,.tmp u,.tmp v]=>some (.tup [fr.get t,fr.get u,fr.get v])
  | []=>some (.tup [])
  | _=>none
inductive ResV (P:Program) (st:St):ResultVar->AV->Prop
  | tmp (t:Nat):ResV P st (.tmp t) (st.fr.get t)
  | one {a t id off s ty:Nat} {cs:List AV} {v:AV} (hl:lay P t=some (false,s)) (ha:st.fr.get a=.mptr id 0 0 off) (hb:st.hp[id]?=some (.box ty cs)) (hc:cs[off]?=some v):ResV P st (.cell a t) v
  | agg {a t id off s ty:Nat} {cs:List AV} {v:AV} (hl:lay P t=some (true,s)) (ha:st.fr.get a=.mptr id 0 0 off) (hb:st.hp[id]?=some (.box ty cs)) (hc:Nat.ble (off+s) cs.length=true) (hv:rP ((cs.drop off).take s)=v):ResV P st (.cell a t) v
inductive ResVs (P:Program) (st:St):List ResultVar->List AV->Prop
  | nil:ResVs P st [] []
  | cons {r:ResultVar} {rs:List ResultVar} {x:AV} {xs:List AV} (h:ResV P st r x) (hr:ResVs P st rs xs):ResVs P st (r :: rs) (x :: xs)
def pack:List AV->AV
  | [x]=>x
  | xs=>.tup xs
inductive ResOk (P:Program) (st:St) (rs:List ResultVar) (x:AV):Prop
  | mk (xs:List AV) (h:ResVs P st rs xs) (e:pack xs=x)
theorem res {P:Program} {st:St} {rs:List ResultVar} {x:AV} (h:zH st.fr rs=some x):ResOk P st rs x:=by
  match rs,h with
  | [.tmp t],h=>cases h;exact .mk _ (.cons (.tmp t) .nil) rfl
  | [.tmp t,.tmp u],h=>cases h;exact .mk _ (.cons (.tmp t) (.cons (.tmp u) .nil)) rfl
  | [.tmp t,.tmp u,.tmp x],h=>cases h;exact .mk _ (.cons (.tmp t) (.cons (.tmp u) (.cons (.tmp x) .nil))) rfl
  | [],h=>cases h;exact .mk [] .nil rfl
def qSH (tmps:Array Value):ResultVar->Sem Value
  | .tmp t=>pure (tmps.getD t undef)
  | .cell c t=>do loadVar t (<- asAddr (tmps.getD c undef))
theorem qSG (fn : Func) (tmps : Array Value) : results fn tmps = (do
    let vs <- fn.results.mapM (qSH tmps)
    pure (if h : vs.size = 1 then vs[0] else .tuple vs)) := by
  unfold results
  congr 2
theorem qZU {r:ResultVar} {x:AV} (hs:Sim C st g a w) (h:ResV P st r x):∃ v,(qSH a.tmps r).run P w=.ok v w/\ARep w g x v:=by
  cases h with
  | tmp t=>exact⟨a.tmps.getD t undef,by simp [qSH],hs.fr t⟩
  | @one c t id off s ty cs v hl ha hb hc=>
    have h:=hs.fr c;rw [ha] at h;obtain⟨b,hp,he⟩:=gN h;obtain⟨b',cells,hp',hw,_,hlen,hr⟩:=hs.hp id _ hb;cases hp.symm.trans hp';have hoff:off < cells.size:=by rw [<- hlen];exact (List.getElem?_eq_some_iff.1 hc).1
    have hcell:w.cell? ⟨b,0 * 0+off,none⟩=some cells[off]:=by
      rw [show 0 * 0+off=off by omega,cell_of_row w b off cells ty (0,0) hw,Array.getElem?_eq_getElem hoff]
    refine⟨cells[off],?_,hr off x _ hc (by simp [hoff])⟩;simp only [qSH,he,asAddr,Sem.run_bind,Sem.run_pure,Result.andThen_ok];exact kN hl w _ _ hcell
  | @agg c t id off s ty cs v hl ha hb hc hv=>
    have hc:=Nat.le_of_ble_eq_true hc;subst hv;have h:=hs.fr c;rw [ha] at h;obtain⟨b,hp,he⟩:=gN h;obtain⟨b',cells,hp',hw,_,hlen,hr⟩:=hs.hp id _ hb;cases hp.symm.trans hp';have hlen':((cs.drop off).take s).length=s:=by simp;omega
    obtain ⟨vs, hvl, h2, h3⟩ := qEH (R := ARep w g) ((cs.drop off).take s) (fun j => cells[off + j]?) (fun j c hc => by
      rw [List.getElem?_take] at hc;split at hc
      · rw [List.getElem?_drop] at hc
        have hlt : off + j < cells.size := by rw [<- hlen]; exact (List.getElem?_eq_some_iff.1 hc).1
        exact ⟨cells[off + j], by simp [hlt], hr _ c _ hc (by simp [hlt])⟩
      cases hc)
    refine⟨.agg vs.toArray,?_,pE (by simp [hvl]) λi c v hc hv=>h3 i c v hc (by simpa using hv)⟩;simp only [qSH,he,asAddr,Sem.run_bind,Sem.run_pure,Result.andThen_ok]
    exact iB hl w ⟨b, 0 * 0 + off, none⟩ vs (hvl.trans hlen') (fun j v hv => by
      rw [kY, cell_of_row w b _ cells ty (0, 0) hw]; simpa using h2 j v hv)
theorem qJS (hs:Sim C st g a w):∀ {rs:List ResultVar} {xs:List AV},ResVs P st rs xs->
    ∃ vs,(rs.mapM (qSH a.tmps)).run P w=.ok vs w/\Pw (ARep w g) xs vs
  | [],[],.nil=>⟨[],by simp,rfl,λi x y h=>by simp at h⟩
  | r :: rs,x :: xs,.cons h hr=>by
    obtain⟨v,h1,h2⟩:=qZU hs h;obtain⟨vs,h3,h4⟩:=qJS hs hr;refine⟨v :: vs,?_,by simp [h4.1],λi x y hx hy=>?_⟩
    · rw [List.mapM_cons,Sem.run_bind,h1,Result.andThen_ok,Sem.run_bind,h3,Result.andThen_ok,Sem.run_pure]
    cases i with
    | zero=>simp at hx hy;subst hx hy;exact h2
    | succ i=>exact h4.2 i x y (by simpa using hx) (by simpa using hy)
theorem uX {fn:Func} {r:AV} (hs:Sim C st g a w) (h:ResOk P st fn.results.toList r):∃ v,(results fn a.tmps).run P w=.ok v w/\ARep w g r v:=by
  obtain⟨xs,h,rfl⟩:=h;obtain⟨vs,h1,h2⟩:=qJS hs h
  have h3:(fn.results.mapM (qSH a.tmps)).run P w=.ok vs.toArray w:=by
    rw [Array.mapM_eq_mapM_toList,Sem.run_map,h1];rfl
  rw [qSG];refine⟨if h:vs.toArray.size=1 then vs.toArray[0] else .tuple vs.toArray,?_,?_⟩
  · rw [Sem.run_bind,h3]
    rfl
  match xs,vs,h2 with
  | [x],[v],h2=>exact h2.2 0 x v rfl rfl
  | [],[],_=>exact .tup [] #[] rfl λi c v hc=>by simp at hc
  | x :: y :: xs,u :: v :: vs,h2=>
    rw [dif_neg (by simp)];exact .tup _ _ (by simpa using h2.1) λi c z hc hz=>h2.2 i c z hc (by simpa using hz)
  | [],_ :: _,h2=>have:=h2.1;simp at this
  | [_],[],h2=>have:=h2.1;simp at this
  | [_],_ :: _ :: _,h2=>have:=h2.1;simp at this
  | _ :: _ :: _,[],h2=>have:=h2.1;simp at this
  | _ :: _ :: _,[_],h2=>have:=h2.1;simp at this
def Ends (P:Program) (k:Nat) (rs:List ResultVar) (r:AV) (hp':List Blk) (st:St):Prop:=
  ∃ (x:AV) (ids:List Nat),ResOk P st rs x/\ids.Nodup/\(∀ i,i < k->ids[i]?=some i)/\x.mapRef (toName (bG ids))=r/\ids.map (λi=>(st.hp.getD i .dead).mapRef (toName (bG ids)))=hp'
def zGW (P:Program) (k:Nat) (rs:List ResultVar) (r:AV) (hp':List Blk):Exit->St->Prop
  | .normal,st|.ret,st=>Ends P k rs r hp' st
  | _,_=>False
theorem qOC {F:FuncId} {fn:Func} {c:Code} {hp hp':List Blk} {mv:Nat->Bool} {args:List AV} {r:AV} (hcb:qW P F=true) (hf:P.funcs[F]?=some fn) (hb:fn.body=some c) (hn:args.length<=fn.ntmps)
    (h:∀ w g,TWp ⟨P,fn.ntmps,w,hp.length,g,mv⟩ c ⟨yF args,hp⟩ (zGW P hp.length fn.results.toList r hp')):Ret P F hp mv args r hp':=by
  refine⟨hcb,?_⟩;intro w g vs hout hargs;have hlen:vs.size=args.length:=by have:=hargs.1;simpa using this.symm
  have hsim:Sim ⟨P,fn.ntmps,w,hp.length,g,mv⟩ ⟨yF args,hp⟩ g { tmps:=vs++Array.replicate (fn.ntmps - vs.size) undef,defers:=[] } w:=by
    refine Out.sim (C:=⟨P,fn.ntmps,w,hp.length,g,mv⟩) hout rfl ?_ λt=>?_
    · simp only [Array.size_append,Array.size_replicate];omega
    unfold yF;rw [wZ,if_pos (Nat.zero_le _),Nat.sub_zero];by_cases ht:t < args.length
    · have h1:args[t]?=some args[t]:=List.getElem?_eq_getElem ht
      have h2:vs.toList[t]?=some (vs.toList[t]'(by simpa [hlen] using ht)):=List.getElem?_eq_getElem _;have h3:=hargs.2 t _ _ h1 h2;rw [h1]
      have h4:(vs++Array.replicate (fn.ntmps - vs.size) undef).getD t undef=vs.toList[t]'(by simpa [hlen] using ht):=by
        rw [Array.getD_eq_getD_getElem?,Array.getElem?_append,if_pos (by omega)];simp [show t < vs.size by omega]
      rw [h4];exact h3
    rw [List.getElem?_eq_none (by omega)];exact .junk _
  refine calls_of_wp hf hb (Go.wp_mono (h w g g _ w hsim) ?_);intro e a' w' hq;obtain⟨st',g',hQ,hs'⟩:=hq
  have fin:Ends P hp.length fn.results.toList r hp' st'->a'.defers=[]/\∃ v,(results fn a'.tmps).run P w'=.ok v w'/\∃ v' g',Ending.returned v=.returned v'/\Out ⟨P,0,w,hp.length,g,mv⟩ hp' g' w'/\ARep w' g' r v':=by
    rintro⟨x,ids,hx,hnd,hk,hr,hhp⟩;obtain⟨v,hv,hrep⟩:=uX (P:=P) hs' hx;have hc:=hs'.canon [] ids hnd hk;have ho:=hc.out;refine⟨hs'.defers,v,hv,v,g'.canon ids,rfl,?_,?_⟩
    · simp only [St.canon] at ho
      rw [hhp] at ho;exact ho
    rw [<- hr];refine ARep.mapRef (w:=w') (g:=g') (g':=g'.canon ids) (λd v hd=>hd) (ARep.toName (λi j hij=>?_) λ_ hb=>hb) hrep;have:=bT ids i j hij;simp [Gh.canon,this]
  cases e with
  | normal=>exact fin hQ
  | ret=>exact fin hQ
  | _=>exact hQ.elim
variable {C:Ctx} {st:St} {g:Gh} {a:Act} {w:World} {P:Program}
inductive Snap (hp:List Blk):AV->D->Prop
  | d (x:D):Snap hp (.d x) x
  | msl (id sz off len:Nat) (ty:TypeId) (es:List D) (h:hp[id]?=some (.flat ty sz es)) (hl:off+len<=es.length):Snap hp (.msl id sz off len) (.sl sz ((es.drop off).take len))
  | mptrF (id sz idx off:Nat) (ty:TypeId) (es:List D) (e:D) (h:hp[id]?=some (.flat ty sz es)) (he:es[idx]?=some e):Snap hp (.mptr id sz idx off) (.ptr e off)
  | mptrB (id off:Nat) (ty:TypeId) (cs:List AV) (ds:List D) (h:hp[id]?=some (.box ty cs)) (hl:cs.length=ds.length) (h1:∀ d∈ds,d.one=true) (hs:∀ (i:Nat) (c:AV) (d:D),cs[i]?=some c->ds[i]?=some d->Snap hp c d):Snap hp (.mptr id 0 0 off) (.ptr (.agg ds) off)
  | agg (cs:List AV) (ds:List D) (hl:cs.length=ds.length) (h1:∀ d∈ds,d.one=true) (hs:∀ (i:Nat) (c:AV) (d:D),cs[i]?=some c->ds[i]?=some d->Snap hp c d):Snap hp (.agg cs) (.agg ds)
  | clo (f:FuncId) (cs:List AV) (ds:List D) (hl:cs.length=ds.length) (hs:∀ (i:Nat) (c:AV) (d:D),cs[i]?=some c->ds[i]?=some d->Snap hp c d):Snap hp (.fnc f cs) (.clo f ds)
  | ifc (t:TypeId) (c:AV) (d:D) (h:Snap hp c d):Snap hp (.ifc t c) (.iface t d)
theorem Snap.same {hp:List Blk} {x:AV} {d d':D} (h:Snap hp x d) (e:d=d'):Snap hp x d':=e ▸ h
theorem lN (hs:∀ (i:Nat) (B:Blk),st.hp[i]?=some B->BRep w g i B) {x:AV} {d:D} (h:Snap st.hp x d) {Y:Nat->Prop} (hX:∀ b,g.X b->Y b) (hphi:∀ i b,g.phi i=some b->Y b):∀ {v:Value},ARep w g x v->DRep w Y d v:=by
  induction h with
  | d x=>intro v hv;cases hv with|d _ _ h=>exact h.mono hX λ_ _=>rfl
  | msl id sz off len ty es h hl=>
    intro v hv;have hlen:((es.drop off).take len).length=len:=by simp;omega
    have hds:∀ (i:Nat) (e:D),((es.drop off).take len)[i]?=some e->es[off+i]?=some e:=by
      intro i e he;rw [List.getElem?_take] at he;split at he
      · rwa [List.getElem?_drop] at he
      cases he
    cases hv with
    | msl0=>simp only [List.take_zero];exact .sl0 _ _ _
    | msl _ _ _ _ cap b hb hc hp=>
      rcases hs id _ h with ⟨_,hn⟩|⟨b',cells,hp',hw,_,_,h0,h1,hr⟩
      · rw [hb] at hn;cases hn
      cases hb.symm.trans hp';have hcell:∀ (i:Nat) (e:D) (j:Nat) (c:D),((es.drop off).take len)[i]?=some e->e.cells[j]?=some c->∃ v,cells[(off+i) * sz+j]?=some v/\DRep w g.X c v:=λi e j c he hc=>hr _ e j c (hds i e he) hc
      have hfin := DRep.sl (w := w) (X := Y) sz ((es.drop off).take len) ⟨b, off * sz, none⟩ cap (fun i j => (cells[(off + i) * sz + j]?).getD undef) (hphi _ _ hb) (by rw [hlen]; exact hc) (fun i e he => h0 _ e (hds i e he)) (fun i e j c he hc => h1 _ e j c (hds i e he) hc)
        (fun i e j c he hc => by
          obtain ⟨v, hv, _⟩ := hcell i e j c he hc
          rw [kY, cell_of_row w b _ cells ty (0, 0) hw, show off * sz + (i * sz + j) = (off + i) * sz + j by rw [Nat.add_mul]; omega, hv]; rfl)
        (fun i e j c he hc => by
          obtain ⟨v, hv, hd⟩ := hcell i e j c he hc;rw [hv]
          exact hd.mono hX fun _ _ => rfl)
      rw [hlen] at hfin;exact hfin
  | mptrF id sz idx off ty es e h he=>
    intro v hv;obtain⟨b,hp,rfl⟩:=gN hv;rcases hs id _ h with ⟨h0,_⟩|⟨b',cells,hp',hw,_,_,_,h1,hr⟩
    · subst h0;simp at he
    cases hp.symm.trans hp';refine .ptr e off _ (λj=>(cells[idx * sz+(off+j)]?).getD undef) (hphi _ _ hp) (λc hc=>?_) (λj c hc=>?_) λj c hc=>?_
    · obtain⟨j,hj⟩:=List.getElem?_of_mem hc;exact h1 idx e j c he hj
    · obtain⟨v,hv,_⟩:=hr idx e _ c he hc
      rw [kY,cell_of_row w b _ cells ty (0,0) hw,Nat.add_assoc,hv];rfl
    obtain⟨v,hv,hd⟩:=hr idx e _ c he hc;rw [hv];exact hd.mono hX λ_ _=>rfl
  | mptrB id off ty cs ds h hl h1 hsn ih=>
    intro v hv;obtain⟨b,hp,rfl⟩:=gN hv;obtain⟨b',cells,hp',hw,_,hlen,hr⟩:=hs id _ h;cases hp.symm.trans hp'
    have key:∀ (j:Nat) (d:D),ds[j]?=some d->∃ v,cells[j]?=some v/\DRep w Y d v:=by
      intro j d hd;have hj:=(List.getElem?_eq_some_iff.1 hd).1;have hjc:j < cells.size:=by omega
      exact⟨cells[j],by simp [hjc],ih j _ d (List.getElem?_eq_getElem (by omega)) hd (hr j _ _ (List.getElem?_eq_getElem (by omega)) (by simp [hjc]))⟩
    refine .ptr (.agg ds) off _ (λj=>(cells[off+j]?).getD undef) (hphi _ _ hp) h1 (λj c hc=>?_) λj c hc=>?_
    · obtain⟨v,hv,_⟩:=key _ c hc
      rw [kY,cell_of_row w b _ cells ty (0,0) hw,show 0 * 0+off+j=off+j by omega,hv];rfl
    obtain⟨v,hv,hd⟩:=key _ c hc;rw [hv];exact hd
  | agg cs ds hl h1 hsn ih=>
    intro v hv
    cases hv with
    | agg _ vs hlv hr=>
      refine .agg ds vs (by omega) h1 λi d v hd hv=>?_;have hi:=(List.getElem?_eq_some_iff.1 hd).1;exact ih i _ d (List.getElem?_eq_getElem (by omega)) hd (hr i _ v (List.getElem?_eq_getElem (by omega)) hv)
  | clo f cs ds hl hsn ih=>
    intro v hv
    cases hv with
    | fnc _ _ vs hlv hr=>
      refine .clo f ds vs (by omega) λi d v hd hv=>?_;have hi:=(List.getElem?_eq_some_iff.1 hd).1;exact ih i _ d (List.getElem?_eq_getElem (by omega)) hd (hr i _ v (List.getElem?_eq_getElem (by omega)) hv)
  | ifc t c d h ih=>
    intro v hv
    cases hv with
    | ifc _ _ v h'=>exact .iface t d v (ih h')
mutual
def D.mem0:D->Bool
  | .agg cs=>D.mem0s cs
  | .clo _ cs=>D.mem0s cs
  | .sl _ _=>false
  | .ptr _ _=>false
  | .iface _ d=>D.mem0 d
  | _=>true
def D.mem0s:List D->Bool
  | []=>true
  | d :: r=>D.mem0 d&&D.mem0s r
end
theorem D.mem0s_all:∀ {ds:List D},D.mem0s ds=true->∀ d∈ds,D.mem0 d=true
  | [],_,d,hd=>by simp at hd
  | x :: r,h,d,hd=>by
    simp only [D.mem0s,Bool.and_eq_true] at h;simp only [List.mem_cons] at hd;rcases hd with rfl|hd
    · exact h.1
    exact D.mem0s_all h.2 d hd
theorem DRep.any {X Y:Nat->Prop} {d:D} {v:Value} (h:DRep w X d v) (hm:D.mem0 d=true):DRep w Y d v:=by
  induction h with
  | bool=>exact .bool _
  | int=>exact .int _ _
  | str=>exact .str _
  | agg cs vs hl h1 _ ih=>
    simp only [D.mem0] at hm;exact .agg cs vs hl h1 λi c v hc hv=>ih i c v hc hv (D.mem0s_all hm c (List.mem_of_getElem? hc))
  | clo f cs vs hl _ ih=>
    simp only [D.mem0] at hm;exact .clo f cs vs hl λi c v hc hv=>ih i c v hc hv (D.mem0s_all hm c (List.mem_of_getElem? hc))
  | nilsl=>exact .nilsl _
  | sl0=>simp [D.mem0] at hm
  | sl=>simp [D.mem0] at hm
  | nilptr=>exact .nilptr
  | ptr=>simp [D.mem0] at hm
  | fn=>exact .fn _
  | nilfn=>exact .nilfn
  | iface t d v _ ih=>exact .iface t d v (ih (by simpa [D.mem0] using hm))
  | nilif=>exact .nilif
  | nilmap=>exact .nilmap
inductive AMem0:AV->Prop
  | d (x:D) (h:D.mem0 x=true):AMem0 (.d x)
  | junk:AMem0 .junk
  | und:AMem0 .und
  | msl (i s o l:Nat):AMem0 (.msl i s o l)
  | mptr (i s x o:Nat):AMem0 (.mptr i s x o)
  | mmap (i:Nat):AMem0 (.mmap i)
  | yld (i:Nat):AMem0 (.yld i)
  | mmapN (i n:Nat):AMem0 (.mmapN i n)
  | agg (cs:List AV) (h:∀ c∈cs,AMem0 c):AMem0 (.agg cs)
  | tup (cs:List AV) (h:∀ c∈cs,AMem0 c):AMem0 (.tup cs)
  | fnc (f:FuncId) (cs:List AV) (h:∀ c∈cs,AMem0 c):AMem0 (.fnc f cs)
  | ifc (t:TypeId) (c:AV) (h:AMem0 c):AMem0 (.ifc t c)
def qRP:Blk->Prop
  | .dead=>True
  | .hole=>True
  | .flat _ _ es=>∀ e∈es,D.mem0 e=true
  | .box _ cs=>∀ c∈cs,AMem0 c
  | .map _ _ es=>∀ e∈es,D.mem0 e.1=true/\D.mem0 e.2=true
  | .ob _=>True
  | .lp ..=>False
theorem qSW {e c:D} (h:D.mem0 e=true) (hc:c∈e.cells):D.mem0 c=true:=by
  cases e with
  | agg cs=>simp only [D.mem0] at h;exact D.mem0s_all h c hc
  | _=>simp only [D.cells,List.mem_singleton] at hc;subst hc;exact h
theorem ARep.any {Y:Nat->Prop} {x:AV} {v:Value} (h:ARep w g x v) (hm:AMem0 x):ARep w { g with X:=Y } x v:=by
  induction h with
  | junk=>exact .junk _
  | und=>exact .und
  | d d v h=>cases hm with|d _ hm=>exact .d d v (h.any hm)
  | msl0=>exact .msl0 _ _ _ _
  | msl id sz off len cap b hb hc hp=>exact .msl id sz off len cap b hb hc hp
  | mptr id sz idx off b hb=>exact .mptr id sz idx off b hb
  | mmap id b hb=>exact .mmap id b hb
  | yld id b hb=>exact .yld id b hb
  | mmapN0=>exact .mmapN0 _
  | mmapN id n b hb=>exact .mmapN id n b hb
  | agg cs vs hl _ ih=>cases hm with|agg _ hm=>exact .agg cs vs hl λi c v hc hv=>ih i c v hc hv (hm c (List.mem_of_getElem? hc))
  | tup cs vs hl _ ih=>cases hm with|tup _ hm=>exact .tup cs vs hl λi c v hc hv=>ih i c v hc hv (hm c (List.mem_of_getElem? hc))
  | fnc f cs vs hl _ ih=>cases hm with|fnc _ _ hm=>exact .fnc f cs vs hl λi c v hc hv=>ih i c v hc hv (hm c (List.mem_of_getElem? hc))
  | ifc t c v _ ih=>cases hm with|ifc _ _ hm=>exact .ifc t c v (ih hm)
theorem BRep.any {Y:Nat->Prop} {i:Nat} {B:Blk} (h:BRep w g i B) (hm:qRP B):BRep w { g with X:=Y } i B:=by
  cases B with
  | dead=>trivial
  | hole=>exact h
  | flat ty sz es=>
    rcases h with h|⟨b,cells,h1,h2,h3,h4,h5,h6,h7⟩
    · exact .inl h
    refine .inr ⟨b, cells, h1, h2, h3, h4, h5, h6, fun k e j c he hc => ?_⟩;obtain⟨v,hv,hd⟩:=h7 k e j c he hc;exact⟨v,hv,hd.any (qSW (hm e (List.mem_of_getElem? he)) (List.mem_of_getElem? hc))⟩
  | box ty cs=>
    obtain⟨b,cells,h1,h2,h3,h4,h5⟩:=h;exact⟨b,cells,h1,h2,h3,h4,λj c v hc hv=>(h5 j c v hc hv).any (hm c (List.mem_of_getElem? hc))⟩
  | map kt vt es=>
    rcases h with h|⟨b,ents,clock,h1,h2,h3,h4⟩
    · exact .inl h
    exact .inr ⟨b,ents,clock,h1,h2,h3,λk e m he hm'=>⟨(h4 k e m he hm').1.any (hm e (List.mem_of_getElem? he)).1,(h4 k e m he hm').2.any (hm e (List.mem_of_getElem? he)).2⟩⟩
  | ob o=>exact h
  | lp=>exact hm.elim
theorem dN {o:Oper} {f:Operand} {xs:Array Operand} {ts:Array TypeId} {F:FuncId} {caps:Array Value} (ho:o.op=.call { callee:=.value f,args:=xs,argTypes:=ts }) (hf:a.eval f=.func (.func F) #[] caps) (hc:qW P F=true):
    (execOp a.eval o).run P w=.ok (.enter F (xs.map a.eval++caps)) w:=by
  unfold qW at hc
  cases hfn:P.funcs[F]? with
  | none=>simp [hfn] at hc
  | some fn=>
    simp only [hfn,Bool.and_eq_true,Bool.not_eq_true'] at hc;have hb:fn.body.isNone=false:=by cases h:fn.body<;>simp_all
    have hcall:(callFunc F (xs.map a.eval++caps)).run P w=.ok (.enter F (xs.map a.eval++caps)) w:=by
      unfold callFunc;simp only [Sem.run_bind,run_program,Result.andThen_ok,hfn];rw [if_neg (by rw [hc.1];exact Bool.false_ne_true),if_neg (by rw [hb];exact Bool.false_ne_true)];rfl
    simp only [execOp,ho,resolve,hf,Deferred.ofValue,invoke,Sem.run_bind,Sem.run_pure,Result.andThen_ok,Array.empty_append];exact hcall
theorem qCR {F:FuncId} {v:Value} (h:ARep w g (.d (.fn F)) v):v=.func (.func F) #[] #[]:=by
  cases h with
  | d _ _ h=>cases h;rfl
def yG (hp:List Blk) (xs:List AV) (ds:List D):Prop:=xs.length=ds.length/\∀ (i:Nat) (x:AV) (d:D),xs[i]?=some x->ds[i]?=some d->Snap hp x d
theorem SN {hp:List Blk}:yG hp [] []:=⟨rfl,λi x d h=>by simp at h⟩
theorem SC {hp:List Blk} {x:AV} {xs:List AV} {d:D} {ds:List D} (h:Snap hp x d) (h':yG hp xs ds):yG hp (x :: xs) (d :: ds):=by
  refine⟨by simp [h'.1],λi y e hy he=>?_⟩
  cases i with
  | zero=>simp at hy he;subst hy he;exact h
  | succ i=>exact h'.2 i y e (by simpa using hy) (by simpa using he)
def cS (X:Nat->Prop):Gh:={ phi:=λ_=>none,psi:=λ_=>0,X:=X }
theorem qPE (hs:Sim C st g a w) (mv:Nat->Bool) {X:Nat->Prop} (hX:∀ b,X b->b < w.heap.size):Out ⟨C.P,0,w,0,cS X,mv⟩ [] (cS X) w:=
  { defers := rfl, size := rfl, fr := fun _ => .junk _, hp := fun i B h => by simp at h, lt := fun i b h => by simp [cS] at h, inj := fun i j b _ _ _ _ _ _ h => by simp [cS] at h, Xlt := hX, Xold := fun b h _ => h
    os := rfl, tape := rfl, output := rfl, drawn := Nat.le_refl _, grown := Nat.le_refl _, keep := fun _ _ _ => rfl, own := fun i b h => by simp [cS] at h, stay := fun i b h => absurd h (Nat.not_lt_zero i), kle := Nat.zero_le _, laid := fun x hx => ⟨(hs.laidW x hx).1, fun i h => by simp [cS] at h⟩ }
def shift (n:Nat):AV->AV
  | .msl i s o l=>.msl (n+i) s o l
  | .mptr i s x o=>.mptr (n+i) s x o
  | .mmap i=>.mmap (n+i)
  | .yld i=>.yld (n+i)
  | .mmapN i m=>.mmapN (n+i) m
  | v=>v
def Gh.join (g:Gh) (n B:Nat) (g':Gh):Gh:=
  { phi:=λj=>if j < n then g.phi j else g'.phi (j - n),psi:=λj=>if j < n then g.psi j else g'.psi (j - n),X:=λb=>g.X b\/(B<=b/\g'.X b) }
theorem Gh.join_phi (g:Gh) (n B:Nat) (g':Gh) (i:Nat):(g.join n B g').phi (n+i)=g'.phi i:=by simp [Gh.join,show ¬ n+i < n by omega]
theorem Gh.join_psi (g:Gh) (n B:Nat) (g':Gh) (i:Nat):(g.join n B g').psi (n+i)=g'.psi i:=by simp [Gh.join,show ¬ n+i < n by omega]
theorem ARep.shift {g':Gh} {n B:Nat} {w':World} (hX:∀ b,g'.X b->b < B->g.X b) {x:AV} {v:Value} (h:ARep w' g' x v):ARep w' (g.join n B g') (x.mapRef (TL.shift n)) v:=by
  have hX':∀ b,g'.X b->(g.join n B g').X b:=by
    intro b hb;by_cases hlt:b < B
    · exact .inl (hX b hb hlt)
    exact .inr ⟨by omega,hb⟩
  refine ARep.mapRef (w:=w') (g:=g') (λd v hd=>hd.mono hX' λ_ _=>rfl) ?_ h;intro x v hx _
  cases hx with
  | msl0=>exact .msl0 _ _ _ _
  | msl id sz off len cap b hb hc hp=>exact .msl _ _ _ _ _ b ((Gh.join_phi ..).trans hb) hc (by rw [Gh.join_psi];exact hp)
  | mptr id sz idx off b hb=>exact .mptr _ _ _ _ b ((Gh.join_phi ..).trans hb)
  | mmap id b hb=>exact .mmap _ b ((Gh.join_phi ..).trans hb)
  | yld id b hb=>exact .yld _ b ((Gh.join_phi ..).trans hb)
  | mmapN0=>exact .mmapN0 _
  | mmapN id n b hb=>exact .mmapN _ _ b ((Gh.join_phi ..).trans hb)
  | d d v hd=>exact .d d v (hd.mono hX' λ_ _=>rfl)
  | _=>contradiction
theorem Sim.after (hs:Sim C st g a w) {hp':List Blk} {g':Gh} {w':World} {mv:Nat->Bool} {X:Nat->Prop} (ho:Out ⟨C.P,0,w,0,cS X,mv⟩ hp' g' w') (hX:∀ b,g'.X b->b < w.heap.size->g.X b):
    Sim C ⟨st.fr,st.hp++hp'.map (Blk.mapRef (shift st.hp.length))⟩ (g.join st.hp.length w.heap.size g') a w':=by
  have hold:∀ b,b < w.heap.size->w'.heap[b]?=w.heap[b]?:=λb hb=>ho.keep b hb λi hi=>absurd hi (Nat.not_lt_zero i)
  have hnew:∀ i b,g'.phi i=some b->w.heap.size<=b:=by
    intro i b hp;rcases Nat.lt_or_ge b w.heap.size with hlt|hge
    · exact absurd (ho.own i b hp hlt).1 (Nat.not_lt_zero _)
    exact hge
  have hgr:Grow w g w' (g.join st.hp.length w.heap.size g'):=by
    refine⟨λi b hp=>?_,λi b hp=>?_,λb hb=>.inl hb,λb hb=>hold b (hs.Xlt b hb)⟩
    · have:=(hs.lt i b hp).2.1;simpa [Gh.join,this] using hp
    have:=(hs.lt i b hp).2.1;simp [Gh.join,this]
  have hphi:∀ i b,(g.join st.hp.length w.heap.size g').phi i=some b->(i < st.hp.length/\g.phi i=some b)\/(st.hp.length<=i/\g'.phi (i - st.hp.length)=some b):=by
    intro i b hp;by_cases hi:i < st.hp.length
    · exact .inl ⟨hi,by simpa [Gh.join,hi] using hp⟩
    exact .inr ⟨by omega,by simpa [Gh.join,hi] using hp⟩
  have hsz:=ho.grown;simp only at hsz;refine { defers:=hs.defers,size:=hs.size,fr:=λt=>(hs.fr t).mono hgr,hp:=?_,lt:=?_,inj:=?_,Xlt:=?_,Xold:=?_,os:=ho.os.trans hs.os,tape:=ho.tape.trans hs.tape,output:=ho.output.trans hs.output,drawn:=Nat.le_trans hs.drawn ho.drawn,grown:=Nat.le_trans hs.grown hsz,keep:=?_,own:=?_,stay:=?_,kle:=?_,laid:=hs.laid }
  · intro i B hi
    rw [List.getElem?_append] at hi;split at hi
    · rename_i hlt
      exact (hs.hp i B hi).mono hgr (λhn=>by simpa [Gh.join,hlt] using hn) λb hb=>hold b (hs.lt i b hb).1
    rename_i hge;simp only [List.getElem?_map,Option.map_eq_some_iff] at hi;obtain⟨B',hB',rfl⟩:=hi
    have hX':∀ b,g'.X b->(g.join st.hp.length w.heap.size g').X b:=by
      intro b hb;by_cases hlt:b < w.heap.size
      · exact .inl (hX b hb hlt)
      exact .inr ⟨by omega,hb⟩
    refine BRep.mapRef (i:=i - st.hp.length) (g:=g') (by simp [Gh.join,hge]) (by simp [Gh.join,hge]) hX' ?_ (ho.hp _ B' hB');intro x v hx hr;have:=hx.shift (n:=st.hp.length) (g:=g) (B:=w.heap.size) hX;cases x<;>first|exact this|cases hr
  · intro i b hp
    simp only [List.length_append,List.length_map];rcases hphi i b hp with ⟨hi,hp'⟩|⟨hi,hp'⟩
    · have:=hs.lt i b hp'
      refine⟨by omega,by omega,λhX=>?_⟩;rcases hX with hX|⟨hX,_⟩
      · exact this.2.2 hX
      omega
    have:=ho.lt _ b hp';simp only at this;refine⟨this.1,by omega,λhX=>?_⟩;have hge:=hnew _ b hp';rcases hX with hX|⟨_,hX⟩
    · have:=hs.Xlt b hX;omega
    exact this.2.2 hX
  · intro i j b Bi Bj hBi hBj hdi hdj hi hj
    rw [List.getElem?_append] at hBi hBj;rcases hphi i b hi with ⟨h1,h1'⟩|⟨h1,h1'⟩<;>rcases hphi j b hj with ⟨h2,h2'⟩|⟨h2,h2'⟩
    · rw [if_pos h1] at hBi;rw [if_pos h2] at hBj;exact hs.inj i j b Bi Bj hBi hBj hdi hdj h1' h2'
    · have:=hnew _ b h2';have:=(hs.lt i b h1').1;omega
    · have:=hnew _ b h1';have:=(hs.lt j b h2').1;omega
    rw [if_neg (by omega)] at hBi hBj;simp only [List.getElem?_map,Option.map_eq_some_iff] at hBi hBj;obtain⟨B1,e1,rfl⟩:=hBi;obtain⟨B2,e2,rfl⟩:=hBj;have:=ho.inj _ _ b B1 B2 e1 e2 (λe=>by subst e;exact hdi rfl) (λe=>by subst e;exact hdj rfl) h1' h2';omega
  · intro b hb
    rcases hb with hb|⟨_,hb⟩
    · have:=hs.Xlt b hb;omega
    exact ho.Xlt b hb
  · intro b hb hlt
    rcases hb with hb|⟨hge,_⟩
    · exact hs.Xold b hb hlt
    have:=hs.grown;omega
  · intro b hb hk
    rw [hold b (by have:=hs.grown;omega)];exact hs.keep b hb hk
  · intro i b hp hb
    rcases hphi i b hp with ⟨_,hp'⟩|⟨_,hp'⟩
    · exact hs.own i b hp' hb
    have:=hnew _ b hp';have:=hs.grown;omega
  · intro i b hi hm hp
    have hlt:i < st.hp.length:=by have:=hs.kle;omega
    have:=hs.stay i b hi hm hp;simpa [Gh.join,hlt] using this
  have:=hs.kle;simp only [List.length_append,List.length_map];omega
theorem qRL (hs:Sim C st g a w) {xs:Array Operand} {ds:List D} (h:yG st.hp (xs.toList.map st.fr.ev) ds) {Y:Nat->Prop} (hX:∀ b,g.X b->Y b) (hphi:∀ i b,g.phi i=some b->Y b):
    Pw (ARep w (cS Y)) (ds.map .d) (xs.map a.eval).toList:=by
  refine⟨by have:=h.1;simpa using this.symm,λi x v hx hv=>?_⟩;simp only [List.getElem?_map,Option.map_eq_some_iff,Array.toList_map] at hx hv;obtain⟨d,hd,rfl⟩:=hx;obtain⟨y,hy,rfl⟩:=hv;exact .d _ _ (lN hs.hp (h.2 i (st.fr.ev y) d (by simp [hy]) hd) hX hphi (hs.ev y))
theorem zAO {o:Oper} {K:St->Prop} {f:Operand} {xs:Array Operand} {ts:Array TypeId} {F:FuncId} {mv:Nat->Bool} (ds:List D) (r:AV) (hp':List Blk) (ho:o.op=.call { callee:=.value f,args:=xs,argTypes:=ts }) (hd:qT C.n o.dst=true)
    (hf:st.fr.ev f=.d (.fn F)) (hx:xs.toList.map st.fr.ev=ds.map .d) (hret:Ret C.P F [] mv (ds.map .d) r hp')
    (hK:K (St.put ⟨st.fr,st.hp++hp'.map (Blk.mapRef (shift st.hp.length))⟩ o.dst (r.mapRef (shift st.hp.length)))):OpOk C o st K:=by
  intro g a w Q hs;have hfv:=hs.ev f;rw [hf] at hfv
  have hargs:Pw (ARep w (cS g.X)) (ds.map .d) (xs.map a.eval).toList:=by
    refine⟨by have:=congrArg List.length hx;simpa using this.symm,λi x v hxi hv=>?_⟩;simp only [Array.toList_map,List.getElem?_map,Option.map_eq_some_iff] at hv;obtain⟨y,hy,rfl⟩:=hv;have h1:(xs.toList.map st.fr.ev)[i]?=some (st.fr.ev y):=by simp [hy]
    rw [hx,hxi] at h1;cases h1;have h2:=hs.ev y;simp only [List.getElem?_map,Option.map_eq_some_iff] at hxi;obtain⟨d,_,hd⟩:=hxi;rw [<- hd] at h2 ⊢;cases h2 with|d _ _ h=>exact .d _ _ h
  simp only [Oper.wp,dN ho (qCR hfv) hret.1,Oper.upon_enter,Array.append_empty];refine (hret.2 w (cS g.X) _ (qPE hs mv hs.Xlt) hargs).mono ?_;rintro e w' ⟨v,g',rfl,hout,hr⟩;have hX:∀ b,g'.X b->b < w.heap.size->g.X b:=λb hb hlt=>hout.Xold b hb hlt;exact⟨_,_,hK,(hs.after hout hX).put' hd (hr.shift hX)⟩
theorem qZX {o:Oper} {ev:Operand->AV} {hp:List Blk} {f:Operand} {xs:Array Operand} {ts:Array TypeId} {F:FuncId} {mv:Nat->Bool} (ds:List D) (r:AV) (hp':List Blk) (d:D) (ho:o.op=.call { callee:=.value f,args:=xs,argTypes:=ts })
    (hf:ev f=.d (.fn F)) (hx:xs.toList.map ev=ds.map .d) (hret:Ret C.P F [] mv (ds.map .d) r hp') (hsn:Snap hp' r d):RdOk C o ev hp (.d d):=by
  intro st hhp hag g a w hs Q K' hK;have hfv:=hs.ev f;rw [hag f (by simp [ho,Op.operands,Call.operands]),hf] at hfv
  have hargs:Pw (ARep w (cS g.X)) (ds.map .d) (xs.map a.eval).toList:=by
    refine⟨by have:=congrArg List.length hx;simpa using this.symm,λi x v hxi hv=>?_⟩;simp only [Array.toList_map,List.getElem?_map,Option.map_eq_some_iff] at hv;obtain⟨y,hy,rfl⟩:=hv;have h1:(xs.toList.map ev)[i]?=some (ev y):=by simp [hy]
    rw [hx,hxi] at h1;cases h1;have h2:=hs.ev y;rw [hag y (by simp only [ho,Op.operands,Call.operands];exact Array.mem_append.2 (.inr (Array.mem_toList_iff.1 (List.mem_of_getElem? hy))))] at h2;simp only [List.getElem?_map,Option.map_eq_some_iff] at hxi;obtain⟨d,_,hd⟩:=hxi;rw [<- hd] at h2 ⊢;cases h2 with|d _ _ h=>exact .d _ _ h
  simp only [Oper.wp,dN ho (qCR hfv) hret.1,Oper.upon_enter,Array.append_empty];refine (hret.2 w (cS g.X) _ (qPE hs mv hs.Xlt) hargs).mono ?_;rintro e w' ⟨v,g',rfl,hout,hr⟩;have hX:∀ b,g'.X b->b < w.heap.size->g.X b:=λb hb hlt=>hout.Xold b hb hlt;have hold:∀ b,b < w.heap.size->w'.heap[b]?=w.heap[b]?:=λb hb=>hout.keep b hb λi hi=>absurd hi (Nat.not_lt_zero i);have hsz:=hout.grown;simp only at hsz
  let g2:Gh:={ g with X:=λb=>g.X b\/(w.heap.size<=b/\b < w'.heap.size) }
  have hgr:Grow w g w' g2:=⟨λ_ _ h=>h,λ_ _ _=>rfl,λ_ h=>.inl h,λb hb=>hold b (hs.Xlt b hb)⟩;refine hK v w' g2 ?_ (.d _ _ (lN (st:=⟨[],hp'⟩) hout.hp hsn (Y:=g2.X) (λb hb=>?_) (λi b hp=>?_) hr))
  · refine { defers := hs.defers, size := hs.size, fr := fun t => (hs.fr t).mono hgr, hp := fun i B hB => (hs.hp i B hB).mono hgr id fun b hb => hold b (hs.lt i b hb).1, lt := ?_, inj := hs.inj, Xlt := ?_, Xold := ?_
             os := hout.os.trans hs.os, tape := hout.tape.trans hs.tape, output := hout.output.trans hs.output, drawn := Nat.le_trans hs.drawn hout.drawn, grown := Nat.le_trans hs.grown hsz, keep := ?_, own := hs.own, stay := hs.stay, kle := hs.kle, laid := hs.laid }
    · intro i b hp
      have:=hs.lt i b hp;refine⟨by omega,this.2.1,λhX=>?_⟩;rcases hX with hX|⟨hX,_⟩
      · exact this.2.2 hX
      omega
    · intro b hb
      rcases hb with hb|⟨_,hb⟩
      · have:=hs.Xlt b hb;omega
      exact hb
    · intro b hb hlt
      rcases hb with hb|⟨hge,_⟩
      · exact hs.Xold b hb hlt
      have:=hs.grown;omega
    intro b hb hk;rw [hold b (by have:=hs.grown;omega)];exact hs.keep b hb hk
  · by_cases hlt:b < w.heap.size
    · exact .inl (hX b hb hlt)
    exact .inr ⟨by omega,hout.Xlt b hb⟩
  refine .inr ⟨?_,(hout.lt i b hp).1⟩;rcases Nat.lt_or_ge b w.heap.size with hlt|hge
  · exact absurd (hout.own i b hp hlt).1 (Nat.not_lt_zero _)
  exact hge
variable {C:Ctx} {st:St} {g:Gh} {a:Act} {w:World} {P:Program}
def bnd (d:Nat):Option AV->Option Int
  | none=>some d
  | some (.d (.int _ n))=>some n
  | _=>none
theorem qKY {t e:TypeId} {s by':Nat} (h:sel P t=some (e,s,by')) (w:World) (ad:Option Addr) (len cap:Nat) (lo hi:Option Value) (l r:Nat)
    (hlo:(lo=none/\l=0)\/∃ k,lo=some (.int k l)) (hhi:(hi=none/\r=len)\/∃ k,hi=some (.int k r)) (h1:l<=r) (h2:r<=cap):
    (Instr.sliceAt t (.slice ad len cap) lo hi none).run P w=.ok (.slice (if cap=l then ad else ad.map (·.add (l * s))) (r - l) (cap - l)) w:=by
  obtain⟨inf,hu,hi',hs,_⟩:=nC h
  have e1:∀ k:IntKind,∀ (n y:Nat) (c:BoundsCode),n<=y->(Instr.sliceBound (.int k (n:Int)) y c).run P w=.ok n w:=λk n y c hle=>by
    have:=run_sliceBound (P:=P) (w:=w) k (n:Int) y c (by omega) (by omega);simpa using this
  rcases hlo with ⟨rfl,rfl⟩|⟨k,rfl⟩<;>rcases hhi with ⟨rfl,rfl⟩|⟨k',rfl⟩<;>
    simp [Instr.sliceAt,Instr.slice,run_underlying hu,Instr.sliceBounds,sizeOf,typeInfo,hi',hs,e1,h1,h2]
theorem rd_cut {o:Oper} {ev:Operand->AV} {hp:List Blk} {t e:TypeId} {x:Operand} {lo hi:Option Operand} (sz by':Nat) (es:List D) (l r:Nat) (ho:o.op=.slice t x lo hi none) (hl:sel C.P t=some (e,sz,by')) (hx:ev x=.d (.sl sz es))
    (hlo:bnd 0 (lo.map ev)=some l) (hhi:bnd es.length (hi.map ev)=some r) (h1:l<=r) (h2:r<=es.length):RdOk C o ev hp (.d (.sl sz ((es.drop l).take (r - l)))):=
  RdOk.mk λst hhp hag g a w hs=>by
    have h:=hs.ev x;rw [hag x (by simp [ho,Op.operands]),hx] at h
    have bound:∀ (d n:Nat) (q:Option Operand),(∀ y,q=some y->y∈o.op.operands)->bnd d (q.map ev)=some (n:Int)->(q.map a.eval=none/\n=d)\/∃ k,q.map a.eval=some (.int k n):=by
      intro d n q hq hb
      cases q with
      | none=>simp [bnd] at hb;exact .inl ⟨rfl,by omega⟩
      | some y=>
        have hy:=hs.ev y;rw [hag y (hq y rfl)] at hy;simp only [Option.map_some] at hb ⊢;unfold bnd at hb;split at hb
        · rename_i e;cases e
        · rename_i k m e
          rw [Option.some.inj e] at hy;cases hb;exact .inr ⟨k,by rw [int_inv hy]⟩
        cases hb
    have hlo':=bound 0 l lo (λy hy=>by subst hy;simp [ho,Op.operands]) hlo;have hhi':=bound es.length r hi (λy hy=>by subst hy;simp [ho,Op.operands]) hhi;generalize hev:a.eval x=vx at *
    have hrun:∀ ad cap,vx=.slice ad es.length cap->es.length<=cap->(execOp a.eval o).run C.P w=.ok (.value (.slice (if cap=l then ad else ad.map (·.add (l * sz))) (r - l) (cap - l))) w:=by
      intro ad cap hv hc;have:=qKY hl w ad es.length cap (lo.map a.eval) (hi.map a.eval) l r hlo' hhi' h1 (by omega);simp only [execOp,ho,hev,hv,Option.map_none,Sem.run_bind,this,Result.andThen_ok,Sem.run_pure]
    have hlen:((es.drop l).take (r - l)).length=r - l:=by simp;omega
    cases h with
    | d _ _ h=>
      cases h with
      | sl0 _ ad cap=>
        simp only [List.length_nil] at *;refine⟨_,hrun ad cap rfl (Nat.zero_le _),.d _ _ ?_⟩;have:r - l=0:=by omega
        rw [this];simp only [List.take_zero];exact .sl0 _ _ _
      | sl _ _ ad cap val hX hc hs' h1' hv hr=>
        refine⟨_,hrun (some ad) cap rfl hc,.d _ _ ?_⟩;by_cases he:(es.drop l).take (r - l)=[]
        · have : r - l = 0 := by rw [<- hlen, he]; rfl
          rw [he,this];exact .sl0 _ _ _
        have hpos : 0 < r - l := by rw [<- hlen]; exact List.length_pos_iff.2 he
        rw [if_neg (by omega)]
        have hds:∀ (i:Nat) (e:D),((es.drop l).take (r - l))[i]?=some e->es[l+i]?=some e:=by
          intro i e he;rw [List.getElem?_take] at he;split at he
          · rwa [List.getElem?_drop] at he
          cases he
        have := DRep.sl (w := w) (X := g.X) sz ((es.drop l).take (r - l)) (ad.add (l * sz)) (cap - l) (fun i j => val (l + i) j) (by rw [tI]; exact hX) (by omega) (fun i e he => hs' _ e (hds i e he)) (fun i e j c he hc => h1' _ e j c (hds i e he) hc)
          (λi e j c he hc=>by rw [qAY,show l * sz+(i * sz+j)=(l+i) * sz+j by rw [Nat.add_mul];omega];exact hv _ e j c (hds i e he) hc) (λi e j c he hc=>hr _ e j c (hds i e he) hc)
        rw [hlen] at this;exact this
theorem qFR {o:Oper} {ev:Operand->AV} {hp:List Blk} {t e:TypeId} {x:Operand} {lo hi:Option Operand} (id sz by' off len l r:Nat) (ho:o.op=.slice t x lo hi none) (hl:sel C.P t=some (e,sz,by')) (hx:ev x=.msl id sz off len)
    (hlo:bnd 0 (lo.map ev)=some l) (hhi:bnd len (hi.map ev)=some r) (h1:l<=r) (h2:r<=len):RdOk C o ev hp (.msl id sz (off+l) (r - l)):=
  RdOk.mk λst hhp hag g a w hs=>by
    have h:=hs.ev x;rw [hag x (by simp [ho,Op.operands]),hx] at h
    have bound:∀ (d n:Nat) (q:Option Operand),(∀ y,q=some y->y∈o.op.operands)->bnd d (q.map ev)=some (n:Int)->(q.map a.eval=none/\n=d)\/∃ k,q.map a.eval=some (.int k n):=by
      intro d n q hq hb
      cases q with
      | none=>simp [bnd] at hb;exact .inl ⟨rfl,by omega⟩
      | some y=>
        have hy:=hs.ev y;rw [hag y (hq y rfl)] at hy;simp only [Option.map_some] at hb ⊢;unfold bnd at hb;split at hb
        · rename_i e;cases e
        · rename_i k m e
          rw [Option.some.inj e] at hy;cases hb;exact .inr ⟨k,by rw [int_inv hy]⟩
        cases hb
    have hlo':=bound 0 l lo (λy hy=>by subst hy;simp [ho,Op.operands]) hlo;have hhi':=bound len r hi (λy hy=>by subst hy;simp [ho,Op.operands]) hhi;generalize hev:a.eval x=vx at *
    have hrun:∀ ad cap,vx=.slice ad len cap->len<=cap->(execOp a.eval o).run C.P w=.ok (.value (.slice (if cap=l then ad else ad.map (·.add (l * sz))) (r - l) (cap - l))) w:=by
      intro ad cap hv hc;have:=qKY hl w ad len cap (lo.map a.eval) (hi.map a.eval) l r hlo' hhi' h1 (by omega);simp only [execOp,ho,hev,hv,Option.map_none,Sem.run_bind,this,Result.andThen_ok,Sem.run_pure]
    cases h with
    | msl0 _ _ _ ad=>
      refine⟨_,hrun ad 0 rfl (Nat.zero_le _),?_⟩;have e1:l=0:=by omega
      have e2:r=0:=by omega
      subst e1 e2;exact .msl0 _ _ _ _
    | msl _ _ _ _ cap b hb hc hp=>
      refine⟨_,hrun _ cap rfl hc,?_⟩;by_cases hcl:cap=l
      · have : r - l = 0 := by omega
        have e3:cap - l=0:=by omega
        rw [this,e3];exact .msl0 _ _ _ _
      rw [if_neg hcl];simp only [Option.map_some,kY,<- Nat.add_mul];exact .msl id sz (off+l) (r - l) (cap - l) b hb (by omega) (by rw [show off+l+(cap - l)=off+cap by omega];exact hp)
variable {C:Ctx} {ops:Array Oper} {l:List Oper} {K:St->Prop} {fr:Fr} {hp:List Blk} {d:Nat} {ty:TypeId} {pos:String} {after:Array Edge}
theorem bY {op:Op} (v:AV) (hd:decide (d < C.n)=true) (hr:RdOk C ⟨some d,op,ty,pos,after,none⟩ fr.ev hp v) (h:cE C ops l ⟨(d,v) :: fr,hp⟩ K):cE C ops (⟨some d,op,ty,pos,after,none⟩ :: l) ⟨fr,hp⟩ K:=
  eB rfl (hr.ok hd h)
theorem qZT {x:Operand} {v:AV} (hd:decide (d < C.n)=true) (hx:fr.ev x=v) (h:cE C ops l ⟨(d,v) :: fr,hp⟩ K):cE C ops (⟨some d,.assign x,ty,pos,after,none⟩ :: l) ⟨fr,hp⟩ K:=by
  subst hx;exact bY _ hd (zR (.inr rfl)) h
theorem qNZ {x:Operand} (ety sz:Nat) (hd:decide (d < C.n)=true) (hx:fr.ev x=.d .nilsl) (h:cE C ops l ⟨(d,.msl hp.length sz 0 0) :: fr,hp++[.flat ety sz []]⟩ K):cE C ops (⟨some d,.assign x,ty,pos,after,none⟩ :: l) ⟨fr,hp⟩ K:=by
  refine qZT hd hx λg a w hs=>h g a w ?_;have h1:=hs.upgrade d ety sz (by simp [Fr.get]);refine { h1 with fr:=λt=>?_ };have h2:=h1.fr t;simp only [Fr.get] at h2 ⊢;split
  · rename_i e;rw [if_pos e] at h2;exact h2
  rename_i e;rw [if_neg e,if_neg e] at h2;exact h2
theorem qKV {t bt:TypeId} {x y:Operand} {id sz idx off s:Nat} {bb:Bool} {es:List D} {e v e':D} (hl:lay C.P t=some (bb,s)) (hx:fr.ev x=.mptr id sz idx off) (hy:fr.ev y=.d v) (hs:v.cells.length=s) (hb:hp[id]?=some (.flat bt sz es)) (he:es[idx]?=some e)
    (hone:e.one=false\/v.one=true) (hc:off+s<=e.cells.length) (hv:e.upd off v=e') (h:cE C ops l ⟨fr,hp.set id (.flat bt sz (es.set idx e'))⟩ K):cE C ops (⟨none,.store t x y,ty,pos,after,none⟩ :: l) ⟨fr,hp⟩ K:=by
  subst hv;exact eB rfl (qIW id sz idx off s bb es e v rfl rfl hl hx hy hs hb he hone hc h)
theorem zDL {t:TypeId} {z:Value} {cs:List AV} (hd:decide (d < C.n)=true) (hz:(C.P.info? t).bind (·.zero)=some z) (hf:(cU z).flat=true) (hc:(cU z).cells=cs) (h:cE C ops l ⟨(d,.mptr hp.length 0 0 0) :: fr,hp++[.box t cs]⟩ K):
    cE C ops (⟨some d,.alloc t,ty,pos,after,none⟩ :: l) ⟨fr,hp⟩ K:=by
  subst hc;exact eB rfl (zAP z rfl hd hz hf h)
theorem s_box {t:TypeId} {x:Operand} {v:AV} {cs:List AV} (hd:decide (d < C.n)=true) (hx:fr.ev x=v) (hf:v.flat=true) (hc:v.cells=cs) (h:cE C ops l ⟨(d,.mptr hp.length 0 0 0) :: fr,hp++[.box t cs]⟩ K):cE C ops (⟨some d,.box t x,ty,pos,after,none⟩ :: l) ⟨fr,hp⟩ K:=by
  subst hc;exact eB rfl (ok_box v rfl hd hx hf h)
def qVY (op:BinOp) (x y:Int):Option Int:=
  match op with
  | .add=>some (x+y)
  | .sub=>some (x - y)
  | .mul=>some (x * y)
  | _=>none
theorem wrap64 {n:Int} (h:-9223372036854775808<=n/\n<=9223372036854775807):IntKind.i64.wrap n=n:=by rw [IntKind.wrap_i64];omega
theorem qNY {t e:TypeId} {x y:Operand} {sz by':Nat} {n:Nat} {z:Value} {zd:D} (hd:decide (d < C.n)=true) (hl:sel C.P t=some (e,sz,by')) (hz:(C.P.info? e).bind (·.zero)=some z) (hzd:cU z=.d zd) (hzs:zd.cells.length=sz) (hx:fr.ev x=.d (.int .i64 n)) (hy:fr.ev y=.d (.int .i64 n))
    (hb:by' * n<=281474976710656) (hm:n<=9223372036854775807) (h:cE C ops l ⟨(d,.msl hp.length sz 0 n) :: fr,hp++[.flat e sz (List.replicate n zd)]⟩ K):cE C ops (⟨some d,.makeSlice t x y,ty,pos,after,none⟩ :: l) ⟨fr,hp⟩ K:=
  eB rfl (qMA sz by' n z zd rfl hd hl hz hzd hzs hx hy (by omega) (by rw [<- Int.natCast_mul];omega) (by omega) (by simpa [St.put] using h))
theorem s_lit {t e:TypeId} {parts:Array (Nat×Operand)} {n sz by':Nat} {ds:List D} {z:Value} (xs:List Operand) (hd:decide (d < C.n)=true) (hl:sel C.P t=some (e,sz,by')) (hz:(C.P.info? e).bind (·.zero)=some z) (hp':jM parts xs) (hx:xs.map fr.ev=ds.map AV.d) (hn:ds.length=n)
    (hs:∀ d∈ds,d.cells.length=sz) (hsmall:n * sz<=16777216) (h:cE C ops l ⟨(d,.msl hp.length sz 0 n) :: fr,hp++[.flat e sz ds]⟩ K):cE C ops (⟨some d,.buildSlice t n parts,ty,pos,after,none⟩ :: l) ⟨fr,hp⟩ K:=
  eB rfl (qIX sz by' xs ds z rfl hd hl hz hp' hx hn hs hsmall h)
theorem qFE {t e:TypeId} {x y:Operand} {id sz by' n m:Nat} {u:AV} {es ds es':List D} {z:Value} {fr':Fr} {hp1:List Blk} (hd:decide (d < C.n)=true) (hl:sel C.P t=some (e,sz,by')) (hz:(C.P.info? e).bind (·.zero)=some z) (hzs:z.cells.size=sz) (hx:fr.ev x=.msl id sz 0 n) (hb:hp[id]?=some (.flat e sz es)) (hn:n=es.length) (hmv:id < C.k->C.mv id=true)
    (hy:fr.ev y=u) (hu:SrcA hp sz ds u) (hes:es++ds=es') (hm:es.length+ds.length=m) (hlen:m * by'<=140737488355328) (hlen':m<=9223372036854775807) (hfr:Fr.mapRef (purge id) fr=fr') (hhp:hp.map (Blk.mapRef (purge id))=hp1)
    (h:cE C ops l ⟨(d,.msl id sz 0 m) :: fr',hp1.set id (.flat e sz es')⟩ K):
    cE C ops (⟨some d,.call { callee:=.builtin .append,args:=#[x,y],argTypes:=#[t,t] },ty,pos,after,none⟩ :: l) ⟨fr,hp⟩ K:=by
  subst hes hm hfr hhp;exact eB rfl (qIY id sz by' n u es ds z rfl hd hl hz hzs hx hb hn hmv hy hu hlen hlen' h)
theorem tP {f:Operand} {xs:Array Operand} {ts:Array TypeId} {F:FuncId} {mv:Nat->Bool} {ds:List D} {r r':AV} {hp' hp2:List Blk} (hd:decide (d < C.n)=true) (hf:fr.ev f=.d (.fn F)) (hx:xs.toList.map fr.ev=ds.map .d) (hret:Ret C.P F [] mv (ds.map .d) r hp') (hr:r.mapRef (shift hp.length)=r') (hh:hp'.map (Blk.mapRef (shift hp.length))=hp2)
    (h:cE C ops l ⟨(d,r') :: fr,hp++hp2⟩ K):cE C ops (⟨some d,.call { callee:=.value f,args:=xs,argTypes:=ts },ty,pos,after,none⟩ :: l) ⟨fr,hp⟩ K:=by
  subst hr hh;exact eB rfl (zAO ds r hp' rfl hd hf hx hret h)
variable {C:Ctx} {st:St} {g:Gh} {a:Act} {w:World}
def wr (ws:List (Nat×Blk)) (hp:List Blk):List Blk:=ws.foldl (λh p=>h.set p.1 p.2) hp
theorem sL:∀ (ws:List (Nat×Blk)) (hp:List Blk),(wr ws hp).length=hp.length
  | [],_=>rfl
  | p :: r,hp=>by simp only [wr,List.foldl_cons];rw [<- wr,sL r];simp
def DOk (C:Ctx) (o:Oper) (ev:Operand->AV) (hpn:List Blk) (x:AV) (ws:List (Nat×Blk)):Prop:=
  ∀ st:St,HpLe hpn st.hp->(∀ p∈ws,p.1 < st.hp.length)->(∀ p∈ws,hpn[p.1]?=some .dead->st.hp[p.1]?=some .dead)->(∀ y∈o.op.operands,st.fr.ev y=ev y)->∀ g a w,Sim C st g a w->
    ∀ (Q:Exit->Act->World->Prop) (K':Act->World->Prop),(∀ v w' g',Sim C ⟨st.fr,wr ws st.hp⟩ g' a w'->ARep w' g' x v->K' (a.put o.dst v) w')->o.wp C.P a w K' Q
theorem RdOk.dok {o:Oper} {ev:Operand->AV} {hp:List Blk} {x:AV} (h:RdOk C o ev hp x):DOk C o ev hp x []:=λst h1 _ _ h2 g a w hs Q K' hK=>h st h1 h2 g a w hs Q K' hK
structure Rec where
  on:Bool
  d:Nat
  x:AV
  rs:List Nat
  ws:List (Nat×Blk)
def qCP (fr:Fr) (l:List Rec):Fr:=l.foldl (λf r=>(r.d,r.x) :: f) fr
def xL (hp:List Blk) (l:List Rec):List Blk:=l.foldl (λh r=>wr r.ws h) hp
def qJA (rs:List Nat) (hp:List Blk):List Blk:=hp.zipIdx.map λp=>if rs.contains p.2 then p.1 else .dead
theorem zEA {rs:List Nat} {hp:List Blk} {i:Nat} {B:Blk} (h:(qJA rs hp)[i]?=some B) (hd:B≠.dead):i∈rs/\hp[i]?=some B:=by
  simp only [qJA,List.getElem?_map,List.getElem?_zipIdx,Option.map_map,Option.map_eq_some_iff,Function.comp_def] at h;obtain⟨B',hB',e⟩:=h;simp only [Nat.zero_add] at e;split at e
  · rename_i hc;subst e;exact⟨by simpa using hc,hB'⟩
  exact absurd e.symm hd
def onA (ops:Array Oper) (fr:Fr) (o:Oper):Option Bool:=
  match o.guard with
  | none=>some true
  | some (j,want)=>match (ops[j]?).bind (·.dst) with
    | some t=>match fr.get t with
      | .d (.bool b)=>some (b == want)
      | .und=>some false
      | _=>none
    | none=>none
def zFX (ops:List Oper):List (List Nat):=
  ops.foldl (λacc o=>acc++[(o.after.toList.filter (Region.binds .any ·)).foldl (λs e=>if s.contains e.on then s else (acc.getD e.on []).foldl (λs i=>if s.contains i then s else s++[i]) (s++[e.on])) []]) []
def tN (ops:Array Oper) (o:Oper):List Nat:=
  (o.op.operands.toList.filterMap fun|.tmp t=>some t|_=>none)++(match o.guard with|some (j,_)=>((ops[j]?).bind (·.dst)).toList|none=>[])
def qEK (an:List (List Nat)) (i j:Nat):Bool:=(an.getD i []).contains j||(an.getD j []).contains i
def gL:List Nat->Bool
  | []=>true
  | x :: r=>!r.contains x&&gL r
def qEQ (ops:List Oper) (m:Nat) (ds:List Nat) (rw:List (List Nat×List Nat)):Bool:=
  let an:=zFX ops
  ops.zipIdx.all (λp=>p.1.after.toList.all λe=>!Region.binds .any e||decide (e.on < p.2))&&gL ds&&rw.all (λp=>gL p.2)&&
  ((List.range m).all fun j => (List.range m).all fun i => i == j || qEK an i j ||
      (!((ops[j]?).any fun o => (tN ops.toArray o).contains (ds.getD i 0)) && !(((rw.getD j ([], [])).1 ++ (rw.getD j ([], [])).2).any fun r => (rw.getD i ([], [])).2.contains r))) &&
  ((List.range ops.length).all λj=>decide (j < m)||(List.range j).all λi=>(an.getD j []).contains i)
def qGU (q:Nat) (ops:List Oper) (m:Nat) (ds:List Nat) (rw:List (List Nat×List Nat)):Bool:=
  let an:=zFX ops
  ops.zipIdx.all (λp=>p.1.after.toList.all λe=>!Region.binds .any e||decide (e.on < p.2))&&gL ds&&rw.all (λp=>gL p.2)&&
  ((List.range m).all fun j => (List.range m).all fun i => i == j || qEK an i j ||
      (!((ops[j]?).any fun o => (tN ops.toArray o).contains (ds.getD i 0)) && !(((rw.getD j ([], [])).1 ++ (rw.getD j ([], [])).2).any fun r => (rw.getD i ([], [])).2.contains r))) &&
  ((List.range ops.length).all λj=>decide (j < m)||(List.range j).all λi=>(an.getD j []).contains i||(j == m&&i == q))
def nV (r:Rec):List Nat×List Nat:=(r.rs,r.ws.map (·.1))
def DstD (C:Ctx) (o:Oper) (d:Nat) (x y:AV):Prop:=(o.dst=some d/\decide (d < C.n)=true/\x=y)\/(o.dst=none/\x=.junk)
theorem DstD.sim {o:Oper} {d:Nat} {x y:AV} {v:Value} {st:St} {g:Gh} {a:Act} {w:World} (hd:DstD C o d x y) (hs:Sim C st g a w) (hx:ARep w g y v):Sim C ⟨(d,x) :: st.fr,st.hp⟩ g (a.put o.dst v) w:=by
  rcases hd with ⟨e,hn,rfl⟩|⟨e,rfl⟩
  · rw [e];exact hs.put (by simpa using hn) hx
  rw [e];refine Sim.forget (st:=st) hs λt=>?_;simp only [Fr.get];split
  · exact .inr rfl
  exact .inl rfl
inductive TDr (C:Ctx) (ops:Array Oper) (K:St->Prop):List Oper->Fr->List Blk->List Rec->Prop
  | tail (l:List Oper) (fr:Fr) (hp:List Blk) (acc:List Rec) (hE:qEQ ops.toList acc.length (acc.map Rec.d) (acc.map nV)=true) (h:cE C ops l ⟨fr,hp⟩ K):TDr C ops K l fr hp acc
  | tailq (q:Nat) (o oq:Oper) (l:List Oper) (fr:Fr) (hp:List Blk) (acc:List Rec) (dq:Nat) (hE:qGU q ops.toList acc.length (acc.map Rec.d) (acc.map nV)=true) (hq:ops.toList[q]?=some oq) (hdq:(acc.map Rec.d)[q]?=some dq) (hws:(acc.map nV)[q]?.map (·.2)=some [])
      (h:cE C ops (o :: l) ⟨fr,hp⟩ K) (h2:cE C ops (o :: oq :: l) ⟨(dq,.junk) :: fr,hp⟩ K):TDr C ops K (o :: l) fr hp acc
  | step (o:Oper) (l:List Oper) (fr:Fr) (hp:List Blk) (acc:List Rec) (d:Nat) (x:AV) (rs:List Nat) (ws:List (Nat×Blk)) (y:AV) (hd:DstD C o d x y) (hon:onA ops fr o=some true)
      (hw:∀ p∈ws,p.1 < hp.length/\(hp[p.1]?=some .dead\/p.1∈rs)) (h:DOk C o fr.ev (qJA rs hp) y ws) (hk:TDr C ops K l ((d,x) :: fr) (wr ws hp) (acc++[⟨true,d,x,rs,ws⟩])):TDr C ops K (o :: l) fr hp acc
  | skip (o:Oper) (l:List Oper) (fr:Fr) (hp:List Blk) (acc:List Rec) (d:Nat) (x:AV) (hd:DstD C o d x .und) (hon:onA ops fr o=some false)
      (hk:TDr C ops K l ((d,x) :: fr) hp (acc++[⟨false,d,x,[],[]⟩])):TDr C ops K (o :: l) fr hp acc
inductive Anc (ops:List Oper):Nat->Nat->Prop
  | one (j:Nat) (o:Oper) (e:Edge) (ho:ops[j]?=some o) (he:e∈o.after) (hb:Region.binds .any e=true):Anc ops j e.on
  | more (j:Nat) (o:Oper) (e:Edge) (i:Nat) (ho:ops[j]?=some o) (he:e∈o.after) (hb:Region.binds .any e=true) (h:Anc ops e.on i):Anc ops j i
theorem qCQ {α β:Type} (f:β->α->β) (I:β->Prop):∀ (l:List α) (b:β),(∀ b x,x∈l->I b->I (f b x))->I b->I (l.foldl f b)
  | [],_,_,h=>h
  | x :: r,b,step,h=>qCQ f I r _ (λb y hy hb=>step b y (by simp [hy]) hb) (step b x (by simp) h)
theorem qVZ (ops:List Oper):∀ (l pre:List Oper) (acc:List (List Nat)),ops=pre++l->acc.length=pre.length->(∀ (j i:Nat),i∈acc.getD j []->Anc ops j i)->
    ∀ (j i:Nat),i∈(l.foldl (λacc o=>acc++[(o.after.toList.filter (Region.binds .any ·)).foldl (λs e=>if s.contains e.on then s else (acc.getD e.on []).foldl (λs i=>if s.contains i then s else s++[i]) (s++[e.on])) []]) acc).getD j []->Anc ops j i
  | [],_,acc,_,_,h=>h
  | o :: l,pre,acc,ho,hl,h=>by
    simp only [List.foldl_cons];have hoj:ops[pre.length]?=some o:=by rw [ho];simp
    refine qVZ ops l (pre++[o]) _ (by rw [ho];simp) (by simp [hl]) ?_;intro j i hi;rw [List.getD_eq_getElem?_getD,List.getElem?_append] at hi;split at hi
    · exact h j i (by rw [List.getD_eq_getElem?_getD];exact hi)
    rename_i hge;by_cases hj:j=acc.length
    · subst hj
      simp only [Nat.sub_self,List.getElem?_cons_zero,Option.getD_some] at hi
      have key:∀ i∈(o.after.toList.filter (Region.binds .any ·)).foldl (λs e=>if s.contains e.on then s else (acc.getD e.on []).foldl (λs i=>if s.contains i then s else s++[i]) (s++[e.on])) [],Anc ops acc.length i:=by
        refine qCQ _ (λs=>∀ i∈s,Anc ops acc.length i) _ _ ?_ (λi hi=>by simp at hi);intro s e he hs;simp only [List.mem_filter,Array.mem_toList_iff] at he;show ∀ i∈(if s.contains e.on then s else _),Anc ops acc.length i;split
        · exact hs
        refine qCQ _ (fun s => ∀ i ∈ s, Anc ops acc.length i) _ _ ?_ ?_
        · intro s' x hx hs'
          show ∀ i∈(if s'.contains x then s' else s'++[x]),Anc ops acc.length i;split
          · exact hs'
          intro i hi;simp only [List.mem_append,List.mem_singleton] at hi;rcases hi with hi|rfl
          · exact hs' i hi
          exact .more _ o e _ (by rw [hl];exact hoj) he.1 he.2 (h e.on i hx)
        intro i hi;simp only [List.mem_append,List.mem_singleton] at hi;rcases hi with hi|rfl
        · exact hs i hi
        exact .one _ o e (by rw [hl];exact hoj) he.1 he.2
      exact key i hi
    rw [List.getElem?_eq_none (by simp; omega)] at hi;simp at hi
theorem xF (ops:List Oper) {j i:Nat} (h:i∈(zFX ops).getD j []):Anc ops j i:=
  qVZ ops ops [] [] rfl rfl (λj i h=>by simp at h) j i h
def Cl (ops:List Oper) (S:Nat->Bool):Prop:=∀ (i:Nat) (o:Oper),ops[i]?=some o->S i=true->∀ e∈o.after,Region.binds .any e=true->S e.on=true
theorem qY {ops:List Oper} {S:Nat->Bool} (hc:Cl ops S) {j i:Nat} (h:Anc ops j i):(∀ o,ops[j]?=some o->∀ e∈o.after,Region.binds .any e=true->S e.on=true)->S i=true:=by
  induction h with
  | one j o e ho he hb=>intro hj;exact hj o ho e he hb
  | more j o e i ho he hb _ ih=>intro hj;exact ih λo' ho'=>hc _ o' ho' (hj o ho e he hb)
structure Part (fr0:Fr) (hp0:List Blk) (recs:List Rec) (S:Nat->Bool) (st:St):Prop where
  put:∀ (i:Nat) (r:Rec),recs[i]?=some r->S i=true->st.fr.get r.d=r.x
  old:∀ t,(∀ (i:Nat) (r:Rec),recs[i]?=some r->S i=true->r.d≠t)->st.fr.get t=fr0.get t
  wput:∀ (i:Nat) (r:Rec) (p:Nat×Blk),recs[i]?=some r->S i=true->p∈r.ws->(∀ (j:Nat) (s:Rec),recs[j]?=some s->S j=true->i < j->∀ q∈s.ws,q.1≠p.1)->st.hp[p.1]?=some p.2
  wold:∀ b,(∀ (i:Nat) (r:Rec),recs[i]?=some r->S i=true->∀ p∈r.ws,p.1≠b)->st.hp[b]?=hp0[b]?
  len:st.hp.length=hp0.length
structure Apart (hp0:List Blk) (recs:List Rec):Prop where
  ds:∀ (i j:Nat) (r s:Rec),recs[i]?=some r->recs[j]?=some s->r.d=s.d->i=j
  wn:∀ (i:Nat) (r:Rec),recs[i]?=some r->(r.ws.map (·.1)).Nodup
  lt:∀ (i:Nat) (r:Rec),recs[i]?=some r->∀ p∈r.ws,p.1 < hp0.length
theorem qBF:∀ (ws:List (Nat×Blk)) (hp:List Blk) (b:Nat),(∀ p∈ws,p.1 < hp.length)->(ws.map (·.1)).Nodup->(∀ p∈ws,p.1=b->(wr ws hp)[b]?=some p.2)/\((∀ p∈ws,p.1≠b)->(wr ws hp)[b]?=hp[b]?)
  | [],hp,b,_,_=>⟨λp hp'=>by simp at hp',λ_=>rfl⟩
  | q :: r,hp,b,hl,hn=>by
    simp only [List.map_cons,List.nodup_cons] at hn;have ih:=qBF r (hp.set q.1 q.2) b (λp hp'=>by simpa using hl p (by simp [hp'])) hn.2;refine⟨λp hp' e=>?_,λh=>?_⟩
    · simp only [List.mem_cons] at hp'
      rcases hp' with rfl|hp'
      · subst e
        show (wr r (hp.set p.1 p.2))[p.1]?=some p.2;rw [ih.2 λq' hq' e=>hn.1 (List.mem_map.2 ⟨q',hq',e⟩),List.getElem?_set,if_pos rfl,if_pos (hl p (by simp))]
      exact ih.1 p hp' e
    show (wr r (hp.set q.1 q.2))[b]?=hp[b]?;rw [ih.2 λp hp'=>h p (by simp [hp']),List.getElem?_set,if_neg (h q (by simp))]
theorem Part.step {fr0:Fr} {hp0:List Blk} {recs:List Rec} {S:Nat->Bool} (h:Part fr0 hp0 recs S st) (ha:Apart hp0 recs) {j:Nat} {r:Rec} (hj:recs[j]?=some r) (hS:S j=false) (hlast:∀ (i:Nat) (s:Rec),recs[i]?=some s->S i=true->∀ p∈r.ws,∀ q∈s.ws,p.1=q.1->i < j) {S':Nat->Bool} (hS':∀ i,S' i=(S i||i == j)):
    Part fr0 hp0 recs S' ⟨(r.d,r.x) :: st.fr,wr r.ws st.hp⟩:=by
  have hin:∀ i,S' i=true->S i=true\/i=j:=λi hi=>by rw [hS' i] at hi;simpa using hi
  have hwl:∀ p∈r.ws,p.1 < st.hp.length:=λp hp=>by rw [h.len];exact ha.lt j r hj p hp
  refine⟨λi s hi hSi=>?_,λt ht=>?_,λi s p hi hSi hp hno=>?_,λb hb=>?_,by rw [sL];exact h.len⟩
  · simp only [Fr.get]
    by_cases e:r.d=s.d
    · have:=ha.ds j i r s hj hi e
      subst this;rw [hj] at hi;cases hi;rw [if_pos rfl]
    rw [if_neg e];rcases hin i hSi with h1|rfl
    · exact h.put i s hi h1
    rw [hj] at hi;cases hi;exact absurd rfl e
  · simp only [Fr.get]
    rw [if_neg (ht j r hj (by rw [hS'];simp))];exact h.old t λi s hi hSi=>ht i s hi (by rw [hS',hSi];rfl)
  · rcases hin i hSi with h1|rfl
    · have hne : ∀ q ∈ r.ws, q.1 ≠ p.1 := fun q hq e => hno j r hj (by rw [hS']; simp) (hlast i s hi h1 q hq p hp e) q hq e
      show (wr r.ws st.hp)[p.1]?=some p.2;rw [(qBF r.ws st.hp p.1 hwl (ha.wn j r hj)).2 hne];exact h.wput i s p hi h1 hp λk u hk hSk hik=>hno k u hk (by rw [hS',hSk];rfl) hik
    rw [hj] at hi;cases hi;exact (qBF r.ws st.hp p.1 hwl (ha.wn _ r hj)).1 p hp rfl
  show (wr r.ws st.hp)[b]?=hp0[b]?;rw [(qBF r.ws st.hp b hwl (ha.wn j r hj)).2 λp hp=>hb j r hj (by rw [hS'];simp) p hp];exact h.wold b λi s hi hSi=>hb i s hi (by rw [hS',hSi];rfl)
theorem Part.start (fr0:Fr) (hp0:List Blk) (recs:List Rec) {S:Nat->Bool} (hS:∀ i,i < recs.length->S i=false):Part fr0 hp0 recs S ⟨fr0,hp0⟩:=
  ⟨λi _ hi h=>absurd ((hS i (List.getElem?_eq_some_iff.1 hi).1).symm.trans h) Bool.false_ne_true,λ_ _=>rfl,λi _ _ hi h _ _=>absurd ((hS i (List.getElem?_eq_some_iff.1 hi).1).symm.trans h) Bool.false_ne_true,λ_ _=>rfl,rfl⟩
theorem Part.text {fr0 : Fr} {hp0 : List Blk} {recs : List Rec} (ha : Apart hp0 recs) : ∀ k, k <= recs.length -> Part fr0 hp0 recs (fun i => decide (i < k)) ⟨qCP fr0 (recs.take k), xL hp0 (recs.take k)⟩
  | 0,_=>Part.start fr0 hp0 recs λi _=>by simp
  | k+1,hk=>by
    have ih:=Part.text (fr0:=fr0) ha k (by omega);have hj:recs[k]?=some recs[k]:=List.getElem?_eq_getElem (by omega)
    have hstep:=ih.step ha hj (by simp) (λi s _ hi p _ q _ _=>of_decide_eq_true hi) (S':=λi=>decide (i < k+1)) λi=>by
      rw [Bool.eq_iff_iff];simp;omega
    have htake:recs.take (k+1)=recs.take k++[recs[k]]:=by rw [List.take_succ_eq_append_getElem]
    rw [htake];simp only [qCP,xL,List.foldl_append,List.foldl_cons,List.foldl_nil];exact hstep
theorem Part.getEq {fr0:Fr} {hp0:List Blk} {recs:List Rec} {S S':Nat->Bool} {st st':St} (h:Part fr0 hp0 recs S st) (h':Part fr0 hp0 recs S' st') (t:Nat) (hS:∀ (i:Nat) (r:Rec),recs[i]?=some r->r.d=t->S i=S' i):st.fr.get t=st'.fr.get t:=by
  by_cases hex:∃ (i:Nat) (r:Rec),recs[i]?=some r/\S i=true/\r.d=t
  · obtain⟨i,r,hi,hSi,rfl⟩:=hex
    rw [h.put i r hi hSi,h'.put i r hi (by rw [<- hS i r hi rfl];exact hSi)]
  rw [h.old t λi r hi hSi e=>hex ⟨i,r,hi,hSi,e⟩,h'.old t λi r hi hSi e=>hex ⟨i,r,hi,by rw [hS i r hi e];exact hSi,e⟩]
theorem qDL (recs:List Rec) (S:Nat->Bool) (b:Nat):∀ n,(∃ (i:Nat) (r:Rec) (p:Nat×Blk),i < n/\recs[i]?=some r/\S i=true/\p∈r.ws/\p.1=b)->
    ∃ (i:Nat) (r:Rec) (p:Nat×Blk),recs[i]?=some r/\S i=true/\p∈r.ws/\p.1=b/\∀ (j:Nat) (s:Rec),j < n->recs[j]?=some s->S j=true->i < j->∀ q∈s.ws,q.1≠b
  | 0,⟨i,_,_,hi,_⟩=>absurd hi (Nat.not_lt_zero i)
  | n+1,h=>by
    by_cases hn:∃ (r:Rec) (p:Nat×Blk),recs[n]?=some r/\S n=true/\p∈r.ws/\p.1=b
    · obtain⟨r,p,h1,h2,h3,h4⟩:=hn
      exact⟨n,r,p,h1,h2,h3,h4,λj s hj _ _ hij=>by omega⟩
    obtain ⟨i, r, p, h1, h2, h3, h4, h5⟩ := qDL recs S b n (by
      obtain ⟨i, r, p, h0, h1, h2, h3, h4⟩ := h;refine ⟨i, r, p, ?_, h1, h2, h3, h4⟩;rcases Nat.lt_or_ge i n with hlt | hge
      · exact hlt
      have : i = n := by omega
      subst this; exact absurd ⟨r, p, h1, h2, h3, h4⟩ hn)
    refine⟨i,r,p,h1,h2,h3,h4,λj s hj hs hSj hij q hq e=>?_⟩;rcases Nat.lt_or_ge j n with hlt|hge
    · exact h5 j s hlt hs hSj hij q hq e
    have : j = n := by omega
    subst this;exact hn ⟨s,q,hs,hSj,hq,e⟩
theorem Part.hpEq {fr0:Fr} {hp0:List Blk} {recs:List Rec} {S S':Nat->Bool} {st st':St} (h:Part fr0 hp0 recs S st) (h':Part fr0 hp0 recs S' st') (b:Nat) (hS:∀ (i:Nat) (r:Rec) (p:Nat×Blk),recs[i]?=some r->p∈r.ws->p.1=b->S i=S' i):st.hp[b]?=st'.hp[b]?:=by
  by_cases hex:∃ (i:Nat) (r:Rec) (p:Nat×Blk),i < recs.length/\recs[i]?=some r/\S i=true/\p∈r.ws/\p.1=b
  · obtain⟨i,r,p,hi,hSi,hp,rfl,hno⟩:=qDL recs S b recs.length hex
    rw [h.wput i r p hi hSi hp λj s hj hSj hij=>hno j s (List.getElem?_eq_some_iff.1 hj).1 hj hSj hij,h'.wput i r p hi (by rw [<- hS i r p hi hp rfl];exact hSi) hp λj s hj hSj hij q hq e=>hno j s (List.getElem?_eq_some_iff.1 hj).1 hj (by rw [hS j s q hj hq e];exact hSj) hij q hq e]
  have hlt : ∀ {i : Nat} {r : Rec}, recs[i]? = some r -> i < recs.length := fun hi => (List.getElem?_eq_some_iff.1 hi).1;rw [h.wold b λi r hi hSi p hp e=>hex ⟨i,r,p,hlt hi,hi,hSi,hp,e⟩,h'.wold b λi r hi hSi p hp e=>hex ⟨i,r,p,hlt hi,hi,by rw [hS i r p hi hp e];exact hSi,hp,e⟩]
theorem Sim.same {st':St} (h:Sim C st g a w) (hf:∀ t,st'.fr.get t=st.fr.get t) (hh:st'.hp=st.hp):Sim C st' g a w:=by
  obtain⟨fr',hp'⟩:=st';simp only at hh;subst hh;exact { h with fr:=λt=>by have:=h.fr t;rw [<- hf t] at this;exact this }
structure Good (C:Ctx) (ops:Array Oper) (fr0:Fr) (hp0:List Blk) (pre:List Rec) (o:Oper) (r:Rec):Prop where
  on:onA ops (qCP fr0 pre) o=some r.on
  yes:r.on=true->(∀ p∈r.ws,p.1 < (xL hp0 pre).length/\((xL hp0 pre)[p.1]?=some .dead\/p.1∈r.rs))/\∃ y,DstD C o r.d r.x y/\DOk C o (qCP fr0 pre).ev (qJA r.rs (xL hp0 pre)) y r.ws
  no:r.on=false->DstD C o r.d r.x .und/\r.ws=[]
structure Edges (ops:List Oper) (recs:List Rec) (q:Option Nat):Prop where
  back:∀ (i:Nat) (o:Oper),ops[i]?=some o->∀ e∈o.after,Region.binds .any e=true->e.on < i
  slot:∀ (i j:Nat) (o:Oper) (r:Rec),ops[j]?=some o->recs[i]?=some r->j < recs.length->i≠j->r.d∈tN ops.toArray o->Anc ops i j\/Anc ops j i
  blk:∀ (i j:Nat) (r s:Rec),recs[i]?=some r->recs[j]?=some s->i≠j->∀ p∈r.ws,(p.1∈s.rs\/p.1∈s.ws.map (·.1))->Anc ops i j\/Anc ops j i
  last:∀ (i j:Nat),j < ops.length->recs.length<=j->i < j->Anc ops j i\/(j=recs.length/\q=some i)
  ds:∀ (i j:Nat) (r s:Rec),recs[i]?=some r->recs[j]?=some s->r.d=s.d->i=j
  wn:∀ (i:Nat) (r:Rec),recs[i]?=some r->(r.ws.map (·.1)).Nodup
theorem eZ:∀ {l:List Nat},gL l=true->l.Nodup
  | [],_=>List.nodup_nil
  | x :: r,h=>by
    simp only [gL,Bool.and_eq_true,Bool.not_eq_true',List.contains_eq_mem,decide_eq_false_iff_not] at h;exact List.nodup_cons.2 ⟨h.1,eZ h.2⟩
theorem rJ {ops:List Oper} {i j:Nat} (h:qEK (zFX ops) i j=true):Anc ops i j\/Anc ops j i:=by
  simp only [qEK,Bool.or_eq_true,List.contains_eq_mem,decide_eq_true_eq] at h;exact h.imp (xF ops) (xF ops)
theorem zBU {ops:List Oper} {recs:List Rec} (h:qEQ ops recs.length (recs.map Rec.d) (recs.map nV)=true):Edges ops recs none:=by
  simp only [qEQ,Bool.and_eq_true,List.all_eq_true,List.mem_range,Bool.or_eq_true,beq_iff_eq,Bool.not_eq_true',decide_eq_true_eq] at h;obtain⟨⟨⟨⟨h1,h2⟩,h3⟩,h4⟩,h5⟩:=h;have hds:=eZ h2;have hget:∀ (i:Nat) (r:Rec),recs[i]?=some r->(recs.map Rec.d).getD i 0=r.d/\(recs.map nV).getD i ([],[])=nV r:=λi r hi=>by simp [hi]
  refine⟨λi o ho e he hb=>?_,λi j o r ho hr hj hne hm=>?_,λi j r s hr hs hne p hp hm=>?_,λi j hj hm hij=>?_,λi j r s hr hs e=>pD (x:=r.d) hds (by simp [hr]) (by simp [hs,e]),λi r hr=>eZ (h3 (nV r) (List.mem_map.2 ⟨r,List.mem_of_getElem? hr,rfl⟩))⟩
  · have := h1 (o, i) (by rw [List.mem_iff_getElem?]; exact ⟨i, by simp [List.getElem?_zipIdx, ho]⟩) e (Array.mem_toList_iff.2 he)
    rcases this with h|h
    · rw [hb] at h;cases h
    exact h
  · have hi:i < recs.length:=(List.getElem?_eq_some_iff.1 hr).1
    rcases h4 j hj i hi with (h|h)|h
    · exact absurd h hne
    · exact rJ h
    rw [(hget i r hr).1] at h;have:=h.1;simp only [ho,Option.any_some,List.contains_eq_mem,decide_eq_false_iff_not] at this;exact absurd hm this
  · have hi:i < recs.length:=(List.getElem?_eq_some_iff.1 hr).1
    have hj:j < recs.length:=(List.getElem?_eq_some_iff.1 hs).1;rcases h4 j hj i hi with (h|h)|h
    · exact absurd h hne
    · exact rJ h
    have h6:=h.2;rw [(hget i r hr).2,(hget j s hs).2] at h6;simp only [List.any_eq_false,List.contains_eq_mem,decide_eq_true_eq] at h6;refine absurd ?_ (h6 p.1 ?_)
    · simp only [nV,List.mem_map];exact⟨p,hp,rfl⟩
    simp only [nV,List.mem_append];exact hm
  rcases h5 j hj with h|h
  · omega
  have:=h i hij;simp only [List.contains_eq_mem,decide_eq_true_eq] at this;exact .inl (xF ops this)
theorem qXW {q:Nat} {ops:List Oper} {recs:List Rec} (h:qGU q ops recs.length (recs.map Rec.d) (recs.map nV)=true):Edges ops recs (some q):=by
  simp only [qGU,Bool.and_eq_true,List.all_eq_true,List.mem_range,Bool.or_eq_true,beq_iff_eq,Bool.not_eq_true',decide_eq_true_eq] at h;obtain⟨⟨⟨⟨h1,h2⟩,h3⟩,h4⟩,h5⟩:=h;have hds:=eZ h2;have hget:∀ (i:Nat) (r:Rec),recs[i]?=some r->(recs.map Rec.d).getD i 0=r.d/\(recs.map nV).getD i ([],[])=nV r:=λi r hi=>by simp [hi]
  refine⟨λi o ho e he hb=>?_,λi j o r ho hr hj hne hm=>?_,λi j r s hr hs hne p hp hm=>?_,λi j hj hm hij=>?_,λi j r s hr hs e=>pD (x:=r.d) hds (by simp [hr]) (by simp [hs,e]),λi r hr=>eZ (h3 (nV r) (List.mem_map.2 ⟨r,List.mem_of_getElem? hr,rfl⟩))⟩
  · have := h1 (o, i) (by rw [List.mem_iff_getElem?]; exact ⟨i, by simp [List.getElem?_zipIdx, ho]⟩) e (Array.mem_toList_iff.2 he)
    rcases this with h|h
    · rw [hb] at h;cases h
    exact h
  · have hi:i < recs.length:=(List.getElem?_eq_some_iff.1 hr).1
    rcases h4 j hj i hi with (h|h)|h
    · exact absurd h hne
    · exact rJ h
    rw [(hget i r hr).1] at h;have:=h.1;simp only [ho,Option.any_some,List.contains_eq_mem,decide_eq_false_iff_not] at this;exact absurd hm this
  · have hi:i < recs.length:=(List.getElem?_eq_some_iff.1 hr).1
    have hj:j < recs.length:=(List.getElem?_eq_some_iff.1 hs).1;rcases h4 j hj i hi with (h|h)|h
    · exact absurd h hne
    · exact rJ h
    have h6:=h.2;rw [(hget i r hr).2,(hget j s hs).2] at h6;simp only [List.any_eq_false,List.contains_eq_mem,decide_eq_true_eq] at h6;refine absurd ?_ (h6 p.1 ?_)
    · simp only [nV,List.mem_map];exact⟨p,hp,rfl⟩
    simp only [nV,List.mem_append];exact hm
  rcases h5 j hj with h|h
  · omega
  rcases h i hij with this|this
  · simp only [List.contains_eq_mem,decide_eq_true_eq] at this
    exact .inl (xF ops this)
  exact .inr ⟨this.1,by rw [this.2]⟩
theorem qZI {ops:Array Oper} {K:St->Prop} {fr0:Fr} {hp0:List Blk} {l:List Oper} {fr:Fr} {hp:List Blk} {acc:List Rec} (h:TDr C ops K l fr hp acc):fr=qCP fr0 acc->hp=xL hp0 acc->ops.toList.drop acc.length=l->
    (∀ (i:Nat) (r:Rec),acc[i]?=some r->∃ o,ops.toList[i]?=some o/\Good C ops fr0 hp0 (acc.take i) o r)->
    ∃ recs,(∀ (i:Nat) (r:Rec),recs[i]?=some r->∃ o,ops.toList[i]?=some o/\Good C ops fr0 hp0 (recs.take i) o r)/\∃ q:Option Nat,Edges ops.toList recs q/\cE C ops (ops.toList.drop recs.length) ⟨qCP fr0 recs,xL hp0 recs⟩ K/\(∀ q',q=some q'->∃ oq dq,q' < recs.length/\ops.toList[q']?=some oq/\(∃ r,recs[q']?=some r/\r.d=dq/\r.ws=[])/\∃ o l,ops.toList.drop recs.length=o :: l/\cE C ops (o :: oq :: l) ⟨(dq,.junk) :: qCP fr0 recs,xL hp0 recs⟩ K):=by
  induction h with
  | tail l fr hp acc hE h=>
    intro e1 e2 e3 hg;refine⟨acc,hg,none,zBU hE,?_,λq' h=>by cases h⟩;rw [e3,<- e1,<- e2];exact h
  | tailq q o oq l fr hp acc dq hE hq hdq hws h h2=>
    intro e1 e2 e3 hg;refine⟨acc,hg,some q,qXW hE,?_,λq' hq'=>?_⟩
    · rw [e3,<- e1,<- e2]
      exact h
    cases hq';rw [List.getElem?_map,Option.map_eq_some_iff] at hdq;obtain⟨r,hr,hrd⟩:=hdq;refine⟨oq,dq,(List.getElem?_eq_some_iff.1 hr).1,hq,⟨r,hr,hrd,?_⟩,o,l,e3,?_⟩
    · rw [List.getElem?_map,hr] at hws
      simp only [Option.map_some,nV,Option.some.injEq,List.map_eq_nil_iff] at hws;exact hws
    rw [<- e1,<- e2];exact h2
  | step o l fr hp acc d x rs ws y hd hon hw h hk ih=>
    intro e1 e2 e3 hg
    have ho:ops.toList[acc.length]?=some o:=by
      have:=congrArg (·[0]?) e3;simpa using this
    refine ih (by rw [e1];simp [qCP]) (by rw [e2];simp [xL]) ?_ ?_
    · have:=congrArg (List.drop 1) e3
      simpa [List.drop_drop] using this
    intro i r hi;rw [List.getElem?_append] at hi;split at hi
    · rename_i hlt
      obtain⟨o',ho',hG⟩:=hg i r hi;exact⟨o',ho',by rw [List.take_append_of_le_length (by omega)];exact hG⟩
    rename_i hge
    have hia:i=acc.length:=by
      rcases Nat.lt_or_ge (i - acc.length) 1 with h1|h1
      · omega
      rw [List.getElem?_eq_none (by simpa using h1)] at hi;cases hi
    subst hia;simp at hi;subst hi;refine⟨o,ho,?_⟩;rw [List.take_append_of_le_length (Nat.le_refl _),List.take_length];exact⟨by rw [<- e1];exact hon,λ_=>by rw [<- e1,<- e2];exact⟨hw,y,hd,h⟩,λh=>by cases h⟩
  | skip o l fr hp acc d x hd hon hk ih=>
    intro e1 e2 e3 hg
    have ho:ops.toList[acc.length]?=some o:=by
      have:=congrArg (·[0]?) e3;simpa using this
    refine ih (by rw [e1];simp [qCP]) (by rw [e2];simp [xL,wr]) ?_ ?_
    · have:=congrArg (List.drop 1) e3
      simpa [List.drop_drop] using this
    intro i r hi;rw [List.getElem?_append] at hi;split at hi
    · rename_i hlt
      obtain⟨o',ho',hG⟩:=hg i r hi;exact⟨o',ho',by rw [List.take_append_of_le_length (by omega)];exact hG⟩
    rename_i hge
    have hia:i=acc.length:=by
      rcases Nat.lt_or_ge (i - acc.length) 1 with h1|h1
      · omega
      rw [List.getElem?_eq_none (by simpa using h1)] at hi;cases hi
    subst hia;simp at hi;subst hi;refine⟨o,ho,?_⟩;rw [List.take_append_of_le_length (Nat.le_refl _),List.take_length];exact⟨by rw [<- e1];exact hon,λh=>(by cases h),λ_=>⟨hd,rfl⟩⟩
variable {C:Ctx} {st:St} {g:Gh} {a:Act} {w:World}
def cN (S:Array Bool):Nat->Bool:=λi=>S.getD i false
theorem pM {listed:Array Bool} {i:Nat} (h:i < listed.size):listed.getD i true=listed.getD i false:=by simp [h]
theorem qHH {P:Program} {ops:Array Oper} {Q:Exit->Act->World->Prop} (m:Nat) (hb:∀ (i:Nat) (o:Oper),ops.toList[i]?=some o->∀ e∈o.after,Region.binds .any e=true->e.on < i) (hl:∀ (k i:Nat),m<=k->k < i->i < ops.size->Anc ops.toList i k):
    ∀ (fuel k:Nat) (listed:Array Bool) (a:Act) (w:World),m<=k->k+fuel=ops.size->listed.size=ops.size->(∀ i,i < ops.size->listed.getD i false=decide (i < k))->Cl ops.toList (cN listed)->
      wpList P ops Q (ops.toList.drop k) a w->wpAny P .any ops Q fuel listed a w:=by
  intro fuel
  induction fuel with
  | zero=>
    intro k listed a w hmk hk hsz hlist hcl hw
    have hall:Region.ready .any ops listed=[]:=by
      rw [List.eq_nil_iff_forall_not_mem];intro i hi;obtain⟨h0,o,ho,_⟩:=mem_ready.1 hi;have hlt:i < ops.size:=(Array.getElem?_eq_some_iff.1 ho).1;have:=hlist i hlt;rw [pM (by omega),this] at h0;simp at h0;omega
    refine⟨hall,?_⟩;rw [List.drop_eq_nil_of_le (by simp;omega)] at hw;exact hw
  | succ fuel ih=>
    intro k listed a w hmk hk hsz hlist hcl hw;have hklt:k < ops.size:=by omega
    have hok:ops[k]?=some ops[k]:=Array.getElem?_eq_getElem hklt;have hok':ops.toList[k]?=some ops[k]:=by simp
    have honly:∀ i∈Region.ready .any ops listed,i=k:=by
      intro i hi;obtain⟨h0,o,ho,he⟩:=mem_ready.1 hi;have hlt:i < ops.size:=(Array.getElem?_eq_some_iff.1 ho).1
      have hge:k<=i:=by
        rw [pM (by omega),hlist i hlt] at h0;simpa using h0
      rcases Nat.lt_or_ge k i with hlt'|hge'
      · have:=qY hcl (hl k i hmk hlt' hlt) λo' ho' e he' hb=>by
          have:o'=o:=by
            rw [Array.getElem?_toList,ho] at ho';exact (Option.some.inj ho').symm
          subst this;exact he e he' hb
        have hk':=hlist k hklt;simp only [cN] at this;rw [this] at hk';simp at hk'
      omega
    have hready:k∈Region.ready .any ops listed:=by
      refine mem_ready.2 ⟨by rw [pM (by omega),hlist k hklt];simp,ops[k],hok,λe he hbe=>?_⟩;have hlt:=hb k ops[k] hok' e he hbe;rw [hlist e.on (by omega)];simp [hlt]
    refine⟨λh=>(by rw [h] at hready;cases hready),λi hi=>?_⟩;have hik:=honly i hi;subst hik
    have hdrop:ops.toList.drop i=ops[i] :: ops.toList.drop (i+1):=by
      rw [List.drop_eq_getElem_cons (by simpa using hklt)];simp
    rw [hdrop] at hw
    have hnext:∀ a w,wpList P ops Q (ops.toList.drop (i+1)) a w->wpAny P .any ops Q fuel (listed.setIfInBounds i true) a w:=λa w h=>by
      refine ih (i+1) _ a w (by omega) (by omega) (by simpa using hsz) (λj hj=>?_) ?_ h
      · by_cases hji:j=i
        · subst hji;simp [hsz,hklt]
        rw [getD_set_ne false (λe=>hji e.symm),hlist j hj,Bool.eq_iff_iff];simp;omega
      intro j o ho hj e he hbe;simp only [cN] at hj ⊢;by_cases hji:j=i
      · subst hji
        rw [hok'] at ho;cases ho;exact getD_set_true (by rw [hlist e.on (by have:=hb j _ hok' e he hbe;omega)];simpa using hb j _ hok' e he hbe)
      rw [getD_set_ne false (fun e => hji e.symm)] at hj;exact getD_set_true (hcl j o ho hj e he hbe)
    unfold wpOp;rw [hok];unfold wpList at hw;simp only;split
    · rename_i hwant
      rw [if_pos hwant] at hw;exact hw.imp (Oper.wp_mono hnext) id
    rename_i hwant;rw [if_neg hwant] at hw;exact hnext _ _ hw
theorem qYH {P:Program} {ops:Array Oper} {Q:Exit->Act->World->Prop} (m q:Nat) (oq:Oper) (hqm:q < m) (hmn:m < ops.size) (hoq:ops.toList[q]?=some oq) (hb:∀ (i:Nat) (o:Oper),ops.toList[i]?=some o->∀ e∈o.after,Region.binds .any e=true->e.on < i) (hl:∀ (k i:Nat),m+1<=k->k < i->i < ops.size->Anc ops.toList i k) (hlq:∀ i,m < i->i < ops.size->Anc ops.toList i q):
    ∀ (fuel:Nat) (listed:Array Bool) (a:Act) (w:World),m+fuel=ops.size->listed.size=ops.size->(∀ i,i < ops.size->listed.getD i false=(decide (i<=m)&&!(i == q)))->Cl ops.toList (cN listed)->
      wpList P ops Q (oq :: ops.toList.drop (m+1)) a w->wpAny P .any ops Q fuel listed a w:=by
  intro fuel listed a w hk hsz hlist hcl hw
  cases fuel with
  | zero=>omega
  | succ fuel=>
    have hqlt:q < ops.size:=by omega
    have hok:ops[q]?=some oq:=by rw [<- Array.getElem?_toList];exact hoq
    have honly:∀ i∈Region.ready .any ops listed,i=q:=by
      intro i hi;obtain⟨h0,o,ho,he⟩:=mem_ready.1 hi;have hlt:i < ops.size:=(Array.getElem?_eq_some_iff.1 ho).1;rw [pM (by omega),hlist i hlt] at h0;by_cases hiq:i=q
      · exact hiq
      have hmi:m < i:=by
        simp [hiq] at h0;omega
      have:=qY hcl (hlq i hmi hlt) λo' ho' e he' hbe=>by
        have:o'=o:=by rw [Array.getElem?_toList,ho] at ho';exact (Option.some.inj ho').symm
        subst this;exact he e he' hbe
      have hk':=hlist q hqlt;simp only [cN] at this;rw [this] at hk';simp at hk'
    have hready:q∈Region.ready .any ops listed:=by
      refine mem_ready.2 ⟨by rw [pM (by omega),hlist q hqlt];simp,oq,hok,λe he hbe=>?_⟩;have hlt:=hb q oq hoq e he hbe;rw [hlist e.on (by omega)];simp;omega
    refine⟨λh=>(by rw [h] at hready;cases hready),λi hi=>?_⟩;have hik:=honly i hi;subst hik
    have hnext:∀ a w,wpList P ops Q (ops.toList.drop (m+1)) a w->wpAny P .any ops Q fuel (listed.setIfInBounds i true) a w:=λa w h=>by
      refine qHH (m+1) hb hl fuel (m+1) _ a w (Nat.le_refl _) (by omega) (by simpa using hsz) (λj hj=>?_) ?_ h
      · by_cases hji:j=i
        · subst hji;simp [hsz,hqlt];omega
        rw [getD_set_ne false (λe=>hji e.symm),hlist j hj,Bool.eq_iff_iff];simp [hji];omega
      intro j o ho hj e he hbe;simp only [cN] at hj ⊢;by_cases hji:j=i
      · subst hji
        rw [hoq] at ho;cases ho;have:=hb j _ hoq e he hbe;exact getD_set_true (by rw [hlist e.on (by omega)];simp;omega)
      rw [getD_set_ne false (fun e => hji e.symm)] at hj;exact getD_set_true (hcl j o ho hj e he hbe)
    unfold wpOp;rw [hok];unfold wpList at hw;simp only;split
    · rename_i hwant
      rw [if_pos hwant] at hw;exact hw.imp (Oper.wp_mono hnext) id
    rename_i hwant;rw [if_neg hwant] at hw;exact hnext _ _ hw
def cnt (S:Nat->Bool):Nat->Nat
  | 0=>0
  | n+1=>cnt S n+if S n then 1 else 0
theorem zBX (S:Nat->Bool):∀ n,cnt S n<=n
  | 0=>Nat.le_refl _
  | n+1=>by have:=zBX S n;simp only [cnt];split<;>omega
theorem xB {S S':Nat->Bool}:∀ n,(∀ i,i < n->S i=S' i)->cnt S n=cnt S' n
  | 0,_=>rfl
  | n+1,h=>by simp only [cnt,xB n λi hi=>h i (by omega),h n (by omega)]
theorem qMT {S S':Nat->Bool} {j:Nat}:∀ n,j < n->S j=false->S' j=true->(∀ i,i≠j->S' i=S i)->cnt S' n=cnt S n+1
  | n+1,hj,h0,h1,h=>by
    simp only [cnt];by_cases e:j=n
    · subst e
      rw [xB (S:=S') (S':=S) j λi hi=>h i (by omega),h0,h1];simp
    rw [qMT n (by omega) h0 h1 h, h n (fun e' => e e'.symm)];omega
theorem zBW {S:Nat->Bool} {j:Nat}:∀ n,j < n->S j=false->cnt S n < n
  | n+1,hj,h0=>by
    simp only [cnt];by_cases e:j=n
    · subst e;have:=zBX S j;rw [h0];simp;omega
    have:=zBW n (by omega) h0;split<;>omega
theorem xC (m : Nat) : ∀ n, m <= n -> cnt (fun i => decide (i < m)) n = m
  | 0,h=>by simp only [cnt];omega
  | n+1,h=>by
    simp only [cnt];by_cases e:m=n+1
    · subst e
      rw [xB (S':=λi=>decide (i < n)) n λi hi=>by rw [Bool.eq_iff_iff];simp;omega,xC n n (Nat.le_refl _)];simp
    rw [xC m n (by omega)];simp;omega
theorem zGQ {p:Nat->Prop}:∀ n,p n->∃ k,k<=n/\p k/\∀ i,i < k->¬ p i
  | 0,h=>⟨0,Nat.le_refl _,h,λi hi=>by omega⟩
  | n+1,h=>by
    by_cases hex:∃ j,j<=n/\p j
    · obtain⟨j,hj,hp⟩:=hex
      obtain⟨k,hk,h1,h2⟩:=zGQ j hp;exact⟨k,by omega,h1,h2⟩
    exact⟨n+1,Nat.le_refl _,h,λi hi hp=>hex ⟨i,by omega,hp⟩⟩
theorem zCJ {ops:List Oper} (hb:∀ (i:Nat) (o:Oper),ops[i]?=some o->∀ e∈o.after,Region.binds .any e=true->e.on < i) {j i:Nat} (h:Anc ops j i):i < j:=by
  induction h with
  | one j o e ho he hbe=>exact hb j o ho e he hbe
  | more j o e i ho he hbe _ ih=>have:=hb j o ho e he hbe;omega
theorem xN {ops:Array Oper} {i t:Nat} {b:Bool} (hs:Sim C st g a w) (ht:(ops[i]?).bind (·.dst)=some t) (hv:st.fr.get t=.d (.bool b)):yielded ops a.tmps i=some b:=by
  have h:=hs.fr t;rw [hv] at h;have h1:=bool_inv h;rw [Array.getD_eq_getD_getElem?] at h1;unfold yielded;rw [ht]
  cases ho:a.tmps[t]? with
  | none=>rw [ho] at h1;simp [undef] at h1
  | some v=>rw [ho] at h1;simp only [Option.getD_some] at h1;subst h1;simp [ho]
theorem qQD (hp:List Blk):∀ l:List Rec,(xL hp l).length=hp.length:=by
  intro l
  have:∀ (l:List Rec) (h:List Blk),(l.foldl (λh r=>wr r.ws h) h).length=h.length:=by
    intro l
    induction l with
    | nil=>intro h;rfl
    | cons r l ih=>intro h;simp only [List.foldl_cons];rw [ih,sL]
  exact this l hp
theorem zFW {ops:Array Oper} {K:St->Prop} {fr0:Fr} {hp0:List Blk} {recs:List Rec} (hg:∀ (i:Nat) (r:Rec),recs[i]?=some r->∃ o,ops.toList[i]?=some o/\Good C ops fr0 hp0 (recs.take i) o r) (q:Option Nat) (hE:Edges ops.toList recs q)
    (hT:cE C ops (ops.toList.drop recs.length) ⟨qCP fr0 recs,xL hp0 recs⟩ K) (hT2:∀ q',q=some q'->∃ oq dq,q' < recs.length/\ops.toList[q']?=some oq/\(∃ r,recs[q']?=some r/\r.d=dq/\r.ws=[])/\∃ o l,ops.toList.drop recs.length=o :: l/\cE C ops (o :: oq :: l) ⟨(dq,.junk) :: qCP fr0 recs,xL hp0 recs⟩ K):
    ∀ (fuel:Nat) (listed:Array Bool) (a:Act) (w:World) (st:St) (g:Gh),listed.size=ops.size->Cl ops.toList (cN listed)->(∀ i,recs.length<=i->cN listed i=false)->
      cnt (cN listed) ops.size+fuel=ops.size->Sim C st g a w->Part fr0 hp0 recs (cN listed) st->wpAny C.P .any ops (QN C K) fuel listed a w:=by
  have hm:recs.length<=ops.size:=by
    rcases Nat.eq_zero_or_pos recs.length with h|h
    · omega
    obtain ⟨o, ho, _⟩ := hg (recs.length - 1) _ (List.getElem?_eq_getElem (by omega));have:=(List.getElem?_eq_some_iff.1 ho).1;simp at this;omega
  have ha : Apart hp0 recs := ⟨hE.ds, hE.wn, fun i r hi p hp => by
    obtain ⟨o, _, hG⟩ := hg i r hi
    cases hon : r.on with
    | true => have := ((hG.yes hon).1 p hp).1; rw [qQD] at this; exact this
    | false => rw [(hG.no hon).2] at hp; simp at hp⟩
  intro fuel
  induction fuel with
  | zero=>
    intro listed a w st g hsz hcl htl hc hs hp
    have hall:∀ i,i < ops.size->cN listed i=true:=λi hi=>by
      cases h:cN listed i with
      | true=>rfl
      | false=>have:=zBW ops.size hi h;omega
    have hmeq:recs.length=ops.size:=by
      rcases Nat.lt_or_ge recs.length ops.size with h|h
      · have:=htl recs.length (Nat.le_refl _);rw [hall _ h] at this;cases this
      omega
    refine qHH recs.length hE.back (λk i hk hki hi=>(hE.last k i (by simpa using hi) (by omega) hki).resolve_right (λh=>by omega)) 0 recs.length listed a w (Nat.le_refl _) (by omega) hsz (λi hi=>by have:=hall i hi;simp only [cN] at this;rw [this];simp;omega) hcl ?_;have htext:=Part.text (fr0:=fr0) ha recs.length (Nat.le_refl _);rw [List.take_length] at htext;refine hT g a w (hs.same (λt=>(hp.getEq htext t λi r hi _=>?_).symm) (List.ext_getElem? λb=>(hp.hpEq htext b λi r p hi _ _=>?_).symm))
    · have:=(List.getElem?_eq_some_iff.1 hi).1;rw [hall i (by omega)];simp [this]
    have:=(List.getElem?_eq_some_iff.1 hi).1;rw [hall i (by omega)];simp [this]
  | succ fuel ih=>
    intro listed a w st g hsz hcl htl hc hs hp;by_cases hfull:∀ i,i < recs.length->cN listed i=true
    · -- the rest goes one by one
      have hS:∀ i,i < ops.size->listed.getD i false=decide (i < recs.length):=λi hi=>by
        by_cases h:i < recs.length
        · have:=hfull i h;simp only [cN] at this;rw [this];simp [h]
        have:=htl i (by omega);simp only [cN] at this;rw [this];simp [h]
      have hcm:cnt (cN listed) ops.size=recs.length:=by
        rw [xB (S:=cN listed) (S':=λi=>decide (i < recs.length)) ops.size hS];exact xC _ _ hm
      refine qHH recs.length hE.back (λk i hk hki hi=>(hE.last k i (by simpa using hi) (by omega) hki).resolve_right (λh=>by omega)) (fuel+1) recs.length listed a w (Nat.le_refl _) (by omega) hsz hS hcl ?_;have htext:=Part.text (fr0:=fr0) ha recs.length (Nat.le_refl _);rw [List.take_length] at htext;refine hT g a w (hs.same (λt=>(hp.getEq htext t λi r hi _=>?_).symm) (List.ext_getElem? λb=>(hp.hpEq htext b λi r p hi _ _=>?_).symm))
      · have:=(List.getElem?_eq_some_iff.1 hi).1;rw [hfull i this];simp [this]
      have:=(List.getElem?_eq_some_iff.1 hi).1;rw [hfull i this];simp [this]
    have hex:∃ i,i < recs.length/\cN listed i=false:=by
      refine Classical.byContradiction λh=>hfull λi hi=>?_
      cases hv:cN listed i with
      | true=>rfl
      | false=>exact absurd ⟨i,hi,hv⟩ h
    obtain⟨i0,hi0,hv0⟩:=hex;refine⟨λhnil=>?_,λi hi=>?_⟩
    · -- the first that has not come may come
      obtain⟨k,hk,hk1,hk2⟩:=zGQ (p:=λi=>cN listed i=false) i0 hv0;have hklt:k < ops.size:=by omega
      have hmem:k∈Region.ready .any ops listed:=by
        refine mem_ready.2 ⟨by rw [pM (by omega)];exact hk1,ops[k],Array.getElem?_eq_getElem hklt,λe he hbe=>?_⟩;have:=hE.back k ops[k] (by simp [hklt]) e he hbe;have h1:=hk2 e.on this;simpa [cN] using h1
      rw [hnil] at hmem;cases hmem
    obtain⟨hun,o,ho,he⟩:=mem_ready.1 hi;have hlt:i < ops.size:=(Array.getElem?_eq_some_iff.1 ho).1;have hun':cN listed i=false:=by rw [pM (by omega)] at hun;exact hun
    have hoL:ops.toList[i]?=some o:=by simpa using ho
    have hedge:∀ o',ops.toList[i]?=some o'->∀ e∈o'.after,Region.binds .any e=true->cN listed e.on=true:=λo' ho' e he' hb=>by
      rw [hoL] at ho';cases ho';exact he e he' hb
    rcases Nat.lt_or_ge i recs.length with him|hge
    rotate_left
    · -- the first of the rest comes ahead of q
      have hone:∀ i1,i1 < recs.length->cN listed i1=false->i=recs.length/\q=some i1:=λi1 h1 h2=>by
        rcases hE.last i1 i (by simpa using hlt) hge (by omega) with h|h
        · have:=qY hcl h hedge
          rw [this] at h2;cases h2
        exact h
      obtain⟨him,hqi⟩:=hone i0 hi0 hv0;obtain⟨oq,dq,hq1,hq2,⟨rq,hq3,hq4,hq5⟩,o1,l1,hdr,hTq⟩:=hT2 i0 hqi
      have hothers:∀ i1,i1 < recs.length->i1≠i0->cN listed i1=true:=λi1 h1 h2=>by
        cases hv:cN listed i1 with
        | true=>rfl
        | false=>
          have:=(hone i1 h1 hv).2;rw [hqi] at this;exact absurd (Option.some.inj this).symm h2
      have ho1:o1=o/\l1=ops.toList.drop (recs.length+1):=by
        have h1:=congrArg (·[0]?) hdr;have h2:=congrArg (List.drop 1) hdr;simp only [List.getElem?_drop,Nat.add_zero,List.getElem?_cons_zero,<- him,hoL] at h1;rw [List.drop_drop] at h2;exact⟨(Option.some.inj h1).symm,by simpa using h2.symm⟩
      obtain⟨rfl,rfl⟩:=ho1;have htext:=Part.text (fr0:=fr0) ha recs.length (Nat.le_refl _);rw [List.take_length] at htext
      have hsim:Sim C ⟨(dq,.junk) :: qCP fr0 recs,xL hp0 recs⟩ g a w:=by
        have hh : xL hp0 recs = st.hp := List.ext_getElem? fun b => (htext.hpEq hp b fun i1 r p h1 hpw hpb => by
          have h1' := (List.getElem?_eq_some_iff.1 h1).1;by_cases e : i1 = i0
          · subst e; rw [hq3] at h1; cases h1; rw [hq5] at hpw; simp at hpw
          rw [hothers i1 h1' e]; simp [h1'])
        rw [hh];refine Sim.forget (st:=st) hs λt=>?_;simp only [Fr.get];split
        · exact .inr rfl
        rename_i hne
        exact .inl (htext.getEq hp t fun i1 r h1 hd => by
          have h1' := (List.getElem?_eq_some_iff.1 h1).1;by_cases e : i1 = i0
          · subst e; rw [hq3] at h1; cases h1; exact absurd (hq4.symm.trans hd) hne
          rw [hothers i1 h1' e]; simp [h1'])
      have hlist:∀ j,j < ops.size->(listed.setIfInBounds i true).getD j false=(decide (j<=recs.length)&&!(j == i0)):=λj hj=>by
        by_cases hji:j=i
        · subst hji;subst him;simp [hsz,hlt];omega
        rw [getD_set_ne false (fun e => hji e.symm)];by_cases e:j=i0
        · subst e;simp only [cN] at hv0;rw [hv0];simp
        rcases Nat.lt_or_ge j recs.length with h1|h1
        · have:=hothers j h1 e;simp only [cN] at this;rw [this];simp [e];omega
        have:=htl j h1;simp only [cN] at this;rw [this,Bool.eq_iff_iff];simp;omega
      have hnextq:∀ a w,wpList C.P ops (QN C K) (oq :: ops.toList.drop (recs.length+1)) a w->wpAny C.P .any ops (QN C K) fuel (listed.setIfInBounds i true) a w:=λa w h=>by
        have hcnt:fuel+recs.length=ops.size:=by
          have h1:cnt (cN listed) ops.size+1=recs.length:=by
            have h2:=qMT (S:=cN listed) (S':=λi=>decide (i < recs.length)) (j:=i0) ops.size (by omega) hv0 (by simp [hi0]) λj hj=>by
              rcases Nat.lt_or_ge j recs.length with h1|h1
              · rw [hothers j h1 hj];simp [h1]
              rw [htl j h1];simp;omega
            rw [xC recs.length ops.size hm] at h2;omega
          omega
        refine qYH recs.length i0 oq hi0 (by omega) hq2 hE.back (λk j hk hkj hj=>(hE.last k j (by simpa using hj) (by omega) hkj).resolve_right (λh=>by omega)) (λj hj hj2=>(hE.last i0 j (by simpa using hj2) (by omega) (by omega)).resolve_right (λh=>by omega)) fuel _ a w (by omega) (by simpa using hsz) hlist ?_ h;intro j o' ho' hj e he' hbe;simp only [cN] at hj ⊢;by_cases hji:j=i
        · subst hji
          exact getD_set_true (by have:=hedge o' ho' e he' hbe;simpa only [cN] using this)
        rw [getD_set_ne false (fun e => hji e.symm)] at hj;exact getD_set_true (hcl j o' ho' hj e he' hbe)
      have hw:=hTq g a w hsim;unfold wpOp;rw [ho];unfold wpList at hw;simp only;split
      · rename_i hwant
        rw [if_pos hwant] at hw;exact hw.imp (Oper.wp_mono hnextq) id
      rename_i hwant;rw [if_neg hwant] at hw;exact hnextq _ _ hw
    have hri:recs[i]?=some recs[i]:=List.getElem?_eq_getElem him;obtain⟨o',ho',hG⟩:=hg i _ hri;rw [hoL] at ho';cases ho';have htext:=Part.text (fr0:=fr0) ha i (by omega)
    have hrel:∀ j,j≠i->(Anc ops.toList j i\/Anc ops.toList i j)->cN listed j=decide (j < i):=by
      intro j hji h;rcases h with h|h
      · have hlt':=zCJ hE.back h
        cases hv:cN listed j with
        | false=>simp;omega
        | true=>
          have:=qY hcl h λo' ho' e he' hb=>hcl j o' ho' hv e he' hb;rw [this] at hun';cases hun'
      have hlt':=zCJ hE.back h;rw [qY hcl h hedge];simp [hlt']
    have hslot:∀ t,t∈tN ops o->st.fr.get t=(qCP fr0 (recs.take i)).get t:=by
      intro t ht;refine hp.getEq htext t λj r hj hd=>?_;by_cases hji:j=i
      · subst hji;rw [hun'];simp
      exact hrel j hji (hE.slot j i o r hoL hj him hji (by rw [hd];simpa using ht))
    have hblk:∀ b,(b∈recs[i].rs\/b∈recs[i].ws.map (·.1))->st.hp[b]?=(xL hp0 (recs.take i))[b]?:=by
      intro b hb;refine hp.hpEq htext b λj r p hj hpw hpb=>?_;by_cases hji:j=i
      · subst hji;rw [hun'];simp
      exact hrel j hji (hE.blk j i r _ hj hri hji p hpw (by rw [hpb];exact hb))
    have hnext:∀ (st':St) (g':Gh) (a':Act) (w':World),Sim C st' g' a' w'->st'=⟨(recs[i].d,recs[i].x) :: st.fr,wr recs[i].ws st.hp⟩->wpAny C.P .any ops (QN C K) fuel (listed.setIfInBounds i true) a' w':=by
      intro st' g' a' w' hs' hst;subst hst
      have hset:∀ j,cN (listed.setIfInBounds i true) j=(cN listed j||j == i):=by
        intro j;simp only [cN];by_cases hji:j=i
        · subst hji;simp [hsz,hlt]
        rw [getD_set_ne false (λe=>hji e.symm)];simp [hji]
      refine ih _ a' w' _ g' (by simpa using hsz) ?_ ?_ ?_ hs' (hp.step ha hri hun' (λk s hk hSk p hpp q hq e=>?_) hset)
      · intro j o' ho' hj e he' hbe
        rw [hset] at hj ⊢;by_cases hji:j=i
        · subst hji;rw [hedge o' ho' e he' hbe];rfl
        simp only [beq_eq_false_iff_ne.2 hji,Bool.or_false] at hj;rw [hcl j o' ho' hj e he' hbe];rfl
      · intro j hj
        rw [hset,htl j hj];simp;omega
      · have := qMT (S := cN listed) (S' := cN (listed.setIfInBounds i true)) ops.size hlt hun' (by rw [hset]; simp) fun j hj => by rw [hset]; simp [hj]
        omega
      have hki : k ≠ i := fun h => by subst h; rw [hun'] at hSk; cases hSk
      have:=hrel k hki (hE.blk k i s _ hk hri hki q hq (.inr (List.mem_map.2 ⟨p,hpp,e⟩)));rw [hSk] at this;exact of_decide_eq_true this.symm
    unfold wpOp;rw [ho];simp only
    have hwant:Region.wanted o (yielded ops a.tmps)=recs[i].on:=by
      have hon:=hG.on;unfold onA at hon;unfold Region.wanted;split at hon
      · rename_i hgd
        rw [hgd];exact Option.some.inj hon
      rename_i j want hgd;rw [hgd];simp only;split at hon
      · rename_i t ht
        have htm:t∈tN ops o:=by simp [tN,hgd,ht]
        rw [<- hslot t htm] at hon;split at hon
        · rename_i b hv
          rw [xN hs ht hv];have:=Option.some.inj hon;rw [<- this];simp
        · rename_i hv
          rw [qCZ hs ht hv];have:=Option.some.inj hon;rw [<- this];simp
        cases hon
      cases hon
    cases hon:recs[i].on with
    | true=>
      rw [if_pos (by rw [hwant,hon])];left;obtain⟨hw,y0,hdst,hD⟩:=hG.yes hon;refine hD st (λb B hb hd=>?_) (λp hp'=>?_) (λp hp' hdead=>?_) (λy hy=>?_) g a w hs _ _ λv w' g' hs' hx=>hnext _ _ _ _ (hdst.sim hs' hx) rfl
      · obtain⟨h1,h2⟩:=zEA hb hd
        rw [hblk b (.inl h1)];exact h2
      · rw [hp.len];exact ha.lt i _ hri p hp'
      · rw [hblk p.1 (.inr (List.mem_map.2 ⟨p,hp',rfl⟩))]
        rcases (hw p hp').2 with h|h
        · exact h
        have hlt':=(hw p hp').1;simp only [qJA,List.getElem?_map,List.getElem?_zipIdx,Option.map_map,Option.map_eq_some_iff,Function.comp_def] at hdead;obtain⟨B',hB',e⟩:=hdead;simp only [Nat.zero_add,List.contains_eq_mem,h,decide_true,if_true] at e;rw [hB',e]
      cases y with
      | tmp t=>
        simp only [Fr.ev];refine hslot t ?_;simp only [tN,List.mem_append,List.mem_filterMap];exact .inl ⟨.tmp t,by simpa using hy,rfl⟩
      | _=>rfl
    | false=>
      rw [if_neg (by rw [hwant,hon];exact Bool.false_ne_true)];obtain⟨hdst,hws⟩:=hG.no hon;refine hnext ⟨(recs[i].d,recs[i].x) :: st.fr,st.hp⟩ g _ w ?_ (by rw [hws];rfl);exact hdst.sim hs .und
theorem qEX {id:Nat} {ops:Array Oper} {Q:Exit->St->Prop} (hm:C.P.follows .mixedOrders=true) (h:TDr C ops (Q .normal) ops.toList st.fr st.hp []):TWp C (.region id ops true) st Q:=λg a w hs=>by
  have hs':Sim C st g a w.drew:=hs.drew;obtain⟨recs,hg,q,hE,hT,hT2⟩:=qZI (fr0:=st.fr) (hp0:=st.hp) h rfl rfl rfl λi r hi=>by simp at hi
  have hnone:∀ i,cN (Array.replicate ops.size false) i=false:=λi=>by simp only [cN];rw [Array.getD_eq_getD_getElem?,Array.getElem?_replicate];split<;>rfl
  have hz:∀ n,cnt (cN (Array.replicate ops.size false)) n=0:=λn=>by
    induction n with
    | zero=>rfl
    | succ n ih=>simp only [cnt,ih,hnone];rfl
  have hall:=zFW hg q hE hT hT2 ops.size (Array.replicate ops.size false) a w.drew st g (by simp) (λi o ho hi=>absurd ((hnone i).symm.trans hi) Bool.false_ne_true) (λi _=>hnone i) (by rw [hz];omega) hs' (Part.start _ _ _ λi _=>hnone i);refine Go.wp_mono (wp_region_any hm hall) ?_;intro e a' w' hq
  cases e with
  | normal=>exact hq
  | _=>exact hq.elim
theorem qNL {id:Nat} {ops:Array Oper} {y:Code} {Q:Exit->St->Prop} (hm:C.P.follows .mixedOrders=true) (h:TDr C ops (λst'=>TWp C y st' Q) ops.toList st.fr st.hp []):TWp C (.seq (.region id ops true) y) st Q:=TQ (qEX hm h)
end Go.TL
