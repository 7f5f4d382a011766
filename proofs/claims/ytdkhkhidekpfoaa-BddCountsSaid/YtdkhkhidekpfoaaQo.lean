/- Texts of this proof, joined, without what it does not use. No condition. -/
import Derived.Laws.BytesArg
import Derived.Test.YtdkhkhidekpfoaaQn

set_option linter.unusedVariables false
set_option linter.unusedSimpArgs false
set_option linter.unusedSectionVars false
namespace Go.TL
open Go.Sort Go.Proofs
variable {P:Program} {C:Ctx} {st:St} {g:Gh} {a:Act} {w:World}
section
variable {o:Oper} {ev:Operand->AV} {hp:List Blk} {t t' e arr:TypeId} {x y:Operand}
end
section
variable {o:Oper} {ev:Operand->AV} {hp:List Blk} {x:Operand}
end
end Go.TL
set_option maxHeartbeats 4000000
namespace Go.TL
variable {C:Ctx} {st:St} {g:Gh} {a:Act} {w:World} {P:Program}
inductive Kt where
  | s (y:Code)
  | b (i:Nat)
inductive Md where
  | kc (x:Code) (fr:Fr) (hp:List Blk) (ks:List Kt)
  | ko (ops:Array Oper) (l:List Oper) (fr:Fr) (hp:List Blk) (ks:List Kt)
  | kx (e:Exit) (fr:Fr) (hp:List Blk) (ks:List Kt)
  | kn
def stX (fr:Fr) (hp:List Blk) (e:Exit):List Kt->Md
  | []=>.kn
  | .s y :: ks=>match e with
    | .normal=>.kc y fr hp ks
    | e=>.kx e fr hp ks
  | .b i :: ks=>match e with
    | .exit j=>match Nat.beq j i with
      | true=>.kx .normal fr hp ks
      | false=>.kx (.exit j) fr hp ks
    | e=>.kx e fr hp ks
def stO (T:Tab) (n:Nat) (ops:Array Oper) (fr:Fr) (hp:List Blk) (ks:List Kt):List Oper->Md
  | []=>.kx .normal fr hp ks
  | o :: l=>match stE T n ops o fr hp with
    | some (fr',hp')=>.ko ops l fr' hp' ks
    | none=>.kn
def stS (fr:Fr) (hp:List Blk) (ks:List Kt) (y:Code):Code->Md
  | .region id ops d=>match d with
    | false=>.ko ops ops.toList fr hp (.s y :: ks)
    | true=>.kc (.region id ops true) fr hp (.s y :: ks)
  | x=>.kc x fr hp (.s y :: ks)
def stC (fr:Fr) (hp:List Blk) (ks:List Kt):Code->Md
  | .seq x y=>stS fr hp ks y x
  | .region _ ops d=>match d with
    | false=>.ko ops ops.toList fr hp ks
    | true=>.kn
  | .skip=>.kx .normal fr hp ks
  | .ret=>.kx .ret fr hp ks
  | .exit i=>.kx (.exit i) fr hp ks
  | .block i x=>.kc x fr hp (.b i :: ks)
  | _=>.kn
def stp (T:Tab) (n:Nat):Md->Md
  | .kc x fr hp ks=>stC fr hp ks x
  | .ko ops l fr hp ks=>stO T n ops fr hp ks l
  | .kx e fr hp ks=>stX fr hp e ks
  | .kn=>.kn
def run (T:Tab) (n:Nat):Nat->Md->Md
  | 0,m=>m
  | k+1,m=>run T n k (stp T n m)
section calls
variable {ops:Array Oper} {ty:TypeId} {pos:String} {after:Array Edge} {gd:Option (Nat×Bool)} {l:List Oper} {K:St->Prop} {fr:Fr} {hp:List Blk} {acc:List Rec} {d:Nat} {F:FuncId} {f:Operand} {xs:Array Operand} {ts:Array TypeId} {ds:List D} {α β:Type} {m:Option α} {k:α->Option β} {o:β} {e:α->D}
theorem c_N (hm:aD m k=some o) (hf:∀ {x},m=some x->RetN C.P F ds (e x)) (hd:decide (d < C.n)=true) (hon:onE ops gd fr=some true) (he:fr.ev f=.d (.fn F)) (hx:xs.toList.map fr.ev=ds.map .d)
    (hk:∀ x,k x=some o->aH C ops l ⟨(d,.d (e x)) :: fr,hp⟩ K):aH C ops (⟨some d,.call { callee:=.value f,args:=xs,argTypes:=ts },ty,pos,after,gd⟩ :: l) ⟨fr,hp⟩ K:=by
  obtain⟨x,h1,h2⟩:=BI hm;exact SX hd hon (RN rfl he (jU hx) (hf h1)) (hk x h2)
theorem c_D (hm:aD m k=some o) (hf:∀ {x},m=some x->RetD C.P F ds (e x)) (hd:decide (d < C.n)=true) (hon:onE ops gd fr=some true) (he:fr.ev f=.d (.fn F)) (hx:xs.toList.map fr.ev=ds.map .d)
    (hk:∀ x,k x=some o->aH C ops l ⟨(d,.d (e x)) :: fr,hp⟩ K):aH C ops (⟨some d,.call { callee:=.value f,args:=xs,argTypes:=ts },ty,pos,after,gd⟩ :: l) ⟨fr,hp⟩ K:=by
  obtain⟨x,h1,h2⟩:=BI hm;exact SX hd hon (RD rfl he hx (hf h1)) (hk x h2)
theorem yC (rs:List Nat) (hm:aD m k=some o) (hf:∀ {x},m=some x->RetN C.P F ds (e x)) (hd:decide (d < C.n)=true) (hon:onE ops gd fr=some true) (he:fr.ev f=.d (.fn F)) (hx:xs.toList.map fr.ev=ds.map .d)
    (hk:∀ x,k x=some o->TDr C ops K l ((d,.d (e x)) :: fr) hp (acc++[⟨true,d,.d (e x),rs,[]⟩])):TDr C ops K (⟨some d,.call { callee:=.value f,args:=xs,argTypes:=ts },ty,pos,after,gd⟩ :: l) fr hp acc:=by
  obtain⟨x,h1,h2⟩:=BI hm;exact DX rs hd hon (RN rfl he (jU hx) (hf h1)) (hk x h2)
theorem cd_D (rs:List Nat) (hm:aD m k=some o) (hf:∀ {x},m=some x->RetD C.P F ds (e x)) (hd:decide (d < C.n)=true) (hon:onE ops gd fr=some true) (he:fr.ev f=.d (.fn F)) (hx:xs.toList.map fr.ev=ds.map .d)
    (hk:∀ x,k x=some o->TDr C ops K l ((d,.d (e x)) :: fr) hp (acc++[⟨true,d,.d (e x),rs,[]⟩])):TDr C ops K (⟨some d,.call { callee:=.value f,args:=xs,argTypes:=ts },ty,pos,after,gd⟩ :: l) fr hp acc:=by
  obtain⟨x,h1,h2⟩:=BI hm;exact DX rs hd hon (RD rfl he hx (hf h1)) (hk x h2)
end calls
end Go.TL
set_option linter.unusedVariables false
set_option linter.unusedSimpArgs false
set_option maxHeartbeats 1000000
set_option maxRecDepth 100000
namespace Go.TL
open Go
variable {C:Ctx} {o:Oper} {ev:Operand->AV} {hp:List Blk} {t:TypeId} {x y:Operand}
theorem own_sl (N ty sz:Nat) (es:List D):DLe (.own N ty sz es) (.sl sz es):=by
  intro w X v h
  cases h with
  | own0 _ _ _ a=>exact .sl0 _ _ _
  | own _ _ _ _ b cap cells val hX hN hw hc hp hs h1 hv hr=>
    exact .sl sz es ⟨b,0,none⟩ cap val hX hc hs h1 (λi e j c he hj=>by rw [dU,Nat.zero_add,cell_of_row w b _ cells ty (0,0) hw];exact hv i e j c he hj) hr
theorem own_le {M N:Nat} (h:M<=N) (ty sz:Nat) (es:List D):DLe (.own N ty sz es) (.own M ty sz es):=by
  intro w X v hd
  cases hd with
  | own0 _ _ _ a=>exact .own0 _ _ _ _
  | own _ _ _ _ b cap cells val hX hN hw hc hp hs h1 hv hr=>exact .own M ty sz es b cap cells val hX (by omega) hw hc hp hs h1 hv hr
theorem sl1_le {α:Type} {f g:α->D} (hf:∀ x,(f x).cells=[f x]) (hg:∀ x,(g x).cells=[g x]/\(g x).one=true) (h:∀ x,DLe (f x) (g x)) (l:List α):DLe (.sl 1 (l.map f)) (.sl 1 (l.map g)):=by
  intro w X v hd;generalize he:l.map f=es at hd;have hm:es.length=(l.map g).length:=by rw [<- he];simp
  have key:∀ (i:Nat) (e:D),(l.map g)[i]?=some e->∃ x,e=g x/\es[i]?=some (f x):=λi e hi=>by
    rw [zQP,zQO] at hi;obtain⟨x,hx,rfl⟩:=hi;exact⟨x,rfl,by rw [<- he,zQP,hx];rfl⟩
  cases hd with
  | sl0 _ ad cap=>
    obtain rfl:l=[]:=by simpa using he
    exact .sl0 _ _ _
  | sl _ _ ad cap val hX hc hs h1 hv hr=>
    rw [hm];refine .sl 1 _ ad cap val hX (by rw [<- hm];exact hc) (λi e hi=>?_) (λi e j c hi hj=>?_) (λi e j c hi hj=>?_) λi e j c hi hj=>?_
    · obtain⟨x,rfl,_⟩:=key i e hi
      rw [(hg x).1];rfl
    · obtain⟨x,rfl,_⟩:=key i e hi
      rw [(hg x).1] at hj
      cases j with
      | zero=>cases hj;exact (hg x).2
      | succ j=>simp at hj
    · obtain⟨x,rfl,hx⟩:=key i e hi
      rw [(hg x).1] at hj
      cases j with
      | zero=>cases hj;exact hv i _ 0 (f x) hx (by rw [hf x];rfl)
      | succ j=>simp at hj
    obtain⟨x,rfl,hx⟩:=key i e hi;rw [(hg x).1] at hj
    cases j with
    | zero=>cases hj;exact h x _ _ _ (hr i _ 0 (f x) hx (by rw [hf x];rfl))
    | succ j=>simp at hj
def zV (P:Program) (F:FuncId) (ds:List D) (f:Nat->D):Prop:=∃ mv,hU P F=true/\∀ (w:World) (g:Gh) (vs:Array Value),Out ⟨P,0,w,0,g,mv⟩ [] g w->Pw (ARep w g) (ds.map .d) vs.toList->
    Calls P F vs w λe w'=>∃ v g',e=.returned v/\Out ⟨P,0,w,0,g,mv⟩ [] g' w'/\ARep w' g' (.d (f w.heap.size)) v
theorem oU {P:Program} {F:FuncId} {fn:Func} {c:Code} {mv:Nat->Bool} {ds:List D} {f:Nat->D} {n:Nat} {rs:List ResultVar} (hcb:hU P F=true) (hf:P.funcs[F]?=some fn) (hb:fn.body=some c) (hn:fn.ntmps=n) (hrs:fn.results.toList=rs) (hle:Nat.ble (ds.map AV.d).length n=true)
    (h:∀ w g,TWp ⟨P,n,w,0,g,mv⟩ c ⟨fX (ds.map .d),[]⟩ (yE P rs (f w.heap.size))):zV P F ds f:=by
  refine⟨mv,hcb,λw g vs hout hargs=>?_⟩;subst hn hrs;have hn:=Nat.le_of_ble_eq_true hle;generalize ds.map AV.d=args at *;have hlen:vs.size=args.length:=by have:=hargs.1;simpa using this.symm
  have hsim:Sim ⟨P,fn.ntmps,w,0,g,mv⟩ ⟨fX args,[]⟩ g { tmps:=vs++Array.replicate (fn.ntmps - vs.size) undef,defers:=[] } w:=by
    refine Out.sim (C:=⟨P,fn.ntmps,w,0,g,mv⟩) hout rfl ?_ λt=>?_
    · simp only [Array.size_append,Array.size_replicate];omega
    unfold fX;rw [fT,if_pos (Nat.zero_le _),Nat.sub_zero];by_cases ht:t < args.length
    · have h1:args[t]?=some args[t]:=zQR ht
      have h2:vs.toList[t]?=some (vs.toList[t]'(by simpa [hlen] using ht)):=zQR _;have h3:=hargs.2 t _ _ h1 h2;rw [h1]
      have h4:(vs++Array.replicate (fn.ntmps - vs.size) undef).getD t undef=vs.toList[t]'(by simpa [hlen] using ht):=by
        rw [Array.getD_eq_getD_getElem?,Array.getElem?_append,if_pos (by omega)];simp [show t < vs.size by omega]
      rw [h4];exact h3
    rw [List.getElem?_eq_none (by omega)];exact .junk _
  refine calls_of_wp hf hb (Go.wp_mono (h w g g _ w hsim) ?_);intro e a' w' hq;obtain⟨st',g',hQ,hs'⟩:=hq
  have fin:EndsS P fn.results.toList (f w.heap.size) st'->a'.defers=[]/\∃ v,(results fn a'.tmps).run P w'=.ok v w'/\∃ v' g',Ending.returned v=.returned v'/\Out ⟨P,0,w,0,g,mv⟩ [] g' w'/\ARep w' g' (.d (f w.heap.size)) v':=by
    rintro⟨x,d0,hx,hsn,hd⟩;obtain⟨v,hv,hrep⟩:=fE (P:=P) hs' hx;obtain⟨g2,h1,h2⟩:=hs'.endS;have h3:=h2 _ _ _ hrep hsn;exact⟨hs'.defers,v,hv,v,g2,rfl,h1,by cases h3 with|d _ _ q=>exact .d _ _ (hd _ _ _ q)⟩
  cases e with
  | normal=>exact fin hQ
  | ret=>exact fin hQ
  | _=>exact hQ.elim
theorem oW {f:Operand} {xs:Array Operand} {ts:Array TypeId} {F:FuncId} {ds:List D} {r:Nat->D} (hle:∀ m n,n<=m->DLe (r m) (r n)) (ho:o.op=.call { callee:=.value f,args:=xs,argTypes:=ts }) (hf:ev f=.d (.fn F)) (hx:xs.toList.map ev=ds.map .d) (hret:zV C.P F ds r):RdOk C o ev hp (.d (r C.w0.heap.size)):=by
  obtain⟨mv,hcb,hret⟩:=hret;intro st hhp hag g a w hs Q K' hK;have hfv:=hs.ev f;rw [hag f (by simp [ho,Op.operands,Call.operands]),hf] at hfv
  have hargs:Pw (ARep w (bW g.X)) (ds.map .d) (xs.map a.eval).toList:=by
    have:=xV (cs:=[]) (vs:=#[]) hs (λy hy=>hag y (by simp only [ho,Op.operands,Call.operands];exact Array.mem_append.2 (.inr hy))) hx ⟨rfl,λi x y h=>by simp at h⟩;simpa using this
  simp only [Oper.wp,cG ho (tT hfv) hcb,Oper.upon_enter,Array.append_empty];refine (hret w (bW g.X) _ (wY hs mv hs.Xlt) hargs).mono ?_;rintro e w' ⟨v,g',rfl,hout,hr⟩;have hX:∀ b,g'.X b->b < w.heap.size->g.X b:=λb hb hlt=>hout.Xold b hb hlt;have h1:=hs.after hout hX;rw [List.map_nil,List.append_nil] at h1;have h2:=hr.shift (n:=st.hp.length) hX;refine hK v w' _ h1 ?_;generalize hx2:(AV.d (r w.heap.size)).mapRef (shift st.hp.length)=x2 at h2;have e:x2=.d (r w.heap.size):=by rw [<- hx2];rfl
  subst e;cases h2 with|d _ _ q=>exact .d _ _ (hle _ _ hs.grown _ _ _ q)
theorem Sim.frzN {fr:Fr} {hp:List Blk} {g:Gh} {a:Act} {w:World} (hs:Sim C ⟨fr,hp⟩ g a w) (t i:Nat) (ks:List Nat) (hk:Nat.ble C.k i=true) (hks:((List.range C.k).all (aI hp))=true) (hal:aI hp i=true) {sz n ty:Nat} {es:List D} (ht:fr.get t=.msl i sz 0 n) (hb:hp[i]?=some (.flat ty sz es)) (hn:n=es.length):
    ∃ g',Sim C ⟨(t,.d (.own C.w0.heap.size ty sz es)) :: Fr.mapRef (frz i (.flat ty sz es) (aI hp)) (Fr.keep ks fr),(hp.map (Blk.mapRef (frz i (.flat ty sz es) (aI hp)))).set i .dead⟩ g' a w:=by
  have hB:hp.getD i .dead=.flat ty sz es:=by rw [zQD,hb];rfl
  have hki:=Nat.le_of_ble_eq_true hk;obtain⟨g',hs',hX1,hX2⟩:=hs.freezeX i hki hal (λj hj=>zQT.1 hks j (List.mem_range.2 hj));refine⟨g',?_⟩;simp only [St.freeze,hB] at hs';refine { hs' with fr:=λu=>?_ };have hu:=hs'.fr u;simp only [Fr.get];split
  · rename_i e
    subst e;have hv:=hs.fr t;rw [ht] at hv;subst hn;have hrow:=hs.hp i _ hb;generalize a.tmps.getD t undef=v at hv;generalize hlen:es.length=m at hv
    cases hv with
    | msl0 _ _ _ ad=>
      obtain rfl:es=[]:=List.eq_nil_of_length_eq_zero hlen;exact .d _ _ (.own0 _ _ _ _)
    | msl _ _ _ _ cap b hpb hc hpz=>
      subst hlen;rcases hrow with ⟨_,hno⟩|⟨b',cells,hp',hw,hpsi,hl,h0,h1,hr⟩
      · rw [hpb] at hno;cases hno
      cases hpb.symm.trans hp'
      have hN:C.w0.heap.size<=b:=by
        rcases Nat.lt_or_ge b C.w0.heap.size with h|h
        · have:=(hs.own i b hpb h).1;omega
        exact h
      have hval:∀ (k:Nat) (e:D) (j:Nat) (c:D),es[k]?=some e->e.cells[j]?=some c->cells[k * sz+j]?=some ((cells[k * sz+j]?).getD undef)/\DRep w g'.X c ((cells[k * sz+j]?).getD undef):=λk e j c he hj=>by
        obtain⟨u,hu,hd⟩:=hr k e j c he hj;rw [hu];exact⟨rfl,hd.mono hX2 λ_ _=>rfl⟩
      rw [Nat.zero_mul];exact .d _ _ (.own _ ty sz es b cap cells (λk j=>(cells[k * sz+j]?).getD undef) (hX1 b hpb) hN hw hc (by rw [hpsi] at hpz;simpa using hpz) h0 h1 (λk e j c he hj=>(hval k e j c he hj).1) λk e j c he hj=>(hval k e j c he hj).2)
  rw [Fr.get_mapRef];rcases Fr.get_keep fr ks u with e|e
  · rw [e,<- Fr.get_mapRef];exact hu
  rw [e];exact .junk _
theorem c_frzN {c:Code} {Q:Exit->St->Prop} {fr fr':Fr} {hp hp':List Blk} (t i:Nat) (ks:List Nat) (hk:Nat.ble C.k i=true) (hks:((List.range C.k).all (aI hp))=true) (hal:aI hp i=true) {sz n ty:Nat} {es:List D} (ht:fr.get t=.msl i sz 0 n) (hb:hp[i]?=some (.flat ty sz es)) (hn:n=es.length) (hf:Fr.mapRef (frz i (.flat ty sz es) (aI hp)) (Fr.keep ks fr)=fr') (hh:(hp.map (Blk.mapRef (frz i (.flat ty sz es) (aI hp)))).set i .dead=hp')
    (h:TWp C c ⟨(t,.d (.own C.w0.heap.size ty sz es)) :: fr',hp'⟩ Q):TWp C c ⟨fr,hp⟩ Q:=by
  intro g a w hs;subst hf hh;obtain⟨g',hs'⟩:=hs.frzN t i ks hk hks hal ht hb hn;exact h g' a w hs'
def memA:AV->Bool
  | .d x=>D.mem0 x
  | .junk|.und|.msl _ _ _ _=>true
  | _=>false
def Fr.pure:Fr->Fr
  | []=>[]
  | (k,v) :: r=>(k,bif memA v then v else .junk) :: Fr.pure r
theorem Fr.get_pure:∀ (fr:Fr) (u:Nat),Fr.get (Fr.pure fr) u=.junk\/(Fr.get (Fr.pure fr) u=Fr.get fr u/\memA (Fr.get fr u)=true)
  | [],_=>.inl rfl
  | (k,v) :: r,u=>by
    simp only [Fr.pure,Fr.get];split
    · cases hm:memA v with
      | true=>exact .inr ⟨rfl,rfl⟩
      | false=>exact .inl rfl
    exact Fr.get_pure r u
def Blk.pure:Blk->Blk
  | .flat ty sz es=>bif es.all λe=>e.cells.all D.mem0 then .flat ty sz es else .dead
  | _=>.dead
theorem Sim.thaw {fr : Fr} {hp : List Blk} {g : Gh} {a : Act} {w : World} (hs : Sim C ⟨fr, hp⟩ g a w) (t : Nat) {N ty sz : Nat} {es : List D} (hk : C.k = 0) (hN : C.w0.heap.size <= N) (ht : fr.get t = .d (.own N ty sz es)) (hes : (es.all fun e => e.cells.all D.mem0) = true) :
    ∃ g',Sim C ⟨(t,.msl hp.length sz 0 es.length) :: Fr.pure fr,hp.map Blk.pure++[.flat ty sz es]⟩ g' a w:=by
  have hv:=hs.fr t;rw [ht] at hv;have hall:∀ {fs:List D},(fs.all λe=>e.cells.all D.mem0)=true->∀ (k:Nat) (e:D) (j:Nat) (c:D),fs[k]?=some e->e.cells[j]?=some c->D.mem0 c=true:=λhf k e j c he hj=>zQT.1 (zQT.1 hf e (zQM he)) c (zQM hj);have hmem:=hall hes
  have hpure:∀ (g':Gh),(∀ i b,g.phi i=some b->g'.phi i=some b/\g'.psi i=g.psi i)->∀ (u:Nat),ARep w g' (Fr.get (Fr.pure fr) u) (a.tmps.getD u undef):=λg' hg u=>by
    rcases Fr.get_pure fr u with e|⟨e,hm⟩
    · rw [e];exact .junk _
    rw [e];have:=hs.fr u;generalize Fr.get fr u=x at this hm;generalize a.tmps.getD u undef=v0 at this
    cases this with
    | d d v h=>exact .d _ _ (h.any hm)
    | junk=>exact .junk _
    | und=>exact .und
    | msl0=>exact .msl0 _ _ _ _
    | msl id sz off len cap b hb hc hp=>exact .msl id sz off len cap b (hg _ _ hb).1 hc (by rw [(hg _ _ hb).2];exact hp)
    | _=>cases hm
  have hblk:∀ (g':Gh),(∀ i,i < hp.length->g'.phi i=g.phi i/\g'.psi i=g.psi i)->∀ (i:Nat) (B:Blk),(hp.map Blk.pure)[i]?=some B->BRep w g' i B:=λg' hg i B h=>by
    rw [zQP,zQO] at h;obtain⟨B0,hB0,rfl⟩:=h;have hi:i < hp.length:=(zQQ.1 hB0).1;have hr:=hs.hp i B0 hB0
    cases B0 with
    | flat ty' sz' fs=>
      simp only [Blk.pure]
      cases hf:fs.all λe=>e.cells.all D.mem0 with
      | false=>trivial
      | true=>
        rcases hr with ⟨h0,h1⟩|⟨b,cells,h0,h1,h2,h3,h4,h5,h6⟩
        · exact .inl ⟨h0,by rw [(hg i hi).1];exact h1⟩
        refine .inr ⟨b, cells, by rw [(hg i hi).1]; exact h0, h1, by rw [(hg i hi).2]; exact h2, h3, h4, h5, fun k e j c he hj => ?_⟩;obtain⟨v,hv,hd⟩:=h6 k e j c he hj;exact⟨v,hv,hd.any (hall hf k e j c he hj)⟩
    | _=>trivial
  have hlen:(hp.map Blk.pure).length=hp.length:=zQC _
  have hdead:∀ (i:Nat) (B:Blk),(hp.map Blk.pure)[i]?=some B->B≠.dead->∃ B0,hp[i]?=some B0/\B0≠.dead:=λi B h hB=>by
    rw [zQP,zQO] at h;obtain⟨B0,hB0,rfl⟩:=h;exact⟨B0,hB0,λe=>hB (by rw [e];rfl)⟩
  generalize hvt:a.tmps.getD t undef=v at hv
  cases hv with
  | d _ _ hv=>
  cases hv with
  | own0 _ _ _ ad=>
    refine⟨{ phi:=g.phi,psi:=g.psi,X:=λ_=>False },?_⟩
    exact { defers := hs.defers, size := hs.size, os := hs.os, tape := hs.tape, output := hs.output, drawn := hs.drawn, grown := hs.grown, laid := hs.laid, keep := hs.keep
            fr := fun u => by
              simp only [Fr.get];split
              · rename_i e; subst e; rw [hvt]; exact .msl0 _ _ _ _
              exact hpure { phi := g.phi, psi := g.psi, X := fun _ => False } (fun _ _ h => ⟨h, rfl⟩) u
            hp := fun i B h => by
              rw [List.getElem?_append] at h;split at h
              · exact hblk { phi := g.phi, psi := g.psi, X := fun _ => False } (fun _ _ => ⟨rfl, rfl⟩) i B h
              rename_i hge;rw [hlen] at h hge
              cases hi : i - hp.length with
              | zero =>
                rw [hi] at h; cases h;refine .inl ⟨rfl, ?_⟩
                cases hq : g.phi i with
                | none => rfl
                | some b => exact absurd (hs.lt i b hq).2.1 (by simp only; omega)
              | succ j => rw [hi] at h; simp at h
            lt := fun i b h => ⟨(hs.lt i b h).1, by have := (hs.lt i b h).2.1; simp only at this; simp only [zQL, zQC, List.length_cons, List.length_nil]; omega, fun q => q⟩
            inj := fun i j b Bi Bj hi hj hBi hBj h h' => by
              have h1 := (hs.lt i b h).2.1;have h2 := (hs.lt j b h').2.1;simp only at h1 h2;rw [List.getElem?_append, if_pos (by rw [hlen]; exact h1)] at hi;rw [List.getElem?_append, if_pos (by rw [hlen]; exact h2)] at hj;obtain ⟨Ci, hi, hCi⟩ := hdead i Bi hi hBi;obtain ⟨Cj, hj, hCj⟩ := hdead j Bj hj hBj;exact hs.inj i j b Ci Cj hi hj hCi hCj h h'
            Xlt := fun b h => h.elim
            Xold := fun b h => h.elim
            own := fun i b h hlt => hs.own i b h hlt
            stay := fun i b hi => by rw [hk] at hi; exact absurd hi (zQV i)
            kle := by rw [hk]; exact Nat.zero_le _ }
  | own _ _ _ _ b cap cells val hX hNb hw hc hp2 hs1 h1 hv hr=>
    have hnew:∀ i c,g.phi i=some c->i≠hp.length:=λi c h e=>by have:=(hs.lt i c h).2.1;simp only at this;omega
    refine⟨{ phi:=λi=>if i=hp.length then some b else g.phi i,psi:=λi=>if i=hp.length then cells.size else g.psi i,X:=λ_=>False },?_⟩
    have hagree:∀ i c,g.phi i=some c->(if i=hp.length then some b else g.phi i)=some c/\(if i=hp.length then cells.size else g.psi i)=g.psi i:=λi c h=>by
      rw [if_neg (hnew i c h),if_neg (hnew i c h)];exact⟨h,rfl⟩
    exact { defers := hs.defers, size := hs.size, os := hs.os, tape := hs.tape, output := hs.output, drawn := hs.drawn, grown := hs.grown, laid := hs.laid, keep := hs.keep
            fr := fun u => by
              simp only [Fr.get];split
              · rename_i e
                subst e;rw [hvt];have := ARep.msl (w := w) (g := { phi := fun i => if i = hp.length then some b else g.phi i, psi := fun i => if i = hp.length then cells.size else g.psi i, X := fun _ => False }) hp.length sz 0 es.length cap b (by simp) hc (by simpa using hp2);simpa using this
              exact hpure _ hagree u
            hp := fun i B h => by
              rw [List.getElem?_append] at h;split at h
              · rename_i hlt
                rw [hlen] at hlt;exact hblk _ (fun i hi => by simp only; rw [if_neg (by omega), if_neg (by omega)]; exact ⟨rfl, rfl⟩) i B h
              rename_i hlt;rw [hlen] at h hlt
              cases hi : i - hp.length with
              | zero =>
                rw [hi] at h;cases h;have hi2 : i = hp.length := by omega
                refine .inr ⟨b, cells, by simp [hi2], hw, by simp [hi2], ?_, hs1, h1, fun k e j c he hj => ⟨_, hv k e j c he hj, (hr k e j c he hj).any (hmem k e j c he hj)⟩⟩;exact Nat.le_trans (Nat.mul_le_mul_right sz hc) hp2
              | succ j => rw [hi] at h; simp at h
            lt := fun i c h => by
              simp only at h;simp only [zQL, zQC, List.length_cons, List.length_nil];split at h
              · rename_i e
                cases h;exact ⟨(Array.getElem?_eq_some_iff.1 hw).1, by omega, fun q => q⟩
              have := (hs.lt i c h);exact ⟨this.1, by have := this.2.1; simp only at this; omega, fun q => q⟩
            inj := fun i j c Bi Bj hi hj hBi hBj h h' => by
              simp only at h h';split at h
              · split at h'
                · rename_i e1 e2; rw [e1, e2]
                cases h; exact absurd hX (hs.lt j _ h').2.2
              split at h'
              · cases h'; exact absurd hX (hs.lt i _ h).2.2
              have h1 := (hs.lt i c h).2.1;have h2 := (hs.lt j c h').2.1;simp only at h1 h2;rw [List.getElem?_append, if_pos (by rw [hlen]; exact h1)] at hi;rw [List.getElem?_append, if_pos (by rw [hlen]; exact h2)] at hj;obtain ⟨Ci, hi, hCi⟩ := hdead i Bi hi hBi;obtain ⟨Cj, hj, hCj⟩ := hdead j Bj hj hBj;exact hs.inj i j c Ci Cj hi hj hCi hCj h h'
            Xlt := fun b h => h.elim
            Xold := fun b h => h.elim
            own := fun i c h hlt => by
              simp only at h;split at h
              · cases h; omega
              exact hs.own i c h hlt
            stay := fun i b hi => by rw [hk] at hi; exact absurd hi (zQV i)
            kle := by rw [hk]; exact Nat.zero_le _ }
theorem s_thaw {ops : Array Oper} {l : List Oper} {K : St -> Prop} {fr fr' : Fr} {hp hp' : List Blk} (t : Nat) {N ty sz : Nat} {es : List D} (hk : C.k = 0) (hN : C.w0.heap.size <= N) (ht : fr.get t = .d (.own N ty sz es)) (hes : (es.all fun e => e.cells.all D.mem0) = true) (hf : Fr.pure fr = fr') (hh : hp.map Blk.pure ++ [.flat ty sz es] = hp')
    (h:aH C ops l ⟨(t,.msl hp.length sz 0 es.length) :: fr',hp'⟩ K):aH C ops l ⟨fr,hp⟩ K:=by
  intro g a w hs;subst hf hh;obtain⟨g',hs'⟩:=hs.thaw t hk hN ht hes;exact h g' a w hs'
end Go.TL
