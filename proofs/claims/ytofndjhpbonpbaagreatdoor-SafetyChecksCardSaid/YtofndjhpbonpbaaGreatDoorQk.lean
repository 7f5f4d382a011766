/- Texts of this proof, joined, without what it does not use. No condition. -/
import Derived.Laws.Small
import Derived.Test.YtofndjhpbonpbaaGreatDoorQj

namespace Go.TL
variable {C:Ctx} {st:St} {g:Gh} {a:Act} {w:World} {P:Program}
def qEE:D->Option (FuncId×List D)
  | .fn F=>some (F,[])
  | .clo F cs=>some (F,cs)
  | _=>none
theorem qAJ {c:D} {F:FuncId} {cs:List D} {X:Nat->Prop} {v:Value} (h:DRep w X c v) (hc:qEE c=some (F,cs)):∃ vs:Array Value,v=.func (.func F) #[] vs/\Pw (DRep w X) cs vs.toList:=by
  cases h with
  | fn f=>cases hc;exact⟨#[],rfl,rfl,λi x y h=>by simp at h⟩
  | clo f cs vs hl h=>cases hc;exact⟨vs,rfl,by simpa using hl,λi x y hx hy=>h i x y hx (by simpa using hy)⟩
  | _=>cases hc
theorem Out.frozen {hp':List Blk} {g':Gh} {w':World} {mv:Nat->Bool} (hs:Sim C st g a w) (hout:Out ⟨C.P,0,w,0,cS g.X,mv⟩ hp' g' w'):
    ∃ g2,Sim C st g2 a w'/\∀ (r:AV) (d:D) (v:Value),ARep w' g' r v->Snap hp' r d->ARep w' g2 (.d d) v:=by
  have hX:∀ b,g'.X b->b < w.heap.size->g.X b:=λb hb hlt=>hout.Xold b hb hlt;have hold:∀ b,b < w.heap.size->w'.heap[b]?=w.heap[b]?:=λb hb=>hout.keep b hb λi hi=>absurd hi (Nat.not_lt_zero i);have hsz:=hout.grown;simp only at hsz
  let g2:Gh:={ g with X:=λb=>g.X b\/(w.heap.size<=b/\b < w'.heap.size) }
  have hgr:Grow w g w' g2:=⟨λ_ _ h=>h,λ_ _ _=>rfl,λ_ h=>.inl h,λb hb=>hold b (hs.Xlt b hb)⟩;refine⟨g2,?_,λr d v hr hsn=>(.d _ _ (lN (st:=⟨[],hp'⟩) hout.hp hsn (Y:=g2.X) (λb hb=>?_) (λi b hp=>?_) hr))⟩
  · refine { defers := hs.defers, size := hs.size, fr := fun t => (hs.fr t).mono hgr, hp := fun i B hB => (hs.hp i B hB).mono hgr id fun b hb => hold b (hs.lt i b hb).1, lt := ?_, inj := hs.inj, Xlt := ?_, Xold := ?_
             os := hout.os.trans hs.os, tape := hout.tape.trans hs.tape, output := hout.output.trans hs.output, drawn := Nat.le_trans hs.drawn hout.drawn, grown := Nat.le_trans hs.grown hsz, keep := ?_, own := hs.own, stay := hs.stay, kle := hs.kle, laid := hs.laid }
    · intro i b hp
      have:=hs.lt i b hp;refine⟨by omega,this.2.1,λhX=>?_⟩;rcases hX with hX|⟨hX,_⟩
      · exact this.2.2 hX
      omega
    · intro b hb
      rcases hb with hb|⟨_,hb⟩
      · have:=hs.Xlt b hb;omega
      exact hb
    · intro b hb hlt
      rcases hb with hb|⟨hge,_⟩
      · exact hs.Xold b hb hlt
      have:=hs.grown;omega
    intro b hb hk;rw [hold b (by have:=hs.grown;omega)];exact hs.keep b hb hk
  · by_cases hlt:b < w.heap.size
    · exact .inl (hX b hb hlt)
    exact .inr ⟨by omega,hout.Xlt b hb⟩
  refine .inr ⟨?_,(hout.lt i b hp).1⟩;rcases Nat.lt_or_ge b w.heap.size with hlt|hge
  · exact absurd (hout.own i b hp hlt).1 (Nat.not_lt_zero _)
  exact hge
inductive SnapT (hp:List Blk):AV->List D->Prop
  | mk (xs:List AV) (ds:List D) (h:yG hp xs ds):SnapT hp (.tup xs) ds
def RetT (P:Program) (F:FuncId) (ds:List D) (rs:List D):Prop:=∃ mv r hp',Ret P F [] mv (ds.map .d) r hp'/\SnapT hp' r rs
theorem qVD {ev:Operand->AV} {xs:Array Operand} {ds cs:List D} {vs:Array Value} (hs:Sim C st g a w) (hag:∀ y∈xs,st.fr.ev y=ev y) (hx:xs.toList.map ev=ds.map .d) (hc:Pw (DRep w g.X) cs vs.toList):
    Pw (ARep w (cS g.X)) ((ds++cs).map .d) (xs.map a.eval++vs).toList:=by
  rw [List.map_append,Array.toList_append];refine Pw.append ?_ ?_
  · refine ⟨by have := congrArg List.length hx; simpa using this.symm, fun i x v hxi hv => ?_⟩
    simp only [Array.toList_map,List.getElem?_map,Option.map_eq_some_iff] at hv;obtain⟨y,hy,rfl⟩:=hv;have h1:(xs.toList.map ev)[i]?=some (ev y):=by simp [hy]
    rw [hx,hxi] at h1;cases h1;have h2:=hs.ev y;rw [hag y (Array.mem_toList_iff.1 (List.mem_of_getElem? hy))] at h2;simp only [List.getElem?_map,Option.map_eq_some_iff] at hxi;obtain⟨d,_,hd⟩:=hxi;rw [<- hd] at h2 ⊢;cases h2 with|d _ _ h=>exact .d _ _ h
  refine ⟨by simpa using hc.1, fun i x v hxi hv => ?_⟩;simp only [List.getElem?_map,Option.map_eq_some_iff] at hxi;obtain⟨d,hd,rfl⟩:=hxi;exact .d _ _ (hc.2 i d v hd hv)
section calls
variable {o:Oper} {ev:Operand->AV} {hp:List Blk} {f:Operand} {xs:Array Operand} {ts:Array TypeId} {F:FuncId}
theorem vL {c:D} {cs ds:List D} {d:D} (ho:o.op=.call { callee:=.value f,args:=xs,argTypes:=ts }) (hf:ev f=.d c) (hc:qEE c=some (F,cs)) (hx:xs.toList.map ev=ds.map .d) (hret:RetD C.P F (ds++cs) d):RdOk C o ev hp (.d d):=by
  obtain⟨mv,r,hp',hret,hsn⟩:=hret;intro st hhp hag g a w hs Q K' hK;have hfv:=hs.ev f;rw [hag f (by simp [ho,Op.operands,Call.operands]),hf] at hfv
  obtain⟨vs,hv,hvs⟩:∃ vs:Array Value,a.eval f=.func (.func F) #[] vs/\Pw (DRep w g.X) cs vs.toList:=by
    cases hfv with|d _ _ h=>exact qAJ h hc
  have hargs:=qVD hs (λy hy=>hag y (by simp only [ho,Op.operands,Call.operands];exact Array.mem_append.2 (.inr hy))) hx hvs;simp only [Oper.wp,dN ho hv hret.1,Oper.upon_enter];refine (hret.2 w (cS g.X) _ (qPE hs mv hs.Xlt) hargs).mono ?_;rintro e w' ⟨v,g',rfl,hout,hr⟩;obtain⟨g2,h1,h2⟩:=Out.frozen hs hout;exact hK v w' g2 h1 (h2 _ _ _ hr hsn)
theorem qWR {c:D} {cs ds rs:List D} (ho:o.op=.call { callee:=.value f,args:=xs,argTypes:=ts }) (hf:ev f=.d c) (hc:qEE c=some (F,cs)) (hx:xs.toList.map ev=ds.map .d) (hret:RetT C.P F (ds++cs) rs):RdOk C o ev hp (.tup (rs.map .d)):=by
  obtain⟨mv,r,hp',hret,hsn⟩:=hret;intro st hhp hag g a w hs Q K' hK;have hfv:=hs.ev f;rw [hag f (by simp [ho,Op.operands,Call.operands]),hf] at hfv
  obtain⟨vs,hv,hvs⟩:∃ vs:Array Value,a.eval f=.func (.func F) #[] vs/\Pw (DRep w g.X) cs vs.toList:=by
    cases hfv with|d _ _ h=>exact qAJ h hc
  have hargs:=qVD hs (λy hy=>hag y (by simp only [ho,Op.operands,Call.operands];exact Array.mem_append.2 (.inr hy))) hx hvs;simp only [Oper.wp,dN ho hv hret.1,Oper.upon_enter];refine (hret.2 w (cS g.X) _ (qPE hs mv hs.Xlt) hargs).mono ?_;rintro e w' ⟨v,g',rfl,hout,hr⟩
  cases hsn with
  | mk ys ds' hsn=>
    cases hr with
    | tup _ us hl hr=>
      obtain⟨g2,h1,h2⟩:=Out.frozen hs hout;refine hK _ w' g2 h1 (.tup _ us (by rw [List.length_map,<- hsn.1];exact hl) λi c u hci hu=>?_);simp only [List.getElem?_map,Option.map_eq_some_iff] at hci;obtain⟨d,hd,rfl⟩:=hci;have hi:i < ys.length:=by rw [hsn.1];exact (List.getElem?_eq_some_iff.1 hd).1
      exact h2 _ _ _ (hr i ys[i] u (by simp [hi]) hu) (hsn.2 i ys[i] d (by simp [hi]) hd)
end calls
def qYA (P:Program) (t:TypeId):Bool:=
  match P.underlying t with
  | some (.interface _)=>false
  | some _=>true
  | none=>false
theorem qQN {t:TypeId} (h:qYA P t=true):∃ u,P.underlying t=some u/\∀ ms,u≠.interface ms:=by
  unfold qYA at h;split at h
  · cases h
  · rename_i u hne hu;exact⟨u,hu,λms e=>hne ms e⟩
  cases h
section ifc
variable {o:Oper} {ev:Operand->AV} {hp:List Blk} {x y:Operand} {t:TypeId}
theorem qSI {d:D} (ho:o.op=.makeInterface t x) (hc:qYA C.P t=true) (hx:ev x=.d d):RdOk C o ev hp (.d (.iface t d)):=
  RdOk.mk λst hhp hag g a w hs=>by
    have h:=hs.ev x;rw [hag x (by simp [ho,Op.operands]),hx] at h;obtain⟨u,hu,hne⟩:=qQN hc;refine⟨.iface t (a.eval x),?_,.d _ _ (.iface _ _ _ (by cases h with|d _ _ h=>exact h))⟩;simp only [execOp,ho];cases u<;>first|(exfalso;exact hne _ rfl)|simp [Instr.makeInterface,run_underlying hu]
theorem qLU {xt:TypeId} {d:D} (ho:o.op=.typeAssert x xt t true) (hc:qYA C.P t=true) (hx:ev x=.d (.iface t d)):RdOk C o ev hp (.tup [.d d,.d (.bool true)]):=
  RdOk.mk λst hhp hag g a w hs=>by
    have h:=hs.ev x;rw [hag x (by simp [ho,Op.operands]),hx] at h;generalize he:a.eval x=vx at *;obtain⟨u,hu,hne⟩:=qQN hc
    cases h with
    | d _ _ h=>
      cases h with
      | iface _ _ v h=>
        refine⟨.tuple #[v,.bool true],?_,.tup _ _ rfl λi c v hc hv=>?_⟩
        · simp only [execOp,ho,he]
          cases u<;>first|(exfalso;exact hne _ rfl)|simp [Instr.typeAssert,run_underlying hu]
        match i,hc,hv with
        | 0,hc,hv=>simp at hc hv;subst hc hv;exact .d _ _ h
        | 1,hc,hv=>simp at hc hv;subst hc hv;exact .d _ _ (.bool true)
        | i+2,hc,_=>simp at hc
theorem qHX {t:TypeId} {z:Value} (hz:(P.info? t).bind (·.zero)=some z) (w:World):(zeroValue t).run P w=.ok z w:=by
  obtain⟨i,hi,hzi⟩:=pJ hz;simp [zeroValue,typeInfo,hi,hzi]
theorem qWM {t e:TypeId} (hu:P.underlying t=some (.slice e)) (b:Option Addr) (n cap:Nat) (w:World):(binOp .eql t (.slice b n cap) (.slice none 0 0)).run P w=.ok (.bool b.isNone) w:=by
  have h:(Op.equalIn (9999+1) t (.slice b n cap) (.slice none 0 0)).run P w=.ok b.isNone w:=by
    unfold Op.equalIn;cases b<;>simp [run_underlying hu]
  have h':(Op.equal t (.slice b n cap) (.slice none 0 0)).run P w=.ok b.isNone w:=h;simp [binOp,h']
theorem zBN {op:BinOp} {t:TypeId} {b b':Option Addr} {n n' cap cap':Nat} (w:World):(eqGuard op t x y (.slice b n cap) (.slice b' n' cap')).run P w=.ok () w:=by
  unfold eqGuard;cases op<;>simp
theorem eqNil {o:Oper} {K:St->Prop} {t t' e:TypeId} {x y:Operand} {d:D} {n:Nat} (ho:o.op=.binOp .eql t x y t') (hd:qT C.n o.dst=true) (hu:C.P.underlying t=some (.slice e)) (hx:st.fr.ev x=.d d) (hn:(AV.d d).slLen=some n) (hy:st.fr.ev y=.d .nilsl) (hy':y=.const (.slice none 0 0))
    (h:∀ b:Bool,(b=true->n=0)->K (st.put o.dst (.d (.bool b)))):OpOk C o st K:=by
  subst hy';intro g a w Q hs;have hv:=hs.ev x;rw [hx] at hv
  obtain⟨b,len,cap,hv,hb⟩:∃ b len cap,a.eval x=.slice b len cap/\(b.isNone=true->n=0):=by
    generalize a.eval x=v at *
    cases hv with
    | d _ _ h=>
      cases h with
      | nilsl ad=>exact⟨_,_,_,rfl,λ_=>by simpa [AV.slLen] using hn.symm⟩
      | sl0=>exact⟨_,_,_,rfl,λ_=>by simpa [AV.slLen] using hn.symm⟩
      | sl=>exact⟨_,_,_,rfl,λh=>by cases h⟩
      | _=>cases hn
  have hr:(execOp a.eval o).run C.P w=.ok (.value (.bool b.isNone)) w:=by
    have he:a.eval (.const (.slice none 0 0))=.slice none 0 0:=rfl;simp only [execOp,ho,hv,he,Sem.run_bind,zBN,Result.andThen_ok,qWM hu];rfl
  simp only [Oper.wp,hr,Oper.upon_value];exact⟨_,g,h _ hb,hs.put' hd (.d _ _ (.bool _))⟩
theorem rd_min {o:Oper} {ev:Operand->AV} {hp:List Blk} {x y:Operand} {ts:Array TypeId} {k:IntKind} {m n r:Int} (ho:o.op=.call { callee:=.builtin .min,args:=#[x,y],argTypes:=ts }) (hx:ev x=.d (.int k m)) (hy:ev y=.d (.int k n)) (hr:min m n=r):RdOk C o ev hp (.d (.int k r)):=
  RdOk.mk λst hhp hag g a w hs=>by
    have h:=hs.ev x;rw [hag x (by simp [ho,Op.operands,Call.operands]),hx] at h;have hi:=hs.ev y;rw [hag y (by simp [ho,Op.operands,Call.operands]),hy] at hi;refine⟨.int k r,?_,.d _ _ (.int k r)⟩;subst hr;simp only [execOp,ho];simp [resolve,invoke,builtin,int_inv h,int_inv hi,run_min_int2];simp only [Int.min_def];split<;>split<;>first|rfl|omega
theorem rd_max {o:Oper} {ev:Operand->AV} {hp:List Blk} {x y:Operand} {ts:Array TypeId} {k:IntKind} {m n r:Int} (ho:o.op=.call { callee:=.builtin .max,args:=#[x,y],argTypes:=ts }) (hx:ev x=.d (.int k m)) (hy:ev y=.d (.int k n)) (hr:max m n=r):RdOk C o ev hp (.d (.int k r)):=
  RdOk.mk λst hhp hag g a w hs=>by
    have h:=hs.ev x;rw [hag x (by simp [ho,Op.operands,Call.operands]),hx] at h;have hi:=hs.ev y;rw [hag y (by simp [ho,Op.operands,Call.operands]),hy] at hi;refine⟨.int k r,?_,.d _ _ (.int k r)⟩;subst hr;simp only [execOp,ho];simp [resolve,invoke,builtin,int_inv h,int_inv hi,run_max_int2];simp only [Int.max_def];split<;>split<;>first|rfl|omega
end ifc
def qTF (P:Program) (s:TypeId) (f:Nat):Option (Nat×Bool×Nat):=
  match P.underlying s with
  | some (.struct fs)=>match fs[f]? with
    | some fl=>match lay P fl.type with
      | some (b,n)=>some (fl.offset,b,n)
      | none=>none
    | none=>none
  | _=>none
theorem qWQ {o:Oper} {ev:Operand->AV} {hp:List Blk} {s:TypeId} {x:Operand} {f fo n:Nat} {u v:AV} (ho:o.op=.field s x f) (hf:qTF C.P s f=some (fo,false,n)) (hx:ev x=u) (hagg:u.isAgg=true) (hv:u.cells[fo]?=some v):RdOk C o ev hp v:=by
  unfold qTF at hf;split at hf
  · rename_i fs hu
    split at hf
    · rename_i fl hfl
      split at hf
      · rename_i b n' hl
        cases hf;exact qOR _ _ false _ u v fs fl ho hu hfl rfl rfl hl hx hagg (by simpa using hv)
      cases hf
    cases hf
  cases hf
theorem qSK {o:Oper} {ev:Operand->AV} {hp:List Blk} {s:TypeId} {x:Operand} {f fo n:Nat} {u v:AV} (ho:o.op=.field s x f) (hf:qTF C.P s f=some (fo,true,n)) (hx:ev x=u) (hagg:u.isAgg=true) (hle:Nat.ble (fo+n) u.cells.length=true) (hv:rP ((u.cells.drop fo).take n)=v):RdOk C o ev hp v:=by
  unfold qTF at hf;split at hf
  · rename_i fs hu
    split at hf
    · rename_i fl hfl
      split at hf
      · rename_i b n' hl
        cases hf;exact qOR _ _ true _ u v fs fl ho hu hfl rfl rfl hl hx hagg ⟨Nat.le_of_ble_eq_true hle,hv.symm⟩
      cases hf
    cases hf
  cases hf
def Blk.isLp:Blk->Bool
  | .lp ..=>true
  | _=>false
def Blk.alive:Blk->Bool
  | .dead=>false
  | _=>true
def frz (i:Nat) (B:Blk) (al:Nat->Bool):AV->AV
  | .mptr j s x o => if j = i then (match B with
      | .box _ cs => if s = 0 /\ x = 0 then (match qYJ cs with | some ds => .d (.ptr (.agg ds) o) | none => .junk) else .junk
      | .flat _ sz es => if s = sz then (match es[x]? with | some e => .d (.ptr e o) | none => .junk) else .junk
      | _ => .junk) else if al j then .mptr j s x o else .junk
  | .msl j s o l => if j = i then (match B with
      | .flat _ sz es => if s = sz /\ o + l <= es.length then .d (.sl sz ((es.drop o).take l)) else .junk
      | _ => .junk) else if al j then .msl j s o l else .junk
  | .mmap j=>if j=i then .junk else if al j then .mmap j else .junk
  | .yld j=>if j=i then .junk else if al j then .yld j else .junk
  | .mmapN j n=>if j=i then .junk else if al j then .mmapN j n else .junk
  | v=>v
def cD (hp:List Blk) (j:Nat):Bool:=(hp.getD j .dead).alive
def St.freeze (i:Nat) (st:St):St:=
  ⟨Fr.mapRef (frz i (st.hp.getD i .dead) (cD st.hp)) st.fr,(st.hp.map (Blk.mapRef (frz i (st.hp.getD i .dead) (cD st.hp)))).set i .dead⟩
theorem eN {hp:List Blk} {j:Nat} (h:cD hp j=true):∃ B,hp[j]?=some B/\B≠.dead:=by
  unfold cD at h
  cases hB:hp[j]? with
  | none=>rw [List.getD_eq_getElem?_getD,hB] at h;cases h
  | some B=>exact⟨B,rfl,λe=>by subst e;rw [List.getD_eq_getElem?_getD,hB] at h;cases h⟩
theorem Sim.freeze (h:Sim C st g a w) (i:Nat) (hk:C.k<=i) (hal:cD st.hp i=true) (hks:∀ j,j < C.k->cD st.hp j=true):∃ g',Sim C (st.freeze i) g' a w:=by
  obtain⟨B,hB,hBd⟩:=eN hal;have hgB:st.hp.getD i .dead=B:=by rw [List.getD_eq_getElem?_getD,hB];rfl
  have hil:i < st.hp.length:=(List.getElem?_eq_some_iff.1 hB).1
  let g':Gh:={ phi:=λj=>if g.phi j=g.phi i then none else g.phi j,psi:=g.psi,X:=λb=>g.X b\/g.phi i=some b }
  have hphi:∀ j b,g'.phi j=some b->g.phi j=some b/\g.phi i≠some b:=by
    intro j b hp;simp only [g'] at hp;split at hp
    · cases hp
    rename_i hne;exact⟨hp,λe=>hne (hp.trans e.symm)⟩
  have keep:∀ j b,cD st.hp j=true->j≠i->g.phi j=some b->g'.phi j=some b:=by
    intro j b ha hne hp;obtain⟨Bj,hBj,hBjd⟩:=eN ha;simp only [g'];rw [if_neg]
    · exact hp
    intro e;exact hne (h.inj j i b Bj B hBj hB hBjd hBd hp (e ▸ hp))
  have hX:∀ b,g.X b->g'.X b:=λb hb=>.inl hb;have hD:∀ (d:D) (v:Value),DRep w g.X d v->DRep w g'.X d v:=λd v hd=>hd.mono hX λ_ _=>rfl
  let g1:Gh:={ phi:=λj=>if j=i then g.phi i else none,psi:=g.psi,X:=g.X }
  let hp1:List Blk:=(List.replicate st.hp.length Blk.dead).set i B
  have hp1i:hp1[i]?=some B:=by simp [hp1,hil]
  have hY:∀ j b,g1.phi j=some b->g'.X b:=by
    intro j b hp;simp only [g1] at hp;split at hp
    · exact .inr hp
    cases hp
  have hrep:(∀ ty cs,B=.box ty cs->∃ ds,qYJ cs=some ds)/\B.isLp=false->∀ (j:Nat) (Bj:Blk),hp1[j]?=some Bj->BRep w g1 j Bj:=by
    intro ⟨hdat,hnl⟩ j Bj hj;by_cases hji:j=i
    · subst hji
      rw [hp1i] at hj;cases hj;have h0:=h.hp j B hB
      cases B with
      | dead=>trivial
      | hole=>
        have h0:g.phi j=none:=h0;show g1.phi j=none;simpa [g1] using h0
      | flat ty sz es=>
        rcases h0 with ⟨he,hp⟩|⟨b,cells,hp,hw,hs,hl,h0,h1,hr⟩
        · exact .inl ⟨he,by simpa [g1] using hp⟩
        exact .inr ⟨b,cells,by simpa [g1] using hp,hw,hs,hl,h0,h1,hr⟩
      | box ty cs=>
        obtain⟨b,cells,hp,hw,hs,hl,hr⟩:=h0;obtain⟨ds,hds⟩:=hdat ty cs rfl;obtain⟨rfl,_⟩:=xG cs ds hds;refine⟨b,cells,by simpa [g1] using hp,hw,hs,hl,λjj c v hc hv=>?_⟩;have:=hr jj c v hc hv;simp only [List.getElem?_map,Option.map_eq_some_iff] at hc;obtain⟨d,_,rfl⟩:=hc;cases this with|d _ _ hd=>exact .d _ _ hd
      | map kt vt es=>
        rcases h0 with ⟨he,hp⟩|⟨b,ents,clock,hp,hw,hs,hr⟩
        · exact .inl ⟨he,by simpa [g1] using hp⟩
        exact .inr ⟨b,ents,clock,by simpa [g1] using hp,hw,hs,hr⟩
      | ob q=>obtain⟨b,hp,hw⟩:=h0;exact⟨b,by simpa [g1] using hp,hw⟩
      | lp=>cases hnl
    simp only [hp1] at hj;rw [List.getElem?_set_ne (λe=>hji e.symm),List.getElem?_replicate] at hj;split at hj
    · cases hj;trivial
    cases hj
  have hF:∀ (x:AV) (v:Value),ARep w g x v->x.isRef=true->ARep w g' (frz i (st.hp.getD i .dead) (cD st.hp) x) v:=by
    intro x v hx hr;rw [hgB]
    cases hx with
    | msl0 j s o ad=>
      simp only [frz];split
      · cases B with
        | flat ty sz es=>
          simp only;split
          · simp only [List.take_zero];exact .d _ _ (.sl0 _ _ _)
          exact .junk _
        | _=>exact .junk _
      split
      · exact .msl0 _ _ _ _
      exact .junk _
    | msl j s o l cap b hb hc hp=>
      simp only [frz];split
      · rename_i hji
        subst hji
        cases B with
        | flat ty sz es=>
          simp only;split
          · rename_i hh
            obtain⟨rfl,hle⟩:=hh;exact .d _ _ (lN (st:=⟨[],hp1⟩) (g:=g1) (hrep ⟨λ_ _ e=>(by cases e),rfl⟩) (Snap.msl j s o l ty es hp1i hle) hX hY (.msl j s o l cap b (by simpa [g1] using hb) hc hp))
          exact .junk _
        | _=>exact .junk _
      rename_i hne;split
      · rename_i hal'
        exact .msl _ _ _ _ _ b (keep j b hal' hne hb) hc hp
      exact .junk _
    | mptr j s x o b hb=>
      simp only [frz];split
      · rename_i hji
        subst hji
        cases B with
        | flat ty sz es=>
          simp only;split
          · rename_i hs
            subst hs;split
            · rename_i e he
              exact .d _ _ (lN (st:=⟨[],hp1⟩) (g:=g1) (hrep ⟨λ_ _ e=>(by cases e),rfl⟩) (Snap.mptrF j s x o ty es e hp1i he) hX hY (.mptr j s x o b (by simpa [g1] using hb)))
            exact .junk _
          exact .junk _
        | box ty cs=>
          simp only;split
          · rename_i hh
            obtain⟨rfl,rfl⟩:=hh;split
            · rename_i ds hds
              obtain⟨hcs,h1⟩:=xG cs ds hds
              exact .d _ _ (lN (st := ⟨[], hp1⟩) (g := g1) (hrep ⟨fun _ _ e => (by cases e; exact ⟨ds, hds⟩), rfl⟩) (Snap.mptrB j o ty cs ds hp1i (by rw [hcs]; simp) h1 (fun i c d hc hd => by
                rw [hcs] at hc;simp only [List.getElem?_map, hd, Option.map_some, Option.some.injEq] at hc
                subst hc; exact .d d)) hX hY (.mptr j 0 0 o b (by simpa [g1] using hb)))
            exact .junk _
          exact .junk _
        | _=>exact .junk _
      rename_i hne;split
      · rename_i hal';exact .mptr _ _ _ _ b (keep j b hal' hne hb)
      exact .junk _
    | mmap j b hb=>
      simp only [frz];split
      · exact .junk _
      rename_i hne;split
      · rename_i hal';exact .mmap _ b (keep j b hal' hne hb)
      exact .junk _
    | yld j b hb=>
      simp only [frz];split
      · exact .junk _
      rename_i hne;split
      · rename_i hal';exact .yld _ b (keep j b hal' hne hb)
      exact .junk _
    | mmapN0 j=>
      simp only [frz];split
      · exact .junk _
      split
      · exact .mmapN0 _
      exact .junk _
    | mmapN j n b hb=>
      simp only [frz];split
      · exact .junk _
      rename_i hne;split
      · rename_i hal';exact .mmapN _ _ b (keep j b hal' hne hb)
      exact .junk _
    | _=>cases hr
  have inv:∀ (j:Nat) (Bj:Blk),(st.freeze i).hp[j]?=some Bj->Bj≠.dead->j≠i/\∃ B',st.hp[j]?=some B'/\B'≠.dead/\Bj=B'.mapRef (frz i (st.hp.getD i .dead) (cD st.hp)):=by
    intro j Bj hj hd;simp only [St.freeze] at hj;rw [List.getElem?_set] at hj;split at hj
    · split at hj
      · cases hj;exact absurd rfl hd
      cases hj
    rename_i hne;simp only [List.getElem?_map,Option.map_eq_some_iff] at hj;obtain⟨B',hB',rfl⟩:=hj;exact⟨λe=>hne e.symm,B',hB',λe=>by subst e;exact hd rfl,rfl⟩
  refine⟨g',{ defers:=h.defers,size:=h.size,fr:=λt=>?_,hp:=?_,lt:=?_,inj:=?_,Xlt:=?_,Xold:=?_,os:=h.os,tape:=h.tape,output:=h.output,drawn:=h.drawn,grown:=h.grown,keep:=h.keep,own:=?_,stay:=?_,kle:=?_,laid:=h.laid }⟩
  · simp only [St.freeze,Fr.get_mapRef]
    exact (h.fr t).mapRef hD hF
  · intro j Bj hj
    by_cases hd:Bj=.dead
    · subst hd;trivial
    obtain⟨hne,B',hB',hd',rfl⟩:=inv j Bj hj hd
    have hal':cD st.hp j=true:=by
      unfold cD;rw [List.getD_eq_getElem?_getD,hB'];cases B'<;>first|rfl|exact absurd rfl hd'
    refine BRep.mapRef (i:=j) (g:=g) (g':=g') ?_ rfl hX hF (h.hp j B' hB')
    cases hp:g.phi j with
    | none=>simp only [g'];split<;>first|rfl|exact hp
    | some b=>exact keep j b hal' hne hp
  · intro j b hp
    obtain⟨h1,h2⟩:=hphi j b hp;have:=h.lt j b h1;refine⟨this.1,by simpa [St.freeze] using this.2.1,λhx=>?_⟩;rcases hx with hx|hx
    · exact this.2.2 hx
    exact h2 hx
  · intro j j' b Bj Bj' hBj hBj' hdj hdj' hj hj'
    obtain⟨_,B1,e1,d1,_⟩:=inv j Bj hBj hdj;obtain⟨_,B2,e2,d2,_⟩:=inv j' Bj' hBj' hdj';exact h.inj j j' b B1 B2 e1 e2 d1 d2 (hphi j b hj).1 (hphi j' b hj').1
  · intro b hb
    rcases hb with hb|hb
    · exact h.Xlt b hb
    exact (h.lt i b hb).1
  · intro b hb hlt
    rcases hb with hb|hb
    · exact h.Xold b hb hlt
    have:=(h.own i b hb hlt).1;omega
  · intro j b hp hb
    exact h.own j b (hphi j b hp).1 hb
  · intro j b hj hm hp
    have hst:=h.stay j b hj hm hp;exact⟨hst.1,keep j b (hks j hj) (by omega) hst.2⟩
  have:=h.kle;simpa [St.freeze] using this
theorem qRX {c:Code} {Q:Exit->St->Prop} {fr:Fr} {hp:List Blk} (i:Nat) (hk:C.k<=i) (hal:cD hp i=true) (hks:∀ j,j < C.k->cD hp j=true) (h:TWp C c (St.freeze i ⟨fr,hp⟩) Q):TWp C c ⟨fr,hp⟩ Q:=λ_ a w hs=>by
  obtain⟨g',hs'⟩:=hs.freeze i hk hal hks;exact h g' a w hs'
variable {C:Ctx} {st:St} {g:Gh} {a:Act} {w:World} {P:Program}
def back (ids:List Nat) (n:Nat) (i:Nat):Nat:=
  match ids[i]? with
  | some j=>j
  | none=>n+(i - ids.length)
def fwd (ids:List Nat) (n:Nat):AV->AV
  | .msl i s o l=>.msl (back ids n i) s o l
  | .mptr i s x o=>.mptr (back ids n i) s x o
  | .mmap i=>.mmap (back ids n i)
  | .yld i=>.yld (back ids n i)
  | .mmapN i m=>.mmapN (back ids n i) m
  | v=>v
def mD (ids:List Nat) (hp hp':List Blk):List Blk:=
  (hp.zipIdx.map fun p => match bG ids p.2 with
    | some i => (hp'.getD i .dead).mapRef (fwd ids hp.length)
    | none => p.1) ++ (hp'.drop ids.length).map (Blk.mapRef (fwd ids hp.length))
def Gh.back (g:Gh) (ids:List Nat) (n B:Nat) (g':Gh):Gh:=
  { phi := fun j => match bG ids j with
      | some i => g'.phi i
      | none => if j < n then g.phi j else g'.phi (ids.length + (j - n))
    psi := fun j => match bG ids j with
      | some i => g'.psi i
      | none => if j < n then g.psi j else g'.psi (ids.length + (j - n))
    X := fun b => g.X b \/ (B <= b /\ g'.X b) }
theorem uB:∀ {ids:List Nat},ids.Nodup->∀ {i j:Nat},ids[i]?=some j->bG ids j=some i
  | [],_,i,j,h=>by simp at h
  | x :: r,hn,i,j,h=>by
    simp only [List.nodup_cons] at hn
    cases i with
    | zero=>simp at h;subst h;simp [bG]
    | succ i=>
      simp at h;have hne:x≠j:=λe=>by subst e;exact hn.1 (List.mem_of_getElem? h)
      simp [bG,hne,uB hn.2 h]
theorem oU {ids:List Nat} {j:Nat} (h:bG ids j=none):∀ i:Nat,ids[i]?≠some j:=by
  induction ids with
  | nil=>intro i h;simp at h
  | cons x r ih=>
    simp only [bG] at h;split at h
    · cases h
    rename_i hne;simp only [Option.map_eq_none_iff] at h;intro i hi
    cases i with
    | zero=>simp at hi;exact hne hi
    | succ i=>simp at hi;exact ih h i hi
section back
variable {ids:List Nat} {n B:Nat} {g':Gh}
theorem qTV (hnd:ids.Nodup) (hlt:∀ j∈ids,j < n) (i:Nat):(i < ids.length/\bG ids (back ids n i)=some i)\/(ids.length<=i/\back ids n i=n+(i - ids.length)/\bG ids (back ids n i)=none):=by
  unfold TL.back
  cases h:ids[i]? with
  | some j=>exact .inl ⟨(List.getElem?_eq_some_iff.1 h).1,uB hnd h⟩
  | none=>
    have hi:=List.getElem?_eq_none_iff.1 h;refine .inr ⟨hi,rfl,?_⟩
    cases hp:bG ids (n+(i - ids.length)) with
    | none=>rfl
    | some k=>have:=hlt _ (List.mem_of_getElem? (bT ids _ _ hp));omega
theorem tF (hnd:ids.Nodup) (hlt:∀ j∈ids,j < n) (i:Nat):(g.back ids n B g').phi (back ids n i)=g'.phi i/\(g.back ids n B g').psi (back ids n i)=g'.psi i:=by
  rcases qTV hnd hlt i with ⟨_,h⟩|⟨hi,he,h⟩
  · simp [Gh.back,h]
  simp only [Gh.back,h];rw [he,if_neg (by omega),if_neg (by omega)];constructor<;>congr 1<;>omega
theorem ARep.fwd {w':World} (hnd:ids.Nodup) (hlt:∀ j∈ids,j < n) {x:AV} {v:Value} (h:ARep w' g' x v) (hr:x.isRef=true):ARep w' (g.back ids n B g') (TL.fwd ids n x) v:=by
  cases h with
  | msl0=>exact .msl0 _ _ _ _
  | msl id sz off len cap b hb hc hp=>exact .msl _ _ _ _ _ b ((tF hnd hlt id).1.trans hb) hc (by rw [(tF hnd hlt id).2];exact hp)
  | mptr id sz idx off b hb=>exact .mptr _ _ _ _ b ((tF hnd hlt id).1.trans hb)
  | mmap id b hb=>exact .mmap _ b ((tF hnd hlt id).1.trans hb)
  | yld id b hb=>exact .yld _ b ((tF hnd hlt id).1.trans hb)
  | mmapN0=>exact .mmapN0 _
  | mmapN id n b hb=>exact .mmapN _ _ b ((tF hnd hlt id).1.trans hb)
  | _=>cases hr
end back
theorem qGM {ids:List Nat} {hp hp':List Blk} {j:Nat} {B:Blk} (h:(mD ids hp hp')[j]?=some B):
    (∃ i,bG ids j=some i/\j < hp.length/\B=(hp'.getD i .dead).mapRef (fwd ids hp.length))\/(bG ids j=none/\j < hp.length/\hp[j]?=some B)\/
      (hp.length<=j/\∃ B',hp'[ids.length+(j - hp.length)]?=some B'/\B=B'.mapRef (fwd ids hp.length)):=by
  unfold mD at h;rw [List.getElem?_append] at h;split at h
  · rename_i hlt
    simp only [List.length_map,List.length_zipIdx] at hlt;simp only [List.getElem?_map,List.getElem?_zipIdx,Option.map_map,Option.map_eq_some_iff,Function.comp_def,Nat.zero_add] at h;obtain⟨B0,hB0,e⟩:=h;split at e
    · rename_i i hi;exact .inl ⟨i,hi,hlt,e.symm⟩
    rename_i hi;exact .inr (.inl ⟨hi,hlt,by rw [hB0,e]⟩)
  rename_i hge;simp only [List.length_map,List.length_zipIdx] at hge h;simp only [List.getElem?_map,List.getElem?_drop,Option.map_eq_some_iff] at h;obtain⟨B',hB',e⟩:=h;exact .inr (.inr ⟨by omega,B',hB',e.symm⟩)
theorem sJ {ids:List Nat} {hp hp':List Blk}:(mD ids hp hp').length=hp.length+(hp'.length - ids.length):=by simp [mD]
def mG (ids:List Nat) (hp:List Blk):List Blk:=ids.map λi=>(hp.getD i .dead).mapRef (toName (bG ids))
theorem Sim.handed (hs:Sim C st g a w) {ids:List Nat} (hnd:ids.Nodup):Out ⟨C.P,0,w,(mG ids st.hp).length,g.canon ids,λ_=>false⟩ (mG ids st.hp) (g.canon ids) w:=by
  have hc:=hs.canon
  have hphi:∀ i b,(g.canon ids).phi i=some b->∃ j,ids[i]?=some j/\g.phi j=some b:=by
    intro i b hp;simp only [Gh.canon,Option.bind_eq_some_iff] at hp;exact hp
  have hf:∀ i j,bG ids i=some j->(g.canon ids).phi j=g.phi i/\(g.canon ids).psi j=g.psi i:=by
    intro i j hij;have:=bT ids i j hij;simp [Gh.canon,this]
  refine { defers:=rfl,size:=rfl,fr:=λ_=>.junk _,hp:=?_,lt:=?_,inj:=?_,Xlt:=hs.Xlt,Xold:=λb h _=>h,os:=rfl,tape:=rfl,output:=rfl,drawn:=Nat.le_refl _,grown:=Nat.le_refl _,keep:=λ_ _ _=>rfl,own:=?_,stay:=?_,kle:=?_,laid:=λx hx=>⟨(hs.laidW x hx).1,λi hp=>by obtain⟨j,_,h⟩:=hphi i x.1 hp;exact (hs.laidW x hx).2 j h⟩ }
  · intro i B hi
    simp only [mG,List.getElem?_map,Option.map_eq_some_iff] at hi;obtain⟨j,hj,rfl⟩:=hi
    cases hB:st.hp[j]? with
    | none=>simp [List.getD,hB,Blk.mapRef,BRep]
    | some B=>
      rw [List.getD_eq_getElem?_getD,hB];exact BRep.mapRef (i:=j) (g:=g) (g':=g.canon ids) (by simp [Gh.canon,hj]) (by simp [Gh.canon,hj]) (λ_ hb=>hb) (ARep.toName hf λ_ hb=>hb) (hs.hp j B hB)
  · intro i b hp
    obtain⟨j,hj,hp'⟩:=hphi i b hp;have:=hs.lt j b hp';exact⟨this.1,by simpa [mG] using (List.getElem?_eq_some_iff.1 hj).1,this.2.2⟩
  · intro i j b Bi Bj hBi hBj hdi hdj hi hj
    obtain⟨i',hi',hpi⟩:=hphi i b hi;obtain⟨j',hj',hpj⟩:=hphi j b hj
    have inv:∀ (m m':Nat) (Bm:Blk),ids[m]?=some m'->(mG ids st.hp)[m]?=some Bm->Bm≠.dead->∃ B',st.hp[m']?=some B'/\B'≠.dead:=by
      intro m m' Bm hm hB hd;simp only [mG,List.getElem?_map,hm,Option.map_some,Option.some.injEq] at hB
      cases hh:st.hp[m']? with
      | none=>rw [List.getD_eq_getElem?_getD,hh] at hB;subst hB;exact absurd rfl hd
      | some B'=>
        refine⟨B',rfl,λe=>?_⟩;subst e;rw [List.getD_eq_getElem?_getD,hh] at hB;subst hB;exact hd rfl
    obtain⟨B1,e1,d1⟩:=inv i i' Bi hi' hBi hdi;obtain⟨B2,e2,d2⟩:=inv j j' Bj hj' hBj hdj;have e:=hs.inj i' j' b B1 B2 e1 e2 d1 d2 hpi hpj;subst e;exact pD hnd hi' hj'
  · intro i b hp _
    obtain⟨j,hj,_⟩:=hphi i b hp;exact⟨by simpa [mG] using (List.getElem?_eq_some_iff.1 hj).1,hp⟩
  · intro i b _ _ hp;exact⟨rfl,hp⟩
  exact Nat.le_refl _
def mvd (ids:List Nat) (mv:Nat->Bool) (j:Nat):Bool:=match bG ids j with
  | some i=>mv i
  | none=>false
def eK (S:Nat->Bool):AV->AV
  | .msl j s o l=>bif S j then .junk else .msl j s o l
  | .mptr j s x o=>bif S j then .junk else .mptr j s x o
  | .mmap j=>bif S j then .junk else .mmap j
  | .yld j=>bif S j then .junk else .yld j
  | .mmapN j n=>bif S j then .junk else .mmapN j n
  | v=>v
theorem Sim.backM (hs:Sim C st g a w) {ids:List Nat} (mv:Nat->Bool) (hnd:ids.Nodup) (hal:∀ j∈ids,cD st.hp j=true) (hmv:∀ j,j < C.k->mvd ids mv j=true->C.mv j=true) {hp':List Blk} {g':Gh} {w':World} (ho:Out ⟨C.P,0,w,(mG ids st.hp).length,g.canon ids,mv⟩ hp' g' w'):
    Sim C ⟨Fr.mapRef (eK (mvd ids mv)) st.fr,mD ids (st.hp.map (Blk.mapRef (eK (mvd ids mv)))) hp'⟩ (g.back ids st.hp.length w.heap.size g') a w':=by
  have hlen:(mG ids st.hp).length=ids.length:=by simp [mG]
  have hlt:∀ j∈ids,j < st.hp.length:=λj hj=>by obtain⟨B,hB,_⟩:=eN (hal j hj);exact (List.getElem?_eq_some_iff.1 hB).1
  have hcan:∀ i b,(g.canon ids).phi i=some b->∃ j:Nat,ids[i]?=some j/\g.phi j=some b:=by
    intro i b hp;simp only [Gh.canon,Option.bind_eq_some_iff] at hp;exact hp
  have hcan':∀ i j:Nat,ids[i]?=some j->(g.canon ids).phi i=g.phi j/\(g.canon ids).psi i=g.psi j:=by
    intro i j hij;simp [Gh.canon,hij]
  have hklen:=ho.kle;simp only [hlen] at hklen;have hsz:=ho.grown;simp only at hsz
  have hstay:∀ i j b:Nat,ids[i]?=some j->mv i=false->g.phi j=some b->g'.psi i=g.psi j/\g'.phi i=some b:=by
    intro i j b hij hm hp;have h1:=hcan' i j hij;have:=ho.stay i b (by simp only [hlen];exact (List.getElem?_eq_some_iff.1 hij).1) hm (by rw [h1.1];exact hp);simp only at this;rw [h1.2] at this;exact this
  have hold:∀ b,b < w.heap.size->(∀ i j:Nat,ids[i]?=some j->g.phi j≠some b)->w'.heap[b]?=w.heap[b]?:=by
    intro b hb hne;refine ho.keep b hb λi hi hp=>?_;obtain⟨j,hj,hp'⟩:=hcan i b hp;exact hne i j hj hp'
  have hold':∀ j b (B:Blk),st.hp[j]?=some B->B≠.dead->bG ids j=none->g.phi j=some b->w'.heap[b]?=w.heap[b]?:=by
    intro j b B hB hd hp hb;refine hold b (hs.lt j b hb).1 λi j' hij hp'=>?_;obtain⟨B',hB',hd'⟩:=eN (hal j' (List.mem_of_getElem? hij));have:=hs.inj j j' b B B' hB hB' hd hd' hb hp';subst this;exact oU hp i hij
  have hbelow:∀ i b,g'.phi i=some b->b < w.heap.size->∃ i' j:Nat,ids[i']?=some j/\g.phi j=some b:=by
    intro i b hp hb;obtain⟨_,h⟩:=ho.own i b hp hb;obtain⟨j,hj,hp'⟩:=hcan i b h;exact⟨i,j,hj,hp'⟩
  have hX:∀ b,g'.X b->(g.back ids st.hp.length w.heap.size g').X b:=by
    intro b hb;by_cases hlt':b < w.heap.size
    · exact .inl (ho.Xold b hb hlt')
    exact .inr ⟨by omega,hb⟩
  let g1:Gh:={ g with phi:=λj=>if mvd ids mv j=true then none else g.phi j }
  have hg1:∀ j b,g1.phi j=some b->mvd ids mv j=false/\g.phi j=some b:=by
    intro j b hp;simp only [g1] at hp;split at hp
    · cases hp
    rename_i hne;exact⟨by simpa using hne,hp⟩
  have hF1:∀ (x:AV) (v:Value),ARep w g x v->x.isRef=true->ARep w g1 (eK (mvd ids mv) x) v:=by
    intro x v hx hr
    cases hx with
    | msl0 id sz off ad=>
      simp only [eK];cases mvd ids mv id
      · exact .msl0 _ _ _ _
      exact .junk _
    | msl id sz off len cap b hb hc hp=>
      simp only [eK];cases hm:mvd ids mv id
      · exact .msl _ _ _ _ cap b (by simp [g1,hm,hb]) hc hp
      exact .junk _
    | mptr id sz idx off b hb=>
      simp only [eK];cases hm:mvd ids mv id
      · exact .mptr _ _ _ _ b (by simp [g1,hm,hb])
      exact .junk _
    | mmap id b hb=>
      simp only [eK];cases hm:mvd ids mv id
      · exact .mmap _ b (by simp [g1,hm,hb])
      exact .junk _
    | yld id b hb=>
      simp only [eK];cases hm:mvd ids mv id
      · exact .yld _ b (by simp [g1,hm,hb])
      exact .junk _
    | mmapN0 id=>
      simp only [eK];cases mvd ids mv id
      · exact .mmapN0 _
      exact .junk _
    | mmapN id n b hb=>
      simp only [eK];cases hm:mvd ids mv id
      · exact .mmapN _ _ b (by simp [g1,hm,hb])
      exact .junk _
    | _=>cases hr
  have hfr1:∀ t,ARep w g1 ((Fr.mapRef (eK (mvd ids mv)) st.fr).get t) (a.tmps.getD t undef):=λt=>by
    rw [Fr.get_mapRef];exact ARep.mapRef (w:=w) (g:=g) (g':=g1) (λd v hd=>hd) hF1 (hs.fr t)
  have hgr:Grow w g1 w' (g.back ids st.hp.length w.heap.size g'):=by
    refine⟨λj b hp=>?_,λj b hp=>?_,λb hb=>.inl hb,λb hb=>?_⟩
    · obtain⟨hm,hp⟩:=hg1 j b hp
      simp only [Gh.back]
      cases hpl:bG ids j with
      | some i=>exact (hstay i j b (bT ids _ _ hpl) (by simpa [mvd,hpl] using hm) hp).2
      | none=>simp only;rw [if_pos (hs.lt j b hp).2.1];exact hp
    · obtain⟨hm,hp⟩:=hg1 j b hp
      simp only [Gh.back]
      cases hpl:bG ids j with
      | some i=>exact (hstay i j b (bT ids _ _ hpl) (by simpa [mvd,hpl] using hm) hp).1
      | none=>simp only;rw [if_pos (hs.lt j b hp).2.1]
    exact hold b (hs.Xlt b hb) λi j _ hp=>(hs.lt j b hp).2.2 hb
  have hphi:∀ j b,(g.back ids st.hp.length w.heap.size g').phi j=some b->(∃ i,bG ids j=some i/\g'.phi i=some b)\/(bG ids j=none/\j < st.hp.length/\g.phi j=some b)\/(st.hp.length<=j/\g'.phi (ids.length+(j - st.hp.length))=some b):=by
    intro j b hp;simp only [Gh.back] at hp
    cases hpl:bG ids j with
    | some i=>rw [hpl] at hp;exact .inl ⟨i,rfl,hp⟩
    | none=>
      rw [hpl] at hp;simp only at hp;split at hp
      · rename_i hj;exact .inr (.inl ⟨rfl,hj,hp⟩)
      rename_i hj;exact .inr (.inr ⟨by omega,hp⟩)
  have hql:(st.hp.map (Blk.mapRef (eK (mvd ids mv)))).length=st.hp.length:=List.length_map _
  have hget:∀ {j:Nat} {B:Blk},(st.hp.map (Blk.mapRef (eK (mvd ids mv))))[j]?=some B->∃ B0,st.hp[j]?=some B0/\B=B0.mapRef (eK (mvd ids mv)):=by
    intro j B h;simp only [List.getElem?_map,Option.map_eq_some_iff] at h;obtain⟨B0,h1,h2⟩:=h;exact⟨B0,h1,h2.symm⟩
  refine { defers:=hs.defers,size:=hs.size,fr:=λt=>(hfr1 t).mono hgr,hp:=?_,lt:=?_,inj:=?_,Xlt:=?_,Xold:=?_,os:=ho.os.trans hs.os,tape:=ho.tape.trans hs.tape,output:=ho.output.trans hs.output,drawn:=Nat.le_trans hs.drawn ho.drawn,grown:=Nat.le_trans hs.grown hsz,keep:=?_,own:=?_,stay:=?_,kle:=?_,laid:=hs.laid }
  · intro j B hj
    have hF:∀ x v,ARep w' g' x v->x.isRef=true->ARep w' (g.back ids st.hp.length w.heap.size g') (fwd ids st.hp.length x) v:=λx v hx hr=>hx.fwd hnd hlt hr;rcases qGM hj with ⟨i,hpl,hjl,rfl⟩|⟨hpl,hjl,hB⟩|⟨hjl,B',hB',rfl⟩
    · rw [hql]
      have hi:i < ids.length:=(List.getElem?_eq_some_iff.1 (bT ids _ _ hpl)).1;have hB':hp'[i]?=some (hp'.getD i .dead):=by rw [List.getD_eq_getElem?_getD,List.getElem?_eq_getElem (by omega)];rfl
      exact BRep.mapRef (i:=i) (g:=g') (by simp [Gh.back,hpl]) (by simp [Gh.back,hpl]) hX hF (ho.hp i _ hB')
    · obtain⟨B0,hB0,rfl⟩:=hget hB
      rw [hql] at hjl;by_cases hd:B0=.dead
      · subst hd;trivial
      have hm : mvd ids mv j = false := by simp [mvd, hpl]
      have h1:BRep w g1 j (B0.mapRef (eK (mvd ids mv))):=BRep.mapRef (i:=j) (g:=g) (g':=g1) (by simp [g1,hm]) rfl (λ_ hb=>hb) hF1 (hs.hp j B0 hB0);refine h1.mono hgr (λhn=>?_) λb hb=>hold' j b B0 hB0 hd hpl (hg1 j b hb).2;simp only [g1,hm] at hn;simpa [Gh.back,hpl,hjl] using hn
    rw [hql] at hjl hB' ⊢
    have hpl:bG ids j=none:=by
      cases hp:bG ids j with
      | none=>rfl
      | some k=>have:=hlt _ (List.mem_of_getElem? (bT ids _ _ hp));omega
    exact BRep.mapRef (i:=ids.length+(j - st.hp.length)) (g:=g') (by simp [Gh.back,hpl,show ¬ j < st.hp.length by omega]) (by simp [Gh.back,hpl,show ¬ j < st.hp.length by omega]) hX hF (ho.hp _ B' hB')
  · intro j b hp
    rw [sJ,hql]
    have own':∀ i,g'.phi i=some b->¬ (g.back ids st.hp.length w.heap.size g').X b:=by
      intro i hi hx;rcases hx with hx|⟨_,hx⟩
      · obtain⟨i',j',_,hp'⟩:=hbelow i b hi (hs.Xlt b hx)
        exact (hs.lt j' b hp').2.2 hx
      exact (ho.lt i b hi).2.2 hx
    rcases hphi j b hp with ⟨i,hpl,hp'⟩|⟨hpl,hjl,hp'⟩|⟨hjl,hp'⟩
    · have:=hlt _ (List.mem_of_getElem? (bT ids _ _ hpl))
      exact⟨(ho.lt i b hp').1,by omega,own' i hp'⟩
    · have:=hs.lt j b hp'
      refine⟨by omega,by omega,λhx=>?_⟩;rcases hx with hx|⟨hx,_⟩
      · exact this.2.2 hx
      omega
    have:=(ho.lt _ b hp').2.1;simp only at this;exact⟨(ho.lt _ b hp').1,by omega,own' _ hp'⟩
  · intro j j' b Bj Bj' hBj hBj' hdj hdj' hj hj'
    have look:∀ (j:Nat) (Bj:Blk),(mD ids (st.hp.map (Blk.mapRef (eK (mvd ids mv)))) hp')[j]?=some Bj->Bj≠.dead->(g.back ids st.hp.length w.heap.size g').phi j=some b->
        (∃ i B,hp'[i]?=some B/\B≠.dead/\g'.phi i=some b/\TL.back ids st.hp.length i=j)\/(bG ids j=none/\∃ B,st.hp[j]?=some B/\B≠.dead/\g.phi j=some b):=by
      intro j Bj hBj hd hp;rcases qGM hBj with ⟨i,hpl,hjl,rfl⟩|⟨hpl,hjl,hB⟩|⟨hjl,B',hB',rfl⟩
      · left
        have hij:=bT ids _ _ hpl;have hi:i < ids.length:=(List.getElem?_eq_some_iff.1 hij).1;refine⟨i,hp'.getD i .dead,by rw [List.getD_eq_getElem?_getD,List.getElem?_eq_getElem (by omega)];rfl,λe=>by rw [e] at hd;exact hd rfl,by simpa [Gh.back,hpl] using hp,by simp [TL.back,hij]⟩
      · right
        obtain⟨B0,hB0,rfl⟩:=hget hB;rw [hql] at hjl;exact⟨hpl,B0,hB0,λe=>by subst e;exact hd rfl,by simpa [Gh.back,hpl,hjl] using hp⟩
      left;rw [hql] at hjl hB'
      have hpl:bG ids j=none:=by
        cases hp:bG ids j with
        | none=>rfl
        | some k=>have:=hlt _ (List.mem_of_getElem? (bT ids _ _ hp));omega
      refine⟨ids.length+(j - st.hp.length),B',hB',λe=>by subst e;exact hd rfl,by simpa [Gh.back,hpl,show ¬ j < st.hp.length by omega] using hp,?_⟩;simp only [TL.back];rw [List.getElem?_eq_none (by omega)];simp only;omega
    have cross:∀ (i j:Nat) (B:Blk),g'.phi i=some b->bG ids j=none->st.hp[j]?=some B->B≠.dead->g.phi j=some b->False:=by
      intro i j B hi hpl hB hd hj;obtain⟨i',j',hij,hp'⟩:=hbelow i b hi (hs.lt j b hj).1;obtain⟨B',hB',hd'⟩:=eN (hal j' (List.mem_of_getElem? hij));have:=hs.inj j j' b B B' hB hB' hd hd' hj hp';subst this;exact oU hpl i' hij
    rcases look j Bj hBj hdj hj with ⟨i,B,hB,hd,hi,rfl⟩|⟨hpl,B,hB,hd,hi⟩<;>rcases look j' Bj' hBj' hdj' hj' with ⟨i',B',hB',hd',hi',rfl⟩|⟨hpl',B',hB',hd',hi'⟩
    · rw [ho.inj i i' b B B' hB hB' hd hd' hi hi']
    · exact (cross i _ B' hi hpl' hB' hd' hi').elim
    · exact (cross i' _ B hi' hpl hB hd hi).elim
    exact hs.inj _ _ b B B' hB hB' hd hd' hi hi'
  · intro b hb
    rcases hb with hb|⟨_,hb⟩
    · have:=hs.Xlt b hb;omega
    exact ho.Xlt b hb
  · intro b hb hlt'
    rcases hb with hb|⟨hge,_⟩
    · exact hs.Xold b hb hlt'
    have:=hs.grown;omega
  · intro b hb hk
    rw [hold b (by have:=hs.grown;omega) λi j _ hp=>?_]
    · exact hs.keep b hb hk
    obtain⟨hm,h0⟩:=hs.own j b hp hb;exact hk j hm h0
  · intro j b hp hb
    have hbw:b < w.heap.size:=by have:=hs.grown;omega
    rcases hphi j b hp with ⟨i,hpl,hp'⟩|⟨_,_,hp'⟩|⟨hjl,hp'⟩
    · obtain⟨_,h⟩:=ho.own i b hp' hbw
      obtain⟨j',hj',hp2⟩:=hcan i b h;rw [bT ids _ _ hpl] at hj';cases hj';exact hs.own j b hp2 hb
    · exact hs.own j b hp' hb
    have:=(ho.own _ b hp' hbw).1;simp only [hlen] at this;omega
  · intro j b hj hm hp
    have h1:=hs.stay j b hj hm hp;have hjl:=hs.kle
    cases hpl:bG ids j with
    | some i=>
      have hmi:mv i=false:=by
        cases h:mv i with
        | false=>rfl
        | true=>have:=hmv j hj (by simp [mvd,hpl,h]);rw [hm] at this;cases this
      have:=hstay i j b (bT ids _ _ hpl) hmi h1.2;simp only [Gh.back,hpl];exact⟨this.1.trans h1.1,this.2⟩
    | none=>
      simp only [Gh.back,hpl];rw [if_pos (by omega),if_pos (by omega)];exact h1
  rw [sJ,hql];have:=hs.kle;omega
mutual
theorem AV.mapRef_self {F:AV->AV} (hF:∀ x,x.isRef=true->F x=x):∀ v:AV,AV.mapRef F v=v
  | .junk|.und|.d _=>rfl
  | .msl ..|.mptr ..|.mmap _|.yld _|.mmapN ..=>hF _ rfl
  | .agg cs|.tup cs|.fnc _ cs=>by simp only [AV.mapRef,AV.mapRefs_self hF cs]
  | .ifc _ c=>by simp only [AV.mapRef,AV.mapRef_self hF c]
theorem AV.mapRefs_self {F:AV->AV} (hF:∀ x,x.isRef=true->F x=x):∀ cs:List AV,AV.mapRefs F cs=cs
  | []=>rfl
  | c :: r=>by simp only [AV.mapRefs,AV.mapRef_self hF c,AV.mapRefs_self hF r]
end
theorem Fr.mapRef_self {F:AV->AV} (hF:∀ x,x.isRef=true->F x=x):∀ fr:Fr,Fr.mapRef F fr=fr
  | []=>rfl
  | (t,v) :: r=>by simp only [Fr.mapRef,AV.mapRef_self hF v,Fr.mapRef_self hF r]
theorem Sim.back (hs : Sim C st g a w) {ids : List Nat} (hnd : ids.Nodup) (hal : ∀ j ∈ ids, cD st.hp j = true) {hp' : List Blk} {g' : Gh} {w' : World} (ho : Out ⟨C.P, 0, w, (mG ids st.hp).length, g.canon ids, fun _ => false⟩ hp' g' w') :
    Sim C ⟨st.fr,mD ids st.hp hp'⟩ (g.back ids st.hp.length w.heap.size g') a w':=by
  have hz:∀ j,mvd ids (λ_=>false) j=false:=λj=>by unfold mvd;split<;>rfl
  have hF:∀ x,x.isRef=true->eK (mvd ids λ_=>false) x=x:=λx hx=>by
    cases x with
    | msl|mptr|mmap|yld|mmapN=>simp [eK,hz]
    | _=>cases hx
  have h:=hs.backM (λ_=>false) hnd hal (λj _ hm=>by rw [hz] at hm;cases hm) ho;have e1:Fr.mapRef (eK (mvd ids λ_=>false)) st.fr=st.fr:=Fr.mapRef_self hF _
  have e2:st.hp.map (Blk.mapRef (eK (mvd ids λ_=>false)))=st.hp:=by
    conv=>rhs;rw [<- List.map_id st.hp]
    refine List.map_congr_left λB _=>?_
    cases B with
    | box ty cs=>simp only [Blk.mapRef,AV.mapRefs_self hF cs,id]
    | lp=>simp only [Blk.mapRef,Fr.mapRef_self hF,id]
    | _=>rfl
  rw [e1,e2] at h;exact h
theorem zAM {o:Oper} {K:St->Prop} {f:Operand} {xs:Array Operand} {ts:Array TypeId} {F:FuncId} {c:D} {cs:List D} (ids:List Nat) (args:List AV) (r:AV) (hp':List Blk) (ho:o.op=.call { callee:=.value f,args:=xs,argTypes:=ts }) (hd:qT C.n o.dst=true)
    (hf:st.fr.ev f=.d c) (hc:qEE c=some (F,cs)) (hnd:ids.Nodup) (hal:(ids.all λj=>cD st.hp j)=true) (hx:(xs.toList.map λx=>(st.fr.ev x).mapRef (toName (bG ids)))++cs.map .d=args) (hret:Ret C.P F (mG ids st.hp) (λ_=>false) args r hp')
    (hK:K (St.put ⟨st.fr,mD ids st.hp hp'⟩ o.dst (r.mapRef (fwd ids st.hp.length)))):OpOk C o st K:=by
  intro g a w Q hs;have hfv:=hs.ev f;rw [hf] at hfv
  obtain⟨vs,hv,hvs⟩:∃ vs:Array Value,a.eval f=.func (.func F) #[] vs/\Pw (DRep w g.X) cs vs.toList:=by
    cases hfv with|d _ _ h=>exact qAJ h hc
  have hf':∀ i j,bG ids i=some j->(g.canon ids).phi j=g.phi i/\(g.canon ids).psi j=g.psi i:=by
    intro i j hij;have:=bT ids i j hij;simp [Gh.canon,this]
  have hargs:Pw (ARep w (g.canon ids)) args (xs.map a.eval++vs).toList:=by
    rw [<- hx,Array.toList_append];refine Pw.append ⟨by simp,λi x v hxi hvi=>?_⟩ ⟨by simpa using hvs.1,λi x v hxi hvi=>?_⟩
    · simp only [List.getElem?_map,Option.map_eq_some_iff] at hxi
      simp only [Array.toList_map,List.getElem?_map,Option.map_eq_some_iff] at hvi;obtain⟨y,hy,rfl⟩:=hxi;obtain⟨z,hz,rfl⟩:=hvi;rw [hy] at hz;cases hz;exact ARep.mapRef (w:=w) (g:=g) (g':=g.canon ids) (λd v hd=>hd) (ARep.toName hf' λ_ hb=>hb) (hs.ev y)
    simp only [List.getElem?_map,Option.map_eq_some_iff] at hxi;obtain⟨d,hd',rfl⟩:=hxi;exact .d _ _ (hvs.2 i d v hd' hvi)
  have hal':∀ j∈ids,cD st.hp j=true:=λj hj=>List.all_eq_true.1 hal j hj;have hlt:∀ j∈ids,j < st.hp.length:=λj hj=>by obtain⟨B,hB,_⟩:=eN (hal' j hj);exact (List.getElem?_eq_some_iff.1 hB).1
  simp only [Oper.wp,dN ho hv hret.1,Oper.upon_enter];refine (hret.2 w (g.canon ids) _ (hs.handed hnd) hargs).mono ?_;rintro e w' ⟨v,g',rfl,hout,hr⟩;refine⟨_,_,hK,(hs.back hnd hal' hout).put' hd ?_⟩;refine ARep.mapRef (w:=w') (g:=g') (λd v hd=>hd.mono (λb hb=>?_) λ_ _=>rfl) (λx v hx hr=>hx.fwd hnd hlt hr) hr;by_cases hlt':b < w.heap.size
  · exact .inl (hout.Xold b hb hlt')
  exact .inr ⟨by omega,hb⟩
variable {C:Ctx} {st:St} {g:Gh} {a:Act} {w:World} {P:Program}
theorem DOk.mk {o:Oper} {ev:Operand->AV} {hpn:List Blk} {x:AV} {ws:List (Nat×Blk)} (h:∀ st:St,HpLe hpn st.hp->(∀ y∈o.op.operands,st.fr.ev y=ev y)->∀ g a w,Sim C st g a w->∃ v w' g',(execOp a.eval o).run C.P w=.ok (.value v) w'/\Sim C ⟨st.fr,wr ws st.hp⟩ g' a w'/\ARep w' g' x v):DOk C o ev hpn x ws:=by
  intro st h1 _ _ h2 g a w hs Q K' hK;obtain⟨v,w',g',hr,hs',hx⟩:=h st h1 h2 g a w hs;simp only [Oper.wp,hr,Oper.upon_value];exact hK v w' g' hs' hx
theorem DOk.mkS {o:Oper} {ev:Operand->AV} {hpn:List Blk} {ws:List (Nat×Blk)} (_hd:o.dst=none) (h:∀ st:St,HpLe hpn st.hp->(∀ y∈o.op.operands,st.fr.ev y=ev y)->∀ g a w,Sim C st g a w->∃ w' g',(execOp a.eval o).run C.P w=.ok .skip w'/\Sim C ⟨st.fr,wr ws st.hp⟩ g' a w'):DOk C o ev hpn .junk ws:=by
  intro st h1 _ _ h2 g a w hs Q K' hK;obtain⟨w',g',hr,hs'⟩:=h st h1 h2 g a w hs;simp only [Oper.wp,hr,Oper.upon_skip];exact hK undef w' g' hs' (.junk _)
theorem RdOk.mkW {o:Oper} {ev:Operand->AV} {hp:List Blk} {x:AV} (h:∀ st:St,HpLe hp st.hp->(∀ y∈o.op.operands,st.fr.ev y=ev y)->∀ g a w,Sim C st g a w->∃ v w' g',(execOp a.eval o).run C.P w=.ok (.value v) w'/\Sim C st g' a w'/\ARep w' g' x v):RdOk C o ev hp x:=by
  intro st h1 h2 g a w hs Q K' hK;obtain⟨v,w',g',hr,hs',hx⟩:=h st h1 h2 g a w hs;simp only [Oper.wp,hr,Oper.upon_value];exact hK v w' g' hs' hx
theorem RowOf.frozen {ty:TypeId} {sz:Nat} {es:List D} {vs:Array Value} (hs:Sim C st g a w) (r:RowOf w g.X sz es vs):∃ g',Sim C st g' a (w.alloc (.cells vs ty))/\∀ n,n=es.length->ARep (w.alloc (.cells vs ty)) g' (.d (.sl sz es)) (.slice (some ⟨w.heap.size,0,none⟩) n n):=by
  obtain⟨hs',hg⟩:=hs.allocX (.cells vs ty);refine⟨_,hs',λn hn=>.d _ _ ?_⟩;subst hn
  let g1:Gh:={ phi:=λj=>if j=0 then some w.heap.size else none,psi:=λ_=>vs.size,X:=g.X }
  have hrep:∀ (j:Nat) (B:Blk),[Blk.flat ty sz es][j]?=some B->BRep (w.alloc (.cells vs ty)) g1 j B:=by
    intro j B hj
    match j,hj with
    | 0,hj=>
      cases hj;refine .inr ⟨w.heap.size,vs,by simp [g1],heap_alloc_new w _,rfl,r.le,r.h0,r.h1,λi e j c he hc=>?_⟩;obtain⟨v,hv,hd⟩:=r.rep i e j c he hc;exact⟨v,hv,hd.mono (λ_ h=>h) λb hb=>cX w _ b (hs.Xlt b hb)⟩
    | j+1,hj=>simp at hj
  refine lN (st:=⟨[],[.flat ty sz es]⟩) (g:=g1) hrep ((Snap.msl 0 sz 0 es.length ty es rfl (by omega)).same (by simp)) (λb hb=>.inl hb) (λj b hp=>?_) (v:=.slice (some ⟨w.heap.size,0,none⟩) es.length es.length) ?_
  · simp only [g1] at hp
    split at hp
    · cases hp;exact .inr rfl
    cases hp
  have := ARep.msl (w := w.alloc (.cells vs ty)) (g := g1) 0 sz 0 es.length es.length w.heap.size (by simp [g1]) (Nat.le_refl _) (by simp only [Nat.zero_add, g1]; exact r.le);simpa using this
section made
variable {o:Oper} {ev:Operand->AV} {hp:List Blk} {x y:Operand} {t e:TypeId} {sz by':Nat} {z:Value}
theorem zDP {n:Nat} {zd:D} (ho:o.op=.makeSlice t x y) (hl:sel C.P t=some (e,sz,by')) (hz:(C.P.info? e).bind (·.zero)=some z) (hzd:cU z=.d zd) (hzs:zd.cells.length=sz)
    (hx:ev x=.d (.int .i64 n)) (hy:ev y=.d (.int .i64 n)) (hb:by' * n<=281474976710656) (hm:n<=9223372036854775807):RdOk C o ev hp (.d (.sl sz (List.replicate n zd))):=
  RdOk.mkW λst hhp hag g a w hs=>by
    obtain⟨vs,hr,row⟩:=wB (st:=st) sz by' n z zd ho hl hz hzd hzs (by rw [hag x (by simp [ho,Op.operands]),hx]) (by rw [hag y (by simp [ho,Op.operands]),hy]) (by omega) (by rw [<- Int.natCast_mul];omega) (by omega) hs
    obtain⟨g',h1,h2⟩:=row.frozen (ty:=e) hs;exact⟨_,_,g',hr,h1,by have:=h2 n (by simp);simpa using this⟩
theorem zDQ {parts:Array (Nat×Operand)} {n:Nat} {ds:List D} (xs:List Operand) (ho:o.op=.buildSlice t n parts) (hl:sel C.P t=some (e,sz,by')) (hz:(C.P.info? e).bind (·.zero)=some z) (hp':jM parts xs)
    (hx:evD (xs.map ev)=some ds) (hn:Nat.beq ds.length n=true) (hs:(ds.all λd=>Nat.beq d.cells.length sz)=true) (hsmall:Nat.ble (n * sz) 16777216=true):RdOk C o ev hp (.d (.sl sz ds)):=
  RdOk.mkW λst hhp hag g a w hsim=>by
    have hmem:∀ x∈xs,x∈o.op.operands:=by
      intro x hx;simp only [ho,Op.operands];obtain⟨i,hi⟩:=List.getElem?_of_mem hx;have:(xs.zipIdx.map λx=>(x.2,x.1))[i]?=some (i,x):=by simp [hi]
      rw [<- hp'] at this;simp only [List.mem_toArray,List.mem_map];exact⟨(i,x),List.mem_of_getElem? this,rfl⟩
    have hev:xs.map st.fr.ev=ds.map AV.d:=by
      rw [<- tE hx];exact List.map_congr_left λx hx=>hag x (hmem x hx)
    obtain⟨vs,hr,row,_⟩:=oK (st:=st) sz by' xs ds z ho hl hz hp' hev (Nat.eq_of_beq_eq_true hn) (λd hd=>Nat.eq_of_beq_eq_true (List.all_eq_true.1 hs d hd)) (Nat.le_of_ble_eq_true hsmall) hsim
    obtain⟨g',h1,h2⟩:=row.frozen (ty:=e) hsim;exact⟨_,_,g',hr,h1,h2 n (Nat.eq_of_beq_eq_true hn).symm⟩
theorem wW {hpn hp':List Blk} {i:Nat} (h:hpn[i]?=some .hole) (hle:HpLe hpn hp'):hp'[i]?=some .hole:=hle i _ h λe=>by cases e
theorem lJ {i:Nat} {cs:List AV} (hi:hp[i]?=some .hole) (ho:o.op=.alloc t) (hz:(C.P.info? t).bind (·.zero)=some z) (hf:(cU z).flat=true) (hc:(cU z).cells=cs):DOk C o ev hp (.mptr i 0 0 0) [(i,.box t cs)]:=
  DOk.mk λst hhp hag g a w hs=>by
    subst hc;obtain⟨inf,hinf,hz'⟩:=pJ hz;have hpw:=((fY w g z).pw hf).1;have hno:g.phi i=none:=hs.hp i _ (wW hi hhp);have hg:=hs.grow_at (.cells z.cells t) z.cells.size hno;refine⟨.pointer (some ⟨w.heap.size,0,none⟩),w.alloc (.cells z.cells t),_,by simp [execOp,ho,Instr.alloc,zeroValue,typeInfo,hinf,hz',newVar,newRow],hs.fill (n:=z.cells.size) (wW hi hhp) ?_,.mptr _ 0 0 0 w.heap.size (by simp [Gh.new,upd])⟩;exact⟨w.heap.size,z.cells,by simp [Gh.new,upd],heap_alloc_new w _,by simp [Gh.new,upd],by simpa using hpw.1,λj c v hc hv=>(hpw.2 j c v hc (by simpa using hv)).mono hg⟩
theorem RowOf.filled {ty:TypeId} {sz:Nat} {es:List D} {vs:Array Value} {i:Nat} (hs:Sim C st g a w) (hi:st.hp[i]?=some .hole) (r:RowOf w g.X sz es vs) (n:Nat) (hn:n=es.length):∃ g',Sim C ⟨st.fr,st.hp.set i (.flat ty sz es)⟩ g' a (w.alloc (.cells vs ty))/\ARep (w.alloc (.cells vs ty)) g' (.msl i sz 0 n) (.slice (some ⟨w.heap.size,0,none⟩) n n):=by
  subst hn;have hno:g.phi i=none:=hs.hp i _ hi;have hg:=hs.grow_at (.cells vs ty) vs.size hno;refine⟨_,hs.fill (n:=vs.size) hi (.inr ⟨w.heap.size,vs,by simp [Gh.new,upd],heap_alloc_new w _,by simp [Gh.new,upd],r.le,r.h0,r.h1,λk e j c he hc=>?_⟩),?_⟩
  · obtain⟨v,hv,hd⟩:=r.rep k e j c he hc
    exact⟨v,hv,hd.mono hg.X hg.mem⟩
  have := ARep.msl (w := w.alloc (.cells vs ty)) (g := g.new i w.heap.size vs.size) i sz 0 es.length es.length w.heap.size (by simp [Gh.new, upd]) (Nat.le_refl _) (by simp only [Nat.zero_add, Gh.new, upd, if_true]; exact r.le);simpa using this
theorem qNJ {id off s:Nat} {bb:Bool} {bt:TypeId} {cs cs':List AV} {v:AV} (ho:o.op=.store t x y) (hd:o.dst=none) (hl:lay C.P t=some (bb,s)) (hx:ev x=.mptr id 0 0 off) (hy:ev y=v) (hf:v.flat=true) (hs:v.cells.length=s)
    (hb:hp[id]?=some (.box bt cs)) (hc:off+s<=cs.length) (hv:spl cs off v.cells=cs'):DOk C o ev hp .junk [(id,.box bt cs')]:=
  DOk.mkS hd λst hhp hag g a w hsim=>by
    subst hv;obtain⟨w',h1,h2⟩:=wA (st:=st) id off s bb cs v ho hd hl (by rw [hag x (by simp [ho,Op.operands]),hx]) (by rw [hag y (by simp [ho,Op.operands]),hy]) hf hs (hhp id _ hb λe=>by cases e) hc hsim;rw [hd] at h2;exact⟨w',g,h1,h2⟩
end made
section steps
variable {ops:Array Oper} {l:List Oper} {K:St->Prop} {fr:Fr} {hp:List Blk} {acc:List Rec} {d:Nat} {op:Op} {ty:TypeId} {pos:String} {after:Array Edge} {gd:Option (Nat×Bool)}
theorem oJ (rs : List Nat) (ws : List (Nat × Blk)) (v : AV) (hd : decide (d < C.n) = true) (hon : onA ops fr ⟨some d, op, ty, pos, after, gd⟩ = some true) (hw : (ws.all fun p => rs.contains p.1 && decide (p.1 < hp.length)) = true) (hr : DOk C ⟨some d, op, ty, pos, after, gd⟩ fr.ev (qJA rs hp) v ws)
    (h:TDr C ops K l ((d,v) :: fr) (wr ws hp) (acc++[⟨true,d,v,rs,ws⟩])):TDr C ops K (⟨some d,op,ty,pos,after,gd⟩ :: l) fr hp acc:=
  .step _ l fr hp acc d v rs ws v (.inl ⟨rfl,hd,rfl⟩) hon (λp hp=>by have:=List.all_eq_true.1 hw p hp;simp at this;exact⟨this.2,.inr this.1⟩) hr h
theorem qQK (d : Nat) (rs : List Nat) (ws : List (Nat × Blk)) (hon : onA ops fr ⟨none, op, ty, pos, after, gd⟩ = some true) (hw : (ws.all fun p => rs.contains p.1 && decide (p.1 < hp.length)) = true) (hr : DOk C ⟨none, op, ty, pos, after, gd⟩ fr.ev (qJA rs hp) .junk ws)
    (h:TDr C ops K l ((d,.junk) :: fr) (wr ws hp) (acc++[⟨true,d,.junk,rs,ws⟩])):TDr C ops K (⟨none,op,ty,pos,after,gd⟩ :: l) fr hp acc:=
  .step _ l fr hp acc d .junk rs ws .junk (.inr ⟨rfl,rfl⟩) hon (λp hp=>by have:=List.all_eq_true.1 hw p hp;simp at this;exact⟨this.2,.inr this.1⟩) hr h
theorem cW {c:Code} {Q:Exit->St->Prop} (h:TWp C c ⟨fr,hp++[.hole]⟩ Q):TWp C c ⟨fr,hp⟩ Q:=λg a w hs=>h g a w (Sim.hole (st:=⟨fr,hp⟩) hs)
theorem qEI {f : Operand} {xs : Array Operand} {ts : Array TypeId} {F : FuncId} {c : D} {cs : List D} (ids : List Nat) {args : List AV} {r r' : AV} {hh hp' hp2 : List Blk} (hd : decide (d < C.n) = true) (hf : fr.ev f = .d c) (hc : qEE c = some (F, cs)) (hnd : ids.Nodup) (hal : (ids.all fun j => cD hp j) = true)
    (hx:(xs.toList.map λx=>(fr.ev x).mapRef (toName (bG ids)))++cs.map .d=args) (hhd:mG ids hp=hh) (hret:Ret C.P F hh (λ_=>false) args r hp') (hr:r.mapRef (fwd ids hp.length)=r') (hb:mD ids hp hp'=hp2)
    (h:cE C ops l ⟨(d,r') :: fr,hp2⟩ K):cE C ops (⟨some d,.call { callee:=.value f,args:=xs,argTypes:=ts },ty,pos,after,none⟩ :: l) ⟨fr,hp⟩ K:=by
  subst hr hb hhd;exact eB rfl (zAM ids args r hp' rfl hd hf hc hnd hal hx hret h)
theorem qUM {t t' e:TypeId} {x:Operand} {dd:D} {n:Nat} (hd:decide (d < C.n)=true) (hu:C.P.underlying t=some (.slice e)) (hx:fr.ev x=.d dd) (hn:(AV.d dd).slLen=some n)
    (h:∀ b:Bool,(b=true->n=0)->cE C ops l ⟨(d,.d (.bool b)) :: fr,hp⟩ K):cE C ops (⟨some d,.binOp .eql t x (.const (.slice none 0 0)) t',ty,pos,after,none⟩ :: l) ⟨fr,hp⟩ K:=
  eB rfl (eqNil rfl hd hu hx hn rfl rfl h)
end steps
def qMW (op:BinOp) (p q:Bool):Option Bool:=
  match op with
  | .eql=>some (p == q)
  | .neq=>some (!(p == q))
  | _=>none
theorem qSE {t:TypeId} (hu:P.underlying t=some .bool) (p q:Bool) (w:World):(Op.equal t (.bool p) (.bool q)).run P w=.ok (p == q) w:=by
  have h:(Op.equalIn (9999+1) t (.bool p) (.bool q)).run P w=.ok (p == q) w:=by
    unfold Op.equalIn;simp [run_underlying hu]
  exact h
theorem zBY {o:Oper} {ev:Operand->AV} {hp:List Blk} {op:BinOp} {t t':TypeId} {x y:Operand} {p q r:Bool} (hu:C.P.underlying t=some .bool) (ho:o.op=.binOp op t x y t') (hx:ev x=.d (.bool p)) (hy:ev y=.d (.bool q)) (hr:qMW op p q=some r):RdOk C o ev hp (.d (.bool r)):=
  RdOk.mk λst hhp hag g a w hs=>by
    have h:=hs.ev x;rw [hag x (by simp [ho,Op.operands]),hx] at h;have hi:=hs.ev y;rw [hag y (by simp [ho,Op.operands]),hy] at hi;refine⟨.bool r,?_,.d _ _ (.bool r)⟩
    have hg:(eqGuard op t x y (.bool p) (.bool q)).run C.P w=.ok () w:=by
      unfold eqGuard;cases op<;>simp
    simp only [execOp,ho,bool_inv h,bool_inv hi,Sem.run_bind,hg,Result.andThen_ok];cases op<;>simp only [qMW] at hr<;>cases hr<;>simp [binOp,qSE hu]
theorem qLR {o:Oper} {ev:Operand->AV} {hp:List Blk} {F:FuncId} {caps:Array Operand} {ds:List D} (ho:o.op=.makeFunc (.func F) #[] caps) (hx:evD (caps.toList.map ev)=some ds):RdOk C o ev hp (.d (.clo F ds)):=
  RdOk.mk λst hhp hag g a w hs=>by
    refine⟨.func (.func F) #[] (caps.map a.eval),by simp [execOp,ho,Instr.makeFunc],.d _ _ (.clo _ _ _ ?_ λi c v hc hv=>?_)⟩
    · have:=congrArg List.length (tE hx);simpa using this.symm
    simp only [Array.getElem?_map,Option.map_eq_some_iff] at hv;obtain⟨z,hz,rfl⟩:=hv;have h1:(caps.toList.map ev)[i]?=some (.d c):=by rw [tE hx];simp [hc]
    simp only [List.getElem?_map,Option.map_eq_some_iff] at h1;obtain⟨y,hy,hyc⟩:=h1;have e:y=z:=by rw [<- Array.getElem?_toList,hy] at hz;exact Option.some.inj hz
    subst e;have h:=hs.ev y;rw [hag y (by simp only [ho,Op.operands];exact Array.mem_append.2 (.inr (Array.mem_toList_iff.1 (List.mem_of_getElem? hy)))),hyc] at h;cases h with|d _ _ h=>exact h
def DLe (d d':D):Prop:=∀ (w:World) (X:Nat->Prop) (v:Value),DRep w X d v->DRep w X d' v
theorem DLe.refl (d:D):DLe d d:=λ_ _ _ h=>h
theorem DLe.nil (sz:Nat):DLe .nilsl (.sl sz []):=λ_ _ _ h=>by cases h;exact .sl0 _ _ _
inductive DLes:List D->List D->Prop
  | nil:DLes [] []
  | cons {d d':D} {ds ds':List D} (h:DLe d d') (h1:d'.one=true) (hr:DLes ds ds'):DLes (d :: ds) (d' :: ds')
section weak
variable {ops:Array Oper} {l:List Oper} {K:St->Prop} {fr:Fr} {hp:List Blk}
end weak
theorem pN {c:Code} {Q:Exit->St->Prop} {α:Type} {fr:Fr} {hp:List Blk} (var:α->Fr) (chg:α->List (Nat×Blk)) (ok:α->Prop) (m:α->Nat) (vk ik ids:List Nat) (x0:α) {inv:Fr} {hp0:List Blk} (hnd:ids.Nodup) (hk:∀ i,i < C.k->ids[i]?=some i) (h0:ok x0)
    (hI:SubK fr ik inv) (hI':Fr.mapRef (toName (bG ids)) inv=inv) (hV:Fr.mapRef (toName (bG ids)) (Fr.keep vk fr)=var x0) (hH:ids.map (λi=>(hp.getD i .dead).mapRef (toName (bG ids)))=hp0) (hC:hp0=wr (chg x0) hp0)
    (round:∀ x,ok x->TWp C c ⟨var x++inv,wr (chg x) hp0⟩ (rG (λst'=>∃ y ids',ids'.Nodup/\(∀ i,i < C.k->ids'[i]?=some i)/\ok y/\m y < m x/\st'.canon (vk++ik) ids'=⟨var y++inv,wr (chg y) hp0⟩) Q)):TWp C (.loop c) ⟨fr,hp⟩ Q:=by
  refine qWD (λx=>(⟨var x++inv,wr (chg x) hp0⟩:St)) ok m (vk++ik) ids x0 hnd hk h0 ?_ round;simp only [St.canon]
  have e1:Fr.keep (vk++ik) fr=Fr.keep vk fr++inv:=by
    rw [hI.keep];simp [Fr.keep]
  have e2:∀ (F:AV->AV) (a b:Fr),Fr.mapRef F (a++b)=Fr.mapRef F a++Fr.mapRef F b:=by
    intro F a b
    induction a with
    | nil=>rfl
    | cons x r ih=>obtain⟨t,v⟩:=x;simp [Fr.mapRef,ih]
  rw [e1,e2,hI',hV,hH]
  congr 1
variable {P:Program} {st:St}
theorem aK {b c:Bool} (h:b=c):AV.d (.bool b)=.d (.bool c):=h ▸ rfl
theorem tG {C:Ctx} {hp:List Blk} {o:Oper} {ev:Operand->AV} {op:BinOp} {t t':TypeId} {x y:Operand} {m n r' r:Int} (ho:o.op=.binOp op t x y t') (hx:ev x=.d (.int .i64 m)) (hy:ev y=.d (.int .i64 n)) (hr:qVY op m n=some r') (e:r'=r) (hb:-9223372036854775808<=r/\r<=9223372036854775807):RdOk C o ev hp (.d (.int .i64 r)):=
  tH ho hx hy (e ▸ hr) hb
theorem zEI {α:Type} {f:α->D} {xs:List α} {v:Int} {x:α} (h0:0<=v) (h:xs[v.toNat]?=some x):0<=v/\(xs.map f)[v.toNat]?=some (f x):=⟨h0,by simp [h]⟩
inductive NormC:List AV->List AV->Prop
  | nil {cs:List AV} (h:cs=[]):NormC cs []
  | cons {cs r r':List AV} {v:AV} (h:cs=v :: r) (hr:NormC r r'):NormC cs (v :: r')
section
variable {cs r r':List AV}
end
def I64 (n:Int):Prop:=-9223372036854775808<=n/\n<=9223372036854775807
instance (n:Int):Decidable (I64 n):=inferInstanceAs (Decidable (_/\_))
def zCI {α:Type} (p:α->Bool) (xs:List α) (i:Nat):Prop:=(xs.take i).any p=false
theorem jL {α:Type} {xs:List α} {i:Nat} (h:i < xs.length):∃ x,xs[i]?=some x:=⟨_,List.getElem?_eq_getElem h⟩
theorem RetN.unit {F:FuncId} {ds:List D} {d:D} (h:Ret P F [] (λ_=>false) (ds.map .d) (.d d) []) (hm:D.mem0 d=true):RetN P F ds d:=.lit h hm
theorem RetD.of {F:FuncId} {ds:List D} {d:D} {mv:Nat->Bool} (h:Ret P F [] mv (ds.map .d) (.d d) []):RetD P F ds d:=⟨mv,_,_,h,.d d⟩
theorem RetT.of {F:FuncId} {ds rs:List D} {mv:Nat->Bool} (h:Ret P F [] mv (ds.map .d) (.tup (rs.map .d)) []):RetT P F ds rs:=⟨mv,_,_,h,.mk _ _ (tM rfl)⟩
variable {C:Ctx} {st:St} {g:Gh} {a:Act} {w:World} {P:Program}
def EndsS (P:Program) (rs:List ResultVar) (d:D) (st:St):Prop:=∃ x d0,ResOk P st rs x/\Snap st.hp x d0/\DLe d0 d
theorem EndsS.one {rs:List ResultVar} {d d0:D} (x:AV) (h:zH st.fr rs=some x) (hs:Snap st.hp x d0) (hd:DLe d0 d):EndsS P rs d st:=⟨x,d0,res h,hs,hd⟩
theorem EndsS.cell {a t id off s:Nat} {ty:TypeId} {cs:List AV} (x:AV) {d:D} (hl:lay P t=some (true,s)) (ha:st.fr.get a=.mptr id 0 0 off) (hb:st.hp[id]?=some (.box ty cs)) (hc:Nat.ble (off+s) cs.length=true) (hv:rP ((cs.drop off).take s)=x) (hs:Snap st.hp x d):EndsS P [.cell a t] d st:=
  ⟨_,d,.mk _ (.cons (.agg hl ha hb hc hv) .nil) rfl,hs,.refl _⟩
def bodyQS (P:Program) (rs:List ResultVar) (d:D):Exit->St->Prop
  | .normal,st|.ret,st=>EndsS P rs d st
  | _,_=>False
theorem Sim.endS {mv:Nat->Bool} {w0:World} {g0:Gh} {n:Nat} (hs:Sim ⟨P,n,w0,0,g0,mv⟩ st g a w):∃ g',Out ⟨P,0,w0,0,g0,mv⟩ [] g' w/\∀ (x:AV) (d:D) (v:Value),ARep w g x v->Snap st.hp x d->ARep w g' (.d d) v:=by
  let g':Gh:={ phi:=λ_=>none,psi:=λ_=>0,X:=λb=>g.X b\/∃ i,g.phi i=some b }
  refine⟨g',?_,λx d v hx hsn=>.d _ _ (lN (st:=st) hs.hp hsn (Y:=g'.X) (λb hb=>.inl hb) (λi b hp=>.inr ⟨i,hp⟩) hx)⟩
  refine { defers := rfl, size := rfl, fr := fun _ => .junk _, hp := fun i B h => by simp at h, lt := fun i b h => by simp [g'] at h, inj := fun i j b _ _ _ _ _ _ h => by simp [g'] at h, Xlt := ?_, Xold := ?_
           os := hs.os, tape := hs.tape, output := hs.output, drawn := hs.drawn, grown := hs.grown, keep := hs.keep, own := fun i b h => by simp [g'] at h, stay := fun i b h => absurd h (Nat.not_lt_zero i), kle := Nat.zero_le _, laid := hs.laid }
  · intro b hb
    rcases hb with hb|⟨i,hb⟩
    · exact hs.Xlt b hb
    exact (hs.lt i b hb).1
  intro b hb hlt;rcases hb with hb|⟨i,hb⟩
  · exact hs.Xold b hb hlt
  exact absurd (hs.own i b hb hlt).1 (Nat.not_lt_zero i)
theorem aJ {F:FuncId} {fn:Func} {c:Code} {mv:Nat->Bool} {args:List AV} {d:D} {n:Nat} {rs:List ResultVar} (hcb:qW P F=true) (hf:P.funcs[F]?=some fn) (hb:fn.body=some c) (hn:fn.ntmps=n) (hrs:fn.results.toList=rs) (hle:Nat.ble args.length n=true)
    (h:∀ w g,TWp ⟨P,n,w,0,g,mv⟩ c ⟨yF args,[]⟩ (bodyQS P rs d)):Ret P F [] mv args (.d d) []:=by
  subst hn hrs;have hn:=Nat.le_of_ble_eq_true hle;refine⟨hcb,?_⟩;intro w g vs hout hargs;have hlen:vs.size=args.length:=by have:=hargs.1;simpa using this.symm
  have hsim:Sim ⟨P,fn.ntmps,w,0,g,mv⟩ ⟨yF args,[]⟩ g { tmps:=vs++Array.replicate (fn.ntmps - vs.size) undef,defers:=[] } w:=by
    refine Out.sim (C:=⟨P,fn.ntmps,w,0,g,mv⟩) hout rfl ?_ λt=>?_
    · simp only [Array.size_append,Array.size_replicate];omega
    unfold yF;rw [wZ,if_pos (Nat.zero_le _),Nat.sub_zero];by_cases ht:t < args.length
    · have h1:args[t]?=some args[t]:=List.getElem?_eq_getElem ht
      have h2:vs.toList[t]?=some (vs.toList[t]'(by simpa [hlen] using ht)):=List.getElem?_eq_getElem _;have h3:=hargs.2 t _ _ h1 h2;rw [h1]
      have h4:(vs++Array.replicate (fn.ntmps - vs.size) undef).getD t undef=vs.toList[t]'(by simpa [hlen] using ht):=by
        rw [Array.getD_eq_getD_getElem?,Array.getElem?_append,if_pos (by omega)];simp [show t < vs.size by omega]
      rw [h4];exact h3
    rw [List.getElem?_eq_none (by omega)];exact .junk _
  refine calls_of_wp hf hb (Go.wp_mono (h w g g _ w hsim) ?_);intro e a' w' hq;obtain⟨st',g',hQ,hs'⟩:=hq
  have fin:EndsS P fn.results.toList d st'->a'.defers=[]/\∃ v,(results fn a'.tmps).run P w'=.ok v w'/\∃ v' g',Ending.returned v=.returned v'/\Out ⟨P,0,w,0,g,mv⟩ [] g' w'/\ARep w' g' (.d d) v':=by
    rintro⟨x,d0,hx,hsn,hd⟩;obtain⟨v,hv,hrep⟩:=uX (P:=P) hs' hx;obtain⟨g2,h1,h2⟩:=hs'.endS;have h3:=h2 _ _ _ hrep hsn;exact⟨hs'.defers,v,hv,v,g2,rfl,h1,by cases h3 with|d _ _ q=>exact .d _ _ (hd _ _ _ q)⟩
  cases e with
  | normal=>exact fin hQ
  | ret=>exact fin hQ
  | _=>exact hQ.elim
inductive DLa:List D->List D->Prop
  | nil:DLa [] []
  | cons {d d':D} {ds ds':List D} (h:DLe d d') (hr:DLa ds ds'):DLa (d :: ds) (d' :: ds')
theorem DLa.key {ds ds':List D} (h:DLa ds ds'):ds.length=ds'.length/\∀ (i:Nat) (c c':D),ds[i]?=some c->ds'[i]?=some c'->DLe c c':=by
  induction h with
  | nil=>exact⟨rfl,λi c c' h=>by simp at h⟩
  | cons h _ ih=>
    refine⟨by simp [ih.1],λi c c' hc hc'=>?_⟩
    cases i with
    | zero=>simp at hc hc';subst hc hc';exact h
    | succ i=>exact ih.2 i c c' (by simpa using hc) (by simpa using hc')
theorem Ret.args {F:FuncId} {hp hp':List Blk} {mv:Nat->Bool} {ds ds':List D} {r:AV} (h:Ret P F hp mv (ds'.map .d) r hp') (hd:DLa ds ds'):Ret P F hp mv (ds.map .d) r hp':=by
  refine⟨h.1,λw g vs ho ha=>h.2 w g vs ho ⟨by have:=ha.1;simpa [hd.key.1] using this,λi x v hx hv=>?_⟩⟩;simp only [List.getElem?_map,Option.map_eq_some_iff] at hx;obtain⟨c',hc',rfl⟩:=hx;have hi:i < ds.length:=by rw [hd.key.1];exact (List.getElem?_eq_some_iff.1 hc').1
  have:=ha.2 i (.d ds[i]) v (by simp [hi]) hv;cases this with|d _ _ hr=>exact .d _ _ (hd.key.2 i ds[i] c' (by simp [hi]) hc' _ _ _ hr)
inductive SnapsW (hp:List Blk):List AV->List D->Prop
  | nil:SnapsW hp [] []
  | cons {x:AV} {d0 d:D} {xs:List AV} {ds:List D} (h:Snap hp x d0) (hd:DLe d0 d) (hr:SnapsW hp xs ds):SnapsW hp (x :: xs) (d :: ds)
theorem SnapsW.key {hp:List Blk} {xs:List AV} {ds:List D} (h:SnapsW hp xs ds):xs.length=ds.length/\∀ (i:Nat) (x:AV) (d:D),xs[i]?=some x->ds[i]?=some d->∃ d0,Snap hp x d0/\DLe d0 d:=by
  induction h with
  | nil=>exact⟨rfl,λi x d h=>by simp at h⟩
  | cons h hd _ ih=>
    refine⟨by simp [ih.1],λi x d hx hd'=>?_⟩
    cases i with
    | zero=>simp at hx hd';subst hx hd';exact⟨_,h,hd⟩
    | succ i=>exact ih.2 i x d (by simpa using hx) (by simpa using hd')
def EndsT (P:Program) (rs:List ResultVar) (ds:List D) (st:St):Prop:=∃ xs,ResOk P st rs (.tup xs)/\SnapsW st.hp xs ds
def bodyQT (P:Program) (rs:List ResultVar) (ds:List D):Exit->St->Prop
  | .normal,st|.ret,st=>EndsT P rs ds st
  | _,_=>False
theorem EndsT.two {rs:List ResultVar} {x y:AV} {a b a0 b0:D} (h:zH st.fr rs=some (.tup [x,y])) (h1:Snap st.hp x a0) (d1:DLe a0 a) (h2:Snap st.hp y b0) (d2:DLe b0 b):EndsT P rs [a,b] st:=
  ⟨_,res h,.cons h1 d1 (.cons h2 d2 .nil)⟩
theorem dW {F:FuncId} {fn:Func} {c:Code} {mv:Nat->Bool} {args:List AV} {ds:List D} {n:Nat} {rs:List ResultVar} (hcb:qW P F=true) (hf:P.funcs[F]?=some fn) (hb:fn.body=some c) (hn:fn.ntmps=n) (hrs:fn.results.toList=rs) (hle:Nat.ble args.length n=true)
    (h:∀ w g,TWp ⟨P,n,w,0,g,mv⟩ c ⟨yF args,[]⟩ (bodyQT P rs ds)):Ret P F [] mv args (.tup (ds.map .d)) []:=by
  subst hn hrs;have hn:=Nat.le_of_ble_eq_true hle;refine⟨hcb,?_⟩;intro w g vs hout hargs;have hlen:vs.size=args.length:=by have:=hargs.1;simpa using this.symm
  have hsim:Sim ⟨P,fn.ntmps,w,0,g,mv⟩ ⟨yF args,[]⟩ g { tmps:=vs++Array.replicate (fn.ntmps - vs.size) undef,defers:=[] } w:=by
    refine Out.sim (C:=⟨P,fn.ntmps,w,0,g,mv⟩) hout rfl ?_ λt=>?_
    · simp only [Array.size_append,Array.size_replicate];omega
    unfold yF;rw [wZ,if_pos (Nat.zero_le _),Nat.sub_zero];by_cases ht:t < args.length
    · have h1:args[t]?=some args[t]:=List.getElem?_eq_getElem ht
      have h2:vs.toList[t]?=some (vs.toList[t]'(by simpa [hlen] using ht)):=List.getElem?_eq_getElem _;have h3:=hargs.2 t _ _ h1 h2;rw [h1]
      have h4:(vs++Array.replicate (fn.ntmps - vs.size) undef).getD t undef=vs.toList[t]'(by simpa [hlen] using ht):=by
        rw [Array.getD_eq_getD_getElem?,Array.getElem?_append,if_pos (by omega)];simp [show t < vs.size by omega]
      rw [h4];exact h3
    rw [List.getElem?_eq_none (by omega)];exact .junk _
  refine calls_of_wp hf hb (Go.wp_mono (h w g g _ w hsim) ?_);intro e a' w' hq;obtain⟨st',g',hQ,hs'⟩:=hq
  have fin:EndsT P fn.results.toList ds st'->a'.defers=[]/\∃ v,(results fn a'.tmps).run P w'=.ok v w'/\∃ v' g',Ending.returned v=.returned v'/\Out ⟨P,0,w,0,g,mv⟩ [] g' w'/\ARep w' g' (.tup (ds.map .d)) v':=by
    rintro⟨xs,hx,hsn⟩;obtain⟨v,hv,hrep⟩:=uX (P:=P) hs' hx;obtain⟨g2,h1,h2⟩:=hs'.endS;refine⟨hs'.defers,v,hv,v,g2,rfl,h1,?_⟩;have hkey:=hsn.key
    have key:xs.length=ds.length/\∀ (i:Nat) (x:AV) (d:D) (u:Value),xs[i]?=some x->ds[i]?=some d->ARep w' g' x u->ARep w' g2 (.d d) u:=by
      refine⟨hkey.1,λi x d u hx hd hu=>?_⟩;obtain⟨d0,q1,q2⟩:=hkey.2 i x d hx hd;have:=h2 _ _ _ hu q1;cases this with|d _ _ q=>exact .d _ _ (q2 _ _ _ q)
    cases hrep with
    | tup _ us hl hr=>
      refine .tup _ us (by rw [List.length_map,<- key.1];exact hl) λi c u hci hu=>?_;simp only [List.getElem?_map,Option.map_eq_some_iff] at hci;obtain⟨d,hd,rfl⟩:=hci;have hi:i < xs.length:=by rw [key.1];exact (List.getElem?_eq_some_iff.1 hd).1
      exact key.2 i xs[i] d u (by simp [hi]) hd (hr i xs[i] u (by simp [hi]) hu)
  cases e with
  | normal=>exact fin hQ
  | ret=>exact fin hQ
  | _=>exact hQ.elim
end Go.TL
