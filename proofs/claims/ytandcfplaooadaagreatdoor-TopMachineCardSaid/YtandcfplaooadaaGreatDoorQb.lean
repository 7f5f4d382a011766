/- A part of the proof. No condition. -/
import Derived.Test.YtandcfplaooadaaGreatDoorQa
set_option linter.unusedSimpArgs false
set_option linter.unusedVariables false

namespace Go.TL
variable {C:Ctx}{st:St}{g:Gh}{a:Act}{w:World}{P:Program}
variable {F:FuncId}{c:Code}{caps xs:Array Operand}{cs ds ds':List D}{ev:Operand->AV}{f fo j n:Nat}{hp hp' hpn:List Blk}{ids:List Nat}{mv:Nat->Bool}{o:Oper}{rs:List ResultVar}{s t t':TypeId}{vs:Array Value}{ws:List (Nat×Blk)}{x y:Operand}{α:Type}
theorem Et(ho:o.op=.makeFunc (.func F) #[] caps):RdOk C o ev hp (.fnc F (caps.toList.map ev)):=RdOk.mk λst hhp hag g a w hs=>by refine⟨.func (.func F) #[] (caps.map a.eval),by simp[execOp,ho,Instr.makeFunc],.fnc _ _ _ aN λi c v hc hv=>?_⟩;simp only[eS,zal165q]at hc;simp only[Array.getElem?_map,zal165q]at hv;obtain⟨y,hy,rfl⟩:=hc;obtain⟨z,hz,rfl⟩:=hv;have e:y=z:=(by rw[<- Array.getElem?_toList,hy]at hz;exact bO hz);subst e;have h:=hs.ev y;rw[hag y zaP49q]at h;exact h
def Qn:D->Option (FuncId×List D)
  |.fn F=>some (F,[])
  |.clo F cs=>some (F,cs)
  |_=>none
theorem Lb{c:D}{X:Nat->Prop}{v:Value}(h:DRep w X c v)(hc:Qn c=some (F,cs)):∃vs:Array Value,v=.func (.func F) #[] vs/\Pw (DRep w X) cs vs.toList:=by cases h with|fn f=>cases hc;exact⟨#[],rfl,rfl,λi x y h=>nV⟩|clo f cs vs hl h=>cases hc;exact⟨vs,rfl,qf,λi x y hx hy=>h i x y hx yR⟩|_=>cases hc
theorem Out.frozen{g':Gh}{w':World}(hs:Sim C st g a w)(hout:Out ⟨C.P,0,w,0,hU g.X,mv⟩ hp' g' w'):
    ∃g2,Sim C st g2 a w'/\∀(r:AV)(d:D)(v:Value),ARep w' g' r v->Snap hp' r d->ARep w' g2 (.d d) v:=by
  have hX:∀b,g'.X b->b<w.heap.size->g.X b:=λb hb hlt=>hout.Xold b hb hlt;have hold:∀b,b<w.heap.size->w'.heap[b]?=w.heap[b]?:=λb hb=>hout.keep b hb λi hi=>absurd hi (rL i);have hsz:=hout.grown;simp only at hsz
  let g2:Gh:={ g with X:=λb=>g.X b\/(w.heap.size<=b/\b<w'.heap.size) }
  have hgr:Grow w g w' g2:=⟨λ_ _ h=>h,λ_ _ _=>rfl,λ_ h=>.inl h,λb hb=>hold b (hs.Xlt b hb)⟩;refine⟨g2,?_,λr d v hr hsn=>(.d _ _ (zA (st:=⟨[],hp'⟩) hout.hp hsn (Y:=g2.X) (λb hb=>?_) (λi b hp=>?_) hr))⟩
  refine { defers := hs.defers, size := hs.size, fr := fun t => (hs.fr t).mono hgr, hp := fun i B hB => (hs.hp i B hB).mono hgr id fun b hb => hold b (hs.lt i b hb).1, lt := ?_, inj := hs.inj, Xlt := ?_, Xold := ?_
           os:=hout.os.trans hs.os,tape:=hout.tape.trans hs.tape,output:=hout.output.trans hs.output,drawn:=eR hs.drawn hout.drawn,grown:=eR hs.grown hsz,keep:=?_,own:=hs.own,stay:=hs.stay,kle:=hs.kle,laid:=hs.laid }
  · intro i b hp
    have:=hs.lt i b hp;refine⟨aB,this.2.1,λhX=>?_⟩;rcases hX with hX|⟨hX,_⟩
    exact this.2.2 hX;omega
  intro b hb;rcases hb with hb|⟨_,hb⟩
  have:=hs.Xlt b hb;omega;exact hb;intro b hb hlt;rcases hb with hb|⟨hge,_⟩
  exact hs.Xold b hb hlt;have:=hs.grown;omega;intro b hb hk;rw[hold b (by have:=hs.grown;omega)];exact hs.keep b hb hk;by_cases hlt:b<w.heap.size
  · exact .inl (hX b hb hlt)
  exact .inr ⟨aB,hout.Xlt b hb⟩;refine .inr ⟨?_,(hout.lt i b hp).1⟩;rcases fU b w.heap.size with hlt|hge
  exact absurd (hout.own i b hp hlt).1 (rL _);exact hge
inductive SnapT (hp:List Blk):AV->List D->Prop
  |mk (xs:List AV) (ds:List D) (h:Dq hp xs ds):SnapT hp (.tup xs) ds
def RetT(P:Program)(F:FuncId)(ds:List D)(rs:List D):Prop:=∃mv r hp',Ret P F [] mv (ds.map .d) r hp'/\SnapT hp' r rs
theorem dargs(hs:Sim C st g a w)(hag:∀y∈xs,st.fr.ev y=ev y)(hx:xs.toList.map ev=ds.map .d)(hc:Pw (DRep w g.X) cs vs.toList):Pw (ARep w (hU g.X)) ((ds++cs).map .d) (xs.map a.eval++vs).toList:=by rw[gS,Me];refine Pw.append ?_ ?_;refine⟨by have:=congrArg List.length hx;simpa using this.symm,λi x v hxi hv=>?_⟩;simp only[fb,eS,zal165q]at hv;obtain⟨y,hy,rfl⟩:=hv;have h1:(xs.toList.map ev)[i]?=some (ev y):=ya;rw[hx,hxi]at h1;cases h1;have h2:=hs.ev y;rw[hag y (zal10q.1 (fQ hy))]at h2;simp only[eS,zal165q]at hxi;obtain⟨d,_,hd⟩:=hxi;rw[<- hd]at h2⊢;(cases h2 with|d _ _ h=>exact .d _ _ h);refine⟨by simpa using hc.1,λi x v hxi hv=>?_⟩;simp only[eS,zal165q]at hxi;obtain⟨d,hd,rfl⟩:=hxi;exact .d _ _ (hc.2 i d v hd hv)
section calls
variable {o:Oper}{ev:Operand->AV}{hp:List Blk}{f:Operand}{xs:Array Operand}{ts:Array TypeId}{F:FuncId}
theorem Xf{c:D}{cs ds:List D}{d:D}(ho:o.op=.call { callee:=.value f,args:=xs,argTypes:=ts })(hf:ev f=.d c)(hc:Qn c=some (F,cs))(hx:xs.toList.map ev=ds.map .d)(hret:RetD C.P F (ds++cs) d):RdOk C o ev hp (.d d):=by obtain⟨mv,r,hp',hret,hsn⟩:=hret;intro st hhp hag g a w hs Q K' hK;have hfv:=hs.ev f;rw[hag f C8,hf]at hfv;obtain⟨vs,hv,hvs⟩:∃vs:Array Value,a.eval f=.func (.func F) #[] vs/\Pw (DRep w g.X) cs vs.toList:=(by cases hfv with|d _ _ h=>exact Lb h hc);have hargs:=dargs hs (λy hy=>hag y zaP58q) hx hvs;simp only[Oper.wp,kO ho hv hret.1,Oper.upon_enter];refine(hret.2 w (hU g.X) _ (qKE hs mv hs.Xlt) hargs).mono ?_;rintro e w' ⟨v,g',rfl,hout,hr⟩;obtain⟨g2,h1,h2⟩:=Out.frozen hs hout;exact hK v w' g2 h1 (h2 _ _ _ hr hsn)
theorem Gq{c:D}{cs ds rs:List D}(ho:o.op=.call { callee:=.value f,args:=xs,argTypes:=ts })(hf:ev f=.d c)(hc:Qn c=some (F,cs))(hx:xs.toList.map ev=ds.map .d)(hret:RetT C.P F (ds++cs) rs):RdOk C o ev hp (.tup (rs.map .d)):=by obtain⟨mv,r,hp',hret,hsn⟩:=hret;intro st hhp hag g a w hs Q K' hK;have hfv:=hs.ev f;rw[hag f C8,hf]at hfv;obtain⟨vs,hv,hvs⟩:∃vs:Array Value,a.eval f=.func (.func F) #[] vs/\Pw (DRep w g.X) cs vs.toList:=(by cases hfv with|d _ _ h=>exact Lb h hc);have hargs:=dargs hs (λy hy=>hag y zaP58q) hx hvs;simp only[Oper.wp,kO ho hv hret.1,Oper.upon_enter];refine(hret.2 w (hU g.X) _ (qKE hs mv hs.Xlt) hargs).mono ?_;rintro e w' ⟨v,g',rfl,hout,hr⟩;cases hsn with|mk ys ds' hsn=>cases hr with|tup _ us hl hr=>obtain⟨g2,h1,h2⟩:=Out.frozen hs hout;refine hK _ w' g2 h1 (.tup _ us (by rw[uR,<- hsn.1];exact hl) λi c u hci hu=>?_);simp only[eS,zal165q]at hci;obtain⟨d,hd,rfl⟩:=hci;have hi:i<ys.length:=(by rw[hsn.1];exact(zal72q.1 hd).1);exact h2 _ _ _ (hr i ys[i] u xI hu) (hsn.2 i ys[i] d xI hd)
end calls
def Nt(P:Program)(t:TypeId):Bool:=match P.underlying t with|some (.interface _)=>false|some _=>true|none=>false
theorem Ys(h:Nt P t=true):∃u,P.underlying t=some u/\∀ms,u≠.interface ms:=by unfold Nt at h;split at h;cases h;rename_i u hne hu;exact⟨u,hu,λms e=>hne ms e⟩;cases h
section ifc
variable {o:Oper}{ev:Operand->AV}{hp:List Blk}{x y:Operand}{t:TypeId}
variable {d:D}{e t' xt:TypeId}
theorem qOW(ho:o.op=.makeInterface t x)(hc:Nt C.P t=true)(hx:ev x=.d d):RdOk C o ev hp (.d (.iface t d)):=RdOk.mk λst hhp hag g a w hs=>by have h:=hs.ev x;rw[hag x fN,hx]at h;obtain⟨u,hu,hne⟩:=Ys hc;refine⟨.iface t (a.eval x),?_,.d _ _ (.iface _ _ _ (by cases h with|d _ _ h=>exact h))⟩;simp only[execOp,ho];cases u<;>first|(exfalso;exact hne _ rfl)|simp[Instr.makeInterface,run_underlying hu]
theorem Kc(ho:o.op=.typeAssert x xt t true)(hc:Nt C.P t=true)(hx:ev x=.d (.iface t d)):RdOk C o ev hp (.tup [.d d,.d (.bool true)]):=RdOk.mk λst hhp hag g a w hs=>by have h:=hs.ev x;rw[hag x fN,hx]at h;generalize he:a.eval x=vx at *;obtain⟨u,hu,hne⟩:=Ys hc;cases h with|d _ _ h=>cases h with|iface _ _ v h=>refine⟨.tuple #[v,.bool true],?_,.tup _ _ rfl λi c v hc hv=>?_⟩;(· simp only[execOp,ho,he];cases u<;>first|(exfalso;exact hne _ rfl)|simp[Instr.typeAssert,run_underlying hu]);match i,hc,hv with|0,hc,hv=>simp at hc hv;subst hc hv;exact .d _ _ h|1,hc,hv=>simp at hc hv;subst hc hv;exact .d _ _ (.bool true)|i+2,hc,_=>simp at hc
theorem yf{t:TypeId}{z:Value}(hz:(P.info? t).bind (·.zero)=some z)(w:World):(zeroValue t).run P w=.ok z w:=by obtain⟨i,hi,hzi⟩:=cx hz;simp[zeroValue,typeInfo,hi,hzi]
theorem qJT{z:Value}{zd:D}(ho:o.op=.typeAssert x xt t true)(hc:Nt C.P t=true)(hx:ev x=.d (.iface t' d))(hne':Nat.beq t' t=false)(hz:(C.P.info? t).bind (·.zero)=some z)(hzd:gP z=.d zd):RdOk C o ev hp (.tup [.d zd,.d (.bool false)]):=RdOk.mk λst hhp hag g a w hs=>by have h:=hs.ev x;rw[hag x fN,hx]at h;generalize he:a.eval x=vx at *;obtain⟨u,hu,hne⟩:=Ys hc;have hneq:¬t'=t:=λe=>(by subst e;simp at hne');cases h with|d _ _ h=>cases h with|iface _ _ v h=>refine⟨.tuple #[z,.bool false],?_,.tup _ _ rfl λi c v hc hv=>?_⟩;(· simp only[execOp,ho,he];cases u<;>first|(exfalso;exact hne _ rfl)|simp[Instr.typeAssert,run_underlying hu,hneq,yf hz]);match i,hc,hv with|0,hc,hv=>simp at hc hv;subst hc hv;rw[<- hzd];exact oY w g _|1,hc,hv=>simp at hc hv;subst hc hv;exact .d _ _ (.bool false)|i+2,hc,_=>simp at hc
theorem qUY{t:TypeId}(hu:P.underlying t=some (.slice e))(b:Option Addr)(n cap:Nat)(w:World):(binOp .eql t (.slice b n cap) (.slice none 0 0)).run P w=.ok (.bool b.isNone) w:=by have h:(Op.equalIn (9999+1) t (.slice b n cap) (.slice none 0 0)).run P w=.ok b.isNone w:=(by unfold Op.equalIn;cases b<;>simp[run_underlying hu]);have h':(Op.equal t (.slice b n cap) (.slice none 0 0)).run P w=.ok b.isNone w:=h;simp[binOp,h']
theorem guard_sl{op:BinOp}{t:TypeId}{b b':Option Addr}{n n' cap cap':Nat}(w:World):(eqGuard op t x y (.slice b n cap) (.slice b' n' cap')).run P w=.ok () w:=by unfold eqGuard;cases op<;>simp
theorem eqNil{o:Oper}{K:St->Prop}{t:TypeId}{x y:Operand}{n:Nat}(ho:o.op=.binOp .eql t x y t')(hd:vC C.n o.dst=true)(hu:C.P.underlying t=some (.slice e))(hx:st.fr.ev x=.d d)(hn:(AV.d d).slLen=some n)(hy:st.fr.ev y=.d .nilsl)(hy':y=.const (.slice none 0 0))(h:∀b:Bool,(b=true->n=0)->K (st.put o.dst (.d (.bool b)))):OpOk C o st K:=by subst hy';intro g a w Q hs;have hv:=hs.ev x;rw[hx]at hv;obtain⟨b,len,cap,hv,hb⟩:∃b len cap,a.eval x=.slice b len cap/\(b.isNone=true->n=0):=(by generalize a.eval x=v at *;cases hv with|d _ _ h=>cases h with|nilsl ad=>exact⟨_,_,_,rfl,λ_=>by simpa[AV.slLen]using hn.symm⟩|sl0=>exact⟨_,_,_,rfl,λ_=>by simpa[AV.slLen]using hn.symm⟩|sl=>exact⟨_,_,_,rfl,λh=>by cases h⟩|_=>cases hn);have hr:(execOp a.eval o).run C.P w=.ok (.value (.bool b.isNone)) w:=(by have he:a.eval (.const (.slice none 0 0))=.slice none 0 0:=rfl;simp only[execOp,ho,hv,he,Sem.run_bind,guard_sl,Result.andThen_ok,qUY hu];rfl);simp only[Oper.wp,hr,Oper.upon_value];exact⟨_,g,h _ hb,hs.put' hd (.d _ _ (.bool _))⟩
end ifc
def qQE(P:Program)(s:TypeId)(f:Nat):Option (Nat×Bool×Nat):=
  match P.underlying s with
  |some (.struct fs)=>match fs[f]? with
    |some fl=>match lay P fl.type with
      |some (b,n)=>some (fl.offset,b,n)
      |none=>none
    |none=>none
  |_=>none
theorem qVG{u v:AV}(ho:o.op=.field s x f)(hf:qQE C.P s f=some (fo,false,n))(hx:ev x=u)(hagg:u.isAgg=true)(hv:u.cells[fo]?=some v):RdOk C o ev hp v:=by unfold qQE at hf;split at hf;rename_i fs hu;split at hf;rename_i fl hfl;split at hf;rename_i b n' hl;cases hf;exact qJS _ _ false _ u v fs fl ho hu hfl rfl rfl hl hx hagg tZ;cases hf;cases hf;cases hf
theorem qOY{u v:AV}(ho:o.op=.field s x f)(hf:qQE C.P s f=some (fo,true,n))(hx:ev x=u)(hagg:u.isAgg=true)(hle:Nat.ble (fo+n) u.cells.length=true)(hv:zg ((u.cells.drop fo).take n)=v):RdOk C o ev hp v:=by unfold qQE at hf;split at hf;rename_i fs hu;split at hf;rename_i fl hfl;split at hf;rename_i b n' hl;cases hf;exact qJS _ _ true _ u v fs fl ho hu hfl rfl rfl hl hx hagg ⟨iP hle,hv.symm⟩;cases hf;cases hf;cases hf
def Blk.isLp:Blk->Bool
  |.lp ..=>true
  |.mapv ..=>true
  |_=>false
def Blk.alive:Blk->Bool
  |.dead=>false
  |_=>true
def Vn(i:Nat)(B:Blk)(al:Nat->Bool):AV->AV
  |.mptr j s x o=>if j=i then(match B with
      |.box _ cs=>if s=0/\x=0 then(match qXH cs with|some ds=>.d (.ptr (.agg ds) o)|none=>.junk)else .junk
      |.flat _ sz es=>if s=sz then(match es[x]? with|some e=>.d (.ptr e o)|none=>.junk)else .junk
      |_=>.junk)else if al j then .mptr j s x o else .junk
  |.msl j s o l=>if j=i then(match B with
      |.flat _ sz es=>if s=sz/\o+l<=es.length then .d (.sl sz ((es.drop o).take l))else .junk
      |_=>.junk)else if al j then .msl j s o l else .junk
  |.mmap j=>if j=i then .junk else if al j then .mmap j else .junk
  |.yld j=>if j=i then .junk else if al j then .yld j else .junk
  |.mmapN j n=>if j=i then .junk else if al j then .mmapN j n else .junk
  |v=>v
def dV(hp:List Blk)(j:Nat):Bool:=(hp.getD j .dead).alive
def St.freeze(i:Nat)(st:St):St:=⟨Fr.mapRef (Vn i (st.hp.getD i .dead) (dV st.hp)) st.fr,(st.hp.map (Blk.mapRef (Vn i (st.hp.getD i .dead) (dV st.hp)))).set i .dead⟩
theorem nK(h:dV hp j=true):∃B,hp[j]?=some B/\B≠.dead:=by unfold dV at h;cases hB:hp[j]? with|none=>rw[wC,hB]at h;cases h|some B=>exact⟨B,rfl,λe=>by subst e;rw[wC,hB]at h;cases h⟩
theorem Sim.freezeX(h:Sim C st g a w)(i:Nat)(hk:C.k<=i)(hal:dV st.hp i=true)(hks:∀j,j<C.k->dV st.hp j=true):∃g',Sim C (st.freeze i) g' a w/\(∀b,g.phi i=some b->g'.X b)/\∀b,g.X b->g'.X b:=by
  obtain⟨B,hB,hBd⟩:=nK hal;have hgB:st.hp.getD i .dead=B:=by rw[wC,hB];rfl
  have hil:i<st.hp.length:=(zal72q.1 hB).1
  let g':Gh:={ phi:=λj=>if g.phi j=g.phi i then none else g.phi j,psi:=g.psi,X:=λb=>g.X b\/g.phi i=some b }
  have hphi:∀j b,g'.phi j=some b->g.phi j=some b/\g.phi i≠some b:=by
    intro j b hp;simp only[g']at hp;split at hp;cases hp;rename_i hne;exact⟨hp,λe=>hne (hp.trans e.symm)⟩
  have keep:∀j b,dV st.hp j=true->j≠i->g.phi j=some b->g'.phi j=some b:=by
    intro j b ha hne hp;obtain⟨Bj,hBj,hBjd⟩:=nK ha;simp only[g'];rw[if_neg];exact hp;intro e;exact hne (h.inj j i b Bj B hBj hB hBjd hBd hp (e ▸ hp))
  have hX:∀b,g.X b->g'.X b:=λb hb=>.inl hb;have hD:∀(d:D)(v:Value),DRep w g.X d v->DRep w g'.X d v:=λd v hd=>hd.mono hX λ_ _=>rfl
  let g1:Gh:={ phi:=λj=>if j=i then g.phi i else none,psi:=g.psi,X:=g.X }
  let hp1:List Blk:=(List.replicate st.hp.length Blk.dead).set i B
  have hp1i:hp1[i]?=some B:=by simp[hp1,hil]
  have hY:∀j b,g1.phi j=some b->g'.X b:=by
    intro j b hp;simp only[g1]at hp;split at hp;exact .inr hp;cases hp
  have hrep:(∀ty cs,B=.box ty cs->∃ds,qXH cs=some ds)/\B.isLp=false->∀(j:Nat)(Bj:Blk),hp1[j]?=some Bj->BRep w g1 j Bj:=by
    intro ⟨hdat,hnl⟩ j Bj hj;by_cases hji:j=i;subst hji;rw[hp1i]at hj;cases hj;have h0:=h.hp j B hB
    cases B with
    |dead=>trivial
    |hole=>
      have h0:g.phi j=none:=h0;show g1.phi j=none;simpa[g1]using h0
    |flat ty sz es=>
      rcases h0 with⟨he,hp⟩|⟨b,cells,hp,hw,hs,hl,h0,h1,hr⟩
      exact .inl ⟨he,Mj⟩;exact .inr ⟨b,cells,Mj,hw,hs,hl,h0,h1,hr⟩
    |box ty cs=>
      obtain⟨b,cells,hp,hw,hs,hl,hr⟩:=h0;obtain⟨ds,hds⟩:=hdat ty cs rfl;obtain⟨rfl,_⟩:=Hd cs ds hds;refine⟨b,cells,Mj,hw,hs,hl,λjj c v hc hv=>?_⟩;have:=hr jj c v hc hv;simp only[eS,zal165q]at hc;obtain⟨d,_,rfl⟩:=hc;cases this with|d _ _ hd=>exact .d _ _ hd
    |map kt vt es=>
      rcases h0 with⟨he,hp⟩|⟨b,ents,clock,hp,hw,hs,hr⟩
      exact .inl ⟨he,Mj⟩;exact .inr ⟨b,ents,clock,Mj,hw,hs,hr⟩
    |ob q=>obtain⟨b,hp,hw⟩:=h0;exact⟨b,Mj,hw⟩
    |lp=>cases hnl
    |mapv=>cases hnl
    simp only[hp1]at hj;rw[tV (λe=>hji e.symm),bc]at hj;split at hj;cases hj;trivial;cases hj
  have hF:∀(x:AV)(v:Value),ARep w g x v->x.isRef=true->ARep w g' (Vn i (st.hp.getD i .dead) (dV st.hp) x) v:=by
    intro x v hx hr;rw[hgB]
    cases hx with
    |msl0 j s o ad=>
      simp only[Vn];split
      cases B with
      |flat ty sz es=>
        simp only;split;simp only[List.take_zero];exact .d _ _ (.sl0 _ _ _);exact .junk _
      |_=>exact .junk _
      split
      · exact .msl0 _ _ _ _
      exact .junk _
    |msl j s o l cap b hb hc hp=>
      simp only[Vn];split;rename_i hji;subst hji
      cases B with
      |flat ty sz es=>
        simp only;split;rename_i hh;obtain⟨rfl,hle⟩:=hh;exact .d _ _ (zA (st:=⟨[],hp1⟩) (g:=g1) (hrep ⟨λ_ _ e=>(by cases e),rfl⟩) (Snap.msl j s o l ty es hp1i hle) hX hY (.msl j s o l cap b qEB hc hp));exact .junk _
      |_=>exact .junk _
      rename_i hne;split;rename_i hal';exact .msl _ _ _ _ _ b (keep j b hal' hne hb) hc hp;exact .junk _
    |mptr j s x o b hb=>
      simp only[Vn];split;rename_i hji;subst hji
      cases B with
      |flat ty sz es=>
        simp only;split;rename_i hs;subst hs;split;rename_i e he;exact .d _ _ (zA (st:=⟨[],hp1⟩) (g:=g1) (hrep ⟨λ_ _ e=>(by cases e),rfl⟩) (Snap.mptrF j s x o ty es e hp1i he) hX hY (.mptr j s x o b qEB));exact .junk _;exact .junk _
      |box ty cs=>
        simp only;split;rename_i hh;obtain⟨rfl,rfl⟩:=hh;split;rename_i ds hds;obtain⟨hcs,h1⟩:=Hd cs ds hds
        exact .d _ _ (zA (st:=⟨[],hp1⟩) (g:=g1) (hrep ⟨λ_ _ e=>(by cases e;exact⟨ds,hds⟩),rfl⟩) (Snap.mptrB j o ty cs ds hp1i (by rw[hcs];simp) h1 (λi c d hc hd=>by
          rw[hcs]at hc;simp only[eS,hd,jB,jA]at hc
          subst hc;exact .d d)) hX hY (.mptr j 0 0 o b qEB))
        exact .junk _;exact .junk _
      |_=>exact .junk _
      rename_i hne;split;rename_i hal';exact .mptr _ _ _ _ b (keep j b hal' hne hb);exact .junk _
    |mmap j b hb=>
      simp only[Vn];split;exact .junk _;rename_i hne;split;rename_i hal';exact .mmap _ b (keep j b hal' hne hb);exact .junk _
    |yld j b hb=>
      simp only[Vn];split;exact .junk _;rename_i hne;split;rename_i hal';exact .yld _ b (keep j b hal' hne hb);exact .junk _
    |mmapN0 j=>
      simp only[Vn];split;exact .junk _;split
      · exact .mmapN0 _
      exact .junk _
    |mmapN j n b hb=>
      simp only[Vn];split;exact .junk _;rename_i hne;split;rename_i hal';exact .mmapN _ _ b (keep j b hal' hne hb);exact .junk _
    |_=>cases hr
  have inv:∀(j:Nat)(Bj:Blk),(st.freeze i).hp[j]?=some Bj->Bj≠.dead->j≠i/\∃B',st.hp[j]?=some B'/\B'≠.dead/\Bj=B'.mapRef (Vn i (st.hp.getD i .dead) (dV st.hp)):=by
    intro j Bj hj hd;simp only[St.freeze]at hj;rw[iC]at hj;split at hj;split at hj
    · cases hj;exact absurd rfl hd
    cases hj;rename_i hne;simp only[eS,zal165q]at hj;obtain⟨B',hB',rfl⟩:=hj;exact⟨λe=>hne e.symm,B',hB',λe=>qDQ,rfl⟩
  refine⟨g',{ defers:=h.defers,size:=h.size,fr:=λt=>?_,hp:=?_,lt:=?_,inj:=?_,Xlt:=?_,Xold:=?_,os:=h.os,tape:=h.tape,output:=h.output,drawn:=h.drawn,grown:=h.grown,keep:=h.keep,own:=?_,stay:=?_,kle:=?_,laid:=h.laid },λ_ hb=>.inr hb,hX⟩;simp only[St.freeze,Fr.get_mapRef];exact(h.fr t).mapRef hD hF
  · intro j Bj hj
    by_cases hd:Bj=.dead;subst hd;trivial;obtain⟨hne,B',hB',hd',rfl⟩:=inv j Bj hj hd
    have hal':dV st.hp j=true:=by
      unfold dV;rw[wC,hB'];cases B'<;>first|rfl|exact absurd rfl hd'
    refine BRep.mapRef (i:=j) (g:=g) (g':=g') ?_ rfl hX hF (h.hp j B' hB')
    cases hp:g.phi j with
    |none=>simp only[g'];split<;>first|rfl|exact hp
    |some b=>exact keep j b hal' hne hp
  intro j b hp;obtain⟨h1,h2⟩:=hphi j b hp;have:=h.lt j b h1;refine⟨this.1,by simpa[St.freeze]using this.2.1,λhx=>?_⟩;rcases hx with hx|hx
  exact this.2.2 hx;exact h2 hx;intro j j' b Bj Bj' hBj hBj' hdj hdj' hj hj';obtain⟨_,B1,e1,d1,_⟩:=inv j Bj hBj hdj;obtain⟨_,B2,e2,d2,_⟩:=inv j' Bj' hBj' hdj';exact h.inj j j' b B1 B2 e1 e2 d1 d2 (hphi j b hj).1 (hphi j' b hj').1;intro b hb;rcases hb with hb|hb
  exact h.Xlt b hb;exact(h.lt i b hb).1;intro b hb hlt;rcases hb with hb|hb
  exact h.Xold b hb hlt;have:=(h.own i b hb hlt).1;omega;intro j b hp hb;exact h.own j b (hphi j b hp).1 hb;intro j b hj hm hp;have hst:=h.stay j b hj hm hp;exact⟨hst.1,keep j b (hks j hj) aB hst.2⟩;have:=h.kle;simpa[St.freeze]using this
theorem Sim.freeze(h:Sim C st g a w)(i:Nat)(hk:C.k<=i)(hal:dV st.hp i=true)(hks:∀j,j<C.k->dV st.hp j=true):∃g',Sim C (st.freeze i) g' a w:=
  let ⟨g',h,_⟩:=h.freezeX i hk hal hks
  ⟨g',h⟩
theorem qOB{Q:Exit->St->Prop}{fr:Fr}(i:Nat)(hk:C.k<=i)(hal:dV hp i=true)(hks:∀j,j<C.k->dV hp j=true)(h:TWp C c (St.freeze i ⟨fr,hp⟩) Q):TWp C c ⟨fr,hp⟩ Q:=λ_ a w hs=>by obtain⟨g',hs'⟩:=hs.freeze i hk hal hks;exact h g' a w hs'
variable {C:Ctx}{st:St}{g:Gh}{a:Act}{w:World}{P:Program}
def back(ids:List Nat)(n:Nat)(i:Nat):Nat:=match ids[i]? with|some j=>j|none=>n+(i-ids.length)
def fwd(ids:List Nat)(n:Nat):AV->AV
  |.msl i s o l=>.msl (back ids n i) s o l
  |.mptr i s x o=>.mptr (back ids n i) s x o
  |.mmap i=>.mmap (back ids n i)
  |.yld i=>.yld (back ids n i)
  |.mmapN i m=>.mmapN (back ids n i) m
  |v=>v
def wJ(ids:List Nat)(hp hp':List Blk):List Blk:=(hp.zipIdx.map λp=>match bI ids p.2 with|some i=>(hp'.getD i .dead).mapRef (fwd ids hp.length)|none=>p.1)++(hp'.drop ids.length).map (Blk.mapRef (fwd ids hp.length))
def Gh.back(g:Gh)(ids:List Nat)(n B:Nat)(g':Gh):Gh:=
  { phi := fun j => match bI ids j with
      |some i=>g'.phi i
      |none=>if j<n then g.phi j else g'.phi (ids.length+(j-n))
    psi:=λj=>match bI ids j with
      |some i=>g'.psi i
      |none=>if j<n then g.psi j else g'.psi (ids.length+(j-n))
    X:=λb=>g.X b\/(B<=b/\g'.X b) }
theorem I4:∀{ids:List Nat},ids.Nodup->∀{i j:Nat},ids[i]?=some j->bI ids j=some i
  |[],_,i,j,h=>nV
  |x::r,hn,i,j,h=>by
    simp only[zal125q]at hn
    cases i with
    |zero=>simp at h;subst h;simp[bI]
    |succ i=>
      simp at h;have hne:x≠j:=λe=>by subst e;exact hn.1 (fQ h)
      simp[bI,hne,I4 hn.2 h]
theorem Ck(h:bI ids j=none):∀i:Nat,ids[i]?≠some j:=by induction ids with|nil=>intro i h;simp at h|cons x r ih=>simp only[bI]at h;split at h;cases h;rename_i hne;simp only[Be]at h;intro i hi;cases i with|zero=>simp at hi;exact hne hi|succ i=>simp at hi;exact ih h i hi
section back
variable {ids:List Nat}{n B:Nat}{g':Gh}
theorem qQS(hnd:ids.Nodup)(hlt:∀j∈ids,j<n)(i:Nat):(i<ids.length/\bI ids (back ids n i)=some i)\/(ids.length<=i/\back ids n i=n+(i-ids.length)/\bI ids (back ids n i)=none):=by unfold TL.back;cases h:ids[i]? with|some j=>exact .inl ⟨(zal72q.1 h).1,I4 hnd h⟩|none=>have hi:=List.getElem?_eq_none_iff.1 h;refine .inr ⟨hi,rfl,?_⟩;cases hp:bI ids (n+(i-ids.length))with|none=>rfl|some k=>have:=hlt _ (fQ (dM ids _ _ hp));omega
theorem z7(hnd:ids.Nodup)(hlt:∀j∈ids,j<n)(i:Nat):(g.back ids n B g').phi (back ids n i)=g'.phi i/\(g.back ids n B g').psi (back ids n i)=g'.psi i:=by rcases qQS hnd hlt i with⟨_,h⟩|⟨hi,he,h⟩;simp[Gh.back,h];simp only[Gh.back,h];rw[he,if_neg aB,if_neg aB];constructor<;>congr 1<;>omega
theorem ARep.fwd{w':World}(hnd:ids.Nodup)(hlt:∀j∈ids,j<n){x:AV}{v:Value}(h:ARep w' g' x v)(hr:x.isRef=true):ARep w' (g.back ids n B g') (TL.fwd ids n x) v:=by cases h with|msl0=>exact .msl0 _ _ _ _|msl id sz off len cap b hb hc hp=>exact .msl _ _ _ _ _ b ((z7 hnd hlt id).1.trans hb) hc (by rw[(z7 hnd hlt id).2];exact hp)|mptr id sz idx off b hb=>exact .mptr _ _ _ _ b ((z7 hnd hlt id).1.trans hb)|mmap id b hb=>exact .mmap _ b ((z7 hnd hlt id).1.trans hb)|yld id b hb=>exact .yld _ b ((z7 hnd hlt id).1.trans hb)|mmapN0=>exact .mmapN0 _|mmapN id n b hb=>exact .mmapN _ _ b ((z7 hnd hlt id).1.trans hb)|_=>cases hr
end back
theorem Yb{B:Blk}(h:(wJ ids hp hp')[j]?=some B):(∃i,bI ids j=some i/\j<hp.length/\B=(hp'.getD i .dead).mapRef (fwd ids hp.length))\/(bI ids j=none/\j<hp.length/\hp[j]?=some B)\/(hp.length<=j/\∃B',hp'[ids.length+(j-hp.length)]?=some B'/\B=B'.mapRef (fwd ids hp.length)):=by unfold wJ at h;rw[kN]at h;split at h;rename_i hlt;simp only[uR,List.length_zipIdx]at hlt;simp only[eS,Vx,Option.map_map,zal165q,Function.comp_def,iO]at h;obtain⟨B0,hB0,e⟩:=h;split at e;rename_i i hi;exact .inl ⟨i,hi,hlt,e.symm⟩;rename_i hi;exact .inr (.inl ⟨hi,hlt,by rw[hB0,e]⟩);rename_i hge;simp only[uR,List.length_zipIdx]at hge h;simp only[eS,nC,zal165q]at h;obtain⟨B',hB',e⟩:=h;exact .inr (.inr ⟨aB,B',hB',e.symm⟩)
theorem yl:(wJ ids hp hp').length=hp.length+(hp'.length-ids.length):=by simp[wJ]
def vQ(ids:List Nat)(hp:List Blk):List Blk:=ids.map λi=>(hp.getD i .dead).mapRef (toName (bI ids))
theorem Sim.handed(hs:Sim C st g a w)(hnd:ids.Nodup):Out ⟨C.P,0,w,(vQ ids st.hp).length,g.canon ids,λ_=>false⟩ (vQ ids st.hp) (g.canon ids) w:=by have hc:=hs.canon;have hphi:∀i b,(g.canon ids).phi i=some b->∃j,ids[i]?=some j/\g.phi j=some b:=(by intro i b hp;simp only[Gh.canon,zal162q]at hp;exact hp);have hf:∀i j,bI ids i=some j->(g.canon ids).phi j=g.phi i/\(g.canon ids).psi j=g.psi i:=(by intro i j hij;have:=dM ids i j hij;simp[Gh.canon,this]);refine{ defers:=rfl,size:=rfl,fr:=λ_=>.junk _,hp:=?_,lt:=?_,inj:=?_,Xlt:=hs.Xlt,Xold:=λb h _=>h,os:=rfl,tape:=rfl,output:=rfl,drawn:=fY _,grown:=fY _,keep:=λ_ _ _=>rfl,own:=?_,stay:=?_,kle:=?_,laid:=λx hx=>⟨(hs.laidW x hx).1,λi hp=>by obtain⟨j,_,h⟩:=hphi i x.1 hp;exact(hs.laidW x hx).2 j h⟩ };intro i B hi;simp only[vQ,eS,zal165q]at hi;obtain⟨j,hj,rfl⟩:=hi;(cases hB:st.hp[j]? with|none=>simp[List.getD,hB,Blk.mapRef,BRep]|some B=>rw[wC,hB];exact BRep.mapRef (i:=j) (g:=g) (g':=g.canon ids) qDP qDP (λ_ hb=>hb) (ARep.toName hf λ_ hb=>hb) (hs.hp j B hB));intro i b hp;obtain⟨j,hj,hp'⟩:=hphi i b hp;have:=hs.lt j b hp';exact⟨this.1,by simpa[vQ]using(zal72q.1 hj).1,this.2.2⟩;intro i j b Bi Bj hBi hBj hdi hdj hi hj;obtain⟨i',hi',hpi⟩:=hphi i b hi;obtain⟨j',hj',hpj⟩:=hphi j b hj;have inv:∀(m m':Nat)(Bm:Blk),ids[m]?=some m'->(vQ ids st.hp)[m]?=some Bm->Bm≠.dead->∃B',st.hp[m']?=some B'/\B'≠.dead:=(by intro m m' Bm hm hB hd;simp only[vQ,eS,hm,jB,jA]at hB;cases hh:st.hp[m']? with|none=>rw[wC,hh]at hB;subst hB;exact absurd rfl hd|some B'=>refine⟨B',rfl,λe=>?_⟩;subst e;rw[wC,hh]at hB;subst hB;exact hd rfl);obtain⟨B1,e1,d1⟩:=inv i i' Bi hi' hBi hdi;obtain⟨B2,e2,d2⟩:=inv j j' Bj hj' hBj hdj;have e:=hs.inj i' j' b B1 B2 e1 e2 d1 d2 hpi hpj;subst e;exact k7 hnd hi' hj';intro i b hp _;obtain⟨j,hj,_⟩:=hphi i b hp;exact⟨by simpa[vQ]using(zal72q.1 hj).1,hp⟩;intro i b _ _ hp;exact⟨rfl,hp⟩;exact fY _
def yj(ids:List Nat)(mv:Nat->Bool)(j:Nat):Bool:=match bI ids j with
  |some i=>mv i
  |none=>false
def lI(S:Nat->Bool):AV->AV
  |.msl j s o l=>bif S j then .junk else .msl j s o l
  |.mptr j s x o=>bif S j then .junk else .mptr j s x o
  |.mmap j=>bif S j then .junk else .mmap j
  |.yld j=>bif S j then .junk else .yld j
  |.mmapN j n=>bif S j then .junk else .mmapN j n
  |v=>v
theorem Sim.backM(hs:Sim C st g a w)(mv:Nat->Bool)(hnd:ids.Nodup)(hal:∀j∈ids,dV st.hp j=true)(hmv:∀j,j<C.k->yj ids mv j=true->C.mv j=true){g':Gh}{w':World}(ho:Out ⟨C.P,0,w,(vQ ids st.hp).length,g.canon ids,mv⟩ hp' g' w'):
    Sim C ⟨Fr.mapRef (lI (yj ids mv)) st.fr,wJ ids (st.hp.map (Blk.mapRef (lI (yj ids mv)))) hp'⟩ (g.back ids st.hp.length w.heap.size g') a w':=by
  have hlen:(vQ ids st.hp).length=ids.length:=by simp[vQ]
  have hlt:∀j∈ids,j<st.hp.length:=λj hj=>by obtain⟨B,hB,_⟩:=nK (hal j hj);exact(zal72q.1 hB).1
  have hcan:∀i b,(g.canon ids).phi i=some b->∃j:Nat,ids[i]?=some j/\g.phi j=some b:=by
    intro i b hp;simp only[Gh.canon,zal162q]at hp;exact hp
  have hcan':∀i j:Nat,ids[i]?=some j->(g.canon ids).phi i=g.phi j/\(g.canon ids).psi i=g.psi j:=by
    intro i j hij;simp[Gh.canon,hij]
  have hklen:=ho.kle;simp only[hlen]at hklen;have hsz:=ho.grown;simp only at hsz
  have hstay:∀i j b:Nat,ids[i]?=some j->mv i=false->g.phi j=some b->g'.psi i=g.psi j/\g'.phi i=some b:=by
    intro i j b hij hm hp;have h1:=hcan' i j hij;have:=ho.stay i b (by simp only[hlen];exact(zal72q.1 hij).1) hm (by rw[h1.1];exact hp);simp only at this;rw[h1.2]at this;exact this
  have hold:∀b,b<w.heap.size->(∀i j:Nat,ids[i]?=some j->g.phi j≠some b)->w'.heap[b]?=w.heap[b]?:=by
    intro b hb hne;refine ho.keep b hb λi hi hp=>?_;obtain⟨j,hj,hp'⟩:=hcan i b hp;exact hne i j hj hp'
  have hold':∀j b (B:Blk),st.hp[j]?=some B->B≠.dead->bI ids j=none->g.phi j=some b->w'.heap[b]?=w.heap[b]?:=by
    intro j b B hB hd hp hb;refine hold b (hs.lt j b hb).1 λi j' hij hp'=>?_;obtain⟨B',hB',hd'⟩:=nK (hal j' (fQ hij));have:=hs.inj j j' b B B' hB hB' hd hd' hb hp';subst this;exact Ck hp i hij
  have hbelow:∀i b,g'.phi i=some b->b<w.heap.size->∃i' j:Nat,ids[i']?=some j/\g.phi j=some b:=by
    intro i b hp hb;obtain⟨_,h⟩:=ho.own i b hp hb;obtain⟨j,hj,hp'⟩:=hcan i b h;exact⟨i,j,hj,hp'⟩
  have hX:∀b,g'.X b->(g.back ids st.hp.length w.heap.size g').X b:=by
    intro b hb;by_cases hlt':b<w.heap.size;exact .inl (ho.Xold b hb hlt');exact .inr ⟨aB,hb⟩
  let g1:Gh:={ g with phi:=λj=>if yj ids mv j=true then none else g.phi j }
  have hg1:∀j b,g1.phi j=some b->yj ids mv j=false/\g.phi j=some b:=by
    intro j b hp;simp only[g1]at hp;split at hp;cases hp;rename_i hne;exact⟨by simpa using hne,hp⟩
  have hF1:∀(x:AV)(v:Value),ARep w g x v->x.isRef=true->ARep w g1 (lI (yj ids mv) x) v:=by
    intro x v hx hr
    cases hx with
    |msl0 id sz off ad=>
      simp only[lI];cases yj ids mv id;exact .msl0 _ _ _ _;exact .junk _
    |msl id sz off len cap b hb hc hp=>
      simp only[lI];cases hm:yj ids mv id;exact .msl _ _ _ _ cap b V4 hc hp;exact .junk _
    |mptr id sz idx off b hb=>
      simp only[lI];cases hm:yj ids mv id;exact .mptr _ _ _ _ b V4;exact .junk _
    |mmap id b hb=>
      simp only[lI];cases hm:yj ids mv id;exact .mmap _ b V4;exact .junk _
    |yld id b hb=>
      simp only[lI];cases hm:yj ids mv id;exact .yld _ b V4;exact .junk _
    |mmapN0 id=>
      simp only[lI];cases yj ids mv id;exact .mmapN0 _;exact .junk _
    |mmapN id n b hb=>
      simp only[lI];cases hm:yj ids mv id;exact .mmapN _ _ b V4;exact .junk _
    |_=>cases hr
  have hfr1:∀t,ARep w g1 ((Fr.mapRef (lI (yj ids mv)) st.fr).get t) (a.tmps.getD t undef):=λt=>by
    rw[Fr.get_mapRef];exact ARep.mapRef (w:=w) (g:=g) (g':=g1) (λd v hd=>hd) hF1 (hs.fr t)
  have hgr:Grow w g1 w' (g.back ids st.hp.length w.heap.size g'):=by
    refine⟨λj b hp=>?_,λj b hp=>?_,λb hb=>.inl hb,λb hb=>?_⟩;obtain⟨hm,hp⟩:=hg1 j b hp;simp only[Gh.back]
    cases hpl:bI ids j with
    |some i=>exact(hstay i j b (dM ids _ _ hpl) (by simpa[yj,hpl]using hm) hp).2
    |none=>simp only;rw[if_pos (hs.lt j b hp).2.1];exact hp
    obtain⟨hm,hp⟩:=hg1 j b hp;simp only[Gh.back]
    cases hpl:bI ids j with
    |some i=>exact(hstay i j b (dM ids _ _ hpl) (by simpa[yj,hpl]using hm) hp).1
    |none=>simp only;rw[if_pos (hs.lt j b hp).2.1]
    exact hold b (hs.Xlt b hb) λi j _ hp=>(hs.lt j b hp).2.2 hb
  have hphi:∀j b,(g.back ids st.hp.length w.heap.size g').phi j=some b->(∃i,bI ids j=some i/\g'.phi i=some b)\/(bI ids j=none/\j<st.hp.length/\g.phi j=some b)\/(st.hp.length<=j/\g'.phi (ids.length+(j-st.hp.length))=some b):=by
    intro j b hp;simp only[Gh.back]at hp
    cases hpl:bI ids j with
    |some i=>rw[hpl]at hp;exact .inl ⟨i,rfl,hp⟩
    |none=>
      rw[hpl]at hp;simp only at hp;split at hp;rename_i hj;exact .inr (.inl ⟨rfl,hj,hp⟩);rename_i hj;exact .inr (.inr ⟨aB,hp⟩)
  have hql:(st.hp.map (Blk.mapRef (lI (yj ids mv)))).length=st.hp.length:=uR _
  have hget:∀{j:Nat}{B:Blk},(st.hp.map (Blk.mapRef (lI (yj ids mv))))[j]?=some B->∃B0,st.hp[j]?=some B0/\B=B0.mapRef (lI (yj ids mv)):=by
    intro j B h;simp only[eS,zal165q]at h;obtain⟨B0,h1,h2⟩:=h;exact⟨B0,h1,h2.symm⟩
  refine{ defers:=hs.defers,size:=hs.size,fr:=λt=>(hfr1 t).mono hgr,hp:=?_,lt:=?_,inj:=?_,Xlt:=?_,Xold:=?_,os:=ho.os.trans hs.os,tape:=ho.tape.trans hs.tape,output:=ho.output.trans hs.output,drawn:=eR hs.drawn ho.drawn,grown:=eR hs.grown hsz,keep:=?_,own:=?_,stay:=?_,kle:=?_,laid:=hs.laid };intro j B hj;have hF:∀x v,ARep w' g' x v->x.isRef=true->ARep w' (g.back ids st.hp.length w.heap.size g') (fwd ids st.hp.length x) v:=λx v hx hr=>hx.fwd hnd hlt hr;rcases Yb hj with⟨i,hpl,hjl,rfl⟩|⟨hpl,hjl,hB⟩|⟨hjl,B',hB',rfl⟩
  rw[hql];have hi:i<ids.length:=(zal72q.1 (dM ids _ _ hpl)).1;have hB':hp'[i]?=some (hp'.getD i .dead):=by rw[wC,jT aB];rfl
  exact BRep.mapRef (i:=i) (g:=g') (by simp[Gh.back,hpl]) (by simp[Gh.back,hpl]) hX hF (ho.hp i _ hB');obtain⟨B0,hB0,rfl⟩:=hget hB;rw[hql]at hjl;by_cases hd:B0=.dead;subst hd;trivial;have hm : yj ids mv j = false := by simp [yj, hpl]
  have h1:BRep w g1 j (B0.mapRef (lI (yj ids mv))):=BRep.mapRef (i:=j) (g:=g) (g':=g1) (by simp[g1,hm]) rfl (λ_ hb=>hb) hF1 (hs.hp j B0 hB0);refine h1.mono hgr (λhn=>?_) λb hb=>hold' j b B0 hB0 hd hpl (hg1 j b hb).2;simp only[g1,hm]at hn;simpa[Gh.back,hpl,hjl]using hn;rw[hql]at hjl hB'⊢
  have hpl:bI ids j=none:=by
    cases hp:bI ids j with
    |none=>rfl
    |some k=>have:=hlt _ (fQ (dM ids _ _ hp));omega
  exact BRep.mapRef (i:=ids.length+(j-st.hp.length)) (g:=g') zaP75q zaP75q hX hF (ho.hp _ B' hB');intro j b hp;rw[yl,hql]
  have own':∀i,g'.phi i=some b->¬(g.back ids st.hp.length w.heap.size g').X b:=by
    intro i hi hx;rcases hx with hx|⟨_,hx⟩
    obtain⟨i',j',_,hp'⟩:=hbelow i b hi (hs.Xlt b hx);exact(hs.lt j' b hp').2.2 hx;exact(ho.lt i b hi).2.2 hx
  rcases hphi j b hp with⟨i,hpl,hp'⟩|⟨hpl,hjl,hp'⟩|⟨hjl,hp'⟩
  have:=hlt _ (fQ (dM ids _ _ hpl));exact⟨(ho.lt i b hp').1,aB,own' i hp'⟩;have:=hs.lt j b hp';refine⟨aB,aB,λhx=>?_⟩;rcases hx with hx|⟨hx,_⟩
  exact this.2.2 hx;omega;have:=(ho.lt _ b hp').2.1;simp only at this;exact⟨(ho.lt _ b hp').1,aB,own' _ hp'⟩;intro j j' b Bj Bj' hBj hBj' hdj hdj' hj hj'
  have look:∀(j:Nat)(Bj:Blk),(wJ ids (st.hp.map (Blk.mapRef (lI (yj ids mv)))) hp')[j]?=some Bj->Bj≠.dead->(g.back ids st.hp.length w.heap.size g').phi j=some b->
      (∃i B,hp'[i]?=some B/\B≠.dead/\g'.phi i=some b/\TL.back ids st.hp.length i=j)\/(bI ids j=none/\∃B,st.hp[j]?=some B/\B≠.dead/\g.phi j=some b):=by
    intro j Bj hBj hd hp;rcases Yb hBj with⟨i,hpl,hjl,rfl⟩|⟨hpl,hjl,hB⟩|⟨hjl,B',hB',rfl⟩
    left;have hij:=dM ids _ _ hpl;have hi:i<ids.length:=(zal72q.1 hij).1;refine⟨i,hp'.getD i .dead,by rw[wC,jT aB];rfl,λe=>by rw[e]at hd;exact hd rfl,by simpa[Gh.back,hpl]using hp,by simp[TL.back,hij]⟩;right;obtain⟨B0,hB0,rfl⟩:=hget hB;rw[hql]at hjl;exact⟨hpl,B0,hB0,λe=>qDQ,by simpa[Gh.back,hpl,hjl]using hp⟩;left;rw[hql]at hjl hB'
    have hpl:bI ids j=none:=by
      cases hp:bI ids j with
      |none=>rfl
      |some k=>have:=hlt _ (fQ (dM ids _ _ hp));omega
    refine⟨ids.length+(j-st.hp.length),B',hB',λe=>qDQ,by simpa[Gh.back,hpl,show ¬j<st.hp.length by omega]using hp,?_⟩;simp only[TL.back];rw[nB aB];simp only;omega
  have cross:∀(i j:Nat)(B:Blk),g'.phi i=some b->bI ids j=none->st.hp[j]?=some B->B≠.dead->g.phi j=some b->False:=by
    intro i j B hi hpl hB hd hj;obtain⟨i',j',hij,hp'⟩:=hbelow i b hi (hs.lt j b hj).1;obtain⟨B',hB',hd'⟩:=nK (hal j' (fQ hij));have:=hs.inj j j' b B B' hB hB' hd hd' hj hp';subst this;exact Ck hpl i' hij
  rcases look j Bj hBj hdj hj with⟨i,B,hB,hd,hi,rfl⟩|⟨hpl,B,hB,hd,hi⟩<;>rcases look j' Bj' hBj' hdj' hj' with⟨i',B',hB',hd',hi',rfl⟩|⟨hpl',B',hB',hd',hi'⟩
  rw[ho.inj i i' b B B' hB hB' hd hd' hi hi'];exact(cross i _ B' hi hpl' hB' hd' hi').elim;exact(cross i' _ B hi' hpl hB hd hi).elim;exact hs.inj _ _ b B B' hB hB' hd hd' hi hi';intro b hb;rcases hb with hb|⟨_,hb⟩
  have:=hs.Xlt b hb;omega;exact ho.Xlt b hb;intro b hb hlt';rcases hb with hb|⟨hge,_⟩
  exact hs.Xold b hb hlt';have:=hs.grown;omega;intro b hb hk;rw[hold b (by have:=hs.grown;omega) λi j _ hp=>?_];exact hs.keep b hb hk;obtain⟨hm,h0⟩:=hs.own j b hp hb;exact hk j hm h0;intro j b hp hb;have hbw:b<w.heap.size:=by have:=hs.grown;omega
  rcases hphi j b hp with⟨i,hpl,hp'⟩|⟨_,_,hp'⟩|⟨hjl,hp'⟩
  obtain⟨_,h⟩:=ho.own i b hp' hbw;obtain⟨j',hj',hp2⟩:=hcan i b h;rw[dM ids _ _ hpl]at hj';cases hj';exact hs.own j b hp2 hb;exact hs.own j b hp' hb;have:=(ho.own _ b hp' hbw).1;simp only[hlen]at this;omega;intro j b hj hm hp;have h1:=hs.stay j b hj hm hp;have hjl:=hs.kle
  cases hpl:bI ids j with
  |some i=>
    have hmi:mv i=false:=by
      cases h:mv i with
      |false=>rfl
      |true=>have:=hmv j hj (by simp[yj,hpl,h]);rw[hm]at this;cases this
    have:=hstay i j b (dM ids _ _ hpl) hmi h1.2;simp only[Gh.back,hpl];exact⟨this.1.trans h1.1,this.2⟩
  |none=>
    simp only[Gh.back,hpl];rw[if_pos aB,if_pos aB];exact h1
  rw[yl,hql];have:=hs.kle;omega
mutual
theorem AV.mapRef_self{F:AV->AV}(hF:∀x,x.isRef=true->F x=x):∀v:AV,AV.mapRef F v=v
  |.junk|.und|.d _=>rfl
  |.msl ..|.mptr ..|.mmap _|.yld _|.mmapN ..=>hF _ rfl
  |.agg cs|.tup cs|.fnc _ cs=>by simp only[AV.mapRef,AV.mapRefs_self hF cs]
  |.ifc _ c=>by simp only[AV.mapRef,AV.mapRef_self hF c]
theorem AV.mapRefs_self{F:AV->AV}(hF:∀x,x.isRef=true->F x=x):∀cs:List AV,AV.mapRefs F cs=cs
  |[]=>rfl
  |c::r=>by simp only[AV.mapRefs,AV.mapRef_self hF c,AV.mapRefs_self hF r]
end
theorem Fr.mapRef_self{F:AV->AV}(hF:∀x,x.isRef=true->F x=x):∀fr:Fr,Fr.mapRef F fr=fr
  |[]=>rfl
  |(t,v)::r=>by simp only[Fr.mapRef,AV.mapRef_self hF v,Fr.mapRef_self hF r]
theorem Sim.back(hs:Sim C st g a w){ids:List Nat}(hnd:ids.Nodup)(hal:∀j∈ids,dV st.hp j=true){hp':List Blk}{g':Gh}{w':World}(ho:Out ⟨C.P,0,w,(vQ ids st.hp).length,g.canon ids,λ_=>false⟩ hp' g' w'):Sim C ⟨st.fr,wJ ids st.hp hp'⟩ (g.back ids st.hp.length w.heap.size g') a w':=by have hz:∀j,yj ids (λ_=>false) j=false:=λj=>(by unfold yj;split<;>rfl);have hF:∀x,x.isRef=true->lI (yj ids λ_=>false) x=x:=λx hx=>(by cases x with|msl|mptr|mmap|yld|mmapN=>simp[lI,hz]|_=>cases hx);have h:=hs.backM (λ_=>false) hnd hal (λj _ hm=>by rw[hz]at hm;cases hm) ho;have e1:Fr.mapRef (lI (yj ids λ_=>false)) st.fr=st.fr:=Fr.mapRef_self hF _;have e2:st.hp.map (Blk.mapRef (lI (yj ids λ_=>false)))=st.hp:=(by(conv=>rhs;rw[<- List.map_id st.hp]);refine List.map_congr_left λB _=>?_;cases B with|box ty cs=>simp only[Blk.mapRef,AV.mapRefs_self hF cs,id]|mapv kt vt es=>simp only[Blk.mapRef,AV.mapRef_self hF,id];simp|lp=>simp only[Blk.mapRef,Fr.mapRef_self hF,id]|_=>rfl);rw[e1,e2]at h;exact h
theorem ok_callW{K:St->Prop}{f:Operand}{ts:Array TypeId}{c:D}(ids:List Nat)(args:List AV)(r:AV)(hp':List Blk)(ho:o.op=.call { callee:=.value f,args:=xs,argTypes:=ts })(hd:vC C.n o.dst=true)
    (hf:st.fr.ev f=.d c) (hc:Qn c=some (F,cs)) (hnd:ids.Nodup) (hal:(ids.all λj=>dV st.hp j)=true) (hx:(xs.toList.map λx=>(st.fr.ev x).mapRef (toName (bI ids)))++cs.map .d=args) (hret:Ret C.P F (vQ ids st.hp) (λ_=>false) args r hp')
    (hK:K (St.put ⟨st.fr,wJ ids st.hp hp'⟩ o.dst (r.mapRef (fwd ids st.hp.length)))):OpOk C o st K:=by
  intro g a w Q hs;have hfv:=hs.ev f;rw[hf]at hfv
  obtain⟨vs,hv,hvs⟩:∃vs:Array Value,a.eval f=.func (.func F) #[] vs/\Pw (DRep w g.X) cs vs.toList:=by
    cases hfv with|d _ _ h=>exact Lb h hc
  have hf':∀i j,bI ids i=some j->(g.canon ids).phi j=g.phi i/\(g.canon ids).psi j=g.psi i:=by
    intro i j hij;have:=dM ids i j hij;simp[Gh.canon,this]
  have hargs:Pw (ARep w (g.canon ids)) args (xs.map a.eval++vs).toList:=by
    rw[<- hx,Me];refine Pw.append ⟨aN,λi x v hxi hvi=>?_⟩ ⟨by simpa using hvs.1,λi x v hxi hvi=>?_⟩;simp only[eS,zal165q]at hxi;simp only[fb,eS,zal165q]at hvi;obtain⟨y,hy,rfl⟩:=hxi;obtain⟨z,hz,rfl⟩:=hvi;rw[hy]at hz;cases hz;exact ARep.mapRef (w:=w) (g:=g) (g':=g.canon ids) (λd v hd=>hd) (ARep.toName hf' λ_ hb=>hb) (hs.ev y);simp only[eS,zal165q]at hxi;obtain⟨d,hd',rfl⟩:=hxi;exact .d _ _ (hvs.2 i d v hd' hvi)
  have hal':∀j∈ids,dV st.hp j=true:=λj hj=>zal39q.1 hal j hj;have hlt:∀j∈ids,j<st.hp.length:=λj hj=>by obtain⟨B,hB,_⟩:=nK (hal' j hj);exact(zal72q.1 hB).1
  simp only[Oper.wp,kO ho hv hret.1,Oper.upon_enter];refine(hret.2 w (g.canon ids) _ (hs.handed hnd) hargs).mono ?_;rintro e w' ⟨v,g',rfl,hout,hr⟩;refine⟨_,_,hK,(hs.back hnd hal' hout).put' hd ?_⟩;refine ARep.mapRef (w:=w') (g:=g') (λd v hd=>hd.mono (λb hb=>?_) λ_ _=>rfl) (λx v hx hr=>hx.fwd hnd hlt hr) hr;by_cases hlt':b<w.heap.size;exact .inl (hout.Xold b hb hlt');exact .inr ⟨aB,hb⟩
variable {C:Ctx}{st:St}{g:Gh}{a:Act}{w:World}{P:Program}
theorem DOk.mk{x:AV}(h:∀st:St,HpLe hpn st.hp->(∀y∈o.op.operands,st.fr.ev y=ev y)->∀g a w,Sim C st g a w->∃v w' g',(execOp a.eval o).run C.P w=.ok (.value v) w'/\Sim C ⟨st.fr,wr ws st.hp⟩ g' a w'/\ARep w' g' x v):DOk C o ev hpn x ws:=by intro st h1 _ _ h2 g a w hs Q K' hK;obtain⟨v,w',g',hr,hs',hx⟩:=h st h1 h2 g a w hs;simp only[Oper.wp,hr,Oper.upon_value];exact hK v w' g' hs' hx
theorem DOk.mkS(_hd:o.dst=none)(h:∀st:St,HpLe hpn st.hp->(∀y∈o.op.operands,st.fr.ev y=ev y)->∀g a w,Sim C st g a w->∃w' g',(execOp a.eval o).run C.P w=.ok .skip w'/\Sim C ⟨st.fr,wr ws st.hp⟩ g' a w'):DOk C o ev hpn .junk ws:=by intro st h1 _ _ h2 g a w hs Q K' hK;obtain⟨w',g',hr,hs'⟩:=h st h1 h2 g a w hs;simp only[Oper.wp,hr,Oper.upon_skip];exact hK undef w' g' hs' (.junk _)
theorem RdOk.mkW{x:AV}(h:∀st:St,HpLe hp st.hp->(∀y∈o.op.operands,st.fr.ev y=ev y)->∀g a w,Sim C st g a w->∃v w' g',(execOp a.eval o).run C.P w=.ok (.value v) w'/\Sim C st g' a w'/\ARep w' g' x v):RdOk C o ev hp x:=by intro st h1 h2 g a w hs Q K' hK;obtain⟨v,w',g',hr,hs',hx⟩:=h st h1 h2 g a w hs;simp only[Oper.wp,hr,Oper.upon_value];exact hK v w' g' hs' hx
theorem RowOf.frozen{ty:TypeId}{sz:Nat}{es:List D}(hs:Sim C st g a w)(r:RowOf w g.X sz es vs):∃g',Sim C st g' a (w.alloc (.cells vs ty))/\∀n,n=es.length->ARep (w.alloc (.cells vs ty)) g' (.d (.sl sz es)) (.slice (some ⟨w.heap.size,0,none⟩) n n):=by
  obtain⟨hs',hg⟩:=hs.allocX (.cells vs ty);refine⟨_,hs',λn hn=>.d _ _ ?_⟩;subst hn
  let g1:Gh:={ phi:=λj=>if j=0 then some w.heap.size else none,psi:=λ_=>vs.size,X:=g.X }
  have hrep:∀(j:Nat)(B:Blk),[Blk.flat ty sz es][j]?=some B->BRep (w.alloc (.cells vs ty)) g1 j B:=by
    intro j B hj
    match j,hj with
    |0,hj=>
      cases hj;refine .inr ⟨w.heap.size,vs,by simp[g1],heap_alloc_new w _,rfl,r.le,r.h0,r.h1,λi e j c he hc=>?_⟩;obtain⟨v,hv,hd⟩:=r.rep i e j c he hc;exact⟨v,hv,hd.mono (λ_ h=>h) λb hb=>iU w _ b (hs.Xlt b hb)⟩
    |j+1,hj=>simp at hj
  refine zA (st:=⟨[],[.flat ty sz es]⟩) (g:=g1) hrep ((Snap.msl 0 sz 0 es.length ty es rfl aB).same aN) (λb hb=>.inl hb) (λj b hp=>?_) (v:=.slice (some ⟨w.heap.size,0,none⟩) es.length es.length) ?_;simp only[g1]at hp;split at hp;cases hp;exact .inr rfl;cases hp;have := ARep.msl (w := w.alloc (.cells vs ty)) (g := g1) 0 sz 0 es.length es.length w.heap.size (by simp [g1]) (fY _) (by simp only [iO, g1]; exact r.le);simpa using this
section made
variable {o:Oper}{ev:Operand->AV}{hp:List Blk}{x y:Operand}{t e:TypeId}{sz by':Nat}{z:Value}
variable {bt:TypeId}{es:List D}{i id n off s:Nat}
theorem rd_make{zd:D}(ho:o.op=.makeSlice t x y)(hl:sel C.P t=some (e,sz,by'))(hz:(C.P.info? e).bind (·.zero)=some z)(hzd:gP z=.d zd)(hzs:zd.cells.length=sz)(hx:ev x=.d (.int .i64 n))(hy:ev y=.d (.int .i64 n))(hb:by'*n<=281474976710656)(hm:n<=9223372036854775807):RdOk C o ev hp (.d (.sl sz (List.replicate n zd))):=RdOk.mkW λst hhp hag g a w hs=>by obtain⟨vs,hr,row⟩:=vw (st:=st) sz by' n z zd ho hl hz hzd hzs (by rw[hag x fN,hx]) (by rw[hag y fN,hy]) aB qDV aB hs;obtain⟨g',h1,h2⟩:=row.frozen (ty:=e) hs;exact⟨_,_,g',hr,h1,by have:=h2 n aN;simpa using this⟩
theorem rd_litF{parts:Array (Nat×Operand)}{ds:List D}(xs:List Operand)(ho:o.op=.buildSlice t n parts)(hl:sel C.P t=some (e,sz,by'))(hz:(C.P.info? e).bind (·.zero)=some z)(hp':vD parts xs)(hx:qTE (xs.map ev)=some ds)(hn:Nat.beq ds.length n=true)(hs:(ds.all λd=>Nat.beq d.cells.length sz)=true)(hsmall:Nat.ble (n*sz) 16777216=true):RdOk C o ev hp (.d (.sl sz ds)):=RdOk.mkW λst hhp hag g a w hsim=>by have hmem:∀x∈xs,x∈o.op.operands:=(by intro x hx;simp only[ho,Op.operands];obtain⟨i,hi⟩:=lO hx;have:(xs.zipIdx.map λx=>(x.2,x.1))[i]?=some (i,x):=xI;rw[<- hp']at this;simp only[List.mem_toArray,zal115q];exact⟨(i,x),fQ this,rfl⟩);have hev:xs.map st.fr.ev=ds.map AV.d:=(by rw[<- F0 hx];exact List.map_congr_left λx hx=>hag x (hmem x hx));obtain⟨vs,hr,row,_⟩:=Dn (st:=st) sz by' xs ds z ho hl hz hp' hev (eU hn) (λd hd=>eU (zal39q.1 hs d hd)) (iP hsmall) hsim;obtain⟨g',h1,h2⟩:=row.frozen (ty:=e) hsim;exact⟨_,_,g',hr,h1,h2 n (eU hn).symm⟩
theorem K4{hpn hp':List Blk}(h:hpn[i]?=some .hole)(hle:HpLe hpn hp'):hp'[i]?=some .hole:=hle i _ h λe=>by cases e
theorem rM{cs:List AV}(hi:hp[i]?=some .hole)(ho:o.op=.alloc t)(hz:(C.P.info? t).bind (·.zero)=some z)(hf:(gP z).flat=true)(hc:(gP z).cells=cs):DOk C o ev hp (.mptr i 0 0 0) [(i,.box t cs)]:=DOk.mk λst hhp hag g a w hs=>by subst hc;obtain⟨inf,hinf,hz'⟩:=cx hz;have hpw:=((oY w g z).pw hf).1;have hno:g.phi i=none:=hs.hp i _ (K4 hi hhp);have hg:=hs.grow_at (.cells z.cells t) z.cells.size hno;refine⟨.pointer (some ⟨w.heap.size,0,none⟩),w.alloc (.cells z.cells t),_,by simp[execOp,ho,Instr.alloc,zeroValue,typeInfo,hinf,hz',newVar,newRow],hs.fill (n:=z.cells.size) (K4 hi hhp) ?_,.mptr _ 0 0 0 w.heap.size oH⟩;exact⟨w.heap.size,z.cells,oH,heap_alloc_new w _,oH,by simpa using hpw.1,λj c v hc hv=>(hpw.2 j c v hc tZ).mono hg⟩
theorem RowOf.filled{ty:TypeId}{sz:Nat}{vs:Array Value}(hs:Sim C st g a w)(hi:st.hp[i]?=some .hole)(r:RowOf w g.X sz es vs)(n:Nat)(hn:n=es.length):∃g',Sim C ⟨st.fr,st.hp.set i (.flat ty sz es)⟩ g' a (w.alloc (.cells vs ty))/\ARep (w.alloc (.cells vs ty)) g' (.msl i sz 0 n) (.slice (some ⟨w.heap.size,0,none⟩) n n):=by subst hn;have hno:g.phi i=none:=hs.hp i _ hi;have hg:=hs.grow_at (.cells vs ty) vs.size hno;refine⟨_,hs.fill (n:=vs.size) hi (.inr ⟨w.heap.size,vs,oH,heap_alloc_new w _,oH,r.le,r.h0,r.h1,λk e j c he hc=>?_⟩),?_⟩;obtain⟨v,hv,hd⟩:=r.rep k e j c he hc;exact⟨v,hv,hd.mono hg.X hg.mem⟩;have:=ARep.msl (w:=w.alloc (.cells vs ty)) (g:=g.new i w.heap.size vs.size) i sz 0 es.length es.length w.heap.size oH (fY _) (by simp only[iO,Gh.new,upd,if_true];exact r.le);simpa using this
theorem qII{bb:Bool}{cs cs':List AV}{v:AV}(ho:o.op=.store t x y)(hd:o.dst=none)(hl:lay C.P t=some (bb,s))(hx:ev x=.mptr id 0 0 off)(hy:ev y=v)(hf:v.flat=true)(hs:v.cells.length=s)(hb:hp[id]?=some (.box bt cs))(hc:off+s<=cs.length)(hv:spl cs off v.cells=cs'):DOk C o ev hp .junk [(id,.box bt cs')]:=DOk.mkS hd λst hhp hag g a w hsim=>by subst hv;obtain⟨w',h1,h2⟩:=F1 (st:=st) id off s bb cs v ho hd hl (by rw[hag x fN,hx]) (by rw[hag y fN,hy]) hf hs (hhp id _ hb λe=>by cases e) hc hsim;rw[hd]at h2;exact⟨w',g,h1,h2⟩
theorem qEI{idx:Nat}{bb:Bool}{d v d':D}(ho:o.op=.store t x y)(hd:o.dst=none)(hl:lay C.P t=some (bb,s))(hx:ev x=.mptr id sz idx off)(hy:ev y=.d v)(hs:v.cells.length=s)(hb:hp[id]?=some (.flat bt sz es))(he:es[idx]?=some d)(hone:d.one=false\/v.one=true)(hc:off+s<=d.cells.length)(hv:d.upd off v=d'):DOk C o ev hp .junk [(id,.flat bt sz (es.set idx d'))]:=DOk.mkS hd λst hhp hag g a w hsim=>by subst hv;obtain⟨w',h1,h2⟩:=Dm (st:=st) id sz idx off s bb es d v ho hd hl (by rw[hag x fN,hx]) (by rw[hag y fN,hy]) hs (hhp id _ hb λe=>by cases e) he hone hc hsim;rw[hd]at h2;exact⟨w',g,h1,h2⟩
end made
section steps
variable {ops:Array Oper}{l:List Oper}{K:St->Prop}{fr:Fr}{hp:List Blk}{acc:List Rec}{d:Nat}{op:Op}{ty:TypeId}{pos:String}{after:Array Edge}{gd:Option (Nat×Bool)}
theorem bv(rs:List Nat)(ws:List (Nat×Blk))(v:AV)(hd:decide (d<C.n)=true)(hon:onA ops fr ⟨some d,op,ty,pos,after,gd⟩=some true)(hw:(ws.all λp=>rs.contains p.1&&decide (p.1<hp.length))=true)(hr:DOk C ⟨some d,op,ty,pos,after,gd⟩ fr.ev (Jc rs hp) v ws)(h:TDr C ops K l ((d,v)::fr) (wr ws hp) (acc++[⟨true,d,v,rs,ws⟩])):TDr C ops K (⟨some d,op,ty,pos,after,gd⟩::l) fr hp acc:=.step _ l fr hp acc d v rs ws v (.inl ⟨rfl,hd,rfl⟩) hon (λp hp=>by have:=zal39q.1 hw p hp;simp at this;exact⟨this.2,.inr this.1⟩) hr h
theorem Qq(d:Nat)(rs:List Nat)(ws:List (Nat×Blk))(hon:onA ops fr ⟨none,op,ty,pos,after,gd⟩=some true)(hw:(ws.all λp=>rs.contains p.1&&decide (p.1<hp.length))=true)(hr:DOk C ⟨none,op,ty,pos,after,gd⟩ fr.ev (Jc rs hp) .junk ws)(h:TDr C ops K l ((d,.junk)::fr) (wr ws hp) (acc++[⟨true,d,.junk,rs,ws⟩])):TDr C ops K (⟨none,op,ty,pos,after,gd⟩::l) fr hp acc:=.step _ l fr hp acc d .junk rs ws .junk (.inr ⟨rfl,rfl⟩) hon (λp hp=>by have:=zal39q.1 hw p hp;simp at this;exact⟨this.2,.inr this.1⟩) hr h
theorem gU{c:Code}{Q:Exit->St->Prop}(h:TWp C c ⟨fr,hp++[.hole]⟩ Q):TWp C c ⟨fr,hp⟩ Q:=λg a w hs=>h g a w (Sim.hole (st:=⟨fr,hp⟩) hs)
theorem Cc{f:Operand}{xs:Array Operand}{ts:Array TypeId}{F:FuncId}{c:D}{cs:List D}(ids:List Nat){args:List AV}{r r':AV}{hh hp' hp2:List Blk}(hd:decide (d<C.n)=true)(hf:fr.ev f=.d c)(hc:Qn c=some (F,cs))(hnd:ids.Nodup)(hal:(ids.all λj=>dV hp j)=true)(hx:(xs.toList.map λx=>(fr.ev x).mapRef (toName (bI ids)))++cs.map .d=args)(hhd:vQ ids hp=hh)(hret:Ret C.P F hh (λ_=>false) args r hp')(hr:r.mapRef (fwd ids hp.length)=r')(hb:wJ ids hp hp'=hp2)(h:cP C ops l ⟨(d,r')::fr,hp2⟩ K):cP C ops (⟨some d,.call { callee:=.value f,args:=xs,argTypes:=ts },ty,pos,after,none⟩::l) ⟨fr,hp⟩ K:=by subst hr hb hhd;exact gW rfl (ok_callW ids args r hp' rfl hd hf hc hnd hal hx hret h)
theorem w9{t t' e:TypeId}{x:Operand}{dd:D}{n:Nat}(hd:decide (d<C.n)=true)(hu:C.P.underlying t=some (.slice e))(hx:fr.ev x=.d dd)(hn:(AV.d dd).slLen=some n)(h:∀b:Bool,(b=true->n=0)->cP C ops l ⟨(d,.d (.bool b))::fr,hp⟩ K):cP C ops (⟨some d,.binOp .eql t x (.const (.slice none 0 0)) t',ty,pos,after,none⟩::l) ⟨fr,hp⟩ K:=gW rfl (eqNil rfl hd hu hx hn rfl rfl h)
end steps
def qHL(op:BinOp)(p q:Bool):Option Bool:=match op with|.eql=>some (p == q)|.neq=>some (!(p == q))|_=>none
theorem qOQ(hu:P.underlying t=some .bool)(p q:Bool)(w:World):(Op.equal t (.bool p) (.bool q)).run P w=.ok (p == q) w:=by have h:(Op.equalIn (9999+1) t (.bool p) (.bool q)).run P w=.ok (p == q) w:=qNO;exact h
theorem cmp_bool{op:BinOp}{p q r:Bool}(hu:C.P.underlying t=some .bool)(ho:o.op=.binOp op t x y t')(hx:ev x=.d (.bool p))(hy:ev y=.d (.bool q))(hr:qHL op p q=some r):RdOk C o ev hp (.d (.bool r)):=RdOk.mk λst hhp hag g a w hs=>by have h:=hs.ev x;rw[hag x fN,hx]at h;have hi:=hs.ev y;rw[hag y fN,hy]at hi;refine⟨.bool r,?_,.d _ _ (.bool r)⟩;have hg:(eqGuard op t x y (.bool p) (.bool q)).run C.P w=.ok () w:=(by unfold eqGuard;cases op<;>simp);simp only[execOp,ho,bool_inv h,bool_inv hi,Sem.run_bind,hg,Result.andThen_ok];cases op<;>simp only[qHL]at hr<;>cases hr<;>simp[binOp,qOQ hu]
theorem qFF(ho:o.op=.makeFunc (.func F) #[] caps)(hx:qTE (caps.toList.map ev)=some ds):RdOk C o ev hp (.d (.clo F ds)):=RdOk.mk λst hhp hag g a w hs=>by refine⟨.func (.func F) #[] (caps.map a.eval),by simp[execOp,ho,Instr.makeFunc],.d _ _ (.clo _ _ _ ?_ λi c v hc hv=>?_)⟩;have:=congrArg List.length (F0 hx);simpa using this.symm;simp only[Array.getElem?_map,zal165q]at hv;obtain⟨z,hz,rfl⟩:=hv;have h1:(caps.toList.map ev)[i]?=some (.d c):=(by rw[F0 hx];simp[hc]);simp only[eS,zal165q]at h1;obtain⟨y,hy,hyc⟩:=h1;have e:y=z:=(by rw[<- Array.getElem?_toList,hy]at hz;exact bO hz);subst e;have h:=hs.ev y;rw[hag y zaP49q,hyc]at h;cases h with|d _ _ h=>exact h
def DLe(d d':D):Prop:=∀(w:World)(X:Nat->Prop)(v:Value),DRep w X d v->DRep w X d' v
theorem DLe.refl(d:D):DLe d d:=λ_ _ _ h=>h
theorem DLe.nil(sz:Nat):DLe .nilsl (.sl sz []):=λ_ _ _ h=>by cases h;exact .sl0 _ _ _
section weak
variable {ops:Array Oper}{l:List Oper}{K:St->Prop}{fr:Fr}{hp:List Blk}
end weak
theorem qi{Q:Exit->St->Prop}{fr:Fr}(var:α->Fr)(chg:α->List (Nat×Blk))(ok:α->Prop)(m:α->Nat)(vk ik ids:List Nat)(x0:α){inv:Fr}{hp0:List Blk}(hnd:ids.Nodup)(hk:∀i,i<C.k->ids[i]?=some i)(h0:ok x0)(hI:SubK fr ik inv)(hI':Fr.mapRef (toName (bI ids)) inv=inv)(hV:Fr.mapRef (toName (bI ids)) (Fr.keep vk fr)=var x0)(hH:ids.map (λi=>(hp.getD i .dead).mapRef (toName (bI ids)))=hp0)(hC:hp0=wr (chg x0) hp0)(round:∀x,ok x->TWp C c ⟨var x++inv,wr (chg x) hp0⟩ (yV (λst'=>∃y ids',ids'.Nodup/\(∀i,i<C.k->ids'[i]?=some i)/\ok y/\m y<m x/\st'.canon (vk++ik) ids'=⟨var y++inv,wr (chg y) hp0⟩) Q)):TWp C (.loop c) ⟨fr,hp⟩ Q:=by refine qUC (λx=>(⟨var x++inv,wr (chg x) hp0⟩:St)) ok m (vk++ik) ids x0 hnd hk h0 ?_ round;simp only[St.canon];have e1:Fr.keep (vk++ik) fr=Fr.keep vk fr++inv:=(by rw[hI.keep];simp[Fr.keep]);have e2:∀(F:AV->AV)(a b:Fr),Fr.mapRef F (a++b)=Fr.mapRef F a++Fr.mapRef F b:=(by intro F a b;induction a with|nil=>rfl|cons x r ih=>obtain⟨t,v⟩:=x;simp[Fr.mapRef,ih]);rw[e1,e2,hI',hV,hH];congr 1
variable {P:Program}{st:St}
theorem kp{b c:Bool}(h:b=c):AV.d (.bool b)=.d (.bool c):=h ▸ rfl
theorem Zb{C:Ctx}{op:BinOp}{m n r' r:Int}(ho:o.op=.binOp op t x y t')(hx:ev x=.d (.int .i64 m))(hy:ev y=.d (.int .i64 n))(hr:qCW op m n=some r')(e:r'=r)(hb:-9223372036854775808<=r/\r<=9223372036854775807):RdOk C o ev hp (.d (.int .i64 r)):=Lu ho hx hy (e ▸ hr) hb
theorem idx_int{f:α->D}{xs:List α}{v:Int}{x:α}(h0:0<=v)(h:xs[v.toNat]?=some x):0<=v/\(xs.map f)[v.toNat]?=some (f x):=⟨h0,Gd⟩
section
variable {cs r r':List AV}
end
def cI(n:Int):Prop:=-9223372036854775808<=n/\n<=9223372036854775807
instance (n:Int):Decidable (cI n):=inferInstanceAs (Decidable (_/\_))
theorem vp{xs:List α}{i:Nat}(h:i<xs.length):∃x,xs[i]?=some x:=⟨_,jT h⟩
theorem RetN.unit{d:D}(h:Ret P F [] (λ_=>false) (ds.map .d) (.d d) [])(hm:D.mem0 d=true):RetN P F ds d:=.lit h hm
theorem RetD.of{d:D}(h:Ret P F [] mv (ds.map .d) (.d d) []):RetD P F ds d:=⟨mv,_,_,h,.d d⟩
theorem RetT.of{rs:List D}(h:Ret P F [] mv (ds.map .d) (.tup (rs.map .d)) []):RetT P F ds rs:=⟨mv,_,_,h,.mk _ _ (qM rfl)⟩
variable {C:Ctx}{st:St}{g:Gh}{a:Act}{w:World}{P:Program}
def EndsS(P:Program)(rs:List ResultVar)(d:D)(st:St):Prop:=∃x d0,ResOk P st rs x/\Snap st.hp x d0/\DLe d0 d
theorem EndsS.one{rs:List ResultVar}{d d0:D}(x:AV)(h:Er st.fr rs=some x)(hs:Snap st.hp x d0)(hd:DLe d0 d):EndsS P rs d st:=⟨x,d0,res h,hs,hd⟩
theorem EndsS.cell{a t id off s:Nat}{ty:TypeId}{cs:List AV}(x:AV){d:D}(hl:lay P t=some (true,s))(ha:st.fr.get a=.mptr id 0 0 off)(hb:st.hp[id]?=some (.box ty cs))(hc:Nat.ble (off+s) cs.length=true)(hv:zg ((cs.drop off).take s)=x)(hs:Snap st.hp x d):EndsS P [.cell a t] d st:=⟨_,d,.mk _ (.cons (.agg hl ha hb hc hv) .nil) rfl,hs,.refl _⟩
def bodyQS(P:Program)(rs:List ResultVar)(d:D):Exit->St->Prop
  |.normal,st|.ret,st=>EndsS P rs d st
  |_,_=>False
theorem Sim.endS{w0:World}{g0:Gh}(hs:Sim ⟨P,n,w0,0,g0,mv⟩ st g a w)(h0:g0.df=[]):∃g',Out ⟨P,0,w0,0,g0,mv⟩ [] g' w/\∀(x:AV)(d:D)(v:Value),ARep w g x v->Snap st.hp x d->ARep w g' (.d d) v:=by
  let g':Gh:={ phi:=λ_=>none,psi:=λ_=>0,X:=λb=>g.X b\/∃i,g.phi i=some b }
  refine⟨g',?_,λx d v hx hsn=>.d _ _ (zA (st:=st) hs.hp hsn (Y:=g'.X) (λb hb=>.inl hb) (λi b hp=>.inr ⟨i,hp⟩) hx)⟩
  refine { defers := h0.symm, size := rfl, fr := fun _ => .junk _, hp := fun i B h => by simp at h, lt := fun i b h => by simp [g'] at h, inj := fun i j b _ _ _ _ _ _ h => by simp [g'] at h, Xlt := ?_, Xold := ?_
           os:=hs.os,tape:=hs.tape,output:=hs.output,drawn:=hs.drawn,grown:=hs.grown,keep:=hs.keep,own:=λi b h=>by simp[g']at h,stay:=λi b h=>absurd h (rL i),kle:=iF _,laid:=hs.laid }
  intro b hb;rcases hb with hb|⟨i,hb⟩
  exact hs.Xlt b hb;exact(hs.lt i b hb).1;intro b hb hlt;rcases hb with hb|⟨i,hb⟩
  exact hs.Xold b hb hlt;exact absurd (hs.own i b hb hlt).1 (rL i)
theorem aS{fn:Func}{args:List AV}{d:D}(hcb:tR P F=true)(hf:P.funcs[F]?=some fn)(hb:fn.body=some c)(hn:fn.ntmps=n)(hrs:fn.results.toList=rs)(hle:Nat.ble args.length n=true)(h:∀w g,TWp ⟨P,n,w,0,g,mv⟩ c ⟨zZ args,[]⟩ (bodyQS P rs d)):Ret P F [] mv args (.d d) []:=by subst hn hrs;have hn:=iP hle;refine⟨hcb,?_⟩;intro w g vs hout hargs;have hlen:vs.size=args.length:=(by have:=hargs.1;simpa using this.symm);have hsim:Sim ⟨P,fn.ntmps,w,0,g,mv⟩ ⟨zZ args,[]⟩ g { tmps:=vs++Array.replicate (fn.ntmps-vs.size) undef,defers:=[] } w:=(by refine Out.sim (C:=⟨P,fn.ntmps,w,0,g,mv⟩) hout hout.defers ?_ λt=>?_;simp only[Im,qDN];omega;unfold zZ;rw[zo,if_pos (iF _),F8];by_cases ht:t<args.length;have h1:args[t]?=some args[t]:=jT ht;have h2:vs.toList[t]?=some (vs.toList[t]' D8):=jT _;have h3:=hargs.2 t _ _ h1 h2;rw[h1];have h4:(vs++Array.replicate (fn.ntmps-vs.size) undef).getD t undef=vs.toList[t]' D8:=(by rw[Jp,Jo,if_pos aB];simp[show t<vs.size by omega]);rw[h4];exact h3;rw[nB aB];exact .junk _);refine calls_of_wp hf hb (Go.wp_mono (h w g g _ w hsim) ?_);intro e a' w' hq;obtain⟨st',g',hQ,hs'⟩:=hq;have fin:EndsS P fn.results.toList d st'->a'.defers=[]/\∃v,(results fn a'.tmps).run P w'=.ok v w'/\∃v' g',Ending.returned v=.returned v'/\Out ⟨P,0,w,0,g,mv⟩ [] g' w'/\ARep w' g' (.d d) v':=(by rintro⟨x,d0,hx,hsn,hd⟩;obtain⟨v,hv,hrep⟩:=yD (P:=P) hs' hx;obtain⟨g2,h1,h2⟩:=hs'.endS hout.defers.symm;have h3:=h2 _ _ _ hrep hsn;exact⟨hs'.defers.trans hout.defers.symm,v,hv,v,g2,rfl,h1,by cases h3 with|d _ _ q=>exact .d _ _ (hd _ _ _ q)⟩);cases e with|normal=>exact fin hQ|ret=>exact fin hQ|_=>exact hQ.elim
inductive DLa:List D->List D->Prop
  |nil:DLa [] []
  |cons {d d':D} {ds ds':List D} (h:DLe d d') (hr:DLa ds ds'):DLa (d::ds) (d'::ds')
theorem DLa.key(h:DLa ds ds'):ds.length=ds'.length/\∀(i:Nat)(c c':D),ds[i]?=some c->ds'[i]?=some c'->DLe c c':=by induction h with|nil=>exact⟨rfl,λi c c' h=>nV⟩|cons h _ ih=>refine⟨by simp[ih.1],λi c c' hc hc'=>?_⟩;cases i with|zero=>simp at hc hc';subst hc hc';exact h|succ i=>exact ih.2 i c c' fe V6
theorem Ret.args{r:AV}(h:Ret P F hp mv (ds'.map .d) r hp')(hd:DLa ds ds'):Ret P F hp mv (ds.map .d) r hp':=by refine⟨h.1,λw g vs ho ha=>h.2 w g vs ho ⟨by have:=ha.1;simpa[hd.key.1]using this,λi x v hx hv=>?_⟩⟩;simp only[eS,zal165q]at hx;obtain⟨c',hc',rfl⟩:=hx;have hi:i<ds.length:=(by rw[hd.key.1];exact(zal72q.1 hc').1);have:=ha.2 i (.d ds[i]) v xI hv;cases this with|d _ _ hr=>exact .d _ _ (hd.key.2 i ds[i] c' xI hc' _ _ _ hr)
theorem RetD.args{F:FuncId}{ds ds':List D}{d:D}(h:RetD P F ds' d)(hd:DLa ds ds'):RetD P F ds d:=by obtain⟨mv,r,hp',h1,h2⟩:=h;exact⟨mv,r,hp',h1.args hd,h2⟩
inductive SnapsW (hp:List Blk):List AV->List D->Prop
  |nil:SnapsW hp [] []
  |cons {x:AV} {d0 d:D} {xs:List AV} {ds:List D} (h:Snap hp x d0) (hd:DLe d0 d) (hr:SnapsW hp xs ds):SnapsW hp (x::xs) (d::ds)
theorem SnapsW.key{xs:List AV}(h:SnapsW hp xs ds):xs.length=ds.length/\∀(i:Nat)(x:AV)(d:D),xs[i]?=some x->ds[i]?=some d->∃d0,Snap hp x d0/\DLe d0 d:=by induction h with|nil=>exact⟨rfl,λi x d h=>nV⟩|cons h hd _ ih=>refine⟨by simp[ih.1],λi x d hx hd'=>?_⟩;cases i with|zero=>simp at hx hd';subst hx hd';exact⟨_,h,hd⟩|succ i=>exact ih.2 i x d yd (by simpa using hd')
def EndsT(P:Program)(rs:List ResultVar)(ds:List D)(st:St):Prop:=∃xs,ResOk P st rs (.tup xs)/\SnapsW st.hp xs ds
def bodyQT(P:Program)(rs:List ResultVar)(ds:List D):Exit->St->Prop
  |.normal,st|.ret,st=>EndsT P rs ds st
  |_,_=>False
theorem EndsT.two{x y:AV}{a b a0 b0:D}(h:Er st.fr rs=some (.tup [x,y]))(h1:Snap st.hp x a0)(d1:DLe a0 a)(h2:Snap st.hp y b0)(d2:DLe b0 b):EndsT P rs [a,b] st:=⟨_,res h,.cons h1 d1 (.cons h2 d2 .nil)⟩
theorem nN{fn:Func}{args:List AV}(hcb:tR P F=true)(hf:P.funcs[F]?=some fn)(hb:fn.body=some c)(hn:fn.ntmps=n)(hrs:fn.results.toList=rs)(hle:Nat.ble args.length n=true)(h:∀w g,TWp ⟨P,n,w,0,g,mv⟩ c ⟨zZ args,[]⟩ (bodyQT P rs ds)):Ret P F [] mv args (.tup (ds.map .d)) []:=by subst hn hrs;have hn:=iP hle;refine⟨hcb,?_⟩;intro w g vs hout hargs;have hlen:vs.size=args.length:=(by have:=hargs.1;simpa using this.symm);have hsim:Sim ⟨P,fn.ntmps,w,0,g,mv⟩ ⟨zZ args,[]⟩ g { tmps:=vs++Array.replicate (fn.ntmps-vs.size) undef,defers:=[] } w:=(by refine Out.sim (C:=⟨P,fn.ntmps,w,0,g,mv⟩) hout hout.defers ?_ λt=>?_;simp only[Im,qDN];omega;unfold zZ;rw[zo,if_pos (iF _),F8];by_cases ht:t<args.length;have h1:args[t]?=some args[t]:=jT ht;have h2:vs.toList[t]?=some (vs.toList[t]' D8):=jT _;have h3:=hargs.2 t _ _ h1 h2;rw[h1];have h4:(vs++Array.replicate (fn.ntmps-vs.size) undef).getD t undef=vs.toList[t]' D8:=(by rw[Jp,Jo,if_pos aB];simp[show t<vs.size by omega]);rw[h4];exact h3;rw[nB aB];exact .junk _);refine calls_of_wp hf hb (Go.wp_mono (h w g g _ w hsim) ?_);intro e a' w' hq;obtain⟨st',g',hQ,hs'⟩:=hq;have fin:EndsT P fn.results.toList ds st'->a'.defers=[]/\∃v,(results fn a'.tmps).run P w'=.ok v w'/\∃v' g',Ending.returned v=.returned v'/\Out ⟨P,0,w,0,g,mv⟩ [] g' w'/\ARep w' g' (.tup (ds.map .d)) v':=(by rintro⟨xs,hx,hsn⟩;obtain⟨v,hv,hrep⟩:=yD (P:=P) hs' hx;obtain⟨g2,h1,h2⟩:=hs'.endS hout.defers.symm;refine⟨hs'.defers.trans hout.defers.symm,v,hv,v,g2,rfl,h1,?_⟩;have hkey:=hsn.key;have key:xs.length=ds.length/\∀(i:Nat)(x:AV)(d:D)(u:Value),xs[i]?=some x->ds[i]?=some d->ARep w' g' x u->ARep w' g2 (.d d) u:=(by refine⟨hkey.1,λi x d u hx hd hu=>?_⟩;obtain⟨d0,q1,q2⟩:=hkey.2 i x d hx hd;have:=h2 _ _ _ hu q1;cases this with|d _ _ q=>exact .d _ _ (q2 _ _ _ q));cases hrep with|tup _ us hl hr=>refine .tup _ us (by rw[uR,<- key.1];exact hl) λi c u hci hu=>?_;simp only[eS,zal165q]at hci;obtain⟨d,hd,rfl⟩:=hci;have hi:i<xs.length:=(by rw[key.1];exact(zal72q.1 hd).1);exact key.2 i xs[i] d u xI hd (hr i xs[i] u xI hu));cases e with|normal=>exact fin hQ|ret=>exact fin hQ|_=>exact hQ.elim
end Go.TL
set_option linter.unusedVariables false
set_option linter.unusedSimpArgs false
namespace Go.TL
variable {C:Ctx}{st:St}{g:Gh}{a:Act}{w:World}{P:Program}
def wI(d:TypeDesc):D->Bool
  |.bool _=>match d with|.bool=>true|_=>false
  |.int k _=>match d with|.int k'=>k == k'|_=>false
  |.str _=>match d with|.string=>true|_=>false
  |_=>false
def kd:D->Value
  |.bool b=>.bool b
  |.int k n=>.int k n
  |.str s=>.string s
  |_=>undef
variable {d:TypeDesc}
theorem X7{k:D}(hk:wI d k=true):MapKept.IsKey d (kd k):=by cases k with|bool b =>(cases d<;>first|trivial|(simp[wI]at hk))|int i n=>cases d<;>simp[wI]at hk;exact hk|str s =>(cases d<;>first|trivial|(simp[wI]at hk))|_=>simp[wI]at hk
theorem Fq{k:D}(hk:wI d k=true){X:Nat->Prop}{v:Value}(h:DRep w X k v):v=kd k/\MapKept.IsKey d v:=by have e:v=kd k:=(by cases k with|bool b=>cases h;rfl|int k n=>cases h;rfl|str s=>cases h;rfl|_=>simp[wI]at hk);exact⟨e,e ▸ X7 hk⟩
theorem qLJ{k k':D}(hk:wI d k=true)(hk':wI d k'=true)(h:kd k=kd k'):k=k':=by cases k with|bool b =>(cases k'<;>first|(simp[wI]at hk';done)|(simp[kd]at h;done)|(simp only[kd,Value.bool.injEq]at h;rw[h]))|int i n =>(cases k'<;>first|(simp[wI]at hk';done)|(simp[kd]at h;done)|(simp only[kd,Value.int.injEq]at h;rw[h.1,h.2]))|str s =>(cases k'<;>first|(simp[wI]at hk';done)|(simp[kd]at h;done)|(simp only[kd,Value.string.injEq]at h;rw[h]))|_=>simp[wI]at hk
def kq(w:World)(X:Nat->Prop)(es:List (D×D))(ents:Array MapEntry):Prop:=ents.size=es.length/\∀(k:Nat)(e:D×D)(m:MapEntry),es[k]?=some e->ents[k]?=some m->DRep w X e.1 m.key/\DRep w X e.2 m.val
section find
variable {X:Nat->Prop}{d:TypeDesc}{k:D}{es:List (D×D)}{ents:Array MapEntry}
theorem qLY(hE:kq w X es ents)(hks:∀e∈es,wI d e.1=true):∀x∈ents.toList,MapKept.IsKey d x.key:=by intro x hx;obtain⟨i,hi⟩:=lO hx;have hi':ents[i]?=some x:=Io;have hlt:i<es.length:=(by rw[<- hE.1];exact(zal5q.1 hi').1);exact(Fq (hks es[i] (fV hlt)) (hE.2 i es[i] x bf hi').1).2
theorem qSZ(hE:kq w X es ents)(hks:∀e∈es,wI d e.1=true)(hk:wI d k=true)(hne:∀e∈es,e.1≠k):Instr.findNow d (kd k) ents.toList 0=some none:=by have hkk:MapKept.IsKey d (kd k):=X7 hk;rcases MapKept.findNow_spec hkk ents.toList 0 (qLY hE hks)with⟨h1,_⟩|⟨j,e,_,h2,h3⟩;exact h1;exfalso;have hj:ents[j]?=some e:=yc;have hlt:j<es.length:=(by rw[<- hE.1];exact(zal5q.1 hj).1);have hmem:=fV hlt;have:=(Fq (hks es[j] hmem) (hE.2 j es[j] e bf hj).1).1;exact hne _ hmem (qLJ (hks _ hmem) hk (by rw[<- this,h3]))
theorem qLX(hE:kq w X es ents)(hks:∀e∈es,wI d e.1=true)(hnd:(es.map (·.1)).Nodup){j:Nat}{v:D}(hj:es[j]?=some (k,v)):∃e,ents[j]?=some e/\e.key=kd k/\DRep w X v e.val/\Instr.findNow d (kd k) ents.toList 0=some (some (j,e.val)):=by
  have hjl:=(zal72q.1 hj).1;have hk:wI d k=true:=hks (k,v) (fQ hj);have hkk:MapKept.IsKey d (kd k):=X7 hk;have hjs:j<ents.size:=by rw[hE.1];exact hjl
  have he:ents[j]?=some ents[j]:=by simp[hjs]
  have hr:=hE.2 j (k,v) ents[j] hj he;have hkey:=(Fq hk hr.1).1;rcases MapKept.findNow_spec hkk ents.toList 0 (qLY hE hks)with⟨_,h2⟩|⟨j',e',h1,h2,h3⟩
  exact absurd hkey (h2 ents[j] aN);have hj' : ents[j']? = some e' := yc
  have hlt:j'<es.length:=by rw[<- hE.1];exact(zal5q.1 hj').1
  have hmem:=fV hlt;have h4:=(Fq (hks es[j'] hmem) (hE.2 j' es[j'] e' bf hj').1).1;have h5:es[j'].1=k:=qLJ (hks _ hmem) hk (by rw[<- h4,h3]);have h6:j'=j:=zb (x:=k) hnd (by simp[hlt,h5]) (by simp[hj]);subst h6;rw[he]at hj';cases hj';exact⟨_,he,hkey,hr.2,sN⟩
where
  zb {α:Type} {l:List α} (hn:l.Nodup) {i j:Nat} {x:α} (hi:l[i]?=some x) (hj:l[j]?=some x):i=j:=by
    obtain⟨h1,h1'⟩:=zal72q.1 hi;obtain⟨h2,h2'⟩:=zal72q.1 hj;exact(List.getElem_inj hn).1 (h1'.trans h2'.symm)
end find
theorem qKQ{id:Nat}{v:Value}(h:ARep w g (.mmap id) v):∃b,g.phi id=some b/\v=.map (some b):=by cases h with|mmap _ b hb=>exact⟨b,hb,rfl⟩
def Vh(P:Program)(t:TypeId):Option (TypeId×TypeDesc×TypeId):=
  match P.underlying t with
  |some (.map k e)=>match P.underlying k with
    |some d=>some (k,d,e)
    |none=>none
  |_=>none
theorem xi{t k e:TypeId}(h:Vh P t=some (k,d,e)):P.underlying t=some (.map k e)/\P.underlying k=some d:=by unfold Vh at h;split at h;rename_i k' e' hu;split at h;rename_i d' hd;cases h;exact⟨hu,hd⟩;cases h;cases h
section look
variable {o:Oper}{ev:Operand->AV}{hp:List Blk}{x y:Operand}{t kt et kt' et':TypeId}{d:TypeDesc}{id:Nat}{es:List (D×D)}{k v zd:D}{z:Value}
theorem Gw(hs:Sim C st g a w)(hl:Vh C.P t=some (kt,d,et))(hx:st.fr.ev x=.mmap id)(hb:st.hp[id]?=some (.map kt' et' es))(hy:st.fr.ev y=.d k)(hk:wI d k=true):∃b ents clock,g.phi id=some b/\a.eval x=.map (some b)/\w.heap[b]?=some (.map ents clock)/\kq w g.X es ents/\a.eval y=kd k/\MapKept.IsKey d (kd k):=by have h1:=hs.ev x;rw[hx]at h1;obtain⟨b,hp,he⟩:=qKQ h1;rcases hs.hp id _ hb with⟨_,hp'⟩|⟨b',ents,clock,hp',hw,hsz,hr⟩<;>cases hp.symm.trans hp';have h2:=hs.ev y;rw[hy]at h2;have h3:DRep w g.X k (a.eval y):=(by cases h2 with|d _ _ h=>exact h);obtain⟨h4,h5⟩:=Fq hk h3;exact⟨b,ents,clock,hp,he,hw,⟨hsz,hr⟩,h4,h4 ▸ h5⟩
end look
section upd
variable {o:Oper}{K:St->Prop}{x y u:Operand}{t tk kt et kt' et':TypeId}{d:TypeDesc}{id:Nat}{es:List (D×D)}{k v:D}
theorem qPL(ho:o.op=.makeMap t none)(hd:vC C.n o.dst=true)(kt et:TypeId)(hK:K (St.put ⟨st.fr,st.hp++[.map kt et []]⟩ o.dst (.mmap st.hp.length))):OpOk C o st K:=OpOk.change λg a w hs=>by refine⟨.map (some w.heap.size),w.alloc (.map #[] 0),?_,_,_,hK,(hs.alloc (n:=0) (B:=.map kt et []) (.inr ⟨w.heap.size,#[],0,oH,heap_alloc_new w _,rfl,λk e m he=>Jt⟩)).put' hd (.mmap _ w.heap.size oH)⟩;simp only[execOp,ho];simp[Instr.makeMap,newObj,Sem.run,Result.andThen]
theorem Ct(hs:Sim C st g a w){b:Nat}{ents ents':Array MapEntry}{clock clock':Nat}{es':List (D×D)}(hp:g.phi id=some b)(hb:st.hp[id]?=some (.map kt' et' es))(hw:w.heap[b]?=some (.map ents clock))(hE:kq w g.X es' ents'):Sim C ⟨st.fr,st.hp.set id (.map kt' et' es')⟩ g a { w with heap:=w.heap.setIfInBounds b (.map ents' clock') }:=by have hX:∀b',g.X b'->b'≠b:=λb' hX e=>(hs.lt id b hp).2.2 (e ▸ hX);have hold:=(MapKept.heap_set (o':=.map ents' clock') hw).2;refine hs.change (w':={ w with heap:=w.heap.setIfInBounds b (.map ents' clock') }) hb (λe=>by cases e) hp aN rfl rfl rfl (fY _) hold (.inr ⟨b,ents',clock',hp,(MapKept.heap_set hw).1,hE.1,λj e m he hm=>?_⟩);exact⟨(hE.2 j e m he hm).1.mono (λ_ h=>h) λb' hb'=>hold b' (hX b' hb'),(hE.2 j e m he hm).2.mono (λ_ h=>h) λb' hb'=>hold b' (hX b' hb')⟩
theorem qPK(ho:o.op=.mapUpdate t x y u)(hd:o.dst=none)(hl:Vh C.P t=some (kt,d,et))(hx:st.fr.ev x=.mmap id)(hb:st.hp[id]?=some (.map kt' et' es))(hy:st.fr.ev y=.d k)(hu:st.fr.ev u=.d v)(hk:wI d k=true)(hks:∀e∈es,wI d e.1=true)(hne:∀e∈es,e.1≠k)(hK:K ⟨st.fr,st.hp.set id (.map kt' et' (es++[(k,v)]))⟩):OpOk C o st K:=OpOk.skip λg a w hs=>by obtain⟨b,ents,clock,hp,hex,hw,hE,hey,hkk⟩:=Gw hs hl hx hb hy hk;have hf:=qSZ hE hks hk hne;obtain⟨hu',hd'⟩:=xi hl;have hv:=hs.ev u;rw[hu]at hv;have hv':DRep w g.X v (a.eval u):=(by cases hv with|d _ _ h=>exact h);have hkd:=hs.ev y;rw[hy,hey]at hkd;have hkd':DRep w g.X k (kd k):=(by cases hkd with|d _ _ h=>exact h);refine⟨{ w with heap:=w.heap.setIfInBounds b (.map (ents.push { key:=kd k,val:=a.eval u,born:=clock }) (clock+1)) },?_,_,g,hK,?_⟩;simp only[execOp,ho,hex,hey];simp[Instr.mapUpdate,run_underlying hu',MapKept.run_getObj_map hw,MapKept.run_checkKey hd' hkk,MapKept.run_findKey hd' hf,MapKept.run_setObj_map _ hw,Result.andThen];rw[hd];refine Ct hs hp hb hw ⟨by simp[hE.1],λj e m he hm=>?_⟩;rw[kN]at he;rw[Array.getElem?_push]at hm;split at he;rename_i hlt;rw[if_neg (by rw[hE.1];omega)]at hm;exact hE.2 j e m he hm;rename_i hge;have hj:j=es.length:=(by rcases fU (j-es.length) 1 with h1|h1;omega;rw[nB sN]at he;cases he);subst hj;rw[if_pos hE.1.symm]at hm;simp at he hm;subst he hm;exact⟨hkd',hv'⟩
theorem qVO{j:Nat}{v0:D}(ho:o.op=.mapUpdate t x y u)(hd:o.dst=none)(hl:Vh C.P t=some (kt,d,et))(hx:st.fr.ev x=.mmap id)(hb:st.hp[id]?=some (.map kt' et' es))(hy:st.fr.ev y=.d k)(hu:st.fr.ev u=.d v)(hks:∀e∈es,wI d e.1=true)(hnd:(es.map (·.1)).Nodup)(hj:es[j]?=some (k,v0))(hK:K ⟨st.fr,st.hp.set id (.map kt' et' (es.set j (k,v)))⟩):OpOk C o st K:=OpOk.skip λg a w hs=>by have hk:wI d k=true:=hks (k,v0) (fQ hj);obtain⟨b,ents,clock,hp,hex,hw,hE,hey,hkk⟩:=Gw hs hl hx hb hy hk;obtain⟨e0,he0,hek,_,hf⟩:=qLX hE hks hnd hj;obtain⟨hu',hd'⟩:=xi hl;have hv:=hs.ev u;rw[hu]at hv;have hv':DRep w g.X v (a.eval u):=(by cases hv with|d _ _ h=>exact h);have hkd:=hs.ev y;rw[hy,hey]at hkd;have hkd':DRep w g.X k (kd k):=(by cases hkd with|d _ _ h=>exact h);have hst:(Instr.keyThatStays e0.key (kd k)).run C.P w=.ok (kd k) w:=(by rw[hek];exact MapKept.run_keyThatStays hkk);refine⟨{ w with heap:=w.heap.setIfInBounds b (.map (ents.modify j λe=>{ e with key:=kd k,val:=a.eval u }) clock) },?_,_,g,hK,?_⟩;simp only[execOp,ho,hex,hey];simp[Instr.mapUpdate,run_underlying hu',MapKept.run_getObj_map hw,MapKept.run_checkKey hd' hkk,MapKept.run_findKey hd' hf,he0,hst,MapKept.run_setObj_map _ hw,Result.andThen];rw[hd];refine Ct hs hp hb hw ⟨by simp[hE.1],λi e m he hm=>?_⟩;rw[iC]at he;rw[Vz]at hm;split at he;rename_i hij;subst hij;rw[if_pos rfl,he0]at hm;split at he;cases he;simp at hm;subst hm;exact⟨hkd',hv'⟩;cases he;rename_i hij;rw[if_neg hij]at hm;exact hE.2 i e m he hm
end upd
section steps
variable {ops:Array Oper}{l:List Oper}{K:St->Prop}{fr:Fr}{hp:List Blk}{dd:Nat}{ty:TypeId}{pos:String}{after:Array Edge}{x y u:Operand}{t tk kt et kt' et':TypeId}{d:TypeDesc}{id:Nat}{es es':List (D×D)}{k v:D}
theorem yC(kt et:TypeId)(hd:decide (dd<C.n)=true)(h:cP C ops l ⟨(dd,.mmap hp.length)::fr,hp++[.map kt et []]⟩ K):cP C ops (⟨some dd,.makeMap t none,ty,pos,after,none⟩::l) ⟨fr,hp⟩ K:=gW rfl (qPL rfl hd kt et h)
theorem qUR(hl:Vh C.P t=some (kt,d,et))(hx:fr.ev x=.mmap id)(hb:hp[id]?=some (.map kt' et' es))(hy:fr.ev y=.d k)(hu:fr.ev u=.d v)(hk:wI d k=true)(hks:∀e∈es,wI d e.1=true)(hne:∀e∈es,e.1≠k)(he:es++[(k,v)]=es')(h:cP C ops l ⟨fr,hp.set id (.map kt' et' es')⟩ K):cP C ops (⟨none,.mapUpdate t x y u,ty,pos,after,none⟩::l) ⟨fr,hp⟩ K:=by subst he;exact gW rfl (qPK rfl rfl hl hx hb hy hu hk hks hne h)
theorem s_put_at{j:Nat}{v0:D}(hl:Vh C.P t=some (kt,d,et))(hx:fr.ev x=.mmap id)(hb:hp[id]?=some (.map kt' et' es))(hy:fr.ev y=.d k)(hu:fr.ev u=.d v)(hks:∀e∈es,wI d e.1=true)(hnd:(es.map (·.1)).Nodup)(hj:es[j]?=some (k,v0))(he:es.set j (k,v)=es')(h:cP C ops l ⟨fr,hp.set id (.map kt' et' es')⟩ K):cP C ops (⟨none,.mapUpdate t x y u,ty,pos,after,none⟩::l) ⟨fr,hp⟩ K:=by subst he;exact gW rfl (qVO rfl rfl hl hx hb hy hu hks hnd hj h)
end steps
section
variable {C:Ctx}{ops:Array Oper}{l:List Oper}{K:St->Prop}{fr:Fr}{hp:List Blk}{ty:TypeId}{pos:String}{after:Array Edge}{x y u:Operand}{t tk kt et kt' et':TypeId}{id:Nat}
end
theorem qQP(s u:ByteArray):(s.toList == u.toList)=decide (s=u):=by rw[ByteArray.toList_eq,ByteArray.toList_eq,zal18q];simp only[beq_iff_eq,decide_eq_true_eq];constructor;intro h;cases s;cases u;congr 1;exact Array.toList_inj.1 h;intro h;rw[h]
def qQL(op:BinOp)(e:Bool):Option Bool:=match op with|.eql=>some e|.neq=>some (!e)|_=>none
theorem cmp_str{C:Ctx}{o:Oper}{ev:Operand->AV}{hp:List Blk}{op:BinOp}{t t':TypeId}{x y:Operand}{p q:ByteArray}{r:Bool}(ho:o.op=.binOp op t x y t')(hx:ev x=.d (.str p))(hy:ev y=.d (.str q))(hr:qQL op (decide (p=q))=some r):RdOk C o ev hp (.d (.bool r)):=RdOk.mk λst hhp hag g a w hs=>by have h:=hs.ev x;rw[hag x fN,hx]at h;have hi:=hs.ev y;rw[hag y fN,hy]at hi;refine⟨.bool r,?_,.d _ _ (.bool r)⟩;have hg:(eqGuard op t x y (.string p) (.string q)).run C.P w=.ok () w:=(by unfold eqGuard;cases op<;>simp);simp only[execOp,ho,str_inv h,str_inv hi,Sem.run_bind,hg,Result.andThen_ok];cases op<;>simp only[qQL]at hr<;>cases hr<;>simp[binOp,Op.stringOp,qQP]
end Go.TL
set_option linter.unusedVariables false
set_option linter.unusedSimpArgs false
set_option linter.unusedSectionVars false
namespace Go.TL
variable {C:Ctx}{st:St}{g:Gh}{a:Act}{w:World}{P:Program}
section look0
variable {o:Oper}{ev:Operand->AV}{hp:List Blk}{x y:Operand}{t kt et kt' et':TypeId}{d:TypeDesc}{id:Nat}{es:List (D×D)}{k v zd:D}{z:Value}
theorem qFH{j:Nat}(ho:o.op=.lookup t x y false)(hl:Vh C.P t=some (kt,d,et))(hx:ev x=.mmap id)(hb:hp[id]?=some (.map kt' et' es))(hy:ev y=.d k)(hks:∀e∈es,wI d e.1=true)(hnd:(es.map (·.1)).Nodup)(hj:es[j]?=some (k,v)):RdOk C o ev hp (.d v):=RdOk.mk λst hhp hag g a w hs=>by have hk:wI d k=true:=hks (k,v) (fQ hj);obtain⟨b,ents,clock,hp',hex,hw,hE,hey,hkk⟩:=Gw hs hl (by rw[hag x fN,hx]) (hhp id _ hb λe=>by cases e) (by rw[hag y fN,hy]) hk;obtain⟨e,_,_,hv,hf⟩:=qLX hE hks hnd hj;obtain⟨hu,hd⟩:=xi hl;refine⟨e.val,?_,.d _ _ hv⟩;simp only[execOp,ho,hex,hey];simp[Instr.lookup,run_underlying hu,MapKept.run_getObj_map hw,MapKept.run_checkKey hd hkk,MapKept.run_findKey hd hf,Result.andThen]
theorem qJQ(ho:o.op=.lookup t x y false)(hl:Vh C.P t=some (kt,d,et))(hz:(C.P.info? et).bind (·.zero)=some z)(hzd:gP z=.d zd)(hx:ev x=.mmap id)(hb:hp[id]?=some (.map kt' et' es))(hy:ev y=.d k)(hk:wI d k=true)(hks:∀e∈es,wI d e.1=true)(hne:∀e∈es,e.1≠k):RdOk C o ev hp (.d zd):=RdOk.mk λst hhp hag g a w hs=>by obtain⟨b,ents,clock,hp',hex,hw,hE,hey,hkk⟩:=Gw hs hl (by rw[hag x fN,hx]) (hhp id _ hb λe=>by cases e) (by rw[hag y fN,hy]) hk;have hf:=qSZ hE hks hk hne;obtain⟨hu,hd⟩:=xi hl;refine⟨z,?_,by rw[<- hzd];exact oY w g _⟩;simp only[execOp,ho,hex,hey];simp[Instr.lookup,run_underlying hu,MapKept.run_getObj_map hw,MapKept.run_checkKey hd hkk,MapKept.run_findKey hd hf,yf hz,Result.andThen]
end look0
structure KeyF (d:TypeDesc) {α:Type} (kf:α->D):Prop where
  key:∀a,wI d (kf a)=true
  inj:∀a b,kf a=kf b->a=b
theorem zK:KeyF .string D.str:=⟨λ_=>rfl,λa b h=>by cases h;rfl⟩
theorem Ky(k:IntKind):KeyF (.int k) (D.int k):=⟨λ_=>by simp[wI],λa b h=>by cases h;rfl⟩
variable {F:FuncId}{J α β ρ:Type}{L M:List Lit}{N by' d i id n sz ty:Nat}{acc:List Rec}{after:Array Edge}{c:Code}{cs cs':List AV}{ds es:List D}{f x y:Operand}{fr fr' inv:Fr}{gd:Option (Nat×Bool)}{hp' hp0:List Blk}{ids:List Nat}{ks:List TypeDesc}{ops:Array Oper}{p:Prop}{pos:String}{s:List (Option Nat)}{t t':TypeId}{ts:Array TypeId}{u v v':AV}{xs:Array Operand}{z:Value}{l:List α}{xss:List (List α)}
def cC(kf:α->D)(f:β->D)(fs:List (α×β)):List (D×D):=fs.map λx=>(kf x.1,f x.2)
def cZ[DecidableEq α](fs:List (α×β))(s:α):Option β:=(fs.find? λx=>decide (x.1=s)).map (·.2)
section pm
variable {α β:Type}[DecidableEq α]{kf:α->D}{f:β->D}{fs:List (α×β)}{s:α}{b:β}{dk:TypeDesc}
theorem yK(h:cZ fs s=none):∀x∈fs,x.1≠s:=by intro x hx e;unfold cZ at h;simp only[Be,L9]at h;have:=h x hx;simp[e]at this
theorem xw(h:cZ fs s=some b):∃j:Nat,fs[j]?=some (s,b):=by unfold cZ at h;simp only[zal165q]at h;obtain⟨x,hx,rfl⟩:=h;have h1:=List.find?_some hx;simp at h1;subst h1;obtain⟨j,hj⟩:=lO (List.mem_of_find?_eq_some hx);exact⟨j,hj⟩
theorem xf(hk:KeyF dk kf):∀e∈cC kf f fs,wI dk e.1=true:=λe he=>by unfold cC at he;simp only[zal115q]at he;obtain⟨x,_,rfl⟩:=he;exact hk.key _
theorem H7(hk:KeyF dk kf)(h:(fs.map (·.1)).Nodup):((cC kf f fs).map (·.1)).Nodup:=by have:(cC kf f fs).map (·.1)=(fs.map (·.1)).map kf:=Q3;rw[this];exact h.map _ λa b hab e=>hab (hk.inj _ _ e)
theorem Xn(hk:KeyF dk kf)(h:∀x∈fs,x.1≠s):∀e∈cC kf f fs,e.1≠kf s:=λe he=>by unfold cC at he;simp only[zal115q]at he;obtain⟨x,hx,rfl⟩:=he;exact λq=>h x hx (hk.inj _ _ q)
variable {o:Oper}{ev:Operand->AV}{hp:List Blk}{x y u:Operand}{t kt et kt' et':TypeId}{id:Nat}{zd:D}{z:Value}
theorem qJP(hk:KeyF dk kf)(f:β->D)(fs:List (α×β))(s:α)(ho:o.op=.lookup t x y false)(hl:Vh C.P t=some (kt,dk,et))(hz:(C.P.info? et).bind (·.zero)=some z)(hzd:gP z=.d zd)(hx:ev x=.mmap id)(hb:hp[id]?=some (.map kt' et' (cC kf f fs)))(hy:ev y=.d (kf s))(hnd:(fs.map (·.1)).Nodup):RdOk C o ev hp (.d (match cZ fs s with|some b=>f b|none=>zd)):=by cases h:cZ fs s with|none=>exact qJQ ho hl hz hzd hx hb hy (hk.key _) (xf hk) (Xn hk (yK h))|some b=>obtain⟨j,hj⟩:=xw h;exact qFH (j:=j) ho hl hx hb hy (xf hk) (H7 hk hnd) (by simp[cC,hj])
variable {ops:Array Oper}{l:List Oper}{K:St->Prop}{fr:Fr}{ty:TypeId}{pos:String}{after:Array Edge}
theorem s_put_pm(hk:KeyF dk kf)(f:β->D){fs:List (α×β)}{s:α}{b:β}{es':List (D×D)}(hl:Vh C.P t=some (kt,dk,et))(hx:fr.ev x=.mmap id)(hb:hp[id]?=some (.map kt' et' (cC kf f fs)))(hy:fr.ev y=.d (kf s))(hu:fr.ev u=.d (f b))(hn:cZ fs s=none)(he:cC kf f (fs++[(s,b)])=es')(h:cP C ops l ⟨fr,hp.set id (.map kt' et' es')⟩ K):cP C ops (⟨none,.mapUpdate t x y u,ty,pos,after,none⟩::l) ⟨fr,hp⟩ K:=qUR hl hx hb hy hu (hk.key _) (xf hk) (Xn hk (yK hn)) (by rw[<- he];simp[cC]) h
end pm
section arr
variable {o:Oper}{K:St->Prop}{t:TypeId}
variable {hp:List Blk}{zd:D}
theorem arr_row{w:World}{g:Gh}{n:Nat}{v:Value}(h:ARep w g (.d (.agg (List.replicate n zd))) v)(h1:zd.one=true):RowOf w g.X 1 (List.replicate n zd) v.cells:=by have hf:(AV.d (.agg (List.replicate n zd))).flat=true:=rfl;obtain⟨hp,_⟩:=h.pw hf;have hc:zd.cells=[zd]:=(by cases zd<;>first|rfl|cases h1);have hsz:v.cells.size=n:=(by have:=hp.1;simpa[AV.cells,D.cells]using this.symm);refine⟨by simp[hsz],λi e he=>?_,λi e j c he hcj=>?_,λi e j c he hcj=>?_⟩;rw[bc]at he;split at he<;>cases he;rw[hc];rfl;rw[bc]at he;split at he<;>cases he;rw[hc]at hcj;(cases j with|zero=>simp at hcj;subst hcj;exact h1|succ j=>simp at hcj);rw[bc]at he;split at he;rename_i hi;cases he;rw[hc]at hcj;(cases j with|succ j=>simp at hcj|zero=>simp at hcj;subst hcj;have h1:(AV.d (.agg (List.replicate n zd))).cells[i]?=some (.d zd):=(by simp[AV.cells,D.cells,hi]);have h2:v.cells.toList[i]?=some (v.cells.toList[i]' Q2):=Q2;have h3:=hp.2 i _ _ h1 h2;refine⟨v.cells.toList[i]' Q2,Q2,?_⟩;cases h3 with|d _ _ h=>exact h);cases he
theorem qKH{n:Nat}{z:Value}(ho:o.op=.alloc t)(hd:vC C.n o.dst=true)(hz:(C.P.info? t).bind (·.zero)=some z)(hzd:gP z=.d (.agg (List.replicate (n+1) zd)))(h1:zd.one=true)(hK:K (St.put ⟨st.fr,st.hp++[.flat t 1 (List.replicate (n+1) zd)]⟩ o.dst (.mptr st.hp.length 1 0 0))):OpOk C o st K:=OpOk.change λg a w hs=>by cases hi:C.P.info? t with|none=>simp[hi]at hz|some i=>simp[hi]at hz;have hrow:=arr_row (w:=w) (g:=g) (by rw[<- hzd];exact oY w g z) h1;obtain⟨hsim,h2⟩:=Km (ty:=t) hs hrow.le hrow.h0 hrow.h1 hrow.rep;have h3:ARep (w.alloc (Obj.cells z.cells t)) (g.new st.hp.length w.heap.size z.cells.size) (.mptr st.hp.length 1 0 0) (.pointer (some ⟨w.heap.size,0,none⟩)):=.mptr _ 1 0 0 w.heap.size oH;exact⟨_,_,zaP56q,_,_,hK,hsim.put' hd h3⟩
theorem qOO{ops:Array Oper}{l:List Oper}{fr:Fr}{d:Nat}{ty:TypeId}{pos:String}{after:Array Edge}(n:Nat){z:Value}(hd:decide (d<C.n)=true)(hz:(C.P.info? t).bind (·.zero)=some z)(hzd:gP z=.d (.agg (List.replicate (n+1) zd)))(h1:zd.one=true)(h:cP C ops l ⟨(d,.mptr hp.length 1 0 0)::fr,hp++[.flat t 1 (List.replicate (n+1) zd)]⟩ K):cP C ops (⟨some d,.alloc t,ty,pos,after,none⟩::l) ⟨fr,hp⟩ K:=gW rfl (qKH rfl hd hz hzd h1 h)
theorem qQB{ev:Operand->AV}{x y:Operand}{id n s:Nat}{k:IntKind}{i:Int}(ho:o.op=.indexAddr t x y)(hl:qNC C.P t=some (n,s))(hx:ev x=.mptr id s 0 0)(hy:ev y=.d (.int k i))(h:0<=i/\i<n):RdOk C o ev hp (.mptr id s i.toNat 0):=RdOk.mk λst hhp hag g a w hs=>by have h:=hs.ev x;rw[hag x fN,hx]at h;obtain⟨b,hp,he⟩:=rX h;have hi:=hs.ev y;rw[hag y fN,hy]at hi;obtain⟨e,inf,hu,hinf,hsz⟩:=qNB hl;rename_i h0;refine⟨.pointer (some ((⟨b,0*s+0,none⟩:Addr).add (i.toNat*s))),?_,?_⟩;simp only[execOp,ho,he,int_inv hi];simp[Instr.indexAt,run_underlying hu,asIntOf,h0.1,h0.2,sizeOf,typeInfo,hinf,hsz,Instr.sureAddr];rw[zR];simp only[F7,iO];exact .mptr id s i.toNat 0 b hp
end arr
variable {C:Ctx}{st:St}{g:Gh}{a:Act}{w:World}{P:Program}{o:Oper}{K:St->Prop}{ev:Operand->AV}{hp:List Blk}
theorem Na{X:Nat->Prop}{v:Value}(h:ARep w g (.d .nilsl) v):∃ad,v=.slice ad 0 0:=by cases h with|d _ _ h=>cases h;exact⟨_,rfl⟩
theorem qUV(w:World)(t tn ty e:TypeId)(i:TypeInfo)(z:Value)(k kn:IntKind)(ht:P.underlying t=some (.slice e))(htn:P.underlying tn=some (.int kn))(hi:P.info? e=some i)(hz:i.zero=some z)(n:Nat)(ad:Option Addr)(h0:0<n)(hs:0<i.size)(h63:(n:Int)<=9223372036854775807)(h48:n*i.bytes<=281474976710656):(Builtin.append_ #[t,tn] ty #[.slice ad 0 0,.int k n]).run P w=.ok (.slice (some ⟨w.heap.size,0,none⟩) n (grownCap w n 0 e)) (w.drew.alloc (.cells (Builtin.zeroCells z.cells n++Builtin.zeroCells z.cells (grownCap w n 0 e-n)) e)):=by cases ad with|none=>exact Lib.run_append_nil_zeros w t tn ty e i z k kn ht htn hi hz n h0 hs h63 h48|some b=>have hn:n≠0:=aB;have hw:IntKind.i64.wrap (n:Int)=n:=(by rw[IntKind.wrap_i64];omega);have h63':¬(9223372036854775807<(n:Int)):=aB;have h48':¬(281474976710656<Builtin.nextslicecap n 0*i.bytes):=(by rw[nextslicecap_zero h0];omega);have h48i:¬(281474976710656<(n:Int)*(i.bytes:Int)):=qDV;have hneg:¬((n:Int)<0):=aB;have hns:¬(n*i.size=0):=Nat.mul_ne_zero hn aB;have hf:=run_firstCells_some (P:=P) w.drew i.size 0 b 0 0 [] aN (λj v h=>nV);simp[Builtin.append_,run_underlying ht,run_underlying htn,sizeOf,typeInfo,zeroValue,hi,hz,asInt,asIntOf,hw,hn,hneg,hns,h63',h48',h48i,Question.forced,hf,newRow,grownCap]
theorem ok_zeros{tn e:TypeId}{k kn:IntKind}(ho:o.op=.call { callee:=.builtin .append,args:=#[x,y],argTypes:=#[t,tn] })(hd:vC C.n o.dst=true)(hl:sel C.P t=some (e,sz,by'))(htn:C.P.underlying tn=some (.int kn))(hz:(C.P.info? e).bind (·.zero)=some z)(hx:st.fr.ev x=.d .nilsl)(hy:st.fr.ev y=.d (.int k n))(hzc:z.cells.size=sz)(h0:0<n)(hs0:0<sz)(hlen:n*by'<=281474976710656)(hlen':n<=9223372036854775807)(hK:K (St.put ⟨st.fr,st.hp++[.flat e sz []]⟩ o.dst (.msl st.hp.length sz 0 n))):OpOk C o st K:=OpOk.change λg a w hsim=>by obtain⟨inf,hun,hi,hsz,hby⟩:=zB hl;obtain⟨i',hi',hzero⟩:=cx hz;cases hi.symm.trans hi';have hvx:=hsim.ev x;rw[hx]at hvx;obtain⟨ad,hex⟩:=Na (X:=g.X) hvx;have hvy:=hsim.ev y;rw[hy]at hvy;have hey:=int_inv hvy;have hr:=qUV (P:=C.P) w t tn o.type e inf z k kn hun htn hi hzero n ad h0 aB aB (by rw[hby];exact hlen);rw[<- hex,<- hey]at hr;have hcap:n<=grownCap w n 0 e:=grownCap_ge w n 0 e;obtain⟨h1,_⟩:=Km (ty:=e) (sz:=sz) (es:=[]) (vs:=Builtin.zeroCells z.cells n++Builtin.zeroCells z.cells (grownCap w n 0 e-n)) hsim.drew aN (λi e h=>nV) (λi e j c h=>nV) (λi e j c h=>nV);have h3:ARep (w.drew.alloc (.cells (Builtin.zeroCells z.cells n++Builtin.zeroCells z.cells (grownCap w n 0 e-n)) e)) (g.new st.hp.length w.heap.size (Builtin.zeroCells z.cells n++Builtin.zeroCells z.cells (grownCap w n 0 e-n)).size) (.msl st.hp.length sz 0 n) (.slice (some ⟨w.heap.size,0,none⟩) n (grownCap w n 0 e)):=(by have:=ARep.msl (w:=w.drew.alloc (.cells (Builtin.zeroCells z.cells n++Builtin.zeroCells z.cells (grownCap w n 0 e-n)) e)) (g:=g.new st.hp.length w.heap.size (Builtin.zeroCells z.cells n++Builtin.zeroCells z.cells (grownCap w n 0 e-n)).size) st.hp.length sz 0 n (grownCap w n 0 e) w.heap.size oH hcap (by simp only[Gh.new,upd,if_true,Im,size_zeroCells,hzc,iO,<- Nat.add_mul];rw[show n+(grownCap w n 0 e-n)=grownCap w n 0 e by omega];exact fY _);simpa using this);refine⟨_,_,?_,_,_,hK,h1.put' hd h3⟩;simp only[execOp,ho];simp[resolve,invoke,builtin,hr]
section steps
variable {ops:Array Oper}{l:List Oper}{fr:Fr}{d:Nat}{ty:TypeId}{pos:String}{after:Array Edge}{t tn e:TypeId}{x y:Operand}{sz by' n:Nat}{z:Value}{k kn:IntKind}
theorem qEV(hd:decide (d<C.n)=true)(hl:sel C.P t=some (e,sz,by'))(htn:C.P.underlying tn=some (.int kn))(hz:(C.P.info? e).bind (·.zero)=some z)(hx:fr.ev x=.d .nilsl)(hy:fr.ev y=.d (.int k n))(hzc:z.cells.size=sz)(h0:0<n)(hs0:0<sz)(hlen:n*by'<=281474976710656)(hlen':n<=9223372036854775807)(h:cP C ops l ⟨(d,.msl hp.length sz 0 n)::fr,hp++[.flat e sz []]⟩ K):cP C ops (⟨some d,.call { callee:=.builtin .append,args:=#[x,y],argTypes:=#[t,tn] },ty,pos,after,none⟩::l) ⟨fr,hp⟩ K:=gW rfl (ok_zeros rfl hd hl htn hz hx hy hzc h0 hs0 hlen hlen' h)
end steps
section rds
variable {t e:TypeId}{x:Operand}{sz by':Nat}
theorem Hb(ho:o.op=.call { callee:=.builtin .cap,args:=#[x],argTypes:=#[t] })(hl:sel C.P t=some (e,sz,by'))(hx:ev x=.d .nilsl):RdOk C o ev hp (.d (.int .i64 0)):=RdOk.mk λst hhp hag g a w hs=>by have h:=hs.ev x;rw[hag x C8,hx]at h;obtain⟨inf,hu,hi,_,_⟩:=zB hl;obtain⟨ad,he⟩:=Na (X:=g.X) h;refine⟨goInt 0,?_,.d _ _ (.int _ _)⟩;simp only[execOp,ho];simp[resolve,invoke,builtin,Builtin.cap_,run_underlying hu,he]
theorem qHF{lo hi:Option Operand}(ho:o.op=.slice t x lo hi none)(hl:sel C.P t=some (e,sz,by'))(hx:ev x=.d .nilsl)(hlo:Nv 0 (lo.map ev)=some 0)(hhi:Nv 0 (hi.map ev)=some 0):RdOk C o ev hp (.d .nilsl):=RdOk.mk λst hhp hag g a w hs=>by have h:=hs.ev x;rw[hag x fN,hx]at h;have bound:∀(q:Option Operand),(∀y,q=some y->y∈o.op.operands)->Nv 0 (q.map ev)=some 0->(q.map a.eval=none/\(0:Nat)=0)\/∃k,q.map a.eval=some (.int k ((0:Nat):Int)):=(by intro q hq hb;cases q with|none=>exact .inl ⟨rfl,rfl⟩|some y=>have hy:=hs.ev y;rw[hag y (hq y rfl)]at hy;simp only[jB]at hb⊢;unfold Nv at hb;split at hb;rename_i e;cases e;rename_i k m e;rw[bO e]at hy;cases hb;exact .inr ⟨k,by rw[int_inv hy];rfl⟩;cases hb);have hlo':=bound lo (λy hy=>Ea) hlo;have hhi':=bound hi (λy hy=>Ea) hhi;obtain⟨ad,he⟩:=Na (X:=g.X) h;have:=qEY hl w ad 0 0 (lo.map a.eval) (hi.map a.eval) 0 0 hlo' hhi' (fY _) (fY _);refine⟨.slice ad 0 0,?_,.d _ _ (.nilsl _)⟩;simp only[execOp,ho,he,Option.map_none,Sem.run_bind,this,Result.andThen_ok,Sem.run_pure];simp
end rds
def lk{α:Type}:List (Nat×α)->Nat->Option α
  |[],_=>none
  |(k,a)::r,t=>match Nat.beq k t with
    |true=>some a
    |false=>lk r t
theorem Jd{α:Type}:∀{l:List (Nat×α)} {t:Nat} {a:α},lk l t=some a->(t,a)∈l
  |[],_,_,h=>by cases h
  |(k,b)::r,t,a,h=>by
    simp only[lk]at h;split at h;rename_i e;cases h;rw[eU e];simp;exact pP _ (Jd h)
structure Tab where
  lay:List (Nat×Bool×Nat)
  fs:List (Nat×List (Nat×Bool×Nat))
  sel:List (Nat×Nat×Nat×Nat)
  str:List (Nat×Unit)
  boo:List (Nat×Unit)
  con:List (Nat×Unit)
structure TabOk (P:Program) (T:Tab):Prop where
  lay:∀{t:Nat}{x:Bool×Nat},lk T.lay t=some x->lay P t=some x
  fs:∀{t:Nat}{l:List (Nat×Bool×Nat)} {f:Nat} {x:Nat×Bool×Nat},lk T.fs t=some l->l[f]?=some x->fld P t f=some x.1/\qQE P t f=some x
  sel:∀{t:Nat}{x:Nat×Nat×Nat},lk T.sel t=some x->sel P t=some x
  str:∀{t:Nat}{x:Unit},lk T.str t=some x->P.underlying t=some .string
  boo:∀{t:Nat}{x:Unit},lk T.boo t=some x->P.underlying t=some .bool
  con:∀{t:Nat}{x:Unit},lk T.con t=some x->Nt P t=true
def isStr(P:Program)(t:Nat):Bool:=match P.underlying t with
  |some .string=>true
  |_=>false
def isBoo(P:Program)(t:Nat):Bool:=match P.underlying t with
  |some .bool=>true
  |_=>false
def tabB(P:Program)(T:Tab):Bool:=T.lay.all (λe=>lay P e.1 == some e.2)&&T.fs.all (λe=>e.2.zipIdx.all λx=>fld P e.1 x.2 == some x.1.1&&qQE P e.1 x.2 == some x.1)&&T.sel.all (λe=>sel P e.1 == some e.2)&&T.str.all (λe=>isStr P e.1)&&T.boo.all (λe=>isBoo P e.1)&&T.con.all (λe=>Nt P e.1)
variable {T:Tab}
theorem tabB_ok{P:Program}(h:tabB P T=true):TabOk P T:=by simp only[tabB,tY,zal39q]at h;obtain⟨⟨⟨⟨⟨h1,h2⟩,h3⟩,h4⟩,h5⟩,h6⟩:=h;refine⟨λhl=>?_,fun {t l f x} hl hf=>?_,λhl=>?_,λhl=>?_,λhl=>?_,λhl=>?_⟩;simpa using h1 _ (Jd hl);have:=h2 _ (Jd hl) (x,f) (by rw[List.mem_zipIdx_iff_getElem?];simpa using hf);simpa using this;simpa using h3 _ (Jd hl);have:=h4 _ (Jd hl);simp only[isStr]at this;split at this;assumption;cases this;have:=h5 _ (Jd hl);simp only[isBoo]at this;split at this;assumption;cases this;exact h6 _ (Jd hl)
def nf:AV->Option AV
  |.d d=>some (.d d)
  |.msl i s o l=>some (.msl i s o l)
  |.mptr i s x o=>some (.mptr i s x o)
  |.mmap i=>some (.mmap i)
  |.yld i=>some (.yld i)
  |.mmapN i n=>some (.mmapN i n)
  |.agg cs=>some (.agg cs)
  |.tup vs=>some (.tup vs)
  |.fnc f c=>some (.fnc f c)
  |.ifc t v=>some (.ifc t v)
  |_=>none
theorem Di(h:nf v=some u):v=u:=by cases v<;>first|(simp only[nf,jA]at h;exact h)|cases h
def Fc(fr:Fr):List Nat->Option Fr
  |[]=>some []
  |k::ks=>match nf (fr.get k)with
    |some v=>match Fc fr ks with
      |some r=>some ((k,v)::r)
      |none=>none
    |none=>none
theorem Gu{fr:Fr}:∀{ks:List Nat}{r:Fr},Fc fr ks=some r->SubK fr ks r
  |[],r,h=>by cases h;exact .nil
  |k::ks,r,h=>by
    simp only[Fc]at h;split at h;rename_i v hv;split at h;rename_i r' hr;cases h;exact .cons k v ks r' (Di hv) (Gu hr);cases h;cases h
def qSH:List AV->Option (List AV)
  |[]=>some []
  |c::r=>match nf c with
    |some v=>match qSH r with
      |some r'=>some (v::r')
      |none=>none
    |none=>none
theorem qKK:∀{cs ds:List AV},qSH cs=some ds->cs=ds
  |[],_,h=>by cases h;rfl
  |c::r,ds,h=>by
    simp only[qSH]at h;split at h;rename_i v hv;split at h;rename_i r' hr;cases h;rw[Di hv,qKK hr];cases h;cases h
def qKJ:List Blk->Option (List Blk)
  |[]=>some []
  |b::r=>match qKJ r with
    |some r'=>match b with
      |.dead=>some (.dead::r')
      |.hole=>some (.hole::r')
      |.flat t s es=>some (.flat t s es::r')
      |.map k v es=>some (.map k v es::r')
      |.ob o=>some (.ob o::r')
      |.mapv k v es=>some (.mapv k v es::r')
      |.lp s pd ps a b n fr=>some (.lp s pd ps a b n fr::r')
      |.box t cs=>match qSH cs with
        |some cs'=>some (.box t cs'::r')
        |none=>none
    |none=>none
theorem qKI:∀{hp hp':List Blk},qKJ hp=some hp'->hp=hp'
  |[],_,h=>by cases h;rfl
  |b::r,hp',h=>by
    simp only[qKJ]at h;split at h;rename_i r' hr;have e:=qKI hr
    cases b with
    |box t cs=>
      simp only at h;split at h;rename_i cs' hc;cases h;rw[qKK hc,e];cases h
    |_=>simp only[jA]at h;rw[<- h,e]
    cases h
theorem WN{C:Ctx}{Q:Exit->St->Prop}{hp:List Blk}(ks:List Nat)(h1:Fc fr ks=some fr')(h2:qKJ hp=some hp')(h:TWp C c ⟨fr',hp'⟩ Q):TWp C c ⟨fr,hp⟩ Q:=fK ks (Gu h1) (qKI h2) h
def Ie(agg:Bool)(s:Nat)(hp:List Blk):AV->Option AV
  |.d (.ptr e off)=>match agg with
    |false=>match e.cells[off]? with
      |some d=>some (.d d)
      |none=>none
    |true=>match Nat.beq off 0,Nat.beq e.cells.length s,e.one with
      |true,true,false=>some (.d e)
      |_,_,_=>match Nat.ble (off+s) e.cells.length with
        |true=>some (.d (e.part off s))
        |false=>none
  |.mptr id s' i off=>match Nat.beq s' 0,Nat.beq i 0 with
    |true,true=>match hp[id]? with
      |some (.box _ cs)=>match agg with
        |false=>match cs[off]? with
          |some c=>nf c
          |none=>none
        |true=>match Nat.ble (off+s) cs.length with
          |true=>nf (zg ((cs.drop off).take s))
          |false=>none
      |_=>none
    |_,_=>none
  |_=>none
def qQF(fo:Nat)(agg:Bool)(n:Nat)(u:AV):Option AV:=
  match u.isAgg with
  |true=>match agg with
    |false=>match u.cells[fo]? with
      |some c=>nf c
      |none=>none
    |true=>match Nat.ble (fo+n) u.cells.length with
      |true=>nf (zg ((u.cells.drop fo).take n))
      |false=>none
  |false=>none
def Yv(op:BinOp)(isB:Option Unit):AV->AV->Option AV
  |.d (.int k m),.d (.int k' n)=>match decide (k=k')with
    |true=>match qHK op m n with
      |some b=>some (.d (.bool b))
      |none=>none
    |false=>none
  |.d (.str p),.d (.str q)=>match qQL op (decide (p=q))with
    |some b=>some (.d (.bool b))
    |none=>none
  |.d (.bool p),.d (.bool q)=>match isB with
    |some _=>match qHL op p q with
      |some b=>some (.d (.bool b))
      |none=>none
    |none=>none
  |_,_=>none
def qSE:AV->AV->AV->Option AV
  |.d (.bool b),u,v=>match b with
    |true=>nf u
    |false=>nf v
  |_,_,_=>none
def rdE(T:Tab)(op:Op)(ev:Operand->AV)(hp:List Blk):Option AV:=
  match op with
  |.move x=>nf (ev x)
  |.assign x=>nf (ev x)
  |.load t x=>match lk T.lay t with
    |some (b,s)=>Ie b s hp (ev x)
    |none=>none
  |.fieldAddr s x f=>match lk T.fs s with
    |some l=>match l[f]? with
      |some (fo,_,_)=>match ev x with
        |.d (.ptr e off)=>some (.d (.ptr e (off+fo)))
        |.mptr id sz i off=>some (.mptr id sz i (off+fo))
        |_=>none
      |none=>none
    |none=>none
  |.field s x f=>match lk T.fs s with
    |some l=>match l[f]? with
      |some (fo,b,n)=>qQF fo b n (ev x)
      |none=>none
    |none=>none
  |.binOp op t x y _=>Yv op (lk T.boo t) (ev x) (ev y)
  |.unOp .not _ x=>match ev x with
    |.d (.bool b)=>some (.d (.bool (!b)))
    |_=>none
  |.pick c x y=>qSE (ev c) (ev x) (ev y)
  |.extract x i=>match ev x with
    |.tup vs=>match vs[i]? with
      |some v=>nf v
      |none=>none
    |_=>none
  |.nilCheck x=>match (ev x).notNil with
    |true=>nf (ev x)
    |false=>none
  |.call { callee:=.builtin .len,args:=⟨[x]⟩,argTypes:=⟨[t]⟩ }=>match ev x with
    |.d (.str s)=>match lk T.str t with
      |some _=>some (.d (.int .i64 s.size))
      |none=>none
    |.msl _ _ _ n=>match lk T.sel t with
      |some _=>some (.d (.int .i64 n))
      |none=>none
    |_=>none
  |.makeInterface t x=>match lk T.con t with
    |some _=>match ev x with
      |.d d=>some (.d (.iface t d))
      |_=>none
    |none=>none
  |.typeAssert x _ t true=>match lk T.con t with
    |some _=>match ev x with
      |.d (.iface t' d)=>match Nat.beq t' t with
        |true=>some (.tup [.d d,.d (.bool true)])
        |false=>none
      |_=>none
    |none=>none
  |.makeFunc (.func F) ⟨[]⟩ caps=>match qTE (caps.toList.map ev)with
    |some ds=>some (.d (.clo F ds))
    |none=>none
  |_=>none
section rd
variable {C:Ctx}{T:Tab}{o:Oper}{ev:Operand->AV}{hp:List Blk}{v:AV}
variable {x y:Operand}
theorem loadE_ok{t:TypeId}{b:Bool}{s:Nat}(ho:o.op=.load t x)(hl:lay C.P t=some (b,s))(h:Ie b s hp (ev x)=some v):RdOk C o ev hp v:=by cases hx:ev x with|d d =>(rw[hx]at h;cases d with|ptr e off =>(cases b with|false=>simp only[Ie]at h;split at h;rename_i d hd;cases h;exact N6 e d off s ho hl hx hd;cases h|true=>simp only[Ie]at h;split at h;rename_i h1 h2 h3;cases h;have h1:=eU h1;subst h1;exact qWE ho hl hx (eU h2) h3;split at h;rename_i hb;cases h;exact Eu e off s ho hl hx (iP hb);cases h)|_=>simp[Ie]at h)|mptr id s' i off=>rw[hx]at h;simp only[Ie]at h;split at h;rename_i h1 h2;have h1:=eU h1;have h2:=eU h2;subst h1 h2;split at h;rename_i bt cs hb;(cases b with|false=>simp only at h;split at h;rename_i c hc;rw[<- Di h];exact qJR id off s cs c ho hl hx hb hc;cases h|true=>simp only at h;split at h;rename_i hc;rw[<- Di h];exact Xe id off s cs ho hl hx hb (iP hc);cases h);cases h;cases h|_=>rw[hx]at h;simp[Ie]at h
theorem qWT{s:TypeId}{f fo n:Nat}{b:Bool}(ho:o.op=.field s x f)(hf:qQE C.P s f=some (fo,b,n))(h:qQF fo b n (ev x)=some v):RdOk C o ev hp v:=by simp only[qQF]at h;split at h;rename_i ha;(cases b with|false=>simp only at h;split at h;rename_i c hc;rw[<- Di h];exact qVG ho hf rfl ha hc;cases h|true=>simp only at h;split at h;rename_i hc;exact qOY ho hf rfl ha hc (Di h);cases h);cases h
theorem cmpE_ok{op:BinOp}{t t':TypeId}{u:Option Unit}(hu:∀z,u=some z->C.P.underlying t=some .bool)(ho:o.op=.binOp op t x y t')(h:Yv op u (ev x) (ev y)=some v):RdOk C o ev hp v:=by cases hx:ev x with|d d =>(rw[hx]at h;cases hy:ev y with|d e =>(rw[hy]at h;cases d with|int k m =>(cases e with|int k' n=>simp only[Yv]at h;split at h;rename_i hk;have hk:=of_decide_eq_true hk;subst hk;split at h;rename_i b hb;cases h;exact rd_cmp k m n b ho hx hy hb;cases h;cases h|_=>simp[Yv]at h)|str p =>(cases e with|str q=>simp only[Yv]at h;split at h;rename_i b hb;cases h;exact cmp_str ho hx hy hb;cases h|_=>simp[Yv]at h)|bool p =>(cases e with|bool q=>simp only[Yv]at h;split at h;rename_i z;split at h;rename_i b hb;cases h;exact cmp_bool (hu _ rfl) ho hx hy hb;cases h;cases h|_=>simp[Yv]at h)|_=>simp[Yv]at h)|_=>rw[hy]at h;simp[Yv]at h)|_=>rw[hx]at h;simp[Yv]at h
theorem pickE_ok{c:Operand}(ho:o.op=.pick c x y)(h:qSE (ev c) (ev x) (ev y)=some v):RdOk C o ev hp v:=by cases hc:ev c with|d d =>(rw[hc]at h;cases d with|bool b =>(cases b with|true=>exact pick_T ho hc (Di h)|false=>exact pick_F ho hc (Di h))|_=>simp[qSE]at h)|_=>rw[hc]at h;simp[qSE]at h
theorem rdE_ok(hT:TabOk C.P T)(h:rdE T o.op ev hp=some v):RdOk C o ev hp v:=by unfold rdE at h;split at h;rename_i x ho;rw[<- Di h];exact Ka (.inl ho);rename_i x ho;rw[<- Di h];exact Ka (.inr ho);rename_i t x ho;split at h;rename_i b s hl;exact loadE_ok ho (hT.lay hl) h;cases h;rename_i s x f ho;split at h;rename_i l hl;split at h;rename_i fo b n hf;split at h;rename_i e off hx;cases h;exact My e off fo ho (hT.fs hl hf).1 hx;rename_i id sz i off hx;cases h;exact Kb id sz i off fo ho (hT.fs hl hf).1 hx;cases h;cases h;cases h;rename_i s x f ho;split at h;rename_i l hl;split at h;rename_i fo b n hf;exact qWT ho (hT.fs hl hf).2 h;cases h;cases h;rename_i op t x y t' ho;exact cmpE_ok (λz hz=>hT.boo hz) ho h;rename_i t x ho;split at h;rename_i b hx;cases h;exact not_b ho hx rfl;cases h;rename_i c x y ho;exact pickE_ok ho h;rename_i x i ho;split at h;rename_i vs hx;split at h;rename_i u hu;rw[<- Di h];exact qOZ vs u ho hx hu;cases h;cases h;rename_i x ho;split at h;rename_i hn;rw[<- Di h];exact qJN _ ho rfl hn;cases h;rename_i x t ho;split at h;rename_i s hx;split at h;rename_i z hz;cases h;exact qOX s ho (hT.str hz) hx;cases h;rename_i i s f n hx;split at h;rename_i z hz;cases h;obtain⟨e,sz,by'⟩:=z;exact Mv _ sz by' n ho (hT.sel hz) hx rfl;cases h;cases h;rename_i t x ho;split at h;rename_i z hz;split at h;rename_i d hx;cases h;exact qOW ho (hT.con hz) hx;cases h;cases h;rename_i x xt t ho;split at h;rename_i z hz;split at h;rename_i t' d hx;split at h;rename_i he;cases h;have he:=eU he;subst he;exact Kc ho (hT.con hz) hx;cases h;cases h;cases h;rename_i F caps ho;split at h;rename_i ds hx;cases h;exact qFF ho hx;cases h;cases h
end rd
def Oh(ops:Array Oper)(gd:Option (Nat×Bool))(fr:Fr):Option Bool:=
  match gd with
  |none=>some true
  |some (i,want)=>match (ops[i]?).bind (·.dst)with
    |some t=>match fr.get t with
      |.d (.bool b)=>match b,want with
        |true,true=>some true
        |false,false=>some true
        |true,false=>some false
        |false,true=>some false
      |.und=>some false
      |_=>none
    |none=>none
def storeE(T:Tab)(t:TypeId)(hp:List Blk)(p v:AV):Option (List Blk):=
  match lk T.lay t with
  |some (_,s)=>match p with
    |.mptr id s' i off=>match Nat.beq s' 0,Nat.beq i 0 with
      |true,true=>match hp[id]? with
        |some (.box bt cs)=>match v.flat,Nat.beq v.cells.length s,Nat.ble (off+s) cs.length with
          |true,true,true=>some (hp.set id (.box bt (spl cs off v.cells)))
          |_,_,_=>none
        |_=>none
      |_,_=>none
    |_=>none
  |none=>none
def Iv(T:Tab)(n:Nat)(ops:Array Oper)(o:Oper)(fr:Fr)(hp:List Blk):Option (Fr×List Blk):=
  match Oh ops o.guard fr with
  |some true=>match o.dst with
    |some d=>match Nat.blt d n with
      |true=>match rdE T o.op fr.ev hp with
        |some v=>some ((d,v)::fr,hp)
        |none=>none
      |false=>none
    |none=>match o.op with
      |.store t x y=>match storeE T t hp (fr.ev x) (fr.ev y)with
        |some hp'=>some (fr,hp')
        |none=>none
      |_=>none
  |some false=>match o.dst with
    |some d=>match Nat.blt d n with
      |true=>some ((d,.und)::fr,hp)
      |false=>none
    |none=>none
  |none=>none
theorem Vt(h:Nat.blt d n=true):decide (d<n)=true:=by simpa[Nat.blt_eq]using h
theorem qFV{C:Ctx}{st:St}{g:Gh}{a:Act}{w:World}(hs:Sim C st g a w){b:Bool}(h:Oh ops gd st.fr=some b):gd=none/\b=true\/∃i want,gd=some (i,want)/\((yielded ops a.tmps i=some want/\b=true)\/(yielded ops a.tmps i≠some want/\b=false)):=by unfold Oh at h;split at h;cases h;exact .inl ⟨rfl,rfl⟩;rename_i i want;right;refine⟨i,want,rfl,?_⟩;split at h;rename_i t ht;split at h;rename_i c hc;have hy:=Hw hs ht hc;split at h<;>cases h<;>simp[hy];rename_i hc;cases h;have hy:=Nz hs ht hc;simp[hy];cases h;cases h
theorem SA{C:Ctx}{T:Tab}{ops:Array Oper}{o:Oper}{l:List Oper}{K:St->Prop}{fr fr':Fr}{hp hp':List Blk}(hT:TabOk C.P T)(h:Iv T C.n ops o fr hp=some (fr',hp'))(k:cP C ops l ⟨fr',hp'⟩ K):cP C ops (o::l) ⟨fr,hp⟩ K:=by intro g a w hs;unfold Iv at h;split at h;rename_i hon;have hrun:OpOk C o ⟨fr,hp⟩ (λst''=>cP C ops l st'' K)->wpList C.P ops (QN C K) (o::l) a w:=(by intro hok;unfold wpList;have hw:Region.wanted o (yielded ops a.tmps)=true:=(by rcases qFV hs hon with⟨hg,_⟩|⟨i,want,hg,⟨hy,_⟩|⟨_,hc⟩⟩;simp[Region.wanted,hg];simp[Region.wanted,hg,hy];cases hc);rw[if_pos hw];exact .inl (Oper.wp_mono (λa w ⟨st',g',hK,hs'⟩=>hK g' a w hs') (hok g a w _ hs)));split at h;rename_i d hd;split at h;rename_i hlt;split at h;rename_i v hv;cases h;exact hrun ((rdE_ok (hp:=hp) hT hv).ok (st:=⟨fr,hp⟩) (by rw[hd];exact Vt hlt) (by rw[hd];exact k));cases h;cases h;rename_i hd;split at h;rename_i t x y ho;split at h;rename_i hp' hst;cases h;unfold storeE at hst;split at hst;rename_i bb s hl;split at hst;rename_i id s' i off hx;split at hst;rename_i e1 e2;have e1:=eU e1;have e2:=eU e2;subst e1 e2;split at hst;rename_i bt cs hb;split at hst;rename_i f1 f2 f3;cases hst;exact hrun (qFY id off s bb cs _ ho hd (hT.lay hl) hx rfl f1 (eU f2) hb (iP f3) k);cases hst;cases hst;cases hst;cases hst;cases hst;cases h;cases h;rename_i hon;have hw:¬Region.wanted o (yielded ops a.tmps)=true:=(by rcases qFV hs hon with⟨_,hc⟩|⟨i,want,hg,⟨_,hc⟩|⟨hy,_⟩⟩;cases hc;cases hc;simpa[Region.wanted,hg]using hy);split at h;rename_i d hd;split at h;rename_i hlt;cases h;unfold wpList;rw[if_neg hw];refine k g _ w ?_;rw[hd];exact hs.put (of_decide_eq_true (Vt hlt)) .und;cases h;cases h;cases h
theorem SB{C:Ctx}{o:Oper}{l:List Oper}{K:St->Prop}{fr0:Fr}{hp:List Blk}{e:Bool}(hT:TabOk C.P T)(h:Iv T C.n ops o fr0 hp0=some ((d,.d (.bool e))::fr,hp))(k:∀b,e=b->cP C ops l ⟨(d,.d (.bool b))::fr,hp⟩ K):cP C ops (o::l) ⟨fr0,hp0⟩ K:=SA hT h (k e rfl)
theorem kS{o:Oper}{b:Bool}(h:Oh ops o.guard fr=some b):onA ops fr o=some b:=by unfold Oh at h;unfold onA;split at h;rename_i hg;rw[hg];exact h;rename_i i want hg;rw[hg];simp only;split at h;rename_i t ht;rw[ht];simp only;split at h;rename_i c hc;rw[hc];simp only;split at h<;>exact h;rename_i hc;rw[hc];exact h;cases h;cases h
def drE(T:Tab)(n:Nat)(ops:Array Oper)(o:Oper)(fr:Fr)(hp:List Blk):Option (Bool×Nat×AV):=
  match Oh ops o.guard fr with
  |some b=>match o.dst with
    |some d=>match Nat.blt d n with
      |true=>match b with
        |true=>match rdE T o.op fr.ev hp with
          |some v=>some (true,d,v)
          |none=>none
        |false=>some (false,d,.und)
      |false=>none
    |none=>none
  |none=>none
theorem DA{C:Ctx}{o:Oper}{l:List Oper}{K:St->Prop}{hp:List Blk}{on:Bool}(rs:List Nat)(hT:TabOk C.P T)(h:drE T C.n ops o fr (Jc rs hp)=some (on,d,v))(k:TDr C ops K l ((d,v)::fr) hp (acc++[⟨on,d,v,bif on then rs else[],[]⟩])):TDr C ops K (o::l) fr hp acc:=by unfold drE at h;split at h;rename_i b hon;split at h;rename_i d' hd;split at h;rename_i hlt;split at h;split at h;rename_i u hv;cases h;exact .step o l fr hp acc d v rs [] v (.inl ⟨hd,Vt hlt,rfl⟩) (kS hon) (λp hp=>by simp at hp) (rdE_ok hT hv).dok k;cases h;cases h;exact .skip o l fr hp acc d _ (.inl ⟨hd,Vt hlt,rfl⟩) (kS hon) k;cases h;cases h;cases h
theorem d_b{C:Ctx}{o:Oper}{l:List Oper}{K:St->Prop}{hp:List Blk}{e:Bool}(rs:List Nat)(hT:TabOk C.P T)(h:drE T C.n ops o fr (Jc rs hp)=some (true,d,.d (.bool e)))(k:∀b,e=b->TDr C ops K l ((d,.d (.bool b))::fr) hp (acc++[⟨true,d,.d (.bool b),rs,[]⟩])):TDr C ops K (o::l) fr hp acc:=DA rs hT h (k e rfl)
theorem DX{C:Ctx}{op:Op}{ty:TypeId}{l:List Oper}{K:St->Prop}{hp:List Blk}(rs:List Nat)(hd:decide (d<C.n)=true)(hon:Oh ops gd fr=some true)(hr:RdOk C ⟨some d,op,ty,pos,after,gd⟩ fr.ev (Jc rs hp) v)(k:TDr C ops K l ((d,v)::fr) hp (acc++[⟨true,d,v,rs,[]⟩])):TDr C ops K (⟨some d,op,ty,pos,after,gd⟩::l) fr hp acc:=.step _ l fr hp acc d v rs [] v (.inl ⟨rfl,hd,rfl⟩) (kS (o:=⟨some d,op,ty,pos,after,gd⟩) hon) (λp hp=>by simp at hp) hr.dok k
theorem SX{C:Ctx}{op:Op}{ty:TypeId}{l:List Oper}{K:St->Prop}{hp:List Blk}(hd:decide (d<C.n)=true)(hon:Oh ops gd fr=some true)(hr:RdOk C ⟨some d,op,ty,pos,after,gd⟩ fr.ev hp v)(k:cP C ops l ⟨(d,v)::fr,hp⟩ K):cP C ops (⟨some d,op,ty,pos,after,gd⟩::l) ⟨fr,hp⟩ K:=by intro g a w hs;unfold wpList;have hw:Region.wanted ⟨some d,op,ty,pos,after,gd⟩ (yielded ops a.tmps)=true:=(by rcases qFV hs hon with⟨hg,_⟩|⟨i,want,hg,⟨hy,_⟩|⟨_,hc⟩⟩;simp[Region.wanted,hg];simp[Region.wanted,hg,hy];cases hc);rw[if_pos hw];have hok:OpOk C ⟨some d,op,ty,pos,after,gd⟩ ⟨fr,hp⟩ (λst''=>cP C ops l st'' K):=hr.ok (st:=⟨fr,hp⟩) hd k;exact .inl (Oper.wp_mono (λa w ⟨st',g',hK,hs'⟩=>hK g' a w hs') (hok g a w _ hs))
def wkE:List D->List (Option Nat)->Option (List D)
  |[],_=>some []
  |d::r,[]=>some (d::r)
  |d::r,none::s=>match wkE r s with
    |some r'=>some (d::r')
    |none=>none
  |d::r,some n::s=>match wkE r s with
    |some r'=>match d with
      |.nilsl=>some (.sl n []::r')
      |_=>none
    |none=>none
theorem qNT:∀{ds:List D}{s:List (Option Nat)} {ds':List D},wkE ds s=some ds'->ds.length=ds'.length/\∀(i:Nat)(c c':D),ds[i]?=some c->ds'[i]?=some c'->DLe c c'/\c'.one=c.one
  |[],_,_,h=>by cases h;exact⟨rfl,λi c c' h=>nV⟩
  |d::r,[],_,h=>by
    cases h;exact⟨rfl,λi c c' h h'=>by rw[h]at h';cases h';exact⟨.refl _,rfl⟩⟩
  |d::r,none::s,_,h=>by
    simp only[wkE]at h;split at h;rename_i r' hr;cases h;obtain⟨h1,h2⟩:=qNT hr;refine⟨x8,λi c c' hc hc'=>?_⟩
    cases i with
    |zero=>simp at hc hc';subst hc hc';exact⟨.refl _,rfl⟩
    |succ i=>exact h2 i c c' fe V6
    cases h
  |d::r,some n::s,_,h=>by
    simp only[wkE]at h;split at h;rename_i r' hr;obtain⟨h1,h2⟩:=qNT hr
    cases d with
    |nilsl=>
      cases h;refine⟨x8,λi c c' hc hc'=>?_⟩
      cases i with
      |zero=>simp at hc hc';subst hc hc';exact⟨.nil _,rfl⟩
      |succ i=>exact h2 i c c' fe V6
    |_=>cases h
    cases h
def wkV(s:List (Option Nat)):AV->Option AV
  |.d (.agg ds)=>match wkE ds s with
    |some ds'=>some (.d (.agg ds'))
    |none=>none
  |.d .nilsl=>match s with
    |[some n]=>some (.d (.sl n []))
    |_=>none
  |_=>none
theorem wkV_rep{w:World}{g:Gh}{u:Value}(h:wkV s v=some v')(hr:ARep w g v u):ARep w g v' u:=by cases v with|d d =>(cases d with|agg ds=>simp only[wkV]at h;split at h;rename_i ds' hw;cases h;obtain⟨h1,h2⟩:=qNT hw;(cases hr with|d _ _ hr=>cases hr with|agg _ vs hl ho hc=>refine .d _ _ (.agg ds' vs (by rw[<- h1];exact hl) (λc hc'=>?_) λi c u hi hu=>?_);obtain⟨i,hi⟩:=lO hc';have hlt:=(zal72q.1 hi).1;have hd:ds[i]?=some ds[i]:=aN;rw[(h2 i _ c hd hi).2];exact ho _ aN;have hlt:=(zal72q.1 hi).1;have hd:ds[i]?=some ds[i]:=aN;exact(h2 i _ c hd hi).1 _ _ _ (hc i _ u hd hu));cases h|nilsl=>simp only[wkV]at h;split at h;cases h;(cases hr with|d _ _ hr=>exact .d _ _ (DLe.nil _ _ _ _ hr));cases h|_=>cases h)|_=>cases h
theorem Sim.wk{C:Ctx}{hp:List Blk}{g:Gh}{a:Act}{w:World}(h:Sim C ⟨fr,hp⟩ g a w){t:Nat}(hv:wkV s (fr.get t)=some v):Sim C ⟨(t,v)::fr,hp⟩ g a w:=by refine{ h with fr:=λu=>?_ };simp only[Fr.get];split;rename_i e;subst e;exact wkV_rep hv (h.fr t);exact h.fr u
theorem yr{C:Ctx}{hp:List Blk}{Q:Exit->St->Prop}(t:Nat)(s:List (Option Nat))(hv:wkV s (fr.get t)=some v)(h:TWp C c ⟨(t,v)::fr,hp⟩ Q):TWp C c ⟨fr,hp⟩ Q:=λg a w hs=>h g a w (Sim.wk hs hv)
theorem s_wk{C:Ctx}{hp:List Blk}{l:List Oper}{K:St->Prop}(t:Nat)(s:List (Option Nat))(hv:wkV s (fr.get t)=some v)(h:cP C ops l ⟨(t,v)::fr,hp⟩ K):cP C ops l ⟨fr,hp⟩ K:=λg a w hs=>h g a w (Sim.wk hs hv)
def wkB:List AV->List (Option Nat)->Option (List AV)
  |[],_=>some []
  |d::r,[]=>some (d::r)
  |d::r,none::s=>match wkB r s with
    |some r'=>some (d::r')
    |none=>none
  |d::r,some n::s=>match wkB r s with
    |some r'=>match d with
      |.d .nilsl=>some (.d (.sl n [])::r')
      |_=>none
    |none=>none
theorem qNU:∀{ds:List AV}{s:List (Option Nat)} {ds':List AV},wkB ds s=some ds'->ds'.length=ds.length/\∀(i:Nat)(c':AV),ds'[i]?=some c'->∃c,ds[i]?=some c/\∀(w:World)(g:Gh)(v:Value),ARep w g c v->ARep w g c' v
  |[],_,_,h=>by cases h;exact⟨rfl,λi c h=>nV⟩
  |d::r,[],_,h=>by
    cases h;exact⟨rfl,λi c' h'=>⟨c',h',λ_ _ _ h=>h⟩⟩
  |d::r,none::s,_,h=>by
    simp only[wkB]at h;split at h;rename_i r' hr;cases h;obtain⟨h1,h2⟩:=qNU hr;refine⟨x8,λi c' hc'=>?_⟩
    cases i with
    |zero=>simp at hc';subst hc';exact⟨d,aN,λ_ _ _ h=>h⟩
    |succ i=>obtain⟨c,hc,hh⟩:=h2 i c' V6;exact⟨c,fe,hh⟩
    cases h
  |d::r,some n::s,_,h=>by
    simp only[wkB]at h;split at h;rename_i r' hr;obtain⟨h1,h2⟩:=qNU hr;split at h;cases h;refine⟨x8,λi c' hc'=>?_⟩
    cases i with
    |zero=>simp at hc';subst hc';exact⟨.d .nilsl,aN,λ_ _ _ h=>by cases h with|d _ _ h=>exact .d _ _ (DLe.nil _ _ _ _ h)⟩
    |succ i=>obtain⟨c,hc,hh⟩:=h2 i c' V6;exact⟨c,fe,hh⟩
    cases h;cases h
theorem Sim.wkb{C:Ctx}{hp:List Blk}{g:Gh}{a:Act}{w:World}(h:Sim C ⟨fr,hp⟩ g a w)(hb:hp[id]?=some (.box ty cs))(hv:wkB cs s=some cs'):Sim C ⟨fr,hp.set id (.box ty cs')⟩ g a w:=by have hlen:id<hp.length:=(zal72q.1 hb).1;have hin:∀(i:Nat)(B:Blk),(hp.set id (.box ty cs'))[i]?=some B->∃B',hp[i]?=some B'/\(B≠.dead->B'≠.dead):=(by intro i B hi;rw[iC]at hi;split at hi;rename_i e;subst e;exact⟨_,hb,λ_ e=>by cases e⟩;exact⟨B,hi,λh=>h⟩);refine{ h with hp:=λi B hi=>?_,lt:=?_,inj:=?_,kle:=?_ };simp only[iC]at hi;split at hi;rename_i e;subst e;cases hi;obtain⟨b,cells,h1,h2,h3,h4,h5⟩:=h.hp _ _ hb;obtain⟨e1,e2⟩:=qNU hv;refine⟨b,cells,h1,h2,h3,by rw[e1];exact h4,λj c v hc hv=>?_⟩;obtain⟨c0,hc0,hm⟩:=e2 j c hc;exact hm _ _ _ (h5 j c0 v hc0 hv);exact h.hp i B hi;intro i b hp';have:=h.lt i b hp';simp only[zal95q];exact this;intro i j b Bi Bj hi hj di dj hpi hpj;obtain⟨Bi',hi',ei⟩:=hin i Bi hi;obtain⟨Bj',hj',ej⟩:=hin j Bj hj;exact h.inj i j b Bi' Bj' hi' hj' (ei di) (ej dj) hpi hpj;have:=h.kle;simp only[zal95q];exact this
theorem eD{C:Ctx}{hp:List Blk}{l:List Oper}{K:St->Prop}(id:Nat)(s:List (Option Nat))(hb:hp[id]?=some (.box ty cs))(hv:wkB cs s=some cs')(h:cP C ops l ⟨fr,hp.set id (.box ty cs')⟩ K):cP C ops l ⟨fr,hp⟩ K:=λg a w hs=>h g a w (Sim.wkb hs hb hv)
def aH(p:Prop)[Decidable p](k:Option α):Option α:=if p then k else none
def bL(l:List α)(i:Int)(k:α->Option β):Option β:=if 0<=i then(match l[i.toNat]? with|some x=>k x|none=>none)else none
def aX(m:Option β):Option (α ⊕ β):=m.map .inr
def dZ(m:Option (α ⊕ β))(k:α->Option β):Option β:=match m with
  |some (.inl a)=>k a
  |some (.inr b)=>some b
  |none=>none
def aE(m:Option α)(k:α->Option β):Option β:=match m with
  |some a=>k a
  |none=>none
def sub(l:List α)(i j:Int):List α:=(l.drop i.toNat).take (j.toNat-i.toNat)
section
variable {α β γ:Type}
variable {c:α}{k:α->Option β}{l:List α}{p:Prop}{ρ σ:Type}
theorem GI[Decidable p]{k:Option α}{r:α}(h:aH p k=some r):p/\k=some r:=by unfold aH at h;split at h;exact⟨by assumption,h⟩;cases h
theorem GV{i:Int}{r:β}(h:bL l i k=some r):∃x,(0<=i/\l[i.toNat]?=some x)/\k x=some r:=by unfold bL at h;split at h;split at h;exact⟨_,⟨by assumption,by assumption⟩,h⟩;cases h;cases h
theorem BI{m:Option α}{r:β}(h:aE m k=some r):∃x,m=some x/\k x=some r:=by cases m with|none=>cases h|some a=>exact⟨a,rfl,h⟩
theorem II{m:Option β}{x:α ⊕ β}(h:aX m=some x):∃v,m=some v/\x=.inr v:=by cases m with|none=>cases h|some a=>cases h;exact⟨a,rfl,rfl⟩
theorem JT[Decidable p]{a b:Option α}(h:decide p=true)(hm:(if p then a else b)=some c):a=some c:=by rw[if_pos (of_decide_eq_true h)]at hm;exact hm
theorem JF[Decidable p]{a b:Option α}(h:decide p=false)(hm:(if p then a else b)=some c):b=some c:=by rw[if_neg (of_decide_eq_false h)]at hm;exact hm
theorem qPY[Decidable p]{a b:Option α}(h:(!decide p)=true)(hm:(if p then b else a)=some c):a=some c:=by rw[if_neg (of_decide_eq_false fc)]at hm;exact hm
theorem qPZ[Decidable p]{a b:Option α}(h:(!decide p)=false)(hm:(if p then b else a)=some c):b=some c:=by rw[if_pos (of_decide_eq_true fc)]at hm;exact hm
theorem JA{p:Bool}{a b:Option α}(h:p=true)(hm:(if p=true then a else b)=some c):a=some c:=by rw[if_pos h]at hm;exact hm
theorem JB{p:Bool}{a b:Option α}(h:p=false)(hm:(if p=true then a else b)=some c):b=some c:=by rw[if_neg (by rw[h];simp)]at hm;exact hm
def Fh[DecidableEq ρ](l:List α)(a b:Option ρ):Option ρ:=match l with
  |[]=>match a,b with
    |some x,some y=>if x=y then some x else none
    |_,_=>none
  |_=>b
theorem Ok[DecidableEq ρ]{f:α->D}{a b:Option ρ}{o:ρ}(h:(l.map f).length=0)(hm:Fh l a b=some o):l=[]/\a=some o:=by cases l with|nil=>refine⟨rfl,?_⟩;simp only[Fh]at hm;split at hm;split at hm;exact hm;cases hm;cases hm|cons x r=>simp at h
theorem Ol[DecidableEq ρ]{a b:Option ρ}{o:ρ}(hm:Fh l a b=some o):b=some o:=by cases l with|nil=>simp only[Fh]at hm;split at hm;split at hm;rename_i e;subst e;exact hm;cases hm;cases hm|cons x r=>exact hm
def tP{σ ρ:Type}(f:σ->Option (σ ⊕ ρ)):Nat->σ->Option ρ
  |0,_=>none
  |n+1,s=>match f s with
    |none=>none
    |some (.inl s')=>tP f n s'
    |some (.inr r)=>some r
def oM:Nat:=73786976294838206464
def bK(f:σ->Option (σ ⊕ ρ))(s:σ):Option ρ:=tP f oM s
theorem X8{σ ρ:Type}{f:σ->Option (σ ⊕ ρ)}:∀{n m:Nat}{s:σ}{r:ρ},tP f n s=some r->n<=m->tP f m s=some r
  |0,_,_,_,h,_=>by cases h
  |n+1,0,_,_,_,hm=>absurd hm (Nat.not_succ_le_zero n)
  |n+1,m+1,s,r,h,hm=>by
    simp only[tP]at h⊢;split at h;cases h;exact X8 h (Nat.le_of_succ_le_succ hm);exact h
theorem zi{f:σ->Option (σ ⊕ ρ)}{n:Nat}{s:σ}{r:ρ}(h:tP f n s=some r)(hn:n<=oM):bK f s=some r:=X8 h hn
end
theorem k0(i:Nat)(h:i<0):ids[i]?=some i:=absurd h (rL i)
variable {C:Ctx}
theorem TWp.monoT{st:St}{n n':St->Prop}{Q:Exit->St->Prop}(h:TWp C c st (yV n Q))(hn:∀st,n st->n' st):TWp C c st (yV n' Q):=h.mono λe st hq=>by cases e with|normal=>exact hn st hq|_=>exact hq
theorem w_loop{Q:Exit->St->Prop}{σ:Type}{f:σ->Option (σ ⊕ ρ)}{s0:σ}{o:ρ}(hm:bK f s0=some o){hp:List Blk}(var:σ->Fr)(chg:σ->List (Nat×Blk))(vk ik ids:List Nat)(hnd:jF ids=true)(hk:∀i,i<C.k->ids[i]?=some i)(hI:Fc fr ik=some inv)(hI':Fr.mapRef (toName (bI ids)) inv=inv)(hV:Fr.mapRef (toName (bI ids)) (Fr.keep vk fr)=var s0)(hH:ids.map (λi=>(hp.getD i .dead).mapRef (toName (bI ids)))=hp0)(hC:hp0=wr (chg s0) hp0)(round:∀s x,f s=some x->(∀v,x=.inr v->v=o)->TWp C c ⟨var s++inv,wr (chg s) hp0⟩ (yV (λst'=>∃s' ids',x=.inl s'/\jF ids'=true/\(∀i,i<C.k->ids'[i]?=some i)/\st'.canon (vk++ik) ids'=⟨var s'++inv,wr (chg s') hp0⟩) Q)):TWp C (.loop c) ⟨fr,hp⟩ Q:=by refine qi (α:=σ×Nat) (λx=>var x.1) (λx=>chg x.1) (λx=>tP f x.2 x.1=some o) (λx=>x.2) vk ik ids (s0,oM) (kJ hnd) hk hm (Gu hI) hI' hV hH hC ?_;rintro⟨s,n⟩ hs;cases n with|zero=>cases hs|succ n=>simp only[tP]at hs;cases hf:f s with|none=>rw[hf]at hs;cases hs|some x=>rw[hf]at hs;refine(round s x hf λv hv=>by subst hv;exact bO hs).monoT ?_;rintro st' ⟨s',ids',hx,h1,h2,h3⟩;subst hx;exact⟨(s',n),ids',kJ h1,h2,hs,Nat.lt_succ_self n,h3⟩
theorem cM{x y:Code}{Q:Exit->St->Prop}{m:Option (J ⊕ ρ)}{k:J->Option ρ}{o:ρ}(hm:dZ m k=some o){hp:List Blk}(sets:J->Fr)(chg:J->List (Nat×Blk))(sk ks:List Nat)(hI:Fc fr ks=some inv)(h1:∀z,m=some z->(∀v,z=.inr v->v=o)->TWp C x ⟨fr,hp⟩ (yV (λst=>∃j ids,z=.inl j/\jF ids=true/\(∀i,i<C.k->ids[i]?=some i)/\st.canon (sk++ks) ids=⟨sets j++inv,wr (chg j) hp⟩) Q))(h2:∀j,k j=some o->TWp C y ⟨sets j++inv,wr (chg j) hp⟩ Q):TWp C (.seq x y) ⟨fr,hp⟩ Q:=by cases hz:m with|none=>rw[hz]at hm;cases hm|some z=>rw[hz]at hm;refine TQ ((h1 z hz λv hv=>by subst hv;exact bO hm).monoT ?_);rintro st ⟨j,ids,hj,hnd,hk,he⟩;subst hj;refine yy (sk++ks) ids (kJ hnd) hk ?_;rw[he];exact h2 j hm
theorem aV{x y:Code}{Q:Exit->St->Prop}{m:Option J}{k:J->Option ρ}{o:ρ}(hm:aE m k=some o){hp:List Blk}(sets:J->Fr)(chg:J->List (Nat×Blk))(sk ks:List Nat)(hI:Fc fr ks=some inv)(h1:∀z,m=some z->TWp C x ⟨fr,hp⟩ (yV (λst=>∃j ids,z=j/\jF ids=true/\(∀i,i<C.k->ids[i]?=some i)/\st.canon (sk++ks) ids=⟨sets j++inv,wr (chg j) hp⟩) Q))(h2:∀j,k j=some o->TWp C y ⟨sets j++inv,wr (chg j) hp⟩ Q):TWp C (.seq x y) ⟨fr,hp⟩ Q:=by cases hz:m with|none=>rw[hz]at hm;cases hm|some z=>rw[hz]at hm;refine TQ ((h1 z hz).monoT ?_);rintro st ⟨j,ids,hj,hnd,hk,he⟩;subst hj;refine yy (sk++ks) ids (kJ hnd) hk ?_;rw[he];exact h2 z hm
theorem lR{x y:Code}{Q:Exit->St->Prop}{hp:List Blk}(sets:Fr)(sk ks:List Nat)(hI:Fc fr ks=some inv)(h1:TWp C x ⟨fr,hp⟩ (yV (λst=>∃ids,jF ids=true/\(∀i,i<C.k->ids[i]?=some i)/\st.canon (sk++ks) ids=⟨sets++inv,hp⟩) Q))(h2:TWp C y ⟨sets++inv,hp⟩ Q):TWp C (.seq x y) ⟨fr,hp⟩ Q:=by refine TQ (h1.monoT ?_);rintro st ⟨ids,hnd,hk,he⟩;refine yy (sk++ks) ids (kJ hnd) hk ?_;rw[he];exact h2
theorem J1{hp:List Blk}(h1:fr=fr')(h2:hp=hp'):(⟨fr,hp⟩:St)=⟨fr',hp'⟩:=by rw[h1,h2]
theorem kg{t:Nat}{r r':Fr}(h1:v=v')(h2:r=r'):(t,v)::r=(t,v')::r':=by rw[h1,h2]
def nY(xss:List (List α))(i:Nat):List α:=(xss.take i).flatten
theorem qWR(xss:List (List α)):nY xss 0=[]:=by simp[nY]
theorem nO{x:List α}(h:xss[i]?=some x):nY xss (i+1)=nY xss i++x:=by unfold nY;rw[iQ,h];simp
theorem flat_all(h:¬i<xss.length):nY xss i=xss.flatten:=by unfold nY;rw[uG aB]
theorem gC(xss:List (List α))(i:Nat):(nY xss i).length<=xss.flatten.length:=by unfold nY;have h:=Qy i xss;have:xss.flatten.length=(xss.take i).flatten.length+(xss.drop i).flatten.length:=(by rw[<- List.length_append,<- List.flatten_append,h]);omega
section rd
variable {T:Tab}{o:Oper}{ev:Operand->AV}{hp:List Blk}{α:Type}{f:α->D}{xs ys:List α}
variable {by' e id n s sz t:Nat}{i r:Int}{k:IntKind}{x:α}
theorem lQ{a b:Operand}(hT:TabOk C.P T)(ho:o.op=.indexAddr t a b)(hl:lk T.sel t=some (e,sz,by'))(ha:ev a=.d (.sl sz (xs.map f)))(hb:ev b=.d (.int k i))(h:0<=i/\xs[i.toNat]?=some x):RdOk C o ev hp (.d (.ptr (f x) 0)):=vn ho (hT.sel hl) ha hb (idx_int h.1 h.2)
theorem tD{a b:Operand}(hT:TabOk C.P T)(ho:o.op=.indexAddr t a b)(hl:lk T.sel t=some (e,sz,by'))(ha:ev a=.msl id sz 0 n)(hb:ev b=.d (.int k i))(h:0<=i/\xs[i.toNat]?=some x)(hn:n=xs.length):RdOk C o ev hp (.mptr id sz i.toNat 0):=by have hlt:=(zal72q.1 h.2).1;exact qCB ho (hT.sel hl) ha hb ⟨h.1,aB⟩ (iO _)
theorem x_ixa{a b:Operand}(ho:o.op=.indexAddr t a b)(hl:qNC C.P t=some (n,s))(ha:ev a=.mptr id s 0 0)(hb:ev b=.d (.int k i))(h:0<=i/\xs[i.toNat]?=some x)(hn:i<(n:Int)):RdOk C o ev hp (.mptr id s i.toNat 0):=qQB ho hl ha hb ⟨h.1,hn⟩
theorem fy{idx off bt:Nat}{b:Bool}{a:Operand}{v:AV}(hT:TabOk C.P T)(ho:o.op=.load t a)(hl:lk T.lay t=some (b,s))(ha:ev a=.mptr id sz idx off)(hb:hp[id]?=some (.flat bt sz (xs.map f)))(hx:xs[idx]?=some x)(hv:Ie b s [] (.d (.ptr (f x) off))=some v):RdOk C o ev hp v:=by have he:(xs.map f)[idx]?=some (f x):=qQG hx;cases b with|false=>simp only[Ie]at hv;split at hv;rename_i d hd;cases hv;exact qWF ho (hT.lay hl) ha hb he hd;cases hv|true=>simp only[Ie]at hv;split at hv;rename_i h1 h2 h3;cases hv;have h1:=eU h1;subst h1;exact qPR ho (hT.lay hl) ha hb he (eU h2) h3;split at hv;rename_i hle;cases hv;exact Dh id sz idx off s _ _ ho (hT.lay hl) ha hb he (iP hle);cases hv
theorem yS{sz':Nat}{a:Operand}(hT:TabOk C.P T)(ho:o.op=.call { callee:=.builtin .len,args:=#[a],argTypes:=#[t] })(hl:lk T.sel t=some (e,sz',by'))(ha:ev a=.d (.sl sz (xs.map f))):RdOk C o ev hp (.d (.int .i64 (xs.length:Int))):=zl ho (hT.sel hl) ha (uR _)
theorem Bu{op:BinOp}{t t':TypeId}{x y:Operand}{m n:Int}(ho:o.op=.binOp op t x y t')(hx:ev x=.d (.int .i64 m))(hy:ev y=.d (.int .i64 n))(hr:qCW op m n=some r)(hb:cI r):RdOk C o ev hp (.d (.int .i64 r)):=Lu ho hx hy hr hb
theorem x_cut{a:Operand}{lo hi:Option Operand}{l:Int}(hT:TabOk C.P T)(ho:o.op=.slice t a lo hi none)(hl:lk T.sel t=some (e,sz,by'))(ha:ev a=.d (.sl sz (xs.map f)))(hlo:Nv 0 (lo.map ev)=some l)(hhi:Nv xs.length (hi.map ev)=some r)(h:0<=l/\l<=r/\r<=xs.length):RdOk C o ev hp (.d (.sl sz ((sub xs l r).map f))):=by have h1:Nv 0 (lo.map ev)=some ((l.toNat:Nat):Int):=(by rw[hlo,Mb h.1]);have h2:Nv (xs.map f).length (hi.map ev)=some ((r.toNat:Nat):Int):=(by rw[uR,hhi,Mb aB]);have:=rd_cut (hp:=hp) sz by' (xs.map f) l.toNat r.toNat ho (hT.sel hl) ha h1 h2 aB (by rw[uR];omega);simpa[sub,wy,Bo]using this
theorem rJ{parts:Array (Nat×Operand)}{z:Value}(l:List Operand)(hT:TabOk C.P T)(ho:o.op=.buildSlice t n parts)(hl:lk T.sel t=some (e,sz,by'))(hz:(C.P.info? e).bind (·.zero)=some z)(hp':vD parts l){ds:List D}(hx:qTE (l.map ev)=some ds)(hn:Nat.beq ds.length n=true)(hs:(ds.all λd=>Nat.beq d.cells.length sz)=true)(hsmall:Nat.ble (n*sz) 16777216=true):RdOk C o ev hp (.d (.sl sz ds)):=rd_litF l ho (hT.sel hl) hz hp' hx hn hs hsmall
theorem Ir{a b:Operand}{z:Value}{zd:D}{n:Int}(hT:TabOk C.P T)(ho:o.op=.makeSlice t a b)(hl:lk T.sel t=some (e,sz,by'))(hz:(C.P.info? e).bind (·.zero)=some z)(hzd:gP z=.d zd)(hzs:Nat.beq zd.cells.length sz=true)(ha:ev a=.d (.int .i64 n))(hb:ev b=.d (.int .i64 n))(hby:Nat.ble by' 100000=true)(hn:0<=n/\n<=1000000000)(hf:f x=zd):RdOk C o ev hp (.d (.sl sz ((List.replicate n.toNat x).map f))):=by obtain⟨m,rfl⟩:=yQ hn.1;have h1:=iP hby;have h2:m<=1000000000:=aB;have h3:by'*m<=100000*1000000000:=gm h1 h2;have:=rd_make (hp:=hp) (n:=m) ho (hT.sel hl) hz hzd (eU hzs) ha hb aB aB;rw[Qz,hf];exact this
end rd
theorem vo{o:Oper}{ev:Operand->AV}{hp:List Blk}{off s j:Nat}{k:IntKind}{i:Int}(ho:o.op=.indexAddr t x y)(hl:qNC C.P t=some (n,s))(hx:ev x=.mptr id 0 0 off)(hy:ev y=.d (.int k i))(h0:0<=i)(h1:i<n)(hj:off+i.toNat*s=j):RdOk C o ev hp (.mptr id 0 0 j):=hj ▸ Mx id 0 0 off n s k i ho hl hx hy h0 h1
def tK[DecidableEq α](fs:List (α×β))(k:α)(v:β):List (α×β):=match fs.findIdx? λx=>decide (x.1=k)with
  |some j=>fs.set j (k,v)
  |none=>fs++[(k,v)]
section pm
variable {α β:Type}[DecidableEq α]{dk:TypeDesc}{kf:α->D}
variable {o:Oper}{ev:Operand->AV}{hp:List Blk}{x y u:Operand}{t kt et kt' et':TypeId}{id:Nat}{zd:D}{z:Value}
theorem Bt(hk:KeyF dk kf)(f:β->D)(fs:List (α×β))(s:α)(z0:β)(ho:o.op=.lookup t x y false)(hl:Vh C.P t=some (kt,dk,et))(hz:(C.P.info? et).bind (·.zero)=some z)(hzd:gP z=.d (f z0))(hx:ev x=.mmap id)(hb:hp[id]?=some (.map kt' et' (cC kf f fs)))(hy:ev y=.d (kf s))(hnd:(fs.map (·.1)).Nodup):RdOk C o ev hp (.d (f ((cZ fs s).getD z0))):=by have:=qJP (C:=C) hk f fs s ho hl hz hzd hx hb hy hnd;cases h:cZ fs s with|none=>rw[h]at this;exact this|some b=>rw[h]at this;exact this
theorem Mr{ops:Array Oper}{l:List Oper}{K:St->Prop}{fr:Fr}{ty:TypeId}{pos:String}{after:Array Edge}(hk:KeyF dk kf)(f:β->D){fs:List (α×β)}{s:α}{b:β}(hl:Vh C.P t=some (kt,dk,et))(hx:fr.ev x=.mmap id)(hb:hp[id]?=some (.map kt' et' (cC kf f fs)))(hy:fr.ev y=.d (kf s))(hu:fr.ev u=.d (f b))(hnd:(fs.map (·.1)).Nodup)(h:cP C ops l ⟨fr,hp.set id (.map kt' et' (cC kf f (tK fs s b)))⟩ K):cP C ops (⟨none,.mapUpdate t x y u,ty,pos,after,none⟩::l) ⟨fr,hp⟩ K:=by cases e:fs.findIdx? λx=>decide (x.1=s)with|none=>have hn:cZ fs s=none:=(by unfold cZ;rw[Be,L9];rw[Ik]at e;intro x hx;simpa using e x hx);refine s_put_pm hk f hl hx hb hy hu hn rfl ?_;simpa only[tK,e]using h|some j=>rw[D2]at e;obtain⟨hlt,hj,_⟩:=e;have hj':fs[j]?=some (s,fs[j].2):=(by rw[jT hlt,<- of_decide_eq_true hj]);refine s_put_at (j:=j) (v0:=f fs[j].2) hl hx hb hy hu (xf hk) (H7 hk hnd) qEA rfl ?_;have e':(fs.findIdx? λx=>decide (x.1=s))=some j:=(by rw[D2];exact⟨hlt,hj,by assumption⟩);simp only[tK,e']at h;simpa[cC,List.map_set]using h
end pm
def plcA(P:Program)(t:TypeId):Option (List (Nat×Nat)):=match P.underlying t with
  |some (.array n e)=>(P.info? e).map λi=>(List.range n).map λk=>(k*i.size,i.size)
  |_=>none
theorem qTA{p p':Nat->Option (Nat×Nat)}(hp:∀i x,p i=some x->p' i=some x):∀(parts:List (Nat×Value)) (cells c:Array Value),Instr.fill p cells parts=some c->Instr.fill p' cells parts=some c
  |[],cells,c,h=>h
  |(i,v)::r,cells,c,h=>by
    simp only[Instr.fill]at h⊢
    cases e:p i with
    |none=>rw[e]at h;cases h
    |some x=>
      rw[e]at h;rw[hp i x e];simp only at h⊢;split at h;cases h;rename_i hc;rw[if_neg hc];exact qTA hp r _ c h
theorem Vr{o:Oper}{ev:Operand->AV}{hp:List Blk}{parts:Array (Nat×Operand)}{zc:List AV}{pl:List (Nat×Nat)}(ho:o.op=.build t parts)(hpl:plcA C.P t=some pl)(hz:(C.P.info? t).bind (·.zero)=some z)(hzf:(gP z).flat=true)(hzc:(gP z).cells=zc)(hf:qCK pl zc (parts.toList.map λp=>(p.1,ev p.2))=some cs)(hv:zg cs=.d (.agg ds)):RdOk C o ev hp (.d (.agg ds)):=RdOk.mk λst hhp hag g a w hs=>by rw[<- hv];subst hzc;have hz':=oY w g z;have hpz:=(hz'.pw hzf).1;have hparts:Pw (λ(x:Nat×AV)(y:Nat×Value)=>x.1=y.1/\ARep w g x.2 y.2) (parts.toList.map λp=>(p.1,ev p.2)) (parts.map λp=>(p.1,a.eval p.2)).toList:=(by refine⟨aN,λi x y hx hy=>?_⟩;simp only[eS,zal165q,fb]at hx hy;obtain⟨p,hp,rfl⟩:=hx;obtain⟨q,hq,rfl⟩:=hy;rw[hp]at hq;cases hq;refine⟨rfl,?_⟩;have:=hs.ev p.2;rw[hag p.2 (by simp only[ho,Op.operands];have:=fQ hp;first|exact Array.mem_map.2 ⟨p,zal10q.1 this,rfl⟩|(simp only[List.mem_toArray,zal115q];exact⟨p,this,rfl⟩))]at this;exact this);unfold plcA at hpl;split at hpl;rename_i n e hu;obtain⟨inf,hinf,hpl⟩:=zal165q.1 hpl;obtain⟨cells',h1,h2⟩:=Yk pl.toArray _ _ _ _ z.cells hparts hpz (by simpa using hf);refine⟨.agg cells',?_,zf (by have:=h2.1;simpa using this) λi c v hc hv=>h2.2 i c v hc tZ⟩;obtain⟨infz,hinfz,hzz⟩:=zal162q.1 hz;have hzv:(zeroValue t).run C.P w=.ok z w:=(by simp[zeroValue,typeInfo,hinfz,hzz]);have hsz:(sizeOf e).run C.P w=.ok inf.size w:=(by simp[sizeOf,typeInfo,hinf]);have h1':Instr.fill (λi=>some (i*inf.size,inf.size)) z.cells (parts.map λp=>(p.1,a.eval p.2)).toList=some cells':=(by refine qTA ?_ _ _ _ h1;intro i x hx;subst hpl;simp only[Vy,eS,zal165q]at hx;obtain⟨k,hk,rfl⟩:=hx;have:=(zal72q.1 hk).2;simp at this;rw[this]);have hb:(Instr.build t (parts.map λp=>(p.1,a.eval p.2))).run C.P w=.ok (.agg cells') w:=(by unfold Instr.build;rw[Sem.run_bind,hzv,Result.andThen_ok,Sem.run_bind,run_underlying hu,Result.andThen_ok];simp only;rw[Sem.run_bind,hsz,Result.andThen_ok];simp only[h1',Sem.run_pure]);simp only[execOp,ho];simp only[Sem.run_bind];have hb':(Instr.build t (parts.map λx=>(x.1,a.eval x.2))).run C.P w=.ok (.agg cells') w:=hb;rw[hb'];rfl;cases hpl
theorem Jk{s u:ByteArray}:s.data=u.data↔s=u:=⟨λh=>by cases s;cases u;congr 1,λh=>by rw[h]⟩
section st
variable {T:Tab}{ops:Array Oper}{l:List Oper}{K:St->Prop}{fr:Fr}{hp:List Blk}{d:Nat}{ty:TypeId}{pos:String}{after:Array Edge}{α:Type}{f:α->D}{xs ys:List α}
variable {by' e id n sz t:Nat}{cs:List AV}{x y:Operand}{z:Value}
theorem kF(N ety sz:Nat)(hd:decide (d<C.n)=true)(hN:Nat.beq hp.length N=true)(hx:fr.ev x=.d .nilsl)(h:cP C ops l ⟨(d,.msl N sz 0 ([]:List α).length)::fr,hp++[.flat ety sz (([]:List α).map f)]⟩ K):cP C ops (⟨some d,.assign x,ty,pos,after,none⟩::l) ⟨fr,hp⟩ K:=by have e:=eU hN;subst e;exact qJD ety sz hd hx h
def boxE:AV->Option (List AV)
  |.d (.agg ds)=>some (ds.map .d)
  |.d d=>some [.d d]
  |.agg cs=>match (AV.agg cs).flat with
    |true=>some cs
    |false=>none
  |.msl i s o l=>some [.msl i s o l]
  |.mptr i s o l=>some [.mptr i s o l]
  |.mmap i=>some [.mmap i]
  |.yld i=>some [.yld i]
  |.mmapN i n=>some [.mmapN i n]
  |_=>none
theorem Vs{v:AV}(h:boxE v=some cs):v.flat=true/\v.cells=cs:=by cases v with|d d=>cases d<;>cases h<;>exact⟨rfl,rfl⟩|agg cs=>simp only[boxE]at h;split at h;rename_i hf;cases h;exact⟨hf,rfl⟩;cases h|msl=>cases h;exact⟨rfl,rfl⟩|mptr=>cases h;exact⟨rfl,rfl⟩|mmap=>cases h;exact⟨rfl,rfl⟩|yld=>cases h;exact⟨rfl,rfl⟩|mmapN=>cases h;exact⟨rfl,rfl⟩|_=>cases h
theorem cR{t:TypeId}(N:Nat)(hd:decide (d<C.n)=true)(hN:Nat.beq hp.length N=true)(hx:boxE (fr.ev x)=some cs)(h:cP C ops l ⟨(d,.mptr N 0 0 0)::fr,hp++[.box t cs]⟩ K):cP C ops (⟨some d,.box t x,ty,pos,after,none⟩::l) ⟨fr,hp⟩ K:=by have e:=eU hN;subst e;exact s_box hd rfl (Vs hx).1 (Vs hx).2 h
theorem cQ{t:TypeId}(N:Nat)(hd:decide (d<C.n)=true)(hN:Nat.beq hp.length N=true)(hz:(C.P.info? t).bind (·.zero)=some z)(hc:boxE (gP z)=some cs)(h:cP C ops l ⟨(d,.mptr N 0 0 0)::fr,hp++[.box t cs]⟩ K):cP C ops (⟨some d,.alloc t,ty,pos,after,none⟩::l) ⟨fr,hp⟩ K:=by have e:=eU hN;subst e;exact s_alloc hd hz (Vs hc).1 (Vs hc).2 h
theorem s_ala{t:TypeId}{zd:D}(N n:Nat)(hd:decide (d<C.n)=true)(hN:Nat.beq hp.length N=true)(hz:(C.P.info? t).bind (·.zero)=some z)(hzd:gP z=.d (.agg (List.replicate (n+1) zd)))(h1:zd.one=true){x:α}(hf:f x=zd)(h:cP C ops l ⟨(d,.mptr N 1 0 0)::fr,hp++[.flat t 1 ((List.replicate (n+1) x).map f)]⟩ K):cP C ops (⟨some d,.alloc t,ty,pos,after,none⟩::l) ⟨fr,hp⟩ K:=by have e:=eU hN;subst e;rw[Qz,hf]at h;exact qOO n hd hz hzd h1 h
theorem s_mkO{a b:Operand}{zd:D}{n:Int}(N:Nat)(hT:TabOk C.P T)(hd:decide (d<C.n)=true)(hN:Nat.beq hp.length N=true)(hl:lk T.sel t=some (e,sz,by'))(hz:(C.P.info? e).bind (·.zero)=some z)(hzd:gP z=.d zd)(hzs:Nat.beq zd.cells.length sz=true)(ha:fr.ev a=.d (.int .i64 n))(hb:fr.ev b=.d (.int .i64 n))(hby:Nat.ble by' 100000=true)(hn:0<=n/\n<=1000000000){x:α}(hf:f x=zd)(h:cP C ops l ⟨(d,.msl N sz 0 (List.replicate n.toNat x).length)::fr,hp++[.flat e sz ((List.replicate n.toNat x).map f)]⟩ K):cP C ops (⟨some d,.makeSlice t a b,ty,pos,after,none⟩::l) ⟨fr,hp⟩ K:=by obtain⟨m,rfl⟩:=yQ hn.1;have h1:=iP hby;have h2:m<=1000000000:=aB;have h3:by'*m<=100000*1000000000:=gm h1 h2;have e:=eU hN;subst e;rw[Qz,hf]at h;simp only[yP,Vw]at h;exact qJC (n:=m) hd (hT.sel hl) hz hzd (eU hzs) ha hb aB aB h
theorem fj{parts:Array (Nat×Operand)}(N:Nat)(os:List Operand)(xs:List α)(hT:TabOk C.P T)(hd:decide (d<C.n)=true)(hN:Nat.beq hp.length N=true)(hl:lk T.sel t=some (e,sz,by'))(hz:(C.P.info? e).bind (·.zero)=some z)(hp':vD parts os)(hx:qTE (os.map fr.ev)=some (xs.map f))(hn:Nat.beq (xs.map f).length n=true)(hs:((xs.map f).all λd=>Nat.beq d.cells.length sz)=true)(hsmall:Nat.ble (n*sz) 16777216=true)(h:cP C ops l ⟨(d,.msl N sz 0 xs.length)::fr,hp++[.flat e sz (xs.map f)]⟩ K):cP C ops (⟨some d,.buildSlice t n parts,ty,pos,after,none⟩::l) ⟨fr,hp⟩ K:=by have e:=eU hN;subst e;have e2:=eU hn;rw[uR]at e2;rw[e2]at h;exact s_litD os hd (hT.sel hl) hz hp' hx hn hs hsmall h
theorem fJ{u:AV}{fr':Fr}{hp1:List Blk}(ys:List α)(hT:TabOk C.P T)(hd:decide (d<C.n)=true)(hl:lk T.sel t=some (e,sz,by'))(hz:(C.P.info? e).bind (·.zero)=some z)(hzs:Nat.beq z.cells.size sz=true)(hby:Nat.ble by' 100000=true)(hx:fr.ev x=.msl id sz 0 n)(hb:hp[id]?=some (.flat e sz (xs.map f)))(hn:n=xs.length)(hmv:id<C.k->C.mv id=true)(hy:fr.ev y=u)(hu:SrcA hp sz (ys.map f) u)(hg:(xs++ys).length<=1000000000)(hfr:Fr.mapRef (purge id) fr=fr')(hhp:hp.map (Blk.mapRef (purge id))=hp1)(h:cP C ops l ⟨(d,.msl id sz 0 (xs++ys).length)::fr',hp1.set id (.flat e sz ((xs++ys).map f))⟩ K):cP C ops (⟨some d,.call { callee:=.builtin .append,args:=#[x,y],argTypes:=#[t,t] },ty,pos,after,none⟩::l) ⟨fr,hp⟩ K:=by have h1:=iP hby;have h3:(xs++ys).length*by'<=1000000000*100000:=gm hg h1;exact J3 (m:=(xs++ys).length) (ds:=ys.map f) (es':=(xs++ys).map f) hd (hT.sel hl) hz (eU hzs) hx hb (by rw[hn,uR]) hmv hy hu (by rw[gS]) aN aB aB hfr hhp h
theorem Df{s idx off bt:Nat}{b:Bool}{a:Operand}{x x':α}{v:D}(hT:TabOk C.P T)(hl:lk T.lay t=some (b,s))(ha:fr.ev a=.mptr id sz idx off)(hy:fr.ev y=.d v)(hs:Nat.beq v.cells.length s=true)(hb:hp[id]?=some (.flat bt sz (xs.map f)))(hx:xs[idx]?=some x)(hone:((!(f x).one)||v.one)=true)(hle:Nat.ble (off+s) (f x).cells.length=true)(hu:(f x).upd off v=f x')(h:cP C ops l ⟨fr,hp.set id (.flat bt sz ((xs.set idx x').map f))⟩ K):cP C ops (⟨none,.store t a y,ty,pos,after,none⟩::l) ⟨fr,hp⟩ K:=by rw[List.map_set]at h;refine qEW (e:=f x) (e':=f x') (hT.lay hl) ha hy (eU hs) hb (qQG hx) ?_ (iP hle) hu h;simp only[lP,gH]at hone;exact hone
theorem qN(t n':Nat)(hv:Fr.get fr t=.msl id sz 0 n)(he:n=n')(h:cP C ops l ⟨(t,.msl id sz 0 n')::fr,hp⟩ K):cP C ops l ⟨fr,hp⟩ K:=Cb t _ hv (by rw[he]) h
theorem fC{hp:List Blk}{ds:List D}:SrcA hp sz ds (.d (.sl sz ds)):=⟨rfl,rfl⟩
theorem cH{ty:Nat}(h:hp[id]?=some (.flat ty sz (xs.map f))):Snap hp (.msl id sz 0 xs.length) (.sl sz (xs.map f)):=qAS h aN
end st
theorem mJ{o:Oper}{ev:Operand->AV}{hp:List Blk}{rs:List D}(ho:o.op=.call { callee:=.value f,args:=xs,argTypes:=ts })(hf:ev f=.d (.fn F))(hx:xs.toList.map ev=ds.map .d)(hret:RetT C.P F ds rs):RdOk C o ev hp (.tup (rs.map .d)):=Gq (cs:=[]) ho hf rfl hx (by rw[kU];exact hret)
theorem O3{Q:Exit->St->Prop}{hp:List Blk}(i:Nat)(hk:Nat.ble C.k i=true)(hks:((List.range C.k).all (dV hp))=true)(hal:dV hp i=true)(hf:Fr.mapRef (Vn i (hp.getD i .dead) (dV hp)) fr=fr')(hh:(hp.map (Blk.mapRef (Vn i (hp.getD i .dead) (dV hp)))).set i .dead=hp')(h:TWp C c ⟨fr',hp'⟩ Q):TWp C c ⟨fr,hp⟩ Q:=by subst hf hh;exact qOB i (iP hk) hal (λj hj=>zal39q.1 hks j (zal120q.2 hj)) h
theorem wK{Q:Exit->St->Prop}{hp:List Blk}(t i:Nat)(ks:List Nat)(hk:Nat.ble C.k i=true)(hks:((List.range C.k).all (dV hp))=true)(hal:dV hp i=true)(ht:fr.get t=.msl i sz 0 n)(hb:hp[i]?=some (.flat ty sz es))(hn:n=es.length)(hf:Fr.mapRef (Vn i (.flat ty sz es) (dV hp)) (Fr.keep ks fr)=fr')(hh:(hp.map (Blk.mapRef (Vn i (.flat ty sz es) (dV hp)))).set i .dead=hp')(h:TWp C c ⟨(t,.d (.sl sz es))::fr',hp'⟩ Q):TWp C c ⟨fr,hp⟩ Q:=by have hB:hp.getD i .dead=.flat ty sz es:=(by rw[wC,hb];rfl);intro g a w hs;obtain⟨g',hs'⟩:=hs.freeze i (iP hk) hal (λj hj=>zal39q.1 hks j (zal120q.2 hj));subst hf hh;refine h g' a w ?_;simp only[St.freeze,hB]at hs';refine{ hs' with fr:=λu=>?_ };have hu:=hs'.fr u;simp only[Fr.get];split;rename_i e;subst e;rw[Fr.get_mapRef,ht]at hu;simp only[AV.mapRef,Vn,if_true]at hu;rw[if_pos ⟨trivial,aB⟩]at hu;subst hn;simpa using hu;rw[Fr.get_mapRef];rcases Fr.get_keep fr ks u with e|e;rw[e,<- Fr.get_mapRef];exact hu;rw[e];exact .junk _
theorem yJ{t:Nat}{f:α->D}{xs:List α}(hf:∀x,D.mem0 (f x)=true):qDA (.flat t sz (xs.map f)):=by intro e he;obtain⟨x,hx,rfl⟩:=zal115q.1 he;exact hf _
theorem iL{α:Sort _}[Decidable p]{a b:α}(h:p:=by omega):(if p then a else b)=a:=if_pos h
theorem mF{α:Sort _}[Decidable p]{a b:α}(h:¬p:=by omega):(if p then a else b)=b:=if_neg h
theorem gJ{α:Type _}{l:List α}{a:α}(h:l[i]?=some a):i<l.length:=(zal72q.1 h).1
theorem Dr{α:Sort _}[Decidable p]{a b:α}(h:¬p:=by simp):(if p then a else b)=b:=if_neg h
theorem Q8{α:Type _}{l:List α}(h:i<l.length:=by omega):l[i]?=some (l[i]'h):=jT h
theorem zLn{α:Type _}{l:List α}(h:l.length<=i:=by omega):l[i]?=none:=nB h
theorem OJ{a b : α} (h : some a = some b) : a = b := bO h
theorem SJ{a b : α} (h : some a = some b) : b = a := (bO h).symm
theorem Q {α : Sort _} {a : α} : a = a := rfl
theorem BE{m : Option α} {k : α → Option β} {r : β} {C : Prop} (h : aE m k = some r) (f : ∀ x, m = some x → k x = some r → C) : C := (BI h).elim fun x h => f x h.1 h.2
theorem GE[Decidable p] {k : Option α} {r : α} {C : Prop} (h : aH p k = some r) (f : p → k = some r → C) : C := f (GI h).1 (GI h).2
theorem VE{i : Int} {k : α → Option β} {r : β} {C : Prop} (h : bL l i k = some r) (f : ∀ x, (0 ≤ i ∧ l[i.toNat]? = some x) → k x = some r → C) : C := (GV h).elim fun x h => f x h.1 h.2
theorem IE{m : Option β} {x : α ⊕ β} {C : Prop} (h : aX m = some x) (f : ∀ v, m = some v → x = .inr v → C) : C := (II h).elim fun v h => f v h.1 h.2
theorem zQQ{α : Type _} {l : List α}  {a : α} : l[i]? = some a ↔ ∃ h : i < l.length, l[i] = a := zal72q
theorem iG{α : Type _} {l : List α}  (h : i < l.length) : l[i]? = some l[i] := jT h
theorem kK{α : Type _} {l : List α}  {a : α} (h : l[i]? = some a) : a ∈ l := fQ h
theorem fx{α : Type _} {l : List α}  {a : α} : l.getD i a = l[i]?.getD a := wC
theorem xK {α : Type _} {a b : List α} : (a ++ b).length = a.length + b.length := sH
theorem Wd {α : Type _} {b : α} {β : Type _} {x : Option β} {f : β → α} : Option.map f x = some b ↔ ∃ a, x = some a ∧ f a = b := zal165q
theorem vV{α : Type _} {β : Type _} {f : α → β} {l : List α}  : (List.map f l)[i]? = Option.map f l[i]? := eS
theorem pQ (a b : Bool) : ((a && b) = true) = (a = true ∧ b = true) := tY a b
theorem zQN {α : Type _} {a : α} {s t : List α} : a ∈ s ++ t ↔ a ∈ s ∨ a ∈ t := wX
theorem zQT {α : Type _} {p : α → Bool} {l : List α} : l.all p = true ↔ ∀ x, x ∈ l → p x = true := zal39q
theorem zQU {α : Type _} {p : α → Bool} {l : List α} : l.any p = true ↔ ∃ x, x ∈ l ∧ p x = true := List.any_eq_true
theorem xJ (n : Nat) : ¬ n < 0 := rL n
theorem zQB {α : Type _} {a b : α} {l : List α} : b ∈ a :: l ↔ b = a ∨ b ∈ l := ci
theorem yt {α β : Type _} {l : List α} (f : α → β) : (l.map f).length = l.length := uR f
theorem oA (n : Nat) : n ≤ n := fY n
variable {C:Ctx}{st:St}{g:Gh}{a:Act}{w:World}{P:Program}
theorem Sim.kill(h:Sim C st g a w)(i:Nat):Sim C ⟨st.fr,st.hp.set i .dead⟩ g a w:=by refine{ h with hp:=λj B hj=>?_,lt:=λj b hp=>?_,inj:=λj j' b Bj Bj' h1 h2 d1 d2 p1 p2=>?_,kle:=by simpa using h.kle };rw[iC]at hj;split at hj;split at hj;cases hj;trivial;cases hj;exact h.hp j B hj;have:=h.lt j b hp;simpa using this;simp only[iC]at h1 h2;split at h1;split at h1<;>cases h1;exact absurd rfl d1;split at h2;split at h2<;>cases h2;exact absurd rfl d2;exact h.inj j j' b Bj Bj' h1 h2 d1 d2 p1 p2
theorem Sim.dup(h:Sim C st g a w){B:Blk}(hik:C.k<=i)(hi:st.hp[i]?=some B)(hd:B≠.dead)(hN:st.hp[N]?=some .hole)(hB:∀g':Gh,g'.phi N=g.phi i->g'.psi N=g.psi i->g'.X=g.X->BRep w g i B->BRep w g' N B)(hne:i≠N):
    ∃g',Sim C ⟨st.fr,(st.hp.set i .dead).set N B⟩ g' a w/\Grow w g w g'/\g'.phi N=g.phi i/\g'.psi N=g.psi i/\g'.X=g.X:=by
  have hno:g.phi N=none:=h.hp N _ hN;have hNl:N<st.hp.length:=gJ hN
  let g':Gh:={ phi:=upd g.phi N (g.phi i),psi:=upd g.psi N (g.psi i),X:=g.X }
  have hphi:∀j b,g'.phi j=some b->(j=N/\g.phi i=some b)\/(j≠N/\g.phi j=some b):=by
    intro j b hp;by_cases hj:j=N;subst hj;exact .inl ⟨rfl,by simpa[g',upd]using hp⟩;exact .inr ⟨hj,by simpa[g',upd,hj]using hp⟩
  have hg:Grow w g w g':=by
    refine⟨λj b hp=>?_,λj b hp=>?_,λ_ h=>h,λ_ _=>rfl⟩;have hj : j ≠ N := fun e => by subst e; rw [hno] at hp; cases hp
    simpa[g',upd,hj]using hp;have hj : j ≠ N := fun e => by subst e; rw [hno] at hp; cases hp
    simp[g',upd,hj]
  refine⟨g',{ h with fr:=λt=>(h.fr t).mono hg,hp:=λj Bj hj=>?_,lt:=λj b hp=>?_,inj:=λj j' b Bj Bj' h1 h2 d1 d2 p1 p2=>?_,own:=λj b hp hb=>?_,stay:=λj b hj hm hp=>?_,kle:=by simpa using h.kle },hg,Q1,Q1,rfl⟩;rw[iC]at hj;split at hj;rename_i e;subst e;split at hj;cases hj;exact hB g' Q1 Q1 rfl (h.hp i B hi);cases hj;rename_i hjN;rw[iC]at hj;split at hj;split at hj
  · cases hj;trivial
  cases hj;refine (h.hp j Bj hj).mono hg (fun hn => ?_) (fun _ _ => rfl);simpa[g',upd,show j≠N from λe=>hjN e.symm]using hn;simp only[zal95q];rcases hphi j b hp with⟨rfl,hp'⟩|⟨_,hp'⟩
  have:=h.lt i b hp';exact⟨this.1,hNl,this.2.2⟩;exact h.lt j b hp'
  have key:∀(j:Nat)(Bj:Blk),((st.hp.set i .dead).set N B)[j]?=some Bj->Bj≠.dead->j≠N->st.hp[j]?=some Bj/\j≠i:=by
    intro j Bj hj hdj hjN;rw[iC,if_neg (λe=>hjN e.symm),iC]at hj;split at hj;split at hj<;>cases hj;exact absurd rfl hdj;exact⟨hj,λe=>‹¬i=j› e.symm⟩
  rcases hphi j b p1 with⟨rfl,q1⟩|⟨n1,q1⟩<;>rcases hphi j' b p2 with⟨rfl,q2⟩|⟨n2,q2⟩
  rfl;obtain⟨k1,k2⟩:=key j' Bj' h2 d2 n2;exact absurd (h.inj j' i b Bj' B k1 hi d2 hd q2 q1) k2;obtain⟨k1,k2⟩:=key j Bj h1 d1 n1;exact absurd (h.inj j i b Bj B k1 hi d1 hd q1 q2) k2;exact h.inj j j' b Bj Bj' (key j Bj h1 d1 n1).1 (key j' Bj' h2 d2 n2).1 d1 d2 q1 q2;rcases hphi j b hp with⟨rfl,hp'⟩|⟨_,hp'⟩
  · have:=(h.own i b hp' hb).1;omega
  exact h.own j b hp' hb;have hst:=h.stay j b hj hm hp;have hjN:j≠N:=λe=>by subst e;rw[hno]at hst;cases hst.2
  simpa[g',upd,hjN]using hst
theorem SrcA.le{hp:List Blk}(hle:HpLe hp hp')(h:SrcA hp sz ds u):SrcA hp' sz ds u:=by cases u with|d x=>cases x<;>exact h|msl id s off len=>obtain⟨h0,ty,es,h1,h2⟩:=h;exact⟨h0,ty,es,hle _ _ h1 (λe=>by cases e),h2⟩|_=>exact h.elim
theorem w_appD{f:α->D}{o:Oper}{ev:Operand->AV}{hp:List Blk}{t e:Nat}{xs:List α}(ys:List α)(hik:Nat.ble C.k i=true)(hN:hp[N]?=some .hole)(ho:o.op=.call { callee:=.builtin .append,args:=#[x,y],argTypes:=#[t,t] })(hT:TabOk C.P T)(hl:lk T.sel t=some (e,sz,by'))(hz:(C.P.info? e).bind (·.zero)=some z)(hzs:Nat.beq z.cells.size sz=true)(hby:Nat.ble by' 100000=true)(hx:ev x=.msl i sz 0 n)(hb:hp[i]?=some (.flat e sz (xs.map f)))(hn:n=xs.length)(hy:ev y=u)(hu:SrcA hp sz (ys.map f) u)(hg:(xs++ys).length<=1000000000):DOk C o ev hp (.msl N sz 0 (xs++ys).length) [(i,.dead),(N,.flat e sz ((xs++ys).map f))]:=DOk.mk λst hhp hag g a w hs=>by have hb':=hhp i _ hb (λe=>by cases e);have hN':=K4 hN hhp;have hne:i≠N:=λe=>(by rw[e,hN']at hb';cases hb');have hvx:=hs.ev x;rw[hag x C8,hx]at hvx;have hvy:=hs.ev y;rw[hag y C8,hy]at hvy;have hsrc:=src_ok hs hvy (hu.le hhp);have h1:=iP hby;have h3:(xs++ys).length*by'<=1000000000*100000:=gm hg h1;rw[xK]at h3 hg;obtain⟨v,w',hr,hc⟩:=Ox (P:=C.P) i sz by' n (xs.map f) (ys.map f) z ho (hT.sel hl) hz (eU hzs) hvx (hs.hp i _ hb') (by simpa using hn) hsrc iK iK;have hwr:wr [(i,.dead),(N,.flat e sz ((xs++ys).map f))] st.hp=(st.hp.set i .dead).set N (.flat e sz ((xs++ys).map f)):=rfl;rw[hwr,gS];have dupB:∀(es:List D)(g':Gh),g'.phi N=g.phi i->g'.psi N=g.psi i->g'.X=g.X->BRep w g i (.flat e sz es)->BRep w g' N (.flat e sz es):=(by intro es g' e1 e2 e3 hB;unfold BRep at hB⊢;simp only[e1,e2,e3];exact hB);rcases hc with⟨hds,rfl,rfl⟩|⟨b,cells,cells',cap,hp0,hw,hpsi,hcs,rfl,hcap,hcapsz,rfl,row⟩|⟨cells',cap,rfl,hcap,hcapsz,rfl,row⟩;obtain⟨g',h2,h4,e1,e2,e3⟩:=hs.dup (iP hik) hb' (λe=>by cases e) hN' (dupB _) hne;refine⟨_,_,g',hr,by rw[hds,kU];exact h2,?_⟩;have hys:ys.length=0:=(by have:=congrArg List.length hds;simpa using this);rw[xK,hys,cg,<- hn];generalize a.eval x=vx at hvx;(cases hvx with|msl0=>exact .msl0 _ _ _ _|msl _ _ _ _ cap b q1 q2 q3=>exact .msl _ _ _ _ cap b (by rw[e1];exact q1) q2 (by rw[e2];exact q3));obtain⟨g',h2,h4,e1,e2,e3⟩:=hs.dup (iP hik) hb' (λe=>by cases e) hN' (dupB _) hne;have hX:∀b',g.X b'->b'≠b:=λb' hX e=>(hs.lt i b hp0).2.2 (e ▸ hX);have hNl:N<st.hp.length:=gJ hN';have hch:=h2.change (i:=N) (b:=b) (B0:=.flat e sz (xs.map f)) (by simp[hNl]) (λe=>by cases e) (by rw[e1];exact hp0) (w':=w.setRow b cells') (eg _ _ _) rfl rfl rfl (oA _) (λb' hb'=>setRow_other w b b' _ hb') (B:=.flat e sz (xs.map f++ys.map f)) (.inr ⟨b,cells',by rw[e1];exact hp0,setRow_heap w b cells _ e (0,0) hw,by rw[e2,hpsi,hcs],row.le,row.h0,row.h1,λk d j c hk hc=>?_⟩);refine⟨_,_,g',hr,by simpa[List.set_set]using hch,?_⟩;have:=ARep.msl (w:=w.setRow b cells') (g:=g') N sz 0 ((xs.map f).length+(ys.map f).length) cap b (by rw[e1];exact hp0) hcap (by rw[e2,hpsi,iO];exact hcapsz);simpa using this;obtain⟨v,hv,hd⟩:=row.rep k d j c hk hc;exact⟨v,hv,hd.mono (by rw[e3];exact λ_ h=>h) λb' hb'=>setRow_other w b b' _ (hX b' (e3 ▸ hb'))⟩;have hk:=(hs.kill i).drew;have hN2:(st.hp.set i .dead)[N]?=some .hole:=(by rw[iC,if_neg hne];exact hN');have hno:g.phi N=none:=hs.hp N _ hN';have hf:=hk.fill (i:=N) (o:=.cells cells' e) (n:=cells'.size) (B:=.flat e sz (xs.map f++ys.map f)) hN2 (.inr ⟨w.heap.size,cells',oH,heap_alloc_new w.drew _,oH,row.le,row.h0,row.h1,λk d j c hk hc=>?_⟩);refine⟨_,_,_,hr,hf,?_⟩;have:=ARep.msl (w:=w.drew.alloc (.cells cells' e)) (g:=g.new N w.heap.size cells'.size) N sz 0 ((xs.map f).length+(ys.map f).length) cap w.heap.size oH hcap (by simp only[Gh.new,upd,if_true,iO];exact hcapsz);simpa using this;obtain⟨v,hv,hd⟩:=row.rep k d j c hk hc;exact⟨v,hv,hd.mono (λ_ h=>h) λb' hb'=>iU w.drew _ b' (hs.Xlt b' hb')⟩
def X6(P:Program)(t:TypeId):Option (List TypeDesc):=match P.underlying t with|some (.array n e) =>(match Dl P 29 e with|some [k]=>bif P.cellsOf e == 1&&P.cellsOf t == n then some (List.replicate n k)else none|_=>none)|_=>none
theorem Om{β:Type}(f:Nat->Option β):∀(l:List β)(k:Nat),(∀i x,l[i]?=some x->f (k+i)=some x)->(List.range' k l.length).mapM f=some l
  |[],k,_=>rfl
  |x::r,k,h=>by
    rw[kM,List.range'_succ,L8,show f k=some x from h 0 x rfl,Om f r (k+1) (λi y hy=>by have:=h (i+1) y hy;rwa [gn,Nat.add_comm 1 i])];rfl
theorem Fy{β : Type} : ∀ l : List β, (l.map fun x => [x]).flatten = l
  |[]=>rfl
  |x::r=>by simp[Fy r]
theorem X3{k:TypeDesc}:∀{n:Nat}{L:List Lit},nX (List.replicate n k) L->∀(i:Nat)(x:Lit),L[i]?=some x->qBU k x
  |0,[],_,i,x,h=>nV
  |0,_::_,h,_,_,_=>h.elim
  |n+1,[],h,_,_,_=>h.elim
  |n+1,y::L,h,0,x,hx=>by simp at hx;subst hx;exact h.1
  |n+1,y::L,h,i+1,x,hx=>X3 (n:=n) (L:=L) h.2 i x yd
theorem Fp(hk:X6 P t=some ks)(hL:nX ks L):P.keyLits 30 t (L.map jV)=some L/\(∃n e,P.underlying t=some (.array n e))/\ks.length=P.cellsOf t:=by unfold X6 at hk;split at hk;rename_i n e hu;split at hk;rename_i k hke;(cases hb:(P.cellsOf e == 1&&P.cellsOf t == n)with|false=>rw[hb]at hk;cases hk|true=>rw[hb]at hk;cases hk;simp only[pQ,beq_iff_eq]at hb;have hlen:=tS hL;rw[Vw]at hlen;refine⟨?_,⟨n,e,hu⟩,by rw[Vw,hb.2]⟩;unfold Program.keyLits;simp only[hu,hb.1,Bg];rw[if_pos (by rw[yt,hlen,hb.2])];have hm:(List.range n).mapM (λi=>P.keyLits 29 e (((L.map jV).drop i).take 1))=some (L.map λx=>[x]):=(by rw[List.range_eq_range',<- hlen,show L.length=(L.map λx=>[x]).length from(yt _).symm];refine Om _ _ 0 λi x hx=>?_;rw[vV,Wd]at hx;obtain⟨l,hl,rfl⟩:=hx;have e1:((L.map jV).drop i).take 1=[l].map jV:=(by rw[V2 (by rw[yt];exact(gJ hl))];simp[(zQQ.1 hl).2]);rw[iO,e1];exact vm 29 e [k] [l] hke ⟨X3 hL i l hl,trivial⟩);rw[hm];simp only[jB,jA];exact Fy L);cases hk;cases hk
theorem eqA_agg{o:Oper}{ev:Operand->AV}{hp:List Blk}{cs:List D}{b:Bool}(ho:o.op=.binOp .eql t x y t'\/o.op=.binOp .neq t x y t')(hx:ev x=.d (.agg cs))(hy:ev y=.d (.agg ds))(hk:X6 C.P t=some ks)(hkt:(C.P.keyTypeAt 30 t&&!C.P.eqGuardType C.P.depth t)=true)(hL:uM cs=some L)(hM:uM ds=some M)(h1:nX ks L)(h2:nX ks M)(hb:L=M↔b=true):RdOk C o ev hp (.d (.bool (match o.op with|.binOp .neq _ _ _ _=>!b|_=>b))):=RdOk.mk λst hhp hag g a w hs=>by simp only[pQ,gH]at hkt;obtain⟨hkt,hgd⟩:=hkt;have open':∀(z:Operand)(cs:List D)(L:List Lit),z∈o.op.operands->ev z=.d (.agg cs)->uM cs=some L->a.eval z=.agg (L.map jV).toArray:=(by intro z cs L hz he hl;have h:=hs.ev z;rw[hag z hz,he]at h;generalize a.eval z=v at *;cases h with|d _ _ h=>cases h with|agg _ vs hlen _ h=>have:=Gx cs L vs.toList hl ⟨V5,λi x y hx hy=>h i x y hx yR⟩;rw[<- this]);have hxm:x∈o.op.operands:=(by rcases ho with ho|ho<;>simp[ho,Op.operands]);have hym:y∈o.op.operands:=(by rcases ho with ho|ho<;>simp[ho,Op.operands]);have e1:=open' x cs L hxm hx hL;have e2:=open' y ds M hym hy hM;have formed:∀N:List Lit,nX ks N->Value.formed C.P t (.agg (N.map jV).toArray)=true:=λN hN=>(by have h3:=tS hN;obtain⟨_,⟨n,e,hu⟩,h4⟩:=Fp hk hN;simp[Value.formed,hu];omega);obtain⟨r,hr,hiff⟩:=run_equalIn_deep (P:=C.P) (10000-30) 30 t hkt w 30 30 _ _ L M (formed L h1) (formed M h2) (by simpa[Value.cells]using(Fp hk h1).1) (by simpa[Value.cells]using(Fp hk h2).1);have hrb:r=b:=(by cases r<;>cases b<;>simp_all);subst hrb;have heq:(Op.equal t (.agg (L.map jV).toArray) (.agg (M.map jV).toArray)).run C.P w=.ok r w:=hr;rcases ho with ho|ho;refine⟨.bool r,?_,?_⟩;simp only[execOp,ho,e1,e2];simp[eqGuard,binOp,hgd,heq];simp only[ho];exact .d _ _ (.bool _);refine⟨.bool (!r),?_,?_⟩;simp only[execOp,ho,e1,e2];simp[eqGuard,binOp,hgd,heq];simp only[ho];exact .d _ _ (.bool _)
theorem eqA_yes{o:Oper}{ev:Operand->AV}{hp:List Blk}{cs:List D}{b:Bool}(ho:o.op=.binOp .eql t x y t')(hx:ev x=.d (.agg cs))(hy:ev y=.d (.agg ds))(hk:X6 C.P t=some ks)(hkt:(C.P.keyTypeAt 30 t&&!C.P.eqGuardType C.P.depth t)=true)(hL:uM cs=some L)(hM:uM ds=some M)(h1:nX ks L)(h2:nX ks M)(hb:L=M↔b=true):RdOk C o ev hp (.d (.bool b)):=by have:=eqA_agg (hp:=hp) (.inl ho) hx hy hk hkt hL hM h1 h2 hb;simpa only[ho]using this
section ends
theorem EndsS.cellR{P:Program}{st:St}{a t id off s:Nat}{ty:TypeId}{cs:List AV}{T:Tab}(x:AV){d:D}(hT:TabOk P T)(hl:lk T.lay t=some (true,s))(ha:st.fr.get a=.mptr id 0 0 off)(hb:st.hp[id]?=some (.box ty cs))(hc:Nat.ble (off+s) cs.length=true)(hv:zg ((cs.drop off).take s)=x)(hs:Snap st.hp x d):EndsS P [.cell a t] d st:=EndsS.cell x (hT.lay hl) ha hb hc hv hs
end ends
theorem Lo{G:FuncId}(hc:tR P G=true)(args:Array Value)(w:World):(callFunc G args).run P w=.ok (.enter G args) w:=by unfold tR at hc;cases hfn:P.funcs[G]? with|none=>simp[hfn]at hc|some fn=>simp only[hfn,pQ,gH]at hc;have hb:fn.body.isNone=false:=(by cases h:fn.body<;>simp_all);unfold callFunc;simp only[Sem.run_bind,run_program,Result.andThen_ok,hfn];rw[if_neg (by rw[hc.1];exact fS),if_neg (by rw[hb];exact fS)];rfl
def Dj(m:α->α->Option Int)(x y:α):Bool:=decide ((m x y).getD 0<0)
structure SortOk {α:Type} (m:α->α->Option Int):Prop where
  tot:∀x y,∃r,m x y=some r
  irrefl:∀x,Dj m x x=false
  trans:∀x y z,Dj m x y=true->Dj m y z=true->Dj m x z=true
  ntrans:∀x y z,Dj m x y=false->Dj m y z=false->Dj m x z=false
  anti:∀x y,Dj m x y=false->Dj m y x=false->x=y
def qQA{α:Type}(m:α->α->Option Int)(x:α):List α->List α
  |[]=>[x]
  |y::r=>bif Dj m y x then y::qQA m x r else x::y::r
def tG{α:Type}(m:α->α->Option Int):List α->List α
  |[]=>[]
  |x::r=>qQA m x (tG m r)
section sort
variable {α:Type}{m:α->α->Option Int}
theorem Nk(x:α):∀l,(qQA m x l).Perm (x::l)
  |[]=>.refl _
  |y::r=>by
    unfold qQA;cases Dj m y x;exact .refl _;exact((Nk x r).cons y).trans (.swap x y r)
theorem xN:∀l:List α,(tG m l).Perm l
  |[]=>.refl _
  |x::r=>(Nk x (tG m r)).trans ((xN r).cons x)
theorem Ou(h : SortOk m)(x : α) : ∀ l, l.Pairwise (fun a b => Dj m b a = false) -> (qQA m x l).Pairwise (fun a b => Dj m b a = false)
  |[],_=>by simp[qQA]
  |y::r,hp=>by
    rw[zal129q]at hp;unfold qQA;cases hyx:Dj m y x;simp only[cond_false,zal129q];refine⟨λb hb=>?_,hp.1,hp.2⟩;rcases zQB.1 hb with rfl|hb
    exact hyx;exact h.ntrans b y x (hp.1 b hb) hyx;simp only[cond_true,zal129q];refine⟨λb hb=>?_,Ou h x r hp.2⟩;rcases zQB.1 ((Nk x r).mem_iff.1 hb)with rfl|hb
    cases hxy:Dj m b y
    · rfl
    have h3:=h.trans _ _ _ hxy hyx;rw[h.irrefl]at h3;cases h3;exact hp.1 b hb
theorem yZ(h : SortOk m) : ∀ l, (tG m l).Pairwise (fun a b => Dj m b a = false)
  |[]=>.nil
  |x::r=>Ou h x _ (yZ h r)
theorem mV(l:List α):(tG m l).length=l.length:=(xN l).length_eq
theorem N5(h:SortOk m)(l:List α):l.mergeSort (λx y=>!Dj m y x)=tG m l:=by refine List.Perm.eq_of_pairwise (le:=λx y=>Dj m y x=false) (λa b _ _ h1 h2=>h.anti a b h2 h1) ?_ (yZ h l) ((List.mergeSort_perm _ _).trans (xN l).symm);have:=List.pairwise_mergeSort (le:=λx y=>!Dj m y x) (λa b c h1 h2=>?_) (λa b=>?_) l;simpa using this;simp only[gH]at h1 h2⊢;exact h.ntrans c b a h2 h1;cases h1:Dj m b a;rfl;cases h2:Dj m a b;rfl;have h3:=h.trans _ _ _ h1 h2;rw[h.irrefl]at h3;cases h3
end sort
theorem set_same{x:α}(h:l[i]?=some x):l.set i x=l:=by apply uS;intro j;by_cases e:i=j;subst e;rw[qd (gJ h),h];rw[tV e]
theorem J2{C:Ctx}{hp:List Blk}{l:List Oper}{K:St->Prop}(i:Nat)(cs':List AV)(hb:hp[i]?=some (.box t cs))(he:cs=cs')(h:cP C ops l ⟨fr,hp.set i (.box t cs')⟩ K):cP C ops l ⟨fr,hp⟩ K:=by subst he;rwa [set_same hb]at h
theorem c_frzC{C:Ctx}{Q:Exit->St->Prop}{hp hp1:List Blk}(q j i:Nat)(ks:List Nat)(hk:Nat.ble C.k i=true)(hks:((List.range C.k).all (dV hp))=true)(hal:dV hp i=true){tq:Nat}{cs1:List AV}(hq:hp[q]?=some (.box tq cs))(hc:cs[j]?=some (.msl i sz 0 n))(hb:hp[i]?=some (.flat ty sz es))(hn:n=es.length)(hf:Fr.mapRef (Vn i (.flat ty sz es) (dV hp)) (Fr.keep ks fr)=fr')(hh:((hp.set q (.box tq (cs.set j .junk))).map (Blk.mapRef (Vn i (.flat ty sz es) (dV hp)))).set i .dead=hp1)(h1:hp1[q]?=some (.box tq cs1))(h:TWp C c ⟨fr',hp1.set q (.box tq (cs1.set j (.d (.sl sz es))))⟩ Q):TWp C c ⟨fr,hp⟩ Q:=by have hB:hp.getD i .dead=.flat ty sz es:=(by rw[fx,hb];rfl);have hqi:i≠q:=λe=>(by subst e;rw[hb]at hq;cases hq);intro g a w hs;obtain⟨g',hs'⟩:=hs.freeze i (iP hk) hal (λj hj=>zQT.1 hks j (zal120q.2 hj));subst hf hh;refine h g' a w ?_;simp only[St.freeze,hB]at hs';have hql:q<hp.length:=gJ hq;have hjl:j<cs.length:=gJ hc;rw[tV hqi,vV,qd hql]at h1;simp only[jB,Blk.mapRef,AV.mapRefs_eq,jA,Blk.box.injEq,true_and]at h1;have e:(hp.map (Blk.mapRef (Vn i (.flat ty sz es) (dV hp)))).set i .dead=(((hp.set q (.box tq (cs.set j .junk))).map (Blk.mapRef (Vn i (.flat ty sz es) (dV hp)))).set i .dead).set q (.box tq (cs1.set j (.d (.sl sz es)))):=(by apply uS;intro b;by_cases hbq:q=b;subst hbq;rw[tV hqi,qd (by simpa using hql),vV,hq];simp only[jB,Blk.mapRef,AV.mapRefs_eq,jA,Blk.box.injEq,true_and];rw[<- h1];apply uS;intro u;by_cases huj:j=u;subst huj;rw[qd (by simpa using hjl),vV,hc];simp only[jB,AV.mapRef,Vn,if_true];rw[if_pos ⟨trivial,aB⟩];subst hn;simp;rw[tV huj,vV,vV,tV huj];rw[tV hbq];by_cases hbi:i=b;subst hbi;rw[qd (by simpa using(gJ hb)),qd (by simpa using(gJ hb))];rw[tV hbi,tV hbi,vV,vV,tV hbq]);rw[e]at hs';refine hs'.forget λt=>?_;rw[Fr.get_mapRef,Fr.get_mapRef];rcases Fr.get_keep fr ks t with e|e;rw[e];exact .inl rfl;rw[e];exact .inr rfl
theorem Sim.handedM(hs:Sim C st g a w)(hnd:ids.Nodup)(mv:Nat->Bool):Out ⟨C.P,0,w,(vQ ids st.hp).length,g.canon ids,mv⟩ (vQ ids st.hp) (g.canon ids) w:=by have h:=hs.handed hnd;exact{ h with keep:=h.keep,own:=h.own,stay:=λi b hi _ hp=>h.stay i b hi rfl hp,kle:=h.kle }
def zy:AV->Option (FuncId×List AV)
  |.d (.fn F)=>some (F,[])
  |.d (.clo F cs)=>some (F,cs.map .d)
  |.fnc F cs=>some (F,cs)
  |_=>none
theorem Ln{x:AV}{v:Value}(h:ARep w g x v)(hc:zy x=some (F,cs)):∃vs:Array Value,v=.func (.func F) #[] vs/\Pw (ARep w g) cs vs.toList:=by cases h with|d d v hd =>(cases hd with|fn f=>cases hc;exact⟨#[],rfl,rfl,λi c v h=>nV⟩|clo f ds vs hl h=>cases hc;refine⟨vs,rfl,qf,λi c v hci hvi=>?_⟩;simp only[vV,Wd]at hci;obtain⟨d,hd,rfl⟩:=hci;exact .d _ _ (h i d v hd (by simpa using hvi))|_=>cases hc)|fnc f cs vs hl h=>cases hc;exact⟨vs,rfl,qf,λi c v hci hvi=>h i c v hci (by simpa using hvi)⟩|_=>cases hc
theorem ok_callM{o:Oper}{K:St->Prop}{c:AV}(ids:List Nat)(mv:Nat->Bool)(args:List AV)(r:AV)(hp':List Blk)(ho:o.op=.call { callee:=.value f,args:=xs,argTypes:=ts })(hd:vC C.n o.dst=true)(hf:st.fr.ev f=c)(hc:zy c=some (F,cs))(hnd:ids.Nodup)(hal:(ids.all λj=>dV st.hp j)=true)(hmv:((List.range C.k).all λj=>!yj ids mv j||C.mv j)=true)(hx:((xs.toList.map st.fr.ev)++cs).map (AV.mapRef (toName (bI ids)))=args)(hret:Ret C.P F (vQ ids st.hp) mv args r hp')(hK:K (St.put ⟨Fr.mapRef (lI (yj ids mv)) st.fr,wJ ids (st.hp.map (Blk.mapRef (lI (yj ids mv)))) hp'⟩ o.dst (r.mapRef (fwd ids st.hp.length)))):OpOk C o st K:=by intro g a w Q hs;have hfv:=hs.ev f;rw[hf]at hfv;obtain⟨vs,hv,hvs⟩:=Ln hfv hc;have hf':∀i j,bI ids i=some j->(g.canon ids).phi j=g.phi i/\(g.canon ids).psi j=g.psi i:=(by intro i j hij;have:=dM ids i j hij;simp[Gh.canon,this]);have hargs:Pw (ARep w (g.canon ids)) args (xs.map a.eval++vs).toList:=(by rw[<- hx,Me,gS];refine Pw.append ⟨aN,λi x v hxi hvi=>?_⟩ ⟨by simpa using hvs.1,λi x v hxi hvi=>?_⟩;simp only[Gc,vV,Wd]at hxi;simp only[fb,vV,Wd]at hvi;obtain⟨y,hy,rfl⟩:=hxi;obtain⟨z,hz,rfl⟩:=hvi;rw[hy]at hz;cases hz;exact ARep.mapRef (w:=w) (g:=g) (g':=g.canon ids) (λd v hd=>hd) (ARep.toName hf' λ_ hb=>hb) (hs.ev y);simp only[vV,Wd]at hxi;obtain⟨d,hd',rfl⟩:=hxi;exact ARep.mapRef (w:=w) (g:=g) (g':=g.canon ids) (λd v hd=>hd) (ARep.toName hf' λ_ hb=>hb) (hvs.2 i d v hd' hvi));have hal':∀j∈ids,dV st.hp j=true:=λj hj=>zQT.1 hal j hj;have hlt:∀j∈ids,j<st.hp.length:=λj hj=>(by obtain⟨B,hB,_⟩:=nK (hal' j hj);exact(gJ hB));have hmv':∀j,j<C.k->yj ids mv j=true->C.mv j=true:=λj hj hm=>(by have:=zQT.1 hmv j (zal120q.2 hj);simpa[hm]using this);simp only[Oper.wp,kO ho hv hret.1,Oper.upon_enter];refine(hret.2 w (g.canon ids) _ (hs.handedM hnd mv) hargs).mono ?_;rintro e w' ⟨v,g',rfl,hout,hr⟩;refine⟨_,_,hK,(hs.backM mv hnd hal' hmv' hout).put' hd ?_⟩;refine ARep.mapRef (w:=w') (g:=g') (λd v hd=>hd.mono (λb hb=>?_) λ_ _=>rfl) (λx v hx hr=>hx.fwd hnd hlt hr) hr;by_cases hlt':b<w.heap.size;exact .inl (hout.Xold b hb hlt');exact .inr ⟨aB,hb⟩
section
variable {ops:Array Oper}{l:List Oper}{K:St->Prop}{fr:Fr}{hp:List Blk}{d:Nat}{ty:TypeId}{pos:String}{after:Array Edge}
theorem eF{f:Operand}{xs:Array Operand}{ts:Array TypeId}{F:FuncId}{c:AV}{cs:List AV}(ids:List Nat)(mv:Nat->Bool){args:List AV}{r r':AV}{fr2:Fr}{hh hp' hp2:List Blk}(hd:decide (d<C.n)=true)(hf:fr.ev f=c)(hc:zy c=some (F,cs))(hnd:ids.Nodup)(hal:(ids.all λj=>dV hp j)=true)(hmv:((List.range C.k).all λj=>!yj ids mv j||C.mv j)=true)(hx:((xs.toList.map fr.ev)++cs).map (AV.mapRef (toName (bI ids)))=args)(hhd:vQ ids hp=hh)(hret:Ret C.P F hh mv args r hp')(hr:r.mapRef (fwd ids hp.length)=r')(hfr:Fr.mapRef (lI (yj ids mv)) fr=fr2)(hb:wJ ids (hp.map (Blk.mapRef (lI (yj ids mv)))) hp'=hp2)(h:cP C ops l ⟨(d,r')::fr2,hp2⟩ K):cP C ops (⟨some d,.call { callee:=.value f,args:=xs,argTypes:=ts },ty,pos,after,none⟩::l) ⟨fr,hp⟩ K:=by subst hr hb hhd hfr;exact gW rfl (ok_callM ids mv args r hp' rfl hd hf hc hnd hal hmv hx hret h)
end
end Go.TL
namespace Go.TL
open Go.Sort Go.Proofs
variable {C:Ctx}{st:St}{g:Gh}{a:Act}{w:World}{P:Program}
def D.val:D->Value
  |.bool b=>.bool b
  |.int k n=>.int k n
  |.str s=>.string s
  |_=>undef
def D.scal:D->Bool
  |.bool _|.int _ _|.str _=>true
  |_=>false
variable {Bs hp:List Blk}{F G:FuncId}{X:Nat->Prop}{b e i j sz t:Nat}{c d:D}{cs:List AV}{ds:List D}{ev:Operand->AV}{mv:Nat->Bool}{o:Oper}{ts:Array TypeId}{xs:List Int}{α:Type}{cf:α->α->Int}{f:α->D}
theorem scal_val{v:Value}(hc:c.scal=true)(h:DRep w X c v):v=c.val:=by cases h<;>first|rfl|cases hc
theorem qJA(hc:c.scal=true):DRep w X c c.val:=by(cases c<;>first|cases hc|skip);exact .bool _;exact .int _ _;exact .str _
theorem qJB(hc:c.scal=true):c.one=true/\c.val.oneCell'=true:=by cases c<;>first|exact⟨rfl,rfl⟩|cases hc
theorem Sim.grow(h:Sim C st g a w)(n:Nat)(os:Array Obj):Sim C st g a (Sort.grow (Sort.ahead w n) os):=by have hheap:∀b,b<w.heap.size->(Sort.grow (Sort.ahead w n) os).heap[b]?=w.heap[b]?:=λb hb=>(by show(w.heap++os)[b]?=_;rw[Jo,if_pos hb]);have hsz:w.heap.size<=(Sort.grow (Sort.ahead w n) os).heap.size:=(by show _<=(w.heap++os).size;simp);have hg:Grow w g (Sort.grow (Sort.ahead w n) os) g:=⟨λ_ _ h=>h,λ_ _ _=>rfl,λ_ h=>h,λb hb=>hheap b (h.Xlt b hb)⟩;exact{ h with fr:=λt=>(h.fr t).mono hg,hp:=λi B hi=>(h.hp i B hi).mono hg id λb hb=>hheap b (h.lt i b hb).1,lt:=λi b hb=>⟨Bl (h.lt i b hb).1 hsz,(h.lt i b hb).2⟩,Xlt:=λb hb=>Bl (h.Xlt b hb) hsz,drawn:=eR h.drawn (Nat.le_add_right _ _),grown:=eR h.grown hsz,keep:=λb hb hk=>by rw[hheap b (Bl hb h.grown)];exact h.keep b hb hk }
theorem Out.grown'{hp':List Blk}{g g':Gh}{w':World}(h:Out ⟨P,0,w,0,g,mv⟩ hp' g' w'):∃q os,w'=Sort.grow (w.drewN q) os:=by have hold:∀b,b<w.heap.size->w'.heap[b]?=w.heap[b]?:=λb hb=>h.keep b hb λi hi=>absurd hi (xJ i);have hsz:w.heap.size<=w'.heap.size:=h.grown;have hd:w.drawn<=w'.drawn:=h.drawn;have e1:w'.os=w.os:=h.os;have e2:w'.tape=w.tape:=h.tape;have e3:w'.output=w.output:=h.output;refine⟨w'.drawn-w.drawn,w'.heap.extract w.heap.size w'.heap.size,?_⟩;have hh:w'.heap=w.heap++w'.heap.extract w.heap.size w'.heap.size:=(by apply Array.ext_getElem?;intro i;rw[Jo];split;rename_i hi;exact hold i hi;rename_i hi;rw[Array.getElem?_extract];split;rw[Nat.add_sub_cancel' (Nat.le_of_not_lt hi)];rename_i hn;rw[Array.getElem?_eq_none_iff];omega);cases w;cases w';simp only at e1 e2 e3 hh hd;subst e1 e2 e3;simp only[Sort.grow,World.drewN];rw[<- hh];congr 1;omega
theorem K5[Inhabited α](enc:α->List Value)(k:Nat)(w:World)(blk off n:Nat)(d:Array α)(os:Array Obj)(b:Nat)(hb:b≠blk)(hlt:b<w.heap.size):(sortWorldK enc k w blk off n d os).heap[b]?=w.heap[b]?:=by show(((Sort.ahead w n).heap.modify blk _)++os)[b]?=_;rw[Jo,if_pos (by simpa[Sort.ahead]using hlt),Vz,if_neg (λe=>hb e.symm)];rfl
theorem ck[Inhabited α](enc:α->Value)(off:Nat)(d:Array α)(c:Array Value):(putCells enc off d c).size=c.size:=by simp[putCells]
theorem K6[Inhabited α](enc:α->Value)(off:Nat)(d:Array α)(c:Array Value)(k:Nat)(hk:k<c.size):(putCells enc off d c)[k]?=some (if off<=k/\k<off+d.size then enc d[k-off]! else c[k]):=by simp[putCells,hk]
theorem Ha(h:(d.cells.all D.scal)=true)(hc:d.cells[j]?=some c):c.scal=true:=zQT.1 h c (kK hc)
theorem qHZ{w:World}(h1:d.one=false)(hs:(d.cells.all D.scal)=true):DRep w X d (.agg (d.cells.map D.val).toArray):=by(cases d<;>first|cases h1|skip);rename_i cs;refine .agg cs _ (by simp[D.cells]) (λc hc=>(qJB (zQT.1 hs c hc)).1) λi c v hc hv=>?_;have hv':(cs.map D.val)[i]?=some v:=(by simpa[D.cells]using hv);rw[vV,hc]at hv';cases hv';exact qJA (Ha (d:=.agg cs) hs hc)
theorem Pw.two{β:Type}{R:α->β->Prop}{a b:α}{x y:β}(h0:R a x)(h1:R b y):Pw R [a,b] [x,y]:=⟨rfl,λi u v hu hv=>by match i,hu,hv with|0,hu,hv=>simp at hu hv;subst hu hv;exact h0|1,hu,hv=>simp at hu hv;subst hu hv;exact h1|i+2,hu,hv=>simp at hu⟩
theorem qQM[Inhabited α]{cs:List D}(hag:∀x,(f x).one=false)(hsc:∀x,((f x).cells.all D.scal)=true)
    (hclo:∀x y,RetD P G ([f x,f y]++cs) (.int .i64 (cf x y))) {w:World}  {cb:Array Value} (hcb:Pw (DRep w X) cs cb.toList) {size:Nat} (hX:∀b',X b'->b'≠b/\b'<w.heap.size) (hL:qNG w (hU X)) (hLb:∀x∈Gz,x.1≠b):
    CmpLays P G cb (λx=>(f x).cells.map D.val) sz cf b 0 size w:=by
  intro m os dk _ x y;obtain⟨mv,r,hp',hret,hsn⟩:=hclo x y;generalize hW:sortWorldK (λx=>(f x).cells.map D.val) sz w b 0 m dk os=W;have hold:∀b',X b'->W.heap[b']?=w.heap[b']?:=λb' hb'=>by rw[<- hW];exact K5 _ _ _ _ _ _ _ _ _ (hX b' hb').1 (hX b' hb').2
  have hWs:w.heap.size<=W.heap.size:=by
    rw[<- hW];show _<=(((Sort.ahead w m).heap.modify b _)++os).size;simp[Sort.ahead]
  have hLW:qNG W (hU X):=λx hx=>by
    obtain⟨⟨t,fz,e⟩,_⟩:=hL x hx;exact⟨⟨t,fz,by rw[<- hW,K5 _ _ _ _ _ _ _ _ _ (hLb x hx) (zal5q.1 e).1];exact e⟩,λi h=>by simp[hU]at h⟩
  have hout:Out ⟨P,0,W,0,hU X,mv⟩ [] (hU X) W:=
    { defers := rfl, size := rfl, fr := fun _ => .junk _, hp := fun i B h => by simp at h, lt := fun i b h => by simp [hU] at h, inj := fun i j b _ _ _ _ _ _ h => by simp [hU] at h, Xlt := fun b' hb' => Bl (hX b' hb').2 hWs, Xold := fun b h _ => h
      os:=rfl,tape:=rfl,output:=rfl,drawn:=oA _,grown:=oA _,keep:=λ_ _ _=>rfl,own:=λi b h=>by simp[hU]at h,stay:=λi b h=>absurd h (xJ i),kle:=iF _,laid:=hLW }
  have hargs:Pw (ARep W (hU X)) (([f x,f y]++cs).map AV.d) (#[Value.agg ((f x).cells.map D.val).toArray,.agg ((f y).cells.map D.val).toArray]++cb).toList:=by
    rw[gS,Me];refine Pw.append (Pw.two (.d _ _ (qHZ (hag x) (hsc x))) (.d _ _ (qHZ (hag y) (hsc y)))) ⟨by simpa using hcb.1,λi u v hu hv=>?_⟩;simp only[vV,Wd]at hu;obtain⟨d,hd,rfl⟩:=hu;exact .d _ _ ((hcb.2 i d v hd hv).mono (λ_ h=>h) hold)
  have hc:=hret.2 W (hU X) _ hout hargs;refine hc.mono ?_;rintro e w' ⟨v,g',rfl,hout',hr⟩;obtain⟨q,os',hw'⟩:=Out.grown' hout';refine⟨?_,q,os',hw'⟩
  have:v=.int .i64 (cf x y):=by
    cases hsn with
    |d _=>cases hr with|d _ _ h=>cases h;rfl
  rw[this]
theorem qUZ[Inhabited α](e:TypeId){cs:List D}{S:Array α->List α}(mv:Nat->Bool)(xs:List α)
    (hcbF:tR P F=true) (hag:∀x,(f x).one=false) (hsz:∀x,(f x).cells.length=sz) (hsc:∀x,((f x).cells.all D.scal)=true)
    (hfn:Qn c=some (G,cs)) (hclo:∀x y,RetD P G ([f x,f y]++cs) (.int .i64 (cf x y)))
    (hlen:xs.length<4611686018427387904) (hS:(S xs.toArray).length=xs.length)
    (hnone:∀(p:Option Addr)(cap:Nat)(fv:Value)(w:World),Calls P F #[.slice p 0 cap,fv] w λe w'=>e=.returned (.tuple #[])/\w'=w)
    (hsort : ∀ (blk off cap : Nat) (cb : Array Value) (d : Array α) (w : World), CmpLays P G cb (fun x => (f x).cells.map D.val) sz cf blk off d.size w -> HoldsK (fun x => (f x).cells.map D.val) sz w blk off d -> blk < w.heap.size -> d.size < 4611686018427387904 ->
      Calls P F #[.slice (some ⟨blk,off,none⟩) d.size cap,.func (.func G) #[] cb] w λe w'=>e=.returned (.tuple #[])/\∃n os,w'=sortWorldK (λx=>(f x).cells.map D.val) sz w blk off n (S d).toArray os):
    Ret P F [.flat e sz (xs.map f)] mv [.msl 0 sz 0 xs.length,.d c] (.tup []) [.flat e sz ((S xs.toArray).map f)]:=by
  refine⟨hcbF,λw g vs hout hargs=>?_⟩
  obtain⟨v0,v1,rfl⟩:∃v0 v1,vs=#[v0,v1]:=by
    have hl:vs.size=2:=by have:=hargs.1;simpa using this.symm
    exact⟨vs[0],vs[1],by apply Array.ext;simp[hl];intro i h1 h2;match i,h2 with|0,_=>rfl|1,_=>rfl⟩
  have h0:=hargs.2 0 _ _ rfl rfl;have h1:=hargs.2 1 _ _ rfl rfl
  cases h1 with
  |d _ _ h1=>
  obtain⟨cb,rfl,hcb⟩:=Lb h1 hfn;have hB:=hout.hp 0 _ rfl;generalize hn:xs.length=n at h0
  cases h0 with
  |msl0 _ _ _ ad=>
    have hxs:xs=[]:=x7 hn;subst hxs;have hS0:S (#[]:Array α)=[]:=x7 hS;refine(hnone ad 0 _ w).mono ?_;rintro e w' ⟨rfl,rfl⟩;refine⟨_,g,rfl,?_,.tup [] #[] rfl λi c v h=>nV⟩;simpa[hS0]using hout
  |msl _ _ _ _ cap b hb hc hpz=>
    rcases hB with⟨_,hn0⟩|⟨b',cells,hp0,hw,hpsi,hl,hh0,hh1,hr⟩
    rw[hb]at hn0;cases hn0;cases hb.symm.trans hp0;subst hn;rw[F7];have hblt:=(hout.lt 0 b hb).1;have hXb:∀b',g.X b'->b'≠b/\b'<w.heap.size:=λb' hX=>⟨λe=>(hout.lt 0 b hb).2.2 (e ▸ hX),hout.Xlt b' hX⟩
    have hflat:∀(d:Array α)(i j:Nat),i<d.size->j<sz->(flatK (λx=>(f x).cells.map D.val) sz d)[i*sz+j]?=((f d[i]!).cells[j]?).map D.val:=by
      intro d i j hi hj;have hlt:i*sz+j<d.size*sz:=by have:=sL sz (show i+1<=d.size from hi);rw[sM]at this;omega
      have h2:=get_flatK (λx=>(f x).cells.map D.val) sz d (i*sz+j) hlt;have hdiv:(i*sz+j)/sz=i:=by rw[Ga,Nat.mul_add_div aB,Nat.div_eq_of_lt hj,cg]
      have hmod:(i*sz+j)%sz=j:=by rw[Ga,Nat.mul_add_mod,Nat.mod_eq_of_lt hj]
      rw[hdiv,hmod]at h2;rw[getElem!_pos _ _ D7]at h2;rw[Jn D7,h2];have hjl:j<(f d[i]!).cells.length:=by rw[hsz];exact hj
      rw[getElem!_pos _ _ (by simpa using hjl),iG hjl];simp
    have hH:HoldsK (λx=>(f x).cells.map D.val) sz w b 0 xs.toArray:=by
      intro j hj;have hj':j<xs.length*sz:=Mh
      have hsz0 : 0 < sz := by rcases Jq sz with h0 | h0; · subst h0; simp at hj'
                               · exact h0
      have hi:j/sz<xs.length:=by rw[Nat.div_lt_iff_lt_mul hsz0];exact hj'
      have hm:j%sz<sz:=Nat.mod_lt _ hsz0;have hdec:j/sz*sz+j%sz=j:=by rw[Ga];exact Nat.div_add_mod j sz
      have hjl:j%sz<(f xs[j/sz]).cells.length:=by rw[hsz];exact hm
      have hx:(xs.map f)[j/sz]?=some (f xs[j/sz]):=xI
      obtain⟨v,hv,hd⟩:=hr (j/sz) _ (j%sz) _ hx (iG hjl);rw[hdec]at hv;have hfl:=hflat xs.toArray (j/sz) (j%sz) Io hm;rw[hdec]at hfl;have hget:xs.toArray[j/sz]! = xs[j/sz]:=by rw[getElem!_pos _ _ Io];simp
      rw[hget,iG hjl]at hfl
      have hfl':(flatK (λx=>(f x).cells.map D.val) sz xs.toArray)[j]! = ((f xs[j/sz]).cells[j%sz]).val:=by
        rw[getElem!_pos (flatK (λx=>(f x).cells.map D.val) sz xs.toArray) j hj];rw[Jn hj]at hfl;simpa using hfl
      rw[iO];refine⟨?_,by simp[World.frozen?,hw]⟩;rw[cell_of_row w b j cells e (0,0) hw,hv,hfl'];rw[scal_val (Ha (hsc _) (iG hjl)) hd];rfl
    have hcl:=qQM (P:=P) (sz:=sz) (size:=xs.toArray.size) hag hsc hclo hcb hXb (λx hx=>⟨(Sim.laidW hout x hx).1,λi h=>by simp[hU]at h⟩) (λx hx e=>(Sim.laidW hout x hx).2 0 (e ▸ hb));have hs:=hsort b 0 cap cb xs.toArray w hcl hH hblt V5;refine(show Calls P F #[.slice (some ⟨b,0,none⟩) xs.length cap,.func (.func G) #[] cb] w _ from hs).mono ?_;rintro e' w' ⟨rfl,m,os,rfl⟩;refine⟨_,g,rfl,?_,.tup [] #[] rfl λi c v h=>nV⟩;have hbw:(Sort.ahead w m).heap[b]?=some (.cells cells e (0,0)):=hw;have hahead:Out ⟨P,0,w,1,g,mv⟩ [.flat e sz (xs.map f)] g (Sort.ahead w m):=Sim.sameHeap hout rfl rfl rfl rfl (Nat.le_add_right _ _)
    have hwr:(putRowK (λx=>(f x).cells.map D.val) sz (Sort.ahead w m) b 0 (S xs.toArray).toArray).heap[b]?=some (.cells (putCells id 0 (flatK (λx=>(f x).cells.map D.val) sz (S xs.toArray).toArray) cells) e (0,0)):=by
      show((Sort.ahead w m).heap.modify b _)[b]?=_;rw[Vz,if_pos rfl,hbw];rfl
    have hoth:∀b',b'≠b->(putRowK (λx=>(f x).cells.map D.val) sz (Sort.ahead w m) b 0 (S xs.toArray).toArray).heap[b']?=(Sort.ahead w m).heap[b']?:=λb' hb'=>by
      show((Sort.ahead w m).heap.modify b _)[b']?=_;rw[Vz,if_neg (λe=>hb' e.symm)]
    have hch := Sim.change (i := 0) (b := b) (B0 := .flat e sz (xs.map f)) hahead rfl (fun e => by cases e) hb (w' := putRowK (fun x => (f x).cells.map D.val) sz (Sort.ahead w m) b 0 (S xs.toArray).toArray) (size_putRowK _ _ _ _ _ _) rfl rfl rfl (oA _) hoth
      (B:=.flat e sz ((S xs.toArray).map f)) (.inr ⟨b,_,hb,hwr,?_,?_,λk d hk=>?_,λk d j c hk hc=>?_,λk d j c hk hc=>?_⟩)
    exact Sim.grow hch 0 os;rw[hpsi,ck];simp only[yt,ck,hS]at hl⊢;exact hl;simp only[vV,Wd]at hk;obtain⟨x,_,rfl⟩:=hk;exact hsz x;simp only[vV,Wd]at hk;obtain⟨x,_,rfl⟩:=hk;exact(qJB (Ha (hsc x) hc)).1;simp only[vV,Wd]at hk;obtain⟨x,hx,rfl⟩:=hk;have hk':=gJ hx;have hj:j<sz:=by rw[<- hsz x];exact(gJ hc)
    have hfl:=hflat (S xs.toArray).toArray k j (by simpa using hk') hj;have hget:(S xs.toArray).toArray[k]! = x:=by rw[getElem!_pos _ _ (by simpa using hk')];simpa using(zQQ.1 hx).2
    rw[hget,hc]at hfl;refine⟨c.val,?_,qJA (Ha (hsc x) hc)⟩;have hlt:k*sz+j<(flatK (λx=>(f x).cells.map D.val) sz (S xs.toArray).toArray).size:=(zal5q.1 hfl).1
    have hlc:k*sz+j<cells.size:=by
      simp only[size_flatK,gq,hS]at hlt;simp only[yt]at hl;omega
    rw[K6 id 0 _ cells (k*sz+j) hlc,if_pos ⟨iF _,D7⟩,F8,getElem!_pos (flatK (λx=>(f x).cells.map D.val) sz (S xs.toArray).toArray) (k*sz+j) hlt];rw[Jn hlt]at hfl;simpa using hfl
variable {C:Ctx}{st:St}{g:Gh}{a:Act}{w:World}{P:Program}
theorem kB{k:Nat}{ids:List Nat}(h:((List.range k).all λi=>ids[i]? == some i)=true)(i:Nat)(hi:i<k):ids[i]?=some i:=by have:=zQT.1 h i (zal120q.2 hi);simpa using this
theorem Sim.upB(h:Sim C st g a w)(hb:st.hp[i]?=some (.box t cs))(hc:cs[j]?=some (.d .nilsl)):Sim C ⟨st.fr,(st.hp.set i (.box t (cs.set j (.msl st.hp.length sz 0 0))))++[Blk.flat e sz []]⟩ g a w:=by
  have hi:=gJ hb;have hv:=h.virt e sz
  have h2:Sim C ⟨st.fr,(st.hp++[Blk.flat e sz []]).set i (.box t (cs.set j (.msl st.hp.length sz 0 0)))⟩ g a w:=by
    have hrep:=h.hp i _ hb;obtain⟨b,cells,hp,hw,hps,hl,hr⟩:=hrep;refine{ hv with hp:=λk B hk=>?_,lt:=λk b hk=>by have:=hv.lt k b hk;simpa using this,inj:=λk k' b Bk Bk' h1 h2 d1 d2 p1 p2=>?_,kle:=by simpa using hv.kle };rw[iC]at hk;split at hk;rename_i e1;subst e1;split at hk;cases hk;refine⟨b,cells,hp,hw,hps,qf,λq c v hq hv'=>?_⟩;rw[iC]at hq;split at hq;rename_i e2;subst e2;split at hq;cases hq;have:=hr _ _ v hc hv'
    cases this with
    |d _ _ hd=>cases hd with
      |nilsl ad=>exact .msl0 _ _ _ _
    cases hq;exact hr q c v hq hv';cases hk;exact hv.hp k B hk
    have key:∀(k:Nat)(Bk:Blk),((st.hp++[Blk.flat e sz []]).set i (.box t (cs.set j (.msl st.hp.length sz 0 0))))[k]?=some Bk->Bk≠.dead->∃B',(st.hp++[Blk.flat e sz []])[k]?=some B'/\B'≠.dead:=by
      intro k Bk hk hd;rw[iC]at hk;split at hk;rename_i e1;subst e1;exact⟨.box t cs,by rw[kN,if_pos hi];exact hb,λe=>by cases e⟩;exact⟨Bk,hk,hd⟩
    obtain⟨B1,e1,d1'⟩:=key k Bk h1 d1;obtain⟨B2,e2,d2'⟩:=key k' Bk' h2 d2;exact hv.inj k k' b B1 B2 e1 e2 d1' d2' p1 p2
  rwa [List.set_append,if_pos hi]at h2
theorem iE{ops:Array Oper}{l:List Oper}{K:St->Prop}{fr:Fr}(i j N e sz:Nat){t:TypeId}(hN:Nat.beq hp.length N=true)(hb:hp[i]?=some (.box t cs))(hc:cs[j]?=some (.d .nilsl))(h:cP C ops l ⟨fr,(hp.set i (.box t (cs.set j (.msl N sz 0 ([]:List α).length))))++[Blk.flat e sz (([]:List α).map f)]⟩ K):cP C ops l ⟨fr,hp⟩ K:=by have e:=eU hN;subst e;exact λg a w hs=>h g a w (Sim.upB (st:=⟨fr,hp⟩) hs hb hc)
theorem Nm(hout:Out ⟨P,0,w,1,g,mv⟩ [.flat e 1 (xs.map (D.int .i64))] g w)(hb:g.phi 0=some b):Holds (Value.int .i64) w b 0 xs.toArray/\b<w.heap.size/\∃cells,w.heap[b]?=some (.cells cells e (0,0))/\g.psi 0=cells.size/\xs.length<=cells.size:=by have hB:=hout.hp 0 _ rfl;rcases hB with⟨_,hn0⟩|⟨b',cells,hp0,hw,hpsi,hl,hh0,hh1,hr⟩;rw[hb]at hn0;cases hn0;cases hb.symm.trans hp0;refine⟨λj hj=>?_,(hout.lt 0 b hb).1,cells,hw,hpsi,qf⟩;have hj':j<xs.length:=Mh;obtain⟨v,hv,hd⟩:=hr j (D.int .i64 (xs[j]'hj')) 0 (D.int .i64 (xs[j]'hj')) (by simp[hj']) rfl;rw[Bg,cg]at hv;cases hd;rw[iO];refine⟨?_,by simp[World.frozen?,hw]⟩;rw[cell_of_row w b j cells e (0,0) hw,hv,getElem!_pos xs.toArray j hj];simp
theorem qSF(hout:Out ⟨P,0,w,1,g,mv⟩ [.flat e 1 (xs.map (D.int .i64))] g w)(hb:g.phi 0=some b)(ys zs:List Int)(hlen:(ys++zs).length=xs.length)(m:Nat)(os:Array Obj):Out ⟨P,0,w,1,g,mv⟩ [.flat e 1 (ys.map (D.int .i64))] g (Sort.grow (putRow (Value.int .i64) (Sort.ahead w m) b 0 (ys++zs).toArray) os):=by obtain⟨_,hblt,cells,hw,hpsi,hcl⟩:=Nm hout hb;have hbw:(Sort.ahead w m).heap[b]?=some (.cells cells e (0,0)):=hw;have hahead:Out ⟨P,0,w,1,g,mv⟩ [.flat e 1 (xs.map (D.int .i64))] g (Sort.ahead w m):=Sim.sameHeap hout rfl rfl rfl rfl (Nat.le_add_right _ _);have hwr:(putRow (Value.int .i64) (Sort.ahead w m) b 0 (ys++zs).toArray).heap[b]?=some (.cells (putCells (Value.int .i64) 0 (ys++zs).toArray cells) e (0,0)):=(by show((Sort.ahead w m).heap.modify b _)[b]?=_;rw[Vz,if_pos rfl,hbw];rfl);have hoth:∀b',b'≠b->(putRow (Value.int .i64) (Sort.ahead w m) b 0 (ys++zs).toArray).heap[b']?=(Sort.ahead w m).heap[b']?:=λb' hb'=>(by show((Sort.ahead w m).heap.modify b _)[b']?=_;rw[Vz,if_neg (λe=>hb' e.symm)]);have hsz:(putRow (Value.int .i64) (Sort.ahead w m) b 0 (ys++zs).toArray).heap.size=(Sort.ahead w m).heap.size:=(by show((Sort.ahead w m).heap.modify b _).size=_;simp);have hch:=Sim.change (i:=0) (b:=b) (B0:=.flat e 1 (xs.map (D.int .i64))) hahead rfl (λe=>by cases e) hb (w':=putRow (Value.int .i64) (Sort.ahead w m) b 0 (ys++zs).toArray) hsz rfl rfl rfl (oA _) hoth (B:=.flat e 1 (ys.map (D.int .i64))) (.inr ⟨b,_,hb,hwr,?_,?_,λk d hk=>?_,λk d j c hk hc=>?_,λk d j c hk hc=>?_⟩);exact Sim.grow hch 0 os;rw[hpsi,ck];rw[ck];simp only[yt,xK]at hlen⊢;omega;simp only[vV,Wd]at hk;obtain⟨x,_,rfl⟩:=hk;rfl;simp only[vV,Wd]at hk;obtain⟨x,_,rfl⟩:=hk;(cases j with|zero=>cases hc;rfl|succ j=>simp[D.cells]at hc);simp only[vV,Wd]at hk;obtain⟨x,hx,rfl⟩:=hk;have hk':=gJ hx;cases j with|succ j=>simp[D.cells]at hc|zero=>cases hc;have hx2:(ys++zs)[k]?=some x:=(by rw[kN,if_pos hk'];exact hx);have hk2:=gJ hx2;refine⟨.int .i64 x,?_,.int _ _⟩;rw[Bg,cg,K6 (Value.int .i64) 0 _ cells k aB,if_pos ⟨iF _,by simpa using hk2⟩,F8,getElem!_pos (ys++zs).toArray k (by simpa using hk2)];have:=(zQQ.1 hx2).2;simp only[List.getElem_toArray];rw[this]
def qUO(x y:Int):Option Int:=some (if x<y then -1 else if y<x then 1 else 0)
theorem Vj(x y:Int):Dj qUO x y=decide (x<y):=by unfold Dj qUO;simp only[sK];by_cases h:x<y;rw[if_pos h,decide_eq_true h];rfl;rw[if_neg h,decide_eq_false h];split<;>rfl
theorem qAU:SortOk qUO where
  tot x y:=⟨_,rfl⟩
  irrefl x:=by rw[Vj];simp
  trans x y z h1 h2:=qNK
  ntrans x y z h1 h2:=qNK
  anti x y h1 h2:=qNK
def uU(l:List Int):List Int:=tG qUO l
theorem qIX(l:List Int):(l.mergeSort λx y=>decide (x<=y))=uU l:=by have h:=N5 qAU l;have e:(λx y:Int=>!Dj qUO y x)=λx y=>decide (x<=y):=(by funext x y;rw[Vj];by_cases h:y<x;rw[decide_eq_true h,decide_eq_false aB];rfl;rw[decide_eq_false h,decide_eq_true aB];rfl);rw[e]at h;exact h
theorem sO(l:List Int):(uU l).length=l.length:=mV _
theorem qVA(e:TypeId)(mv:Nat->Bool)(xs:List Int)(hcbF:tR P F=true)(hlen:xs.length<4611686018427387904)(hnone:∀(p:Option Addr)(cap:Nat)(w:World),Calls P F #[.slice p 0 cap] w λe w'=>e=.returned (.tuple #[])/\w'=w)(hsort:∀(blk off cap:Nat)(zs:List Int)(w:World),Holds (Value.int .i64) w blk off zs.toArray->blk<w.heap.size->zs.length<4611686018427387904->Calls P F #[.slice (some ⟨blk,off,none⟩) zs.length cap] w λe w'=>e=.returned (.tuple #[])/\∃n os,w'=Sort.grow (putRow (Value.int .i64) (Sort.ahead w n) blk off (zs.mergeSort λx y=>decide (x<=y)).toArray) os):Ret P F [.flat e 1 (xs.map (D.int .i64))] mv [.msl 0 1 0 xs.length] (.tup []) [.flat e 1 ((uU xs).map (D.int .i64))]:=by refine⟨hcbF,λw g vs hout hargs=>?_⟩;obtain⟨v0,rfl⟩:∃v0,vs=#[v0]:=(by have hl:vs.size=1:=(by have:=hargs.1;simpa using this.symm);exact⟨vs[0],by apply Array.ext;simp[hl];intro i h1 h2;match i,h2 with|0,_=>rfl⟩);have h0:=hargs.2 0 _ _ rfl rfl;generalize hn:xs.length=n at h0;cases h0 with|msl0 _ _ _ ad=>have hxs:xs=[]:=x7 hn;subst hxs;refine(hnone ad 0 w).mono ?_;rintro e w' ⟨rfl,rfl⟩;exact⟨_,g,rfl,hout,.tup [] #[] rfl λi c v h=>nV⟩|msl _ _ _ _ cap b hb hc hpz=>subst hn;rw[F7];obtain⟨hH,hblt,_⟩:=Nm hout hb;refine(show Calls P F #[.slice (some ⟨b,0,none⟩) xs.length cap] w _ from hsort b 0 cap xs w hH hblt hlen).mono ?_;rintro e' w' ⟨rfl,m,os,rfl⟩;refine⟨_,g,rfl,?_,.tup [] #[] rfl λi c v h=>nV⟩;have:=qSF hout hb (uU xs) [] (by rw[kU,sO]) m os;rw[kU]at this;rw[qIX];exact this
theorem Yt(xs:List Int):(Lib.compact xs).length<=xs.length:=by unfold Lib.compact Lib.compactUpTo;rw[yt];exact eR (D0 _ _) aN
theorem qFD(e:TypeId)(mv:Nat->Bool)(xs:List Int)(hcbF:tR P F=true)(hlen:xs.length<=9223372036854775807)(hnone:∀(p:Option Addr)(cap:Nat)(w:World),Calls P F #[.slice p 0 cap] w λe w'=>e=.returned (.slice p 0 cap)/\w'=w)(hcomp:∀(blk off cap:Nat)(zs:List Int)(w:World),Holds (Value.int .i64) w blk off zs.toArray->zs.length<=9223372036854775807->zs.length<=cap->Calls P F #[.slice (some ⟨blk,off,none⟩) zs.length cap] w λe w'=>e=.returned (.slice (some ⟨blk,off,none⟩) (Lib.compact zs).length cap)/\∃q,w'=putRow (Value.int .i64) (Sort.ahead w q) blk off (Lib.compact zs++List.replicate (zs.length-(Lib.compact zs).length) 0).toArray):Ret P F [.flat e 1 (xs.map (D.int .i64))] mv [.msl 0 1 0 xs.length] (.msl 0 1 0 (Lib.compact xs).length) [.flat e 1 ((Lib.compact xs).map (D.int .i64))]:=by refine⟨hcbF,λw g vs hout hargs=>?_⟩;obtain⟨v0,rfl⟩:∃v0,vs=#[v0]:=(by have hl:vs.size=1:=(by have:=hargs.1;simpa using this.symm);exact⟨vs[0],by apply Array.ext;simp[hl];intro i h1 h2;match i,h2 with|0,_=>rfl⟩);have h0:=hargs.2 0 _ _ rfl rfl;generalize hn:xs.length=n at h0;cases h0 with|msl0 _ _ _ ad=>have hxs:xs=[]:=x7 hn;subst hxs;refine(hnone ad 0 w).mono ?_;rintro e w' ⟨rfl,rfl⟩;exact⟨_,g,rfl,hout,.msl0 _ _ _ _⟩|msl _ _ _ _ cap b hb hc hpz=>subst hn;rw[F7];obtain⟨hH,hblt,_⟩:=Nm hout hb;refine(show Calls P F #[.slice (some ⟨b,0,none⟩) xs.length cap] w _ from hcomp b 0 cap xs w hH hlen aB).mono ?_;rintro e' w' ⟨rfl,m,rfl⟩;have hcl:=Yt xs;refine⟨_,g,rfl,?_,?_⟩;have:=qSF hout hb (Lib.compact xs) (List.replicate (xs.length-(Lib.compact xs).length) 0) iK m #[];have hg:∀W:World,Sort.grow W #[]=W:=λW=>(by unfold Sort.grow;simp);rwa [hg]at this;have:=ARep.msl (w:=putRow (Value.int .i64) (Sort.ahead w m) b 0 (Lib.compact xs++List.replicate (xs.length-(Lib.compact xs).length) 0).toArray) (g:=g) 0 1 0 (Lib.compact xs).length cap b hb aB hpz;simpa using this
theorem w_mkD{T:Tab}{by':Nat}{a b:Operand}{z:Value}{zd:D}{n:Int}{x:α}(hT:TabOk C.P T)(hi:hp[i]?=some .hole)(ho:o.op=.makeSlice t a b)(hl:lk T.sel t=some (e,sz,by'))(hz:(C.P.info? e).bind (·.zero)=some z)(hzd:gP z=.d zd)(hzs:Nat.beq zd.cells.length sz=true)(ha:ev a=.d (.int .i64 n))(hb:ev b=.d (.int .i64 n))(hby:Nat.ble by' 100000=true)(hn:0<=n/\n<=1000000000)(hf:f x=zd):DOk C o ev hp (.msl i sz 0 (List.replicate n.toNat x).length) [(i,.flat e sz ((List.replicate n.toNat x).map f))]:=DOk.mk λst hhp hag g aa w hsim=>by have h1:=iP hby;obtain⟨m,rfl⟩:=yQ hn.1;have h2:m<=1000000000:=aB;have h3:by'*m<=100000*1000000000:=gm h1 h2;obtain⟨vs,hr,row⟩:=vw (st:=st) sz by' (m:Int) z zd ho (hT.sel hl) hz hzd (eU hzs) (by rw[hag a fN,ha]) (by rw[hag b fN,hb]) aB aB aB hsim;obtain⟨g',h4,h5⟩:=row.filled (ty:=e) hsim (K4 hi hhp) m aN;rw[Qz,hf];simp only[Vw,yP]at h4 h5⊢;exact⟨_,_,g',hr,h4,h5⟩
def toHole(hs:List Nat):AV->AV
  |.msl i s o l=>.msl (hs.getD i 0) s o l
  |.mptr i s x o=>.mptr (hs.getD i 0) s x o
  |.mmap i=>.mmap (hs.getD i 0)
  |.yld i=>.yld (hs.getD i 0)
  |.mmapN i n=>.mmapN (hs.getD i 0) n
  |v=>v
theorem qAN(hs:List Nat){f:Operand}{xs:Array Operand}{r r':AV}(hi:∀i∈hs,hp[i]?=some .hole)(hnd:hs.Nodup)(hl:Bs.length=hs.length)(ho:o.op=.call { callee:=.value f,args:=xs,argTypes:=ts })
    (hf:ev f=.d (.fn F)) (hx:Dq hp (xs.toList.map ev) ds) (hret:Ret C.P F [] mv (ds.map .d) r Bs) (hm:∀B∈Bs,qDA B) (hmr:AMem0 r) (hrr:r.mapRef (toHole hs)=r') (hBB:∀B∈Bs,B.mapRef (λ_=>.junk)=B):DOk C o ev hp r' (hs.zip Bs):=by
  intro st hhp hlen _ hag g a w hsim Q K' hK;have hih:∀i∈hs,st.hp[i]?=some .hole:=λi h=>K4 (hi i h) hhp;have hno:∀i∈hs,g.phi i=none:=λi h=>hsim.hp i _ (hih i h);have hil:∀i∈hs,i<st.hp.length:=λi h=>(zQQ.1 (hih i h)).1;have hfv:=hsim.ev f;rw[hag f C8,hf]at hfv
  have hx':Dq st.hp (xs.toList.map st.fr.ev) ds:=by
    refine⟨by have:=hx.1;simpa using this,λi x d hxi hd=>?_⟩;simp only[vV,Wd]at hxi;obtain⟨y,hy,rfl⟩:=hxi;rw[hag y qNQ];exact(hx.2 i (ev y) d ya hd).le hhp
  have hargs:=Zc hsim hx' (Y:=λb=>b<w.heap.size) hsim.Xlt λi b hp=>(hsim.lt i b hp).1;simp only[Oper.wp,kO ho (Nr hfv) hret.1,Oper.upon_enter,qAM];refine(hret.2 w (hU λb=>b<w.heap.size) _ (qKE hsim mv λ_ h=>h) hargs).mono ?_;rintro e w' ⟨v,g',rfl,hout,hr⟩;have hold:∀b,b<w.heap.size->w'.heap[b]?=w.heap[b]?:=λb hb=>hout.keep b hb λi hi=>absurd hi (xJ i);have hsz:=hout.grown;simp only at hsz
  have hnew:∀j b,g'.phi j=some b->w.heap.size<=b:=by
    intro j b hp;rcases fU b w.heap.size with hlt|hge
    exact absurd (hout.own j b hp hlt).1 (xJ _);exact hge
  let g2:Gh:={ phi:=λj=>match bI hs j with|some i=>g'.phi i|none=>g.phi j,psi:=λj=>match bI hs j with|some i=>g'.psi i|none=>g.psi j,X:=g.X }
  have hin:∀{j i:Nat},bI hs j=some i->j∈hs:=λh=>kK (dM hs _ _ h)
  have hgr:Grow w g w' g2:=by
    refine⟨λj b hp=>?_,λj b hp=>?_,λ_ h=>h,λb hb=>hold b (hsim.Xlt b hb)⟩
    cases hpl:bI hs j with
    |some i=>rw[hno j (hin hpl)]at hp;cases hp
    |none=>simpa[g2,hpl]using hp
    cases hpl:bI hs j with
    |some i=>rw[hno j (hin hpl)]at hp;cases hp
    |none=>simp[g2,hpl]
  have hphi:∀j b,g2.phi j=some b->(∃i,bI hs j=some i/\g'.phi i=some b)\/(bI hs j=none/\g.phi j=some b):=by
    intro j b hp
    cases hpl:bI hs j with
    |some i=>exact .inl ⟨i,rfl,by simpa[g2,hpl]using hp⟩
    |none=>exact .inr ⟨rfl,by simpa[g2,hpl]using hp⟩
  have hzl:∀p∈hs.zip Bs,p.1<st.hp.length:=λp hp=>hil _ (wv hp).1
  have hzn:((hs.zip Bs).map (·.1)).Nodup:=by
    rw[List.map_fst_zip aB];exact hnd
  have hwr:=λb=>We (hs.zip Bs) st.hp b hzl hzn
  have hget:∀{j i:Nat}{B:Blk},hs[i]?=some j->Bs[i]?=some B->(wr (hs.zip Bs) st.hp)[j]?=some B:=by
    intro j i B h1 h2;have:(hs.zip Bs)[i]?=some (j,B):=by rw[zal84q];exact⟨h1,h2⟩
    exact(hwr j).1 (j,B) (kK this) rfl
  have hgetN:∀{j:Nat},bI hs j=none->(wr (hs.zip Bs) st.hp)[j]?=st.hp[j]?:=by
    intro j hpl;refine(hwr j).2 λp hp e=>?_;obtain⟨i,hi⟩:=lO (wv hp).1;rw[e]at hi;exact Ck hpl i hi
  have hB:∀{j i:Nat}{B:Blk},bI hs j=some i->Bs[i]?=some B->BRep w' g2 j B:=by
    intro j i B hpl hBi;have h1:=BRep.any (Y:=λ_=>False) (hout.hp i B hBi) (hm B (kK hBi));have h2:=BRep.mapRef (g':=g2) (F:=λ_=>.junk) (j:=j) (by simp[g2,hpl]) (by simp[g2,hpl]) (λb hb=>False.elim hb) (λx v _ _=>.junk v) h1
    rwa [hBB B (kK hBi)]at h2
  have hBs:∀{j i:Nat},bI hs j=some i->∃B,Bs[i]?=some B:=by
    intro j i hpl;have:=(zQQ.1 (dM hs _ _ hpl)).1;exact⟨Bs[i]' aB,iG _⟩
  have hlw:(wr (hs.zip Bs) st.hp).length=st.hp.length:=Gg _ _;refine hK v w' g2 ?_ ?_;refine { defers := hsim.defers, size := hsim.size, fr := fun t => (hsim.fr t).mono hgr, hp := ?_, lt := ?_, inj := ?_, Xlt := ?_, Xold := hsim.Xold, os := hout.os.trans hsim.os, tape := hout.tape.trans hsim.tape, output := hout.output.trans hsim.output, drawn := eR hsim.drawn hout.drawn, grown := eR hsim.grown hsz, keep := ?_, own := ?_, stay := ?_, kle := ?_, laid := hsim.laid }
  · intro j B hj
    cases hpl:bI hs j with
    |some i=>
      obtain⟨B',hB'⟩:=hBs hpl;have:=hget (dM hs _ _ hpl) hB';simp only at hj;rw[this]at hj;cases hj;exact hB hpl hB'
    |none=>
      simp only at hj;rw[hgetN hpl]at hj;refine(hsim.hp j B hj).mono hgr (λhn=>by simpa[g2,hpl]using hn) λb hb=>hold b (hsim.lt j b hb).1
  intro j b hp;simp only[hlw];rcases hphi j b hp with⟨i,hpl,hp'⟩|⟨_,hp'⟩
  exact⟨(hout.lt i b hp').1,hil j (hin hpl),λhX=>by have:=hsim.Xlt b hX;have:=hnew i b hp';omega⟩;have:=hsim.lt j b hp';exact⟨aB,this.2.1,this.2.2⟩;intro j j' b Bj Bj' hBj hBj' hdj hdj' hj hj';simp only at hBj hBj';rcases hphi j b hj with⟨i,hpl,h1⟩|⟨hpl,h1⟩<;>rcases hphi j' b hj' with⟨i',hpl',h2⟩|⟨hpl',h2⟩
  obtain⟨B1,e1⟩:=hBs hpl;obtain⟨B2,e2⟩:=hBs hpl';rw[hget (dM hs _ _ hpl) e1]at hBj;rw[hget (dM hs _ _ hpl') e2]at hBj';cases hBj;cases hBj';have:=hout.inj i i' b _ _ e1 e2 hdj hdj' h1 h2;subst this;have h3:=dM hs _ _ hpl;rw[dM hs _ _ hpl']at h3;exact(bO h3).symm;have:=(hsim.lt _ _ h2).1;have:=hnew i b h1;omega;have:=(hsim.lt _ _ h1).1;have:=hnew i' b h2;omega;rw[hgetN hpl]at hBj;rw[hgetN hpl']at hBj';exact hsim.inj j j' b Bj Bj' hBj hBj' hdj hdj' h1 h2;intro b hX;have:=hsim.Xlt b hX;omega;intro b hb hk;rw[hold b (by have:=hsim.grown;omega)];exact hsim.keep b hb hk;intro j b hp hb;rcases hphi j b hp with⟨i,_,hp'⟩|⟨_,hp'⟩
  have:=hnew i b hp';have:=hsim.grown;omega;exact hsim.own j b hp' hb;intro j b hj hmj hp;have hst:=hsim.stay j b hj hmj hp
  have hpl:bI hs j=none:=by
    cases h:bI hs j with
    |none=>rfl
    |some i=>rw[hno j (hin h)]at hst;cases hst.2
  simpa[g2,hpl]using hst;simp only[hlw];exact hsim.kle;subst hrr;have h1:=ARep.any (Y:=g.X) hr hmr;refine ARep.mapRef (w:=w') (g:={ g' with X:=g.X }) (g':=g2) (λd v hd=>hd) (λx v hx hr=>?_) h1
  have hat:∀{id b:Nat},g'.phi id=some b->g2.phi (hs.getD id 0)=some b/\g2.psi (hs.getD id 0)=g'.psi id:=by
    intro id b hb;have hid:=(hout.lt id b hb).2.1;simp only at hid;have hlt:id<hs.length:=aB
    have hge:hs[id]?=some (hs.getD id 0):=by rw[fx,iG hlt];rfl
    have hpl:=I4 hnd hge;exact⟨by simp only[g2,hpl];exact hb,by simp only[g2,hpl]⟩
  cases hx with
  |msl0=>exact .msl0 _ _ _ _
  |msl id sz off len cap b hb hc hp=>exact .msl _ _ _ _ cap b (hat hb).1 hc (by rw[(hat hb).2];exact hp)
  |mptr id sz idx off b hb=>exact .mptr _ _ _ _ b (hat hb).1
  |mmap id b hb=>exact .mmap _ b (hat hb).1
  |yld id b hb=>exact .yld _ b (hat hb).1
  |mmapN0=>exact .mmapN0 _
  |mmapN id n b hb=>exact .mmapN _ _ b (hat hb).1
  |_=>cases hr
theorem yw(hs:List Nat){f:Operand}{xs:Array Operand}{r r':AV}(hi:∀i∈hs,hp[i]?=some .hole)(hnd:hs.Nodup)(hl:Bs.length=hs.length)(ho:o.op=.call { callee:=.value f,args:=xs,argTypes:=ts })(hf:ev f=.d (.fn F))(hx:xs.toList.map ev=ds.map .d)(hret:Ret C.P F [] mv (ds.map .d) r Bs)(hm:∀B∈Bs,qDA B)(hmr:AMem0 r)(hrr:r.mapRef (toHole hs)=r')(hBB:∀B∈Bs,B.mapRef (λ_=>.junk)=B):DOk C o ev hp r' (hs.zip Bs):=qAN hs hi hnd hl ho hf (by rw[hx];exact qM rfl) hret hm hmr hrr hBB
theorem Ed{T:Tab}{t:TypeId}{x y:Operand}{id off s:Nat}{bb:Bool}{bt:TypeId}{cs':List AV}{v:AV}(hT:TabOk C.P T)(ho:o.op=.store t x y)(hd:o.dst=none)(hl:lk T.lay t=some (bb,s))(hx:ev x=.mptr id 0 0 off)(hy:ev y=v)(hf:v.flat=true)(hs:Nat.beq v.cells.length s=true)(hb:hp[id]?=some (.box bt cs))(hc:Nat.ble (off+s) cs.length=true)(hv:spl cs off v.cells=cs'):DOk C o ev hp .junk [(id,.box bt cs')]:=qII ho hd (hT.lay hl) hx hy hf (eU hs) hb (iP hc) hv
end Go.TL
set_option linter.unusedVariables false
set_option linter.unusedSimpArgs false
namespace Go.TL
open Go.Sort Go.Proofs
variable {C:Ctx}
theorem dT{l:List AV}{ds ds':List D}(h:qTE l=some ds)(e:ds=ds'):qTE l=some ds':=e ▸ h
variable {K:St->Prop}{i n sz:Nat}{ids:List Nat}{l:List Oper}{ops:Array Oper}{α:Type}{f:α->D}{xs:List α}
theorem cE:([]:List D)=([]:List α).map f:=rfl
theorem aT{x:α}{d:D}{ds:List D}(h:f x=d)(t:ds=xs.map f):d::ds=(x::xs).map f:=by rw[iW,h,t]
theorem bU(h:∀x,(f x).cells.length=sz):((xs.map f).all λd=>Nat.beq d.cells.length sz)=true:=by rw[zQT];intro d hd;obtain⟨x,_,rfl⟩:=zal115q.1 hd;rw[h x];exact Nat.beq_refl sz
section rd
variable {T:Tab}{o:Oper}{ev:Operand->AV}{hp:List Blk}{α:Type}{f:α->D}{xs ys:List α}
variable {by' e sz t:Nat}
theorem qRK{a b:Operand}{k:IntKind}{i:Int}{x:α}{d:D}(hT:TabOk C.P T)(ho:o.op=.indexAddr t a b)(hl:lk T.sel t=some (e,sz,by'))(ha:ev a=.d (.sl sz (xs.map f)))(hb:ev b=.d (.int k i))(h:0<=i/\xs[i.toNat]?=some x)(hf:f x=d):RdOk C o ev hp (.d (.ptr d 0)):=hf ▸ lQ hT ho hl ha hb h
theorem eC{n:Nat}{parts:Array (Nat×Operand)}{z:Value}(l:List Operand)(hT:TabOk C.P T)(ho:o.op=.buildSlice t n parts)(hl:lk T.sel t=some (e,sz,by'))(hz:(C.P.info? e).bind (·.zero)=some z)(hp':vD parts l)(hx:qTE (l.map ev)=some (xs.map f))(hn:Nat.beq (xs.map f).length n=true)(hs:((xs.map f).all λd=>Nat.beq d.cells.length sz)=true)(hsmall:Nat.ble (n*sz) 16777216=true):RdOk C o ev hp (.d (.sl sz (xs.map f))):=rJ l hT ho hl hz hp' hx hn hs hsmall
end rd
variable {P:Program}{C:Ctx}{o:Oper}{ev:Operand->AV}{hp:List Blk}{t t':TypeId}{x y:Operand}
theorem Jw{a b:ByteArray}(ho:o.op=.binOp .add t x y t')(hx:ev x=.d (.str a))(hy:ev y=.d (.str b))(hs:a.size+b.size<=9223372036854775807):RdOk C o ev hp (.d (.str (a++b))):=RdOk.mk λst hhp hag g a' w hs'=>by have h:=hs'.ev x;rw[hag x fN,hx]at h;have hi:=hs'.ev y;rw[hag y fN,hy]at hi;refine⟨.string (a++b),?_,.d _ _ (.str _)⟩;have e:¬((a.size+b.size:Nat):Int) > IntKind.i64.max:=(by have:IntKind.i64.max=9223372036854775807:=aP;omega);simp only[execOp,ho,str_inv h,str_inv hi];simp[eqGuard,binOp,Op.stringOp,e];omega
theorem qRM{xt t':TypeId}{d:D}(ho:o.op=.typeAssert x xt t true)(hc:Nt C.P t=true)(hx:ev x=.d (.iface t' d))(h:t'=t):RdOk C o ev hp (.tup [.d d,.d (.bool true)]):=by subst h;exact Kc ho hc hx
theorem qRN{xt t':TypeId}{d:D}{z:Value}{zd:D}(ho:o.op=.typeAssert x xt t true)(hc:Nt C.P t=true)(hx:ev x=.d (.iface t' d))(h:¬t'=t)(hz:(C.P.info? t).bind (·.zero)=some z)(hzd:gP z=.d zd):RdOk C o ev hp (.tup [.d zd,.d (.bool false)]):=qJT ho hc hx (by cases e:Nat.beq t' t with|false=>rfl|true=>exact absurd (eU e) h) hz hzd
theorem Lr{m:Nat}(h:i<ids.length):back ids n i=back ids m i:=by unfold back;rw[iG h]
theorem E3{j:Nat}(h:bI ids i=some j):j<ids.length:=(zQQ.1 (dM ids i j h)).1
mutual
theorem K9(ids:List Nat)(n m:Nat):∀v:AV,AV.mapRef (fwd ids n) (AV.mapRef (toName (bI ids)) v)=AV.mapRef (fwd ids m) (AV.mapRef (toName (bI ids)) v)
  |.junk=>rfl
  |.und=>rfl
  |.d x=>rfl
  |.msl i s o l=>by
    simp only[AV.mapRef,toName]
    cases h:bI ids i with
    |none=>rfl
    |some j=>simp only[AV.mapRef,fwd,Lr (n:=n) (m:=m) (E3 h)]
  |.mptr i s x o=>by
    simp only[AV.mapRef,toName]
    cases h:bI ids i with
    |none=>rfl
    |some j=>simp only[AV.mapRef,fwd,Lr (n:=n) (m:=m) (E3 h)]
  |.mmap i=>by
    simp only[AV.mapRef,toName]
    cases h:bI ids i with
    |none=>rfl
    |some j=>simp only[AV.mapRef,fwd,Lr (n:=n) (m:=m) (E3 h)]
  |.yld i=>by
    simp only[AV.mapRef,toName]
    cases h:bI ids i with
    |none=>rfl
    |some j=>simp only[AV.mapRef,fwd,Lr (n:=n) (m:=m) (E3 h)]
  |.mmapN i q=>by
    simp only[AV.mapRef,toName]
    cases h:bI ids i with
    |none=>rfl
    |some j=>simp only[AV.mapRef,fwd,Lr (n:=n) (m:=m) (E3 h)]
  |.agg cs=>qNN
  |.tup cs=>qNN
  |.fnc f cs=>qNN
  |.ifc t c=>by simp only[AV.mapRef,K9 ids n m c]
theorem Nn(ids:List Nat)(n m:Nat):∀cs:List AV,AV.mapRefs (fwd ids n) (AV.mapRefs (toName (bI ids)) cs)=AV.mapRefs (fwd ids m) (AV.mapRefs (toName (bI ids)) cs)
  |[]=>rfl
  |c::r=>by simp only[AV.mapRefs,K9 ids n m c,Nn ids n m r]
end
theorem fwd_fr(ids:List Nat)(n m:Nat):∀fr:Fr,Fr.mapRef (fwd ids n) (Fr.mapRef (toName (bI ids)) fr)=Fr.mapRef (fwd ids m) (Fr.mapRef (toName (bI ids)) fr)
  |[]=>rfl
  |(t,v)::r=>by simp only[Fr.mapRef,K9 ids n m v,fwd_fr ids n m r]
theorem fwd_blk(ids:List Nat)(n m:Nat)(B:Blk):Blk.mapRef (fwd ids n) (Blk.mapRef (toName (bI ids)) B)=Blk.mapRef (fwd ids m) (Blk.mapRef (toName (bI ids)) B):=by cases B with|box ty cs=>simp only[Blk.mapRef,Nn ids n m cs]|lp=>simp only[Blk.mapRef,fwd_fr ids n m]|mapv kt vt es=>simp only[Blk.mapRef,Gc,Function.comp_def,K9 ids n m]|_=>rfl
def qHM(ids:List Nat)(hp:List Blk):Prop:=∀j∈ids,((hp.getD j .dead).mapRef (toName (bI ids))).mapRef (fwd ids 0)=hp.getD j .dead
theorem qLT{hp st:List Blk}(hnd:ids.Nodup)(hal:∀j∈ids,dV hp j=true)(hle:HpLe hp st)(hcl:qHM ids hp):wJ ids st (vQ ids st)=st:=by apply uS;intro j;have hlen:(vQ ids st).length=ids.length:=(by simp[vQ]);by_cases hj:j<st.length;unfold wJ;rw[Bb Mh,vV,Vx];rw[iG hj];simp only[jB,iO];(cases hp':bI ids j with|none=>rfl|some i=>simp only;have hi:=dM ids j i hp';have hmem:j∈ids:=kK hi;obtain⟨B,hB,hd⟩:=nK (hal j hmem);have hB':=hle j B hB hd;have e:(vQ ids st).getD i .dead=B.mapRef (toName (bI ids)):=(by unfold vQ;rw[fx,vV,hi];simp[fx,hB']);have hc:=hcl j hmem;rw[fx,hB]at hc;rw[e,fwd_blk ids st.length 0];have:st[j]=B:=(by rw[iG hj]at hB';exact bO hB');rw[this];exact congrArg some hc);rw[nB (by rw[yl,hlen];omega),zLn]
theorem hand_le{hp st:List Blk}(hal:∀j∈ids,dV hp j=true)(hle:HpLe hp st):vQ ids st=vQ ids hp:=by unfold vQ;apply List.map_congr_left;intro j hj;obtain⟨B,hB,hd⟩:=nK (hal j hj);rw[fx,fx,hB,hle j B hB hd]
theorem dX{f:Operand}{xs:Array Operand}{ts:Array TypeId}{F:FuncId}{c:AV}{cs:List AV}(ids:List Nat){args:List AV}{r:AV}{hh:List Blk}(hrr:r.isRef=false/\AV.mapRef (fwd ids 0) r=r/\(∀n,AV.mapRef (fwd ids n) r=AV.mapRef (fwd ids 0) r))(ho:o.op=.call { callee:=.value f,args:=xs,argTypes:=ts })
    (hf:ev f=c) (hc:zy c=some (F,cs)) (hnd:ids.Nodup) (hal:(ids.all λj=>dV hp j)=true) (hcl:qHM ids hp) (hx:((xs.toList.map ev)++cs).map (AV.mapRef (toName (bI ids)))=args) (hhd:vQ ids hp=hh) (hret:Ret C.P F hh (λ_=>false) args r hh):RdOk C o ev hp r:=by
  intro st hhp hag g a w hs Q K' hK;have hfv:=hs.ev f;rw[hag f C8,hf]at hfv;obtain⟨vs,hv,hvs⟩:=Ln hfv hc;have hal':∀j∈ids,dV hp j=true:=λj hj=>zQT.1 hal j hj
  have hals:∀j∈ids,dV st.hp j=true:=λj hj=>by
    obtain⟨B,hB,hd⟩:=nK (hal' j hj);have h1:=hal' j hj;unfold dV at h1⊢;rw[fx,hB]at h1;rw[fx,hhp j B hB hd];exact h1
  have he:=hand_le (st:=st.hp) hal' hhp
  have hf':∀i j,bI ids i=some j->(g.canon ids).phi j=g.phi i/\(g.canon ids).psi j=g.psi i:=by
    intro i j hij;have:=dM ids i j hij;simp[Gh.canon,this]
  have hargs:Pw (ARep w (g.canon ids)) args (xs.map a.eval++vs).toList:=by
    rw[<- hx,Me,gS];refine Pw.append ⟨aN,λi x v hxi hvi=>?_⟩ ⟨by simpa using hvs.1,λi x v hxi hvi=>?_⟩;simp only[Gc,vV,Wd]at hxi;simp only[fb,vV,Wd]at hvi;obtain⟨y,hy,rfl⟩:=hxi;obtain⟨z,hz,rfl⟩:=hvi;rw[hy]at hz;cases hz;have hy':st.fr.ev y=ev y:=hag y qNQ;have:=ARep.mapRef (w:=w) (g:=g) (g':=g.canon ids) (λd v hd=>hd) (ARep.toName hf' λ_ hb=>hb) (hs.ev y);rw[hy']at this;exact this;simp only[vV,Wd]at hxi;obtain⟨d,hd',rfl⟩:=hxi;exact ARep.mapRef (w:=w) (g:=g) (g':=g.canon ids) (λd v hd=>hd) (ARep.toName hf' λ_ hb=>hb) (hvs.2 i d v hd' hvi)
  simp only[Oper.wp,kO ho hv hret.1,Oper.upon_enter];have hh':vQ ids st.hp=hh:=he.trans hhd;have hret2:=hret;rw[<- hh']at hret2;refine(hret2.2 w (g.canon ids) _ (hs.handed hnd) hargs).mono ?_;rintro e w' ⟨v,g',rfl,hout,hr⟩;have hb:=hs.back hnd hals hout;rw[qLT hnd hal' hhp hcl]at hb;refine hK v w' _ hb ?_;have hlt:∀j∈ids,j<st.hp.length:=λj hj=>by obtain⟨B,hB,_⟩:=nK (hals j hj);exact(gJ hB)
  have:=ARep.mapRef (w:=w') (g:=g') (g':=g.back ids st.hp.length w.heap.size g') (F:=fwd ids st.hp.length) (λd v hd=>hd.mono (λb hb=>by
    by_cases hlt':b<w.heap.size;exact .inl (hout.Xold b hb hlt')
    exact .inr ⟨aB,hb⟩) λ_ _=>rfl) (λx v hx hr=>hx.fwd hnd hlt hr) hr
  rw[hrr.2.2,hrr.2.1]at this;exact this
theorem cN{hp:List Blk}(h:(ids.map λj=>((hp.getD j .dead).mapRef (toName (bI ids))).mapRef (fwd ids 0))=ids.map λj=>hp.getD j .dead):qHM ids hp:=λj hj=>List.map_inj_left.1 h j hj
theorem x_ixv{e:TypeId}{k:IntKind}{i:Int}{z:α}(ho:o.op=.index t x y)(hu:C.P.underlying t=some (.array n e))(hl:lay C.P e=some (false,1))(hx:ev x=.d (.agg (xs.map f)))(hy:ev y=.d (.int k i))(h:0<=i/\xs[i.toNat]?=some z)(hn:Nat.beq n xs.length=true):RdOk C o ev hp (.d (f z)):=RdOk.mk λst hhp hag g a w hs=>by have hv:=hs.ev x;rw[hag x fN,hx]at hv;have hi:=hs.ev y;rw[hag y fN,hy]at hi;generalize he:a.eval x=vx at *;have hlt:=gJ h.2;have hn':=eU hn;obtain⟨h1,h2⟩:=gz hl w;cases hv with|d _ _ hd=>cases hd with|agg cs vs hlen hone hrep=>have hsz:i.toNat<vs.size:=(by rw[<- hlen,yt];exact hlt);refine⟨vs[i.toNat],?_,.d _ _ (hrep i.toNat (f z) _ (by rw[vV,h.2];rfl) (Jn hsz))⟩;have hi2:i<(n:Int):=aB;simp only[execOp,ho,he,int_inv hi];simp[Instr.index,run_underlying hu,asIntOf,h.1,hi2,part,h1,h2,Jn hsz]
theorem w_stoF{T:Tab}{s id idx off bt:Nat}{b:Bool}{z z':α}{v:D}(hT:TabOk C.P T)(ho:o.op=.store t x y)(hd:o.dst=none)(hl:lk T.lay t=some (b,s))(ha:ev x=.mptr id sz idx off)(hy:ev y=.d v)(hs:Nat.beq v.cells.length s=true)(hb:hp[id]?=some (.flat bt sz (xs.map f)))(hx:xs[idx]?=some z)(hone:((!(f z).one)||v.one)=true)(hle:Nat.ble (off+s) (f z).cells.length=true)(hu:(f z).upd off v=f z'):DOk C o ev hp .junk [(id,.flat bt sz ((xs.set idx z').map f))]:=by rw[List.map_set];refine qEI ho hd (hT.lay hl) ha hy (eU hs) hb (qQG hx) ?_ (iP hle) hu;simp only[lP,gH]at hone;exact hone
theorem s_frzO{fr fr':Fr}{hp hp':List Blk}(t i:Nat)(ks:List Nat)(hk:Nat.ble C.k i=true)(hks:((List.range C.k).all (dV hp))=true)(hal:dV hp i=true){ty:Nat}{es:List D}(ht:fr.get t=.msl i sz 0 n)(hb:hp[i]?=some (.flat ty sz es))(hn:n=es.length)(hf:Fr.mapRef (Vn i (.flat ty sz es) (dV hp)) (Fr.keep ks fr)=fr')(hh:(hp.map (Blk.mapRef (Vn i (.flat ty sz es) (dV hp)))).set i .dead=hp')(h:cP C ops l ⟨(t,.d (.sl sz es))::fr',hp'⟩ K):cP C ops l ⟨fr,hp⟩ K:=by have hB:hp.getD i .dead=.flat ty sz es:=(by rw[fx,hb];rfl);intro g a w hs;obtain⟨g',hs'⟩:=hs.freeze i (iP hk) hal (λj hj=>zQT.1 hks j (zal120q.2 hj));subst hf hh;refine h g' a w ?_;simp only[St.freeze,hB]at hs';refine{ hs' with fr:=λu=>?_ };have hu:=hs'.fr u;simp only[Fr.get];split;rename_i e;subst e;rw[Fr.get_mapRef,ht]at hu;simp only[AV.mapRef,Vn,if_true]at hu;rw[if_pos ⟨trivial,aB⟩]at hu;subst hn;simpa using hu;rw[Fr.get_mapRef];rcases Fr.get_keep fr ks u with e|e;rw[e,<- Fr.get_mapRef];exact hu;rw[e];exact .junk _
theorem Vo{fr:Fr}{hp:List Blk}{acc:List Rec}{o oq:Oper}(q dq:Nat)(h:cP C ops (o::l) ⟨fr,hp⟩ K)(h2:cP C ops (o::oq::l) ⟨(dq,.junk)::fr,hp⟩ K)(hq:ops.toList[q]?=some oq)(hdq:(acc.map Rec.d)[q]?=some dq)(hws:(acc.map yE)[q]?.map (·.2)=some [])(hE:Lg q ops.toList acc.length (acc.map Rec.d) (acc.map yE)=true):TDr C ops K (o::l) fr hp acc:=.tailq q o oq l fr hp acc dq hE hq hdq hws h h2
end Go.TL
set_option linter.unusedVariables false
set_option linter.unusedSimpArgs false
set_option linter.unusedSectionVars false
namespace Go.TL
open Go.Sort Go.Proofs
variable {P:Program}{C:Ctx}{st:St}{g:Gh}{a:Act}{w:World}
def zn(ks:List TypeDesc)(k:D):Prop:=∃cs L,k=.agg cs/\uM cs=some L/\nX ks L
def vl:D->Value
  |.agg cs=>.agg (((uM cs).getD []).map jV).toArray
  |_=>undef
theorem G0{cs:List D}{L:List Lit}(h:uM cs=some L):vl (.agg cs)=.agg (L.map jV).toArray:=by show Value.agg (((uM cs).getD []).map jV).toArray=_;rw[h];rfl
theorem litD_inj{c d:D}{x:Lit}(h:qLC c=some x)(h':qLC d=some x):c=d:=by have e:qLC c=qLC d:=h.trans h'.symm;have n:qLC c≠none:=(by rw[h];simp);clear h h';(cases c<;>first|exact absurd rfl n|(cases d<;>simp only[qLC,jA,reduceCtorEq,Lit.bool.injEq,Lit.int.injEq,Lit.string.injEq]at e));rw[e];rw[e.1,e.2];congr 1;exact ByteArray.ext (Array.ext' e)
theorem qBT:∀{cs ds:List D}{L:List Lit},uM cs=some L->uM ds=some L->cs=ds
  |[],[],L,h,h'=>rfl
  |[],d::ds,L,h,h'=>by
    cases h;simp only[uM]at h';split at h'<;>cases h'
  |c::cs,[],L,h,h'=>by
    cases h';simp only[uM]at h;split at h<;>cases h
  |c::cs,d::ds,L,h,h'=>by
    simp only[uM]at h h';split at h;rename_i x xs hx hxs;cases h;split at h';rename_i y ys hy hys;simp only[jA,jJ]at h';obtain⟨rfl,rfl⟩:=h';rw[litD_inj hx hy,qBT hxs hys];cases h';cases h
theorem qPS{k:TypeDesc}{x y:Lit}(hx:qBU k x)(hy:qBU k y)(h:jV x=jV y):x=y:=by cases k<;>cases x<;>simp only[qBU]at hx<;>cases y<;>simp only[qBU]at hy<;>simp only[jV]at h;cases h;rfl;simp only[Value.int.injEq]at h;rw[h.1,h.2];rename_i bs cs;simp only[Value.string.injEq,ByteArray.mk.injEq]at h;have:=congrArg Array.toList h;simp at this;rw[this]
theorem qLB:∀{ks:List TypeDesc}{L M:List Lit},nX ks L->nX ks M->L.map jV=M.map jV->L=M
  |[],[],[],_,_,_=>rfl
  |k::ks,x::xs,y::ys,h,h',e=>by
    simp only[iW,jJ]at e;rw[qPS h.1 h'.1 e.1,qLB h.2 h'.2 e.2]
  |[],_::_,_,h,_,_=>h.elim
  |[],[],_::_,_,h,_=>h.elim
  |_::_,[],_,h,_,_=>h.elim
  |_::_,_::_,[],_,h,_=>h.elim
variable {F:FuncId}{K:St->Prop}{after:Array Edge}{cs:List AV}{f:Operand}{fr:Fr}{hp hp':List Blk}{i j:Nat}{ks:List TypeDesc}{l:List Oper}{mv:Nat->Bool}{ops:Array Oper}{pos:String}{ts:Array TypeId}{ty:TypeId}{xs:Array Operand}
theorem Fm{k:D}(hk:zn ks k){X:Nat->Prop}{v:Value}(h:DRep w X k v):v=vl k:=by obtain⟨cs,L,rfl,hl,ho⟩:=hk;cases h with|agg _ vs hlen _ h=>have:=Gx cs L vs.toList hl ⟨V5,λi x y hx hy=>h i x y hx yR⟩;rw[G0 hl,<- this]
theorem qLK{k k':D}(hk:zn ks k)(hk':zn ks k')(h:vl k=vl k'):k=k':=by obtain⟨cs,L,rfl,hl,ho⟩:=hk;obtain⟨ds,M,rfl,hm,hp⟩:=hk';rw[G0 hl,G0 hm]at h;simp only[Value.agg.injEq]at h;have e:L.map jV=M.map jV:=(by have:=congrArg Array.toList h;simpa using this);have:=qLB ho hp e;subst this;rw[qBT hl hm]
structure SKey (P:Program) (kt:TypeId) (ks:List TypeDesc):Prop where
  law:WideMaps.KeyLaw P kt
  of:∀k,zn ks k->∃l,keyOf P kt (vl k)=some l
theorem sKey{kt:TypeId}(m:Nat)(hm:m+1<=10000)(hk:(P.keyTypeAt m kt&&P.tiled m kt&&P.keyType kt&&(match P.underlying kt with|some (.struct _)=>true|_=>false)&&ks.length == P.cellsOf kt)=true)(hks:Dl P (P.types.size+1) kt=some ks):SKey P kt ks:=by simp only[pQ,beq_iff_eq]at hk;obtain⟨⟨⟨⟨h1,h2⟩,h3⟩,h4⟩,h5⟩:=hk;refine⟨deep_law hm h1 h2 (by split at h4<;>simp_all),λk hk=>?_⟩;obtain⟨cs,L,rfl,hl,ho⟩:=hk;have hlen:=tS ho;have hv:=G0 hl;have hf:Value.formed P kt (.agg (L.map jV).toArray)=true:=(by split at h4;rename_i hu;simp[Value.formed,hu];omega;cases h4);have hkl:=vm (P.types.size+1) kt ks L hks ho;rw[hv];unfold keyOf;split at h4;rename_i hu;rw[hu];dsimp only;rw[h3,hf];refine⟨.string (keyBytes L),?_⟩;simp[Value.cells,hkl];cases h4
theorem qVP{α:Type}{l:List α}(hn:l.Nodup){x:α}(hi:l[i]?=some x)(hj:l[j]?=some x):i=j:=by obtain⟨h1,h1'⟩:=zQQ.1 hi;obtain⟨h2,h2'⟩:=zQQ.1 hj;exact(List.getElem_inj hn).1 (h1'.trans h2'.symm)
section find
variable {kt:TypeId}{ks:List TypeDesc}{k:D}{es:List (D×D)}{ents:Array MapEntry}
variable {X:Nat->Prop}
theorem qCJ(S:SKey P kt ks)(hE:kq w X es ents)(hks:∀e∈es,zn ks e.1):∀x∈ents.toList,∃l,keyOf P kt x.key=some l:=by intro x hx;obtain⟨i,hi⟩:=lO hx;have hi':ents[i]?=some x:=Io;have hlt:i<es.length:=(by rw[<- hE.1];exact(zal5q.1 hi').1);have hk:=hks es[i] (fV hlt);rw[Fm hk (hE.2 i es[i] x bf hi').1];exact S.of _ hk
theorem qLZ(S:SKey P kt ks)(hE:kq w X es ents)(hks:∀e∈es,zn ks e.1)(hk:zn ks k)(hne:∀e∈es,e.1≠k):(Instr.findKey kt (vl k) ents.toList).run P w=.ok none w:=by obtain⟨l,hl⟩:=S.of k hk;rcases S.law.find w hl ents.toList (qCJ S hE hks)with⟨h1,_⟩|⟨j,e,_,h2,h3⟩;exact h1;exfalso;have hj:ents[j]?=some e:=yc;have hlt:j<es.length:=(by rw[<- hE.1];exact(zal5q.1 hj).1);have hmem:=fV hlt;have:=Fm (hks es[j] hmem) (hE.2 j es[j] e bf hj).1;exact hne _ hmem (qLK (hks _ hmem) hk (by rw[<- this,h3]))
theorem qCI(S:SKey P kt ks)(hE:kq w X es ents)(hks:∀e∈es,zn ks e.1)(hnd:(es.map (·.1)).Nodup){j:Nat}{v:D}(hj:es[j]?=some (k,v)):∃e,ents[j]?=some e/\e.key=vl k/\DRep w X v e.val/\(Instr.findKey kt (vl k) ents.toList).run P w=.ok (some (j,e.val)) w:=by have hjl:=gJ hj;have hk:zn ks k:=hks (k,v) (kK hj);have hjs:j<ents.size:=(by rw[hE.1];exact hjl);have he:ents[j]?=some ents[j]:=(by simp[hjs]);have hr:=hE.2 j (k,v) ents[j] hj he;have hkey:=Fm hk hr.1;obtain⟨l,hl⟩:=S.of k hk;rcases S.law.find w hl ents.toList (qCJ S hE hks)with⟨_,h2⟩|⟨j',e',h1,h2,h3⟩;exact absurd hkey (h2 ents[j] aN);have hj':ents[j']?=some e':=yc;have hlt:j'<es.length:=(by rw[<- hE.1];exact(zal5q.1 hj').1);have hmem:=fV hlt;have h4:=Fm (hks es[j'] hmem) (hE.2 j' es[j'] e' bf hj').1;have h5:es[j'].1=k:=qLK (hks _ hmem) hk (by rw[<- h4,h3]);have h6:j'=j:=qVP (x:=k) hnd (by simp[hlt,h5]) (by simp[hj]);subst h6;rw[he]at hj';cases hj';exact⟨_,he,hkey,hr.2,sN⟩
end find
section look
variable {o:Oper}{ev:Operand->AV}{hp:List Blk}{x y:Operand}{t kt et kt' et':TypeId}{d:TypeDesc}{id:Nat}{es:List (D×D)}{k v zd:D}{z:Value}{ks:List TypeDesc}
theorem Cu(hs:Sim C st g a w)(hx:st.fr.ev x=.mmap id)(hb:st.hp[id]?=some (.map kt' et' es))(hy:st.fr.ev y=.d k)(hk:zn ks k):∃b ents clock,g.phi id=some b/\a.eval x=.map (some b)/\w.heap[b]?=some (.map ents clock)/\kq w g.X es ents/\a.eval y=vl k:=by have h1:=hs.ev x;rw[hx]at h1;obtain⟨b,hp,he⟩:=qKQ h1;rcases hs.hp id _ hb with⟨_,hp'⟩|⟨b',ents,clock,hp',hw,hsz,hr⟩<;>cases hp.symm.trans hp';have h2:=hs.ev y;rw[hy]at h2;have h3:DRep w g.X k (a.eval y):=(by cases h2 with|d _ _ h=>exact h);exact⟨b,ents,clock,hp,he,hw,⟨hsz,hr⟩,Fm hk h3⟩
theorem qFG{j:Nat}(S:SKey C.P kt ks)(ho:o.op=.lookup t x y true)(hl:Vh C.P t=some (kt,d,et))(hx:ev x=.mmap id)(hb:hp[id]?=some (.map kt' et' es))(hy:ev y=.d k)(hks:∀e∈es,zn ks e.1)(hnd:(es.map (·.1)).Nodup)(hj:es[j]?=some (k,v)):RdOk C o ev hp (.tup [.d v,.d (.bool true)]):=RdOk.mk λst hhp hag g a w hs=>by have hk:zn ks k:=hks (k,v) (kK hj);obtain⟨b,ents,clock,hp',hex,hw,hE,hey⟩:=Cu hs (by rw[hag x fN,hx]) (hhp id _ hb λe=>by cases e) (by rw[hag y fN,hy]) hk;obtain⟨e,_,_,hv,hf⟩:=qCI S hE hks hnd hj;obtain⟨hu,hd⟩:=xi hl;obtain⟨l,hkl⟩:=S.of k hk;refine⟨.tuple #[e.val,.bool true],?_,.tup _ _ rfl λi c v hc hv'=>?_⟩;simp only[execOp,ho,hex,hey];simp[Instr.lookup,run_underlying hu,MapKept.run_getObj_map hw,S.law.check w _ hkl,hf,Result.andThen];match i,hc,hv' with|0,hc,hv'=>simp at hc hv';subst hc hv';exact .d _ _ hv|1,hc,hv'=>simp at hc hv';subst hc hv';exact .d _ _ (.bool true)|i+2,hc,_=>simp at hc
theorem qJO(S:SKey C.P kt ks)(ho:o.op=.lookup t x y true)(hl:Vh C.P t=some (kt,d,et))(hz:(C.P.info? et).bind (·.zero)=some z)(hzd:gP z=.d zd)(hx:ev x=.mmap id)(hb:hp[id]?=some (.map kt' et' es))(hy:ev y=.d k)(hk:zn ks k)(hks:∀e∈es,zn ks e.1)(hne:∀e∈es,e.1≠k):RdOk C o ev hp (.tup [.d zd,.d (.bool false)]):=RdOk.mk λst hhp hag g a w hs=>by obtain⟨b,ents,clock,hp',hex,hw,hE,hey⟩:=Cu hs (by rw[hag x fN,hx]) (hhp id _ hb λe=>by cases e) (by rw[hag y fN,hy]) hk;have hf:=qLZ S hE hks hk hne;obtain⟨hu,hd⟩:=xi hl;obtain⟨l,hkl⟩:=S.of k hk;refine⟨.tuple #[z,.bool false],?_,.tup _ _ rfl λi c v hc hv'=>?_⟩;simp only[execOp,ho,hex,hey];simp[Instr.lookup,run_underlying hu,MapKept.run_getObj_map hw,S.law.check w _ hkl,hf,yf hz,Result.andThen];match i,hc,hv' with|0,hc,hv'=>simp at hc hv';subst hc hv';rw[<- hzd];exact oY w g _|1,hc,hv'=>simp at hc hv';subst hc hv';exact .d _ _ (.bool false)|i+2,hc,_=>simp at hc
end look
section upd
variable {o:Oper}{K:St->Prop}{x y u:Operand}{t kt et kt' et':TypeId}{d:TypeDesc}{id:Nat}{es:List (D×D)}{k v:D}{ks:List TypeDesc}
theorem Oi(S:SKey C.P kt ks)(ho:o.op=.mapUpdate t x y u)(hd:o.dst=none)(hl:Vh C.P t=some (kt,d,et))(hx:st.fr.ev x=.mmap id)(hb:st.hp[id]?=some (.map kt' et' es))(hy:st.fr.ev y=.d k)(hu:st.fr.ev u=.d v)(hk:zn ks k)(hks:∀e∈es,zn ks e.1)(hne:∀e∈es,e.1≠k)(hK:K ⟨st.fr,st.hp.set id (.map kt' et' (es++[(k,v)]))⟩):OpOk C o st K:=OpOk.skip λg a w hs=>by obtain⟨b,ents,clock,hp,hex,hw,hE,hey⟩:=Cu hs hx hb hy hk;have hf:=qLZ S hE hks hk hne;obtain⟨hu',hd'⟩:=xi hl;obtain⟨l,hkl⟩:=S.of k hk;have hv:=hs.ev u;rw[hu]at hv;have hv':DRep w g.X v (a.eval u):=(by cases hv with|d _ _ h=>exact h);have hkd:=hs.ev y;rw[hy,hey]at hkd;have hkd':DRep w g.X k (vl k):=(by cases hkd with|d _ _ h=>exact h);refine⟨{ w with heap:=w.heap.setIfInBounds b (.map (ents.push { key:=vl k,val:=a.eval u,born:=clock }) (clock+1)) },?_,_,g,hK,?_⟩;simp only[execOp,ho,hex,hey];simp[Instr.mapUpdate,run_underlying hu',MapKept.run_getObj_map hw,S.law.check w _ hkl,hf,MapKept.run_setObj_map _ hw,Result.andThen];rw[hd];refine Ct hs hp hb hw ⟨by simp[hE.1],λj e m he hm=>?_⟩;rw[kN]at he;rw[Array.getElem?_push]at hm;split at he;rename_i hlt;rw[if_neg (by rw[hE.1];omega)]at hm;exact hE.2 j e m he hm;rename_i hge;have hj:j=es.length:=(by rcases fU (j-es.length) 1 with h1|h1;omega;rw[nB sN]at he;cases he);subst hj;rw[if_pos hE.1.symm]at hm;simp at he hm;subst he hm;exact⟨hkd',hv'⟩
theorem Xq{j:Nat}{v0:D}(S:SKey C.P kt ks)(ho:o.op=.mapUpdate t x y u)(hd:o.dst=none)(hl:Vh C.P t=some (kt,d,et))(hx:st.fr.ev x=.mmap id)(hb:st.hp[id]?=some (.map kt' et' es))(hy:st.fr.ev y=.d k)(hu:st.fr.ev u=.d v)(hks:∀e∈es,zn ks e.1)(hnd:(es.map (·.1)).Nodup)(hj:es[j]?=some (k,v0))(hK:K ⟨st.fr,st.hp.set id (.map kt' et' (es.set j (k,v)))⟩):OpOk C o st K:=OpOk.skip λg a w hs=>by have hk:zn ks k:=hks (k,v0) (kK hj);obtain⟨b,ents,clock,hp,hex,hw,hE,hey⟩:=Cu hs hx hb hy hk;obtain⟨e0,he0,hek,_,hf⟩:=qCI S hE hks hnd hj;obtain⟨hu',hd'⟩:=xi hl;obtain⟨l,hkl⟩:=S.of k hk;have hv:=hs.ev u;rw[hu]at hv;have hv':DRep w g.X v (a.eval u):=(by cases hv with|d _ _ h=>exact h);have hkd:=hs.ev y;rw[hy,hey]at hkd;have hkd':DRep w g.X k (vl k):=(by cases hkd with|d _ _ h=>exact h);have hst:(Instr.keyThatStays e0.key (vl k)).run C.P w=.ok (vl k) w:=(by rw[hek];exact S.law.stays w hkl);refine⟨{ w with heap:=w.heap.setIfInBounds b (.map (ents.modify j λe=>{ e with key:=vl k,val:=a.eval u }) clock) },?_,_,g,hK,?_⟩;simp only[execOp,ho,hex,hey];simp[Instr.mapUpdate,run_underlying hu',MapKept.run_getObj_map hw,S.law.check w _ hkl,hf,he0,hst,MapKept.run_setObj_map _ hw,Result.andThen];rw[hd];refine Ct hs hp hb hw ⟨by simp[hE.1],λi e m he hm=>?_⟩;rw[iC]at he;rw[Vz]at hm;split at he;rename_i hij;subst hij;rw[if_pos rfl,he0]at hm;split at he;cases he;simp at hm;subst hm;exact⟨hkd',hv'⟩;cases he;rename_i hij;rw[if_neg hij]at hm;exact hE.2 i e m he hm
end upd
structure KeyG (ks:List TypeDesc) {α:Type} (kf:α->D) (ok:α->Bool):Prop where
  key:∀a,ok a=true->zn ks (kf a)
  inj:∀a b,kf a=kf b->a=b
def vj{α β:Type}(ok:α->Bool)(fs:List (α×β))(s:α):Prop:=(fs.map (·.1)).Nodup/\(∀x∈fs,ok x.1=true)/\ok s=true
instance {α β:Type} [DecidableEq α] (ok:α->Bool) (fs:List (α×β)) (s:α):Decidable (vj ok fs s):=by unfold vj;infer_instance
section pm
variable {α β:Type}[DecidableEq α]{dk:TypeDesc}{kf:α->D}{ok:α->Bool}{ks:List TypeDesc}
variable {o:Oper}{ev:Operand->AV}{hp:List Blk}{x y u:Operand}{t kt et kt' et':TypeId}{id:Nat}{zd:D}{z:Value}
variable {fs:List (α×β)}
theorem kz(hk:KeyG ks kf ok)(f:β->D)(h:∀x∈fs,ok x.1=true):∀e∈cC kf f fs,zn ks e.1:=λe he=>by unfold cC at he;simp only[zal115q]at he;obtain⟨x,hx,rfl⟩:=he;exact hk.key _ (h x hx)
theorem E5(hk:KeyG ks kf ok)(f:β->D)(h:(fs.map (·.1)).Nodup):((cC kf f fs).map (·.1)).Nodup:=by have:(cC kf f fs).map (·.1)=(fs.map (·.1)).map kf:=Q3;rw[this];exact h.map _ λa b hab e=>hab (hk.inj _ _ e)
theorem Xo(hk:KeyG ks kf ok)(f:β->D){s:α}(h:∀x∈fs,x.1≠s):∀e∈cC kf f fs,e.1≠kf s:=λe he=>by unfold cC at he;simp only[zal115q]at he;obtain⟨x,hx,rfl⟩:=he;exact λq=>h x hx (hk.inj _ _ q)
theorem Jv(S:SKey C.P kt ks)(hk:KeyG ks kf ok)(f:β->D)(fs:List (α×β))(s:α)(z0:β)(ho:o.op=.lookup t x y true)(hl:Vh C.P t=some (kt,dk,et))(hz:(C.P.info? et).bind (·.zero)=some z)(hzd:gP z=.d (f z0))(hx:ev x=.mmap id)(hb:hp[id]?=some (.map kt' et' (cC kf f fs)))(hy:ev y=.d (kf s))(hg:vj ok fs s):RdOk C o ev hp (.tup [.d (f ((cZ fs s).getD z0)),.d (.bool (cZ fs s).isSome)]):=by cases h:cZ fs s with|none=>exact qJO S ho hl hz hzd hx hb hy (hk.key _ hg.2.2) (kz hk f hg.2.1) (Xo hk f (yK h))|some b=>obtain⟨j,hj⟩:=xw h;exact qFG (j:=j) S ho hl hx hb hy (kz hk f hg.2.1) (E5 hk f hg.1) (by simp[cC,hj])
theorem s_putG{ops:Array Oper}{l:List Oper}{K:St->Prop}{fr:Fr}{ty:TypeId}{pos:String}{after:Array Edge}(S:SKey C.P kt ks)(hk:KeyG ks kf ok)(f:β->D){s:α}{b:β}(hl:Vh C.P t=some (kt,dk,et))(hx:fr.ev x=.mmap id)(hb:hp[id]?=some (.map kt' et' (cC kf f fs)))(hy:fr.ev y=.d (kf s))(hu:fr.ev u=.d (f b))(hg:vj ok fs s)(h:cP C ops l ⟨fr,hp.set id (.map kt' et' (cC kf f (tK fs s b)))⟩ K):cP C ops (⟨none,.mapUpdate t x y u,ty,pos,after,none⟩::l) ⟨fr,hp⟩ K:=by cases e:fs.findIdx? λx=>decide (x.1=s)with|none=>have hn:cZ fs s=none:=(by unfold cZ;rw[Be,L9];rw[Ik]at e;intro x hx;simpa using e x hx);refine gW rfl (Oi S rfl rfl hl hx hb hy hu (hk.key _ hg.2.2) (kz hk f hg.2.1) (Xo hk f (yK hn)) ?_);have e2:cC kf f (fs++[(s,b)])=cC kf f fs++[(kf s,f b)]:=Q3;rw[<- e2];simpa only[tK,e]using h|some j=>have e':=e;rw[D2]at e;obtain⟨hlt,hj,_⟩:=e;have hj':fs[j]?=some (s,fs[j].2):=(by rw[iG hlt,<- of_decide_eq_true hj]);refine gW rfl (Xq (j:=j) (v0:=f fs[j].2) S rfl rfl hl hx hb hy hu (kz hk f hg.2.1) (E5 hk f hg.1) qEA ?_);simp only[tK,e']at h;simpa[cC,List.map_set]using h
end pm
variable {P:Program}{C:Ctx}{st:St}{g:Gh}{a:Act}{w:World}
theorem Sim.virtM(h:Sim C st g a w)(kt vt:Nat):Sim C ⟨st.fr,st.hp++[.map kt vt []]⟩ g a w:=by refine{ h with hp:=?_,lt:=?_,inj:=?_,kle:=?_ };intro i B hi;simp only[kN]at hi;split at hi;exact h.hp i B hi;rename_i hge;have:i=st.hp.length:=(by rcases fU (i-st.hp.length) 1 with h1|h1;omega;rw[nB sN]at hi;cases hi);subst this;simp at hi;subst hi;exact .inl ⟨rfl,h.phi_none (oA _)⟩;intro i b hp;have:=h.lt i b hp;simp only[xK,kM,rA];exact⟨this.1,aB,this.2.2⟩;intro i j b Bi Bj hBi hBj hdi hdj hi hj;have l1:=(h.lt _ _ hi).2.1;have l2:=(h.lt _ _ hj).2.1;rw[kN,if_pos l1]at hBi;rw[kN,if_pos l2]at hBj;exact h.inj i j b Bi Bj hBi hBj hdi hdj hi hj;have:=h.kle;simp only[xK,kM,rA];omega
theorem Sim.recell(h:Sim C st g a w){t:TypeId}{y:AV}(hb:st.hp[i]?=some (.box t cs))(hy:∀v,(∀x,cs[j]?=some x->ARep w g x v)->(∃b cells,g.phi i=some b/\w.heap[b]?=some (.cells cells t (0,0))/\cells[j]?=some v)->ARep w g y v):Sim C ⟨st.fr,st.hp.set i (.box t (cs.set j y))⟩ g a w:=by have hi:=gJ hb;obtain⟨b,cells,hp,hw,hps,hl,hr⟩:=h.hp i _ hb;refine{ h with hp:=λk B hk=>?_,lt:=λk b hk=>by have:=h.lt k b hk;simpa using this,inj:=λk k' b Bk Bk' h1 h2 d1 d2 p1 p2=>?_,kle:=by simpa using h.kle };by_cases e1:i=k;subst e1;rw[iC,if_pos rfl]at hk;have hk:B=.box t (cs.set j y):=(by simp only[hi,if_true,jA]at hk;exact hk.symm);subst hk;refine⟨b,cells,hp,hw,hps,qf,λq c v hq hv'=>?_⟩;by_cases e2:j=q;subst e2;rw[iC,if_pos rfl]at hq;split at hq;cases hq;exact hy v (λx hx=>hr _ x v hx hv') ⟨b,cells,hp,hw,hv'⟩;cases hq;rw[tV e2]at hq;exact hr q c v hq hv';rw[tV e1]at hk;exact h.hp k B hk;have key:∀(k:Nat)(Bk:Blk),(st.hp.set i (.box t (cs.set j y)))[k]?=some Bk->Bk≠.dead->∃B',st.hp[k]?=some B'/\B'≠.dead:=(by intro k Bk hk hd;rw[iC]at hk;split at hk;rename_i e1;subst e1;exact⟨.box t cs,hb,λe=>by cases e⟩;exact⟨Bk,hk,hd⟩);obtain⟨B1,e1,d1'⟩:=key k Bk h1 d1;obtain⟨B2,e2,d2'⟩:=key k' Bk' h2 d2;exact h.inj k k' b B1 B2 e1 e2 d1' d2' p1 p2
theorem Sim.upM(h:Sim C st g a w){t kt vt:Nat}(hb:st.hp[i]?=some (.box t cs))(hc:cs[j]?=some (.d .nilmap)):Sim C ⟨st.fr,(st.hp.set i (.box t (cs.set j (.mmapN st.hp.length 0))))++[Blk.map kt vt []]⟩ g a w:=by
  have hi:=gJ hb;have hb':(st.hp++[Blk.map kt vt []])[i]?=some (.box t cs):=by rw[kN,if_pos hi];exact hb
  have h2:=Sim.recell (h.virtM kt vt) (i:=i) (j:=j) (y:=.mmapN st.hp.length 0) hb' λv hv _=>by
    cases hv _ hc with
    |d _ _ hd=>cases hd with
      |nilmap=>exact .mmapN0 _
  simp only[List.set_append,if_pos hi]at h2;exact h2
section
variable {ops:Array Oper}{l:List Oper}{K:St->Prop}{fr:Fr}{hp:List Blk}{c:Code}{Q:Exit->St->Prop}{α β:Type}
theorem s_upM{kf:α->D}{f:β->D}(i j N kt vt:Nat){t:TypeId}{cs:List AV}(hN:Nat.beq hp.length N=true)(hb:hp[i]?=some (.box t cs))(hc:cs[j]?=some (.d .nilmap))(h:cP C ops l ⟨fr,(hp.set i (.box t (cs.set j (.mmapN N ([]:List (α×β)).length))))++[Blk.map kt vt (cC kf f ([]:List (α×β)))]⟩ K):cP C ops l ⟨fr,hp⟩ K:=by have e:=eU hN;subst e;exact λg a w hs=>h g a w (Sim.upM (st:=⟨fr,hp⟩) hs hb hc)
end
section
variable {o:Oper}{ev:Operand->AV}{hp:List Blk}{x y:Operand}{t t' k e:TypeId}
end
theorem s_virtF{α:Type}{f:α->D}(N e sz:Nat)(hN:Nat.beq hp.length N=true)(h:cP C ops l ⟨fr,hp++[Blk.flat e sz (([]:List α).map f)]⟩ K):cP C ops l ⟨fr,hp⟩ K:=λg a w hs=>h g a w (Sim.virt (st:=⟨fr,hp⟩) hs e sz)
inductive ArgW:AV->AV->Prop
  |refl (x:AV):ArgW x x
  |nil (i sz:Nat):ArgW (.d .nilsl) (.msl i sz 0 0)
  |nilD (sz:Nat):ArgW (.d .nilsl) (.d (.sl sz []))
inductive ArgsW:List AV->List AV->Prop
  |nil:ArgsW [] []
  |cons {x y:AV} {xs ys:List AV} (h:ArgW x y) (hr:ArgsW xs ys):ArgsW (x::xs) (y::ys)
theorem ArgW.rep{x y:AV}(h:ArgW x y){v:Value}(hv:ARep w g x v):ARep w g y v:=by
  cases h with
  |refl=>exact hv
  |nil i sz=>cases hv with
    |d _ _ hd=>cases hd with
      |nilsl ad=>exact .msl0 _ _ _ _
  |nilD sz=>cases hv with
    |d _ _ hd=>cases hd with
      |nilsl ad=>exact .d _ _ (.sl0 _ _ _)
theorem ArgsW.rep:∀{xs ys:List AV},ArgsW xs ys->∀{vs:List Value},Pw (ARep w g) xs vs->Pw (ARep w g) ys vs
  |[],[],.nil,vs,h=>h
  |x::xs,y::ys,.cons hx hr,vs,h=>by
    cases vs with
    |nil=>have:=h.1;simp at this
    |cons v vs=>
      have h1:Pw (ARep w g) xs vs:=⟨by simpa using h.1,λi a b ha hb=>h.2 (i+1) a b (by simpa using ha) (by simpa using hb)⟩;have h2:=ArgsW.rep hr h1;refine⟨by simp[h2.1],λi a b ha hb=>?_⟩
      cases i with
      |zero=>simp at ha hb;subst ha hb;exact hx.rep (h.2 0 x v rfl rfl)
      |succ i=>exact h2.2 i a b (by simpa using ha) (by simpa using hb)
theorem Ret.argsW{xs ys:List AV}{r:AV}(h:Ret P F hp mv ys r hp')(hw:ArgsW xs ys):Ret P F hp mv xs r hp':=⟨h.1,λw g vs ho ha=>h.2 w g vs ho (hw.rep ha)⟩
theorem s_callMW{d:Nat}{c:AV}(ids:List Nat)(mv:Nat->Bool){args0 args:List AV}{r r':AV}{fr2:Fr}{hh hp2:List Blk}(hd:decide (d<C.n)=true)(hf:fr.ev f=c)(hc:zy c=some (F,cs))(hnd:ids.Nodup)(hal:(ids.all λj=>dV hp j)=true)(hmv:((List.range C.k).all λj=>!yj ids mv j||C.mv j)=true)(hx:((xs.toList.map fr.ev)++cs).map (AV.mapRef (toName (bI ids)))=args0)(hhd:vQ ids hp=hh)(hret:Ret C.P F hh mv args r hp')(hw:ArgsW args0 args)(hr:r.mapRef (fwd ids hp.length)=r')(hfr:Fr.mapRef (lI (yj ids mv)) fr=fr2)(hb:wJ ids (hp.map (Blk.mapRef (lI (yj ids mv)))) hp'=hp2)(h:cP C ops l ⟨(d,r')::fr2,hp2⟩ K):cP C ops (⟨some d,.call { callee:=.value f,args:=xs,argTypes:=ts },ty,pos,after,none⟩::l) ⟨fr,hp⟩ K:=eF ids mv hd hf hc hnd hal hmv hx hhd (hret.argsW hw) hr hfr hb h
theorem s_on{op:Op}{dst:Option Nat}{gd:Option (Nat×Bool)}(hon:Oh ops gd fr=some true)(k:cP C ops (⟨dst,op,ty,pos,after,none⟩::l) ⟨fr,hp⟩ K):cP C ops (⟨dst,op,ty,pos,after,gd⟩::l) ⟨fr,hp⟩ K:=by intro g a w hs;have h:=k g a w hs;unfold wpList at h⊢;have hw:Region.wanted ⟨dst,op,ty,pos,after,gd⟩ (yielded ops a.tmps)=true:=(by rcases qFV hs hon with⟨hg,_⟩|⟨i,want,hg,⟨hy,_⟩|⟨_,hc⟩⟩;simp[Region.wanted,hg];simp[Region.wanted,hg,hy];cases hc);rw[if_pos hw];rw[if_pos Iq]at h;exact h
variable {P:Program}{C:Ctx}{st:St}{g:Gh}{a:Act}{w:World}
section
variable {o:Oper}{ev:Operand->AV}{hp:List Blk}{t t' e arr:TypeId}{x y:Operand}
theorem x_ixs{s:ByteArray}{k:IntKind}{i:Int}{b:UInt8}(ho:o.op=.index t x y)(hu:C.P.underlying t=some .string)(hx:ev x=.d (.str s))(hy:ev y=.d (.int k i))(h:0<=i/\s.data.toList[i.toNat]?=some b):RdOk C o ev hp (.d (.int .u8 (b.toNat:Int))):=RdOk.mk λst hhp hag g a w hs=>by have hv:=hs.ev x;rw[hag x fN,hx]at hv;have hi:=hs.ev y;rw[hag y fN,hy]at hi;have hxv:a.eval x=.string s:=(by generalize a.eval x=v at *;cases hv with|d _ _ h=>cases h;rfl);have hsb:s[i.toNat]?=some b:=(by have h2:=h.2;rw[zQQ]at h2;obtain⟨hlt,h2⟩:=h2;have hlt':i.toNat<s.size:=hlt;rw[getElem?_pos s i.toNat hlt'];exact congrArg some h2);refine⟨.int .u8 b.toNat,?_,.d _ _ (.int _ _)⟩;have h0:=h.1;simp only[execOp,ho,hxv,int_inv hi];simp[Instr.index,run_underlying hu,asIntOf,h0,hsb]
end
section
variable {o:Oper}{ev:Operand->AV}{hp:List Blk}{x:Operand}
theorem x_cutA{α:Type}{f:α->D}{xs:List α}{t e:TypeId}{n:Nat}{lo hi:Option Operand}{l r:Int}(ho:o.op=.slice t x lo hi none)(hu:C.P.underlying t=some (.array n e))(hl:lay C.P e=some (false,1))(hx:ev x=.d (.ptr (.agg (xs.map f)) 0))(hn:Nat.beq n xs.length=true)(hlo:Nv 0 (lo.map ev)=some l)(hhi:Nv n (hi.map ev)=some r)(h:0<=l/\l<=r/\r<=n):RdOk C o ev hp (.d (.sl 1 ((sub xs l r).map f))):=
  RdOk.mk λst hhp hag g a w hs=>by
    have hv:=hs.ev x;rw[hag x fN,hx]at hv;have hn':=eU hn;obtain⟨l,rfl⟩:=yQ h.1;obtain⟨r,rfl⟩:=yQ (show 0<=r by omega)
    have bound:∀(d m:Nat)(q:Option Operand),(∀y,q=some y->y∈o.op.operands)->Nv d (q.map ev)=some (m:Int)->(q.map a.eval=none/\m=d)\/∃k,q.map a.eval=some (.int k m):=by
      intro d m q hq hb
      cases q with
      |none=>simp[Nv]at hb;exact .inl ⟨rfl,aB⟩
      |some y=>
        have hy:=hs.ev y;rw[hag y (hq y rfl)]at hy;simp only[jB]at hb⊢;unfold Nv at hb;split at hb;rename_i e;cases e;rename_i k m' e;rw[bO e]at hy;cases hb;exact .inr ⟨k,by rw[int_inv hy]⟩;cases hb
    have hlo':=bound 0 l lo (λy hy=>Ea) hlo;have hhi':=bound n r hi (λy hy=>Ea) hhi;have h1:l<=r:=aB
    have h2:r<=n:=aB
    obtain⟨q1,q2⟩:=gz hl w;generalize hev:a.eval x=vx at *
    cases hv with
    |d _ _ hd=>
      cases hd with
      |ptr _ _ ad val hX h1' hv hr=>
        have hrun:(execOp a.eval o).run C.P w=.ok (.value (.slice (some (if n=l then ad else ad.add (l*1))) (r-l) (n-l))) w:=by
          simp only[execOp,ho,hev];have e1:(l:Int)<=r:=aB
          have e2:(r:Int)<=n:=aB
          rcases hlo' with⟨hlo',rfl⟩|⟨k,hlo'⟩<;>rcases hhi' with⟨hhi',rfl⟩|⟨k',hhi'⟩<;>rw[hlo',hhi']<;>
            simp[Instr.sliceAt,run_underlying hu,Instr.sureAddr,Instr.sliceBounds,Instr.sliceBound,asIntOf,q2,h1,h2,e1,e2]
        have hsub:sub xs (l:Int) (r:Int)=(xs.drop l).take (r-l):=rfl;refine⟨_,hrun,.d _ _ ?_⟩;rw[hsub,wy,Bo];have hlen:(((xs.map f).drop l).take (r-l)).length=r-l:=iK
        by_cases he:((xs.map f).drop l).take (r-l)=[];have h0 : r - l = 0 := by rw [<- hlen, he]; rfl
        rw[he,h0];exact .sl0 _ _ _;have hpos : 0 < r - l := by rw [<- hlen]; exact zal92q.2 he
        have hds:∀(i:Nat)(e:D),(((xs.map f).drop l).take (r-l))[i]?=some e->(xs.map f)[l+i]?=some e:=by
          intro i e he;rw[sI]at he;split at he
          rwa [nC]at he
          cases he
        have hone:∀d∈xs.map f,d.one=true:=h1'
        have hcell:∀{d:D},d∈xs.map f->d.cells=[d]:=fun {d} hd=>by
          have:=hone d hd;cases d<;>first|rfl|cases this
        rw[mF]
        have := DRep.sl (w := w) (X := g.X) 1 (((xs.map f).drop l).take (r - l)) (ad.add (l * 1)) (n - l) (fun i j => val (l + i)) (by rw [Hf]; exact hX) (by rw [hlen]; omega)
          (λi e he=>by rw[hcell (kK (hds i e he))];rfl) (λi e j c he hc=>by
            rw[hcell (kK (hds i e he))]at hc
            cases j with
            |zero=>cases hc;exact hone _ (kK (hds i _ he))
            |succ j=>cases hc)
          (λi e j c he hc=>by
            rw[hcell (kK (hds i e he))]at hc
            cases j with
            | zero =>
              cases hc;have:=hv (l+i) _ (by rw[iO];exact hds i _ he);rw[F5,show l*1+(i*1+0)=l+i by omega];exact this
            |succ j=>cases hc) (λi e j c he hc=>by
            rw[hcell (kK (hds i e he))]at hc
            cases j with
            | zero =>
              cases hc;exact hr (l+i) _ (by rw[iO];exact hds i _ he)
            |succ j=>cases hc)
        rw[hlen]at this;exact this
end
theorem qVH{o:Oper}{ev:Operand->AV}{ds rs:List D}(ho:o.op=.call { callee:=.value f,args:=xs,argTypes:=ts })(hf:ev f=.d (.fn F))(hx:Dq hp (xs.toList.map ev) ds)(hret:Ret C.P F [] mv (ds.map .d) (.tup (rs.map .d)) [])(hm:rs.all D.mem0=true):RdOk C o ev hp (.tup (rs.map .d)):=by
  intro st hhp hag g a w hs Q K' hK;have hfv:=hs.ev f;rw[hag f C8,hf]at hfv
  have hx':Dq st.hp (xs.toList.map st.fr.ev) ds:=by
    refine⟨by have:=hx.1;simpa using this,λi x d hxi hd=>?_⟩;simp only[vV,Wd]at hxi;obtain⟨y,hy,rfl⟩:=hxi;rw[hag y qNQ];exact(hx.2 i (ev y) d ya hd).le hhp
  have hargs:=Zc hs hx' (Y:=λb=>b<w.heap.size) hs.Xlt λi b hp=>(hs.lt i b hp).1;simp only[Oper.wp,kO ho (Nr hfv) hret.1,Oper.upon_enter,qAM];refine(hret.2 w (hU λb=>b<w.heap.size) _ (qKE hs mv λ_ h=>h) hargs).mono ?_;rintro e w' ⟨v,g',rfl,hout,hr⟩;have hold:∀b,b<w.heap.size->w'.heap[b]?=w.heap[b]?:=λb hb=>hout.keep b hb λi hi=>absurd hi (xJ i);have hsz:=hout.grown;simp only at hsz;have hgr:Grow w g w' g:=⟨λ_ _ h=>h,λ_ _ _=>rfl,λ_ h=>h,λb hb=>hold b (hs.Xlt b hb)⟩;refine hK v w' g ?_ ?_
  exact { defers := hs.defers, size := hs.size, fr := fun t => (hs.fr t).mono hgr, hp := fun i B hB => (hs.hp i B hB).mono hgr id fun b hb => hold b (hs.lt i b hb).1, lt := fun i b hp => by have := hs.lt i b hp; exact ⟨aB, this.2.1, this.2.2⟩, inj := hs.inj, Xlt := fun b hb => by have := hs.Xlt b hb; omega, Xold := hs.Xold
          os:=hout.os.trans hs.os,tape:=hout.tape.trans hs.tape,output:=hout.output.trans hs.output,drawn:=eR hs.drawn hout.drawn,grown:=eR hs.grown hsz,keep:=λb hb hk=>by rw[hold b (by have:=hs.grown;omega)];exact hs.keep b hb hk,own:=hs.own,stay:=hs.stay,kle:=hs.kle,laid:=hs.laid }
  cases hr with
  |tup _ us hl hr=>
    refine .tup _ us hl λi c u hci hu=>?_;have h1:=hr i c u hci hu;simp only[vV,Wd]at hci;obtain⟨d,hd,rfl⟩:=hci;have hdm:D.mem0 d=true:=zQT.1 hm d (kK hd)
    cases h1 with
    |d _ _ h=>exact .d _ _ (h.any hdm)
end Go.TL
set_option maxHeartbeats 4000000
namespace Go.TL
variable {C:Ctx}{st:St}{g:Gh}{a:Act}{w:World}{P:Program}
inductive Kt where
  |s (y:Code)
  |b (i:Nat)
def post(C:Ctx):List Kt->(Exit->St->Prop)->Exit->St->Prop
  |[],Q=>Q
  |.s y::ks,Q=>yV (λst=>TWp C y st (post C ks Q)) (post C ks Q)
  |.b i::ks,Q=>er i (post C ks Q)
def pn(C:Ctx)(ks:List Kt)(Q:Exit->St->Prop):St->Prop:=post C ks Q .normal
inductive Md where
  |kc (x:Code) (fr:Fr) (hp:List Blk) (ks:List Kt)
  |ko (ops:Array Oper) (l:List Oper) (fr:Fr) (hp:List Blk) (ks:List Kt)
  |kx (e:Exit) (fr:Fr) (hp:List Blk) (ks:List Kt)
  |kn
def Md.goal(C:Ctx)(Q:Exit->St->Prop):Md->Prop
  |.kc x fr hp ks=>TWp C x ⟨fr,hp⟩ (post C ks Q)
  |.ko ops l fr hp ks=>cP C ops l ⟨fr,hp⟩ (pn C ks Q)
  |.kx e fr hp ks=>post C ks Q e ⟨fr,hp⟩
  |.kn=>False
def stX(fr:Fr)(hp:List Blk)(e:Exit):List Kt->Md
  |[]=>.kn
  |.s y::ks=>match e with
    |.normal=>.kc y fr hp ks
    |e=>.kx e fr hp ks
  |.b i::ks=>match e with
    |.exit j=>match Nat.beq j i with
      |true=>.kx .normal fr hp ks
      |false=>.kx (.exit j) fr hp ks
    |e=>.kx e fr hp ks
def stO(T:Tab)(n:Nat)(ops:Array Oper)(fr:Fr)(hp:List Blk)(ks:List Kt):List Oper->Md
  |[]=>.kx .normal fr hp ks
  |o::l=>match Iv T n ops o fr hp with
    |some (fr',hp')=>.ko ops l fr' hp' ks
    |none=>.kn
def stS(fr:Fr)(hp:List Blk)(ks:List Kt)(y:Code):Code->Md
  |.region id ops d=>match d with
    |false=>.ko ops ops.toList fr hp (.s y::ks)
    |true=>.kc (.region id ops true) fr hp (.s y::ks)
  |x=>.kc x fr hp (.s y::ks)
def stC(fr:Fr)(hp:List Blk)(ks:List Kt):Code->Md
  |.seq x y=>stS fr hp ks y x
  |.region _ ops d=>match d with
    |false=>.ko ops ops.toList fr hp ks
    |true=>.kn
  |.skip=>.kx .normal fr hp ks
  |.ret=>.kx .ret fr hp ks
  |.exit i=>.kx (.exit i) fr hp ks
  |.block i x=>.kc x fr hp (.b i::ks)
  |_=>.kn
def stp(T:Tab)(n:Nat):Md->Md
  |.kc x fr hp ks=>stC fr hp ks x
  |.ko ops l fr hp ks=>stO T n ops fr hp ks l
  |.kx e fr hp ks=>stX fr hp e ks
  |.kn=>.kn
def run(T:Tab)(n:Nat):Nat->Md->Md
  |0,m=>m
  |k+1,m=>run T n k (stp T n m)
variable {fr:Fr}{hp:List Blk}{id k:Nat}{ks:List Kt}{o:Operand}{ops:Array Oper}{x y:Code}{α β:Type}{S:α->St}{r z:α}{x0 y0:Option α}
theorem stX_ok{Q:Exit->St->Prop}{e:Exit}(h:(stX fr hp e ks).goal C Q):post C ks Q e ⟨fr,hp⟩:=by cases ks with|nil=>exact h.elim|cons k ks=>cases k with|s y=>cases e<;>exact h|b i=>cases e with|exit j=>simp only[stX]at h;show er i (post C ks Q) (.exit j) _;simp only[er];split at h;rename_i hj;rw[if_pos (eU hj)];exact h;rename_i hj;rw[if_neg (λe=>by rw[e,Nat.beq_refl]at hj;cases hj)];exact h|_=>exact h
theorem stS_ok{Q:Exit->St->Prop}(h:(stS fr hp ks y x).goal C Q):TWp C (.seq x y) ⟨fr,hp⟩ (post C ks Q):=by
  cases x with
  |region id ops d=>cases d with
    |false=>exact RS h
    |true=>exact TQ h
  |_=>exact TQ h
theorem stC_ok{Q:Exit->St->Prop}(h:(stC fr hp ks x).goal C Q):TWp C x ⟨fr,hp⟩ (post C ks Q):=by
  cases x with
  |seq x y=>exact stS_ok h
  |region id ops d=>cases d with
    |false=>exact TG h
    |true=>exact h.elim
  |skip=>exact TS h
  |ret=>exact TR h
  |exit i=>exact Wt h
  |block i x=>exact TB h
  |_=>exact h.elim
theorem stp_ok{T:Tab}(hT:TabOk C.P T){Q:Exit->St->Prop}{m:Md}(h:(stp T C.n m).goal C Q):m.goal C Q:=by cases m with|kc x fr hp ks=>exact stC_ok h|ko ops l fr hp ks =>(cases l with|nil=>exact TN h|cons o l=>simp only[stp,stO]at h;split at h;rename_i fr' hp' he;exact SA hT he h;exact h.elim)|kx e fr hp ks=>exact stX_ok h|kn=>exact h.elim
theorem run_ok{T:Tab}(hT:TabOk C.P T){Q:Exit->St->Prop}:∀(k:Nat)(m:Md),(run T C.n k m).goal C Q->m.goal C Q
  |0,_,h=>h
  |k+1,_,h=>stp_ok hT (run_ok hT k _ h)
theorem qo{T:Tab}(hT:TabOk C.P T){Q:Exit->St->Prop}{m m':Md}(h:run T C.n k m=m')(hm:m'.goal C Q):m.goal C Q:=run_ok hT k m (h ▸ hm)
theorem bY{Q:Exit->St->Prop}(hm:C.P.follows .mixedOrders=true)(h:TDr C ops (pn C (.s y::ks) Q) ops.toList st.fr st.hp []):TWp C (.seq (.region id ops true) y) st (post C ks Q):=qIM hm h
theorem qAP{Q:Exit->St->Prop}(hm:C.P.follows .mixedOrders=true)(h:TDr C ops (pn C [.s y] Q) ops.toList st.fr st.hp []):TWp C (.seq (.region id ops true) y) st Q:=qIM hm h
theorem fA{Q:Exit->St->Prop}(hm:C.P.follows .mixedOrders=true)(h:TDr C ops (pn C ks Q) ops.toList st.fr st.hp []):TWp C (.region id ops true) st (post C ks Q):=Wu hm h
theorem kY{Q:Exit->St->Prop}(hm:C.P.follows .mixedOrders=true)(h:TDr C ops (pn C [] Q) ops.toList st.fr st.hp []):TWp C (.region id ops true) st Q:=Wu hm h
theorem qXC{p:Prop}[Decidable p]{Q:Exit->St->Prop}(hm:(if p then x0 else y0)=some r)(hc:st.fr.ev o=.d (.bool (decide p)))(h1:decide p=true->x0=some r->TWp C x st Q)(h2:decide p=false->y0=some r->TWp C y st Q):TWp C (.cond o x y) st Q:=TC _ hc (λh=>h1 h (JT h hm)) (λh=>h2 h (JF h hm))
theorem c_ifN{p:Prop}[Decidable p]{Q:Exit->St->Prop}(hm:(if p then y0 else x0)=some r)(hc:st.fr.ev o=.d (.bool (!decide p)))(h1:(!decide p)=true->x0=some r->TWp C x st Q)(h2:(!decide p)=false->y0=some r->TWp C y st Q):TWp C (.cond o x y) st Q:=TC _ hc (λh=>h1 h (qPY h hm)) (λh=>h2 h (qPZ h hm))
theorem qTP{p:Bool}{Q:Exit->St->Prop}(hm:(if p=true then x0 else y0)=some r)(hc:st.fr.ev o=.d (.bool p))
    (h1:p=true->x0=some r->TWp C x st Q) (h2:p=false->y0=some r->TWp C y st Q):TWp C (.cond o x y) st Q:=
  TC _ hc (λh=>h1 h (JA h hm)) (λh=>h2 h (JB h hm))
/- A call, and the model's call with it. -/
section calls
variable {ops:Array Oper}{ty:TypeId}{pos:String}{after:Array Edge}{gd:Option (Nat×Bool)}{l:List Oper}{K:St->Prop}{fr:Fr}{hp:List Blk}{acc:List Rec}{d:Nat}{F:FuncId}{f:Operand}{xs:Array Operand}{ts:Array TypeId}{ds:List D}{α β:Type}{m:Option α}{k:α->Option β}{o:β}{e:α->D}
theorem c_N(hm:aE m k=some o)(hf:∀{x},m=some x->RetN C.P F ds (e x))(hd:decide (d<C.n)=true)(hon:Oh ops gd fr=some true)(he:fr.ev f=.d (.fn F))(hx:xs.toList.map fr.ev=ds.map .d)(hk:∀x,k x=some o->cP C ops l ⟨(d,.d (e x))::fr,hp⟩ K):cP C ops (⟨some d,.call { callee:=.value f,args:=xs,argTypes:=ts },ty,pos,after,gd⟩::l) ⟨fr,hp⟩ K:=by obtain⟨x,h1,h2⟩:=BI hm;exact SX hd hon (RN rfl he (qM hx) (hf h1)) (hk x h2)
theorem c_D(hm:aE m k=some o)(hf:∀{x},m=some x->RetD C.P F ds (e x))(hd:decide (d<C.n)=true)(hon:Oh ops gd fr=some true)(he:fr.ev f=.d (.fn F))(hx:xs.toList.map fr.ev=ds.map .d)(hk:∀x,k x=some o->cP C ops l ⟨(d,.d (e x))::fr,hp⟩ K):cP C ops (⟨some d,.call { callee:=.value f,args:=xs,argTypes:=ts },ty,pos,after,gd⟩::l) ⟨fr,hp⟩ K:=by obtain⟨x,h1,h2⟩:=BI hm;exact SX hd hon (RD rfl he hx (hf h1)) (hk x h2)
theorem cd_N(rs:List Nat)(hm:aE m k=some o)(hf:∀{x},m=some x->RetN C.P F ds (e x))(hd:decide (d<C.n)=true)(hon:Oh ops gd fr=some true)(he:fr.ev f=.d (.fn F))(hx:xs.toList.map fr.ev=ds.map .d)(hk:∀x,k x=some o->TDr C ops K l ((d,.d (e x))::fr) hp (acc++[⟨true,d,.d (e x),rs,[]⟩])):TDr C ops K (⟨some d,.call { callee:=.value f,args:=xs,argTypes:=ts },ty,pos,after,gd⟩::l) fr hp acc:=by obtain⟨x,h1,h2⟩:=BI hm;exact DX rs hd hon (RN rfl he (qM hx) (hf h1)) (hk x h2)
theorem cd_D(rs:List Nat)(hm:aE m k=some o)(hf:∀{x},m=some x->RetD C.P F ds (e x))(hd:decide (d<C.n)=true)(hon:Oh ops gd fr=some true)(he:fr.ev f=.d (.fn F))(hx:xs.toList.map fr.ev=ds.map .d)(hk:∀x,k x=some o->TDr C ops K l ((d,.d (e x))::fr) hp (acc++[⟨true,d,.d (e x),rs,[]⟩])):TDr C ops K (⟨some d,.call { callee:=.value f,args:=xs,argTypes:=ts },ty,pos,after,gd⟩::l) fr hp acc:=by obtain⟨x,h1,h2⟩:=BI hm;exact DX rs hd hon (RD rfl he hx (hf h1)) (hk x h2)
end calls
theorem e_one{f:α->D}{x:α}{rs:List ResultVar}{st:St}(hm:some x=some r)(h:Er st.fr rs=some (.d (f x))):EndsS P rs (f r) st:=by cases hm;exact EndsS.one _ h (.d _) (.refl _)
theorem e_j{x:α}(ids:List Nat){ks:List Nat}{st:St}(hm:some x=some z)(h1:jF ids=true)(h2:∀i,i<k->ids[i]?=some i)(h3:st.canon ks ids=S x):∃j ids',z=j/\jF ids'=true/\(∀i,i<k->ids'[i]?=some i)/\st.canon ks ids'=S j:=⟨x,ids,(bO hm).symm,h1,h2,h3⟩
theorem qAH{x:α}(ids:List Nat){ks:List Nat}{st:St}(hm:some x=some z)(h1:jF ids=true)(h3:st.canon ks ids=S x):∃j ids',z=j/\jF ids'=true/\(∀i,i<0->ids'[i]?=some i)/\st.canon ks ids'=S j:=⟨x,ids,(bO hm).symm,h1,λi hi=>absurd hi (xJ i),h3⟩
theorem e_l{x:α}{z:α ⊕ β}(ids:List Nat){ks:List Nat}{st:St}(hm:some (.inl x)=some z)(h1:jF ids=true)(h2:∀i,i<k->ids[i]?=some i)(h3:st.canon ks ids=S x):∃j ids',z=.inl j/\jF ids'=true/\(∀i,i<k->ids'[i]?=some i)/\st.canon ks ids'=S j:=⟨x,ids,(bO hm).symm,h1,h2,h3⟩
theorem e_l0{x:α}{z:α ⊕ β}(ids:List Nat){ks:List Nat}{st:St}(hm:some (.inl x)=some z)(h1:jF ids=true)(h3:st.canon ks ids=S x):∃j ids',z=.inl j/\jF ids'=true/\(∀i,i<0->ids'[i]?=some i)/\st.canon ks ids'=S j:=⟨x,ids,(bO hm).symm,h1,λi hi=>absurd hi (xJ i),h3⟩
section fz
variable {C:Ctx}{T:Tab}{ops:Array Oper}{op:Op}{ty:TypeId}{pos:String}{after:Array Edge}{gd:Option (Nat×Bool)}{l:List Oper}{K:St->Prop}{fr:Fr}{hp:List Blk}{acc:List Rec}{d:Nat}{v:AV}{α:Type}{f:α->D}{xs:List α}
theorem bR(h:(decide (d<C.n),Oh ops gd fr)=(true,some true))(hr:RdOk C ⟨some d,op,ty,pos,after,gd⟩ fr.ev hp v)(k:cP C ops l ⟨(d,v)::fr,hp⟩ K):cP C ops (⟨some d,op,ty,pos,after,gd⟩::l) ⟨fr,hp⟩ K:=
  SX (cX h).1 (cX h).2 hr k
theorem bN(rs:List Nat)(h:(decide (d<C.n),Oh ops gd fr)=(true,some true))(hr:RdOk C ⟨some d,op,ty,pos,after,gd⟩ fr.ev (Jc rs hp) v)(k:TDr C ops K l ((d,v)::fr) hp (acc++[⟨true,d,v,rs,[]⟩])):TDr C ops K (⟨some d,op,ty,pos,after,gd⟩::l) fr hp acc:=
  DX rs (cX h).1 (cX h).2 hr k
variable {by' e sz t:Nat}
theorem bG{a:Operand}(hT:TabOk C.P T)(h:(decide (d<C.n),Oh ops gd fr,lk T.sel t,fr.ev a)=(true,some true,some (e,sz,by'),.d (.sl sz (xs.map f))))
    (k:cP C ops l ⟨(d,.d (.int .i64 (xs.length:Int)))::fr,hp⟩ K):cP C ops (⟨some d,.call { callee:=.builtin .len,args:=#[a],argTypes:=#[t] },ty,pos,after,gd⟩::l) ⟨fr,hp⟩ K:=by
  simp only[wW]at h;exact SX h.1 h.2.1 (yS hT rfl h.2.2.1 h.2.2.2) k
theorem z_ar{op:BinOp}{t t':TypeId}{x y:Operand}{m n r:Int}(h:(decide (d<C.n),Oh ops gd fr,fr.ev x,fr.ev y,qCW op m n)=(true,some true,.d (.int .i64 m),.d (.int .i64 n),some r))(hb:cI r)
    (k:cP C ops l ⟨(d,.d (.int .i64 r))::fr,hp⟩ K):cP C ops (⟨some d,.binOp op t x y t',ty,pos,after,gd⟩::l) ⟨fr,hp⟩ K:=by
  simp only[wW]at h;exact SX h.1 h.2.1 (Bu rfl h.2.2.1 h.2.2.2.1 h.2.2.2.2 hb) k
theorem z_ix{a b:Operand}{j:IntKind}{i:Int}{x:α}(hT:TabOk C.P T)(h:(decide (d<C.n),Oh ops gd fr,lk T.sel t,fr.ev a,fr.ev b)=(true,some true,some (e,sz,by'),.d (.sl sz (xs.map f)),.d (.int j i)))
    (hx:0<=i/\xs[i.toNat]?=some x) (k:cP C ops l ⟨(d,.d (.ptr (f x) 0))::fr,hp⟩ K):cP C ops (⟨some d,.indexAddr t a b,ty,pos,after,gd⟩::l) ⟨fr,hp⟩ K:=by
  simp only[wW]at h;exact SX h.1 h.2.1 (lQ hT rfl h.2.2.1 h.2.2.2.1 h.2.2.2.2 hx) k
theorem eV{f : Operand}{xs : Array Operand}{ts : Array TypeId}{F : FuncId}{c : AV}{cs : List AV}(ids : List Nat){args : List AV}{r : AV}{hh : List Blk}(hret : Ret C.P F hh (fun _ => false) args r hh)
    (h : (decide (d < C.n), Oh ops gd fr, r.isRef, AV.mapRef (fwd ids 0) r, (fun n => AV.mapRef (fwd ids n) r), fr.ev f, zy c, jF ids, (ids.all fun j => dV hp j), (ids.map fun j => ((hp.getD j .dead).mapRef (toName (bI ids))).mapRef (fwd ids 0)), ((xs.toList.map fr.ev) ++ cs).map (AV.mapRef (toName (bI ids))), vQ ids hp)
      = (true,some true,false,r,(λ_=>AV.mapRef (fwd ids 0) r),c,some (F,cs),true,true,(ids.map λj=>hp.getD j .dead),args,hh))
    (k:cP C ops l ⟨(d,r)::fr,hp⟩ K):cP C ops (⟨some d,.call { callee:=.value f,args:=xs,argTypes:=ts },ty,pos,after,gd⟩::l) ⟨fr,hp⟩ K:=by
  simp only[wW]at h;obtain⟨h1,h2,h3,h4,h5,h6,h7,h8,h9,h10,h11,h12⟩:=h;exact SX h1 h2 (dX ids ⟨h3,h4,λn=>congrFun h5 n⟩ rfl h6 h7 (kJ h8) h9 (cN h10) h11 h12 hret) k
theorem iB{n:Nat}{parts:Array (Nat×Operand)}{z:Value}(ls:List Operand)(hT:TabOk C.P T){ds:List D}
    (h:(decide (d<C.n),Oh ops gd fr,lk T.sel t,parts.toList,qTE (ls.map fr.ev),Nat.beq ds.length n,(ds.all λd=>Nat.beq d.cells.length sz),Nat.ble (n*sz) 16777216)=(true,some true,some (e,sz,by'),(ls.zipIdx 0).map (λx=>(x.2,x.1)),some ds,true,true,true))
    (hz:(C.P.info? e).bind (·.zero)=some z) (k:cP C ops l ⟨(d,.d (.sl sz ds))::fr,hp⟩ K):cP C ops (⟨some d,.buildSlice t n parts,ty,pos,after,gd⟩::l) ⟨fr,hp⟩ K:=by
  simp only[wW]at h;obtain⟨h1,h2,h3,h4,h5,h6,h7,h8⟩:=h;exact SX h1 h2 (rJ ls hT rfl h3 hz h4 h5 h6 h7 h8) k
theorem aD{c:Code}{Q:Exit->St->Prop}{fr fr':Fr}{hp hp':List Blk}(ks:List Nat)(h:(Fc fr ks,qKJ hp)=(some fr',some hp'))(k:TWp C c ⟨fr',hp'⟩ Q):TWp C c ⟨fr,hp⟩ Q:=
  WN ks (cX h).1 (cX h).2 k
theorem bJ{c:Code}{Q:Exit->St->Prop}{σ ρ:Type}{f:σ->Option (σ ⊕ ρ)}{s0:σ}{o:ρ}(hm:bK f s0=some o){fr:Fr}{hp:List Blk}(var:σ->Fr)(chg:σ->List (Nat×Blk))(vk ik ids:List Nat){inv:Fr}{hp0:List Blk}(hk:∀i,i<C.k->ids[i]?=some i)
    (h:(jF ids,Fc fr ik,Fr.mapRef (toName (bI ids)) inv,Fr.mapRef (toName (bI ids)) (Fr.keep vk fr),ids.map (λi=>(hp.getD i .dead).mapRef (toName (bI ids))),hp0)=(true,some inv,inv,var s0,hp0,wr (chg s0) hp0))
    (round:∀s x,f s=some x->(∀v,x=.inr v->v=o)->TWp C c ⟨var s++inv,wr (chg s) hp0⟩ (yV (λst'=>∃s' ids',x=.inl s'/\jF ids'=true/\(∀i,i<C.k->ids'[i]?=some i)/\st'.canon (vk++ik) ids'=⟨var s'++inv,wr (chg s') hp0⟩) Q)):TWp C (.loop c) ⟨fr,hp⟩ Q:=by
  simp only[wW]at h;obtain⟨h1,h2,h3,h4,h5,h6⟩:=h;exact w_loop hm var chg vk ik ids h1 hk h2 h3 h4 h5 h6 round
end fz
section fzc
variable {C:Ctx}{ops:Array Oper}{ty:TypeId}{pos:String}{after:Array Edge}{gd:Option (Nat×Bool)}{l:List Oper}{K:St->Prop}{fr:Fr}{hp:List Blk}{acc:List Rec}{d:Nat}{F:FuncId}{f:Operand}{xs:Array Operand}{ts:Array TypeId}{ds:List D}{α β:Type}{m:Option α}{k:α->Option β}{o:β}{e:α->D}
theorem dL(hm:aE m k=some o)(hf:∀{x},m=some x->RetN C.P F ds (e x))(h:(decide (d<C.n),Oh ops gd fr,fr.ev f,xs.toList.map fr.ev)=(true,some true,.d (.fn F),ds.map .d))
    (hk:∀x,k x=some o->cP C ops l ⟨(d,.d (e x))::fr,hp⟩ K):cP C ops (⟨some d,.call { callee:=.value f,args:=xs,argTypes:=ts },ty,pos,after,gd⟩::l) ⟨fr,hp⟩ K:=by
  simp only[wW]at h;exact c_N hm hf h.1 h.2.1 h.2.2.1 h.2.2.2 hk
theorem gF(hm:aE m k=some o)(hf:∀{x},m=some x->RetD C.P F ds (e x))(h:(decide (d<C.n),Oh ops gd fr,fr.ev f,xs.toList.map fr.ev)=(true,some true,.d (.fn F),ds.map .d))
    (hk:∀x,k x=some o->cP C ops l ⟨(d,.d (e x))::fr,hp⟩ K):cP C ops (⟨some d,.call { callee:=.value f,args:=xs,argTypes:=ts },ty,pos,after,gd⟩::l) ⟨fr,hp⟩ K:=by
  simp only[wW]at h;exact c_D hm hf h.1 h.2.1 h.2.2.1 h.2.2.2 hk
theorem eY(rs:List Nat)(hm:aE m k=some o)(hf:∀{x},m=some x->RetN C.P F ds (e x))(h:(decide (d<C.n),Oh ops gd fr,fr.ev f,xs.toList.map fr.ev)=(true,some true,.d (.fn F),ds.map .d))
    (hk:∀x,k x=some o->TDr C ops K l ((d,.d (e x))::fr) hp (acc++[⟨true,d,.d (e x),rs,[]⟩])):TDr C ops K (⟨some d,.call { callee:=.value f,args:=xs,argTypes:=ts },ty,pos,after,gd⟩::l) fr hp acc:=by
  simp only[wW]at h;exact cd_N rs hm hf h.1 h.2.1 h.2.2.1 h.2.2.2 hk
theorem gK(rs:List Nat)(hm:aE m k=some o)(hf:∀{x},m=some x->RetD C.P F ds (e x))(h:(decide (d<C.n),Oh ops gd fr,fr.ev f,xs.toList.map fr.ev)=(true,some true,.d (.fn F),ds.map .d))
    (hk:∀x,k x=some o->TDr C ops K l ((d,.d (e x))::fr) hp (acc++[⟨true,d,.d (e x),rs,[]⟩])):TDr C ops K (⟨some d,.call { callee:=.value f,args:=xs,argTypes:=ts },ty,pos,after,gd⟩::l) fr hp acc:=by
  simp only[wW]at h;exact cd_D rs hm hf h.1 h.2.1 h.2.2.1 h.2.2.2 hk
end fzc
end Go.TL
set_option linter.unusedVariables false
set_option linter.unusedSimpArgs false
set_option linter.unusedSectionVars false
set_option maxHeartbeats 1000000
namespace Go.TL
open Go
section fz
variable {C:Ctx}{T:Tab}{ops:Array Oper}{op:Op}{ty:TypeId}{pos:String}{after:Array Edge}{gd:Option (Nat×Bool)}{l:List Oper}{K:St->Prop}{fr:Fr}{hp:List Blk}{acc:List Rec}{d:Nat}{v:AV}{α:Type}{f:α->D}{xs:List α}
end fz
section fzc
variable {C:Ctx}{ops:Array Oper}{ty:TypeId}{pos:String}{after:Array Edge}{gd:Option (Nat×Bool)}{l:List Oper}{K:St->Prop}{fr:Fr}{hp:List Blk}{acc:List Rec}{d:Nat}{F:FuncId}{f:Operand}{xs:Array Operand}{ts:Array TypeId}{ds:List D}{α β:Type}{m:Option α}{k:α->Option β}{o:β}{e:α->D}
end fzc
end Go.TL
