/- A part of the proof. No condition. -/
import Derived.Test.YtjmpojlgegloeaaGreatDoorQb
set_option linter.unusedSimpArgs false
set_option linter.unusedVariables false

set_option maxHeartbeats 4000000
namespace Go.TL
variable {C:Ctx}{st:St}{g:Gh}{a:Act}{w:World}{P:Program}
inductive Kt where
  |s (y:Code)
  |b (i:Nat)
def post(C:Ctx):List Kt->(Exit->St->Prop)->Exit->St->Prop
  |[],Q=>Q
  |.s y::ks,Q=>lT (λst=>TWp C y st (post C ks Q)) (post C ks Q)
  |.b i::ks,Q=>qR i (post C ks Q)
def pn(C:Ctx)(ks:List Kt)(Q:Exit->St->Prop):St->Prop:=post C ks Q .normal
inductive Md where
  |kc (x:Code) (fr:Fr) (hp:List Blk) (ks:List Kt)
  |ko (ops:Array Oper) (l:List Oper) (fr:Fr) (hp:List Blk) (ks:List Kt)
  |kx (e:Exit) (fr:Fr) (hp:List Blk) (ks:List Kt)
  |kn
def Md.goal(C:Ctx)(Q:Exit->St->Prop):Md->Prop
  |.kc x fr hp ks=>TWp C x ⟨fr,hp⟩ (post C ks Q)
  |.ko ops l fr hp ks=>bO C ops l ⟨fr,hp⟩ (pn C ks Q)
  |.kx e fr hp ks=>post C ks Q e ⟨fr,hp⟩
  |.kn=>False
def stX(fr:Fr)(hp:List Blk)(e:Exit):List Kt->Md
  |[]=>.kn
  |.s y::ks=>match e with
    |.normal=>.kc y fr hp ks
    |e=>.kx e fr hp ks
  |.b i::ks=>match e with
    |.exit j=>match Nat.beq j i with
      |true=>.kx .normal fr hp ks
      |false=>.kx (.exit j) fr hp ks
    |e=>.kx e fr hp ks
def stO(T:Tab)(n:Nat)(ops:Array Oper)(fr:Fr)(hp:List Blk)(ks:List Kt):List Oper->Md
  |[]=>.kx .normal fr hp ks
  |o::l=>match stE T n ops o fr hp with
    |some (fr',hp')=>.ko ops l fr' hp' ks
    |none=>.kn
def stS(fr:Fr)(hp:List Blk)(ks:List Kt)(y:Code):Code->Md
  |.region id ops d=>match d with
    |false=>.ko ops ops.toList fr hp (.s y::ks)
    |true=>.kc (.region id ops true) fr hp (.s y::ks)
  |x=>.kc x fr hp (.s y::ks)
def stC(fr:Fr)(hp:List Blk)(ks:List Kt):Code->Md
  |.seq x y=>stS fr hp ks y x
  |.region _ ops d=>match d with
    |false=>.ko ops ops.toList fr hp ks
    |true=>.kn
  |.skip=>.kx .normal fr hp ks
  |.ret=>.kx .ret fr hp ks
  |.exit i=>.kx (.exit i) fr hp ks
  |.block i x=>.kc x fr hp (.b i::ks)
  |_=>.kn
def stp(T:Tab)(n:Nat):Md->Md
  |.kc x fr hp ks=>stC fr hp ks x
  |.ko ops l fr hp ks=>stO T n ops fr hp ks l
  |.kx e fr hp ks=>stX fr hp e ks
  |.kn=>.kn
def run(T:Tab)(n:Nat):Nat->Md->Md
  |0,m=>m
  |k+1,m=>run T n k (stp T n m)
theorem stX_ok{Q:Exit->St->Prop}{fr:Fr}{hp:List Blk}{e:Exit}{ks:List Kt}(h:(stX fr hp e ks).goal C Q):post C ks Q e ⟨fr,hp⟩:=by
  cases ks with
  |nil=>exact h.elim
  |cons k ks=>
    cases k with
    |s y=>cases e<;>exact h
    |b i=>
      cases e with
      |exit j=>
        simp only[stX]at h;show qR i (post C ks Q) (.exit j) _;simp only[qR];split at h;rename_i hj;rw[if_pos (dO hj)];exact h;rename_i hj;rw[if_neg (λe=>by rw[e,Nat.beq_refl]at hj;cases hj)];exact h
      |_=>exact h
theorem stS_ok{Q:Exit->St->Prop}{fr:Fr}{hp:List Blk}{ks:List Kt}{y x:Code}(h:(stS fr hp ks y x).goal C Q):TWp C (.seq x y) ⟨fr,hp⟩ (post C ks Q):=by
  cases x with
  |region id ops d=>cases d with
    |false=>exact RS h
    |true=>exact TQ h
  |_=>exact TQ h
theorem stC_ok{Q:Exit->St->Prop}{fr:Fr}{hp:List Blk}{ks:List Kt}{x:Code}(h:(stC fr hp ks x).goal C Q):TWp C x ⟨fr,hp⟩ (post C ks Q):=by
  cases x with
  |seq x y=>exact stS_ok h
  |region id ops d=>cases d with
    |false=>exact TG h
    |true=>exact h.elim
  |skip=>exact TS h
  |ret=>exact TR h
  |exit i=>exact yb h
  |block i x=>exact TB h
  |_=>exact h.elim
theorem stp_ok{T:Tab}(hT:TabOk C.P T){Q:Exit->St->Prop}{m:Md}(h:(stp T C.n m).goal C Q):m.goal C Q:=by
  cases m with
  |kc x fr hp ks=>exact stC_ok h
  |ko ops l fr hp ks=>
    cases l with
    |nil=>exact TN h
    |cons o l=>
      simp only[stp,stO]at h;split at h;rename_i fr' hp' he;exact SA hT he h;exact h.elim
  |kx e fr hp ks=>exact stX_ok h
  |kn=>exact h.elim
theorem run_ok{T:Tab}(hT:TabOk C.P T){Q:Exit->St->Prop}:∀(k:Nat)(m:Md),(run T C.n k m).goal C Q->m.goal C Q
  |0,_,h=>h
  |k+1,_,h=>stp_ok hT (run_ok hT k _ h)
theorem tQ{T:Tab}(hT:TabOk C.P T){Q:Exit->St->Prop}{k:Nat}{m m':Md}(h:run T C.n k m=m')(hm:m'.goal C Q):m.goal C Q:=run_ok hT k m (h ▸ hm)
theorem bK{id:Nat}{ops:Array Oper}{y:Code}{ks:List Kt}{Q:Exit->St->Prop}(hm:C.P.follows .mixedOrders=true)(h:TDr C ops (pn C (.s y::ks) Q) ops.toList st.fr st.hp []):TWp C (.seq (.region id ops true) y) st (post C ks Q):=E3 hm h
theorem tZ{id:Nat}{ops:Array Oper}{y:Code}{Q:Exit->St->Prop}(hm:C.P.follows .mixedOrders=true)(h:TDr C ops (pn C [.s y] Q) ops.toList st.fr st.hp []):TWp C (.seq (.region id ops true) y) st Q:=E3 hm h
theorem eV{id:Nat}{ops:Array Oper}{ks:List Kt}{Q:Exit->St->Prop}(hm:C.P.follows .mixedOrders=true)(h:TDr C ops (pn C ks Q) ops.toList st.fr st.hp []):TWp C (.region id ops true) st (post C ks Q):=yc hm h
theorem fU{id:Nat}{ops:Array Oper}{Q:Exit->St->Prop}(hm:C.P.follows .mixedOrders=true)(h:TDr C ops (pn C [] Q) ops.toList st.fr st.hp []):TWp C (.region id ops true) st Q:=yc hm h
theorem bY{α:Type}{p:Prop}[Decidable p]{x0 y0:Option α}{r:α}{o:Operand}{x y:Code}{Q:Exit->St->Prop}(hm:(if p then x0 else y0)=some r)(hc:st.fr.ev o=.d (.bool (decide p)))
    (h1:decide p=true->x0=some r->TWp C x st Q) (h2:decide p=false->y0=some r->TWp C y st Q):TWp C (.cond o x y) st Q:=
  TC _ hc (λh=>h1 h (JT h hm)) (λh=>h2 h (JF h hm))
theorem mT{α:Type}{p:Prop}[Decidable p]{x0 y0:Option α}{r:α}{o:Operand}{x y:Code}{Q:Exit->St->Prop}(hm:(if p then y0 else x0)=some r)(hc:st.fr.ev o=.d (.bool (!decide p)))
    (h1:(!decide p)=true->x0=some r->TWp C x st Q) (h2:(!decide p)=false->y0=some r->TWp C y st Q):TWp C (.cond o x y) st Q:=
  TC _ hc (λh=>h1 h (sO h hm)) (λh=>h2 h (sP h hm))
theorem bI{α:Type}{p:Bool}{x0 y0:Option α}{r:α}{o:Operand}{x y:Code}{Q:Exit->St->Prop}(hm:(if p=true then x0 else y0)=some r)(hc:st.fr.ev o=.d (.bool p))
    (h1:p=true->x0=some r->TWp C x st Q) (h2:p=false->y0=some r->TWp C y st Q):TWp C (.cond o x y) st Q:=
  TC _ hc (λh=>h1 h (JA h hm)) (λh=>h2 h (JB h hm))
/- A call, and the model's call with it. -/
section calls
variable {ops:Array Oper}{ty:TypeId}{pos:String}{after:Array Edge}{gd:Option (Nat×Bool)}{l:List Oper}{K:St->Prop}{fr:Fr}{hp:List Blk}{acc:List Rec}{d:Nat}{F:FuncId}{f:Operand}{xs:Array Operand}{ts:Array TypeId}{ds:List D}{α β:Type}{m:Option α}{k:α->Option β}{o:β}{e:α->D}
theorem c_N(hm:aE m k=some o)(hf:∀{x},m=some x->RetN C.P F ds (e x))(hd:decide (d<C.n)=true)(hon:wy ops gd fr=some true)(he:fr.ev f=.d (.fn F))(hx:xs.toList.map fr.ev=ds.map .d)
    (hk:∀x,k x=some o->bO C ops l ⟨(d,.d (e x))::fr,hp⟩ K):bO C ops (⟨some d,.call { callee:=.value f,args:=xs,argTypes:=ts },ty,pos,after,gd⟩::l) ⟨fr,hp⟩ K:=by
  obtain⟨x,h1,h2⟩:=BI hm;exact SX hd hon (RN rfl he (hZ hx) (hf h1)) (hk x h2)
theorem c_D(hm:aE m k=some o)(hf:∀{x},m=some x->RetD C.P F ds (e x))(hd:decide (d<C.n)=true)(hon:wy ops gd fr=some true)(he:fr.ev f=.d (.fn F))(hx:xs.toList.map fr.ev=ds.map .d)
    (hk:∀x,k x=some o->bO C ops l ⟨(d,.d (e x))::fr,hp⟩ K):bO C ops (⟨some d,.call { callee:=.value f,args:=xs,argTypes:=ts },ty,pos,after,gd⟩::l) ⟨fr,hp⟩ K:=by
  obtain⟨x,h1,h2⟩:=BI hm;exact SX hd hon (RD rfl he hx (hf h1)) (hk x h2)
theorem cd_N(rs:List Nat)(hm:aE m k=some o)(hf:∀{x},m=some x->RetN C.P F ds (e x))(hd:decide (d<C.n)=true)(hon:wy ops gd fr=some true)(he:fr.ev f=.d (.fn F))(hx:xs.toList.map fr.ev=ds.map .d)
    (hk:∀x,k x=some o->TDr C ops K l ((d,.d (e x))::fr) hp (acc++[⟨true,d,.d (e x),rs,[]⟩])):TDr C ops K (⟨some d,.call { callee:=.value f,args:=xs,argTypes:=ts },ty,pos,after,gd⟩::l) fr hp acc:=by
  obtain⟨x,h1,h2⟩:=BI hm;exact DX rs hd hon (RN rfl he (hZ hx) (hf h1)) (hk x h2)
theorem cd_D(rs:List Nat)(hm:aE m k=some o)(hf:∀{x},m=some x->RetD C.P F ds (e x))(hd:decide (d<C.n)=true)(hon:wy ops gd fr=some true)(he:fr.ev f=.d (.fn F))(hx:xs.toList.map fr.ev=ds.map .d)
    (hk:∀x,k x=some o->TDr C ops K l ((d,.d (e x))::fr) hp (acc++[⟨true,d,.d (e x),rs,[]⟩])):TDr C ops K (⟨some d,.call { callee:=.value f,args:=xs,argTypes:=ts },ty,pos,after,gd⟩::l) fr hp acc:=by
  obtain⟨x,h1,h2⟩:=BI hm;exact DX rs hd hon (RD rfl he hx (hf h1)) (hk x h2)
end calls
theorem aY{α:Type}{f:α->D}{x r:α}{rs:List ResultVar}{st:St}(hm:some x=some r)(h:ef st.fr rs=some (.d (f x))):EndsS P rs (f r) st:=by
  cases hm;exact EndsS.one _ h (.d _) (.refl _)
theorem zJ{α:Type}{x z:α}(ids:List Nat){ks:List Nat}{st:St}{k:Nat}{S:α->St}(hm:some x=some z)(h1:gL ids=true)(h2:∀i,i<k->ids[i]?=some i)(h3:st.canon ks ids=S x):
    ∃j ids',z=j/\gL ids'=true/\(∀i,i<k->ids'[i]?=some i)/\st.canon ks ids'=S j:=⟨x,ids,(aS hm).symm,h1,h2,h3⟩
theorem aZ{α:Type}{x z:α}(ids:List Nat){ks:List Nat}{st:St}{S:α->St}(hm:some x=some z)(h1:gL ids=true)(h3:st.canon ks ids=S x):
    ∃j ids',z=j/\gL ids'=true/\(∀i,i<0->ids'[i]?=some i)/\st.canon ks ids'=S j:=⟨x,ids,(aS hm).symm,h1,λi hi=>absurd hi (pS i),h3⟩
theorem wL{α β:Type}{x:α}{z:α ⊕ β}(ids:List Nat){ks:List Nat}{st:St}{k:Nat}{S:α->St}(hm:some (.inl x)=some z)(h1:gL ids=true)(h2:∀i,i<k->ids[i]?=some i)(h3:st.canon ks ids=S x):
    ∃j ids',z=.inl j/\gL ids'=true/\(∀i,i<k->ids'[i]?=some i)/\st.canon ks ids'=S j:=⟨x,ids,(aS hm).symm,h1,h2,h3⟩
theorem cA{α β:Type}{x:α}{z:α ⊕ β}(ids:List Nat){ks:List Nat}{st:St}{S:α->St}(hm:some (.inl x)=some z)(h1:gL ids=true)(h3:st.canon ks ids=S x):
    ∃j ids',z=.inl j/\gL ids'=true/\(∀i,i<0->ids'[i]?=some i)/\st.canon ks ids'=S j:=⟨x,ids,(aS hm).symm,h1,λi hi=>absurd hi (pS i),h3⟩
section fz
variable {C:Ctx}{T:Tab}{ops:Array Oper}{op:Op}{ty:TypeId}{pos:String}{after:Array Edge}{gd:Option (Nat×Bool)}{l:List Oper}{K:St->Prop}{fr:Fr}{hp:List Blk}{acc:List Rec}{d:Nat}{v:AV}{α:Type}{f:α->D}{xs:List α}
theorem bB(h:(decide (d<C.n),wy ops gd fr)=(true,some true))(hr:RdOk C ⟨some d,op,ty,pos,after,gd⟩ fr.ev hp v)(k:bO C ops l ⟨(d,v)::fr,hp⟩ K):bO C ops (⟨some d,op,ty,pos,after,gd⟩::l) ⟨fr,hp⟩ K:=
  SX (bJ h).1 (bJ h).2 hr k
theorem aU(rs:List Nat)(h:(decide (d<C.n),wy ops gd fr)=(true,some true))(hr:RdOk C ⟨some d,op,ty,pos,after,gd⟩ fr.ev (y4 rs hp) v)(k:TDr C ops K l ((d,v)::fr) hp (acc++[⟨true,d,v,rs,[]⟩])):TDr C ops K (⟨some d,op,ty,pos,after,gd⟩::l) fr hp acc:=
  DX rs (bJ h).1 (bJ h).2 hr k
theorem aX{t e sz by':Nat}{a:Operand}(hT:TabOk C.P T)(h:(decide (d<C.n),wy ops gd fr,lk T.sel t,fr.ev a)=(true,some true,some (e,sz,by'),.d (.sl sz (xs.map f))))
    (k:bO C ops l ⟨(d,.d (.int .i64 (xs.length:Int)))::fr,hp⟩ K):bO C ops (⟨some d,.call { callee:=.builtin .len,args:=#[a],argTypes:=#[t] },ty,pos,after,gd⟩::l) ⟨fr,hp⟩ K:=by
  simp only[oS]at h;exact SX h.1 h.2.1 (oT hT rfl h.2.2.1 h.2.2.2) k
theorem bN{op:BinOp}{t t':TypeId}{x y:Operand}{m n r:Int}(h:(decide (d<C.n),wy ops gd fr,fr.ev x,fr.ev y,G9 op m n)=(true,some true,.d (.int .i64 m),.d (.int .i64 n),some r))(hb:bD r)
    (k:bO C ops l ⟨(d,.d (.int .i64 r))::fr,hp⟩ K):bO C ops (⟨some d,.binOp op t x y t',ty,pos,after,gd⟩::l) ⟨fr,hp⟩ K:=by
  simp only[oS]at h;exact SX h.1 h.2.1 (mG rfl h.2.2.1 h.2.2.2.1 h.2.2.2.2 hb) k
theorem dL{t e sz by':Nat}{a b:Operand}{j:IntKind}{i:Int}{x:α}(hT:TabOk C.P T)(h:(decide (d<C.n),wy ops gd fr,lk T.sel t,fr.ev a,fr.ev b)=(true,some true,some (e,sz,by'),.d (.sl sz (xs.map f)),.d (.int j i)))
    (hx:0<=i/\xs[i.toNat]?=some x) (k:bO C ops l ⟨(d,.d (.ptr (f x) 0))::fr,hp⟩ K):bO C ops (⟨some d,.indexAddr t a b,ty,pos,after,gd⟩::l) ⟨fr,hp⟩ K:=by
  simp only[oS]at h;exact SX h.1 h.2.1 (jQ hT rfl h.2.2.1 h.2.2.2.1 h.2.2.2.2 hx) k
theorem z_callH{f : Operand}{xs : Array Operand}{ts : Array TypeId}{F : FuncId}{c : AV}{cs : List AV}(ids : List Nat){args : List AV}{r : AV}{hh : List Blk}(hret : Ret C.P F hh (fun _ => false) args r hh)
    (h : (decide (d < C.n), wy ops gd fr, r.isRef, AV.mapRef (fwd ids 0) r, (fun n => AV.mapRef (fwd ids n) r), fr.ev f, uQ c, gL ids, (ids.all fun j => cF hp j), (ids.map fun j => ((hp.getD j .dead).mapRef (toName (aR ids))).mapRef (fwd ids 0)), ((xs.toList.map fr.ev) ++ cs).map (AV.mapRef (toName (aR ids))), mO ids hp)
      = (true,some true,false,r,(λ_=>AV.mapRef (fwd ids 0) r),c,some (F,cs),true,true,(ids.map λj=>hp.getD j .dead),args,hh))
    (k:bO C ops l ⟨(d,r)::fr,hp⟩ K):bO C ops (⟨some d,.call { callee:=.value f,args:=xs,argTypes:=ts },ty,pos,after,gd⟩::l) ⟨fr,hp⟩ K:=by
  simp only[oS]at h;obtain⟨h1,h2,h3,h4,h5,h6,h7,h8,h9,h10,h11,h12⟩:=h;exact SX h1 h2 (rd_callH ids ⟨h3,h4,λn=>congrFun h5 n⟩ rfl h6 h7 (eT h8) h9 (Iv h10) h11 h12 hret) k
theorem iE{t e sz by' n:Nat}{parts:Array (Nat×Operand)}{z:Value}(ls:List Operand)(hT:TabOk C.P T){ds:List D}
    (h:(decide (d<C.n),wy ops gd fr,lk T.sel t,parts.toList,evD (ls.map fr.ev),Nat.beq ds.length n,(ds.all λd=>Nat.beq d.cells.length sz),Nat.ble (n*sz) 16777216)=(true,some true,some (e,sz,by'),(ls.zipIdx 0).map (λx=>(x.2,x.1)),some ds,true,true,true))
    (hz:(C.P.info? e).bind (·.zero)=some z) (k:bO C ops l ⟨(d,.d (.sl sz ds))::fr,hp⟩ K):bO C ops (⟨some d,.buildSlice t n parts,ty,pos,after,gd⟩::l) ⟨fr,hp⟩ K:=by
  simp only[oS]at h;obtain⟨h1,h2,h3,h4,h5,h6,h7,h8⟩:=h;exact SX h1 h2 (pO ls hT rfl h3 hz h4 h5 h6 h7 h8) k
theorem aB{c:Code}{Q:Exit->St->Prop}{fr fr':Fr}{hp hp':List Blk}(ks:List Nat)(h:(xU fr ks,Fz hp)=(some fr',some hp'))(k:TWp C c ⟨fr',hp'⟩ Q):TWp C c ⟨fr,hp⟩ Q:=
  WN ks (bJ h).1 (bJ h).2 k
theorem bF{c:Code}{Q:Exit->St->Prop}{σ ρ:Type}{f:σ->Option (σ ⊕ ρ)}{s0:σ}{o:ρ}(hm:bQ f s0=some o){fr:Fr}{hp:List Blk}(var:σ->Fr)(chg:σ->List (Nat×Blk))(vk ik ids:List Nat){inv:Fr}{hp0:List Blk}(hk:∀i,i<C.k->ids[i]?=some i)
    (h:(gL ids,xU fr ik,Fr.mapRef (toName (aR ids)) inv,Fr.mapRef (toName (aR ids)) (Fr.keep vk fr),ids.map (λi=>(hp.getD i .dead).mapRef (toName (aR ids))),hp0)=(true,some inv,inv,var s0,hp0,wr (chg s0) hp0))
    (round:∀s x,f s=some x->(∀v,x=.inr v->v=o)->TWp C c ⟨var s++inv,wr (chg s) hp0⟩ (lT (λst'=>∃s' ids',x=.inl s'/\gL ids'=true/\(∀i,i<C.k->ids'[i]?=some i)/\st'.canon (vk++ik) ids'=⟨var s'++inv,wr (chg s') hp0⟩) Q)):TWp C (.loop c) ⟨fr,hp⟩ Q:=by
  simp only[oS]at h;obtain⟨h1,h2,h3,h4,h5,h6⟩:=h;exact w_loop hm var chg vk ik ids h1 hk h2 h3 h4 h5 h6 round
end fz
section fzc
variable {C:Ctx}{ops:Array Oper}{ty:TypeId}{pos:String}{after:Array Edge}{gd:Option (Nat×Bool)}{l:List Oper}{K:St->Prop}{fr:Fr}{hp:List Blk}{acc:List Rec}{d:Nat}{F:FuncId}{f:Operand}{xs:Array Operand}{ts:Array TypeId}{ds:List D}{α β:Type}{m:Option α}{k:α->Option β}{o:β}{e:α->D}
theorem dI(hm:aE m k=some o)(hf:∀{x},m=some x->RetN C.P F ds (e x))(h:(decide (d<C.n),wy ops gd fr,fr.ev f,xs.toList.map fr.ev)=(true,some true,.d (.fn F),ds.map .d))
    (hk:∀x,k x=some o->bO C ops l ⟨(d,.d (e x))::fr,hp⟩ K):bO C ops (⟨some d,.call { callee:=.value f,args:=xs,argTypes:=ts },ty,pos,after,gd⟩::l) ⟨fr,hp⟩ K:=by
  simp only[oS]at h;exact c_N hm hf h.1 h.2.1 h.2.2.1 h.2.2.2 hk
theorem iK(hm:aE m k=some o)(hf:∀{x},m=some x->RetD C.P F ds (e x))(h:(decide (d<C.n),wy ops gd fr,fr.ev f,xs.toList.map fr.ev)=(true,some true,.d (.fn F),ds.map .d))
    (hk:∀x,k x=some o->bO C ops l ⟨(d,.d (e x))::fr,hp⟩ K):bO C ops (⟨some d,.call { callee:=.value f,args:=xs,argTypes:=ts },ty,pos,after,gd⟩::l) ⟨fr,hp⟩ K:=by
  simp only[oS]at h;exact c_D hm hf h.1 h.2.1 h.2.2.1 h.2.2.2 hk
theorem gA(rs:List Nat)(hm:aE m k=some o)(hf:∀{x},m=some x->RetN C.P F ds (e x))(h:(decide (d<C.n),wy ops gd fr,fr.ev f,xs.toList.map fr.ev)=(true,some true,.d (.fn F),ds.map .d))
    (hk:∀x,k x=some o->TDr C ops K l ((d,.d (e x))::fr) hp (acc++[⟨true,d,.d (e x),rs,[]⟩])):TDr C ops K (⟨some d,.call { callee:=.value f,args:=xs,argTypes:=ts },ty,pos,after,gd⟩::l) fr hp acc:=by
  simp only[oS]at h;exact cd_N rs hm hf h.1 h.2.1 h.2.2.1 h.2.2.2 hk
theorem zR(rs:List Nat)(hm:aE m k=some o)(hf:∀{x},m=some x->RetD C.P F ds (e x))(h:(decide (d<C.n),wy ops gd fr,fr.ev f,xs.toList.map fr.ev)=(true,some true,.d (.fn F),ds.map .d))
    (hk:∀x,k x=some o->TDr C ops K l ((d,.d (e x))::fr) hp (acc++[⟨true,d,.d (e x),rs,[]⟩])):TDr C ops K (⟨some d,.call { callee:=.value f,args:=xs,argTypes:=ts },ty,pos,after,gd⟩::l) fr hp acc:=by
  simp only[oS]at h;exact cd_D rs hm hf h.1 h.2.1 h.2.2.1 h.2.2.2 hk
end fzc
end Go.TL
set_option linter.unusedVariables false
set_option linter.unusedSimpArgs false
set_option linter.unusedSectionVars false
set_option maxHeartbeats 1000000
namespace Go.TL
open Go
section fz
variable {C:Ctx}{T:Tab}{ops:Array Oper}{op:Op}{ty:TypeId}{pos:String}{after:Array Edge}{gd:Option (Nat×Bool)}{l:List Oper}{K:St->Prop}{fr:Fr}{hp:List Blk}{acc:List Rec}{d:Nat}{v:AV}{α:Type}{f:α->D}{xs:List α}
end fz
section fzc
variable {C:Ctx}{ops:Array Oper}{ty:TypeId}{pos:String}{after:Array Edge}{gd:Option (Nat×Bool)}{l:List Oper}{K:St->Prop}{fr:Fr}{hp:List Blk}{acc:List Rec}{d:Nat}{F:FuncId}{f:Operand}{xs:Array Operand}{ts:Array TypeId}{ds:List D}{α β:Type}{m:Option α}{k:α->Option β}{o:β}{e:α->D}
end fzc
variable {C:Ctx}{st:St}{g:Gh}{a:Act}{w:World}
theorem Ej{o:Oper}{t e:TypeId}{x y:Operand}(sz by':Nat)(c:Int)(z:Value)(ho:o.op=.makeSlice t x y)(hl:sel C.P t=some (e,sz,by'))(hz:(C.P.info? e).bind (·.zero)=some z)
    (hx:st.fr.ev x=.d (.int .i64 0)) (hy:st.fr.ev y=.d (.int .i64 c)) (h0:0<=c) (hb:(by':Int)*c<=281474976710656) (hm:c<=9223372036854775807)
    (hs:Sim C st g a w):∃vs:Array Value,(execOp a.eval o).run C.P w=.ok (.value (.slice (some ⟨w.heap.size,0,none⟩) 0 c.toNat)) (w.alloc (.cells vs e))/\vs.size=c.toNat*sz:=by
  obtain⟨inf,hu,hi,hsz,hby⟩:=lM hl;obtain⟨i',hi',hzero⟩:=nB hz;cases hi.symm.trans hi';have hvx:=hs.ev x;rw[hx]at hvx;have hvy:=hs.ev y;rw[hy]at hvy;have hrun:=run_make (P:=C.P) w t e inf z hu hi hzero .i64 .i64 0 c (jV _) h0 (by rw[hby];exact hb) hm;refine⟨madeCells z.cells (c.toNat*inf.size),?_,by rw[size_madeCells,hsz]⟩;simp only[execOp,ho,int_inv hvx,int_inv hvy,Sem.run_bind,hrun,Result.andThen_ok,Sem.run_pure];rfl
section
variable {T:Tab}{ops:Array Oper}{ty:TypeId}{pos:String}{after:Array Edge}{l:List Oper}{K:St->Prop}{fr:Fr}{hp:List Blk}{d:Nat}{α:Type}{f:α->D}
theorem s_mkC{t e sz by':Nat}{a b:Operand}{z:Value}{n:Int}(N:Nat)(hT:TabOk C.P T)(hd:decide (d<C.n)=true)(hN:Nat.beq hp.length N=true)(hl:lk T.sel t=some (e,sz,by'))(hz:(C.P.info? e).bind (·.zero)=some z)(ha:fr.ev a=.d (.int .i64 0))(hb:fr.ev b=.d (.int .i64 n))(hby:Nat.ble by' 100000=true)(hn:0<=n/\n<=1000000000)
    (h:bO C ops l ⟨(d,.msl N sz 0 ([]:List α).length)::fr,hp++[.flat e sz (([]:List α).map f)]⟩ K):bO C ops (⟨some d,.makeSlice t a b,ty,pos,after,none⟩::l) ⟨fr,hp⟩ K:=by
  obtain⟨m,rfl⟩:=xq hn.1;have h1:=dK hby;have h2:m<=1000000000:=by omega
  have h3:by'*m<=100000*1000000000:=vB h1 h2
  have e0:=dO hN;subst e0;refine cU rfl (OpOk.change λg aa w hs=>?_);obtain⟨vs,hr,hv⟩:=Ej (o:=⟨some d,.makeSlice t a b,ty,pos,after,none⟩) (st:=⟨fr,hp⟩) sz by' (m:Int) z rfl (hT.sel hl) hz ha hb (by omega) (by rw[<- Int.natCast_mul];omega) (by omega) hs
  obtain⟨q1,q2⟩:=eq (ty:=e) (sz:=sz) (es:=[]) (vs:=vs) hs (by simp) (λi e he=>by simp at he) (λi e j c he=>by simp at he) (λi e j c he=>by simp at he);refine⟨_,_,hr,_,_,by simpa[St.put]using h,q1.put' (d:=some d) (show kZ C.n (some d)=true from hd) ?_⟩;have:=q2 m (by simp) (by rw[hv];simp);simpa using this
theorem s_apN{t e sz by':Nat}{x y:Operand}{u:AV}{z:Value}(N:Nat)(ys:List α)(hT:TabOk C.P T)(hd:decide (d<C.n)=true)(hN:Nat.beq hp.length N=true)(hl:lk T.sel t=some (e,sz,by'))(hz:(C.P.info? e).bind (·.zero)=some z)(hzs:Nat.beq z.cells.size sz=true)(hby:Nat.ble by' 100000=true)(hx:fr.ev x=.d .nilsl)
    (hy:fr.ev y=u) (hu:SrcA hp sz (ys.map f) u) (hg:ys.length<=1000000000) (h:bO C ops l ⟨(d,.msl N sz 0 ys.length)::fr,hp++[.flat e sz (ys.map f)]⟩ K):
    bO C ops (⟨some d,.call { callee:=.builtin .append,args:=#[x,y],argTypes:=#[t,t] },ty,pos,after,none⟩::l) ⟨fr,hp⟩ K:=by
  have e0:=dO hN;subst e0;have h1:=dK hby;have h3:ys.length*by'<=1000000000*100000:=vB hg h1
  exact Dl hd (hT.sel hl) hz (dO hzs) hx hy hu (by rw[Bo];omega) (by rw[Bo];omega) (by rw[Bo];exact h)
end
theorem run_cutF{P:Program}{t e:TypeId}{s by':Nat}(h:sel P t=some (e,s,by'))(w:World)(ad:Option Addr)(len cap:Nat)(k k':IntKind)(hc:len<=cap):
    (Instr.sliceAt t (.slice ad len cap) none (some (.int k len)) (some (.int k' len))).run P w=.ok (.slice (if len=0 then ad else ad.map (·.add 0)) len len) w:=by
  obtain⟨inf,hu,hi',hs,_⟩:=lM h
  have e1:∀k:IntKind,∀(n y:Nat)(c:BoundsCode),n<=y->(Instr.sliceBound (.int k (n:Int)) y c).run P w=.ok n w:=λk n y c hle=>by
    have:=run_sliceBound (P:=P) (w:=w) k (n:Int) y c (by omega) (by omega);simpa using this
  simp[Instr.sliceAt,Instr.slice,run_underlying hu,Instr.sliceBounds,sizeOf,typeInfo,hi',hs,e1,hc]
theorem x_cutF{T:Tab}{o:Oper}{ev:Operand->AV}{hp:List Blk}{α:Type}{f:α->D}{xs:List α}{t e sz by':Nat}{x h m:Operand}{k k':IntKind}(hT:TabOk C.P T)(ho:o.op=.slice t x none (some h) (some m))(hl:lk T.sel t=some (e,sz,by'))(hx:ev x=.d (.sl sz (xs.map f)))(hh:ev h=.d (.int k (xs.length:Int)))(hm:ev m=.d (.int k' (xs.length:Int))):RdOk C o ev hp (.d (.sl sz (xs.map f))):=
  RdOk.mk λst hhp hag g a w hs=>by
    have v1:=hs.ev x;rw[hag x (by simp[ho,Op.operands]),hx]at v1;have v2:=hs.ev h;rw[hag h (by simp[ho,Op.operands]),hh]at v2;have v3:=hs.ev m;rw[hag m (by simp[ho,Op.operands]),hm]at v3;generalize hev:a.eval x=vx at *;have hlen:(xs.map f).length=xs.length:=Bo _;generalize hes:xs.map f=es at *
    have hrun:∀ad cap,vx=.slice ad es.length cap->es.length<=cap->(execOp a.eval o).run C.P w=.ok (.value (.slice (if es.length=0 then ad else ad.map (·.add 0)) es.length es.length)) w:=by
      intro ad cap hv hc;have:=run_cutF (hT.sel hl) w ad es.length cap k k' hc;rw[<- hlen]at v2 v3;simp only[execOp,ho,hev,hv,Option.map_none,gO,int_inv v2,int_inv v3,Sem.run_bind,this,Result.andThen_ok,Sem.run_pure]
    cases v1 with
    |d _ _ v1=>
      cases v1 with
      |sl0 _ ad cap=>
        have:=hrun ad cap rfl (cN _);exact⟨_,this,.d _ _ (.sl0 _ _ _)⟩
      |sl _ _ ad cap val hX hc hs' h1' hv hr=>
        refine⟨_,hrun (some ad) cap rfl hc,.d _ _ ?_⟩;by_cases he:es.length=0;obtain rfl:=List.length_eq_zero_iff.1 he;exact .sl0 _ _ _;rw[if_neg he];exact .sl sz es (ad.add 0) es.length val (by rw[sB];exact hX) (wt _) hs' h1' (λi e j c he hc=>by rw[yM,eL];exact hv i e j c he hc) hr
end Go.TL
set_option linter.unusedVariables false
set_option linter.unusedSimpArgs false
set_option maxHeartbeats 1000000
set_option maxRecDepth 100000
namespace Go.TL
open Go
variable {C:Ctx}{o:Oper}{ev:Operand->AV}{hp:List Blk}{t:TypeId}{x y:Operand}
theorem vm{w:World}{n j:Nat}{vs:List Value}{t:TypeId}{fz:Nat×Nat}(h:w.heap[n]?=some (.cells vs.toArray t fz)){u:Value}(hj:vs[j]?=some u):w.cell? ((⟨n,0,none⟩:Addr).add j)=some u:=by
  rw[qF,cell_of_row w n _ vs.toArray t fz h];simpa using hj
theorem x_ldG{n s:Nat}{d:D}(ho:o.op=.load t (.global n))(hl:lay C.P t=some (true,s))(hm:(n,d.cells.map D.val)∈zF)(h1:d.one=false)(hs:(d.cells.all D.scal)=true)(hn:Nat.beq d.cells.length s=true):RdOk C o ev hp (.d d):=
  RdOk.mk λst hhp hag g a w hsim=>by
    obtain⟨⟨t',fz,e⟩,_⟩:=hsim.laidW _ hm;have hlen:=dO hn;exact⟨_,iG ho rfl (kV hl w ⟨n,0,none⟩ (d.cells.map D.val) (by rw[Bo];exact hlen) (λj u hj=>vm e hj)),.d _ _ (Eu h1 hs)⟩
theorem Ed{α:Type}{f:α->List D}{s:Nat}(hs:∀x,(f x).length=s):∀{xs:List α}{i:Nat}{z:α},xs[i]?=some z->∀j,j<s->(xs.flatMap f)[i*s+j]?=(f z)[j]?
  |[],i,z,h,j,hj=>by simp at h
  |x::xs,0,z,h,j,hj=>by
    simp at h;subst h;rw[List.flatMap_cons,yT,eL,List.getElem?_append_left (by rw[hs];exact hj)]
  |x::xs,i+1,z,h,j,hj=>by
    have h':xs[i]?=some z:=by simpa using h
    rw[List.flatMap_cons,List.getElem?_append_right (by rw[hs,rK];omega),hs,<- Ed hs h' j hj]
    congr 1
    rw[rK];omega
theorem Gk{α:Type}{f:α->List D}{s:Nat}(hs:∀x,(f x).length=s):∀(xs:List α),(xs.flatMap f).length=xs.length*s
  |[]=>by simp
  |x::xs=>by rw[List.flatMap_cons,qn,hs,Gk hs xs,eK,rK,tJ]
theorem x_ixA{e:TypeId}{n s:Nat}{α:Type}{f:α->D}{xs:List α}{k:IntKind}{i:Int}{z:α}(hs:∀x,(f x).cells.length=s)(hf:∀x,f x=.agg (f x).cells)(ho:o.op=.index t x y)(hu:C.P.underlying t=some (.array n e))(hl:lay C.P e=some (true,s))(hx:ev x=.d (.agg (xs.flatMap λx=>(f x).cells)))(hy:ev y=.d (.int k i))(h:0<=i/\xs[i.toNat]?=some z)(hn:Nat.beq n xs.length=true):RdOk C o ev hp (.d (f z)):=
  RdOk.mk λst hhp hag g a w hsim=>by
    have hv:=hsim.ev x;rw[hag x (by simp[ho,Op.operands]),hx]at hv;have hi:=hsim.ev y;rw[hag y (by simp[ho,Op.operands]),hy]at hi;generalize he:a.eval x=vx at *;have hlt:=(zQQ.1 h.2).1;have hn':=dO hn;obtain⟨h1,h2⟩:=vM hl w
    cases hv with
    |d _ _ hd=>
      cases hd with
      |agg cs vs hlen hone hrep=>
        have hsz:vs.size=xs.length*s:=by rw[<- hlen,Gk hs]
        have hle:i.toNat*s+s<=vs.size:=by rw[hsz,<- Nat.succ_mul];exact iW s hlt
        have hi2:i<(n:Int):=by omega
        refine⟨.agg (vs.extract (i.toNat*s) (i.toNat*s+s)),?_,?_⟩;simp only[execOp,ho,he,int_inv hi];simp[Instr.index,run_underlying hu,asIntOf,h.1,hi2,part,h1,h2];rw[hf z];refine .d _ _ (.agg _ _ (by rw[hs,Array.size_extract];omega) (λc hc=>?_) λj c v hc hv=>?_);obtain⟨j,hj⟩:=zal75q.1 hc;have hjs:j<s:=by rw[<- hs z];exact(zQQ.1 hj).1
        exact hone c (zal75q.2 ⟨i.toNat*s+j,by rw[Ed hs h.2 j hjs];exact hj⟩);have hjs : j < s := by rw [<- hs z]; exact (zQQ.1 hc).1
        refine hrep (i.toNat*s+j) c v (by rw[Ed hs h.2 j hjs];exact hc) ?_;rw[Array.getElem?_extract]at hv;split at hv;exact hv;cases hv
theorem RdOk.weakD{d d':D}(h:RdOk C o ev hp (.d d))(hd:DLe d d'):RdOk C o ev hp (.d d'):=λst h1 h2 g a w hs Q K' hK=>h st h1 h2 g a w hs Q K' λv w' g' hs' hr=>hK v w' g' hs' (by cases hr with|d _ _ hr=>exact .d _ _ (hd _ _ _ hr))
variable {C:Ctx}
theorem s_ldGI{ops:Array Oper}{ty1 ty2:TypeId}{p1 p2:String}{af1 af2:Array Edge}{l:List Oper}{K:St->Prop}{fr:Fr}{hp:List Blk}{d1 d2 t e n m:Nat}{y:Operand}{k:IntKind}{i:Int}{xs:List Int}{x:Int}
    (hd1:decide (d1<C.n)=true) (hd2:decide (d2<C.n)=true) (hu:C.P.underlying t=some (.array m e)) (hl:lay C.P e=some (false,1)) (hm:(n,xs.map (Value.int .i64))∈zF) (hlen:Nat.beq xs.length m=true)
    (hy:fr.ev y=.d (.int k i)) (hi:0<=i/\xs[i.toNat]?=some x) (h:bO C ops l ⟨(d2,.d (.int .i64 x))::(d1,.junk)::fr,hp⟩ K):
    bO C ops (⟨some d1,.indexAddr t (.global n) y,ty1,p1,af1,none⟩::⟨some d2,.load e (.tmp d1),ty2,p2,af2,none⟩::l) ⟨fr,hp⟩ K:=by
  intro g a w hs;obtain⟨⟨t',fz,hh⟩,_⟩:=hs.laidW _ hm;have hv:=hs.ev y;rw[hy]at hv;have hlt:=(zQQ.1 hi.2).1;have hm':=dO hlen;have hsz:=(vM hl w).2
  have r1:(execOp a.eval ⟨some d1,.indexAddr t (.global n) y,ty1,p1,af1,none⟩).run C.P w=.ok (.value (.pointer (some ((⟨n,0,none⟩:Addr).add i.toNat)))) w:=by
    have hlt2:i<(m:Int):=by omega
    have hg:a.eval (.global n)=.pointer (some ⟨n,0,none⟩):=rfl;obtain⟨h1,h2⟩:=vM hl w;simp only[execOp,int_inv hv,hg];simp[Instr.indexAt,run_underlying hu,Instr.sureAddr,asIntOf,hi.1,hlt2,h2]
  have hlt3:d1<a.tmps.size:=by rw[hs.size];exact of_decide_eq_true hd1
  have hs1:=hs.put' (d:=some d1) (show kZ C.n (some d1)=true from hd1) (x:=.junk) (v:=.pointer (some ((⟨n,0,none⟩:Addr).add i.toNat))) (.junk _)
  have r2:(execOp (a.put (some d1) (.pointer (some ((⟨n,0,none⟩:Addr).add i.toNat)))).eval ⟨some d2,.load e (.tmp d1),ty2,p2,af2,none⟩).run C.P w=.ok (.value (.int .i64 x)) w:=by
    refine iG rfl (ad:=(⟨n,0,none⟩:Addr).add i.toNat) ?_ (kU hl w _ _ (vm hh (by rw[qU,hi.2];rfl)));simp[Act.put,Act.eval,hlt3]
  unfold wpList;rw[if_pos (by simp[Region.wanted])];left;simp only[Oper.wp,r1,Oper.upon_value];unfold wpList;rw[if_pos (by simp[Region.wanted])];left;simp only[Oper.wp,r2,Oper.upon_value];exact h _ _ _ (hs1.put' (d:=some d2) (show kZ C.n (some d2)=true from hd2) (.d _ _ (.int _ _)))
theorem Ke{P:Program}(w:World)(b:Nat)(s:ByteArray)(pos:Nat)(ty:TypeId)(hb:w.heap[b]?=some (.stringIter s pos))(h:pos<s.size):
    (Instr.next (.pointer (some ⟨b,0,none⟩)) true ty).run P w=.ok (.tuple #[.bool true,.int .i64 pos,.int .i32 (Utf8.decode s pos).1]) (w.putObj b (.stringIter s (pos+(Utf8.decode s pos).2))):=by
  obtain⟨hlt,h1⟩:=zal5q.1 hb;simp[Instr.next,getObj,setObj,Sem.run,h1,h,goInt,hlt,World.putObj]
theorem Kf{P:Program}(w:World)(b:Nat)(s:ByteArray)(pos:Nat)(ty:TypeId)(hb:w.heap[b]?=some (.stringIter s pos))(h:¬pos<s.size):
    (Instr.next (.pointer (some ⟨b,0,none⟩)) true ty).run P w=.ok (.tuple #[.bool false]) w:=by
  obtain⟨hlt,h1⟩:=zal5q.1 hb;simp[Instr.next,getObj,Sem.run,h1,h,hlt]
theorem tup3_rep{w:World}{g:Gh}{b:Bool}{x y:Int}:ARep w g (.tup [.d (.bool b),.d (.int .i64 x),.d (.int .i32 y)]) (.tuple #[.bool b,.int .i64 x,.int .i32 y]):=.tup _ _ rfl λi c v hc hv=>by
  rcases i with _|_|_|i
  simp at hc hv;subst hc hv;exact .d _ _ (.bool _);simp at hc hv;subst hc hv;exact .d _ _ (.int _ _);simp at hc hv;subst hc hv;exact .d _ _ (.int _ _);simp at hc
theorem tup1_rep{w:World}{g:Gh}{b:Bool}:ARep w g (.tup [.d (.bool b)]) (.tuple #[.bool b]):=.tup _ _ rfl λi c v hc hv=>by
  rcases i with _|i
  simp at hc hv;subst hc hv;exact .d _ _ (.bool _);simp at hc
section
variable {C:Ctx}{ops:Array Oper}{ty:TypeId}{pos:String}{after:Array Edge}{l:List Oper}{K:St->Prop}{fr:Fr}{hp:List Blk}{d:Nat}{x:Operand}{S:ByteArray}
theorem s_range{t:TypeId}(N:Nat)(hd:decide (d<C.n)=true)(hN:Nat.beq hp.length N=true)(hu:C.P.underlying t=some .string)(hx:fr.ev x=.d (.str S))(h:bO C ops l ⟨(d,.mptr N 0 0 0)::fr,hp++[.ob (.stringIter S 0)]⟩ K):
    bO C ops (⟨some d,.range t x,ty,pos,after,none⟩::l) ⟨fr,hp⟩ K:=by
  have e0:=dO hN;subst e0;refine cU rfl (OpOk.change λg a w hs=>?_);have hv:=hs.ev x;rw[show(⟨fr,hp⟩:St).fr.ev x=fr.ev x from rfl,hx]at hv
  have hr:(execOp a.eval ⟨some d,.range t x,ty,pos,after,none⟩).run C.P w=.ok (.value (.pointer (some ⟨w.heap.size,0,none⟩))) (w.alloc (.stringIter S 0)):=by
    generalize he:a.eval x=v at hv
    cases hv with
    |d _ _ hv=>
      cases hv;simp only[execOp,he,Sem.run_bind,run_range_string w t S hu,Result.andThen_ok,Sem.run_pure,World.iter]
  have hs1:=hs.alloc (o:=.stringIter S 0) (n:=0) (B:=.ob (.stringIter S 0)) ⟨w.heap.size,by simp[Gh.new,upd],World.alloc_heap_new w _⟩;refine⟨_,_,hr,_,_,h,hs1.put' (d:=some d) (show kZ C.n (some d)=true from hd) ?_⟩;have:=ARep.mptr (w:=w.alloc (.stringIter S 0)) (g:=g.new hp.length w.heap.size 0) hp.length 0 0 0 w.heap.size (by simp[Gh.new,upd]);simpa using this
theorem s_nextY{i p:Nat}(hd:decide (d<C.n)=true)(hx:fr.ev x=.mptr i 0 0 0)(hb:hp[i]?=some (.ob (.stringIter S p)))(hlt:p<S.size)
    (h:bO C ops l ⟨(d,.tup [.d (.bool true),.d (.int .i64 p),.d (.int .i32 (Utf8.decode S p).1)])::fr,hp.set i (.ob (.stringIter S (p+(Utf8.decode S p).2)))⟩ K):
    bO C ops (⟨some d,.next x true,ty,pos,after,none⟩::l) ⟨fr,hp⟩ K:=by
  refine cU rfl (OpOk.change λg a w hs=>?_);have hv:=hs.ev x;rw[show(⟨fr,hp⟩:St).fr.ev x=fr.ev x from rfl,hx]at hv;obtain⟨b,hpb,hw⟩:=hs.hp i _ hb;have hX:=(hs.lt i b hpb).2.2;have hltb:=(hs.lt i b hpb).1
  have hr:(execOp a.eval ⟨some d,.next x true,ty,pos,after,none⟩).run C.P w=.ok (.value (.tuple #[.bool true,.int .i64 p,.int .i32 (Utf8.decode S p).1])) (w.putObj b (.stringIter S (p+(Utf8.decode S p).2))):=by
    generalize he:a.eval x=v at hv
    cases hv with
    |mptr _ _ _ _ b' hb'=>
      cases hpb.symm.trans hb';simp only[execOp,he,Sem.run_bind,Ke w b S p _ hw hlt,Result.andThen_ok,Sem.run_pure]
  have hs1:=hs.change hb (λe=>by cases e) hpb World.putObj_size rfl rfl rfl (wt _) (λb' hb'=>World.putObj_heap_other hb') (B:=.ob (.stringIter S (p+(Utf8.decode S p).2))) ⟨b,hpb,World.putObj_heap_same hltb⟩;refine⟨_,_,hr,_,_,h,hs1.put' (d:=some d) (show kZ C.n (some d)=true from hd) ?_⟩;exact tup3_rep
theorem s_nextN{i p:Nat}(hd:decide (d<C.n)=true)(hx:fr.ev x=.mptr i 0 0 0)(hb:hp[i]?=some (.ob (.stringIter S p)))(hlt:¬p<S.size)
    (h:bO C ops l ⟨(d,.tup [.d (.bool false)])::fr,hp⟩ K):bO C ops (⟨some d,.next x true,ty,pos,after,none⟩::l) ⟨fr,hp⟩ K:=by
  refine cU rfl (OpOk.change λg a w hs=>?_);have hv:=hs.ev x;rw[show(⟨fr,hp⟩:St).fr.ev x=fr.ev x from rfl,hx]at hv;obtain⟨b,hpb,hw⟩:=hs.hp i _ hb
  have hr:(execOp a.eval ⟨some d,.next x true,ty,pos,after,none⟩).run C.P w=.ok (.value (.tuple #[.bool false])) w:=by
    generalize he:a.eval x=v at hv
    cases hv with
    |mptr _ _ _ _ b' hb'=>
      cases hpb.symm.trans hb';simp only[execOp,he,Sem.run_bind,Kf w b S p _ hw hlt,Result.andThen_ok,Sem.run_pure]
  refine⟨_,_,hr,_,_,h,hs.put' (d:=some d) (show kZ C.n (some d)=true from hd) ?_⟩;exact tup1_rep
end
section
variable {P:Program}{a:Act}{w:World}{Q:Exit->Act->World->Prop}
theorem Bq{c rest:Code}(l:Nat)(J:Nat->Act->World->Prop)(hf:findLabel c l=some rest)
    (first:c.wp P (Exit.jump l (λa w=>∃n,J n a w) Q) a w)
    (pass:∀n a w,J n a w->rest.wp P (Exit.jump l (λa' w'=>∃m,m<n/\J m a' w') Q) a w):(Code.scope c).wp P Q a w:=by
  intro b k cs;have hg:gotoIn l (.inScope c::k)=some (.code rest::.inScope c::k):=by simp[gotoIn,hf]
  have key:∀n a w,J n a w->∃e a' w',Q e a' w'/\Arrives P (lone (b.at a (.code rest::.inScope c::k)) cs w) b k cs e a' w':=by
    intro n
    induction n using Nat.strongRecOn with
    |_ n ih=>
      intro a w hJ;obtain⟨e,a₁,w₁,hq,harr⟩:=pass n a w hJ b (.inScope c::k) cs
      cases e with
      |normal=>exact⟨.normal,a₁,w₁,hq,Steps.trans harr (.one step_inScope)⟩
      |exit id=>exact⟨.exit id,a₁,w₁,hq,λk' hk=>harr k' (by simp[exitTo,hk])⟩
      |goto l'=>
        obtain⟨rfl,m,hlt,hJ'⟩:=hq;obtain⟨e₂,a₂,w₂,hq₂,harr₂⟩:=ih m hlt a₁ w₁ hJ';exact⟨e₂,a₂,w₂,hq₂,.of_steps (harr _ hg) harr₂⟩
      |ret=>exact⟨_,a₁,w₁,hq,harr⟩
      |panic ch=>exact⟨_,a₁,w₁,hq,harr⟩
      |outgrown=>exact⟨_,a₁,w₁,hq,harr⟩
  obtain⟨e,a₁,w₁,hq,harr⟩:=first b (.inScope c::k) cs
  cases e with
  |normal=>exact⟨.normal,a₁,w₁,hq,.head step_scope (Steps.trans harr (.one step_inScope))⟩
  |exit id=>exact⟨.exit id,a₁,w₁,hq,λk' hk=>.head step_scope (harr k' (by simp[exitTo,hk]))⟩
  |goto l'=>
    obtain⟨rfl,n,hJ'⟩:=hq;obtain⟨e₂,a₂,w₂,hq₂,harr₂⟩:=key n a₁ w₁ hJ';exact⟨e₂,a₂,w₂,hq₂,.of_steps (.head step_scope (harr _ hg)) harr₂⟩
  |ret=>exact⟨_,a₁,w₁,hq,.of_steps (.one step_scope) harr⟩
  |panic ch=>exact⟨_,a₁,w₁,hq,.of_steps (.one step_scope) harr⟩
  |outgrown=>exact⟨_,a₁,w₁,hq,.of_steps (.one step_scope) harr⟩
end
section
variable {C:Ctx}{st:St}{Q:Exit->St->Prop}
def vh(l:Nat)(J:St->Prop)(Q:Exit->St->Prop):Exit->St->Prop
  |.goto l',st=>l'=l/\J st
  |e,st=>Q e st
theorem Ga{c:Code}{l:Nat}{J:St->Prop}{J':Act->World->Prop}{a:Act}{w:World}(hJ:∀st g a w,J st->Sim C st g a w->J' a w)
    (h:c.wp C.P (λe a' w'=>∃st' g',vh l J Q e st'/\Sim C st' g' a' w') a w):c.wp C.P (Exit.jump l J' λe a' w'=>∃st' g',Q e st'/\Sim C st' g' a' w') a w:=
  Go.wp_mono h λe a' w' ⟨st',g',hq,hs⟩=>by
    cases e with
    |goto l'=>exact⟨hq.1,hJ _ _ _ _ hq.2 hs⟩
    |normal=>exact⟨st',g',hq,hs⟩
    |exit id=>exact⟨st',g',hq,hs⟩
    |ret=>exact⟨st',g',hq,hs⟩
    |panic ch=>exact⟨st',g',hq,hs⟩
    |outgrown=>exact⟨st',g',hq,hs⟩
theorem J5{c rest : Code}(l : Nat)(hf : findLabel c l = some rest)(I : Nat -> St -> Prop)(first : TWp C c st (vh l (fun st' => ∃ n, I n st') Q))
    (pass:∀n st,I n st->TWp C rest st (vh l (λst'=>∃m,m<n/\I m st') Q)):TWp C (.scope c) st Q:=λg a w hs=>
  Bq l (fun n a w => ∃ st g, I n st /\ Sim C st g a w) hf (Ga (fun st g a w ⟨n, h⟩ hs => ⟨n, st, g, h, hs⟩) (first g a w hs))
    λn a w ⟨st,g,hI,hs⟩=>Ga (λst g a w ⟨m,hm,h⟩ hs=>⟨m,hm,st,g,h,hs⟩) (pass n st hI g a w hs)
theorem J6{l:Nat}(h:Q .normal st):TWp C (.label l) st Q:=λg a w hs=>wp_label ⟨st,g,h,hs⟩
theorem twp_goto{l:Nat}(h:Q (.goto l) st):TWp C (.goto l) st Q:=λg a w hs=>wp_goto ⟨st,g,h,hs⟩
theorem w_scope{rest:Code}{σ ρ:Type}{f:σ->Option (σ ⊕ ρ)}{s0:σ}{o:ρ}(l:Nat)(hm:bQ f s0=some o){fr:Fr}{hp:List Blk}(var:σ->Fr)(chg:σ->List (Nat×Blk))(vk ik ids:List Nat){inv:Fr}{hp0:List Blk}(hk:∀i,i<C.k->ids[i]?=some i)
    (h:(gL ids,xU fr ik,Fr.mapRef (toName (aR ids)) inv,Fr.mapRef (toName (aR ids)) (Fr.keep vk fr),ids.map (λi=>(hp.getD i .dead).mapRef (toName (aR ids))),hp0)=(true,some inv,inv,var s0,hp0,wr (chg s0) hp0))
    (round:∀s x,f s=some x->(∀v,x=.inr v->v=o)->TWp C rest ⟨var s++inv,wr (chg s) hp0⟩ (vh l (λst'=>∃s' ids',x=.inl s'/\gL ids'=true/\(∀i,i<C.k->ids'[i]?=some i)/\st'.canon (vk++ik) ids'=⟨var s'++inv,wr (chg s') hp0⟩) Q)):TWp C (.scope (.seq (.label l) rest)) ⟨fr,hp⟩ Q:=by
  simp only[oS]at h;obtain⟨h1,h2,h3,h4,h5,h6⟩:=h
  have hcan:(⟨fr,hp⟩:St).canon (vk++ik) ids=⟨var s0++inv,wr (chg s0) hp0⟩:=by
    simp only[St.canon]
    have e1:Fr.keep (vk++ik) fr=Fr.keep vk fr++inv:=by
      rw[(zC h2).keep];simp[Fr.keep]
    have e2:∀(F:AV->AV)(a b:Fr),Fr.mapRef F (a++b)=Fr.mapRef F a++Fr.mapRef F b:=by
      intro F a b
      induction a with
      |nil=>rfl
      |cons x r ih=>obtain⟨t,v⟩:=x;simp[Fr.mapRef,ih]
    rw[e1,e2,h3,h4,h5]
    congr 1
  have pass:∀(n:Nat)(s:σ)(st:St)(ids:List Nat),mS f n s=some o->ids.Nodup->(∀i,i<C.k->ids[i]?=some i)->st.canon (vk++ik) ids=⟨var s++inv,wr (chg s) hp0⟩->
      TWp C rest st (vh l (λst'=>∃m,m<n/\∃s ids,mS f m s=some o/\ids.Nodup/\(∀i,i<C.k->ids[i]?=some i)/\st'.canon (vk++ik) ids=⟨var s++inv,wr (chg s) hp0⟩) Q):=by
    intro n s st ids hs hnd hki he;refine uA (vk++ik) ids hnd hki ?_;rw[he]
    cases n with
    |zero=>cases hs
    |succ n=>
      simp only[mS]at hs
      cases hfs:f s with
      |none=>rw[hfs]at hs;cases hs
      |some x=>
        rw[hfs]at hs;refine(round s x hfs λv hv=>by subst hv;exact aS hs).mono ?_;rintro e st' hq
        cases e with
        |goto l'=>
          obtain⟨rfl,s',ids',hx,q1,q2,q3⟩:=hq;subst hx;exact⟨rfl,n,Nat.lt_succ_self n,s',ids',hs,eT q1,q2,q3⟩
        |_=>exact hq
  refine J5 (rest:=.seq .skip rest) l (by simp[findLabel]) (λn st=>∃s ids,mS f n s=some o/\ids.Nodup/\(∀i,i<C.k->ids[i]?=some i)/\st.canon (vk++ik) ids=⟨var s++inv,wr (chg s) hp0⟩) ?_ (λn st hI=>by
    obtain⟨s,ids,q1,q2,q3,q4⟩:=hI
    exact TQ (TS (pass n s st ids q1 q2 q3 q4)))
  refine TQ (J6 ?_);refine(pass lN s0 ⟨fr,hp⟩ ids hm (eT h1) hk hcan).mono ?_;rintro e st' hq
  cases e with
  |goto l'=>obtain⟨rfl,m,_,q⟩:=hq;exact⟨rfl,m,q⟩
  |_=>exact hq
theorem gotoA{l:Nat}{J:St->Prop}(h:J st):vh l J Q (.goto l) st:=⟨rfl,h⟩
theorem jumpN{l:Nat}{J:St->Prop}(h:Q .normal st):vh l J Q .normal st:=h
theorem jumpR{l:Nat}{J:St->Prop}(h:Q .ret st):vh l J Q .ret st:=h
theorem Dy{l:Nat}:∀(ks:List Kt){Q:Exit->St->Prop},Q (.goto l) st->post C ks Q (.goto l) st
  |[],_,h=>h
  |.s y::ks,_,h=>Dy (l:=l) ks h
  |.b i::ks,_,h=>Dy (l:=l) ks h
theorem J7{l:Nat}{ks:List Kt}(h:Q (.goto l) st):TWp C (.goto l) st (post C ks Q):=twp_goto (Dy ks h)
end
section
variable {P:Program}{o:Oper}{a:Act}{w:World}
theorem Hl{K K':Act->World->Prop}{Q Q':Exit->Act->World->Prop}(h:∀a w,K a w->K' a w)(hq:∀e a w,e≠.normal->Q e a w->Q' e a w)(hh:o.wp P a w K Q):o.wp P a w K' Q':=by
  unfold Oper.wp at *;generalize (execOp a.eval o).run P w=r at *
  cases r with
  |ok n w'=>
    cases n<;>simp only[Oper.upon]at hh⊢<;>
      first
        |exact h _ _ hh
        |exact Calls.mono hh (λe w'' he=>by
            cases e with
            |returned v=>exact h _ _ he
            |panicked ch=>exact hq _ _ _ (λe=>by cases e) he
            |outgrown=>obtain⟨a0,w0,q⟩:=he;exact⟨a0,w0,hq _ _ _ (λe=>by cases e) q⟩)
        |exact Rows.mono hh (λ_ _ he=>h _ _ he)
  |halt x w'=>
    cases x<;>simp only[Oper.upon]at hh⊢;exact hq _ _ _ (λe=>by cases e) hh
theorem oE{ops:Array Oper}{Q Q':Exit->Act->World->Prop}{l2:List Oper}(hq:∀e a w,e≠.normal->Q e a w->Q' e a w)(hn:∀a w,Q .normal a w->wpList P ops Q' l2 a w):∀(l1:List Oper)(a:Act)(w:World),wpList P ops Q l1 a w->wpList P ops Q' (l1++l2) a w
  |[],a,w,h=>hn a w h
  |o::l1,a,w,h=>by
    rw[List.cons_append];unfold wpList at h⊢;by_cases hw:Region.wanted o (yielded ops a.tmps)=true;rw[if_pos hw]at h⊢;rcases h with h|⟨h1,a0,w0,q⟩
    exact .inl (Hl (λa w h=>oE hq hn l1 a w h) hq h);exact .inr ⟨h1,a0,w0,hq _ _ _ (λe=>by cases e) q⟩;rw[if_neg hw]at h⊢;exact oE hq hn l1 _ _ h
end
section
variable {C:Ctx}{st:St}{Q:Exit->St->Prop}{ops:Array Oper}
def rG(C:Ctx)(ops:Array Oper)(l:List Oper)(st:St)(Q:Exit->St->Prop):Prop:=
  ∀g a w,Sim C st g a w->wpList C.P ops (λe a' w'=>∃st' g',Q e st'/\Sim C st' g' a' w') l a w
theorem Ey{id:Nat}(h:rG C ops ops.toList st Q):TWp C (.region id ops false) st Q:=λg a w hs=>wp_region_list (h g a w hs)
theorem x_app{l1 l2:List Oper}(h:bO C ops l1 st λst'=>rG C ops l2 st' Q):rG C ops (l1++l2) st Q:=λg a w hs=>
  oE (λe a' w' he h=>by cases e with|normal=>exact absurd rfl he|_=>exact h.elim) (λa' w' ⟨st',g',hk,hs'⟩=>hk g' a' w' hs') l1 a w (h g a w hs)
theorem x_cutX{l:List Oper}(n:Nat)(h:bO C ops (l.take n) st λst'=>rG C ops (l.drop n) st' Q):rG C ops l st Q:=by
  rw[<- List.take_append_drop n l];exact x_app h
theorem x_rest{l:List Oper}(h:bO C ops l st (Q .normal)):rG C ops l st Q:=by
  have:=x_app (l2:=[]) (Q:=Q) (l1:=l) (st:=st) (ops:=ops) (C:=C) (λg a w hs=>oE (l2:=[]) (λe a' w' _ h=>h) (λa' w' h=>h) l a w (h g a w hs) |> λh=>by
    rw[mW]at h
    have h2 : wpList C.P ops (QN C fun st' => rG C ops [] st' Q) (l ++ []) a w := oE (Q := QN C (Q .normal)) (Q' := QN C fun st' => rG C ops [] st' Q) (l2 := []) (fun e a' w' he h => by cases e with | normal => exact absurd rfl he | _ => exact h.elim)
      (λa' w' ⟨st',g',hk,hs'⟩=>⟨st',g',λg a w hs=>⟨st',g,hk,hs⟩,hs'⟩) l a w h
    rwa [mW]at h2)
  rwa [mW]at this
def I1(p:D)(ch:List PanicEntry):Prop:=∃v,ch=[{ v:=v,recovered:=false }]/\∀w X,DRep w X p v
theorem DRep.all{w w':World}{X X':Nat->Prop}{d:D}{v:Value}(h:DRep w X d v)(hm:d.mem0=true):DRep w' X' d v:=
  (h.any (Y:=λ_=>False) hm).mono (λ_ h=>h.elim) (λ_ h=>h.elim)
theorem rL{fr:Fr}{hp:List Blk}{d:Option Nat}{x:Operand}{ty:TypeId}{pos:String}{after:Array Edge}{l:List Oper}{t:TypeId}{p:D}(hx:fr.ev x=.d (.iface t p))(hm:p.mem0=true)
    (h:∀ch,I1 (.iface t p) ch->Q (.panic ch) ⟨fr,hp⟩):rG C ops (⟨d,.panic x,ty,pos,after,none⟩::l) ⟨fr,hp⟩ Q:=λg a w hs=>by
  have hv:=hs.ev x;rw[show(⟨fr,hp⟩:St).fr.ev x=fr.ev x from rfl,hx]at hv;unfold wpList;rw[if_pos (by simp[Region.wanted])];left;generalize he:a.eval x=v at hv
  cases hv with
  |d _ _ hv=>
    cases hv with
    |iface _ _ v' hv=>
      have hr:(execOp a.eval ⟨d,.panic x,ty,pos,after,none⟩).run C.P w=.halt (.panic (.iface t v')) w:=by
        simp[execOp,he,Instr.panic]
      simp only[Oper.wp,hr,Oper.upon];exact⟨_,g,h _ ⟨_,rfl,λw' X'=>.iface _ _ _ (hv.all hm)⟩,hs⟩
theorem mF{id:Nat}{ks:List Kt}(h:rG C ops ops.toList st (post C ks Q)):TWp C (.region id ops false) st (post C ks Q):=Ey h
theorem Hg{id:Nat}{ks:List Kt}{y:Code}(h:rG C ops ops.toList st (post C (.s y::ks) Q)):TWp C (.seq (.region id ops false) y) st (post C ks Q):=TQ (Ey h)
theorem rC{l:List Oper}(n:Nat){l1 l2:List Oper}(h1:l.take n=l1)(h2:l.drop n=l2)(h:bO C ops l1 st (pn C [] λ_ st'=>rG C ops l2 st' Q)):rG C ops l st Q:=by
  subst h1 h2;exact x_cutX n h
theorem Db{ks:List Kt}{l:List Oper}(h:bO C ops l st (pn C ks Q)):rG C ops l st (post C ks Q):=x_rest h
theorem oI{K:St->Prop}(h:K st):post C [] (λ_ st'=>K st') .normal st:=h
theorem fE{ch:List PanicEntry}:∀(ks:List Kt){Q:Exit->St->Prop},Q (.panic ch) st->post C ks Q (.panic ch) st
  |[],_,h=>h
  |.s y::ks,_,h=>fE ks h
  |.b i::ks,_,h=>fE ks h
theorem oJ{next:St->Prop}{ch:List PanicEntry}(h:Q (.panic ch) st):lT next Q (.panic ch) st:=h
end
variable {C:Ctx}{st:St}{P:Program}{α β:Type}
def XRes(f:α->D)(r:β->AV)(res:α ⊕ β)(e:Ending)(g':Gh)(w':World):Prop:=match res with
  |.inl p=>∃ch,e=.panicked ch/\I1 (f p) ch
  |.inr d=>∃v,e=.returned v/\ARep w' g' (r d) v
def Iz(P:Program)(F:FuncId)(ds:List D)(f:α->D)(r:β->AV)(res:α ⊕ β):Prop:=
  kD P F = true /\ ∀ (w : World) (g : Gh) (vs : Array Value), Out ⟨P, 0, w, 0, g, fun _ => false⟩ [] g w -> Pw (ARep w g) (ds.map .d) vs.toList ->
    Calls P F vs w λe w'=>∃g',Out ⟨P,0,w,0,g,λ_=>false⟩ [] g' w'/\XRes f r res e g' w'
def zy(P:Program)(rs:List ResultVar)(f:α->D)(E:β->St->Prop)(res:α ⊕ β):Exit->St->Prop
  |.normal,st|.ret,st=>match res with|.inr d=>E d st|.inl _=>False
  |.panic ch,_=>match res with|.inl p=>I1 (f p) ch|.inr _=>False
  |_,_=>False
theorem finS{rs:List ResultVar}{fn:Func}{mv:Nat->Bool}{w0:World}{g0:Gh}{n:Nat}{d:D}{g:Gh}{a:Act}{w:World}(hrs:fn.results.toList=rs)(hs:Sim ⟨P,n,w0,0,g0,mv⟩ st g a w)(h0:g0.df=[])(h:EndsS P rs d st):∃v,(results fn a.tmps).run P w=.ok v w/\∃g',Out ⟨P,0,w0,0,g0,mv⟩ [] g' w/\ARep w g' (.d d) v:=by
  subst hrs;obtain⟨x,d0,hx,hsn,hd⟩:=h;obtain⟨v,hv,hrep⟩:=lU (P:=P) hs hx;obtain⟨g2,h1,h2⟩:=hs.endS h0;have h3:=h2 _ _ _ hrep hsn;exact⟨v,hv,g2,h1,by cases h3 with|d _ _ q=>exact .d _ _ (hd _ _ _ q)⟩
theorem finT{rs:List ResultVar}{fn:Func}{mv:Nat->Bool}{w0:World}{g0:Gh}{n:Nat}{ds:List D}{g:Gh}{a:Act}{w:World}(hrs:fn.results.toList=rs)(hs:Sim ⟨P,n,w0,0,g0,mv⟩ st g a w)(h0:g0.df=[])(h:EndsT P rs ds st):∃v,(results fn a.tmps).run P w=.ok v w/\∃g',Out ⟨P,0,w0,0,g0,mv⟩ [] g' w/\ARep w g' (.tup (ds.map .d)) v:=by
  subst hrs;obtain⟨xs,hx,hsn⟩:=h;obtain⟨v,hv,hrep⟩:=lU (P:=P) hs hx;obtain⟨g2,h1,h2⟩:=hs.endS h0;refine⟨v,hv,g2,h1,?_⟩;have hkey:=hsn.key
  have key:xs.length=ds.length/\∀(i:Nat)(x:AV)(d:D)(u:Value),xs[i]?=some x->ds[i]?=some d->ARep w g x u->ARep w g2 (.d d) u:=by
    refine⟨hkey.1,λi x d u hx hd hu=>?_⟩;obtain⟨d0,q1,q2⟩:=hkey.2 i x d hx hd;have:=h2 _ _ _ hu q1;cases this with|d _ _ q=>exact .d _ _ (q2 _ _ _ q)
  cases hrep with
  |tup _ us hl hr=>
    refine .tup _ us (by rw[Bo,<- key.1];exact hl) λi c u hci hu=>?_;simp only[qU,wu]at hci;obtain⟨d,hd,rfl⟩:=hci;have hi:i<xs.length:=by rw[key.1];exact(zQQ.1 hd).1
    exact key.2 i xs[i] d u (by simp[hi]) hd (hr i xs[i] u (by simp[hi]) hu)
theorem Out.begin{fn:Func}{hp:List Blk}{mv:Nat->Bool}{args:List AV}{w:World}{g:Gh}{vs:Array Value}(hout:Out ⟨P,0,w,hp.length,g,mv⟩ hp g w)(hargs:Pw (ARep w g) args vs.toList)(hn:args.length<=fn.ntmps):
    Sim ⟨P,fn.ntmps,w,hp.length,g,mv⟩ ⟨oO args,hp⟩ g { tmps:=vs++Array.replicate (fn.ntmps-vs.size) undef,defers:=[] } w:=by
  have hlen:vs.size=args.length:=by have:=hargs.1;simpa using this.symm
  refine Out.sim (C:=⟨P,fn.ntmps,w,hp.length,g,mv⟩) hout hout.defers ?_ λt=>?_;simp only[vA,Da];omega;unfold oO;rw[uN,if_pos (cN _),yU];by_cases ht:t<args.length;have h1:args[t]?=some args[t]:=lR ht;have h2:vs.toList[t]?=some (vs.toList[t]'(by simpa[hlen]using ht)):=lR _;have h3:=hargs.2 t _ _ h1 h2;rw[h1]
  have h4:(vs++Array.replicate (fn.ntmps-vs.size) undef).getD t undef=vs.toList[t]'(by simpa[hlen]using ht):=by
    rw[ql,cx,if_pos (by omega)];simp[show t<vs.size by omega]
  rw[h4];exact h3;rw [iS (by omega)];exact .junk _
theorem ym{F:FuncId}{fn:Func}{c:Code}{ds:List D}{f:α->D}{r:β->AV}{E:β->St->Prop}{res:α ⊕ β}{rs:List ResultVar}(hcb:kD P F=true)(hf:P.funcs[F]?=some fn)(hb:fn.body=some c)(hrs:fn.results.toList=rs)(hle:(ds.map AV.d).length<=fn.ntmps)
    (fin:∀d st w g g' a' w',Sim ⟨P,fn.ntmps,w,0,g,λ_=>false⟩ st g' a' w'->g.df=[]->E d st->∃v,(results fn a'.tmps).run P w'=.ok v w'/\∃g2,Out ⟨P,0,w,0,g,λ_=>false⟩ [] g2 w'/\ARep w' g2 (r d) v)
    (h:∀w g,TWp ⟨P,fn.ntmps,w,0,g,λ_=>false⟩ c ⟨oO (ds.map .d),[]⟩ (zy P rs f E res)):Iz P F ds f r res:=by
  refine⟨hcb,?_⟩;intro w g vs hout hargs;have hsim:=Out.begin (fn:=fn) (hp:=[]) hout hargs hle;refine calls_of_wp hf hb (Go.wp_mono (h w g g _ w hsim) ?_);intro e a' w' hq;obtain⟨st',g',hQ,hs'⟩:=hq;have hd:=hs'.defers.trans hout.defers.symm
  have fin':zy P rs f E res .ret st'->a'.defers=[]/\∃v,(results fn a'.tmps).run P w'=.ok v w'/\∃g',Out ⟨P,0,w,0,g,λ_=>false⟩ [] g' w'/\XRes f r res (.returned v) g' w':=by
    intro hQ
    cases res with
    |inl p=>exact hQ.elim
    |inr d=>
      obtain⟨v,hv,g2,h1,h2⟩:=fin d _ _ _ _ _ _ hs' hout.defers.symm hQ;exact⟨hd,v,hv,g2,h1,v,rfl,h2⟩
  cases e with
  |normal=>exact fin' hQ
  |ret=>exact fin' hQ
  |panic ch=>
    cases res with
    |inl p=>
      have ho:=hs'.canon [] [] List.nodup_nil (λi hi=>absurd hi (pS i));exact⟨hd,g'.canon [],ho.out hout.defers.symm,ch,rfl,hQ⟩
    |inr d=>exact hQ.elim
  |_=>exact hQ.elim
theorem Ch{F:FuncId}{fn:Func}{c:Code}{ds:List D}{f:α->D}{r:β->D}{res:α ⊕ β}{n:Nat}{rs:List ResultVar}(hcb:kD P F=true)(hf:P.funcs[F]?=some fn)(hb:fn.body=some c)(hn:fn.ntmps=n)(hrs:fn.results.toList=rs)(hle:Nat.ble (ds.map AV.d).length n=true)
    (h:∀w g,TWp ⟨P,n,w,0,g,λ_=>false⟩ c ⟨oO (ds.map .d),[]⟩ (zy P rs f (λd=>EndsS P rs (r d)) res)):Iz P F ds f (λd=>.d (r d)) res:=by
  subst hn;exact ym hcb hf hb hrs (dK hle) (λd st w g g' a' w' hs h0 hE=>finS hrs hs h0 hE) h
theorem Hs{F:FuncId}{fn:Func}{c:Code}{ds:List D}{f:α->D}{r:β->List D}{res:α ⊕ β}{n:Nat}{rs:List ResultVar}(hcb:kD P F=true)(hf:P.funcs[F]?=some fn)(hb:fn.body=some c)(hn:fn.ntmps=n)(hrs:fn.results.toList=rs)(hle:Nat.ble (ds.map AV.d).length n=true)
    (h:∀w g,TWp ⟨P,n,w,0,g,λ_=>false⟩ c ⟨oO (ds.map .d),[]⟩ (zy P rs f (λd=>EndsT P rs (r d)) res)):Iz P F ds f (λd=>.tup ((r d).map .d)) res:=by
  subst hn;exact ym hcb hf hb hrs (dK hle) (λd st w g g' a' w' hs h0 hE=>finT hrs hs h0 hE) h
theorem Dc{fr:Fr}{hp:List Blk}{Q:Exit->St->Prop}{ops:Array Oper}{d:Nat}{ty:TypeId}{pos:String}{after:Array Edge}{l:List Oper}{fo:Operand}{xs:Array Operand}{ts:Array TypeId}{F:FuncId}{ds:List D}{f:α->D}{r:β->AV}{res:α ⊕ β}(hd:decide (d<C.n)=true)
    (hf:fr.ev fo=.d (.fn F)) (hx:xs.toList.map fr.ev=ds.map .d) (hret:Iz C.P F ds f r res) (hm:∀b,(r b).mapRef (shift hp.length)=r b) (h1:∀p ch,res=.inl p->I1 (f p) ch->Q (.panic ch) ⟨fr,hp⟩) (h2:∀b,res=.inr b->rG C ops l ⟨(d,r b)::fr,hp⟩ Q):
    rG C ops (⟨some d,.call { callee:=.value fo,args:=xs,argTypes:=ts },ty,pos,after,none⟩::l) ⟨fr,hp⟩ Q:=by
  intro g a w hs;have hfv:=hs.ev fo;rw[show(⟨fr,hp⟩:St).fr.ev fo=fr.ev fo from rfl,hf]at hfv
  have hargs:Pw (ARep w (dF g.X)) (ds.map .d) (xs.map a.eval).toList:=by
    refine⟨by have:=congrArg List.length hx;simpa using this.symm,λi x v hxi hv=>?_⟩;simp only[sD,qU,wu]at hv;obtain⟨y,hy,rfl⟩:=hv;have h1:(xs.toList.map fr.ev)[i]?=some (fr.ev y):=by simp[hy]
    rw[hx,hxi]at h1;cases h1;have h2:=hs.ev y;simp only[qU,wu]at hxi;obtain⟨d,_,hd⟩:=hxi;rw[show(⟨fr,hp⟩:St).fr.ev y=fr.ev y from rfl,<- hd]at h2;rw[<- hd];cases h2 with|d _ _ h=>exact .d _ _ h
  unfold wpList;rw[if_pos (by simp[Region.wanted])];left;simp only[Oper.wp,eH (o:=⟨some d,.call { callee:=.value fo,args:=xs,argTypes:=ts },ty,pos,after,none⟩) rfl (co hfv) hret.1,Oper.upon_enter,xr];refine(hret.2 w (dF g.X) _ (D2 hs _ hs.Xlt) hargs).mono ?_;rintro e w' ⟨g',hout,hr⟩;have hX:∀b,g'.X b->b<w.heap.size->g.X b:=λb hb hlt=>hout.Xold b hb hlt;have hs1:=hs.after hout hX;simp only[uY,mW]at hs1
  cases res with
  |inl p=>
    obtain⟨ch,rfl,hp'⟩:=hr;exact⟨_,_,h1 p ch rfl hp',hs1⟩
  |inr b=>
    obtain⟨v,rfl,hv⟩:=hr;refine h2 b rfl _ _ _ (hs1.put' (d:=some d) (show kZ C.n (some d)=true from hd) ?_);have:=hv.shift (n:=hp.length) hX;rw[hm]at this;exact this
variable {C:Ctx}
theorem J3{o:Oper}{ev:Operand->AV}{hp:List Blk}(hs:List Nat){f:Operand}{xs:Array Operand}{ts:Array TypeId}{F:FuncId}{mv:Nat->Bool}{ds:List D}{r r':AV}{Bs:List Blk}(hi:∀i∈hs,hp[i]?=some .hole)(hnd:hs.Nodup)(hl:Bs.length=hs.length)(ho:o.op=.call { callee:=.value f,args:=xs,argTypes:=ts })
    (hf:ev f=.d (.fn F)) (hx:wP hp (xs.toList.map ev) ds) (hret:Ret C.P F [] mv (ds.map .d) r Bs) (hm:∀B∈Bs,Bl B) (hmr:AMem0 r) (hrr:r.mapRef (toHole hs)=r') (hBB:∀B∈Bs,B.mapRef (λ_=>.junk)=B):DOk C o ev hp r' (hs.zip Bs):=by
  intro st hhp hlen _ hag g a w hsim Q K' hK;have hih:∀i∈hs,st.hp[i]?=some .hole:=λi h=>zH (hi i h) hhp;have hno:∀i∈hs,g.phi i=none:=λi h=>hsim.hp i _ (hih i h);have hil:∀i∈hs,i<st.hp.length:=λi h=>(zQQ.1 (hih i h)).1;have hfv:=hsim.ev f;rw[hag f (by simp[ho,Op.operands,Call.operands]),hf]at hfv
  have hx':wP st.hp (xs.toList.map st.fr.ev) ds:=by
    refine⟨by have:=hx.1;simpa using this,λi x d hxi hd=>?_⟩;simp only[qU,wu]at hxi;obtain⟨y,hy,rfl⟩:=hxi;rw[hag y (by simp only[ho,Op.operands,Call.operands];exact zal9q.2 (.inr (zal10q.1 (tX hy))))];exact(hx.2 i (ev y) d (by simp[hy]) hd).le hhp
  have hargs:=z8 hsim hx' (Y:=λb=>b<w.heap.size) hsim.Xlt λi b hp=>(hsim.lt i b hp).1;simp only[Oper.wp,eH ho (co hfv) hret.1,Oper.upon_enter,xr];refine(hret.2 w (dF λb=>b<w.heap.size) _ (D2 hsim mv λ_ h=>h) hargs).mono ?_;rintro e w' ⟨v,g',rfl,hout,hr⟩;have hold:∀b,b<w.heap.size->w'.heap[b]?=w.heap[b]?:=λb hb=>hout.keep b hb λi hi=>absurd hi (pS i);have hsz:=hout.grown;simp only at hsz
  have hnew:∀j b,g'.phi j=some b->w.heap.size<=b:=by
    intro j b hp;rcases dB b w.heap.size with hlt|hge
    exact absurd (hout.own j b hp hlt).1 (pS _);exact hge
  let g2:Gh:={ phi:=λj=>match aR hs j with|some i=>g'.phi i|none=>g.phi j,psi:=λj=>match aR hs j with|some i=>g'.psi i|none=>g.psi j,X:=g.X }
  have hin:∀{j i:Nat},aR hs j=some i->j∈hs:=λh=>tX (cE hs _ _ h)
  have hgr:Grow w g w' g2:=by
    refine⟨λj b hp=>?_,λj b hp=>?_,λ_ h=>h,λb hb=>hold b (hsim.Xlt b hb)⟩
    cases hpl:aR hs j with
    |some i=>rw[hno j (hin hpl)]at hp;cases hp
    |none=>simpa[g2,hpl]using hp
    cases hpl:aR hs j with
    |some i=>rw[hno j (hin hpl)]at hp;cases hp
    |none=>simp[g2,hpl]
  have hphi:∀j b,g2.phi j=some b->(∃i,aR hs j=some i/\g'.phi i=some b)\/(aR hs j=none/\g.phi j=some b):=by
    intro j b hp
    cases hpl:aR hs j with
    |some i=>exact .inl ⟨i,rfl,by simpa[g2,hpl]using hp⟩
    |none=>exact .inr ⟨rfl,by simpa[g2,hpl]using hp⟩
  have hzl:∀p∈hs.zip Bs,p.1<st.hp.length:=λp hp=>hil _ (List.of_mem_zip hp).1
  have hzn:((hs.zip Bs).map (·.1)).Nodup:=by
    rw[List.map_fst_zip (by omega)];exact hnd
  have hwr:=λb=>xv (hs.zip Bs) st.hp b hzl hzn
  have hget:∀{j i:Nat}{B:Blk},hs[i]?=some j->Bs[i]?=some B->(wr (hs.zip Bs) st.hp)[j]?=some B:=by
    intro j i B h1 h2;have:(hs.zip Bs)[i]?=some (j,B):=by rw[List.getElem?_zip_eq_some];exact⟨h1,h2⟩
    exact(hwr j).1 (j,B) (tX this) rfl
  have hgetN:∀{j:Nat},aR hs j=none->(wr (hs.zip Bs) st.hp)[j]?=st.hp[j]?:=by
    intro j hpl;refine(hwr j).2 λp hp e=>?_;obtain⟨i,hi⟩:=iL (List.of_mem_zip hp).1;rw[e]at hi;exact vO hpl i hi
  have hB:∀{j i:Nat}{B:Blk},aR hs j=some i->Bs[i]?=some B->BRep w' g2 j B:=by
    intro j i B hpl hBi;have h1:=BRep.any (Y:=λ_=>False) (hout.hp i B hBi) (hm B (tX hBi));have h2:=BRep.mapRef (g':=g2) (F:=λ_=>.junk) (j:=j) (by simp[g2,hpl]) (by simp[g2,hpl]) (λb hb=>False.elim hb) (λx v _ _=>.junk v) h1
    rwa [hBB B (tX hBi)]at h2
  have hBs:∀{j i:Nat},aR hs j=some i->∃B,Bs[i]?=some B:=by
    intro j i hpl;have:=(zQQ.1 (cE hs _ _ hpl)).1;exact⟨Bs[i]'(by omega),lR _⟩
  have hlw:(wr (hs.zip Bs) st.hp).length=st.hp.length:=yW _ _;refine hK v w' g2 ?_ ?_;refine { defers := hsim.defers, size := hsim.size, fr := fun t => (hsim.fr t).mono hgr, hp := ?_, lt := ?_, inj := ?_, Xlt := ?_, Xold := hsim.Xold, os := hout.os.trans hsim.os, tape := hout.tape.trans hsim.tape, output := hout.output.trans hsim.output, drawn := dQ hsim.drawn hout.drawn, grown := dQ hsim.grown hsz, keep := ?_, own := ?_, stay := ?_, kle := ?_, laid := hsim.laid }
  · intro j B hj
    cases hpl:aR hs j with
    |some i=>
      obtain⟨B',hB'⟩:=hBs hpl;have:=hget (cE hs _ _ hpl) hB';simp only at hj;rw[this]at hj;cases hj;exact hB hpl hB'
    |none=>
      simp only at hj;rw[hgetN hpl]at hj;refine(hsim.hp j B hj).mono hgr (λhn=>by simpa[g2,hpl]using hn) λb hb=>hold b (hsim.lt j b hb).1
  intro j b hp;simp only[hlw];rcases hphi j b hp with⟨i,hpl,hp'⟩|⟨_,hp'⟩
  exact⟨(hout.lt i b hp').1,hil j (hin hpl),λhX=>by have:=hsim.Xlt b hX;have:=hnew i b hp';omega⟩;have:=hsim.lt j b hp';exact⟨by omega,this.2.1,this.2.2⟩;intro j j' b Bj Bj' hBj hBj' hdj hdj' hj hj';simp only at hBj hBj';rcases hphi j b hj with⟨i,hpl,h1⟩|⟨hpl,h1⟩<;>rcases hphi j' b hj' with⟨i',hpl',h2⟩|⟨hpl',h2⟩
  obtain⟨B1,e1⟩:=hBs hpl;obtain⟨B2,e2⟩:=hBs hpl';rw[hget (cE hs _ _ hpl) e1]at hBj;rw[hget (cE hs _ _ hpl') e2]at hBj';cases hBj;cases hBj';have:=hout.inj i i' b _ _ e1 e2 hdj hdj' h1 h2;subst this;have h3:=cE hs _ _ hpl;rw[cE hs _ _ hpl']at h3;exact(aS h3).symm;have:=(hsim.lt _ _ h2).1;have:=hnew i b h1;omega;have:=(hsim.lt _ _ h1).1;have:=hnew i' b h2;omega;rw[hgetN hpl]at hBj;rw[hgetN hpl']at hBj';exact hsim.inj j j' b Bj Bj' hBj hBj' hdj hdj' h1 h2;intro b hX;have:=hsim.Xlt b hX;omega;intro b hb hk;rw[hold b (by have:=hsim.grown;omega)];exact hsim.keep b hb hk;intro j b hp hb;rcases hphi j b hp with⟨i,_,hp'⟩|⟨_,hp'⟩
  have:=hnew i b hp';have:=hsim.grown;omega;exact hsim.own j b hp' hb;intro j b hj hmj hp;have hst:=hsim.stay j b hj hmj hp
  have hpl:aR hs j=none:=by
    cases h:aR hs j with
    |none=>rfl
    |some i=>rw[hno j (hin h)]at hst;cases hst.2
  simpa[g2,hpl]using hst;simp only[hlw];exact hsim.kle;subst hrr;have h1:=ARep.any (Y:=g.X) hr hmr;refine ARep.mapRef (w:=w') (g:={ g' with X:=g.X }) (g':=g2) (λd v hd=>hd) (λx v hx hr=>?_) h1
  have hat:∀{id b:Nat},g'.phi id=some b->g2.phi (hs.getD id 0)=some b/\g2.psi (hs.getD id 0)=g'.psi id:=by
    intro id b hb;have hid:=(hout.lt id b hb).2.1;simp only at hid;have hlt:id<hs.length:=by omega
    have hge:hs[id]?=some (hs.getD id 0):=by rw[Lb,lR hlt];rfl
    have hpl:=cg hnd hge;exact⟨by simp only[g2,hpl];exact hb,by simp only[g2,hpl]⟩
  cases hx with
  |msl0=>exact .msl0 _ _ _ _
  |msl id sz off len cap b hb hc hp=>exact .msl _ _ _ _ cap b (hat hb).1 hc (by rw[(hat hb).2];exact hp)
  |mptr id sz idx off b hb=>exact .mptr _ _ _ _ b (hat hb).1
  |mmap id b hb=>exact .mmap _ b (hat hb).1
  |yld id b hb=>exact .yld _ b (hat hb).1
  |mmapN0=>exact .mmapN0 _
  |mmapN id n b hb=>exact .mmapN _ _ b (hat hb).1
  |_=>cases hr
theorem H3(a:Act)(d:Option Tmp)(v:Value):(a.put d v).defers=a.defers:=by cases d<;>rfl
theorem DOk.ofOk{o:Oper}{ev:Operand->AV}{hpn:List Blk}{ws:List (Nat×Blk)}(hd:o.dst=none)(h:∀st:St,HpLe hpn st.hp->(∀y∈o.op.operands,st.fr.ev y=ev y)->OpOk C o st λst'=>st'=⟨st.fr,wr ws st.hp⟩):DOk C o ev hpn .junk ws:=by
  intro st h1 _ _ h2 g a w hs Q K' hK;have hh:=h st h1 h2 g a w (λ_ _ _=>False) hs
  have fin:∀v w',Sat C (λst'=>st'=⟨st.fr,wr ws st.hp⟩) (a.put o.dst v) w'->K' (a.put o.dst v) w':=by
    rintro v w' ⟨st',g',rfl,hs'⟩;refine hK v w' g' ?_ (.junk _);rw[hd]at hs';exact hs'
  unfold Oper.wp at *;generalize (execOp a.eval o).run C.P w=r at *
  cases r with
  |ok n w'=>
    cases n with
    |value v=>exact fin _ _ hh
    |skip=>exact fin _ _ hh
    |defer d=>obtain⟨st',g',_,hs'⟩:=hh;have:=hs'.defers;rw[H3,<- hs.defers]at this;exact absurd (congrArg List.length this) (by simp)
    |enter f args=>
      refine Calls.mono hh ?_;intro e w'' he
      cases e with
      |returned v=>exact fin _ _ he
      |panicked ch=>exact he.elim
      |outgrown=>obtain⟨_,_,q⟩:=he;exact q.elim
    |row s args=>
      refine Rows.mono hh ?_;intro v w'' he;exact fin _ _ he
    |_=>exact hh.elim
  |halt x w'=>cases x<;>exact hh.elim
theorem w_putG{α β:Type}[DecidableEq α]{dk:TypeDesc}{kf:α->D}{ok:α->Bool}{ks:List TypeDesc}{o:Oper}{ev:Operand->AV}{hp:List Blk}{x y u:Operand}{t kt et kt' et':TypeId}{id:Nat}(S:SKey C.P kt ks)(hk:KeyG ks kf ok)(f:β->D){fs:List (α×β)}{s:α}{b:β}(ho:o.op=.mapUpdate t x y u)(hd:o.dst=none)(hl:uT C.P t=some (kt,dk,et))(hx:ev x=.mmap id)(hb:hp[id]?=some (.map kt' et' (aV kf f fs)))(hy:ev y=.d (kf s))(hu:ev u=.d (f b))(hg:sM ok fs s):DOk C o ev hp .junk [(id,.map kt' et' (aV kf f (lP fs s b)))]:=by
  obtain⟨dst,op,ty,pos,after,gd⟩:=o;simp only at ho hd;subst ho hd;refine DOk.ofOk rfl λst hhp hag=>?_;have hx':=(hag x (by simp[Op.operands])).trans hx;have hy':=(hag y (by simp[Op.operands])).trans hy;have hu':=(hag u (by simp[Op.operands])).trans hu;have hb':=hhp id _ hb (λe=>by cases e)
  cases e:fs.findIdx? λx=>decide (x.1=s)with
  |none=>
    have hn:bH fs s=none:=by
      unfold bH;rw[yS,xp];rw[zal35q]at e;intro x hx;simpa using e x hx
    refine q9 S rfl rfl hl hx' hb' hy' hu' (hk.key _ hg.2.2) (rX hk f hg.2.1) (yw hk f (kH hn)) ?_;have e2:aV kf f (fs++[(s,b)])=aV kf f fs++[(kf s,f b)]:=by simp[aV]
    rw[<- e2];simp only[lP,e];rfl
  |some j=>
    have e':=e;rw[zal36q]at e;obtain⟨hlt,hj,_⟩:=e
    have hj':fs[j]?=some (s,fs[j].2):=by
      rw[lR hlt,<- of_decide_eq_true hj]
    refine yy (j:=j) (v0:=f fs[j].2) S rfl rfl hl hx' hb' hy' hu' (rX hk f hg.2.1) (xQ hk f hg.1) (by simp[aV,hj']) ?_;simp only[lP,e'];simp[aV,sC,wr]
theorem Sim.wkF{fr:Fr}{hp:List Blk}{g:Gh}{a:Act}{w:World}(h:Sim C ⟨fr,hp⟩ g a w){id ty sz:Nat}{es es':List D}(hb:hp[id]?=some (.flat ty sz es))(hl:es'.length=es.length)
    (he:∀(k:Nat)(e e':D),es[k]?=some e->es'[k]?=some e'->e.cells.length=e'.cells.length/\∀(j:Nat)(c c':D),e.cells[j]?=some c->e'.cells[j]?=some c'->DLe c c'/\c'.one=c.one):Sim C ⟨fr,hp.set id (.flat ty sz es')⟩ g a w:=by
  have hlen:id<hp.length:=(zQQ.1 hb).1
  have back:∀{k:Nat}{e':D},es'[k]?=some e'->∃e,es[k]?=some e:=fun {k e'} h'=>by
    have:=(zQQ.1 h').1;exact⟨es[k]'(by omega),lR _⟩
  have backC:∀{k:Nat}{e e' c':D}{j:Nat},es[k]?=some e->es'[k]?=some e'->e'.cells[j]?=some c'->∃c,e.cells[j]?=some c:=fun {k e e' c' j} h1 h2 h3=>by
    have:=(zQQ.1 h3).1;have:=(he k e e' h1 h2).1;exact⟨e.cells[j]'(by omega),lR _⟩
  have hin:∀(i:Nat)(B:Blk),(hp.set id (.flat ty sz es'))[i]?=some B->∃B',hp[i]?=some B'/\(B≠.dead->B'≠.dead):=by
    intro i B hi;rw[cG]at hi;split at hi;rename_i e;subst e;exact⟨_,hb,λ_ e=>by cases e⟩;exact⟨B,hi,λh=>h⟩
  refine{ h with hp:=λi B hi=>?_,lt:=?_,inj:=?_,kle:=?_ };simp only[cG]at hi;split at hi;rename_i e;subst e;cases hi;rcases h.hp _ _ hb with⟨e0,hn⟩|⟨b,cells,h1,h2,h3,h4,h5,h6,h7⟩
  subst e0;exact .inl ⟨List.length_eq_zero_iff.1 hl,hn⟩;refine .inr ⟨b, cells, h1, h2, h3, by rw [hl]; exact h4, fun k e' hk => ?_, fun k e' j c' hk hc => ?_, fun k e' j c' hk hc => ?_⟩
  · obtain⟨e,hke⟩:=back hk
    rw[<- (he k e e' hke hk).1];exact h5 k e hke
  obtain⟨e,hke⟩:=back hk;obtain⟨c,hcc⟩:=backC hke hk hc;rw[((he k e e' hke hk).2 j c c' hcc hc).2];exact h6 k e j c hke hcc;obtain⟨e,hke⟩:=back hk;obtain⟨c,hcc⟩:=backC hke hk hc;obtain⟨v,hv,hd⟩:=h7 k e j c hke hcc;exact⟨v,hv,((he k e e' hke hk).2 j c c' hcc hc).1 _ _ _ hd⟩;exact h.hp i B hi;intro i b hp';have:=h.lt i b hp';simp only[zal60q];exact this;intro i j b Bi Bj hi hj di dj hpi hpj;obtain⟨Bi',hi',ei⟩:=hin i Bi hi;obtain⟨Bj',hj',ej⟩:=hin j Bj hj;exact h.inj i j b Bi' Bj' hi' hj' (ei di) (ej dj) hpi hpj;have:=h.kle;simp only[zal60q];exact this
theorem s_mkOw{α:Type}{f:α->D}{T:Tab}{d:Nat}{ops:Array Oper}{l:List Oper}{K:St->Prop}{fr:Fr}{hp:List Blk}{ty:TypeId}{pos:String}{after:Array Edge}{t e sz by':Nat}{a b:Operand}{z:Value}{zs zs':List D}{n:Int}(N:Nat)(spec:List (Option Nat))(hT:TabOk C.P T)(hd:decide (d<C.n)=true)(hN:Nat.beq hp.length N=true)(hl:lk T.sel t=some (e,sz,by'))(hz:(C.P.info? e).bind (·.zero)=some z)(hzd:dV z=.d (.agg zs))(hzs:Nat.beq zs.length sz=true)(ha:fr.ev a=.d (.int .i64 n))(hb:fr.ev b=.d (.int .i64 n))(hby:Nat.ble by' 100000=true)(hn:0<=n/\n<=1000000000){x:α}(hw:wkE zs spec=some zs')(hf:f x=.agg zs')
    (h:bO C ops l ⟨(d,.msl N sz 0 (List.replicate n.toNat x).length)::fr,hp++[.flat e sz ((List.replicate n.toNat x).map f)]⟩ K):bO C ops (⟨some d,.makeSlice t a b,ty,pos,after,none⟩::l) ⟨fr,hp⟩ K:=by
  obtain⟨m,rfl⟩:=xq hn.1;have h1:=dK hby;have h2:m<=1000000000:=by omega
  have h3:by'*m<=100000*1000000000:=vB h1 h2
  have e:=dO hN;subst e;rw[List.map_replicate,hf]at h;simp only[gt,List.length_replicate]at h;refine qu (n:=m) hd (hT.sel hl) hz hzd (dO hzs) ha hb (by omega) (by omega) λg a w hs=>h g a w ?_
  have:=hs.wkF (id:=hp.length) (es':=List.replicate m (.agg zs')) (by rw[List.getElem?_append_right (wt _),Nat.sub_self];rfl) (by simp) λk e e' hk hk'=>by
    obtain⟨q1,q2⟩:=Dd hw;obtain rfl:=(List.mem_replicate.1 (tX hk)).2;obtain rfl:=(List.mem_replicate.1 (tX hk')).2;exact⟨q1,q2⟩
  simpa using this
theorem retN_row{P:Program}{F:FuncId}{mv:Nat->Bool}{ds:List D}{e sz:Nat}{α:Type}{f:α->D}{xs:List α}(h:Ret P F [] mv (ds.map .d) (.msl 0 sz 0 xs.length) [.flat e sz (xs.map f)])(hm:∀x,(f x).mem0=true):RetN P F ds (.sl sz (xs.map f)):=
  ⟨mv,_,_,h,aW rfl,.msl _ _ _ _,λB hB=>by
    simp only[zQB,xA,or_false]at hB;subst hB
    exact Cp hm⟩
variable {C:Ctx}{st:St}{P:Program}{g:Gh}{a:Act}{w:World}
def Act.mark(df:List Deferred)(a:Act):Act:={ a with defers:=df }
def Gi(C:Ctx)(ids:List Nat)(k:Nat)(df:List Deferred)(g:Gh)(w:World):Ctx:=⟨C.P,C.n,w,k,{ g with df:=df },λi=>!(ids.contains i)⟩
theorem Sim.held(hs:Sim C st g a w)(ids:List Nat)(df:List Deferred):Sim (Gi C ids st.hp.length df g w) st g (Act.mark df a) w:=
  { hs with defers:=rfl,Xold:=λ_ h _=>h,os:=rfl,tape:=rfl,output:=rfl,drawn:=wt _,grown:=wt _,keep:=λ_ _ _=>rfl,own:=λi b hp _=>⟨(hs.lt i b hp).2.1,hp⟩,stay:=λ_ _ _ _ hp=>⟨rfl,hp⟩,kle:=wt _,laid:=hs.laidW }
theorem Sim.unheld{st':St}{g':Gh}{a':Act}{w':World}{ids:List Nat}{df:List Deferred}(hs:Sim C st g a w)(h0:C.g0.df=[])(hk:C.k=0)(h:Sim (Gi C ids st.hp.length df g w) st' g' a' w'):Sim C st' g' (Act.mark [] a') w':=
  { h with
    defers:=h0.symm
    Xold:=λb hb hlt=>hs.Xold b (h.Xold b hb (vC hlt hs.grown)) hlt
    os:=h.os.trans hs.os,tape:=h.tape.trans hs.tape,output:=h.output.trans hs.output,drawn:=dQ hs.drawn h.drawn,grown:=dQ hs.grown h.grown
    keep:=λb hb hk'=>(h.keep b (vC hb hs.grown) λi _ hp=>hk' i (hs.own i b hp hb).1 (hs.own i b hp hb).2).trans (hs.keep b hb hk')
    own:=λi b hp hb=>hs.own i b (h.own i b hp (vC hb hs.grown)).2 hb
    stay:=λi b hi=>absurd hi (by rw[hk];exact pS i)
    kle:=by rw[hk];exact cN _
    laid:=hs.laid }
def eo(ids:List Nat):List AV:=ids.map λi=>.mptr i 0 0 0
def Ca(P:Program)(G:FuncId)(hh:List Blk)(m:FrameMode)(hh':List Blk):Prop:=
  kD P G = true /\ ∀ (w : World) (g : Gh) (vs : Array Value), Out ⟨P, 0, w, hh.length, g, fun _ => false⟩ hh g w -> Pw (ARep w g) (eo (List.range hh.length)) vs.toList ->
    CallsD P G vs m w λe u w'=>settle u=.returning/\∃v g',e=.returned v/\Out ⟨P,0,w,hh.length,g,λ_=>false⟩ hh' g' w'
def modeOf:Exit->Option FrameMode
  |.normal|.ret=>some .returning
  |.panic ch=>some (.panicking ch)
  |_=>none
def Et(P:Program)(E:St->Prop)(ids:List Nat)(G:FuncId):Exit->St->Prop:=λe st=>∃m hh',modeOf e=some m/\ids.Nodup/\(∀j∈ids,cF st.hp j=true)/\Ca P G (mO ids st.hp) m hh'/\E ⟨Fr.mapRef (fI (tR ids λ_=>false)) st.fr,nA ids (st.hp.map (Blk.mapRef (fI (tR ids λ_=>false)))) hh'⟩
def QF(C:Ctx)(E:St->Prop):Exit->Act->World->Prop:=λe a w=>
  (∃st g,(e=.normal\/e=.ret)/\E st/\Sim C st g a w)\/
  ∃st g ids G vs,a.defers=[{ target:=.fn (.func G) vs,args:=#[] }]/\Pw (ARep w g) (eo ids) vs.toList/\Et C.P E ids G e st/\Sim C st g (Act.mark [] a) w
def wm(C:Ctx)(c:Code)(st:St)(E:St->Prop):Prop:=∀g a w,C.g0.df=[]->C.k=0->Sim C st g a w->c.wp C.P (QF C E) a w
def QR(E:St->Prop):Exit->St->Prop:=λe st=>(e=.normal\/e=.ret)/\E st
section
variable {E:St->Prop}
theorem f_seq{x y:Code}(h:TWp C x st (lT (λst'=>wm C y st' E) (QR E))):wm C (.seq x y) st E:=λg a w h0 hk hs=>by
  refine wp_seq (Go.wp_mono (h g a w hs) ?_);rintro e a' w' ⟨st',g',hQ,hs'⟩
  cases e with
  |normal=>exact hQ g' a' w' h0 hk hs'
  |_=>exact .inl ⟨st',g',hQ.1,hQ.2,hs'⟩
theorem Eg{id:Nat}{ops:Array Oper}{y:Code}(h:bO C ops ops.toList st (pn C [] λ_ st'=>wm C y st' E)):wm C (.seq (.region id ops false) y) st E:=
  f_seq (TG h)
theorem f_seqP{x y:Code}(h:TWp C x st (post C [] (lT (λst'=>wm C y st' E) (QR E)))):wm C (.seq x y) st E:=f_seq h
def DefK(C:Ctx)(y:Code)(E:St->Prop)(dt:Nat)(st:St):Prop:=∃ids G,st.fr.get dt=.fnc G (eo ids)/\∀g w df,TWp (Gi C ids st.hp.length df g w) y st (Et C.P E ids G)
theorem xc{id:Nat}{ops:Array Oper}{y:Code}(n dt:Nat){l1:List Oper}{ts:Array TypeId}{ty:TypeId}{pos:String}{after:Array Edge}(h1:ops.toList.take n=l1)(h2:ops.toList.drop n=[⟨none,.defer { callee:=.value (.tmp dt),args:=#[],argTypes:=ts },ty,pos,after,none⟩])
    (h:bO C ops l1 st (pn C [] λ_ st'=>DefK C y E dt st')):wm C (.seq (.region id ops false) y) st E:=by
  intro g a w h0 hk hs;refine wp_seq (wp_region_list ?_);rw[<- List.take_append_drop n ops.toList,h1,h2];refine oE (Q:=QN C (DefK C y E dt)) (λe a' w' he h=>by cases e with|normal=>exact absurd rfl he|_=>exact h.elim) (λa' w' hsat=>?_) l1 a w (h g a w hs);obtain⟨st',g',⟨ids,G,hfr,hgo⟩,hs'⟩:=hsat;have hv:=hs'.fr dt;rw[hfr]at hv;have hd0:=hs'.defers.trans h0;unfold wpList;rw[if_pos (by simp[Region.wanted])];left;generalize hev:a'.tmps.getD dt undef=v at hv
  cases hv with
  |fnc _ _ vs hl hcs=>
    have hr:(execOp a'.eval ⟨none,.defer { callee:=.value (.tmp dt),args:=#[],argTypes:=ts },ty,pos,after,none⟩).run C.P w'=.ok (.defer { target:=.fn (.func G) vs,args:=#[] }) w':=by
      simp[execOp,resolve,Act.eval,hev,Deferred.ofValue]
    simp only[Oper.wp,hr,Oper.upon_defer,Act.put,wpList,Exit.then];have hs1:=hs'.held ids [{ target:=.fn (.func G) vs,args:=#[] }];have e1:Act.mark [{ target:=.fn (.func G) vs,args:=#[] }] a'={ a' with defers:={ target:=.fn (.func G) vs,args:=#[] }::a'.defers }:=by rw[hd0];rfl
    rw[e1]at hs1;refine Go.wp_mono (hgo g' w' _ _ _ _ hs1) ?_;rintro e a₂ w₂ ⟨st₂,g₂,hQ,hs₂⟩;refine .inr ⟨st₂,g₂,ids,G,vs,hs₂.defers,⟨by simpa[eo]using hl,λi x v hx hv=>?_⟩,hQ,hs'.unheld h0 hk hs₂⟩;have hx':=hx;simp only[eo,qU,wu]at hx';obtain⟨j,hj,rfl⟩:=hx';have h3:=hcs i _ v hx (by simpa using hv)
    cases h3 with
    |mptr _ _ _ _ b hb=>
      have hlt:=(hs'.lt j b hb).2.1;exact .mptr _ _ _ _ b (hs₂.stay j b hlt (by simp[Gi,tX hj]) hb).2
theorem f_go{y:Code}{dt:Nat}{fr:Fr}{hp:List Blk}(ids:List Nat){G:FuncId}(h:fr.get dt=.fnc G (eo ids))(hgo:∀g w df,TWp (Gi C ids hp.length df g w) y ⟨fr,hp⟩ (Et C.P E ids G)):DefK C y E dt ⟨fr,hp⟩:=⟨ids,G,h,hgo⟩
end
theorem Fh{G:FuncId}(hc:kD P G=true)(vs args:Array Value):(invoke (.fn (.func G) vs) args).run P w=.ok (.enter G (args++vs)) w:=by
  simp only[invoke];exact fw hc _ _
theorem yn{F:FuncId}{fn:Func}{c:Code}{args:List AV}{r:AV}{E:St->Prop}(hcb:kD P F=true)(hf:P.funcs[F]?=some fn)(hb:fn.body=some c)(hle:args.length<=fn.ntmps)
    (fin:∀st w g g' a' w',Sim ⟨P,fn.ntmps,w,0,g,λ_=>false⟩ st g' a' w'->g.df=[]->E st->∃v,(results fn a'.tmps).run P w'=.ok v w'/\∃g2,Out ⟨P,0,w,0,g,λ_=>false⟩ [] g2 w'/\ARep w' g2 r v)
    (h:∀w g,wm ⟨P,fn.ntmps,w,0,g,λ_=>false⟩ c ⟨oO args,[]⟩ E):Ret P F [] (λ_=>false) args r []:=by
  refine⟨hcb,?_⟩;intro w g vs hout hargs;have hsim:=Out.begin (fn:=fn) (hp:=[]) hout hargs hle;refine calls_of_wp_defers hf hb (Go.wp_mono (h w g g _ w hout.defers.symm rfl hsim) ?_);intro e a' w' hq
  have done:∀(st':St)(g':Gh)(a₁:Act)(w₁:World),Sim ⟨P,fn.ntmps,w,0,g,λ_=>false⟩ st' g' a₁ w₁->E st'->Leaves P fn a₁.tmps (λe w'=>∃v g',e=.returned v/\Out ⟨P,0,w,0,g,λ_=>false⟩ [] g' w'/\ARep w' g' r v) [] .returning w₁:=by
    intro st' g' a₁ w₁ hs' hE;obtain⟨v,hv,g2,h1,h2⟩:=fin _ _ _ _ _ _ hs' hout.defers.symm hE;exact⟨v,hv,v,g2,rfl,h1,h2⟩
  rcases hq with⟨st',g',he,hE,hs'⟩|⟨st',g',ids,G,vs₁,hd,hvs,⟨m,hh',hm,hnd,hal,hdef,hE⟩,hs'⟩
  · have hdf:=hs'.defers.trans hout.defers.symm
    rcases he with rfl|rfl
    · simp only[bodyPostD,hdf];exact done _ _ _ _ hs' hE
    simp only[bodyPostD,hdf];exact done _ _ _ _ hs' hE
  have hargs':Pw (ARep w' (g'.canon ids)) (eo (List.range (mO ids st'.hp).length)) vs₁.toList:=by
    have hlen:(mO ids st'.hp).length=ids.length:=by simp[mO]
    rw[hlen];refine⟨by have:=hvs.1;simpa[eo]using this,λi x v hx hv=>?_⟩;simp only[eo,qU,wu]at hx;obtain⟨j,hj,rfl⟩:=hx;obtain⟨hjl,hji⟩:=zQQ.1 hj;simp only[List.length_range]at hjl;simp only[List.getElem_range]at hji;subst hji;have h3:=hvs.2 i (.mptr ids[i] 0 0 0) v (by simp[eo,hjl]) hv
    cases h3 with
    |mptr _ _ _ _ b hb=>exact .mptr _ _ _ _ b (by simp[Gh.canon,hjl,hb])
  have go:∀m',m=m'->m'≠.run->Leaves P fn a'.tmps (λe w'=>∃v g',e=.returned v/\Out ⟨P,0,w,0,g,λ_=>false⟩ [] g' w'/\ARep w' g' r v) [{ target:=.fn (.func G) vs₁,args:=#[] }] m' w':=by
    rintro m' rfl hne;refine leaves_cons hne (Fh hdef.1 _ _) ?_;have hc:=hdef.2 w' (g'.canon ids) vs₁ (hs'.handedM hnd _) hargs';simp only[Array.empty_append];refine hc.mono ?_;rintro e u w₂ ⟨hset,v,g₂,rfl,hout₂⟩;show Leaves P fn a'.tmps _ [] (settle u) w₂;rw[hset];exact done _ _ (Act.mark [] a') _ (hs'.backM _ hnd hal (λj hj=>absurd hj (pS j)) hout₂) hE
  cases e with
  |normal=>simp only[bodyPostD,hd];exact go _ (aS hm).symm (λe=>by cases e)
  |ret=>simp only[bodyPostD,hd];exact go _ (aS hm).symm (λe=>by cases e)
  |panic ch=>simp only[bodyPostD,hd];exact go _ (aS hm).symm (λe=>by cases e)
  |_=>cases hm
theorem Ht{F:FuncId}{fn:Func}{c:Code}{args:List AV}{d:D}{n:Nat}{rs:List ResultVar}(hcb:kD P F=true)(hf:P.funcs[F]?=some fn)(hb:fn.body=some c)(hn:fn.ntmps=n)(hrs:fn.results.toList=rs)(hle:Nat.ble args.length n=true)
    (h:∀w g,wm ⟨P,n,w,0,g,λ_=>false⟩ c ⟨oO args,[]⟩ (EndsS P rs d)):Ret P F [] (λ_=>false) args (.d d) []:=by
  subst hn;exact yn hcb hf hb (dK hle) (λst w g g' a' w' hs h0 hE=>finS hrs hs h0 hE) h
theorem cd{F:FuncId}{fn:Func}{c:Code}{args:List AV}{ds:List D}{n:Nat}{rs:List ResultVar}(hcb:kD P F=true)(hf:P.funcs[F]?=some fn)(hb:fn.body=some c)(hn:fn.ntmps=n)(hrs:fn.results.toList=rs)(hle:Nat.ble args.length n=true)
    (h:∀w g,wm ⟨P,n,w,0,g,λ_=>false⟩ c ⟨oO args,[]⟩ (EndsT P rs ds)):Ret P F [] (λ_=>false) args (.tup (ds.map .d)) []:=by
  subst hn;exact yn hcb hf hb (dK hle) (λst w g g' a' w' hs h0 hE=>finT hrs hs h0 hE) h
theorem yr{E:St->Prop}{ids:List Nat}{G:FuncId}{e:Exit}{m:FrameMode}{fr fr':Fr}{hp hp' hh':List Blk}(hm:modeOf e=some m)(hnd:gL ids=true)(hal:(ids.all λj=>cF hp j)=true)(hdef:Ca P G (mO ids hp) m hh')(hfr:Fr.mapRef (fI (tR ids λ_=>false)) fr=fr')(hhp:nA ids (hp.map (Blk.mapRef (fI (tR ids λ_=>false)))) hh'=hp')(h:E ⟨fr',hp'⟩):Et P E ids G e ⟨fr,hp⟩:=by
  subst hfr hhp;exact⟨m,hh',hm,eT hnd,λj hj=>zQT.1 hal j hj,hdef,h⟩
theorem Is{G:FuncId}{fn:Func}{c:Code}{hh hh':List Blk}{n:Nat}(hcb:kD P G=true)(hf:P.funcs[G]?=some fn)(hb:fn.body=some c)(hn:fn.ntmps=n)(hrs:fn.results.toList=[])(hle:Nat.ble hh.length n=true)
    (h:∀w g,TWp ⟨P,n,w,hh.length,g,λ_=>false⟩ c ⟨oO (eo (List.range hh.length)),hh⟩ (G7 P hh.length [] (.tup []) hh')):Ca P G hh .returning hh':=by
  subst hn;refine⟨hcb,λw g vs hout hargs=>?_⟩;have hsim:=Out.begin (fn:=fn) hout hargs (by simpa[eo]using dK hle);refine(callsD_of_wp (R:=λe w'=>∃v g',e=.returned v/\Out ⟨P,0,w,hh.length,g,λ_=>false⟩ hh' g' w') hf hb (Go.wp_mono (h w g g _ w hsim) ?_)).mono λe u w' ⟨hu,hR⟩=>⟨by subst hu;rfl,hR⟩;rintro e a' w' ⟨st',g',hQ,hs'⟩
  have fin:Ends P hh.length [] (.tup []) hh' st'->a'.defers=[]/\∃v,(results fn a'.tmps).run P w'=.ok v w'/\∃v' g',Ending.returned v=.returned v'/\Out ⟨P,0,w,hh.length,g,λ_=>false⟩ hh' g' w':=by
    rintro⟨x,ids,hx,hnd,hk,hr,hhp⟩;rw[<- hrs]at hx;obtain⟨v,hv,_⟩:=lU (P:=P) hs' hx;have ho:=(hs'.canon [] ids hnd hk).out hout.defers.symm;simp only[St.canon]at ho;rw[hhp]at ho;exact⟨hs'.defers.trans hout.defers.symm,v,hv,v,_,rfl,ho⟩
  cases e with
  |normal=>exact fin hQ
  |ret=>exact fin hQ
  |_=>exact hQ.elim
def RecM(m:FrameMode)(p:D):Prop:=(m=.returning/\p=.nilif)\/∃ch,m=.panicking ch/\I1 p ch
theorem q8{ops : Array Oper}{cs : List Frame}{Q : Exit -> Act -> List Frame -> World -> Prop}(hq : ∀ a w, ¬ Q .outgrown a cs w) : ∀ (l : List Nat) (a : Act) (w : World), wpOps P ops (fun e a w => Q e a cs w) l a w -> wpOpsS P ops Q l a cs w
  |[],a,w,h=>h
  |i::l,a,w,h=>by
    have ih:=q8 (ops:=ops) hq l;simp only[wpOps]at h;simp only[wpOpsS]
    cases ho:ops[i]? with
    |none=>rw[ho]at h;exact ih a w h
    |some o=>
      rw[ho]at h;simp only at h⊢;by_cases hw:Region.wanted o (yielded ops a.tmps)=true;rw[if_pos hw]at h⊢;rcases h with h|⟨_,_,_,hl⟩
      unfold Oper.wp at h;generalize (execOp a.eval o).run P w=r at h⊢
      cases r with
      |ok x w'=>
        cases x with
        |value v=>exact ih _ _ h
        |skip=>exact ih _ _ h
        |defer d=>exact ih _ _ h
        |enter f args=>
          refine Calls.mono h ?_;intro e w'' he
          cases e with
          |returned v=>exact ih _ _ he
          |panicked ch=>exact he
          |outgrown=>obtain⟨_,_,hl⟩:=he;exact absurd hl (hq _ _)
        |row s args=>
          refine Rows.mono h ?_;intro v w'' he;exact ih _ _ he
        |_=>exact h.elim
      |halt x w'=>cases x<;>exact h
      exact absurd hl (hq _ _);have hw : Region.wanted o (yielded ops a.tmps) = false := by simpa using hw
      simp only[hw,gu,if_false]at h⊢;exact ih _ _ h
theorem yG{G:FuncId}{fn:Func}{id:Nat}{ops:Array Oper}{y:Code}{hh hh':List Blk}{n d:Nat}{m:FrameMode}{p:D}{l:List Oper}{ty:TypeId}{pos:String}{after:Array Edge}(hcb:kD P G=true)(hf:P.funcs[G]?=some fn)(hb:fn.body=some (.seq (.region id ops false) y))(hops:ops.toList=⟨some d,.call { callee:=.builtin .recover,args:=#[],argTypes:=#[] },ty,pos,after,none⟩::l)(hn:fn.ntmps=n)(hrs:fn.results.toList=[])(hle:Nat.ble hh.length n=true)(hd:decide (d<n)=true)(hm:RecM m p)
    (h:∀w g,bO ⟨P,n,w,hh.length,g,λ_=>false⟩ ops l ⟨(d,.d p)::oO (eo (List.range hh.length)),hh⟩ (pn ⟨P,n,w,hh.length,g,λ_=>false⟩ [.s y] (G7 P hh.length [] (.tup []) hh'))):Ca P G hh m hh':=by
  subst hn;refine⟨hcb,λw g vs hout hargs=>?_⟩;have hsim:=Out.begin (fn:=fn) hout hargs (by simpa[eo]using dK hle);refine callsD_of_wpS hf hb λc₀ cs hc=>wpS_seq (wpS_region ?_);have hsz:ops.size=l.length+1:=by rw[<- Array.length_toList,hops];rfl
  have h0:ops[0]?=some ⟨some d,.call { callee:=.builtin .recover,args:=#[],argTypes:=#[] },ty,pos,after,none⟩:=by rw[<- Array.getElem?_toList,hops];rfl
  have hrest:∀j,l[j]?=ops[1+j]?:=λj=>by rw[<- Array.getElem?_toList,hops,tJ];rfl
  rw[hsz,List.range_eq_range',List.range'_succ];simp only[wpOpsS,h0];rw[if_pos (by simp[Region.wanted])];generalize ha0:({ tmps:=vs++Array.replicate (fn.ntmps-vs.size) undef,defers:=[] }:Act)=a0 at hsim⊢
  have hrun:(execOp a0.eval ⟨some d,.call { callee:=.builtin .recover,args:=#[],argTypes:=#[] },ty,pos,after,none⟩).run P w=.ok .recover w:=by
    simp[execOp,resolve,invoke];rfl
  simp only[hrun]
  have key:∀(v:Value)(cs':List Frame)(u:FrameMode),cs'={ c₀ with mode:=u }::cs->settle u=.returning->(∀w X,DRep w X p v)->
      wpOpsS P ops (Exit.thenS (y.wpS P (bodyPostS P fn c₀ cs λe u w'=>settle u=.returning/\∃v g',e=.returned v/\Out ⟨P,0,w,hh.length,g,λ_=>false⟩ hh' g' w')) (bodyPostS P fn c₀ cs λe u w'=>settle u=.returning/\∃v g',e=.returned v/\Out ⟨P,0,w,hh.length,g,λ_=>false⟩ hh' g' w')) (List.range' 1 l.length) (a0.put (some d) v) cs' w:=by
    intro v cs' u hcs hu hv;refine q8 ?_ _ _ _ ?_;rintro a w' ⟨u',_,v',g',he,_⟩;cases he;rw[wpOps_eq_wpList l 1 hrest];have hs1:=hsim.put' (d:=some d) (v:=v) (x:=.d p) (show kZ fn.ntmps (some d)=true from hd) (.d _ _ (hv _ _));refine oE (l2:=[]) (Q:=QN ⟨P,fn.ntmps,w,hh.length,g,λ_=>false⟩ (pn ⟨P,fn.ntmps,w,hh.length,g,λ_=>false⟩ [.s y] (G7 P hh.length [] (.tup []) hh'))) (λe a' w' he h=>by cases e with|normal=>exact absurd rfl he|_=>exact h.elim) ?_ l _ w (h w g _ _ _ hs1) |> λh=>by rwa [mW]at h
    rintro a' w' ⟨st',g',hk,hs'⟩;refine wpS_of_wp (Go.wp_mono (hk g' a' w' hs') ?_);rintro e a₂ w₂ ⟨st₂,g₂,hQ,hs₂⟩
    have fin:Ends P hh.length [] (.tup []) hh' st₂->a₂.defers=[]/\∃u',cs'={ c₀ with mode:=u' }::cs/\∃v,(results fn a₂.tmps).run P w₂=.ok v w₂/\settle u'=.returning/\∃v' g',Ending.returned v=.returned v'/\Out ⟨P,0,w,hh.length,g,λ_=>false⟩ hh' g' w₂:=by
      rintro⟨x,ids,hx,hnd,hk,hr,hhp⟩;rw[<- hrs]at hx;obtain⟨v,hv,_⟩:=lU (P:=P) hs₂ hx;have ho:=(hs₂.canon [] ids hnd hk).out hout.defers.symm;simp only[St.canon]at ho;rw[hhp]at ho;exact⟨hs₂.defers.trans hout.defers.symm,u,hcs,v,hv,hu,v,_,rfl,ho⟩
    cases e with
    |normal=>exact fin hQ
    |ret=>exact fin hQ
    |_=>exact hQ.elim
  rcases hm with⟨rfl,rfl⟩|⟨ch,rfl,v,rfl,hv⟩
  have hr : recoverD (c₀ :: cs) = none := by simp [recoverD, hc]
  rw[hr];exact key .nilIface (c₀::cs) .returning (by rw[<- hc]) rfl λ_ _=>.nilif;have hr : recoverD (c₀ :: cs) = some (v, { c₀ with mode := .panicking [{ v := v, recovered := true }] } :: cs) := by simp [recoverD, hc]
  rw[hr];exact key v _ (.panicking [{ v:=v,recovered:=true }]) rfl rfl hv
section
variable {C:Ctx}{st:St}{P:Program}{E:St->Prop}
theorem Cd{α β:Type}{rs:List ResultVar}{f:α->D}{E:β->St->Prop}{d:β}(h:E d st):zy P rs f E (.inr d) .ret st:=h
theorem f_next{y:Code}(h:wm C y st E):post C [] (lT (λst'=>wm C y st' E) (QR E)) .normal st:=h
theorem f_ret{next:St->Prop}(h:E st):post C [] (lT next (QR E)) .ret st:=⟨.inr rfl,h⟩
theorem yl{t:TypeId}{ms:Array (String×TypeId)}(hu:P.underlying t=some (.interface ms))(v:Value)(w:World)(hv:v=.nilIface\/∃t' u,v=.iface t' u):(binOp .neq t v .nilIface).run P w=.ok (.bool (match v with|.nilIface=>false|_=>true)) w:=by
  rcases hv with rfl|⟨t',u,rfl⟩
  have h:(Op.equalIn (9999+1) t .nilIface .nilIface).run P w=.ok true w:=by
    unfold Op.equalIn;simp[run_underlying hu]
  have h':(Op.equal t .nilIface .nilIface).run P w=.ok true w:=h;simp[binOp,h']
  have h:(Op.equalIn (9999+1) t (.iface t' u) .nilIface).run P w=.ok false w:=by
    unfold Op.equalIn;simp[run_underlying hu]
  have h':(Op.equal t (.iface t' u) .nilIface).run P w=.ok false w:=h;simp[binOp,h']
variable {o:Oper}{ev:Operand->AV}{hp:List Blk}{x:Operand}{t t':TypeId}{ms:Array (String×TypeId)}
theorem Hh(ho:o.op=.binOp .neq t x (.const .nilIface) t')(hu:C.P.underlying t=some (.interface ms))(hx:ev x=.d .nilif):RdOk C o ev hp (.d (.bool false)):=
  RdOk.mk λst hhp hag g a w hs=>by
    have h:=hs.ev x;rw[hag x (by simp[ho,Op.operands]),hx]at h
    have hv:a.eval x=.nilIface:=by
      generalize a.eval x=v at *;cases h with|d _ _ h=>cases h;rfl
    refine⟨.bool false,?_,.d _ _ (.bool false)⟩;have he:a.eval (.const .nilIface)=.nilIface:=rfl
    have hg:(eqGuard .neq t x (.const .nilIface) .nilIface .nilIface).run C.P w=.ok () w:=by
      unfold eqGuard;simp
    simp only[execOp,ho,hv,he,Sem.run_bind,hg,Result.andThen_ok,yl hu _ w (.inl rfl)];rfl
theorem x_nilY{t2:TypeId}{d:D}(ho:o.op=.binOp .neq t x (.const .nilIface) t')(hu:C.P.underlying t=some (.interface ms))(hx:ev x=.d (.iface t2 d)):RdOk C o ev hp (.d (.bool true)):=
  RdOk.mk λst hhp hag g a w hs=>by
    have h:=hs.ev x;rw[hag x (by simp[ho,Op.operands]),hx]at h
    obtain⟨u,hv⟩:∃u,a.eval x=.iface t2 u:=by
      generalize a.eval x=v at *;cases h with|d _ _ h=>cases h;exact⟨_,rfl⟩
    refine⟨.bool true,?_,.d _ _ (.bool true)⟩;have he:a.eval (.const .nilIface)=.nilIface:=rfl
    have hg:(eqGuard .neq t x (.const .nilIface) (.iface t2 u) .nilIface).run C.P w=.ok () w:=by
      unfold eqGuard;simp
    simp only[execOp,ho,hv,he,Sem.run_bind,hg,Result.andThen_ok,yl hu _ w (.inr ⟨_,_,rfl⟩)];rfl
end
section
variable {C:Ctx}{st:St}{g:Gh}{a:Act}{w:World}{P:Program}
theorem Sim.shr(h:Sim C st g a w){id ty sz:Nat}{es:List D}(k:Nat)(hb:st.hp[id]?=some (.flat ty sz es)):Sim C ⟨st.fr,st.hp.set id (.flat ty sz (es.take k))⟩ g a w:=by
  have hin:∀(i:Nat)(B:Blk),(st.hp.set id (.flat ty sz (es.take k)))[i]?=some B->∃B',st.hp[i]?=some B'/\(B≠.dead->B'≠.dead):=by
    intro i B hi;rw[cG]at hi;split at hi;rename_i e;subst e;exact⟨_,hb,λ_ e=>by cases e⟩;exact⟨B,hi,λh=>h⟩
  have hsub:∀(j:Nat)(e:D),(es.take k)[j]?=some e->es[j]?=some e:=λj e hj=>by
    rw[kJ]at hj;split at hj;exact hj;cases hj
  refine{ h with hp:=λi B hi=>?_,lt:=?_,inj:=?_,kle:=?_ };simp only[cG]at hi;split at hi;rename_i e;subst e;have hlt:=(zQQ.1 hb).1;rw[if_pos hlt]at hi;cases hi;rcases h.hp _ _ hb with⟨e0,hn⟩|⟨b,cells,h1,h2,h3,h4,h5,h6,h7⟩
  subst e0;exact .inl ⟨by simp,hn⟩;refine .inr ⟨b,cells,h1,h2,h3,dQ (iW _ (by simp;omega)) h4,λj e hj=>h5 j e (hsub j e hj),λj e q c hj hc=>h6 j e q c (hsub j e hj) hc,λj e q c hj hc=>h7 j e q c (hsub j e hj) hc⟩;exact h.hp i B hi;intro i b hp';have:=h.lt i b hp';simp only[zal60q];exact this;intro i j b Bi Bj hi hj di dj hpi hpj;obtain⟨Bi',hi',ei⟩:=hin i Bi hi;obtain⟨Bj',hj',ej⟩:=hin j Bj hj;exact h.inj i j b Bi' Bj' hi' hj' (ei di) (ej dj) hpi hpj;have:=h.kle;simp only[zal60q];exact this
theorem c_shr{α:Type}{f:α->D}{c:Code}{Q:Exit->St->Prop}{fr:Fr}{hp:List Blk}{xs:List α}{ty sz n:Nat}(t id:Nat)(hb:hp[id]?=some (.flat ty sz (xs.map f)))(ht:fr.get t=.msl id sz 0 n)(hn:n<=xs.length)(h:TWp C c ⟨(t,.msl id sz 0 (xs.take n).length)::fr,hp.set id (.flat ty sz ((xs.take n).map f))⟩ Q):TWp C c ⟨fr,hp⟩ Q:=λg a w hs=>by
  have h1:=Sim.shr (st:=⟨fr,hp⟩) hs n hb;rw[<- List.map_take]at h1;refine h g a w { h1 with fr:=λu=>?_ };simp only[Fr.get];split;rename_i e;subst e;have:=h1.fr t;simp only at this;rw[ht]at this;rw[gB,Nat.min_eq_left hn];exact this;exact h1.fr u
variable {o:Oper}{ev:Operand->AV}{hp:List Blk}
theorem Hi{T:Tab}{t e sz by' id n:Nat}{x:Operand}{lo hi:Option Operand}{l r:Int}(hT:TabOk C.P T)(ho:o.op=.slice t x lo hi none)(hl:lk T.sel t=some (e,sz,by'))(ha:ev x=.msl id sz 0 n)(hlo:Bp 0 (lo.map ev)=some l)(hhi:Bp n (hi.map ev)=some r)(h:0<=l/\l<=r/\r<=(n:Int)):RdOk C o ev hp (.msl id sz l.toNat (r.toNat-l.toNat)):=by
  have h1:Bp ((0:Nat):Int).toNat (lo.map ev)=some ((l.toNat:Nat):Int):=by rw[C7 h.1];exact hlo
  have h2:Bp n (hi.map ev)=some ((r.toNat:Nat):Int):=by rw[C7 (by omega)];exact hhi
  have:=yp (hp:=hp) id sz by' 0 n l.toNat r.toNat ho (hT.sel hl) ha h1 h2 (by omega) (by omega)
  simpa using this
theorem x_ixP{T:Tab}{t e sz by' id off len:Nat}{x y:Operand}{k:IntKind}{i:Int}(hT:TabOk C.P T)(ho:o.op=.indexAddr t x y)(hl:lk T.sel t=some (e,sz,by'))(ha:ev x=.msl id sz off len)(hb:ev y=.d (.int k i))(h:0<=i/\i<(len:Int)):RdOk C o ev hp (.mptr id sz (off+i.toNat) 0):=
  Cm ho (hT.sel hl) ha hb h rfl
theorem ok_clear{K:St->Prop}{t e:TypeId}{x:Operand}(id sz by' off len:Nat)(es:List D)(z:Value)(ho:o.op=.call { callee:=.builtin .clear,args:=#[x],argTypes:=#[t] })(hd:o.dst=none)(hl:sel C.P t=some (e,sz,by'))(hz:(C.P.info? e).bind (·.zero)=some z)(hzs:z.cells.size=sz)(hz1:∀u∈z.cells.toList,u.oneCell'=true)
    (hx:st.fr.ev x=.msl id sz off len) (hb:st.hp[id]?=some (.flat e sz es)) (hle:off+len<=es.length) (hK:K ⟨st.fr,st.hp.set id (.flat e sz (es.take off))⟩):OpOk C o st K:=
  OpOk.change λg a w hsim=>by
    obtain⟨inf,hun,hi,hsz,hby⟩:=lM hl;have hvx:=hsim.ev x;rw[hx]at hvx
    have hrun:∀vx v w',a.eval x=vx->(Builtin.clear_ #[t] o.type #[vx]).run C.P w=.ok v w'->(execOp a.eval o).run C.P w=.ok (.value v) w':=λvx v w' hex h=>by
      rw[<- hex]at h;simp only[execOp,ho];simp[resolve,invoke,builtin,h]
    obtain⟨inf',hinf',hz'⟩:=nB hz;generalize hex:a.eval x=vx at hvx
    cases hvx with
    |msl0=>
      refine⟨.tuple #[],w,hrun _ _ _ hex ?_,_,g,hK,?_⟩;rename_i ad;cases ad<;>simp[Builtin.clear_,run_underlying hun];rw[hd];exact hsim.shr off hb
    |msl _ _ _ _ cap0 b hbp hc hpsz=>
      by_cases hn0:len=0;subst hn0;refine⟨.tuple #[],w,hrun _ _ _ hex ?_,_,g,hK,?_⟩;simp[Builtin.clear_,run_underlying hun];rw[hd];exact hsim.shr off hb;rcases hsim.hp id _ hb with⟨h0,hn'⟩|⟨b',cells,hp',hw,hpsi,hl',h0,h1,hr0⟩
      rw[hbp]at hn';cases hn';cases hbp.symm.trans hp';have hmul2:(off+len)*sz<=es.length*sz:=iW _ hle;rw[oR]at hmul2;generalize hnews:(Builtin.zeroCells z.cells len).toList=news;have hl2:news.length=len*sz:=by rw[<- hnews,<- hzs];simp[Builtin.zeroCells]
      have h1c:∀u∈news,u.oneCell'=true:=by
        intro u hu;rw[<- hnews]at hu;simp only[Builtin.zeroCells,sD,zal76q]at hu;obtain⟨i,hi',rfl⟩:=hu;have hlt:i<len*z.cells.size:=by simpa using hi'
        have hpos:0<z.cells.size:=by
          rcases cy z.cells.size with h|h
          rw[h]at hlt;omega;exact h
        have hm:=Nat.mod_lt i hpos;rw[getElem!_pos z.cells _ hm];exact hz1 _ (by simp)
      have hst:=run_storeCells_at C.P b (off*sz) e news 0 cells w hw (by rw[hl2];omega) h1c;simp only[qV]at hst;obtain⟨m,rfl⟩:∃m,len=m+1:=⟨len-1,by omega⟩;refine⟨.tuple #[],w.setRow b (spl cells.toList (off*sz) news).toArray,hrun _ _ _ hex ?_,_,g,hK,?_⟩;simp[Builtin.clear_,run_underlying hun,zeroValue,typeInfo,hinf',hz',hnews,hst,spl];rw[hd];have hX:∀b',g.X b'->b'≠b:=λb' hX e=>(hsim.lt id b hbp).2.2 (e ▸ hX)
      have hscell:∀m',m'<off*sz->(spl cells.toList (off*sz) news).toArray[m']?=cells[m']?:=λm' hm=>by
        rw[xm,spl_get _ _ _ (by rw[hl2];simp;omega),if_pos hm];simp
      have hsub:∀(j:Nat)(e:D),(es.take off)[j]?=some e->j<off/\es[j]?=some e:=λj e hj=>by
        rw[kJ]at hj;split at hj;rename_i h;exact⟨h,hj⟩;cases hj
      refine hsim.change (i := id) (b := b) hb (fun e => by cases e) hbp (w' := w.setRow b (spl cells.toList (off * sz) news).toArray) (qN _ _ _) rfl rfl rfl (wt _) (fun b' hb' => setRow_other w b b' _ hb')
        (B:=.flat e sz (es.take off)) (.inr ⟨b,_,hbp,setRow_heap w b cells _ e (0,0) hw,?_,?_,?_,?_,?_⟩)
      rw[hpsi];simp[spl];omega;have : (spl cells.toList (off * sz) news).toArray.size = cells.size := by simp [spl]; omega
      rw[this];exact dQ (iW _ (by simp;omega)) hl';exact λk e' hk=>h0 k e' (hsub k e' hk).2;exact λk e' j c hk hj=>h1 k e' j c (hsub k e' hk).2 hj;intro k e' j c hk hj;obtain⟨hko,hk'⟩:=hsub k e' hk;have hjlt:j<sz:=by rw[<- h0 k e' hk'];exact(zQQ.1 hj).1
      obtain⟨v,hv,hdv⟩:=hr0 k e' j c hk' hj;have:=iW sz hko;rw[rK]at this;exact⟨v,by rw[hscell _ (by omega)];exact hv,hdv.mono (λ_ h=>h) λb' hb'=>setRow_other w b b' _ (hX b' hb')⟩
theorem s_clear{α : Type}{f : α -> D}{T : Tab}{K : St -> Prop}{ops : Array Oper}{l : List Oper}{fr : Fr}{hp : List Blk}{xs : List α}{t e sz by' id off len : Nat}{x : Operand}{z : Value}{ty : TypeId}{pos : String}{after : Array Edge}(hT : TabOk C.P T)(hl : lk T.sel t = some (e, sz, by'))(hz : (C.P.info? e).bind (·.zero) = some z)(hzs : Nat.beq z.cells.size sz = true)(hz1 : (z.cells.toList.all fun u => u.oneCell') = true)
    (hx:fr.ev x=.msl id sz off len) (hb:hp[id]?=some (.flat e sz (xs.map f))) (hle:off+len<=xs.length) (h:bO C ops l ⟨fr,hp.set id (.flat e sz ((xs.take off).map f))⟩ K):bO C ops (⟨none,.call { callee:=.builtin .clear,args:=#[x],argTypes:=#[t] },ty,pos,after,none⟩::l) ⟨fr,hp⟩ K:=by
  rw[xk]at h;exact cU rfl (ok_clear (st:=⟨fr,hp⟩) id sz by' off len (xs.map f) z rfl rfl (hT.sel hl) hz (dO hzs) (zQT.1 hz1) hx hb (by rw[Bo];exact hle) h)
end
variable {C:Ctx}{st:St}{g:Gh}{a:Act}{w:World}{P:Program}
def yZ(p q:Nat):AV->AV
  |.msl j s o l=>if j=p then .msl q s o l else .msl j s o l
  |.mptr j s x o=>if j=p then .mptr q s x o else .mptr j s x o
  |.mmap j=>if j=p then .mmap q else .mmap j
  |.yld j=>if j=p then .yld q else .yld j
  |.mmapN j n=>if j=p then .mmapN q n else .mmapN j n
  |v=>v
theorem Sim.renB{fr:Fr}{hp:List Blk}(h:Sim C ⟨fr,hp⟩ g a w){p q:Nat}{B:Blk}(hB:hp[p]?=some B)(hq:hp[q]?=some .hole)(hpq:p≠q)(hkp:C.k<=p)(hkq:C.k<=q):
    ∃g',Sim C ⟨Fr.mapRef (yZ p q) fr,((hp.map (Blk.mapRef (yZ p q))).set q (B.mapRef (yZ p q))).set p .hole⟩ g' a w:=by
  have hno:g.phi q=none:=h.hp q _ hq;have hpl:p<hp.length:=(zQQ.1 hB).1;have hql:q<hp.length:=(zQQ.1 hq).1
  let g':Gh:={ phi:=λj=>if j=q then g.phi p else if j=p then none else g.phi j,psi:=λj=>if j=q then g.psi p else g.psi j,X:=g.X }
  have hpq':¬p=q:=hpq
  have hphi:∀j b,g'.phi j=some b->(j=q/\g.phi p=some b)\/(j≠q/\j≠p/\g.phi j=some b):=by
    intro j b hj;simp only[g']at hj;split at hj;rename_i e;exact .inl ⟨e,hj⟩;rename_i e;split at hj;cases hj;rename_i e';exact .inr ⟨e,e',hj⟩
  have hat:∀{j b:Nat},j≠p->g.phi j=some b->g'.phi j=some b/\g'.psi j=g.psi j:=by
    intro j b hj hb;have hjq:j≠q:=λe=>by subst e;rw[hno]at hb;cases hb
    simp only[g',if_neg hjq,if_neg hj];exact⟨hb,trivial⟩
  have hatp:∀{b:Nat},g.phi p=some b->g'.phi q=some b/\g'.psi q=g.psi p:=by
    intro b hb;simp only[g',if_true];exact⟨hb,trivial⟩
  have hF:∀x v,ARep w g x v->x.isRef=true->ARep w g' (yZ p q x) v:=by
    intro x v hx hr
    cases hx with
    |msl0 j s o ad=>simp only[yZ];split<;>exact .msl0 _ _ _ _
    |msl j s o l cap b hb hc hp'=>
      simp only[yZ];split;rename_i e;subst e;exact .msl _ _ _ _ cap b (hatp hb).1 hc (by rw[(hatp hb).2];exact hp');rename_i e;exact .msl _ _ _ _ cap b (hat e hb).1 hc (by rw[(hat e hb).2];exact hp')
    |mptr j s x o b hb=>
      simp only[yZ];split;rename_i e;subst e;exact .mptr _ _ _ _ b (hatp hb).1;rename_i e;exact .mptr _ _ _ _ b (hat e hb).1
    |mmap j b hb=>
      simp only[yZ];split;rename_i e;subst e;exact .mmap _ b (hatp hb).1;rename_i e;exact .mmap _ b (hat e hb).1
    |yld j b hb=>
      simp only[yZ];split;rename_i e;subst e;exact .yld _ b (hatp hb).1;rename_i e;exact .yld _ b (hat e hb).1
    |mmapN0 j=>simp only[yZ];split<;>exact .mmapN0 _
    |mmapN j n b hb=>
      simp only[yZ];split;rename_i e;subst e;exact .mmapN _ _ b (hatp hb).1;rename_i e;exact .mmapN _ _ b (hat e hb).1
    |_=>cases hr
  have hX:∀b,g.X b->g'.X b:=λ_ h=>h
  have inv:∀(i:Nat)(Bi:Blk),(((hp.map (Blk.mapRef (yZ p q))).set q (B.mapRef (yZ p q))).set p .hole)[i]?=some Bi->(i=p/\Bi=.hole)\/(i=q/\i≠p/\Bi=B.mapRef (yZ p q))\/(i≠p/\i≠q/\∃B',hp[i]?=some B'/\Bi=B'.mapRef (yZ p q)):=by
    intro i Bi hi;rw[cG]at hi;split at hi;rename_i e;split at hi;cases hi;exact .inl ⟨e.symm,rfl⟩;cases hi;rename_i e;rw[cG]at hi;split at hi;rename_i e';split at hi;cases hi;exact .inr (.inl ⟨e'.symm,λh=>e h.symm,rfl⟩);cases hi;rename_i e';simp only[qU,wu]at hi;obtain⟨B',hB',rfl⟩:=hi;exact .inr (.inr ⟨λh=>e h.symm,λh=>e' h.symm,B',hB',rfl⟩)
  refine⟨g',{ h with fr:=λt=>?_,hp:=?_,lt:=?_,inj:=?_,own:=?_,stay:=?_,kle:=?_ }⟩;rw[Fr.get_mapRef];exact ARep.mapRef (g:=g) (g':=g') (λd v hd=>hd) hF (h.fr t);intro i Bi hi;rcases inv i Bi hi with⟨rfl,rfl⟩|⟨rfl,hne,rfl⟩|⟨hne,hne',B',hB',rfl⟩
  show g'.phi i=none;simp only[g',if_neg hpq',if_true];exact BRep.mapRef (i:=p) (by simp[g']) (by simp[g']) hX hF (h.hp p B hB);exact BRep.mapRef (i:=i) (by simp[g',hne,hne']) (by simp[g',hne']) hX hF (h.hp i B' hB');intro i b hi;simp only[zal60q,Bo];rcases hphi i b hi with⟨rfl,hb⟩|⟨_,_,hb⟩
  have:=h.lt p b hb;exact⟨this.1,hql,this.2.2⟩;exact h.lt i b hb;intro i j b Bi Bj hi hj di dj hbi hbj;simp only at hi hj
  have key:∀i Bi,(((hp.map (Blk.mapRef (yZ p q))).set q (B.mapRef (yZ p q))).set p .hole)[i]?=some Bi->Bi≠.dead->g'.phi i=some b->∃i' B',(i=q/\i'=p\/i≠q/\i≠p/\i'=i)/\hp[i']?=some B'/\B'≠.dead/\g.phi i'=some b:=by
    intro i Bi hi di hb;rcases inv i Bi hi with⟨rfl,rfl⟩|⟨rfl,hne,rfl⟩|⟨hne,hne',B',hB',rfl⟩
    simp only[g',if_neg hpq',if_true]at hb;cases hb;rcases hphi i b hb with⟨_,hb'⟩|⟨h',_,_⟩
    · exact⟨p,B,.inl ⟨rfl,rfl⟩,hB,λe=>di (by subst e;rfl),hb'⟩
    exact absurd rfl h';rcases hphi i b hb with⟨h',_⟩|⟨_,_,hb'⟩
    · exact absurd h' hne'
    exact⟨i,B',.inr ⟨hne',hne,rfl⟩,hB',λe=>di (by subst e;rfl),hb'⟩
  obtain⟨i',B1,e1,h1,d1,b1⟩:=key i Bi hi di hbi;obtain⟨j',B2,e2,h2,d2,b2⟩:=key j Bj hj dj hbj;have:=h.inj i' j' b B1 B2 h1 h2 d1 d2 b1 b2;omega;intro i b hi hb;rcases hphi i b hi with⟨rfl,hb'⟩|⟨_,_,hb'⟩
  have:=(h.own p b hb' hb).1;omega;exact h.own i b hb' hb;intro i b hi hm hb;have:=h.stay i b hi hm hb;have h1:i≠p:=by omega
  have h2:i≠q:=by omega
  simp only[g',if_neg h1,if_neg h2];exact this;have:=h.kle;simpa using this
theorem Sim.rehole{fr:Fr}{hp:List Blk}(h:Sim C ⟨fr,hp⟩ g a w){i:Nat}(hk:C.k<=i):∃g',Sim C ⟨Fr.mapRef (TL.purge i) fr,(hp.map (Blk.mapRef (TL.purge i))).set i .hole⟩ g' a w:=by
  let g':Gh:={ phi:=λj=>if j=i then none else g.phi j,psi:=g.psi,X:=g.X }
  have hphi:∀j b,g'.phi j=some b->j≠i/\g.phi j=some b:=by
    intro j b hj;simp only[g']at hj;split at hj;cases hj;rename_i e;exact⟨e,hj⟩
  have hat:∀{j b:Nat},j≠i->g.phi j=some b->g'.phi j=some b:=by
    intro j b hj hb;simp only[g',if_neg hj];exact hb
  have hF:∀x v,ARep w g x v->x.isRef=true->ARep w g' (TL.purge i x) v:=by
    intro x v hx hr
    cases hx with
    |msl0 j s o ad=>simp only[TL.purge];split;exact .junk _;exact .msl0 _ _ _ _
    |msl j s o l cap b hb hc hp'=>
      simp only[TL.purge];split;exact .junk _;rename_i e;exact .msl _ _ _ _ cap b (hat e hb) hc hp'
    |mptr j s x o b hb=>
      simp only[TL.purge];split;exact .junk _;rename_i e;exact .mptr _ _ _ _ b (hat e hb)
    |mmap j b hb=>
      simp only[TL.purge];split;exact .junk _;rename_i e;exact .mmap _ b (hat e hb)
    |yld j b hb=>
      simp only[TL.purge];split;exact .junk _;rename_i e;exact .yld _ b (hat e hb)
    |mmapN0 j=>simp only[TL.purge];split;exact .junk _;exact .mmapN0 _
    |mmapN j n b hb=>
      simp only[TL.purge];split;exact .junk _;rename_i e;exact .mmapN _ _ b (hat e hb)
    |_=>cases hr
  have inv:∀(j:Nat)(Bj:Blk),((hp.map (Blk.mapRef (TL.purge i))).set i .hole)[j]?=some Bj->(j=i/\Bj=.hole)\/(j≠i/\∃B',hp[j]?=some B'/\Bj=B'.mapRef (TL.purge i)):=by
    intro j Bj hj;rw[cG]at hj;split at hj;rename_i e;split at hj;cases hj;exact .inl ⟨e.symm,rfl⟩;cases hj;rename_i e;simp only[qU,wu]at hj;obtain⟨B',hB',rfl⟩:=hj;exact .inr ⟨λh=>e h.symm,B',hB',rfl⟩
  refine⟨g',{ h with fr:=λt=>?_,hp:=?_,lt:=?_,inj:=?_,own:=?_,stay:=?_,kle:=?_ }⟩;rw[Fr.get_mapRef];exact ARep.mapRef (g:=g) (g':=g') (λd v hd=>hd) hF (h.fr t);intro j Bj hj;rcases inv j Bj hj with⟨rfl,rfl⟩|⟨hne,B',hB',rfl⟩
  show g'.phi j=none;simp only[g',if_true];exact BRep.mapRef (g:=g) (g':=g') (i:=j) (by simp[g',hne]) rfl (λ_ h=>h) hF (h.hp j B' hB');intro j b hj;simp only[zal60q,Bo];exact h.lt j b (hphi j b hj).2;intro j j' b Bj Bj' h1 h2 d1 d2 b1 b2;rcases inv j Bj h1 with⟨rfl,rfl⟩|⟨_,B1,e1,rfl⟩
  exact absurd rfl (hphi j b b1).1;rcases inv j' Bj' h2 with⟨rfl,rfl⟩|⟨_,B2,e2,rfl⟩
  exact absurd rfl (hphi j' b b2).1;exact h.inj j j' b B1 B2 e1 e2 (λe=>d1 (by subst e;rfl)) (λe=>d2 (by subst e;rfl)) (hphi j b b1).2 (hphi j' b b2).2;intro j b hj hb;exact h.own j b (hphi j b hj).2 hb;intro j b hj hm hb;have:=h.stay j b hj hm hb;have h1:j≠i:=by omega
  simp only[g',if_neg h1];exact this;have:=h.kle;simpa using this
variable {C:Ctx}{st:St}{g:Gh}{a:Act}{w:World}{P:Program}
def Hc(w:World)(g:Gh)(es:List (D×AV))(ents:Array MapEntry):Prop:=
  ents.size=es.length/\∀(k:Nat)(e:D×AV)(m:MapEntry),es[k]?=some e->ents[k]?=some m->DRep w g.X e.1 m.key/\ARep w g e.2 m.val
section find
variable {d:TypeDesc}{k:D}{es:List (D×AV)}{ents:Array MapEntry}
theorem Cr(hE:Hc w g es ents)(hks:∀e∈es,fV d e.1=true):∀x∈ents.toList,MapKept.IsKey d x.key:=by
  intro x hx;obtain⟨i,hi⟩:=iL hx;have hi':ents[i]?=some x:=by simpa using hi
  have hlt:i<es.length:=by rw[<- hE.1];exact(zal5q.1 hi').1
  exact(nN (hks es[i] (fM hlt)) (hE.2 i es[i] x (by simp[hlt]) hi').1).2
theorem Gm(hE:Hc w g es ents)(hks:∀e∈es,fV d e.1=true)(hk:fV d k=true)(hne:∀e∈es,e.1≠k):Instr.findNow d (lK k) ents.toList 0=some none:=by
  have hkk:MapKept.IsKey d (lK k):=yD hk;rcases MapKept.findNow_spec hkk ents.toList 0 (Cr hE hks)with⟨h1,_⟩|⟨j,e,_,h2,h3⟩
  exact h1;exfalso;have hj:ents[j]?=some e:=by simpa using h2
  have hlt:j<es.length:=by rw[<- hE.1];exact(zal5q.1 hj).1
  have hmem:=fM hlt;have:=(nN (hks es[j] hmem) (hE.2 j es[j] e (by simp[hlt]) hj).1).1;exact hne _ hmem (ez (hks _ hmem) hk (by rw[<- this,h3]))
theorem Cq(hE:Hc w g es ents)(hks:∀e∈es,fV d e.1=true)(hnd:(es.map (·.1)).Nodup){j:Nat}{v:AV}(hj:es[j]?=some (k,v)):∃e,ents[j]?=some e/\e.key=lK k/\ARep w g v e.val/\Instr.findNow d (lK k) ents.toList 0=some (some (j,e.val)):=by
  have hjl:=(zQQ.1 hj).1;have hk:fV d k=true:=hks (k,v) (tX hj);have hkk:MapKept.IsKey d (lK k):=yD hk;have hjs:j<ents.size:=by rw[hE.1];exact hjl
  have he:ents[j]?=some ents[j]:=by simp[hjs]
  have hr:=hE.2 j (k,v) ents[j] hj he;have hkey:=(nN hk hr.1).1;rcases MapKept.findNow_spec hkk ents.toList 0 (Cr hE hks)with⟨_,h2⟩|⟨j',e',h1,h2,h3⟩
  exact absurd hkey (h2 ents[j] (by simp));have hj' : ents[j']? = some e' := by simpa using h2
  have hlt:j'<es.length:=by rw[<- hE.1];exact(zal5q.1 hj').1
  have hmem:=fM hlt;have h4:=(nN (hks es[j'] hmem) (hE.2 j' es[j'] e' (by simp[hlt]) hj').1).1;have h5:es[j'].1=k:=ez (hks _ hmem) hk (by rw[<- h4,h3]);have h6:j'=j:=find_yes.nodup_at (x:=k) hnd (by simp[hlt,h5]) (by simp[hj]);subst h6;rw[he]at hj';cases hj';exact⟨_,he,hkey,hr.2,by simpa using h1⟩
end find
section look
variable {o:Oper}{ev:Operand->AV}{hp:List Blk}{x y u:Operand}{t kt et kt' et':TypeId}{d:TypeDesc}{id:Nat}{es:List (D×AV)}{k zd:D}{v:AV}{z:Value}
theorem vR(hs:Sim C st g a w)(hx:st.fr.ev x=.mmap id)(hb:st.hp[id]?=some (.mapv kt' et' es))(hy:st.fr.ev y=.d k)(hk:fV d k=true):
    ∃b ents clock,g.phi id=some b/\a.eval x=.map (some b)/\w.heap[b]?=some (.map ents clock)/\Hc w g es ents/\a.eval y=lK k/\MapKept.IsKey d (lK k):=by
  have h1:=hs.ev x;rw[hx]at h1;obtain⟨b,hp,he⟩:=er h1;obtain⟨b',ents,clock,hp',hw,hsz,hr⟩:=hs.hp id _ hb;cases hp.symm.trans hp';have h2:=hs.ev y;rw[hy]at h2;have h3:DRep w g.X k (a.eval y):=by cases h2 with|d _ _ h=>exact h
  obtain⟨h4,h5⟩:=nN hk h3;exact⟨b,ents,clock,hp,he,hw,⟨hsz,hr⟩,h4,h4 ▸ h5⟩
theorem x_lookVY{j:Nat}(ho:o.op=.lookup t x y false)(hl:uT C.P t=some (kt,d,et))(hx:ev x=.mmap id)(hb:hp[id]?=some (.mapv kt' et' es))(hy:ev y=.d k)(hks:∀e∈es,fV d e.1=true)(hnd:(es.map (·.1)).Nodup)(hj:es[j]?=some (k,v)):RdOk C o ev hp v:=
  RdOk.mk λst hhp hag g a w hs=>by
    have hk:fV d k=true:=hks (k,v) (tX hj);obtain⟨b,ents,clock,hp',hex,hw,hE,hey,hkk⟩:=vR (d:=d) hs (by rw[hag x (by simp[ho,Op.operands]),hx]) (hhp id _ hb λe=>by cases e) (by rw[hag y (by simp[ho,Op.operands]),hy]) hk;obtain⟨e,_,_,hv,hf⟩:=Cq hE hks hnd hj;obtain⟨hu,hd⟩:=jR hl;refine⟨e.val,?_,hv⟩;simp only[execOp,ho,hex,hey];simp[Instr.lookup,run_underlying hu,MapKept.run_getObj_map hw,MapKept.run_checkKey hd hkk,MapKept.run_findKey hd hf,Result.andThen]
theorem x_lookVN(ho:o.op=.lookup t x y false)(hl:uT C.P t=some (kt,d,et))(hz:(C.P.info? et).bind (·.zero)=some z)(hzd:dV z=.d zd)(hx:ev x=.mmap id)(hb:hp[id]?=some (.mapv kt' et' es))(hy:ev y=.d k)(hk:fV d k=true)(hks:∀e∈es,fV d e.1=true)(hne:∀e∈es,e.1≠k):RdOk C o ev hp (.d zd):=
  RdOk.mk λst hhp hag g a w hs=>by
    obtain⟨b,ents,clock,hp',hex,hw,hE,hey,hkk⟩:=vR (d:=d) hs (by rw[hag x (by simp[ho,Op.operands]),hx]) (hhp id _ hb λe=>by cases e) (by rw[hag y (by simp[ho,Op.operands]),hy]) hk;have hf:=Gm hE hks hk hne;obtain⟨hu,hd⟩:=jR hl;refine⟨z,?_,by rw[<- hzd];exact jF w g _⟩;simp only[execOp,ho,hex,hey];simp[Instr.lookup,run_underlying hu,MapKept.run_getObj_map hw,MapKept.run_checkKey hd hkk,MapKept.run_findKey hd hf,qH hz,Result.andThen]
theorem vf(hs:Sim C st g a w){b:Nat}{ents ents':Array MapEntry}{clock clock':Nat}{es':List (D×AV)}(hp:g.phi id=some b)(hb:st.hp[id]?=some (.mapv kt' et' es))(hw:w.heap[b]?=some (.map ents clock))(hE:Hc w g es' ents'):
    Sim C ⟨st.fr,st.hp.set id (.mapv kt' et' es')⟩ g a { w with heap:=w.heap.setIfInBounds b (.map ents' clock') }:=by
  have hX:∀b',g.X b'->b'≠b:=λb' hX e=>(hs.lt id b hp).2.2 (e ▸ hX);have hold:=(MapKept.heap_set (o':=.map ents' clock') hw).2;refine hs.change (w':={ w with heap:=w.heap.setIfInBounds b (.map ents' clock') }) hb (λe=>by cases e) hp (by simp) rfl rfl rfl (wt _) hold ⟨b,ents',clock',hp,(MapKept.heap_set hw).1,hE.1,λj e m he hm=>?_⟩;exact⟨(hE.2 j e m he hm).1.mono (λ_ h=>h) λb' hb'=>hold b' (hX b' hb'),(hE.2 j e m he hm).2.mono ⟨λ_ _ h=>h,λ_ _ _=>rfl,λ_ h=>h,λb' hb'=>hold b' (hX b' hb')⟩⟩
theorem Fx{K:St->Prop}(ho:o.op=.mapUpdate t x y u)(hd:o.dst=none)(hl:uT C.P t=some (kt,d,et))(hx:st.fr.ev x=.mmap id)(hb:st.hp[id]?=some (.mapv kt' et' es))(hy:st.fr.ev y=.d k)(hu:st.fr.ev u=v)(hk:fV d k=true)(hks:∀e∈es,fV d e.1=true)(hne:∀e∈es,e.1≠k)
    (hK:K ⟨st.fr,st.hp.set id (.mapv kt' et' (es++[(k,v)]))⟩):OpOk C o st K:=
  OpOk.skip λg a w hs=>by
    obtain⟨b,ents,clock,hp,hex,hw,hE,hey,hkk⟩:=vR (d:=d) hs hx hb hy hk;have hf:=Gm hE hks hk hne;obtain⟨hu',hd'⟩:=jR hl;have hv:=hs.ev u;rw[hu]at hv;have hkd:=hs.ev y;rw[hy,hey]at hkd;have hkd':DRep w g.X k (lK k):=by cases hkd with|d _ _ h=>exact h
    refine⟨{ w with heap:=w.heap.setIfInBounds b (.map (ents.push { key:=lK k,val:=a.eval u,born:=clock }) (clock+1)) },?_,_,g,hK,?_⟩;simp only[execOp,ho,hex,hey];simp[Instr.mapUpdate,run_underlying hu',MapKept.run_getObj_map hw,MapKept.run_checkKey hd' hkk,MapKept.run_findKey hd' hf,MapKept.run_setObj_map _ hw,Result.andThen];rw[hd];refine vf hs hp hb hw ⟨by simp[hE.1],λj e m he hm=>?_⟩;rw[eW]at he;rw[Array.getElem?_push]at hm;split at he;rename_i hlt;rw[if_neg (by rw[hE.1];omega)]at hm;exact hE.2 j e m he hm;rename_i hge
    have hj:j=es.length:=by
      rcases dB (j-es.length) 1 with h1|h1
      omega;rw[iS (by simpa using h1)]at he;cases he
    subst hj;rw[if_pos hE.1.symm]at hm;simp at he hm;subst he hm;exact⟨hkd',hv⟩
theorem H8{K:St->Prop}{j:Nat}{v0:AV}(ho:o.op=.mapUpdate t x y u)(hd:o.dst=none)(hl:uT C.P t=some (kt,d,et))(hx:st.fr.ev x=.mmap id)(hb:st.hp[id]?=some (.mapv kt' et' es))(hy:st.fr.ev y=.d k)(hu:st.fr.ev u=v)(hks:∀e∈es,fV d e.1=true)(hnd:(es.map (·.1)).Nodup)(hj:es[j]?=some (k,v0))
    (hK:K ⟨st.fr,st.hp.set id (.mapv kt' et' (es.set j (k,v)))⟩):OpOk C o st K:=
  OpOk.skip λg a w hs=>by
    have hk:fV d k=true:=hks (k,v0) (tX hj);obtain⟨b,ents,clock,hp,hex,hw,hE,hey,hkk⟩:=vR (d:=d) hs hx hb hy hk;obtain⟨e0,he0,hek,_,hf⟩:=Cq hE hks hnd hj;obtain⟨hu',hd'⟩:=jR hl;have hv:=hs.ev u;rw[hu]at hv;have hkd:=hs.ev y;rw[hy,hey]at hkd;have hkd':DRep w g.X k (lK k):=by cases hkd with|d _ _ h=>exact h
    have hst:(Instr.keyThatStays e0.key (lK k)).run C.P w=.ok (lK k) w:=by rw[hek];exact MapKept.run_keyThatStays hkk
    refine⟨{ w with heap:=w.heap.setIfInBounds b (.map (ents.modify j λe=>{ e with key:=lK k,val:=a.eval u }) clock) },?_,_,g,hK,?_⟩;simp only[execOp,ho,hex,hey];simp[Instr.mapUpdate,run_underlying hu',MapKept.run_getObj_map hw,MapKept.run_checkKey hd' hkk,MapKept.run_findKey hd' hf,he0,hst,MapKept.run_setObj_map _ hw,Result.andThen];rw[hd];refine vf hs hp hb hw ⟨by simp[hE.1],λi e m he hm=>?_⟩;rw[cG]at he;rw[qk]at hm;split at he;rename_i hij;subst hij;rw[if_pos rfl,he0]at hm;split at he;cases he;simp at hm;subst hm;exact⟨hkd',hv⟩;cases he;rename_i hij;rw[if_neg hij]at hm;exact hE.2 i e m he hm
end look
section ops
variable {ops:Array Oper}{l:List Oper}{K:St->Prop}{fr:Fr}{hp:List Blk}{ty:TypeId}{pos:String}{after:Array Edge}
theorem s_alH{d:Nat}{t:TypeId}{z:Value}{cs:List AV}(i:Nat)(hd:decide (d<C.n)=true)(hi:hp[i]?=some .hole)(hz:(C.P.info? t).bind (·.zero)=some z)(hf:(dV z).flat=true)(hc:(dV z).cells=cs)(h:bO C ops l ⟨(d,.mptr i 0 0 0)::fr,hp.set i (.box t cs)⟩ K):bO C ops (⟨some d,.alloc t,ty,pos,after,none⟩::l) ⟨fr,hp⟩ K:=by
  have hil:=(zQQ.1 hi).1;refine cU rfl λg a w Q hs=>?_;refine lL (C:=C) (o:=⟨some d,.alloc t,ty,pos,after,none⟩) (ev:=fr.ev) (hp:=hp) hi rfl hz hf hc ⟨fr,hp⟩ (HpLe.refl _) (λp hp'=>by simp at hp';subst hp';exact hil) (λp hp' hdead=>by simp at hp';subst hp';rw[hi]at hdead;cases hdead) (λ_ _=>rfl) g a w hs Q _ λv w' g' hs' hx=>?_;exact⟨_,g',h,hs'.put' (d:=some d) (show kZ C.n (some d)=true from hd) hx⟩
end ops
theorem Sim.toV{t:Nat}{fr:Fr}{hp:List Blk}(h:Sim C ⟨fr,hp⟩ g a w){i kt vt:Nat}(hb:hp[i]?=some (.map kt vt []))(hp':fr.get t=.mmap i):Sim C ⟨fr,hp.set i (.mapv kt vt [])⟩ g a w:=by
  have hlen:i<hp.length:=(zQQ.1 hb).1
  have hin:∀(j:Nat)(B:Blk),(hp.set i (.mapv kt vt []))[j]?=some B->∃B',hp[j]?=some B'/\(B≠.dead->B'≠.dead):=by
    intro j B hj;rw[cG]at hj;split at hj;rename_i e;subst e;exact⟨_,hb,λ_ e=>by cases e⟩;exact⟨B,hj,λh=>h⟩
  refine{ h with hp:=λj B hj=>?_,lt:=?_,inj:=?_,kle:=?_ };simp only[cG]at hj;split at hj;rename_i e;subst e;cases hj;have h1:=h.fr t;simp only at h1;rw[hp']at h1;obtain⟨b,hb',_⟩:=er h1;rcases h.hp _ _ hb with⟨_,hn⟩|⟨b',ents,clock,q1,q2,q3,q4⟩
  rw[hn]at hb';cases hb';exact⟨b',ents,clock,q1,q2,by simpa using q3,λk e m he=>by simp at he⟩;exact h.hp j B hj;intro j b hj;have:=h.lt j b hj;simp only[zal60q];exact this;intro i1 j b Bi Bj hi hj di dj hpi hpj;obtain⟨Bi',hi',ei⟩:=hin i1 Bi hi;obtain⟨Bj',hj',ej⟩:=hin j Bj hj;exact h.inj i1 j b Bi' Bj' hi' hj' (ei di) (ej dj) hpi hpj;have:=h.kle;simp only[zal60q];exact this
theorem Sim.ofV{fr:Fr}{hp:List Blk}(h:Sim C ⟨fr,hp⟩ g a w){i kt vt:Nat}{es:List (D×D)}(hb:hp[i]?=some (.mapv kt vt (es.map λe=>(e.1,.d e.2)))):Sim C ⟨fr,hp.set i (.map kt vt es)⟩ g a w:=by
  have hlen:i<hp.length:=(zQQ.1 hb).1
  have hin:∀(j:Nat)(B:Blk),(hp.set i (.map kt vt es))[j]?=some B->∃B',hp[j]?=some B'/\(B≠.dead->B'≠.dead):=by
    intro j B hj;rw[cG]at hj;split at hj;rename_i e;subst e;exact⟨_,hb,λ_ e=>by cases e⟩;exact⟨B,hj,λh=>h⟩
  refine{ h with hp:=λj B hj=>?_,lt:=?_,inj:=?_,kle:=?_ };simp only[cG]at hj;split at hj;rename_i e;subst e;cases hj;obtain⟨b',ents,clock,q1,q2,q3,q4⟩:=h.hp _ _ hb;refine .inr ⟨b',ents,clock,q1,q2,by simpa using q3,λk e m he hm=>?_⟩;have:=q4 k (e.1,.d e.2) m (by simp[he]) hm;exact⟨this.1,by cases this.2 with|d _ _ h=>exact h⟩;exact h.hp j B hj;intro j b hj;have:=h.lt j b hj;simp only[zal60q];exact this;intro i1 j b Bi Bj hi hj di dj hpi hpj;obtain⟨Bi',hi',ei⟩:=hin i1 Bi hi;obtain⟨Bj',hj',ej⟩:=hin j Bj hj;exact h.inj i1 j b Bi' Bj' hi' hj' (ei di) (ej dj) hpi hpj;have:=h.kle;simp only[zal60q];exact this
variable {C:Ctx}{st:St}{g:Gh}{a:Act}{w:World}{P:Program}
def AV.undr(n:Nat):AV->Bool
  |.d _=>true
  |.junk=>true
  |.mptr i _ _ _=>Nat.blt i n
  |.mmap i=>Nat.blt i n
  |_=>false
def tG(n:Nat):Fr->Bool
  |[]=>true
  |(_,v)::r=>v.undr n&&tG n r
theorem AV.undr_eq{n:Nat}{F:AV->AV}(hF:∀x,x.undr n=true->F x=x):∀{v:AV},v.undr n=true->v.mapRef F=v
  |.d _,_=>rfl
  |.junk,_=>rfl
  |.mptr _ _ _ _,h=>hF _ h
  |.mmap _,h=>hF _ h
theorem mC{n:Nat}{F:AV->AV}(hF:∀x,x.undr n=true->F x=x):∀{fr:Fr},tG n fr=true->Fr.mapRef F fr=fr
  |[],_=>rfl
  |(t,v)::r,h=>by
    simp only[tG,J2]at h;simp only[Fr.mapRef,AV.undr_eq hF h.1,mC hF h.2]
theorem ka{n p q:Nat}(hp:n<=p)(x:AV)(h:x.undr n=true):yZ p q x=x:=by
  cases x with
  |d=>rfl
  |junk=>rfl
  |mptr i s k o=>simp only[AV.undr,uW]at h;simp only[yZ];rw[if_neg (by omega)]
  |mmap i=>simp only[AV.undr,uW]at h;simp only[yZ];rw[if_neg (by omega)]
  |_=>cases h
theorem qz{n p:Nat}(hp:n<=p)(x:AV)(h:x.undr n=true):TL.purge p x=x:=by
  cases x with
  |d=>rfl
  |junk=>rfl
  |mptr i s k o=>simp only[AV.undr,uW]at h;simp only[TL.purge];rw[if_neg (by omega)]
  |mmap i=>simp only[AV.undr,uW]at h;simp only[TL.purge];rw[if_neg (by omega)]
  |_=>cases h
def yK:List AV->Bool
  |[]=>true
  |.d _::r=>yK r
  |_::_=>false
theorem lF(F:AV->AV):∀{cs:List AV},yK cs=true->AV.mapRefs F cs=cs
  |[],_=>rfl
  |.d _::r,h=>by simp only[AV.mapRefs,AV.mapRef,lF F (cs:=r) h]
section
variable {β:Type}(f:β->D)(ty sz kt vt:Nat)
def vW(n:Nat)(x:Int×List β):D×AV:=(.int .i64 x.1,.msl n sz 0 x.2.length)
def fF:Nat->List (Int×List β)->List (D×AV)
  |_,[]=>[]
  |n,x::r=>vW sz n x::fF (n+1) r
def jP(G:List (Int×List β)):List Blk:=G.map λx=>.flat ty sz (x.2.map f)
theorem iJ:∀(n:Nat)(G:List (Int×List β)) (j:Nat),(fF sz n G)[j]?=G[j]?.map (vW sz (n+j))
  |_,[],j=>by simp[fF]
  |n,x::r,0=>by simp[fF]
  |n,x::r,j+1=>by simp only[fF,gr];rw[iJ (n+1) r j,tK,tJ 1 j]
theorem gG(n:Nat)(G:List (Int×List β)):(fF sz n G).length=G.length:=by
  induction G generalizing n with
  |nil=>rfl
  |cons x r ih=>simp[fF,ih]
theorem Iq(n:Nat)(G:List (Int×List β)):(fF sz n G).map (·.1)=(G.map (·.1)).map (D.int .i64):=by
  induction G generalizing n with
  |nil=>rfl
  |cons x r ih=>simp[fF,vW,ih]
theorem K1(n:Nat)(G:List (Int×List β))(j:Nat)(x:Int×List β):fF sz n (G.set j x)=(fF sz n G).set j (vW sz (n+j) x):=by
  apply hU;intro m;rw[iJ,cG,cG,gG,iJ];split;rename_i e;subst e;split<;>rfl;rfl
theorem Ei(n:Nat)(G:List (Int×List β))(x:Int×List β):fF sz n (G++[x])=fF sz n G++[vW sz (n+G.length) x]:=by
  induction G generalizing n with
  |nil=>rfl
  |cons y r ih=>simp only[List.cons_append,fF,ih,eK];rw[tK,tJ 1]
theorem qe{n:Nat}{F:AV->AV}{G:List (Int×List β)}{es:List (D×AV)}(hl:es.length=G.length)(h:∀(j:Nat)(x:Int×List β),G[j]?=some x->es[j]?=some ((vW sz (n+j) x).1,AV.mapRef F (vW sz (n+j) x).2)):(fF sz n G).map (λe=>(e.1,AV.mapRef F e.2))=es:=by
  apply hU;intro m;rw[qU,iJ]
  cases hG:G[m]? with
  |none=>have:=List.getElem?_eq_none_iff.1 hG;rw[iS (by omega)];rfl
  |some x=>rw[h m x hG];rfl
theorem yX(F:AV->AV)(G:List (Int×List β)):(jP f ty sz G).map (Blk.mapRef F)=jP f ty sz G:=by
  simp[jP,Blk.mapRef]
end
section rules
variable {β:Type}{f:β->D}{ty sz kt vt:Nat}{fr:Fr}{t0 t2:Nat}{c0 c2:List AV}{G:List (Int×List β)}{c:Code}{Q:Exit->St->Prop}
theorem qg{hp:List Blk}{fr':Fr}(ks:List Nat)(hf:Fr.keep ks fr=fr')(h:TWp C c ⟨fr',hp⟩ Q):TWp C c ⟨fr,hp⟩ Q:=λg a w hs=>h g a w (by subst hf;exact Sim.forget (st:=⟨fr,hp⟩) hs (Fr.get_keep fr ks))
theorem gr_open{j:Nat}{k:Int}{es:List β}(hk:C.k<=3)(h0:yK c0=true)(h2:yK c2=true)(hfr:tG 3 fr=true)(hj:G[j]?=some (k,es))
    (h:TWp C c ⟨fr,.box t0 c0::.mapv kt vt ((fF sz 5 G).set j (.int .i64 k,.msl 3 sz 0 es.length))::.box t2 c2::.flat ty sz (es.map f)::.hole::(jP f ty sz G).set j .hole⟩ Q):
    TWp C c ⟨fr,.box t0 c0::.mapv kt vt (fF sz 5 G)::.box t2 c2::.hole::.hole::jP f ty sz G⟩ Q:=λg a w hs=>by
  have hjl:=(zQQ.1 hj).1;obtain⟨g',hs'⟩:=hs.renB (p:=j+5) (q:=3) (B:=.flat ty sz (es.map f)) (by simp[jP,hj]) rfl (by omega) (by omega) hk;refine h g' a w ?_;have e1:Fr.mapRef (yZ (j+5) 3) fr=fr:=mC (n:=3) (λx hx=>ka (by omega) x hx) hfr;rw[e1]at hs'
  have e2:(fF sz 5 G).map (λe=>(e.1,AV.mapRef (yZ (j+5) 3) e.2))=(fF sz 5 G).set j (.int .i64 k,.msl 3 sz 0 es.length):=by
    refine qe sz (by simp[gG]) λm x hx=>?_;rw[cG,gG];split
    · rename_i e
      subst e;rw[hj]at hx;cases hx
      try rw[if_pos hjl]
      simp[vW,AV.mapRef,yZ,tJ]
    rename_i e;rw[iJ,hx];have:¬5+m=j+5:=by omega
    simp[vW,AV.mapRef,yZ,this]
  simp only[fX,Blk.mapRef,lF _ h0,lF _ h2,e2,yX,wZ,bp]at hs';exact hs'
theorem gr_close{j:Nat}{k:Int}{es':List β}{v:D×AV}(hk:C.k<=2)(h0:yK c0=true)(hfr:tG 2 fr=true)(hj:j<G.length)
    (h:TWp C c ⟨fr,.box t0 c0::.mapv kt vt (fF sz 5 (G.set j (k,es')))::.hole::.hole::.hole::jP f ty sz (G.set j (k,es'))⟩ Q):
    TWp C c ⟨fr,.box t0 c0::.mapv kt vt (((fF sz 5 G).set j v).set j (.int .i64 k,.msl 4 sz 0 es'.length))::.box t2 c2::.dead::.flat ty sz (es'.map f)::(jP f ty sz G).set j .hole⟩ Q:=λg a w hs=>by
  have hpur:∀p,2<=p->p<4->(((fF sz 5 G).set j v).set j (.int .i64 k,.msl 4 sz 0 es'.length)).map (λe=>(e.1,AV.mapRef (TL.purge p) e.2))=((fF sz 5 G).set j v).set j (.int .i64 k,.msl 4 sz 0 es'.length):=by
    intro p h1 h2;apply hU;intro m;rw[qU,List.set_set,cG,gG];split
    · try rw[if_pos hj]
      have:¬4=p:=by omega
      simp[AV.mapRef,TL.purge,this]
    rw[iJ];have:¬5+m=p:=by omega
    cases G[m]? with
    |none=>rfl
    |some x=>simp[vW,AV.mapRef,TL.purge,this]
  have htl:∀F:AV->AV,((jP f ty sz G).set j .hole).map (Blk.mapRef F)=(jP f ty sz G).set j .hole:=by
    intro F;rw[sC,yX];rfl
  have hpf:∀p,2<=p->Fr.mapRef (TL.purge p) fr=fr:=λp hp=>mC (n:=2) (λx hx=>qz hp x hx) hfr;obtain⟨g1,hs1⟩:=hs.rehole (i:=3) (by omega);rw[hpf 3 (by omega)]at hs1;simp only[fX,Blk.mapRef,lF _ h0,hpur 3 (by omega) (by omega),htl,wZ,bp]at hs1;obtain⟨g2,hs2⟩:=hs1.rehole (i:=2) hk;rw[hpf 2 (by omega)]at hs2;simp only[fX,Blk.mapRef,lF _ h0,hpur 2 (by omega) (by omega),htl,wZ,bp]at hs2;obtain⟨g3,hs3⟩:=hs2.renB (p:=4) (q:=j+5) (B:=.flat ty sz (es'.map f)) rfl (by simp[jP,hj]) (by omega) (by omega) (by omega);refine h g3 a w ?_;have e1:Fr.mapRef (yZ 4 (j+5)) fr=fr:=mC (n:=2) (λx hx=>ka (by omega) x hx) hfr;rw[e1]at hs3
  have e2:(((fF sz 5 G).set j v).set j (.int .i64 k,.msl 4 sz 0 es'.length)).map (λe=>(e.1,AV.mapRef (yZ 4 (j+5)) e.2))=fF sz 5 (G.set j (k,es')):=by
    apply hU;intro m;rw[qU,List.set_set,cG,gG,K1,cG,gG];split
    · try rw[if_pos hj]
      simp[AV.mapRef,yZ,vW,tJ]
    rw[iJ];have:¬5+m=4:=by omega
    cases G[m]? with
    |none=>rfl
    |some x=>simp[vW,AV.mapRef,yZ,this]
  have e3:(((jP f ty sz G).set j .hole).map (Blk.mapRef (yZ 4 (j+5)))).set j (.flat ty sz (es'.map f))=jP f ty sz (G.set j (k,es')):=by
    rw[htl,List.set_set];simp[jP,sC]
  have e4:∀B:Blk,B.mapRef (yZ 4 (j+5))=B->True:=λ_ _=>trivial;simp only[fX,Blk.mapRef,lF _ h0,e2,wZ,bp]at hs3;rw[e3]at hs3;exact hs3
theorem gr_new{k:Int}{es':List β}(hk:C.k<=2)(h0:yK c0=true)(hfr:tG 2 fr=true)
    (h:TWp C c ⟨fr,.box t0 c0::.mapv kt vt (fF sz 5 (G++[(k,es')]))::.hole::.hole::.hole::jP f ty sz (G++[(k,es')])⟩ Q):
    TWp C c ⟨fr,.box t0 c0::.mapv kt vt (fF sz 5 G++[(.int .i64 k,.msl 4 sz 0 es'.length)])::.box t2 c2::.hole::.flat ty sz (es'.map f)::jP f ty sz G⟩ Q:=λg a w hs=>by
  have hpur:(fF sz 5 G++[(D.int .i64 k,AV.msl 4 sz 0 es'.length)]).map (λe=>(e.1,AV.mapRef (TL.purge 2) e.2))=fF sz 5 G++[(D.int .i64 k,AV.msl 4 sz 0 es'.length)]:=by
    rw[mU]
    congr 1
    refine qe sz (by simp[gG]) λm x hx=>?_;rw[iJ,hx];have:¬5+m=2:=by omega
    simp[vW,AV.mapRef,TL.purge,this]
  obtain⟨g2,hs2⟩:=hs.rehole (i:=2) hk;rw[mC (n:=2) (λx hx=>qz (by omega) x hx) hfr]at hs2;simp only[fX,Blk.mapRef,lF _ h0,hpur,yX,wZ,bp]at hs2;have hs3:=hs2.hole;simp only[List.cons_append]at hs3;obtain⟨g4,hs4⟩:=hs3.renB (p:=4) (q:=G.length+5) (B:=.flat ty sz (es'.map f)) rfl (by simp[jP]) (by omega) (by omega) (by omega);refine h g4 a w ?_;rw[mC (n:=2) (λx hx=>ka (by omega) x hx) hfr]at hs4
  have e2:(fF sz 5 G++[(D.int .i64 k,AV.msl 4 sz 0 es'.length)]).map (λe=>(e.1,AV.mapRef (yZ 4 (G.length+5)) e.2))=fF sz 5 (G++[(k,es')]):=by
    rw[mU,Ei]
    congr 1
    refine qe sz (by simp [gG]) fun m x hx => ?_;rw[iJ,hx];have:¬5+m=4:=by omega
    simp[vW,AV.mapRef,yZ,this];simp[vW,AV.mapRef,yZ,tJ]
  have e3:((jP f ty sz G++[Blk.hole]).map (Blk.mapRef (yZ 4 (G.length+5)))).set G.length (.flat ty sz (es'.map f))=jP f ty sz (G++[(k,es')]):=by
    rw[mU,yX];have:G.length=(jP f ty sz G).length:=by simp[jP]
    simp only[this,fX,uY,Blk.mapRef];rw[List.set_append_right _ _ (wt _),Nat.sub_self];simp[jP]
  simp only[fX,Blk.mapRef,lF _ h0,e2,wZ,bp]at hs4;rw[e3]at hs4;exact hs4
end rules
variable {C:Ctx}{st:St}{g:Gh}{a:Act}{w:World}{P:Program}
section groups
variable {β:Type}(key:β->Int)
def B6(G:List (Int×List β))(e:β):List (Int×List β):=match G.findIdx? λx=>decide (x.1=key e)with
  |some j=>G.set j (key e,((G[j]?).map (·.2)).getD []++[e])
  |none=>G++[(key e,[e])]
def kA(xs:List β):List (Int×List β):=xs.foldl (B6 key) []
theorem vV(G:List (Int×List β))(e:β):(∃j es,G[j]?=some (key e,es)/\B6 key G e=G.set j (key e,es++[e]))\/((∀x∈G,x.1≠key e)/\B6 key G e=G++[(key e,[e])]):=by
  unfold B6;split;rename_i j hj;obtain⟨hl,h1,_⟩:=zal36q.1 hj;simp only[decide_eq_true_eq]at h1;refine .inl ⟨j,G[j].2,by rw[lR hl,<- h1],by simp[hl]⟩;rename_i hj;rw[zal35q]at hj;exact .inr ⟨λx hx=>by simpa using hj x hx,rfl⟩
theorem Il{G:List (Int×List β)}(h:(G.map (·.1)).Nodup)(e:β):((B6 key G e).map (·.1)).Nodup:=by
  rcases vV key G e with⟨j,es,h1,h2⟩|⟨h1,h2⟩
  rw[h2,sC]
  have:(G.map (·.1)).set j (key e)=G.map (·.1):=by
    apply hU;intro m;rw[cG];split;rename_i e';subst e';obtain⟨this,h3⟩:=zQQ.1 h1;simp[this,h3];rfl
  rw[this];exact h;rw[h2,mU];rw[List.nodup_append];refine⟨h,by simp,?_⟩;intro a ha b hb;simp at hb;subst hb;simp only[zal76q]at ha;obtain⟨x,hx,rfl⟩:=ha;exact h1 x hx
theorem grpE_len{G:List (Int×List β)}{n:Nat}(h:∀x∈G,x.2.length<=n)(e:β):∀x∈B6 key G e,x.2.length<=n+1:=by
  intro x hx;rcases vV key G e with⟨j,es,h1,h2⟩|⟨h1,h2⟩
  rw[h2]at hx;rcases xB hx with hx|rfl
  have:=h x hx;omega;have:=h _ (tX h1);simp at this⊢;omega;rw[h2,zQN]at hx;rcases hx with hx|hx
  have:=h x hx;omega;simp at hx;subst hx;simp
theorem B7(xs:List β)(i:Nat)(e:β)(h:xs[i]?=some e):kA key (xs.take (i+1))=B6 key (kA key (xs.take i)) e:=by
  unfold kA;rw[gm,h];simp
theorem yE(xs:List β):((kA key xs).map (·.1)).Nodup:=by
  have:∀(xs:List β)(G:List (Int×List β)),(G.map (·.1)).Nodup->((xs.foldl (B6 key) G).map (·.1)).Nodup:=by
    intro xs
    induction xs with
    |nil=>intro G h;exact h
    |cons x r ih=>intro G h;exact ih _ (Il key h x)
  exact this xs [] (by simp)
theorem fe(xs:List β):∀x∈kA key xs,x.2.length<=xs.length:=by
  have:∀(xs:List β)(G:List (Int×List β)) (n:Nat),(∀x∈G,x.2.length<=n)->∀x∈xs.foldl (B6 key) G,x.2.length<=n+xs.length:=by
    intro xs
    induction xs with
    |nil=>intro G n h;simpa using h
    |cons x r ih=>intro G n h y hy;have:=ih _ _ (grpE_len key h x) y hy;simp;omega
  have h:=this xs [] 0 (by simp);simpa[kA]using h
end groups
section loop
variable {β:Type}{f:β->D}{ty sz kt vt:Nat}{t0:Nat}{c0:List AV}{Q:Exit->St->Prop}
def Lc(f:β->D)(ty sz kt vt t0:Nat)(c0:List AV)(G:List (Int×List β)):List Blk:=.box t0 c0::.mapv kt vt (fF sz 5 G)::.hole::.hole::.hole::jP f ty sz G
theorem gr_loop{body:Code}(key:β->Int)(xs:List β)(fr0:Int->Fr)(ks:List Nat){fr:Fr}{tm:Nat}(hk0:C.k=0)(h0:Fr.keep ks fr=fr0 0)(hm:fr.get tm=.mmap 1)
    (hl:xs.length<=1000000000)
    (rY:∀(i:Nat)(e:β)(G:List (Int×List β)) (j:Nat) (es:List β),i<xs.length->xs[i]?=some e->(G.map (·.1)).Nodup->G[j]?=some (key e,es)->(es++[e]).length<=1000000000->TWp C body ⟨fr0 i,Lc f ty sz kt vt t0 c0 G⟩ (lT (λst'=>Fr.keep ks st'.fr=fr0 (i+1)/\st'.hp=Lc f ty sz kt vt t0 c0 (G.set j (key e,es++[e]))) Q))
    (rN:∀(i:Nat)(e:β)(G:List (Int×List β)),i<xs.length->xs[i]?=some e->(∀x∈G,x.1≠key e)->TWp C body ⟨fr0 i,Lc f ty sz kt vt t0 c0 G⟩ (lT (λst'=>Fr.keep ks st'.fr=fr0 (i+1)/\st'.hp=Lc f ty sz kt vt t0 c0 (G++[(key e,[e])])) Q))
    (fin:∀G,G=kA key xs->TWp C body ⟨fr0 (xs.length:Nat),Lc f ty sz kt vt t0 c0 G⟩ (lT (λ_=>False) Q)):
    TWp C (.loop body) ⟨fr,[.box t0 c0,.map kt vt []]⟩ Q:=λg a w hs=>by
  have h1:=hs.toV (t:=tm) (i:=1) (kt:=kt) (vt:=vt) rfl hm;have h2:=h1.hole.hole.hole;have e0:([Blk.box t0 c0,.map kt vt []].set 1 (.mapv kt vt [])++[Blk.hole]++[Blk.hole]++[Blk.hole])=Lc f ty sz kt vt t0 c0 []:=rfl;have e0':Sim C ⟨fr,Lc f ty sz kt vt t0 c0 []⟩ g a w:=e0 ▸ h2;refine(E2 (λn st=>∃i:Nat,i<=xs.length/\n=xs.length-i/\Fr.keep ks st.fr=fr0 i/\st.hp=Lc f ty sz kt vt t0 c0 (kA key (xs.take i))) xs.length ⟨0,cN _,by simp,h0,by simp[kA]⟩ ?_:TWp C (.loop body) ⟨fr,Lc f ty sz kt vt t0 c0 []⟩ Q) g a w e0';rintro n ⟨fr1,hp1⟩ ⟨i,hi,rfl,hf,rfl⟩;refine qg ks hf ?_;rcases dB i xs.length with hlt|hge
  have he:xs[i]?=some xs[i]:=lR hlt;have hs':=B7 key xs i xs[i] he;have hnd:=yE key (xs.take i);have hln:=fe key (xs.take i);rcases vV key (kA key (xs.take i)) xs[i]with⟨j,es,h1,h2⟩|⟨h1,h2⟩
  refine(rY i xs[i] _ j es hlt he hnd h1 ?_).mono ?_
  · have:=hln _ (tX h1)
    simp only[gB]at this;simp only[qn,bq];omega
  rintro e st' hq
  cases e with
  |normal=>exact⟨xs.length-(i+1),by omega,i+1,hlt,rfl,by exact_mod_cast hq.1,by rw[hq.2,hs',h2]⟩
  |_=>exact hq
  refine(rN i xs[i] _ hlt he h1).mono ?_;rintro e st' hq
  cases e with
  |normal=>exact⟨xs.length-(i+1),by omega,i+1,hlt,rfl,by exact_mod_cast hq.1,by rw[hq.2,hs',h2]⟩
  |_=>exact hq
  have : i = xs.length := by omega
  subst this;refine(fin _ (by rw[uX])).mono ?_;rintro e st' hq
  cases e with
  |normal=>exact hq.elim
  |_=>exact hq
theorem x_look0N{α β:Type}[DecidableEq α]{dk:TypeDesc}{kf:α->D}{o:Oper}{ev:Operand->AV}{hp:List Blk}{x y:Operand}{t kt et kt' et' sz:Nat}{id:Nat}{z:Value}(hk:KeyF dk kf)(f:β->D)(fs:List (α×β))(s:α)(z0:β)(ho:o.op=.lookup t x y false)(hl:uT C.P t=some (kt,dk,et))(hz:(C.P.info? et).bind (·.zero)=some z)(hzd:dV z=.d .nilsl)(hf:f z0=.sl sz [])
    (hx:ev x=.mmap id) (hb:hp[id]?=some (.map kt' et' (aV kf f fs))) (hy:ev y=.d (kf s)) (hnd:(fs.map (·.1)).Nodup):RdOk C o ev hp (.d (f ((bH fs s).getD z0))):=by
  have:=qv (C:=C) hk f fs s ho hl hz hzd hx hb hy hnd
  cases h:bH fs s with
  |none=>rw[h]at this;exact this.weakD (by simp only[Option.getD_none,hf];exact DLe.nil sz)
  |some b=>rw[h]at this;exact this
theorem qf{d:TypeDesc}(hd:KeyF d (D.int .i64)){n:Nat}{G:List (Int×List β)}:∀e∈fF sz n G,fV d e.1=true:=λe he=>by
  obtain⟨i,hi⟩:=iL he;rw[iJ]at hi
  cases hG:G[i]? with
  |none=>rw[hG]at hi;cases hi
  |some x=>rw[hG]at hi;cases hi;exact hd.key _
theorem Gr{n:Nat}{G:List (Int×List β)}{k:Int}(h:∀x∈G,x.1≠k):∀e∈fF sz n G,e.1≠.int .i64 k:=λe he=>by
  obtain⟨i,hi⟩:=iL he;rw[iJ]at hi
  cases hG:G[i]? with
  |none=>rw[hG]at hi;cases hi
  |some x=>rw[hG]at hi;cases hi;exact λq=>h x (tX hG) (by cases q;rfl)
theorem entsV_nd{n:Nat}{G:List (Int×List β)}(h:(G.map (·.1)).Nodup):((fF sz n G).map (·.1)).Nodup:=by
  rw[Iq];exact h.map _ λa b hab e=>hab (by cases e;rfl)
theorem zi{d:TypeDesc}(hd:KeyF d (D.int .i64)){n j:Nat}{k:Int}{v:AV}{G:List (Int×List β)}:∀e∈(fF sz n G).set j (.int .i64 k,v),fV d e.1=true:=λe he=>by
  rcases xB he with he|rfl
  exact qf hd e he;exact hd.key _
theorem Cu{n j:Nat}{k:Int}{v:AV}{es:List β}{G:List (Int×List β)}(h:(G.map (·.1)).Nodup)(hj:G[j]?=some (k,es)):(((fF sz n G).set j (.int .i64 k,v)).map (·.1)).Nodup:=by
  have:((fF sz n G).set j (.int .i64 k,v)).map (·.1)=(fF sz n G).map (·.1):=by
    apply hU;intro m;rw[qU,qU,cG,gG];split;rename_i e;subst e;have:=(zQQ.1 hj).1;rw[if_pos this,iJ,hj];rfl;rfl
  rw[this];exact entsV_nd h
theorem Cv{n j:Nat}{k:Int}{v:AV}{es:List β}{G:List (Int×List β)}(hj:G[j]?=some (k,es)):((fF sz n G).set j (.int .i64 k,v))[j]?=some (.int .i64 k,v):=by
  have:=(zQQ.1 hj).1;rw[cG,if_pos rfl,gG,if_pos this]
theorem wl4{f:β->D}{G:List (Int×List β)}{a b c d e:Blk}{j:Nat}{ws:List (Nat×Blk)}{rs:List Nat}(h:(ws.all λp=>rs.contains p.1&&decide (p.1<5))=true):(ws.all λp=>rs.contains p.1&&decide (p.1<(a::b::c::d::e::(jP f ty sz G).set j .hole).length))=true:=by
  rw[zQT]at h⊢;intro p hp;have:=h p hp;simp only[J2,decide_eq_true_eq]at this⊢;exact⟨this.1,by simp;omega⟩
theorem wl5{f:β->D}{G:List (Int×List β)}{a b c d e:Blk}{ws:List (Nat×Blk)}{rs:List Nat}(h:(ws.all λp=>rs.contains p.1&&decide (p.1<5))=true):(ws.all λp=>rs.contains p.1&&decide (p.1<(a::b::c::d::e::jP f ty sz G).length))=true:=by
  rw[zQT]at h⊢;intro p hp;have:=h p hp;simp only[J2,decide_eq_true_eq]at this⊢;exact⟨this.1,by simp;omega⟩
def zY(sz:Nat)(f:β->D):Nat->Nat->List (Int×List β)->List (D×AV)
  |_,_,[]=>[]
  |n,0,x::r=>vW sz n x::zY sz f (n+1) 0 r
  |n,j+1,x::r=>(.int .i64 x.1,.d (.sl sz (x.2.map f)))::zY sz f (n+1) j r
theorem uJ : ∀ (n j : Nat) (G : List (Int × List β)) (i : Nat), (zY sz f n j G)[i]? = G[i]?.map fun x => if i < j then (D.int .i64 x.1, AV.d (.sl sz (x.2.map f))) else vW sz (n + i) x
  |_,_,[],i=>by simp[zY]
  |n,0,x::r,0=>by simp[zY]
  |n,j+1,x::r,0=>by simp[zY]
  |n,0,x::r,i+1=>by
    simp only[zY,gr];rw[uJ (n+1) 0 r i,tK,tJ 1 i];simp
  |n,j+1,x::r,i+1=>by
    simp only[zY,gr];rw[uJ (n+1) j r i,tK,tJ 1 i];simp
def wG(f:β->D)(ty sz j:Nat)(G:List (Int×List β)):List Blk:=List.replicate j .dead++jP f ty sz (G.drop j)
theorem yY{j:Nat}{G:List (Int×List β)}(hj:j<=G.length)(i:Nat):(wG f ty sz j G)[i]?=if i<j then some .dead else G[i]?.map λx=>.flat ty sz (x.2.map f):=by
  unfold wG jP;rw[eW];simp only[List.length_replicate];split;rename_i h;rw[xo,if_pos h];rename_i h;rw[qU,lG];have:j+(i-j)=i:=by omega
  rw[this]
theorem gr_frz{c:Code}{fr:Fr}{G:List (Int×List β)}(hk0:C.k=0)(h0:yK c0=true)(hfr:tG 2 fr=true):
    ∀(m j:Nat),j+m=G.length->TWp C c ⟨fr,.box t0 c0::.mapv kt vt (zY sz f 5 G.length G)::.hole::.hole::.hole::wG f ty sz G.length G⟩ Q->TWp C c ⟨fr,.box t0 c0::.mapv kt vt (zY sz f 5 j G)::.hole::.hole::.hole::wG f ty sz j G⟩ Q
  | 0, j, hj, h => by have : j = G.length := by omega
                      subst this;exact h
  |m+1,j,hj,h=>by
    have ih:=gr_frz hk0 h0 hfr m (j+1) (by omega) h;have hjl:j<G.length:=by omega
    generalize hhp:(.box t0 c0::.mapv kt vt (zY sz f 5 j G)::.hole::.hole::.hole::wG f ty sz j G:List Blk)=hp
    have hB:hp[j+5]?=some (.flat ty sz (G[j].2.map f)):=by
      subst hhp;simp only[gr];rw[yY (by omega),if_neg (by omega),lR hjl];rfl
    have hgB:hp.getD (j+5) .dead=.flat ty sz (G[j].2.map f):=by rw[Lb,hB];rfl
    have hal:∀i,i<5->cF hp i=true:=by
      intro i hi;subst hhp
      match i,hi with
      |0,_=>rfl
      |1,_=>rfl
      |2,_=>rfl
      |3,_=>rfl
      |4,_=>rfl
    have hal2:∀i,j<=i->i<G.length->cF hp (i+5)=true:=by
      intro i hi hl
      have:hp[i+5]?=some (.flat ty sz (G[i].2.map f)):=by
        subst hhp;simp only[gr];rw[yY (by omega),if_neg (by omega),lR hl];rfl
      unfold cF;rw[Lb,this];rfl
    refine ya (j+5) (by omega) (hal2 j (wt _) hjl) (λi hi=>by omega) ?_
    have e1:∀B,Fr.mapRef (gj (j+5) B (cF hp)) fr=fr:=λB=>mC (n:=2) (λx hx=>by
      cases x with
      |d=>rfl
      |junk=>rfl
      | mptr i s k o =>
        simp only[AV.undr,uW]at hx;simp only[gj];rw[if_neg (by omega),hal i (by omega)];rfl
      | mmap i =>
        simp only[AV.undr,uW]at hx;simp only[gj];rw[if_neg (by omega),hal i (by omega)];rfl
      |_=>cases hx) hfr
    have e2:(zY sz f 5 j G).map (λe=>(e.1,AV.mapRef (gj (j+5) (.flat ty sz (G[j].2.map f)) (cF hp)) e.2))=zY sz f 5 (j+1) G:=by
      apply hU;intro i;rw[qU,uJ,uJ]
      cases hG:G[i]? with
      |none=>rfl
      |some x=>
        have hil:=(zQQ.1 hG).1;simp only[gO];rcases Nat.lt_trichotomy i j with h|h|h
        rw[if_pos h,if_pos (by omega)];rfl;subst h;rw[if_neg (by omega),if_pos (by omega)];have hx:x=G[i]:=by rw[lR hil]at hG;exact(aS hG).symm
        subst hx;have e5:5+i=i+5:=by omega
        simp[vW,AV.mapRef,gj,e5,C3];rw [if_neg (by omega), if_neg (by omega)];have e5:¬5+i=j+5:=by omega
        have:=hal2 i (by omega) hil;rw[tJ]at this;simp[vW,AV.mapRef,gj,e5,this]
    have e3:((wG f ty sz j G).map (Blk.mapRef (gj (j+5) (.flat ty sz (G[j].2.map f)) (cF hp)))).set j .dead=wG f ty sz (j+1) G:=by
      apply hU;intro i;rw[cG,Bo,qU,yY (by omega),yY (by omega)];have hlen:j<(wG f ty sz j G).length:=by simp[wG,jP];omega
      split
      · rename_i e;subst e;first|rw[if_pos hlen,if_pos (by omega)]|rw[if_pos (by omega)]
      rename_i e;rcases dB i j with h|h
      rw[if_pos h,if_pos (by omega)];rfl;rw [if_neg (by omega), if_neg (by omega)];cases G[i]?<;>rfl
    simp only[St.freeze,hgB,e1];subst hhp;simp only[fX,Blk.mapRef,lF _ h0,wZ,e2,e3];exact ih
theorem gr_end{c:Code}{fr fr':Fr}{G:List (Int×List β)}(ks:List Nat)(hk0:C.k=0)(h0:yK c0=true)(hf:Fr.keep ks fr=fr')(hfr:tG 2 fr'=true)
    (h:TWp C c ⟨fr',[.box t0 c0,.map kt vt (aV (D.int .i64) (λxs=>.sl sz (xs.map f)) G)]⟩ Q):TWp C c ⟨fr,Lc f ty sz kt vt t0 c0 G⟩ Q:=by
  refine qg ks hf ?_
  have h1:Lc f ty sz kt vt t0 c0 G=.box t0 c0::.mapv kt vt (zY sz f 5 0 G)::.hole::.hole::.hole::wG f ty sz 0 G:=by
    have:fF sz 5 G=zY sz f 5 0 G:=by
      apply hU;intro i;rw[iJ,uJ];simp
    simp[Lc,this,wG]
  rw[h1];refine gr_frz hk0 h0 hfr G.length 0 (by omega) ?_;intro g a w hs
  have e:zY sz f 5 G.length G=(aV (D.int .i64) (λxs=>.sl sz (xs.map f)) G).map λe=>(e.1,AV.d e.2):=by
    apply hU;intro i;rw[uJ]
    cases hG:G[i]? with
    |none=>simp[aV,hG]
    |some x=>
      obtain⟨hil,hx⟩:=zQQ.1 hG;subst hx;simp[aV,hil]
  rw[e]at hs;have hs1:=hs.ofV (i:=1) (kt:=kt) (vt:=vt) rfl;simp only[wZ,bp]at hs1;have hs2:=hs1.canon ks [0,1] (by decide) (by intro i hi;omega);refine h (g.canon [0,1]) a w ?_
  have e1:Fr.mapRef (toName (aR [0,1])) (Fr.keep ks fr')=fr':=by
    have:Fr.keep ks fr'=fr':=by
      rw[<- hf];unfold Fr.keep;apply C6;intro t ht
      have hg:∀(ks:List Nat),t∈ks->Fr.get (ks.map λt=>(t,fr.get t)) t=fr.get t:=by
        intro ks
        induction ks with
        |nil=>intro h;cases h
        |cons k r ih=>
          intro h;simp only[fX,Fr.get];split;rename_i e;subst e;rfl;rename_i e;rcases zQB.1 h with rfl|h
          exact absurd rfl e;exact ih h
      rw[hg ks ht]
    rw[this];refine mC (n:=2) (λx hx=>?_) hfr
    cases x with
    |d=>rfl
    |junk=>rfl
    |mptr i s k o=>
      simp only[AV.undr,uW]at hx
      match i,hx with
      |0,_=>rfl
      |1,_=>rfl
    |mmap i=>
      simp only[AV.undr,uW]at hx
      match i,hx with
      |0,_=>rfl
      |1,_=>rfl
    |_=>cases hx
  have e2:([0,1]:List Nat).map (λi=>(List.getD (Blk.box t0 c0::.map kt vt (aV (D.int .i64) (λxs=>.sl sz (xs.map f)) G)::.hole::.hole::.hole::wG f ty sz G.length G) i .dead).mapRef (toName (aR [0,1])))=[.box t0 c0,.map kt vt (aV (D.int .i64) (λxs=>.sl sz (xs.map f)) G)]:=by
    simp[Blk.mapRef,lF _ h0]
  simp only[St.canon]at hs2;rw[e1,e2]at hs2;exact hs2
end loop
theorem Hn{P:Program}{w:World}{g:Gh}{name:String}{k:IntKind}{zs:List Int}{n:Nat}(hn:P.globalNamed name=some n)(hm:zF[n]?=some (n,zs.map λz=>Value.int k z))(h:Hb w g):Lib.TabIs P w name k zs:=by
  obtain⟨⟨t,fz,e⟩,_⟩:=h _ (tX hm);simp only at e;unfold Lib.TabIs World.var?;rw[hn];simp only[Option.bind_some,e]
theorem Kj{P:Program}{F:FuncId}{i:Int}{s:ByteArray}{name:String}{k:IntKind}{zs:List Int}(hcb:kD P F=true)(ht:∀w g,Hb w g->Lib.TabIs P w name k zs)
    (h:∀w,Lib.TabIs P w name k zs->Calls P F #[.int .i64 i] w λe w'=>e=.returned (.string s)/\∃k os,w'=Sort.grow (w.drewN k) os):RetN P F [.int .i64 i] (.str s):=by
  refine⟨λ_=>false,.d (.str s),[],⟨hcb,λw g vs hout hargs=>?_⟩,.d _,.d _ rfl,λB hB=>by simp at hB⟩
  obtain⟨v0,rfl⟩:∃v0,vs=#[v0]:=by
    have hl:vs.size=1:=by have:=hargs.1;simpa using this.symm
    exact⟨vs[0],by apply Array.ext;simp[hl];intro i h1 h2;match i,h2 with|0,_=>rfl⟩
  have h0:=hargs.2 0 _ _ rfl rfl;rw[int_inv h0];refine(h w (ht w g (Sim.laidW hout))).mono ?_;rintro e w' ⟨rfl,n,os,rfl⟩;exact⟨_,g,rfl,Sim.grow hout n os,.d _ _ (.str _)⟩
section del
variable {α β:Type}[DecidableEq α]{dk:TypeDesc}{kf:α->D}{C:Ctx}{st:St}{o:Oper}{hp:List Blk}{x y:Operand}{t tk kt et kt' et':TypeId}{d:TypeDesc}{id:Nat}{es:List (D×D)}{k:D}
theorem Kp{K:St->Prop}(ho:o.op=.call { callee:=.builtin .delete,args:=#[x,y],argTypes:=#[t,tk] })(hd:o.dst=none)(hl:uT C.P t=some (kt,d,et))(hx:st.fr.ev x=.mmap id)(hb:st.hp[id]?=some (.map kt' et' es))(hy:st.fr.ev y=.d k)(hk:fV d k=true)(hks:∀e∈es,fV d e.1=true)(hne:∀e∈es,e.1≠k)
    (hK:K ⟨st.fr,st.hp.set id (.map kt' et' es)⟩):OpOk C o st K:=
  OpOk.change λg a w hs=>by
    obtain⟨b,ents,clock,hp,hex,hw,hE,hey,hkk⟩:=oN hs hl hx hb hy hk;have hf:=xb hE hks hk hne;obtain⟨hu',hd'⟩:=jR hl;refine⟨.tuple #[],{ w with heap:=w.heap.setIfInBounds b (.map ents clock) },?_,_,g,hK,by rw[hd];exact qA hs hp hb hw hE⟩;simp only[execOp,ho];simp[resolve,invoke,builtin,Builtin.delete_,hex,hey,run_underlying hu',MapKept.run_getObj_map hw,MapKept.run_checkKey hd' hkk,MapKept.run_findKey hd' hf,MapKept.run_setObj_map _ hw,Result.andThen]
theorem s_delG{ops:Array Oper}{l:List Oper}{K:St->Prop}{fr:Fr}{ty:TypeId}{pos:String}{after:Array Edge}(hk:KeyF dk kf)(f:β->D){fs:List (α×β)}{s:α}(hl:uT C.P t=some (kt,dk,et))(hx:fr.ev x=.mmap id)(hb:hp[id]?=some (.map kt' et' (aV kf f fs)))(hy:fr.ev y=.d (kf s))(hg:(fs.map (·.1)).Nodup)
    (h:bO C ops l ⟨fr,hp.set id (.map kt' et' (aV kf f (Gs fs s)))⟩ K):bO C ops (⟨none,.call { callee:=.builtin .delete,args:=#[x,y],argTypes:=#[t,tk] },ty,pos,after,none⟩::l) ⟨fr,hp⟩ K:=by
  cases e:bH fs s with
  |some b=>exact s_delE hk f hl hx hb hy ⟨hg,by rw[e];rfl⟩ h
  |none=>
    have hdel:Gs fs s=fs:=by
      have hn:=kH e;unfold Gs;rw[show(fs.findIdx? λx=>decide (x.1=s))=none from zal35q.2 λx hx=>by simpa using hn x hx]
    rw[hdel]at h;exact cU rfl (Kp (st:=⟨fr,hp⟩) rfl rfl hl hx hb hy (hk.key _) (kG hk) (vP hk (kH e)) h)
end del
end Go.TL
set_option maxHeartbeats 8000000
set_option linter.unusedSimpArgs false
set_option linter.unusedVariables false
set_option maxRecDepth 20000
namespace Go.Proofs.YtjmpojlgegloeaaGreatDoor
open Go Go.TL
abbrev BA := ByteArray
structure An where
 name:BA
 kind:Int
 length:Int
 grade:Int
 speed:Int
 slow:Int
 Az:Int
deriving DecidableEq,Inhabited
def An.enc(x:An):D:=.agg [.str x.name,.int .i64 x.kind,.int .i64 x.length,.int .i64 x.grade,.int .i64 x.speed,.int .i64 x.slow,.int .i64 x.Az]
structure An.Wf (x:An):Prop where
 name:x.name.size<=reachBytes
 kind:bD x.kind
 length:bD x.length
 grade:bD x.grade
 speed:bD x.speed
 slow:bD x.slow
 Az:bD x.Az
structure End where
 el:Int
 side:Int
deriving DecidableEq,Inhabited
def End.enc(x:End):D:=.agg [.int .i64 x.el,.int .i64 x.side]
structure End.Wf (x:End):Prop where
 el:bD x.el
 side:bD x.side
structure Ay where
 a:End
 b:End
deriving DecidableEq,Inhabited
def Ay.enc(x:Ay):D:=.agg [.int .i64 x.a.el,.int .i64 x.a.side,.int .i64 x.b.el,.int .i64 x.b.side]
structure Ay.Wf (x:Ay):Prop where
 a:End.Wf x.a
 b:End.Wf x.b
structure As where
 name:BA
 atV:End
 overlap:Int
deriving DecidableEq,Inhabited
def As.enc(x:As):D:=.agg [.str x.name,.int .i64 x.atV.el,.int .i64 x.atV.side,.int .i64 x.overlap]
structure As.Wf (x:As):Prop where
 name:x.name.size<=reachBytes
 atV:End.Wf x.atV
 overlap:bD x.overlap
structure Am where
 id:Int
 el:Int
 offset:Int
deriving DecidableEq,Inhabited
def Am.enc(x:Am):D:=.agg [.int .i64 x.id,.int .i64 x.el,.int .i64 x.offset]
structure Am.Wf (x:Am):Prop where
 id:bD x.id
 el:bD x.el
 offset:bD x.offset
structure Aa where
 name:BA
 Ai:(List BA)
 Ad:(List An)
 joints:(List Ay)
 Aj:(List As)
 balises:(List Am)
deriving DecidableEq,Inhabited
def Aa.enc(x:Aa):D:=.agg [.str x.name,.sl 1 (x.Ai.map D.str),.sl 7 (x.Ad.map An.enc),.sl 4 (x.joints.map Ay.enc),.sl 4 (x.Aj.map As.enc),.sl 3 (x.balises.map Am.enc)]
structure Aa.Wf (x:Aa):Prop where
 name:x.name.size<=reachBytes
 Ai:x.Ai.length<=reachBytes/\∀y∈x.Ai,y.size<=reachBytes
 Ad:x.Ad.length<=reachBytes/\∀y∈x.Ad,An.Wf y
 joints:x.joints.length<=reachBytes/\∀y∈x.joints,Ay.Wf y
 Aj:x.Aj.length<=reachBytes/\∀y∈x.Aj,As.Wf y
 balises:x.balises.length<=reachBytes/\∀y∈x.balises,Am.Wf y
structure A8 where
 kind:Int
 inV:Int
 out:Int
 need:Int
deriving DecidableEq,Inhabited
def A8.enc(x:A8):D:=.agg [.int .i64 x.kind,.int .i64 x.inV,.int .i64 x.out,.int .i64 x.need]
structure Ae where
 el:Int
 inV:Int
 out:Int
deriving DecidableEq,Inhabited
def Ae.enc(x:Ae):D:=.agg [.int .i64 x.el,.int .i64 x.inV,.int .i64 x.out]
structure Ae.Wf (x:Ae):Prop where
 el:bD x.el
 inV:bD x.inV
 out:bD x.out
inductive Fn265 where
 |c191 (a0:Aa)
deriving DecidableEq
instance:Inhabited Fn265:=⟨.c191 default⟩
def Fn265.enc:Fn265->D
 |.c191 a0=>.clo 191 [.ptr a0.enc 0]
structure Ab where
 el:Int
 pos:Int
deriving DecidableEq,Inhabited
def Ab.enc(x:Ab):D:=.agg [.int .i64 x.el,.int .i64 x.pos]
structure Al where
 name:BA
 entry:Int
 exit:Int
 path:(List Ae)
 A4:(List Ab)
 Ai:(List Int)
 A2:Int
 length:Int
 over:(List Ae)
 Ax:(List Ab)
 Aw:(List Int)
 A7:(List Ab)
 guards:(List Int)
 gaps:(List End)
deriving DecidableEq,Inhabited
def Al.enc(x:Al):D:=.agg [.str x.name,.int .i64 x.entry,.int .i64 x.exit,.sl 3 (x.path.map Ae.enc),.sl 2 (x.A4.map Ab.enc),.sl 1 (x.Ai.map (D.int .i64)),.int .i64 x.A2,.int .i64 x.length,.sl 3 (x.over.map Ae.enc),.sl 2 (x.Ax.map Ab.enc),.sl 1 (x.Aw.map (D.int .i64)),.sl 2 (x.A7.map Ab.enc),.sl 1 (x.guards.map (D.int .i64)),.sl 2 (x.gaps.map End.enc)]
structure A0 where
 l:Aa
 paths:(List (List Ae))
deriving DecidableEq,Inhabited
structure Gap where
 endV:End
deriving DecidableEq,Inhabited
def Gap.enc(x:Gap):D:=.agg [.int .i64 x.endV.el,.int .i64 x.endV.side]
structure A1 where
 Ak:(List Al)
 A4:(List Int)
 Id:(List Int)
 Ai:Int
 Aj:Int
deriving DecidableEq,Inhabited
def A1.enc(x:A1):D:=.agg [.sl 14 (x.Ak.map Al.enc),.sl 1 (x.A4.map (D.int .i64)),.sl 1 (x.Id.map (D.int .i64)),.int .i64 x.Ai,.int .i64 x.Aj]
structure Ao where
 id:Int
 name:BA
 length:Int
 speed:Int
 accel:Int
 service:Int
 emergency:Int
 delay:Int
 const:Int
 rate:Int
deriving DecidableEq,Inhabited
def Ao.enc(x:Ao):D:=.agg [.int .i64 x.id,.str x.name,.int .i64 x.length,.int .i64 x.speed,.int .i64 x.accel,.int .i64 x.service,.int .i64 x.emergency,.int .i64 x.delay,.int .i64 x.const,.int .i64 x.rate]
structure Ao.Wf (x:Ao):Prop where
 id:bD x.id
 name:x.name.size<=reachBytes
 length:bD x.length
 speed:bD x.speed
 accel:bD x.accel
 service:bD x.service
 emergency:bD x.emergency
 delay:bD x.delay
 const:bD x.const
 rate:bD x.rate
structure A3 where
 steps:(List Ae)
 head:Int
 length:Int
deriving DecidableEq,Inhabited
def A3.enc(x:A3):D:=.agg [.sl 3 (x.steps.map Ae.enc),.int .i64 x.head,.int .i64 x.length]
structure A3.Wf (x:A3):Prop where
 steps:x.steps.length<=reachBytes/\∀y∈x.steps,Ae.Wf y
 head:bD x.head
 length:bD x.length
structure Af where
 id:Int
 origin:Int
 endV:Int
 atV:Int
 steps:(List Ae)
 Ak:(List Int)
 starts:(List Int)
 ends:(List Int)
 done:(List Int)
 min:Int
 sent:Int
 accepted:Int
 cut:Int
 cutSeq:Int
deriving DecidableEq,Inhabited
def Af.enc(x:Af):D:=.agg [.int .i64 x.id,.int .i64 x.origin,.int .i64 x.endV,.int .i64 x.atV,.sl 3 (x.steps.map Ae.enc),.sl 1 (x.Ak.map (D.int .i64)),.sl 1 (x.starts.map (D.int .i64)),.sl 1 (x.ends.map (D.int .i64)),.sl 1 (x.done.map (D.int .i64)),.int .i64 x.min,.int .i64 x.sent,.int .i64 x.accepted,.int .i64 x.cut,.int .i64 x.cutSeq]
structure Ah where
 peer:Int
 out:Int
 inV:Int
 heard:Int
deriving DecidableEq,Inhabited
def Ah.enc(x:Ah):D:=.agg [.int .i64 x.peer,.int .i64 x.out,.int .i64 x.inV,.int .i64 x.heard]
structure Ar where
 tracks:(List Af)
 sessions:(List Ah)
deriving DecidableEq,Inhabited
def Ar.enc(x:Ar):D:=.agg [.sl 14 (x.tracks.map Af.enc),.sl 4 (x.sessions.map Ah.enc)]
structure A9 where
 occupied:(List Bool)
 detected:(List Int)
 closed:(List Bool)
 claimed:(List Bool)
 passed:(List Bool)
 calls:(List Int)
 cancels:(List Int)
deriving DecidableEq,Inhabited
def A9.enc(x:A9):D:=.agg [.sl 1 (x.occupied.map D.bool),.sl 1 (x.detected.map (D.int .i64)),.sl 1 (x.closed.map D.bool),.sl 1 (x.claimed.map D.bool),.sl 1 (x.passed.map D.bool),.sl 1 (x.calls.map (D.int .i64)),.sl 1 (x.cancels.map (D.int .i64))]
structure Fd where
 layout:Aa
 trains:(List Ao)
 bodies:(List A3)
deriving DecidableEq,Inhabited
def Fd.enc(x:Fd):D:=.agg [.str x.layout.name,.sl 1 (x.layout.Ai.map D.str),.sl 7 (x.layout.Ad.map An.enc),.sl 4 (x.layout.joints.map Ay.enc),.sl 4 (x.layout.Aj.map As.enc),.sl 3 (x.layout.balises.map Am.enc),.sl 10 (x.trains.map Ao.enc),.sl 3 (x.bodies.map A3.enc)]
structure Fd.Wf (x:Fd):Prop where
 layout:Aa.Wf x.layout
 trains:x.trains.length<=reachBytes/\∀y∈x.trains,Ao.Wf y
 bodies:x.bodies.length<=reachBytes/\∀y∈x.bodies,A3.Wf y
structure At where
 state:Int
 rel:Int
 timer:Int
deriving DecidableEq,Inhabited
def At.enc(x:At):D:=.agg [.int .i64 x.state,.int .i64 x.rel,.int .i64 x.timer]
structure A6 where
 Ak:(List At)
 lies:(List Int)
deriving DecidableEq,Inhabited
def A6.enc(x:A6):D:=.agg [.sl 3 (x.Ak.map At.enc),.sl 1 (x.lies.map (D.int .i64))]
structure A5 where
 err:Int
deriving DecidableEq,Inhabited
def A5.enc(x:A5):D:=.agg [.int .i64 x.err]
structure Ag where
 fromV:Int
 to:Int
 grade:Int
 speed:Int
deriving DecidableEq,Inhabited
def Ag.enc(x:Ag):D:=.agg [.int .i64 x.fromV,.int .i64 x.to,.int .i64 x.grade,.int .i64 x.speed]
structure Ac where
 id:Int
 atV:Int
deriving DecidableEq,Inhabited
def Ac.enc(x:Ac):D:=.agg [.int .i64 x.id,.int .i64 x.atV]
structure Au where
 seq:Int
 endV:Int
 profile:(List Ag)
 links:(List Ac)
deriving DecidableEq,Inhabited
def Au.enc(x:Au):D:=.agg [.int .i64 x.seq,.int .i64 x.endV,.sl 4 (x.profile.map Ag.enc),.sl 2 (x.links.map Ac.enc)]
structure Fn where
 fromV:Int
 to:Int
deriving DecidableEq,Inhabited
def Fn.enc(x:Fn):D:=.agg [.int .i64 x.fromV,.int .i64 x.to]
structure Av where
 id:Int
 el:Int
 fromV:Int
 to:Int
 speed:Int
 active:Bool
deriving DecidableEq,Inhabited
def Av.enc(x:Av):D:=.agg [.int .i64 x.id,.int .i64 x.el,.int .i64 x.fromV,.int .i64 x.to,.int .i64 x.speed,.bool x.active]
structure Aq where
 min:Int
 speed:Int
 mode:Int
 accepted:Int
 whole:Bool
deriving DecidableEq,Inhabited
def Aq.enc(x:Aq):D:=.agg [.int .i64 x.min,.int .i64 x.speed,.int .i64 x.mode,.int .i64 x.accepted,.bool x.whole]
structure Aq.Wf (x:Aq):Prop where
 min:bD x.min
 speed:bD x.speed
 mode:bD x.mode
 accepted:bD x.accepted
 whole:True
structure Ap where
 kind:Int
 fromV:Int
 to:Int
 seq:Int
 time:Int
 auth:Au
 report:Aq
deriving DecidableEq,Inhabited
def Ap.enc(x:Ap):D:=.agg [.int .i64 x.kind,.int .i64 x.fromV,.int .i64 x.to,.int .i64 x.seq,.int .i64 x.time,.int .i64 x.auth.seq,.int .i64 x.auth.endV,.sl 4 (x.auth.profile.map Ag.enc),.sl 2 (x.auth.links.map Ac.enc),.int .i64 x.report.min,.int .i64 x.report.speed,.int .i64 x.report.mode,.int .i64 x.report.accepted,.bool x.report.whole]
def Ao.ok(x:Ao):Prop:=bD x.id/\x.name.size<=maxLen/\bD x.length/\bD x.speed/\bD x.accel/\bD x.service/\bD x.emergency/\bD x.delay/\bD x.const/\bD x.rate
instance (x:Ao):Decidable (Ao.ok x):=by unfold Ao.ok;infer_instance
theorem Iy(x y:Ao):([.int .i64 x.id,.string x.name.data.toList,.int .i64 x.length,.int .i64 x.speed,.int .i64 x.accel,.int .i64 x.service,.int .i64 x.emergency,.int .i64 x.delay,.int .i64 x.const,.int .i64 x.rate]:List Lit)=[.int .i64 y.id,.string y.name.data.toList,.int .i64 y.length,.int .i64 y.speed,.int .i64 y.accel,.int .i64 y.service,.int .i64 y.emergency,.int .i64 y.delay,.int .i64 y.const,.int .i64 y.rate]↔decide (x=y)=true:=by
 rw[decide_eq_true_eq]
 obtain⟨_,_,_,_,_,_,_,_,_,_⟩:=x
 obtain⟨_,_,_,_,_,_,_,_,_,_⟩:=y
 simp[Ao.mk.injEq,vZ,and_assoc]
def Aq.ok(x:Aq):Prop:=bD x.min/\bD x.speed/\bD x.mode/\bD x.accepted/\True
instance (x:Aq):Decidable (Aq.ok x):=by unfold Aq.ok;infer_instance
theorem Ha(x y:Aq):([.int .i64 x.min,.int .i64 x.speed,.int .i64 x.mode,.int .i64 x.accepted,.bool x.whole]:List Lit)=[.int .i64 y.min,.int .i64 y.speed,.int .i64 y.mode,.int .i64 y.accepted,.bool y.whole]↔decide (x=y)=true:=by
 rw[decide_eq_true_eq]
 obtain⟨_,_,_,_,_⟩:=x
 obtain⟨_,_,_,_,_⟩:=y
 simp[Aq.mk.injEq,vZ,and_assoc]
def Ab.ok(x:Ab):Prop:=bD x.el/\bD x.pos
instance (x:Ab):Decidable (Ab.ok x):=by unfold Ab.ok;infer_instance
theorem gg(x y:Ab):([.int .i64 x.el,.int .i64 x.pos]:List Lit)=[.int .i64 y.el,.int .i64 y.pos]↔decide (x=y)=true:=by
 rw[decide_eq_true_eq]
 obtain⟨_,_⟩:=x
 obtain⟨_,_⟩:=y
 simp[Ab.mk.injEq,vZ,and_assoc]
def End.ok(x:End):Prop:=bD x.el/\bD x.side
instance (x:End):Decidable (End.ok x):=by unfold End.ok;infer_instance
def End.okb(x:End):Bool:=decide (End.ok x)
theorem End_lits(x y:End):([.int .i64 x.el,.int .i64 x.side]:List Lit)=[.int .i64 y.el,.int .i64 y.side]↔decide (x=y)=true:=by
 rw[decide_eq_true_eq]
 obtain⟨_,_⟩:=x
 obtain⟨_,_⟩:=y
 simp[End.mk.injEq,vZ,and_assoc]
noncomputable abbrev TP := Tryz.prog
def cb_l:List Nat:=[3,4,5,6,7,8,9,10,11,12,13,14,15,16,17,18,19,20,21,22,23,24,25,26,27,28,29,30,31,32,33,34,35,36,37,38,39,40,41,42,43,44,45,46,47,48,49,50,51,52,53,54,55,56,57,58,59,60,61,62,63,64,66,67,68,69,70,71,72,74,75,76,77,78,79,80,81,82,83,84,85,86,87,88,89,90,91,92,93,94,95,98,100,101,102,103,104,105,106,107,108,109,110,111,112,113,114,115,116,117,118,121,122,123,124,125,126,127,128,130,131,132,133,134,135,136,138,139,140,160,161,162,163,164,165,166,167,168,169,172,173,174,175,176,177,178,180,181,190,191,192,194,199,202,203,208,209,212]
theorem cb_all:cb_l.all (kD TP)=true:=by kernel_rfl
theorem aQ{F:Nat}(h:cb_l.elem F=true):kD TP F=true:=zQT.1 cb_all F (List.elem_iff.1 h)
theorem follows:TP.follows .mixedOrders=true:=by kernel_rfl
theorem own:ownKnob TP.godebug=none:=by kernel_rfl
theorem laidOut:laidOutB TP=true:=by kernel_rfl
def tab:Tab where
 lay:=[(3,false,1),(4,false,1),(9,false,1),(22,false,1),(23,false,1),(24,false,1),(25,false,1),(26,false,1),(28,true,6),(29,false,1),(30,false,1),(32,true,8),(35,false,1),(36,false,1),(37,false,1),(39,true,5),(40,false,1),(43,false,1),(44,false,1),(46,true,2),(51,false,1),(53,true,2),(60,true,10),(62,true,5),(63,false,1),(64,false,1),(66,true,4),(68,true,14),(71,false,1),(73,true,14),(77,false,1),(78,false,1),(80,true,14),(87,true,3),(89,true,4),(120,true,3),(123,true,2),(128,true,2),(141,true,7),(151,true,4),(153,true,4),(165,true,4),(168,true,2),(183,false,1),(185,true,7),(216,true,1),(235,true,3),(239,true,4),(240,true,40)]
 fs:=[(28,[(0,false,1),(1,false,1),(2,false,1),(3,false,1),(4,false,1),(5,false,1)]),(32,[(0,true,6),(6,false,1),(7,false,1)]),(39,[(0,false,1),(1,false,1),(2,false,1),(3,false,1),(4,false,1)]),(46,[(0,false,1),(1,false,1)]),(53,[(0,false,1),(1,false,1)]),(55,[(0,false,1),(1,false,1),(2,false,1)]),(60,[(0,false,1),(1,false,1),(2,false,1),(3,false,1),(4,false,1),(5,false,1),(6,false,1),(7,false,1),(8,false,1),(9,false,1)]),(62,[(0,false,1),(1,false,1),(2,false,1),(3,false,1),(4,false,1)]),(66,[(0,false,1),(1,false,1),(2,false,1),(3,false,1)]),(68,[(0,false,1),(1,false,1),(2,false,1),(3,false,1),(4,false,1),(5,true,4),(9,true,5)]),(73,[(0,false,1),(1,false,1),(2,false,1),(3,false,1),(4,false,1),(5,false,1),(6,false,1),(7,false,1),(8,false,1),(9,false,1),(10,false,1),(11,false,1),(12,false,1),(13,false,1)]),(80,[(0,false,1),(1,false,1),(2,false,1),(3,false,1),(4,false,1),(5,false,1),(6,false,1),(7,false,1),(8,false,1),(9,false,1),(10,false,1),(11,false,1),(12,false,1),(13,false,1)]),(87,[(0,false,1),(1,false,1),(2,false,1)]),(89,[(0,false,1),(1,false,1),(2,false,1),(3,false,1)]),(120,[(0,false,1),(1,false,1),(2,false,1)]),(123,[(0,false,1),(1,false,1)]),(128,[(0,false,1),(1,false,1)]),(141,[(0,false,1),(1,false,1),(2,false,1),(3,false,1),(4,false,1),(5,false,1),(6,false,1)]),(149,[(0,false,1),(1,false,1),(2,false,1),(3,false,1),(4,false,1),(5,false,1),(6,false,1)]),(151,[(0,false,1),(1,true,2),(3,false,1)]),(153,[(0,true,2),(2,true,2)]),(165,[(0,false,1),(1,false,1),(2,false,1),(3,false,1)]),(168,[(0,false,1),(1,false,1)]),(185,[(0,true,6),(6,false,1)]),(216,[(0,false,1)]),(235,[(0,false,1),(1,false,1),(2,false,1)]),(239,[(0,false,1),(1,false,1),(2,false,1),(3,false,1)]),(277,[(0,false,1),(1,false,1)])]
 sel:=[(22,9,1,16),(23,141,7,64),(24,153,4,32),(25,151,4,40),(26,235,3,24),(29,60,10,88),(30,87,3,40),(33,37,1,24),(34,62,5,40),(35,4,1,1),(36,80,14,264),(37,3,1,8),(43,73,14,192),(44,89,4,32),(51,55,3,24),(56,68,14,144),(63,165,4,32),(64,168,2,16),(71,120,3,24),(77,123,2,16),(78,128,2,16),(97,271,6,48),(147,149,7,168),(183,71,1,24),(230,22,1,24)]
 str:=[(9,())]
 boo:=[]
 con:=[(216,()),(244,())]
theorem TK:TabOk TP tab:=tabB_ok (by kernel_rfl)
section
variable {n k:Nat}{w:World}{g:Gh}{mv:Nat->Bool}{x y:Code}{ops ops':Array Oper}{l l':List Oper}{e e':Exit}{fr fr':Fr}{hp hp':List Blk}{ks kt:List Kt}{Q:Exit->St->Prop}
theorem bX(j:Nat)(h:run tab n j (.kc x fr hp [])=.kc y fr' hp' kt)(hk:TWp ⟨TP,n,w,k,g,mv⟩ y ⟨fr',hp'⟩ (post ⟨TP,n,w,k,g,mv⟩ kt Q)):TWp ⟨TP,n,w,k,g,mv⟩ x ⟨fr,hp⟩ Q:=tQ (C:=⟨TP,n,w,k,g,mv⟩) (Q:=Q) (m:=.kc x fr hp []) TK h hk
theorem aM(j:Nat)(h:run tab n j (.kc x fr hp [])=.ko ops' l' fr' hp' kt)(hk:bO ⟨TP,n,w,k,g,mv⟩ ops' l' ⟨fr',hp'⟩ (pn ⟨TP,n,w,k,g,mv⟩ kt Q)):TWp ⟨TP,n,w,k,g,mv⟩ x ⟨fr,hp⟩ Q:=tQ (C:=⟨TP,n,w,k,g,mv⟩) (Q:=Q) (m:=.kc x fr hp []) TK h hk
theorem r_px(j:Nat)(h:run tab n j (.kc x fr hp [])=.kx e' fr' hp' kt)(hk:post ⟨TP,n,w,k,g,mv⟩ kt Q e' ⟨fr',hp'⟩):TWp ⟨TP,n,w,k,g,mv⟩ x ⟨fr,hp⟩ Q:=tQ (C:=⟨TP,n,w,k,g,mv⟩) (Q:=Q) (m:=.kc x fr hp []) TK h hk
theorem bP(j:Nat)(h:run tab n j (.kc x fr hp ks)=.kc y fr' hp' kt)(hk:TWp ⟨TP,n,w,k,g,mv⟩ y ⟨fr',hp'⟩ (post ⟨TP,n,w,k,g,mv⟩ kt Q)):TWp ⟨TP,n,w,k,g,mv⟩ x ⟨fr,hp⟩ (post ⟨TP,n,w,k,g,mv⟩ ks Q):=tQ (C:=⟨TP,n,w,k,g,mv⟩) (Q:=Q) (m:=.kc x fr hp ks) TK h hk
theorem aK(j:Nat)(h:run tab n j (.kc x fr hp ks)=.ko ops' l' fr' hp' kt)(hk:bO ⟨TP,n,w,k,g,mv⟩ ops' l' ⟨fr',hp'⟩ (pn ⟨TP,n,w,k,g,mv⟩ kt Q)):TWp ⟨TP,n,w,k,g,mv⟩ x ⟨fr,hp⟩ (post ⟨TP,n,w,k,g,mv⟩ ks Q):=tQ (C:=⟨TP,n,w,k,g,mv⟩) (Q:=Q) (m:=.kc x fr hp ks) TK h hk
theorem aL(j:Nat)(h:run tab n j (.kc x fr hp ks)=.kx e' fr' hp' kt)(hk:post ⟨TP,n,w,k,g,mv⟩ kt Q e' ⟨fr',hp'⟩):TWp ⟨TP,n,w,k,g,mv⟩ x ⟨fr,hp⟩ (post ⟨TP,n,w,k,g,mv⟩ ks Q):=tQ (C:=⟨TP,n,w,k,g,mv⟩) (Q:=Q) (m:=.kc x fr hp ks) TK h hk
theorem aG(j:Nat)(h:run tab n j (.ko ops l fr hp ks)=.kc y fr' hp' kt)(hk:TWp ⟨TP,n,w,k,g,mv⟩ y ⟨fr',hp'⟩ (post ⟨TP,n,w,k,g,mv⟩ kt Q)):bO ⟨TP,n,w,k,g,mv⟩ ops l ⟨fr,hp⟩ (pn ⟨TP,n,w,k,g,mv⟩ ks Q):=tQ (C:=⟨TP,n,w,k,g,mv⟩) (Q:=Q) (m:=.ko ops l fr hp ks) TK h hk
theorem aI(j:Nat)(h:run tab n j (.ko ops l fr hp ks)=.ko ops' l' fr' hp' kt)(hk:bO ⟨TP,n,w,k,g,mv⟩ ops' l' ⟨fr',hp'⟩ (pn ⟨TP,n,w,k,g,mv⟩ kt Q)):bO ⟨TP,n,w,k,g,mv⟩ ops l ⟨fr,hp⟩ (pn ⟨TP,n,w,k,g,mv⟩ ks Q):=tQ (C:=⟨TP,n,w,k,g,mv⟩) (Q:=Q) (m:=.ko ops l fr hp ks) TK h hk
theorem aF(j:Nat)(h:run tab n j (.ko ops l fr hp ks)=.kx e' fr' hp' kt)(hk:post ⟨TP,n,w,k,g,mv⟩ kt Q e' ⟨fr',hp'⟩):bO ⟨TP,n,w,k,g,mv⟩ ops l ⟨fr,hp⟩ (pn ⟨TP,n,w,k,g,mv⟩ ks Q):=tQ (C:=⟨TP,n,w,k,g,mv⟩) (Q:=Q) (m:=.ko ops l fr hp ks) TK h hk
theorem bS(j:Nat)(h:run tab n j (.kx e fr hp ks)=.kx e' fr' hp' kt)(hk:post ⟨TP,n,w,k,g,mv⟩ kt Q e' ⟨fr',hp'⟩):post ⟨TP,n,w,k,g,mv⟩ ks Q e ⟨fr,hp⟩:=tQ (C:=⟨TP,n,w,k,g,mv⟩) (Q:=Q) (m:=.kx e fr hp ks) TK h hk
end
theorem conc216:Gv TP 216=true:=by kernel_rfl
theorem Jm:(TP.keyTypeAt 30 123&&!TP.eqGuardType TP.depth 123&&(match TP.underlying 123 with|some (.struct _)=>true|_=>false)&&[TypeDesc.int .i64,TypeDesc.int .i64].length == TP.cellsOf 123)=true:=by kernel_rfl
theorem keyt128:(TP.keyTypeAt 30 128&&!TP.eqGuardType TP.depth 128&&(match TP.underlying 128 with|some (.struct _)=>true|_=>false)&&[TypeDesc.int .i64,TypeDesc.int .i64].length == TP.cellsOf 128)=true:=by kernel_rfl
theorem keyt60:(TP.keyTypeAt 30 60&&!TP.eqGuardType TP.depth 60&&(match TP.underlying 60 with|some (.struct _)=>true|_=>false)&&[TypeDesc.int .i64,TypeDesc.string,TypeDesc.int .i64,TypeDesc.int .i64,TypeDesc.int .i64,TypeDesc.int .i64,TypeDesc.int .i64,TypeDesc.int .i64,TypeDesc.int .i64,TypeDesc.int .i64].length == TP.cellsOf 60)=true:=by kernel_rfl
theorem keyt62:(TP.keyTypeAt 30 62&&!TP.eqGuardType TP.depth 62&&(match TP.underlying 62 with|some (.struct _)=>true|_=>false)&&[TypeDesc.int .i64,TypeDesc.int .i64,TypeDesc.int .i64,TypeDesc.int .i64,TypeDesc.bool].length == TP.cellsOf 62)=true:=by kernel_rfl
theorem F8:uK TP 30 123=some [.int .i64,.int .i64]:=by kernel_rfl
theorem kinds128:uK TP 30 128=some [.int .i64,.int .i64]:=by kernel_rfl
theorem kinds60:uK TP 30 60=some [.int .i64,.string,.int .i64,.int .i64,.int .i64,.int .i64,.int .i64,.int .i64,.int .i64,.int .i64]:=by kernel_rfl
theorem kinds62:uK TP 30 62=some [.int .i64,.int .i64,.int .i64,.int .i64,.bool]:=by kernel_rfl
theorem lay239:lay TP 239=some (true,4):=by kernel_rfl
theorem lay240:lay TP 240=some (true,40):=by kernel_rfl
theorem lay3:lay TP 3=some (false,1):=by kernel_rfl
theorem lay71:lay TP 71=some (false,1):=by kernel_rfl
theorem Ic:uT TP 108=some (3,.int .i64,3):=by kernel_rfl
theorem vQ:uT TP 177=some (128,(TP.underlying 128).getD .bool,128):=by kernel_rfl
theorem Ib:uT TP 187=some (9,.string,3):=by kernel_rfl
theorem mty231:uT TP 231=some (9,.string,4):=by kernel_rfl
theorem kp:uT TP 279=some (3,.int .i64,26):=by kernel_rfl
theorem ve:uT TP 91=some (3,.int .i64,4):=by kernel_rfl
theorem plc120:gi TP 120=some [(0,1),(1,1),(2,1)]:=by kernel_rfl
theorem xO:gi TP 123=some [(0,1),(1,1)]:=by kernel_rfl
theorem pC:gi TP 128=some [(0,1),(1,1)]:=by kernel_rfl
theorem plc141:gi TP 141=some [(0,1),(1,1),(2,1),(3,1),(4,1),(5,1),(6,1)]:=by kernel_rfl
theorem H4:gi TP 151=some [(0,1),(1,2),(3,1)]:=by kernel_rfl
theorem plc153:gi TP 153=some [(0,2),(2,2)]:=by kernel_rfl
theorem plc165:gi TP 165=some [(0,1),(1,1),(2,1),(3,1)]:=by kernel_rfl
theorem plc168:gi TP 168=some [(0,1),(1,1)]:=by kernel_rfl
theorem plc185:gi TP 185=some [(0,6),(6,1)]:=by kernel_rfl
theorem yv:gi TP 216=some [(0,1)]:=by kernel_rfl
theorem Dz:gi TP 244=some [(0,2)]:=by kernel_rfl
theorem plc277:gi TP 277=some [(0,1),(1,1)]:=by kernel_rfl
theorem plc28:gi TP 28=some [(0,1),(1,1),(2,1),(3,1),(4,1),(5,1)]:=by kernel_rfl
theorem plc39:gi TP 39=some [(0,1),(1,1),(2,1),(3,1),(4,1)]:=by kernel_rfl
theorem q0:gi TP 46=some [(0,1),(1,1)]:=by kernel_rfl
theorem plc53:gi TP 53=some [(0,1),(1,1)]:=by kernel_rfl
theorem plc55:gi TP 55=some [(0,1),(1,1),(2,1)]:=by kernel_rfl
theorem plc60:gi TP 60=some [(0,1),(1,1),(2,1),(3,1),(4,1),(5,1),(6,1),(7,1),(8,1),(9,1)]:=by kernel_rfl
theorem plc62:gi TP 62=some [(0,1),(1,1),(2,1),(3,1),(4,1)]:=by kernel_rfl
theorem plc66:gi TP 66=some [(0,1),(1,1),(2,1),(3,1)]:=by kernel_rfl
theorem plc68:gi TP 68=some [(0,1),(1,1),(2,1),(3,1),(4,1),(5,4),(9,5)]:=by kernel_rfl
theorem Jb:gi TP 73=some [(0,1),(1,1),(2,1),(3,1),(4,1),(5,1),(6,1),(7,1),(8,1),(9,1),(10,1),(11,1),(12,1),(13,1)]:=by kernel_rfl
theorem plc80:gi TP 80=some [(0,1),(1,1),(2,1),(3,1),(4,1),(5,1),(6,1),(7,1),(8,1),(9,1),(10,1),(11,1),(12,1),(13,1)]:=by kernel_rfl
theorem plc87:gi TP 87=some [(0,1),(1,1),(2,1)]:=by kernel_rfl
theorem plc89:gi TP 89=some [(0,1),(1,1),(2,1),(3,1)]:=by kernel_rfl
theorem gz:sel TP 183=some (71,1,24):=by kernel_rfl
theorem bi:sel TP 71=some (120,3,24):=by kernel_rfl
theorem rQ:SKey TP 128 [.int .i64,.int .i64]:=sKey 3 (by decide) (by kernel_rfl) (by kernel_rfl)
theorem dG:(TP.info? 120).bind (·.zero)=Option.some (Go.Value.agg #[Go.Value.int Go.IntKind.i64 0,Go.Value.int Go.IntKind.i64 0,Go.Value.int Go.IntKind.i64 0]):=by kernel_rfl
theorem hP:(TP.info? 123).bind (·.zero)=Option.some (Go.Value.agg #[Go.Value.int Go.IntKind.i64 0,Go.Value.int Go.IntKind.i64 0]):=by kernel_rfl
theorem cQ:(TP.info? 128).bind (·.zero)=Option.some (Go.Value.agg #[Go.Value.int Go.IntKind.i64 0,Go.Value.int Go.IntKind.i64 0]):=by kernel_rfl
theorem rI:(TP.info? 141).bind (·.zero)=Option.some (Go.Value.agg #[Go.Value.string { data:=#[] },Go.Value.int Go.IntKind.i64 0,Go.Value.int Go.IntKind.i64 0,Go.Value.int Go.IntKind.i64 0,Go.Value.int Go.IntKind.i64 0,Go.Value.int Go.IntKind.i64 0,Go.Value.int Go.IntKind.i64 0]):=by kernel_rfl
theorem nW:(TP.info? 151).bind (·.zero)=Option.some (Go.Value.agg #[Go.Value.string { data:=#[] },Go.Value.int Go.IntKind.i64 0,Go.Value.int Go.IntKind.i64 0,Go.Value.int Go.IntKind.i64 0]):=by kernel_rfl
theorem sX:(TP.info? 153).bind (·.zero)=Option.some (Go.Value.agg #[Go.Value.int Go.IntKind.i64 0,Go.Value.int Go.IntKind.i64 0,Go.Value.int Go.IntKind.i64 0,Go.Value.int Go.IntKind.i64 0]):=by kernel_rfl
theorem nV:(TP.info? 165).bind (·.zero)=Option.some (Go.Value.agg #[Go.Value.int Go.IntKind.i64 0,Go.Value.int Go.IntKind.i64 0,Go.Value.int Go.IntKind.i64 0,Go.Value.int Go.IntKind.i64 0]):=by kernel_rfl
theorem yR:(TP.info? 168).bind (·.zero)=Option.some (Go.Value.agg #[Go.Value.int Go.IntKind.i64 0,Go.Value.int Go.IntKind.i64 0]):=by kernel_rfl
theorem I3:(TP.info? 185).bind (·.zero)=Option.some (Go.Value.agg #[Go.Value.string { data:=#[] },Go.Value.slice Option.none 0 0,Go.Value.slice Option.none 0 0,Go.Value.slice Option.none 0 0,Go.Value.slice Option.none 0 0,Go.Value.slice Option.none 0 0,Go.Value.slice Option.none 0 0]):=by kernel_rfl
theorem yQ:(TP.info? 216).bind (·.zero)=Option.some (Go.Value.agg #[Go.Value.int Go.IntKind.i64 0]):=by kernel_rfl
theorem zero22:(TP.info? 22).bind (·.zero)=Option.some (Go.Value.slice Option.none 0 0):=by kernel_rfl
theorem rH:(TP.info? 235).bind (·.zero)=Option.some (Go.Value.agg #[Go.Value.int Go.IntKind.i64 0,Go.Value.int Go.IntKind.i64 0,Go.Value.int Go.IntKind.i64 0]):=by kernel_rfl
theorem I2:(TP.info? 239).bind (·.zero)=Option.some (Go.Value.agg #[Go.Value.int Go.IntKind.i64 0,Go.Value.int Go.IntKind.i64 0,Go.Value.int Go.IntKind.i64 0,Go.Value.int Go.IntKind.i64 0]):=by kernel_rfl
theorem wo:(TP.info? 244).bind (·.zero)=Option.some (Go.Value.agg #[Go.Value.int Go.IntKind.i64 0,Go.Value.int Go.IntKind.i64 0]):=by kernel_rfl
theorem zero26:(TP.info? 26).bind (·.zero)=Option.some (Go.Value.slice Option.none 0 0):=by kernel_rfl
theorem zero277:(TP.info? 277).bind (·.zero)=Option.some (Go.Value.agg #[Go.Value.int Go.IntKind.i64 0,Go.Value.int Go.IntKind.i64 0]):=by kernel_rfl
theorem He:(TP.info? 28).bind (·.zero)=Option.some (Go.Value.agg #[Go.Value.string { data:=#[] },Go.Value.slice Option.none 0 0,Go.Value.slice Option.none 0 0,Go.Value.slice Option.none 0 0,Go.Value.slice Option.none 0 0,Go.Value.slice Option.none 0 0]):=by kernel_rfl
theorem fL:(TP.info? 3).bind (·.zero)=Option.some (Go.Value.int Go.IntKind.i64 0):=by kernel_rfl
theorem gl:(TP.info? 39).bind (·.zero)=Option.some (Go.Value.agg #[Go.Value.slice Option.none 0 0,Go.Value.slice Option.none 0 0,Go.Value.slice Option.none 0 0,Go.Value.int Go.IntKind.i64 0,Go.Value.int Go.IntKind.i64 0]):=by kernel_rfl
theorem Cb:(TP.info? 4).bind (·.zero)=Option.some (Go.Value.bool Bool.false):=by kernel_rfl
theorem zero40:(TP.info? 40).bind (·.zero)=Option.some (Go.Value.int Go.IntKind.i64 0):=by kernel_rfl
theorem jU:(TP.info? 46).bind (·.zero)=Option.some (Go.Value.agg #[Go.Value.slice Option.none 0 0,Go.Value.slice Option.none 0 0]):=by kernel_rfl
theorem Hd:(TP.info? 53).bind (·.zero)=Option.some (Go.Value.agg #[Go.Value.slice Option.none 0 0,Go.Value.slice Option.none 0 0]):=by kernel_rfl
theorem C2:(TP.info? 55).bind (·.zero)=Option.some (Go.Value.agg #[Go.Value.int Go.IntKind.i64 0,Go.Value.int Go.IntKind.i64 0,Go.Value.int Go.IntKind.i64 0]):=by kernel_rfl
theorem bo:(TP.info? 60).bind (·.zero)=Option.some (Go.Value.agg #[Go.Value.int Go.IntKind.i64 0,Go.Value.string { data:=#[] },Go.Value.int Go.IntKind.i64 0,Go.Value.int Go.IntKind.i64 0,Go.Value.int Go.IntKind.i64 0,Go.Value.int Go.IntKind.i64 0,Go.Value.int Go.IntKind.i64 0,Go.Value.int Go.IntKind.i64 0,Go.Value.int Go.IntKind.i64 0,Go.Value.int Go.IntKind.i64 0]):=by kernel_rfl
theorem zero62:(TP.info? 62).bind (·.zero)=Option.some (Go.Value.agg #[Go.Value.int Go.IntKind.i64 0,Go.Value.int Go.IntKind.i64 0,Go.Value.int Go.IntKind.i64 0,Go.Value.int Go.IntKind.i64 0,Go.Value.bool Bool.false]):=by kernel_rfl
theorem zero63:(TP.info? 63).bind (·.zero)=Option.some (Go.Value.slice Option.none 0 0):=by kernel_rfl
theorem gk:(TP.info? 66).bind (·.zero)=Option.some (Go.Value.agg #[Go.Value.int Go.IntKind.i64 0,Go.Value.int Go.IntKind.i64 0,Go.Value.slice Option.none 0 0,Go.Value.slice Option.none 0 0]):=by kernel_rfl
theorem uV:(TP.info? 68).bind (·.zero)=Option.some (Go.Value.agg #[Go.Value.int Go.IntKind.i64 0,Go.Value.int Go.IntKind.i64 0,Go.Value.int Go.IntKind.i64 0,Go.Value.int Go.IntKind.i64 0,Go.Value.int Go.IntKind.i64 0,Go.Value.int Go.IntKind.i64 0,Go.Value.int Go.IntKind.i64 0,Go.Value.slice Option.none 0 0,Go.Value.slice Option.none 0 0,Go.Value.int Go.IntKind.i64 0,Go.Value.int Go.IntKind.i64 0,Go.Value.int Go.IntKind.i64 0,Go.Value.int Go.IntKind.i64 0,Go.Value.bool Bool.false]):=by kernel_rfl
theorem C1:(TP.info? 71).bind (·.zero)=Option.some (Go.Value.slice Option.none 0 0):=by kernel_rfl
theorem jL:(TP.info? 73).bind (·.zero)=Option.some (Go.Value.agg #[Go.Value.int Go.IntKind.i64 0,Go.Value.int Go.IntKind.i64 0,Go.Value.int Go.IntKind.i64 0,Go.Value.int Go.IntKind.i64 0,Go.Value.slice Option.none 0 0,Go.Value.slice Option.none 0 0,Go.Value.slice Option.none 0 0,Go.Value.slice Option.none 0 0,Go.Value.slice Option.none 0 0,Go.Value.int Go.IntKind.i64 0,Go.Value.int Go.IntKind.i64 0,Go.Value.int Go.IntKind.i64 0,Go.Value.int Go.IntKind.i64 0,Go.Value.int Go.IntKind.i64 0]):=by kernel_rfl
theorem oD:(TP.info? 80).bind (·.zero)=Option.some (Go.Value.agg #[Go.Value.string { data:=#[] },Go.Value.int Go.IntKind.i64 0,Go.Value.int Go.IntKind.i64 0,Go.Value.slice Option.none 0 0,Go.Value.slice Option.none 0 0,Go.Value.slice Option.none 0 0,Go.Value.int Go.IntKind.i64 0,Go.Value.int Go.IntKind.i64 0,Go.Value.slice Option.none 0 0,Go.Value.slice Option.none 0 0,Go.Value.slice Option.none 0 0,Go.Value.slice Option.none 0 0,Go.Value.slice Option.none 0 0,Go.Value.slice Option.none 0 0]):=by kernel_rfl
theorem xh:(TP.info? 87).bind (·.zero)=Option.some (Go.Value.agg #[Go.Value.slice Option.none 0 0,Go.Value.int Go.IntKind.i64 0,Go.Value.int Go.IntKind.i64 0]):=by kernel_rfl
theorem uU:(TP.info? 89).bind (·.zero)=Option.some (Go.Value.agg #[Go.Value.int Go.IntKind.i64 0,Go.Value.int Go.IntKind.i64 0,Go.Value.int Go.IntKind.i64 0,Go.Value.int Go.IntKind.i64 0]):=by kernel_rfl
theorem qj:(TP.info? 9).bind (·.zero)=Option.some (Go.Value.string { data:=#[] }):=by kernel_rfl
theorem Train_ne{w:World}{n k:Nat}{g:Gh}{mv:Nat->Bool}{o:Oper}{ev:Operand->AV}{hp:List Blk}{a b:Operand}{t':TypeId}{x y:Ao}(ho:o.op=.binOp .neq 60 a b t')(hx:ev a=.d x.enc)(hy:ev b=.d y.enc)(h1:x.ok)(h2:y.ok):RdOk ⟨TP,n,w,k,g,mv⟩ o ev hp (.d (.bool (!decide (x=y)))):=
 eq_not ho hx hy kinds60 keyt60 rfl rfl ⟨⟨rfl,h1.1⟩,Cx h1.2.1,⟨rfl,h1.2.2.1⟩,⟨rfl,h1.2.2.2.1⟩,⟨rfl,h1.2.2.2.2.1⟩,⟨rfl,h1.2.2.2.2.2.1⟩,⟨rfl,h1.2.2.2.2.2.2.1⟩,⟨rfl,h1.2.2.2.2.2.2.2.1⟩,⟨rfl,h1.2.2.2.2.2.2.2.2.1⟩,⟨rfl,h1.2.2.2.2.2.2.2.2.2⟩,trivial⟩ ⟨⟨rfl,h2.1⟩,Cx h2.2.1,⟨rfl,h2.2.2.1⟩,⟨rfl,h2.2.2.2.1⟩,⟨rfl,h2.2.2.2.2.1⟩,⟨rfl,h2.2.2.2.2.2.1⟩,⟨rfl,h2.2.2.2.2.2.2.1⟩,⟨rfl,h2.2.2.2.2.2.2.2.1⟩,⟨rfl,h2.2.2.2.2.2.2.2.2.1⟩,⟨rfl,h2.2.2.2.2.2.2.2.2.2⟩,trivial⟩ (Iy x y)
theorem K9{w:World}{n k:Nat}{g:Gh}{mv:Nat->Bool}{o:Oper}{ev:Operand->AV}{hp:List Blk}{a b:Operand}{t':TypeId}{x y:Aq}(ho:o.op=.binOp .eql 62 a b t')(hx:ev a=.d x.enc)(hy:ev b=.d y.enc)(h1:x.ok)(h2:y.ok):RdOk ⟨TP,n,w,k,g,mv⟩ o ev hp (.d (.bool (decide (x=y)))):=
 Ip ho hx hy kinds62 keyt62 rfl rfl ⟨⟨rfl,h1.1⟩,⟨rfl,h1.2.1⟩,⟨rfl,h1.2.2.1⟩,⟨rfl,h1.2.2.2.1⟩,trivial,trivial⟩ ⟨⟨rfl,h2.1⟩,⟨rfl,h2.2.1⟩,⟨rfl,h2.2.2.1⟩,⟨rfl,h2.2.2.2.1⟩,trivial,trivial⟩ (Ha x y)
theorem Be{w:World}{n k:Nat}{g:Gh}{mv:Nat->Bool}{o:Oper}{ev:Operand->AV}{hp:List Blk}{a b:Operand}{t':TypeId}{x y:Ab}(ho:o.op=.binOp .eql 123 a b t')(hx:ev a=.d x.enc)(hy:ev b=.d y.enc)(h1:x.ok)(h2:y.ok):RdOk ⟨TP,n,w,k,g,mv⟩ o ev hp (.d (.bool (decide (x=y)))):=
 Ip ho hx hy F8 Jm rfl rfl ⟨⟨rfl,h1.1⟩,⟨rfl,h1.2⟩,trivial⟩ ⟨⟨rfl,h2.1⟩,⟨rfl,h2.2⟩,trivial⟩ (gg x y)
theorem Bd{w:World}{n k:Nat}{g:Gh}{mv:Nat->Bool}{o:Oper}{ev:Operand->AV}{hp:List Blk}{a b:Operand}{t':TypeId}{x y:Ab}(ho:o.op=.binOp .neq 123 a b t')(hx:ev a=.d x.enc)(hy:ev b=.d y.enc)(h1:x.ok)(h2:y.ok):RdOk ⟨TP,n,w,k,g,mv⟩ o ev hp (.d (.bool (!decide (x=y)))):=
 eq_not ho hx hy F8 Jm rfl rfl ⟨⟨rfl,h1.1⟩,⟨rfl,h1.2⟩,trivial⟩ ⟨⟨rfl,h2.1⟩,⟨rfl,h2.2⟩,trivial⟩ (gg x y)
theorem Bg{w:World}{n k:Nat}{g:Gh}{mv:Nat->Bool}{o:Oper}{ev:Operand->AV}{hp:List Blk}{a b:Operand}{t':TypeId}{x y:End}(ho:o.op=.binOp .eql 128 a b t')(hx:ev a=.d x.enc)(hy:ev b=.d y.enc)(h1:x.ok)(h2:y.ok):RdOk ⟨TP,n,w,k,g,mv⟩ o ev hp (.d (.bool (decide (x=y)))):=
 Ip ho hx hy kinds128 keyt128 rfl rfl ⟨⟨rfl,h1.1⟩,⟨rfl,h1.2⟩,trivial⟩ ⟨⟨rfl,h2.1⟩,⟨rfl,h2.2⟩,trivial⟩ (End_lits x y)
theorem rT:KeyG [.int .i64,.int .i64] End.enc End.okb:=⟨λx h=>by
 have h:End.ok x:=of_decide_eq_true h
 exact⟨_,[.int .i64 x.el,.int .i64 x.side],rfl,rfl,⟨⟨rfl,h.1⟩,⟨rfl,h.2⟩,trivial⟩⟩,λa b h=>by
 cases a;cases b;simpa[End.enc]using h⟩
end Go.Proofs.YtjmpojlgegloeaaGreatDoor
set_option maxHeartbeats 1000000
set_option maxRecDepth 100000
namespace Go.Proofs.YtjmpojlgegloeaaGreatDoor
open Go Go.TL Go.Lib
theorem ldN : TP.globalNamed "signalling/rail.passages" = some 0 := by kernel_rfl
theorem ldY:(TP.globals[0]?).map (·.type)=some 240:=by kernel_rfl
theorem ldNs : TP.globalNamed "signalling/rail.sides" = some 1 := by kernel_rfl
theorem ldYs:(TP.globals[1]?).map (·.type)=some 241:=by kernel_rfl
theorem ldNp : TP.globalNamed "internal/strconv.uint64pow10" = some 2 := by kernel_rfl
theorem ldYp:(TP.globals[2]?).map (·.type)=some 312:=by kernel_rfl
theorem ldCA:TP.cellsOf 240=40:=by kernel_rfl
theorem ldCS:TP.cellsOf 239=4:=by kernel_rfl
theorem ldC3:TP.cellsOf 3=1:=by kernel_rfl
theorem ldCs:TP.cellsOf 241=4:=by kernel_rfl
theorem ldCp:TP.cellsOf 312=20:=by kernel_rfl
theorem ldCu:TP.cellsOf 227=1:=by kernel_rfl
def passZ:List (List Int):=[[1,0,1,0],[1,1,0,0],[2,0,1,1],[2,0,2,2],[2,1,0,1],[2,2,0,2],[3,0,1,0],[3,1,0,0],[3,2,3,0],[3,3,2,0]]
theorem passZ_at:∀m:Fin 40,(passZ.getD (m.val/4) [])[m.val%4]?=passZ.flatten[m.val]?:=by decide
theorem datum:(Rows.laid_signalling_rail_passages:DataW _root_.Unit)=.agg (passZ.map λr=>.agg (r.map λz=>.lit (.int .i64 z))):=rfl
def powZ:List Int:=[1,10,100,1000,10000,100000,1000000,10000000,100000000,1000000000,10000000000,100000000000,1000000000000,10000000000000,100000000000000,1000000000000000,10000000000000000,100000000000000000,1000000000000000000,10000000000000000000]
theorem datumS:(Rows.laid_signalling_rail_sides:DataW _root_.Unit)=tabData .i64 [0,2,3,4]:=rfl
theorem datumP:(Rows.laid_internal_strconv_uint64pow10:DataW _root_.Unit)=tabData .u64 powZ:=rfl
theorem xz{W:Go.World}{n:String}{g:Nat}{cs:Array Value}(hn:TP.globalNamed n=some g)(h:W.var? TP n=some cs):∃t fz,W.heap[g]?=some (.cells cs t fz):=by
 unfold World.var? at h;rw[hn]at h;simp only[Option.bind_some]at h;split at h;rename_i cs' t fz hh;cases h;exact⟨t,fz,hh⟩;cases h
theorem H6{W:Go.World}{cs:Array Value}{fuel:Nat}{p:List MemPlace}(hd:DataW.trod (λ_=>()) TP W 0 (λ_=>true) false fuel 240 cs.toList=some (Rows.laid_signalling_rail_passages,p)):cs.toList=passZ.flatten.map λz=>Value.int .i64 z:=by
 rw[datum]at hd
 have hlen:cs.toList.length=40:=by
  cases fuel with
  |zero=>simp[DataW.trod]at hd
  |succ fuel=>
   simp only[DataW.trod,Tryz.underlying240]at hd;split at hd;rename_i e;rw[e];exact ldCA;cases hd
 have hrow:∀i,i<10->∀zs,passZ[i]?=some zs->(cs.toList.drop (i*4)).take 4=zs.map λz=>Value.int .i64 z:=λi hi zs hz=>by
  obtain⟨fuel',d,q,hdi,he⟩:=array_elem Tryz.underlying240 hd i hi;rw[qU,hz]at hdi;cases hdi;rw[ldCS]at he
  exact ints_of_struct Tryz.underlying239 (λj f hj=>by
   match j,hj with
   |0,hj=>cases hj;exact⟨Tryz.underlying3,rfl,ldC3⟩
   |1,hj=>cases hj;exact⟨Tryz.underlying3,rfl,ldC3⟩
   |2,hj=>cases hj;exact⟨Tryz.underlying3,rfl,ldC3⟩
   |3,hj=>cases hj;exact⟨Tryz.underlying3,rfl,ldC3⟩
   |j+4,hj=>simp at hj) (by rw[ldCS];rfl) he
 apply hU;intro m;by_cases hm:m<40;have hi : m / 4 < 10 := by omega
 have hz:passZ[m/4]?=some (passZ.getD (m/4) []):=by rw[Lb,lR (show m/4<passZ.length from hi)];rfl
 have h1:=congrArg (·[m%4]?) (hrow (m/4) hi _ hz);simp only[kJ,if_pos (Nat.mod_lt m (show 0<4 by decide)),lG]at h1;rw[show m/4*4+m%4=m by omega]at h1;rw[h1];rw[qU,qU,passZ_at ⟨m,hm⟩];rw[iS (by omega),iS (by simp only[Bo];show 40<=m;omega)]
theorem Ky(W:Go.World)(h:laidMetH TP Rows.topLossesRow.laid W):Hb W (dF λb=>b<W.heap.size):=by
 have h:laidMet TP Rows.topLossesRow.laid W:=h
 obtain ⟨g, t, cs, fuel, p, hg, hty, hvar, hd⟩ := laidMet.reads h (n := "signalling/rail.passages") (d := Rows.laid_signalling_rail_passages) (.tail _ (.tail _ (.tail _ (.tail _ (.head _)))));obtain rfl:=aS (ldN.symm.trans hg);obtain rfl:=aS (ldY.symm.trans hty);have h0:=H6 hd
 obtain ⟨g1, t1, cs1, fuel1, p1, hg1, hty1, hvar1, hd1⟩ := laidMet.reads h (n := "signalling/rail.sides") (d := Rows.laid_signalling_rail_sides) (.tail _ (.tail _ (.tail _ (.head _))));obtain rfl:=aS (ldNs.symm.trans hg1);obtain rfl:=aS (ldYs.symm.trans hty1);have h1:=cells_of_tab Tryz.underlying241 Tryz.underlying3 ldC3 ldCs (datumS ▸ hd1)
 obtain ⟨g2, t2, cs2, fuel2, p2, hg2, hty2, hvar2, hd2⟩ := laidMet.reads h (n := "internal/strconv.uint64pow10") (d := Rows.laid_internal_strconv_uint64pow10) (.tail _ (.tail _ (.head _)));obtain rfl:=aS (ldNp.symm.trans hg2);obtain rfl:=aS (ldYp.symm.trans hty2);have h2:=cells_of_tab Tryz.underlying312 Tryz.underlying227 ldCu ldCp (datumP ▸ hd2);obtain⟨t0',z0,e0⟩:=xz ldN hvar;obtain⟨t1',z1,e1⟩:=xz ldNs hvar1;obtain⟨t2',z2,e2⟩:=xz ldNp hvar2;have fin:∀{cs:Array Value}{l:List Value},cs.toList=l->cs=l.toArray:=λh=>Array.toList_inj.1 (by rw[h]);intro x hx;simp only[zF,zQB,xA,or_false]at hx;rcases hx with rfl|rfl|rfl
 exact⟨⟨t0',z0,by rw[e0,fin h0];rfl⟩,λi hp=>by simp[dF]at hp⟩;exact⟨⟨t1',z1,by rw[e1,fin h1];rfl⟩,λi hp=>by simp[dF]at hp⟩;exact⟨⟨t2',z2,by rw[e2,fin h2];rfl⟩,λi hp=>by simp[dF]at hp⟩
end Go.Proofs.YtjmpojlgegloeaaGreatDoor
set_option maxHeartbeats 8000000
set_option linter.unusedSimpArgs false
set_option linter.unusedVariables false
set_option maxRecDepth 20000
namespace Go.Proofs.YtjmpojlgegloeaaGreatDoor
open Go Go.TL
theorem HasTy.fld{P:Go.Program}{cs:List D}{fs:Array Field}(h2:∀(i:Nat)(f:Field),fs[i]?=some f->HasTy P f.type ((cs.drop f.offset).take (P.cellsOf f.type))){i off n:Nat}{f:Field}{t:TypeId}(hf:fs[i]?=some f)(ht:f.type=t)(ho:f.offset=off)(hc:P.cellsOf t=n):HasTy P t ((cs.drop off).take n):=by
 have:=h2 i f hf;rw[ht,ho,hc]at this;exact this
theorem ty9(cs:List D)(h:HasTy TP 9 cs):∃x:BA,(λs=>s.size<=reachBytes) x/\bA TP 9 cs=D.str x:=by
 obtain⟨x,rfl,w⟩:=h.str_inv Tryz.underlying9;exact⟨x,w,by simp[bA,Tryz.underlying9]⟩
theorem zt:TP.cellsOf 9=1:=by kernel_rfl
theorem ty3(cs:List D)(h:HasTy TP 3 cs):∃x:Int,bD x/\bA TP 3 cs=(D.int .i64) x:=by
 obtain⟨x,rfl,w⟩:=h.int_inv Tryz.underlying3;exact⟨x,w,by simp[bA,Tryz.underlying3]⟩
theorem G3:TP.cellsOf 141=7:=by kernel_rfl
theorem fB:TP.cellsOf 3=1:=by kernel_rfl
theorem len_is7{cs:List D}(h:cs.length=7):∃a0 a1 a2 a3 a4 a5 a6,cs=[a0,a1,a2,a3,a4,a5,a6]:=by
 match cs,h with
 |[a0,a1,a2,a3,a4,a5,a6],_=>exact⟨a0,a1,a2,a3,a4,a5,a6,rfl⟩
theorem ty141c(cs:List D)(h:HasTy TP 141 cs):∃x:An,x.Wf/\cs=[.str x.name,.int .i64 x.kind,.int .i64 x.length,.int .i64 x.grade,.int .i64 x.speed,.int .i64 x.slow,.int .i64 x.Az]:=by
 obtain⟨h1,h2⟩:=h.struct_inv Tryz.underlying141;rw[G3]at h1;obtain⟨a0,a1,a2,a3,a4,a5,a6,rfl⟩:=len_is7 h1;obtain⟨x0,e0,w0⟩:=(show HasTy TP 9 [a0]from HasTy.fld h2 (i:=0) rfl rfl rfl zt).str_inv Tryz.underlying9;replace e0:[a0]=[D.str x0]:=e0;simp only[cR,and_true]at e0;obtain⟨x1,e1,w1⟩:=(show HasTy TP 3 [a1]from HasTy.fld h2 (i:=1) rfl rfl rfl fB).int_inv Tryz.underlying3;replace e1:[a1]=[D.int .i64 x1]:=e1;simp only[cR,and_true]at e1;obtain⟨x2,e2,w2⟩:=(show HasTy TP 3 [a2]from HasTy.fld h2 (i:=2) rfl rfl rfl fB).int_inv Tryz.underlying3;replace e2:[a2]=[D.int .i64 x2]:=e2;simp only[cR,and_true]at e2;obtain⟨x3,e3,w3⟩:=(show HasTy TP 3 [a3]from HasTy.fld h2 (i:=3) rfl rfl rfl fB).int_inv Tryz.underlying3;replace e3:[a3]=[D.int .i64 x3]:=e3;simp only[cR,and_true]at e3;obtain⟨x4,e4,w4⟩:=(show HasTy TP 3 [a4]from HasTy.fld h2 (i:=4) rfl rfl rfl fB).int_inv Tryz.underlying3;replace e4:[a4]=[D.int .i64 x4]:=e4;simp only[cR,and_true]at e4;obtain⟨x5,e5,w5⟩:=(show HasTy TP 3 [a5]from HasTy.fld h2 (i:=5) rfl rfl rfl fB).int_inv Tryz.underlying3;replace e5:[a5]=[D.int .i64 x5]:=e5;simp only[cR,and_true]at e5;obtain⟨x6,e6,w6⟩:=(show HasTy TP 3 [a6]from HasTy.fld h2 (i:=6) rfl rfl rfl fB).int_inv Tryz.underlying3;replace e6:[a6]=[D.int .i64 x6]:=e6;simp only[cR,and_true]at e6;subst e0 e1 e2 e3 e4 e5 e6;exact⟨⟨x0,x1,x2,x3,x4,x5,x6⟩,⟨w0,w1,w2,w3,w4,w5,w6⟩,rfl⟩
theorem ty141(cs:List D)(h:HasTy TP 141 cs):∃x:An,x.Wf/\bA TP 141 cs=x.enc:=by
 obtain⟨x,w,rfl⟩:=ty141c cs h;exact⟨x,w,by simp[bA,Tryz.underlying141,An.enc]⟩
theorem fp:TP.cellsOf 128=2:=by kernel_rfl
theorem len_is2{cs:List D}(h:cs.length=2):∃a0 a1,cs=[a0,a1]:=by
 match cs,h with
 |[a0,a1],_=>exact⟨a0,a1,rfl⟩
theorem Hm(cs:List D)(h:HasTy TP 128 cs):∃x:End,x.Wf/\cs=[.int .i64 x.el,.int .i64 x.side]:=by
 obtain⟨h1,h2⟩:=h.struct_inv Tryz.underlying128;rw[fp]at h1;obtain⟨a0,a1,rfl⟩:=len_is2 h1;obtain⟨x0,e0,w0⟩:=(show HasTy TP 3 [a0]from HasTy.fld h2 (i:=0) rfl rfl rfl fB).int_inv Tryz.underlying3;replace e0:[a0]=[D.int .i64 x0]:=e0;simp only[cR,and_true]at e0;obtain⟨x1,e1,w1⟩:=(show HasTy TP 3 [a1]from HasTy.fld h2 (i:=1) rfl rfl rfl fB).int_inv Tryz.underlying3;replace e1:[a1]=[D.int .i64 x1]:=e1;simp only[cR,and_true]at e1;subst e0 e1;exact⟨⟨x0,x1⟩,⟨w0,w1⟩,rfl⟩
theorem G1:TP.cellsOf 153=4:=by kernel_rfl
theorem Jk{cs:List D}(h:cs.length=4):∃a0 a1 a2 a3,cs=[a0,a1,a2,a3]:=by
 match cs,h with
 |[a0,a1,a2,a3],_=>exact⟨a0,a1,a2,a3,rfl⟩
theorem ty153c(cs:List D)(h:HasTy TP 153 cs):∃x:Ay,x.Wf/\cs=[.int .i64 x.a.el,.int .i64 x.a.side,.int .i64 x.b.el,.int .i64 x.b.side]:=by
 obtain⟨h1,h2⟩:=h.struct_inv Tryz.underlying153;rw[G1]at h1;obtain⟨a0,a1,a2,a3,rfl⟩:=Jk h1;obtain⟨x0,w0,e0⟩:=Hm _ (show HasTy TP 128 [a0,a1]from HasTy.fld h2 (i:=0) rfl rfl rfl fp);replace e0:[a0,a1]=[D.int .i64 x0.el,D.int .i64 x0.side]:=e0;simp only[cR,and_true]at e0;obtain⟨f0x0,f0x1⟩:=e0;obtain⟨x1,w1,e1⟩:=Hm _ (show HasTy TP 128 [a2,a3]from HasTy.fld h2 (i:=1) rfl rfl rfl fp);replace e1:[a2,a3]=[D.int .i64 x1.el,D.int .i64 x1.side]:=e1;simp only[cR,and_true]at e1;obtain⟨f1x0,f1x1⟩:=e1;subst f0x0 f0x1 f1x0 f1x1;exact⟨⟨x0,x1⟩,⟨w0,w1⟩,rfl⟩
theorem ty153(cs:List D)(h:HasTy TP 153 cs):∃x:Ay,x.Wf/\bA TP 153 cs=x.enc:=by
 obtain⟨x,w,rfl⟩:=ty153c cs h;exact⟨x,w,by simp[bA,Tryz.underlying153,Ay.enc]⟩
theorem G2:TP.cellsOf 151=4:=by kernel_rfl
theorem ty151c(cs:List D)(h:HasTy TP 151 cs):∃x:As,x.Wf/\cs=[.str x.name,.int .i64 x.atV.el,.int .i64 x.atV.side,.int .i64 x.overlap]:=by
 obtain⟨h1,h2⟩:=h.struct_inv Tryz.underlying151;rw[G2]at h1;obtain⟨a0,a1,a2,a3,rfl⟩:=Jk h1;obtain⟨x0,e0,w0⟩:=(show HasTy TP 9 [a0]from HasTy.fld h2 (i:=0) rfl rfl rfl zt).str_inv Tryz.underlying9;replace e0:[a0]=[D.str x0]:=e0;simp only[cR,and_true]at e0;obtain⟨x1,w1,e1⟩:=Hm _ (show HasTy TP 128 [a1,a2]from HasTy.fld h2 (i:=1) rfl rfl rfl fp);replace e1:[a1,a2]=[D.int .i64 x1.el,D.int .i64 x1.side]:=e1;simp only[cR,and_true]at e1;obtain⟨f1x0,f1x1⟩:=e1;obtain⟨x2,e2,w2⟩:=(show HasTy TP 3 [a3]from HasTy.fld h2 (i:=2) rfl rfl rfl fB).int_inv Tryz.underlying3;replace e2:[a3]=[D.int .i64 x2]:=e2;simp only[cR,and_true]at e2;subst e0 f1x0 f1x1 e2;exact⟨⟨x0,x1,x2⟩,⟨w0,w1,w2⟩,rfl⟩
theorem ty151(cs:List D)(h:HasTy TP 151 cs):∃x:As,x.Wf/\bA TP 151 cs=x.enc:=by
 obtain⟨x,w,rfl⟩:=ty151c cs h;exact⟨x,w,by simp[bA,Tryz.underlying151,As.enc]⟩
theorem G0:TP.cellsOf 235=3:=by kernel_rfl
theorem D8{cs:List D}(h:cs.length=3):∃a0 a1 a2,cs=[a0,a1,a2]:=by
 match cs,h with
 |[a0,a1,a2],_=>exact⟨a0,a1,a2,rfl⟩
theorem ty235c(cs:List D)(h:HasTy TP 235 cs):∃x:Am,x.Wf/\cs=[.int .i64 x.id,.int .i64 x.el,.int .i64 x.offset]:=by
 obtain⟨h1,h2⟩:=h.struct_inv Tryz.underlying235;rw[G0]at h1;obtain⟨a0,a1,a2,rfl⟩:=D8 h1;obtain⟨x0,e0,w0⟩:=(show HasTy TP 3 [a0]from HasTy.fld h2 (i:=0) rfl rfl rfl fB).int_inv Tryz.underlying3;replace e0:[a0]=[D.int .i64 x0]:=e0;simp only[cR,and_true]at e0;obtain⟨x1,e1,w1⟩:=(show HasTy TP 3 [a1]from HasTy.fld h2 (i:=1) rfl rfl rfl fB).int_inv Tryz.underlying3;replace e1:[a1]=[D.int .i64 x1]:=e1;simp only[cR,and_true]at e1;obtain⟨x2,e2,w2⟩:=(show HasTy TP 3 [a2]from HasTy.fld h2 (i:=2) rfl rfl rfl fB).int_inv Tryz.underlying3;replace e2:[a2]=[D.int .i64 x2]:=e2;simp only[cR,and_true]at e2;subst e0 e1 e2;exact⟨⟨x0,x1,x2⟩,⟨w0,w1,w2⟩,rfl⟩
theorem ty235(cs:List D)(h:HasTy TP 235 cs):∃x:Am,x.Wf/\bA TP 235 cs=x.enc:=by
 obtain⟨x,w,rfl⟩:=ty235c cs h;exact⟨x,w,by simp[bA,Tryz.underlying235,Am.enc]⟩
theorem Jv:TP.cellsOf 28=6:=by kernel_rfl
theorem cells22:TP.cellsOf 22=1:=by kernel_rfl
theorem cells23:TP.cellsOf 23=1:=by kernel_rfl
theorem cells24:TP.cellsOf 24=1:=by kernel_rfl
theorem cells25:TP.cellsOf 25=1:=by kernel_rfl
theorem cells26:TP.cellsOf 26=1:=by kernel_rfl
theorem len_is6{cs:List D}(h:cs.length=6):∃a0 a1 a2 a3 a4 a5,cs=[a0,a1,a2,a3,a4,a5]:=by
 match cs,h with
 |[a0,a1,a2,a3,a4,a5],_=>exact⟨a0,a1,a2,a3,a4,a5,rfl⟩
theorem ty28c(cs:List D)(h:HasTy TP 28 cs):∃x:Aa,x.Wf/\cs=[.str x.name,.sl 1 (x.Ai.map D.str),.sl 7 (x.Ad.map An.enc),.sl 4 (x.joints.map Ay.enc),.sl 4 (x.Aj.map As.enc),.sl 3 (x.balises.map Am.enc)]:=by
 obtain⟨h1,h2⟩:=h.struct_inv Tryz.underlying28;rw[Jv]at h1;obtain⟨a0,a1,a2,a3,a4,a5,rfl⟩:=len_is6 h1;obtain⟨x0,e0,w0⟩:=(show HasTy TP 9 [a0]from HasTy.fld h2 (i:=0) rfl rfl rfl zt).str_inv Tryz.underlying9;replace e0:[a0]=[D.str x0]:=e0;simp only[cR,and_true]at e0;obtain⟨x1,e1,l1,m1⟩:=(show HasTy TP 22 [a1]from HasTy.fld h2 (i:=1) rfl rfl rfl cells22).list Tryz.underlying22 D.str (λs=>s.size<=reachBytes) (λcs _ h=>ty9 cs h);rw[zt]at e1;have w1:=qm l1 m1;replace e1:[a1]=[D.sl 1 (x1.map D.str)]:=e1;simp only[cR,and_true]at e1;obtain⟨x2,e2,l2,m2⟩:=(show HasTy TP 23 [a2]from HasTy.fld h2 (i:=2) rfl rfl rfl cells23).list Tryz.underlying23 An.enc An.Wf (λcs _ h=>ty141 cs h);rw[G3]at e2;have w2:=qm l2 m2;replace e2:[a2]=[D.sl 7 (x2.map An.enc)]:=e2;simp only[cR,and_true]at e2;obtain⟨x3,e3,l3,m3⟩:=(show HasTy TP 24 [a3]from HasTy.fld h2 (i:=3) rfl rfl rfl cells24).list Tryz.underlying24 Ay.enc Ay.Wf (λcs _ h=>ty153 cs h);rw[G1]at e3;have w3:=qm l3 m3;replace e3:[a3]=[D.sl 4 (x3.map Ay.enc)]:=e3;simp only[cR,and_true]at e3;obtain⟨x4,e4,l4,m4⟩:=(show HasTy TP 25 [a4]from HasTy.fld h2 (i:=4) rfl rfl rfl cells25).list Tryz.underlying25 As.enc As.Wf (λcs _ h=>ty151 cs h);rw[G2]at e4;have w4:=qm l4 m4;replace e4:[a4]=[D.sl 4 (x4.map As.enc)]:=e4;simp only[cR,and_true]at e4;obtain⟨x5,e5,l5,m5⟩:=(show HasTy TP 26 [a5]from HasTy.fld h2 (i:=5) rfl rfl rfl cells26).list Tryz.underlying26 Am.enc Am.Wf (λcs _ h=>ty235 cs h);rw[G0]at e5;have w5:=qm l5 m5;replace e5:[a5]=[D.sl 3 (x5.map Am.enc)]:=e5;simp only[cR,and_true]at e5;subst e0 e1 e2 e3 e4 e5;exact⟨⟨x0,x1,x2,x3,x4,x5⟩,⟨w0,w1,w2,w3,w4,w5⟩,rfl⟩
theorem Ju:TP.cellsOf 60=10:=by kernel_rfl
theorem len_is10{cs:List D}(h:cs.length=10):∃a0 a1 a2 a3 a4 a5 a6 a7 a8 a9,cs=[a0,a1,a2,a3,a4,a5,a6,a7,a8,a9]:=by
 match cs,h with
 |[a0,a1,a2,a3,a4,a5,a6,a7,a8,a9],_=>exact⟨a0,a1,a2,a3,a4,a5,a6,a7,a8,a9,rfl⟩
theorem ty60c(cs:List D)(h:HasTy TP 60 cs):∃x:Ao,x.Wf/\cs=[.int .i64 x.id,.str x.name,.int .i64 x.length,.int .i64 x.speed,.int .i64 x.accel,.int .i64 x.service,.int .i64 x.emergency,.int .i64 x.delay,.int .i64 x.const,.int .i64 x.rate]:=by
 obtain⟨h1,h2⟩:=h.struct_inv Tryz.underlying60;rw[Ju]at h1;obtain⟨a0,a1,a2,a3,a4,a5,a6,a7,a8,a9,rfl⟩:=len_is10 h1;obtain⟨x0,e0,w0⟩:=(show HasTy TP 3 [a0]from HasTy.fld h2 (i:=0) rfl rfl rfl fB).int_inv Tryz.underlying3;replace e0:[a0]=[D.int .i64 x0]:=e0;simp only[cR,and_true]at e0;obtain⟨x1,e1,w1⟩:=(show HasTy TP 9 [a1]from HasTy.fld h2 (i:=1) rfl rfl rfl zt).str_inv Tryz.underlying9;replace e1:[a1]=[D.str x1]:=e1;simp only[cR,and_true]at e1;obtain⟨x2,e2,w2⟩:=(show HasTy TP 3 [a2]from HasTy.fld h2 (i:=2) rfl rfl rfl fB).int_inv Tryz.underlying3;replace e2:[a2]=[D.int .i64 x2]:=e2;simp only[cR,and_true]at e2;obtain⟨x3,e3,w3⟩:=(show HasTy TP 3 [a3]from HasTy.fld h2 (i:=3) rfl rfl rfl fB).int_inv Tryz.underlying3;replace e3:[a3]=[D.int .i64 x3]:=e3;simp only[cR,and_true]at e3;obtain⟨x4,e4,w4⟩:=(show HasTy TP 3 [a4]from HasTy.fld h2 (i:=4) rfl rfl rfl fB).int_inv Tryz.underlying3;replace e4:[a4]=[D.int .i64 x4]:=e4;simp only[cR,and_true]at e4;obtain⟨x5,e5,w5⟩:=(show HasTy TP 3 [a5]from HasTy.fld h2 (i:=5) rfl rfl rfl fB).int_inv Tryz.underlying3;replace e5:[a5]=[D.int .i64 x5]:=e5;simp only[cR,and_true]at e5;obtain⟨x6,e6,w6⟩:=(show HasTy TP 3 [a6]from HasTy.fld h2 (i:=6) rfl rfl rfl fB).int_inv Tryz.underlying3;replace e6:[a6]=[D.int .i64 x6]:=e6;simp only[cR,and_true]at e6;obtain⟨x7,e7,w7⟩:=(show HasTy TP 3 [a7]from HasTy.fld h2 (i:=7) rfl rfl rfl fB).int_inv Tryz.underlying3;replace e7:[a7]=[D.int .i64 x7]:=e7;simp only[cR,and_true]at e7;obtain⟨x8,e8,w8⟩:=(show HasTy TP 3 [a8]from HasTy.fld h2 (i:=8) rfl rfl rfl fB).int_inv Tryz.underlying3;replace e8:[a8]=[D.int .i64 x8]:=e8;simp only[cR,and_true]at e8;obtain⟨x9,e9,w9⟩:=(show HasTy TP 3 [a9]from HasTy.fld h2 (i:=9) rfl rfl rfl fB).int_inv Tryz.underlying3;replace e9:[a9]=[D.int .i64 x9]:=e9;simp only[cR,and_true]at e9;subst e0 e1 e2 e3 e4 e5 e6 e7 e8 e9;exact⟨⟨x0,x1,x2,x3,x4,x5,x6,x7,x8,x9⟩,⟨w0,w1,w2,w3,w4,w5,w6,w7,w8,w9⟩,rfl⟩
theorem ty60(cs:List D)(h:HasTy TP 60 cs):∃x:Ao,x.Wf/\bA TP 60 cs=x.enc:=by
 obtain⟨x,w,rfl⟩:=ty60c cs h;exact⟨x,w,by simp[bA,Tryz.underlying60,Ao.enc]⟩
theorem G4:TP.cellsOf 120=3:=by kernel_rfl
theorem ty120c(cs:List D)(h:HasTy TP 120 cs):∃x:Ae,x.Wf/\cs=[.int .i64 x.el,.int .i64 x.inV,.int .i64 x.out]:=by
 obtain⟨h1,h2⟩:=h.struct_inv Tryz.underlying120;rw[G4]at h1;obtain⟨a0,a1,a2,rfl⟩:=D8 h1;obtain⟨x0,e0,w0⟩:=(show HasTy TP 3 [a0]from HasTy.fld h2 (i:=0) rfl rfl rfl fB).int_inv Tryz.underlying3;replace e0:[a0]=[D.int .i64 x0]:=e0;simp only[cR,and_true]at e0;obtain⟨x1,e1,w1⟩:=(show HasTy TP 3 [a1]from HasTy.fld h2 (i:=1) rfl rfl rfl fB).int_inv Tryz.underlying3;replace e1:[a1]=[D.int .i64 x1]:=e1;simp only[cR,and_true]at e1;obtain⟨x2,e2,w2⟩:=(show HasTy TP 3 [a2]from HasTy.fld h2 (i:=2) rfl rfl rfl fB).int_inv Tryz.underlying3;replace e2:[a2]=[D.int .i64 x2]:=e2;simp only[cR,and_true]at e2;subst e0 e1 e2;exact⟨⟨x0,x1,x2⟩,⟨w0,w1,w2⟩,rfl⟩
theorem ty120(cs:List D)(h:HasTy TP 120 cs):∃x:Ae,x.Wf/\bA TP 120 cs=x.enc:=by
 obtain⟨x,w,rfl⟩:=ty120c cs h;exact⟨x,w,by simp[bA,Tryz.underlying120,Ae.enc]⟩
theorem Js:TP.cellsOf 87=3:=by kernel_rfl
theorem cells71:TP.cellsOf 71=1:=by kernel_rfl
theorem ty87c(cs:List D)(h:HasTy TP 87 cs):∃x:A3,x.Wf/\cs=[.sl 3 (x.steps.map Ae.enc),.int .i64 x.head,.int .i64 x.length]:=by
 obtain⟨h1,h2⟩:=h.struct_inv Tryz.underlying87;rw[Js]at h1;obtain⟨a0,a1,a2,rfl⟩:=D8 h1;obtain⟨x0,e0,l0,m0⟩:=(show HasTy TP 71 [a0]from HasTy.fld h2 (i:=0) rfl rfl rfl cells71).list Tryz.underlying71 Ae.enc Ae.Wf (λcs _ h=>ty120 cs h);rw[G4]at e0;have w0:=qm l0 m0;replace e0:[a0]=[D.sl 3 (x0.map Ae.enc)]:=e0;simp only[cR,and_true]at e0;obtain⟨x1,e1,w1⟩:=(show HasTy TP 3 [a1]from HasTy.fld h2 (i:=1) rfl rfl rfl fB).int_inv Tryz.underlying3;replace e1:[a1]=[D.int .i64 x1]:=e1;simp only[cR,and_true]at e1;obtain⟨x2,e2,w2⟩:=(show HasTy TP 3 [a2]from HasTy.fld h2 (i:=2) rfl rfl rfl fB).int_inv Tryz.underlying3;replace e2:[a2]=[D.int .i64 x2]:=e2;simp only[cR,and_true]at e2;subst e0 e1 e2;exact⟨⟨x0,x1,x2⟩,⟨w0,w1,w2⟩,rfl⟩
theorem ty87(cs:List D)(h:HasTy TP 87 cs):∃x:A3,x.Wf/\bA TP 87 cs=x.enc:=by
 obtain⟨x,w,rfl⟩:=ty87c cs h;exact⟨x,w,by simp[bA,Tryz.underlying87,A3.enc]⟩
theorem cells32:TP.cellsOf 32=8:=by kernel_rfl
theorem cells29:TP.cellsOf 29=1:=by kernel_rfl
theorem cells30:TP.cellsOf 30=1:=by kernel_rfl
theorem len_is8{cs:List D}(h:cs.length=8):∃a0 a1 a2 a3 a4 a5 a6 a7,cs=[a0,a1,a2,a3,a4,a5,a6,a7]:=by
 match cs,h with
 |[a0,a1,a2,a3,a4,a5,a6,a7],_=>exact⟨a0,a1,a2,a3,a4,a5,a6,a7,rfl⟩
theorem ty32c(cs:List D)(h:HasTy TP 32 cs):∃x:Fd,x.Wf/\cs=[.str x.layout.name,.sl 1 (x.layout.Ai.map D.str),.sl 7 (x.layout.Ad.map An.enc),.sl 4 (x.layout.joints.map Ay.enc),.sl 4 (x.layout.Aj.map As.enc),.sl 3 (x.layout.balises.map Am.enc),.sl 10 (x.trains.map Ao.enc),.sl 3 (x.bodies.map A3.enc)]:=by
 obtain⟨h1,h2⟩:=h.struct_inv Tryz.underlying32;rw[cells32]at h1;obtain⟨a0,a1,a2,a3,a4,a5,a6,a7,rfl⟩:=len_is8 h1;obtain⟨x0,w0,e0⟩:=ty28c _ (show HasTy TP 28 [a0,a1,a2,a3,a4,a5]from HasTy.fld h2 (i:=0) rfl rfl rfl Jv);replace e0:[a0,a1,a2,a3,a4,a5]=[D.str x0.name,D.sl 1 (x0.Ai.map D.str),D.sl 7 (x0.Ad.map An.enc),D.sl 4 (x0.joints.map Ay.enc),D.sl 4 (x0.Aj.map As.enc),D.sl 3 (x0.balises.map Am.enc)]:=e0;simp only[cR,and_true]at e0;obtain⟨f0x0,f0x1,f0x2,f0x3,f0x4,f0x5⟩:=e0;obtain⟨x1,e1,l1,m1⟩:=(show HasTy TP 29 [a6]from HasTy.fld h2 (i:=1) rfl rfl rfl cells29).list Tryz.underlying29 Ao.enc Ao.Wf (λcs _ h=>ty60 cs h);rw[Ju]at e1;have w1:=qm l1 m1;replace e1:[a6]=[D.sl 10 (x1.map Ao.enc)]:=e1;simp only[cR,and_true]at e1;obtain⟨x2,e2,l2,m2⟩:=(show HasTy TP 30 [a7]from HasTy.fld h2 (i:=2) rfl rfl rfl cells30).list Tryz.underlying30 A3.enc A3.Wf (λcs _ h=>ty87 cs h);rw[Js]at e2;have w2:=qm l2 m2;replace e2:[a7]=[D.sl 3 (x2.map A3.enc)]:=e2;simp only[cR,and_true]at e2;subst f0x0 f0x1 f0x2 f0x3 f0x4 f0x5 e1 e2;exact⟨⟨x0,x1,x2⟩,⟨w0,w1,w2⟩,rfl⟩
theorem ty32(cs:List D)(h:HasTy TP 32 cs):∃x:Fd,x.Wf/\bA TP 32 cs=x.enc:=by
 obtain⟨x,w,rfl⟩:=ty32c cs h;exact⟨x,w,by simp[bA,Tryz.underlying32,Fd.enc]⟩
theorem ty37(cs:List D)(h:HasTy TP 37 cs):∃l:(List Int),(λl=>l.length<=reachBytes/\∀x∈l,bD x) l/\bA TP 37 cs=(λ(l:List Int)=>D.sl 1 (l.map (D.int .i64))) l:=by
 obtain⟨l,rfl,h1,h2⟩:=h.list Tryz.underlying37 (D.int .i64) bD (λcs _ h=>ty3 cs h);exact⟨l,⟨h1,h2⟩,by simp[bA,Tryz.underlying37,fB]⟩
theorem cells37:TP.cellsOf 37=1:=by kernel_rfl
theorem ty33(cs:List D)(h:HasTy TP 33 cs):∃l:(List (List Int)),(λl=>l.length<=reachBytes/\∀x∈l,(λl=>l.length<=reachBytes/\∀x∈l,bD x) x) l/\bA TP 33 cs=(λ(l:List (List Int))=>D.sl 1 (l.map (λ(l:List Int)=>D.sl 1 (l.map (D.int .i64))))) l:=by
 obtain⟨l,rfl,h1,h2⟩:=h.list Tryz.underlying33 (λ(l:List Int)=>D.sl 1 (l.map (D.int .i64))) (λl=>l.length<=reachBytes/\∀x∈l,bD x) (λcs _ h=>ty37 cs h);exact⟨l,⟨h1,h2⟩,by simp[bA,Tryz.underlying33,cells37]⟩
theorem ty4(cs:List D)(h:HasTy TP 4 cs):∃x:Bool,(λ_=>True) x/\bA TP 4 cs=D.bool x:=by
 obtain⟨x,rfl⟩:=h.bool_inv Tryz.underlying4;exact⟨x,trivial,by simp[bA,Tryz.underlying4]⟩
theorem Jt:TP.cellsOf 62=5:=by kernel_rfl
theorem cells4:TP.cellsOf 4=1:=by kernel_rfl
theorem len_is5{cs:List D}(h:cs.length=5):∃a0 a1 a2 a3 a4,cs=[a0,a1,a2,a3,a4]:=by
 match cs,h with
 |[a0,a1,a2,a3,a4],_=>exact⟨a0,a1,a2,a3,a4,rfl⟩
theorem ty62c(cs:List D)(h:HasTy TP 62 cs):∃x:Aq,x.Wf/\cs=[.int .i64 x.min,.int .i64 x.speed,.int .i64 x.mode,.int .i64 x.accepted,.bool x.whole]:=by
 obtain⟨h1,h2⟩:=h.struct_inv Tryz.underlying62;rw[Jt]at h1;obtain⟨a0,a1,a2,a3,a4,rfl⟩:=len_is5 h1;obtain⟨x0,e0,w0⟩:=(show HasTy TP 3 [a0]from HasTy.fld h2 (i:=0) rfl rfl rfl fB).int_inv Tryz.underlying3;replace e0:[a0]=[D.int .i64 x0]:=e0;simp only[cR,and_true]at e0;obtain⟨x1,e1,w1⟩:=(show HasTy TP 3 [a1]from HasTy.fld h2 (i:=1) rfl rfl rfl fB).int_inv Tryz.underlying3;replace e1:[a1]=[D.int .i64 x1]:=e1;simp only[cR,and_true]at e1;obtain⟨x2,e2,w2⟩:=(show HasTy TP 3 [a2]from HasTy.fld h2 (i:=2) rfl rfl rfl fB).int_inv Tryz.underlying3;replace e2:[a2]=[D.int .i64 x2]:=e2;simp only[cR,and_true]at e2;obtain⟨x3,e3,w3⟩:=(show HasTy TP 3 [a3]from HasTy.fld h2 (i:=3) rfl rfl rfl fB).int_inv Tryz.underlying3;replace e3:[a3]=[D.int .i64 x3]:=e3;simp only[cR,and_true]at e3;obtain⟨x4,e4⟩:=(show HasTy TP 4 [a4]from HasTy.fld h2 (i:=4) rfl rfl rfl cells4).bool_inv Tryz.underlying4;have w4:=trivial;replace e4:[a4]=[D.bool x4]:=e4;simp only[cR,and_true]at e4;subst e0 e1 e2 e3 e4;exact⟨⟨x0,x1,x2,x3,x4⟩,⟨w0,w1,w2,w3,w4⟩,rfl⟩
theorem ty62(cs:List D)(h:HasTy TP 62 cs):∃x:Aq,x.Wf/\bA TP 62 cs=x.enc:=by
 obtain⟨x,w,rfl⟩:=ty62c cs h;exact⟨x,w,by simp[bA,Tryz.underlying62,Aq.enc]⟩
theorem ty34(cs:List D)(h:HasTy TP 34 cs):∃l:(List Aq),(λl=>l.length<=reachBytes/\∀x∈l,Aq.Wf x) l/\bA TP 34 cs=(λ(l:List Aq)=>D.sl 5 (l.map Aq.enc)) l:=by
 obtain⟨l,rfl,h1,h2⟩:=h.list Tryz.underlying34 Aq.enc Aq.Wf (λcs _ h=>ty62 cs h);exact⟨l,⟨h1,h2⟩,by simp[bA,Tryz.underlying34,Jt]⟩
theorem ty35(cs:List D)(h:HasTy TP 35 cs):∃l:(List Bool),(λl=>l.length<=reachBytes/\∀x∈l,(λ_=>True) x) l/\bA TP 35 cs=(λ(l:List Bool)=>D.sl 1 (l.map D.bool)) l:=by
 obtain⟨l,rfl,h1,h2⟩:=h.list Tryz.underlying35 D.bool (λ_=>True) (λcs _ h=>ty4 cs h);exact⟨l,⟨h1,h2⟩,by simp[bA,Tryz.underlying35,cells4]⟩
end Go.Proofs.YtjmpojlgegloeaaGreatDoor
