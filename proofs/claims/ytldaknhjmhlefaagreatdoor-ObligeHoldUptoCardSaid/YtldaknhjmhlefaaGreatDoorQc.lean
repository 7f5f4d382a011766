/- A part of the proof. No condition. -/
import Derived.Test.YtldaknhjmhlefaaGreatDoorQb
set_option linter.unusedSimpArgs false
set_option linter.unusedVariables false

set_option maxHeartbeats 4000000
namespace Go.TL
variable {C:Ctx}{st:St}{g:Gh}{a:Act}{w:World}{P:Program}
inductive Kt where
  |s (y:Code)
  |b (i:Nat)
def post(C:Ctx):List Kt->(Exit->St->Prop)->Exit->St->Prop
  |[],Q=>Q
  |.s y::ks,Q=>yI (λst=>TWp C y st (post C ks Q)) (post C ks Q)
  |.b i::ks,Q=>wB i (post C ks Q)
def pn(C:Ctx)(ks:List Kt)(Q:Exit->St->Prop):St->Prop:=post C ks Q .normal
inductive Md where
  |kc (x:Code) (fr:Fr) (hp:List Blk) (ks:List Kt)
  |ko (ops:Array Oper) (l:List Oper) (fr:Fr) (hp:List Blk) (ks:List Kt)
  |kx (e:Exit) (fr:Fr) (hp:List Blk) (ks:List Kt)
  |kn
def Md.goal(C:Ctx)(Q:Exit->St->Prop):Md->Prop
  |.kc x fr hp ks=>TWp C x ⟨fr,hp⟩ (post C ks Q)
  |.ko ops l fr hp ks=>eA C ops l ⟨fr,hp⟩ (pn C ks Q)
  |.kx e fr hp ks=>post C ks Q e ⟨fr,hp⟩
  |.kn=>False
def stX(fr:Fr)(hp:List Blk)(e:Exit):List Kt->Md
  |[]=>.kn
  |.s y::ks=>match e with
    |.normal=>.kc y fr hp ks
    |e=>.kx e fr hp ks
  |.b i::ks=>match e with
    |.exit j=>match Nat.beq j i with
      |true=>.kx .normal fr hp ks
      |false=>.kx (.exit j) fr hp ks
    |e=>.kx e fr hp ks
def stO(T:Tab)(n:Nat)(ops:Array Oper)(fr:Fr)(hp:List Blk)(ks:List Kt):List Oper->Md
  |[]=>.kx .normal fr hp ks
  |o::l=>match qE T n ops o fr hp with
    |some (fr',hp')=>.ko ops l fr' hp' ks
    |none=>.kn
def stS(fr:Fr)(hp:List Blk)(ks:List Kt)(y:Code):Code->Md
  |.region id ops d=>match d with
    |false=>.ko ops ops.toList fr hp (.s y::ks)
    |true=>.kc (.region id ops true) fr hp (.s y::ks)
  |x=>.kc x fr hp (.s y::ks)
def stC(fr:Fr)(hp:List Blk)(ks:List Kt):Code->Md
  |.seq x y=>stS fr hp ks y x
  |.region _ ops d=>match d with
    |false=>.ko ops ops.toList fr hp ks
    |true=>.kn
  |.skip=>.kx .normal fr hp ks
  |.ret=>.kx .ret fr hp ks
  |.exit i=>.kx (.exit i) fr hp ks
  |.block i x=>.kc x fr hp (.b i::ks)
  |_=>.kn
def stp(T:Tab)(n:Nat):Md->Md
  |.kc x fr hp ks=>stC fr hp ks x
  |.ko ops l fr hp ks=>stO T n ops fr hp ks l
  |.kx e fr hp ks=>stX fr hp e ks
  |.kn=>.kn
def run(T:Tab)(n:Nat):Nat->Md->Md
  |0,m=>m
  |k+1,m=>run T n k (stp T n m)
theorem stX_ok{Q:Exit->St->Prop}{fr:Fr}{hp:List Blk}{e:Exit}{ks:List Kt}(h:(stX fr hp e ks).goal C Q):post C ks Q e ⟨fr,hp⟩:=by
  cases ks with
  |nil=>exact h.elim
  |cons k ks=>
    cases k with
    |s y=>cases e<;>exact h
    |b i=>
      cases e with
      |exit j=>
        simp only[stX]at h;show wB i (post C ks Q) (.exit j) _;simp only[wB];split at h;rename_i hj;rw[if_pos (fC hj)];exact h;rename_i hj;rw[if_neg (λe=>by rw[e,Nat.beq_refl]at hj;cases hj)];exact h
      |_=>exact h
theorem stS_ok{Q:Exit->St->Prop}{fr:Fr}{hp:List Blk}{ks:List Kt}{y x:Code}(h:(stS fr hp ks y x).goal C Q):TWp C (.seq x y) ⟨fr,hp⟩ (post C ks Q):=by
  cases x with
  |region id ops d=>cases d with
    |false=>exact RS h
    |true=>exact TQ h
  |_=>exact TQ h
theorem stC_ok{Q:Exit->St->Prop}{fr:Fr}{hp:List Blk}{ks:List Kt}{x:Code}(h:(stC fr hp ks x).goal C Q):TWp C x ⟨fr,hp⟩ (post C ks Q):=by
  cases x with
  |seq x y=>exact stS_ok h
  |region id ops d=>cases d with
    |false=>exact TG h
    |true=>exact h.elim
  |skip=>exact TS h
  |ret=>exact TR h
  |exit i=>exact vl h
  |block i x=>exact TB h
  |_=>exact h.elim
theorem stp_ok{T:Tab}(hT:TabOk C.P T){Q:Exit->St->Prop}{m:Md}(h:(stp T C.n m).goal C Q):m.goal C Q:=by
  cases m with
  |kc x fr hp ks=>exact stC_ok h
  |ko ops l fr hp ks=>
    cases l with
    |nil=>exact TN h
    |cons o l=>
      simp only[stp,stO]at h;split at h;rename_i fr' hp' he;exact SA hT he h;exact h.elim
  |kx e fr hp ks=>exact stX_ok h
  |kn=>exact h.elim
theorem run_ok{T:Tab}(hT:TabOk C.P T){Q:Exit->St->Prop}:∀(k:Nat)(m:Md),(run T C.n k m).goal C Q->m.goal C Q
  |0,_,h=>h
  |k+1,_,h=>stp_ok hT (run_ok hT k _ h)
theorem cj{T:Tab}(hT:TabOk C.P T){Q:Exit->St->Prop}{k:Nat}{m m':Md}(h:run T C.n k m=m')(hm:m'.goal C Q):m.goal C Q:=run_ok hT k m (h ▸ hm)
theorem bR{id:Nat}{ops:Array Oper}{y:Code}{ks:List Kt}{Q:Exit->St->Prop}(hm:C.P.follows .mixedOrders=true)(h:TDr C ops (pn C (.s y::ks) Q) ops.toList st.fr st.hp []):TWp C (.seq (.region id ops true) y) st (post C ks Q):=O0 hm h
theorem qAQ{id:Nat}{ops:Array Oper}{y:Code}{Q:Exit->St->Prop}(hm:C.P.follows .mixedOrders=true)(h:TDr C ops (pn C [.s y] Q) ops.toList st.fr st.hp []):TWp C (.seq (.region id ops true) y) st Q:=O0 hm h
theorem dP{id:Nat}{ops:Array Oper}{ks:List Kt}{Q:Exit->St->Prop}(hm:C.P.follows .mixedOrders=true)(h:TDr C ops (pn C ks Q) ops.toList st.fr st.hp []):TWp C (.region id ops true) st (post C ks Q):=Hj hm h
theorem gT{id:Nat}{ops:Array Oper}{Q:Exit->St->Prop}(hm:C.P.follows .mixedOrders=true)(h:TDr C ops (pn C [] Q) ops.toList st.fr st.hp []):TWp C (.region id ops true) st Q:=Hj hm h
theorem bK{α:Type}{p:Prop}[Decidable p]{x0 y0:Option α}{r:α}{o:Operand}{x y:Code}{Q:Exit->St->Prop}(hm:(if p then x0 else y0)=some r)(hc:st.fr.ev o=.d (.bool (decide p)))
    (h1:decide p=true->x0=some r->TWp C x st Q) (h2:decide p=false->y0=some r->TWp C y st Q):TWp C (.cond o x y) st Q:=
  TC _ hc (λh=>h1 h (JT h hm)) (λh=>h2 h (JF h hm))
theorem qV{α:Type}{p:Prop}[Decidable p]{x0 y0:Option α}{r:α}{o:Operand}{x y:Code}{Q:Exit->St->Prop}(hm:(if p then y0 else x0)=some r)(hc:st.fr.ev o=.d (.bool (!decide p)))
    (h1:(!decide p)=true->x0=some r->TWp C x st Q) (h2:(!decide p)=false->y0=some r->TWp C y st Q):TWp C (.cond o x y) st Q:=
  TC _ hc (λh=>h1 h (cv h hm)) (λh=>h2 h (cw h hm))
theorem cI{α:Type}{p:Bool}{x0 y0:Option α}{r:α}{o:Operand}{x y:Code}{Q:Exit->St->Prop}(hm:(if p=true then x0 else y0)=some r)(hc:st.fr.ev o=.d (.bool p))
    (h1:p=true->x0=some r->TWp C x st Q) (h2:p=false->y0=some r->TWp C y st Q):TWp C (.cond o x y) st Q:=
  TC _ hc (λh=>h1 h (JA h hm)) (λh=>h2 h (JB h hm))
/- A call, and the model's call with it. -/
section calls
variable {ops:Array Oper}{ty:TypeId}{pos:String}{after:Array Edge}{gd:Option (Nat×Bool)}{l:List Oper}{K:St->Prop}{fr:Fr}{hp:List Blk}{acc:List Rec}{d:Nat}{F:FuncId}{f:Operand}{xs:Array Operand}{ts:Array TypeId}{ds:List D}{α β:Type}{m:Option α}{k:α->Option β}{o:β}{e:α->D}
theorem c_N(hm:aD m k=some o)(hf:∀{x},m=some x->RetN C.P F ds (e x))(hd:decide (d<C.n)=true)(hon:H8 ops gd fr=some true)(he:fr.ev f=.d (.fn F))(hx:xs.toList.map fr.ev=ds.map .d)
    (hk:∀x,k x=some o->eA C ops l ⟨(d,.d (e x))::fr,hp⟩ K):eA C ops (⟨some d,.call { callee:=.value f,args:=xs,argTypes:=ts },ty,pos,after,gd⟩::l) ⟨fr,hp⟩ K:=by
  obtain⟨x,h1,h2⟩:=BI hm;exact SX hd hon (RN rfl he (tO hx) (hf h1)) (hk x h2)
theorem c_D(hm:aD m k=some o)(hf:∀{x},m=some x->RetD C.P F ds (e x))(hd:decide (d<C.n)=true)(hon:H8 ops gd fr=some true)(he:fr.ev f=.d (.fn F))(hx:xs.toList.map fr.ev=ds.map .d)
    (hk:∀x,k x=some o->eA C ops l ⟨(d,.d (e x))::fr,hp⟩ K):eA C ops (⟨some d,.call { callee:=.value f,args:=xs,argTypes:=ts },ty,pos,after,gd⟩::l) ⟨fr,hp⟩ K:=by
  obtain⟨x,h1,h2⟩:=BI hm;exact SX hd hon (RD rfl he hx (hf h1)) (hk x h2)
theorem cd_N(rs:List Nat)(hm:aD m k=some o)(hf:∀{x},m=some x->RetN C.P F ds (e x))(hd:decide (d<C.n)=true)(hon:H8 ops gd fr=some true)(he:fr.ev f=.d (.fn F))(hx:xs.toList.map fr.ev=ds.map .d)
    (hk:∀x,k x=some o->TDr C ops K l ((d,.d (e x))::fr) hp (acc++[⟨true,d,.d (e x),rs,[]⟩])):TDr C ops K (⟨some d,.call { callee:=.value f,args:=xs,argTypes:=ts },ty,pos,after,gd⟩::l) fr hp acc:=by
  obtain⟨x,h1,h2⟩:=BI hm;exact DX rs hd hon (RN rfl he (tO hx) (hf h1)) (hk x h2)
theorem cd_D(rs:List Nat)(hm:aD m k=some o)(hf:∀{x},m=some x->RetD C.P F ds (e x))(hd:decide (d<C.n)=true)(hon:H8 ops gd fr=some true)(he:fr.ev f=.d (.fn F))(hx:xs.toList.map fr.ev=ds.map .d)
    (hk:∀x,k x=some o->TDr C ops K l ((d,.d (e x))::fr) hp (acc++[⟨true,d,.d (e x),rs,[]⟩])):TDr C ops K (⟨some d,.call { callee:=.value f,args:=xs,argTypes:=ts },ty,pos,after,gd⟩::l) fr hp acc:=by
  obtain⟨x,h1,h2⟩:=BI hm;exact DX rs hd hon (RD rfl he hx (hf h1)) (hk x h2)
end calls
theorem bD{α:Type}{f:α->D}{x r:α}{rs:List ResultVar}{st:St}(hm:some x=some r)(h:B8 st.fr rs=some (.d (f x))):EndsS P rs (f r) st:=by
  cases hm;exact EndsS.one _ h (.d _) (.refl _)
theorem oW{α:Type}{x z:α}(ids:List Nat){ks:List Nat}{st:St}{k:Nat}{S:α->St}(hm:some x=some z)(h1:mX ids=true)(h2:∀i,i<k->ids[i]?=some i)(h3:st.canon ks ids=S x):
    ∃j ids',z=j/\mX ids'=true/\(∀i,i<k->ids'[i]?=some i)/\st.canon ks ids'=S j:=⟨x,ids,(cC hm).symm,h1,h2,h3⟩
theorem bI{α:Type}{x z:α}(ids:List Nat){ks:List Nat}{st:St}{S:α->St}(hm:some x=some z)(h1:mX ids=true)(h3:st.canon ks ids=S x):
    ∃j ids',z=j/\mX ids'=true/\(∀i,i<0->ids'[i]?=some i)/\st.canon ks ids'=S j:=⟨x,ids,(cC hm).symm,h1,λi hi=>absurd hi (mQ i),h3⟩
theorem uK{α β:Type}{x:α}{z:α ⊕ β}(ids:List Nat){ks:List Nat}{st:St}{k:Nat}{S:α->St}(hm:some (.inl x)=some z)(h1:mX ids=true)(h2:∀i,i<k->ids[i]?=some i)(h3:st.canon ks ids=S x):
    ∃j ids',z=.inl j/\mX ids'=true/\(∀i,i<k->ids'[i]?=some i)/\st.canon ks ids'=S j:=⟨x,ids,(cC hm).symm,h1,h2,h3⟩
theorem bU{α β:Type}{x:α}{z:α ⊕ β}(ids:List Nat){ks:List Nat}{st:St}{S:α->St}(hm:some (.inl x)=some z)(h1:mX ids=true)(h3:st.canon ks ids=S x):
    ∃j ids',z=.inl j/\mX ids'=true/\(∀i,i<0->ids'[i]?=some i)/\st.canon ks ids'=S j:=⟨x,ids,(cC hm).symm,h1,λi hi=>absurd hi (mQ i),h3⟩
section fz
variable {C:Ctx}{T:Tab}{ops:Array Oper}{op:Op}{ty:TypeId}{pos:String}{after:Array Edge}{gd:Option (Nat×Bool)}{l:List Oper}{K:St->Prop}{fr:Fr}{hp:List Blk}{acc:List Rec}{d:Nat}{v:AV}{α:Type}{f:α->D}{xs:List α}
theorem bN(h:(decide (d<C.n),H8 ops gd fr)=(true,some true))(hr:RdOk C ⟨some d,op,ty,pos,after,gd⟩ fr.ev hp v)(k:eA C ops l ⟨(d,v)::fr,hp⟩ K):eA C ops (⟨some d,op,ty,pos,after,gd⟩::l) ⟨fr,hp⟩ K:=
  SX (cV h).1 (cV h).2 hr k
theorem aV(rs:List Nat)(h:(decide (d<C.n),H8 ops gd fr)=(true,some true))(hr:RdOk C ⟨some d,op,ty,pos,after,gd⟩ fr.ev (Ib rs hp) v)(k:TDr C ops K l ((d,v)::fr) hp (acc++[⟨true,d,v,rs,[]⟩])):TDr C ops K (⟨some d,op,ty,pos,after,gd⟩::l) fr hp acc:=
  DX rs (cV h).1 (cV h).2 hr k
theorem aW{t e sz by':Nat}{a:Operand}(hT:TabOk C.P T)(h:(decide (d<C.n),H8 ops gd fr,lk T.sel t,fr.ev a)=(true,some true,some (e,sz,by'),.d (.sl sz (xs.map f))))
    (k:eA C ops l ⟨(d,.d (.int .i64 (xs.length:Int)))::fr,hp⟩ K):eA C ops (⟨some d,.call { callee:=.builtin .len,args:=#[a],argTypes:=#[t] },ty,pos,after,gd⟩::l) ⟨fr,hp⟩ K:=by
  simp only[tI]at h;exact SX h.1 h.2.1 (yD hT rfl h.2.2.1 h.2.2.2) k
theorem bF{op:BinOp}{t t':TypeId}{x y:Operand}{m n r:Int}(h:(decide (d<C.n),H8 ops gd fr,fr.ev x,fr.ev y,Wp op m n)=(true,some true,.d (.int .i64 m),.d (.int .i64 n),some r))(hb:bH r)
    (k:eA C ops l ⟨(d,.d (.int .i64 r))::fr,hp⟩ K):eA C ops (⟨some d,.binOp op t x y t',ty,pos,after,gd⟩::l) ⟨fr,hp⟩ K:=by
  simp only[tI]at h;exact SX h.1 h.2.1 (tL rfl h.2.2.1 h.2.2.2.1 h.2.2.2.2 hb) k
theorem dN{t e sz by':Nat}{a b:Operand}{j:IntKind}{i:Int}{x:α}(hT:TabOk C.P T)(h:(decide (d<C.n),H8 ops gd fr,lk T.sel t,fr.ev a,fr.ev b)=(true,some true,some (e,sz,by'),.d (.sl sz (xs.map f)),.d (.int j i)))
    (hx:0<=i/\xs[i.toNat]?=some x) (k:eA C ops l ⟨(d,.d (.ptr (f x) 0))::fr,hp⟩ K):eA C ops (⟨some d,.indexAddr t a b,ty,pos,after,gd⟩::l) ⟨fr,hp⟩ K:=by
  simp only[tI]at h;exact SX h.1 h.2.1 (eW hT rfl h.2.2.1 h.2.2.2.1 h.2.2.2.2 hx) k
theorem bZ{f : Operand}{xs : Array Operand}{ts : Array TypeId}{F : FuncId}{c : AV}{cs : List AV}(ids : List Nat){args : List AV}{r : AV}{hh : List Blk}(hret : Ret C.P F hh (fun _ => false) args r hh)
    (h : (decide (d < C.n), H8 ops gd fr, r.isRef, AV.mapRef (fwd ids 0) r, (fun n => AV.mapRef (fwd ids n) r), fr.ev f, fw c, mX ids, (ids.all fun j => eD hp j), (ids.map fun j => ((hp.getD j .dead).mapRef (toName (cE ids))).mapRef (fwd ids 0)), ((xs.toList.map fr.ev) ++ cs).map (AV.mapRef (toName (cE ids))), uC ids hp)
      = (true,some true,false,r,(λ_=>AV.mapRef (fwd ids 0) r),c,some (F,cs),true,true,(ids.map λj=>hp.getD j .dead),args,hh))
    (k:eA C ops l ⟨(d,r)::fr,hp⟩ K):eA C ops (⟨some d,.call { callee:=.value f,args:=xs,argTypes:=ts },ty,pos,after,gd⟩::l) ⟨fr,hp⟩ K:=by
  simp only[tI]at h;obtain⟨h1,h2,h3,h4,h5,h6,h7,h8,h9,h10,h11,h12⟩:=h;exact SX h1 h2 (bJ ids ⟨h3,h4,λn=>congrFun h5 n⟩ rfl h6 h7 (lQ h8) h9 (aY h10) h11 h12 hret) k
theorem dO{t e sz by' n:Nat}{parts:Array (Nat×Operand)}{z:Value}(ls:List Operand)(hT:TabOk C.P T){ds:List D}
    (h:(decide (d<C.n),H8 ops gd fr,lk T.sel t,parts.toList,Ya (ls.map fr.ev),Nat.beq ds.length n,(ds.all λd=>Nat.beq d.cells.length sz),Nat.ble (n*sz) 16777216)=(true,some true,some (e,sz,by'),(ls.zipIdx 0).map (λx=>(x.2,x.1)),some ds,true,true,true))
    (hz:(C.P.info? e).bind (·.zero)=some z) (k:eA C ops l ⟨(d,.d (.sl sz ds))::fr,hp⟩ K):eA C ops (⟨some d,.buildSlice t n parts,ty,pos,after,gd⟩::l) ⟨fr,hp⟩ K:=by
  simp only[tI]at h;obtain⟨h1,h2,h3,h4,h5,h6,h7,h8⟩:=h;exact SX h1 h2 (nD ls hT rfl h3 hz h4 h5 h6 h7 h8) k
theorem aC{c:Code}{Q:Exit->St->Prop}{fr fr':Fr}{hp hp':List Blk}(ks:List Nat)(h:(yx fr ks,Q9 hp)=(some fr',some hp'))(k:TWp C c ⟨fr',hp'⟩ Q):TWp C c ⟨fr,hp⟩ Q:=
  WN ks (cV h).1 (cV h).2 k
theorem aX{c:Code}{Q:Exit->St->Prop}{σ ρ:Type}{f:σ->Option (σ ⊕ ρ)}{s0:σ}{o:ρ}(hm:bB f s0=some o){fr:Fr}{hp:List Blk}(var:σ->Fr)(chg:σ->List (Nat×Blk))(vk ik ids:List Nat){inv:Fr}{hp0:List Blk}(hk:∀i,i<C.k->ids[i]?=some i)
    (h:(mX ids,yx fr ik,Fr.mapRef (toName (cE ids)) inv,Fr.mapRef (toName (cE ids)) (Fr.keep vk fr),ids.map (λi=>(hp.getD i .dead).mapRef (toName (cE ids))),hp0)=(true,some inv,inv,var s0,hp0,wr (chg s0) hp0))
    (round:∀s x,f s=some x->(∀v,x=.inr v->v=o)->TWp C c ⟨var s++inv,wr (chg s) hp0⟩ (yI (λst'=>∃s' ids',x=.inl s'/\mX ids'=true/\(∀i,i<C.k->ids'[i]?=some i)/\st'.canon (vk++ik) ids'=⟨var s'++inv,wr (chg s') hp0⟩) Q)):TWp C (.loop c) ⟨fr,hp⟩ Q:=by
  simp only[tI]at h;obtain⟨h1,h2,h3,h4,h5,h6⟩:=h;exact w_loop hm var chg vk ik ids h1 hk h2 h3 h4 h5 h6 round
end fz
section fzc
variable {C:Ctx}{ops:Array Oper}{ty:TypeId}{pos:String}{after:Array Edge}{gd:Option (Nat×Bool)}{l:List Oper}{K:St->Prop}{fr:Fr}{hp:List Blk}{acc:List Rec}{d:Nat}{F:FuncId}{f:Operand}{xs:Array Operand}{ts:Array TypeId}{ds:List D}{α β:Type}{m:Option α}{k:α->Option β}{o:β}{e:α->D}
theorem cW(hm:aD m k=some o)(hf:∀{x},m=some x->RetN C.P F ds (e x))(h:(decide (d<C.n),H8 ops gd fr,fr.ev f,xs.toList.map fr.ev)=(true,some true,.d (.fn F),ds.map .d))
    (hk:∀x,k x=some o->eA C ops l ⟨(d,.d (e x))::fr,hp⟩ K):eA C ops (⟨some d,.call { callee:=.value f,args:=xs,argTypes:=ts },ty,pos,after,gd⟩::l) ⟨fr,hp⟩ K:=by
  simp only[tI]at h;exact c_N hm hf h.1 h.2.1 h.2.2.1 h.2.2.2 hk
theorem fA(hm:aD m k=some o)(hf:∀{x},m=some x->RetD C.P F ds (e x))(h:(decide (d<C.n),H8 ops gd fr,fr.ev f,xs.toList.map fr.ev)=(true,some true,.d (.fn F),ds.map .d))
    (hk:∀x,k x=some o->eA C ops l ⟨(d,.d (e x))::fr,hp⟩ K):eA C ops (⟨some d,.call { callee:=.value f,args:=xs,argTypes:=ts },ty,pos,after,gd⟩::l) ⟨fr,hp⟩ K:=by
  simp only[tI]at h;exact c_D hm hf h.1 h.2.1 h.2.2.1 h.2.2.2 hk
theorem gI(rs:List Nat)(hm:aD m k=some o)(hf:∀{x},m=some x->RetN C.P F ds (e x))(h:(decide (d<C.n),H8 ops gd fr,fr.ev f,xs.toList.map fr.ev)=(true,some true,.d (.fn F),ds.map .d))
    (hk:∀x,k x=some o->TDr C ops K l ((d,.d (e x))::fr) hp (acc++[⟨true,d,.d (e x),rs,[]⟩])):TDr C ops K (⟨some d,.call { callee:=.value f,args:=xs,argTypes:=ts },ty,pos,after,gd⟩::l) fr hp acc:=by
  simp only[tI]at h;exact cd_N rs hm hf h.1 h.2.1 h.2.2.1 h.2.2.2 hk
theorem eC(rs:List Nat)(hm:aD m k=some o)(hf:∀{x},m=some x->RetD C.P F ds (e x))(h:(decide (d<C.n),H8 ops gd fr,fr.ev f,xs.toList.map fr.ev)=(true,some true,.d (.fn F),ds.map .d))
    (hk:∀x,k x=some o->TDr C ops K l ((d,.d (e x))::fr) hp (acc++[⟨true,d,.d (e x),rs,[]⟩])):TDr C ops K (⟨some d,.call { callee:=.value f,args:=xs,argTypes:=ts },ty,pos,after,gd⟩::l) fr hp acc:=by
  simp only[tI]at h;exact cd_D rs hm hf h.1 h.2.1 h.2.2.1 h.2.2.2 hk
end fzc
end Go.TL
set_option maxHeartbeats 8000000
set_option linter.unusedSimpArgs false
set_option linter.unusedVariables false
set_option maxRecDepth 20000
namespace Go.Proofs.YtldaknhjmhlefaaGreatDoor
open Go Go.TL
abbrev BA := ByteArray
structure Aw where
 el:Int
 inV:Int
 out:Int
deriving DecidableEq,Inhabited
def Aw.enc(x:Aw):D:=.agg [.int .i64 x.el,.int .i64 x.inV,.int .i64 x.out]
structure Ad where
 el:Int
 pos:Int
deriving DecidableEq,Inhabited
def Ad.enc(x:Ad):D:=.agg [.int .i64 x.el,.int .i64 x.pos]
structure End where
 el:Int
 side:Int
deriving DecidableEq,Inhabited
def End.enc(x:End):D:=.agg [.int .i64 x.el,.int .i64 x.side]
structure End.Wf (x:End):Prop where
 el:bH x.el
 side:bH x.side
structure Ak where
 name:BA
 entry:Int
 exit:Int
 path:(List Aw)
 Ag:(List Ad)
 Aa:(List Int)
 A5:Int
 length:Int
 over:(List Aw)
 An:(List Ad)
 Ae:(List Int)
 Ax:(List Ad)
 guards:(List Int)
 gaps:(List End)
deriving DecidableEq,Inhabited
def Ak.enc(x:Ak):D:=.agg [.str x.name,.int .i64 x.entry,.int .i64 x.exit,.sl 3 (x.path.map Aw.enc),.sl 2 (x.Ag.map Ad.enc),.sl 1 (x.Aa.map (D.int .i64)),.int .i64 x.A5,.int .i64 x.length,.sl 3 (x.over.map Aw.enc),.sl 2 (x.An.map Ad.enc),.sl 1 (x.Ae.map (D.int .i64)),.sl 2 (x.Ax.map Ad.enc),.sl 1 (x.guards.map (D.int .i64)),.sl 2 (x.gaps.map End.enc)]
structure Al where
 Ac:(List Ak)
 Ag:(List Int)
 A7:(List Int)
 Aa:Int
 Au:Int
deriving DecidableEq,Inhabited
def Al.enc(x:Al):D:=.agg [.sl 14 (x.Ac.map Ak.enc),.sl 1 (x.Ag.map (D.int .i64)),.sl 1 (x.A7.map (D.int .i64)),.int .i64 x.Aa,.int .i64 x.Au]
structure A6 where
 name:BA
 kind:Int
 length:Int
 grade:Int
 speed:Int
 slow:Int
 A4:Int
deriving DecidableEq,Inhabited
def A6.enc(x:A6):D:=.agg [.str x.name,.int .i64 x.kind,.int .i64 x.length,.int .i64 x.grade,.int .i64 x.speed,.int .i64 x.slow,.int .i64 x.A4]
structure A6.Wf (x:A6):Prop where
 name:x.name.size<=reachBytes
 kind:bH x.kind
 length:bH x.length
 grade:bH x.grade
 speed:bH x.speed
 slow:bH x.slow
 A4:bH x.A4
structure Fn where
 a:End
 b:End
deriving DecidableEq,Inhabited
def Fn.enc(x:Fn):D:=.agg [.int .i64 x.a.el,.int .i64 x.a.side,.int .i64 x.b.el,.int .i64 x.b.side]
structure Fn.Wf (x:Fn):Prop where
 a:End.Wf x.a
 b:End.Wf x.b
structure A9 where
 name:BA
 atV:End
 overlap:Int
deriving DecidableEq,Inhabited
def A9.enc(x:A9):D:=.agg [.str x.name,.int .i64 x.atV.el,.int .i64 x.atV.side,.int .i64 x.overlap]
structure A9.Wf (x:A9):Prop where
 name:x.name.size<=reachBytes
 atV:End.Wf x.atV
 overlap:bH x.overlap
structure Fd where
 id:Int
 el:Int
 offset:Int
deriving DecidableEq,Inhabited
def Fd.enc(x:Fd):D:=.agg [.int .i64 x.id,.int .i64 x.el,.int .i64 x.offset]
structure Fd.Wf (x:Fd):Prop where
 id:bH x.id
 el:bH x.el
 offset:bH x.offset
structure Aq where
 name:BA
 Aa:(List BA)
 Ar:(List A6)
 joints:(List Fn)
 Au:(List A9)
 balises:(List Fd)
deriving DecidableEq,Inhabited
def Aq.enc(x:Aq):D:=.agg [.str x.name,.sl 1 (x.Aa.map D.str),.sl 7 (x.Ar.map A6.enc),.sl 4 (x.joints.map Fn.enc),.sl 4 (x.Au.map A9.enc),.sl 3 (x.balises.map Fd.enc)]
structure Aq.Wf (x:Aq):Prop where
 name:x.name.size<=reachBytes
 Aa:x.Aa.length<=reachBytes/\∀y∈x.Aa,y.size<=reachBytes
 Ar:x.Ar.length<=reachBytes/\∀y∈x.Ar,A6.Wf y
 joints:x.joints.length<=reachBytes/\∀y∈x.joints,Fn.Wf y
 Au:x.Au.length<=reachBytes/\∀y∈x.Au,A9.Wf y
 balises:x.balises.length<=reachBytes/\∀y∈x.balises,Fd.Wf y
structure Pb where
 a0:(List BA)
 a1:(List BA)
 a2:(List BA)
deriving DecidableEq,Inhabited
def Pb.enc(x:Pb):D:=.agg [.sl 1 (x.a0.map D.str),.sl 1 (x.a1.map D.str),.sl 1 (x.a2.map D.str)]
structure Pc where
 l:(List (List Aw))
deriving DecidableEq,Inhabited
structure Ay where
 t:Al
 inputs:Int
 Pf:(List Int)
 extra:Int
 count:Int
deriving DecidableEq,Inhabited
def Ay.enc(x:Ay):D:=.agg [.sl 14 (x.t.Ac.map Ak.enc),.sl 1 (x.t.Ag.map (D.int .i64)),.sl 1 (x.t.A7.map (D.int .i64)),.int .i64 x.t.Aa,.int .i64 x.t.Au,.int .i64 x.inputs,.sl 1 (x.Pf.map (D.int .i64)),.int .i64 x.extra,.int .i64 x.count]
structure Ab where
 op:Int
 var:Int
 args:(List Ab)
instance:Inhabited Ab:=⟨⟨default,default,[]⟩⟩
mutual
def Ab.As:Ab->D
 |⟨a0,a1,a2⟩=>.agg [.int .i64 a0,.int .i64 a1,.sl 3 (Ab.Pe a2)]
def Ab.Pe:List Ab->List D
 |[]=>[]
 |e::r=>Ab.As e::Ab.Pe r
end
theorem Ab.encsR_map:∀xs:List Ab,Ab.Pe xs=xs.map Ab.As
 |[]=>by simp[Ab.Pe]
 |e::r=>by simp[Ab.Pe,Ab.encsR_map r]
def Ab.enc(x:Ab):D:=.agg [.int .i64 x.op,.int .i64 x.var,.sl 3 (x.args.map Ab.As)]
theorem Ab.Ah(x:Ab):x.As=x.enc:=by cases x;simp[Ab.As,Ab.enc,Ab.encsR_map]
theorem Ab.Aj(x:Ab):x.As.cells.length=3:=by rw[Ab.Ah];rfl
mutual
def Ab.beq:Ab->Ab->Bool
 |⟨a0,a1,a2⟩,⟨b0,b1,b2⟩=>decide (a0=b0)&&decide (a1=b1)&&Ab.beqs a2 b2
def Ab.beqs:List Ab->List Ab->Bool
 |[],[]=>true
 |x::xs,y::ys=>Ab.beq x y&&Ab.beqs xs ys
 |_,_=>false
end
mutual
theorem Ab.beq_iff:∀a b:Ab,Ab.beq a b=true↔a=b
 |⟨a0,a1,a2⟩,⟨b0,b1,b2⟩=>by simp[Ab.beq,Ab.beqs_iff a2 b2,and_assoc]
theorem Ab.beqs_iff:∀a b:List Ab,Ab.beqs a b=true↔a=b
 |[],[]=>by simp[Ab.beqs]
 |[],_::_=>by simp[Ab.beqs]
 |_::_,[]=>by simp[Ab.beqs]
 |x::xs,y::ys=>by simp[Ab.beqs,Ab.beq_iff x y,Ab.beqs_iff xs ys]
end
instance:DecidableEq Ab:=λa b=>decidable_of_iff _ (Ab.beq_iff a b)
structure Ap where
 kind:Int
 var:Int
 A1:Int
 expr:Ab
deriving DecidableEq,Inhabited
def Ap.enc(x:Ap):D:=.agg [.int .i64 x.kind,.int .i64 x.var,.int .i64 x.A1,.int .i64 x.expr.op,.int .i64 x.expr.var,.sl 3 (x.expr.args.map Ab.As)]
structure At where
 Af:Ay
 Ai:(List Ap)
deriving DecidableEq,Inhabited
structure Program where
 names:(List BA)
 inputs:Int
 Ai:(List Ap)
deriving DecidableEq,Inhabited
def Program.enc(x:Program):D:=.agg [.sl 1 (x.names.map D.str),.int .i64 x.inputs,.sl 6 (x.Ai.map Ap.enc)]
structure Am where
 name:BA
 expr:Ab
deriving DecidableEq,Inhabited
def Am.enc(x:Am):D:=.agg [.str x.name,.int .i64 x.expr.op,.int .i64 x.expr.var,.sl 3 (x.expr.args.map Ab.As)]
structure Av where
 A0:Al
 vars:(List (BA×Int))
 list:(List Am)
deriving DecidableEq,Inhabited
structure Pa where
 tid:Nat
 e:Ab
deriving DecidableEq,Inhabited
def Pa.enc(x:Pa):D:=.iface x.tid (.agg [.ptr x.e.enc 0])
structure Machine where
 vars:(List Bool)
 counts:(List Int)
 halted:Bool
deriving DecidableEq,Inhabited
def Machine.enc(x:Machine):D:=.agg [.sl 1 (x.vars.map D.bool),.sl 1 (x.counts.map (D.int .i64)),.bool x.halted]
structure Pd where
 Ag:Int
 Ac:Int
 lies:Int
 aux:Int
 all:Int
 states:(List Int)
deriving DecidableEq,Inhabited
def Pd.enc(x:Pd):D:=.agg [.int .i64 x.Ag,.int .i64 x.Ac,.int .i64 x.lies,.int .i64 x.aux,.int .i64 x.all,.sl 1 (x.states.map (D.int .i64))]
structure Ao where
 t:Al
 p:Pd
 Ai:(List Ap)
deriving DecidableEq,Inhabited
structure A8 where
 occupied:(List Bool)
 detected:(List Int)
 closed:(List Bool)
 claimed:(List Bool)
 passed:(List Bool)
 calls:(List Int)
 cancels:(List Int)
deriving DecidableEq,Inhabited
def A8.enc(x:A8):D:=.agg [.sl 1 (x.occupied.map D.bool),.sl 1 (x.detected.map (D.int .i64)),.sl 1 (x.closed.map D.bool),.sl 1 (x.claimed.map D.bool),.sl 1 (x.passed.map D.bool),.sl 1 (x.calls.map (D.int .i64)),.sl 1 (x.cancels.map (D.int .i64))]
structure A8.Wf (x:A8):Prop where
 occupied:x.occupied.length<=reachBytes/\∀y∈x.occupied,True
 detected:x.detected.length<=reachBytes/\∀y∈x.detected,bH y
 closed:x.closed.length<=reachBytes/\∀y∈x.closed,True
 claimed:x.claimed.length<=reachBytes/\∀y∈x.claimed,True
 passed:x.passed.length<=reachBytes/\∀y∈x.passed,True
 calls:x.calls.length<=reachBytes/\∀y∈x.calls,bH y
 cancels:x.cancels.length<=reachBytes/\∀y∈x.cancels,bH y
def End.ok(x:End):Prop:=bH x.el/\bH x.side
instance (x:End):Decidable (End.ok x):=by unfold End.ok;infer_instance
theorem End_lits(x y:End):([.int .i64 x.el,.int .i64 x.side]:List Lit)=[.int .i64 y.el,.int .i64 y.side]↔decide (x=y)=true:=by
 rw[decide_eq_true_eq]
 obtain⟨_,_⟩:=x
 obtain⟨_,_⟩:=y
 simp[End.mk.injEq,I7,and_assoc]
def Ad.ok(x:Ad):Prop:=bH x.el/\bH x.pos
instance (x:Ad):Decidable (Ad.ok x):=by unfold Ad.ok;infer_instance
theorem Dd(x y:Ad):([.int .i64 x.el,.int .i64 x.pos]:List Lit)=[.int .i64 y.el,.int .i64 y.pos]↔decide (x=y)=true:=by
 rw[decide_eq_true_eq]
 obtain⟨_,_⟩:=x
 obtain⟨_,_⟩:=y
 simp[Ad.mk.injEq,I7,and_assoc]
noncomputable abbrev TP := Tryz.prog
def cb_l:List Nat:=[7,9,10,11,13,15,16,17,18,21,23,24,25,26,27,28,29,30,31,32,33,34,35,36,37,38,39,40,41,48,49,50,51,52,53,54,55,56,57,58,62,63,64,65,66,67,68,69,70,71,72,73,74,75,76,77,78,79,80,81,82,83,84,85,86,87,88,89,90,91,92,93,94,95,96,97,98,99,100,101,102,103,104,105,106,107,112,114,115,118,120,121,122,123,124,125,126,127,128,129,130,131,132,133,134,135,136,137,138,139,140,141,142,143,144,145,146,147,148,149,150,151,152,153,154,155,156,157,158,159,160,161,162,163,164,165,166,167,168,169,170,171,172,173,174,175,176,177,178,179,180,181,182,183,185,186,187,188,189,190,191,192,193,194,195,196,197,198,199,200,201,202,203,204,205,206,207,208,209,210,211,212,213,214,215,217,220,221,222,223,224,225,226,227,228,229,230,231,232,233,234,235,247]
theorem cb_all:cb_l.all (cd TP)=true:=by kernel_rfl
theorem bE{F:Nat}(h:cb_l.elem F=true):cd TP F=true:=zQT.1 cb_all F (List.elem_iff.1 h)
theorem follows:TP.follows .mixedOrders=true:=by kernel_rfl
theorem own:ownKnob TP.godebug=none:=by kernel_rfl
theorem laidOut:laidOutB TP=true:=by kernel_rfl
def tab:Tab where
 lay:=[(3,false,1),(4,false,1),(9,false,1),(22,false,1),(23,false,1),(25,true,5),(29,false,1),(34,true,6),(36,false,1),(38,false,1),(40,true,3),(42,true,4),(47,true,3),(51,false,1),(52,false,1),(54,true,3),(64,true,6),(66,false,1),(67,false,1),(68,false,1),(69,false,1),(71,true,6),(80,true,7),(84,false,1),(85,false,1),(86,false,1),(88,true,14),(91,false,1),(93,true,7),(98,false,1),(123,true,7),(125,true,2),(127,true,4),(129,true,4),(131,true,9),(135,true,10),(148,true,2),(153,true,4),(158,false,1),(177,true,3),(185,false,1),(200,true,1),(201,true,1),(202,true,1),(203,true,1),(205,false,1),(233,true,3),(242,true,3)]
 fs:=[(25,[(0,false,1),(1,false,1),(2,false,1),(3,false,1),(4,false,1)]),(34,[(0,false,1),(1,false,1),(2,false,1),(3,false,1),(4,false,1),(5,false,1)]),(40,[(0,false,1),(1,false,1),(2,false,1)]),(42,[(0,false,1),(1,true,3)]),(47,[(0,false,1),(1,false,1),(2,false,1)]),(54,[(0,false,1),(1,false,1),(2,false,1)]),(60,[(0,true,3),(3,false,1)]),(64,[(0,false,1),(1,false,1),(2,false,1),(3,true,3)]),(71,[(0,false,1),(1,false,1),(2,false,1),(3,false,1),(4,false,1),(5,false,1)]),(80,[(0,false,1),(1,false,1),(2,false,1),(3,false,1),(4,false,1),(5,false,1),(6,false,1)]),(88,[(0,false,1),(1,false,1),(2,false,1),(3,false,1),(4,false,1),(5,false,1),(6,false,1),(7,false,1),(8,false,1),(9,false,1),(10,false,1),(11,false,1),(12,false,1),(13,false,1)]),(93,[(0,true,5),(5,false,1),(6,false,1)]),(111,[(0,true,5),(5,true,6),(11,false,1)]),(123,[(0,false,1),(1,false,1),(2,false,1),(3,false,1),(4,false,1),(5,false,1),(6,false,1)]),(125,[(0,false,1),(1,false,1)]),(127,[(0,true,2),(2,true,2)]),(129,[(0,false,1),(1,true,2),(3,false,1)]),(131,[(0,true,5),(5,false,1),(6,false,1),(7,false,1),(8,false,1)]),(135,[(0,true,9),(9,false,1)]),(148,[(0,false,1),(1,false,1)]),(177,[(0,false,1),(1,false,1),(2,false,1)]),(200,[(0,false,1)]),(201,[(0,false,1)]),(202,[(0,false,1)]),(203,[(0,false,1)]),(207,[(0,false,1)]),(242,[(0,false,1),(1,false,1),(2,false,1)])]
 sel:=[(22,88,14,264),(23,3,1,8),(26,98,1,8),(29,42,4,56),(36,4,1,1),(38,40,3,40),(51,9,1,16),(52,64,6,64),(66,123,7,64),(67,127,4,32),(68,129,4,40),(69,242,3,24),(72,80,7,168),(84,177,3,24),(85,148,2,16),(86,125,2,16),(193,23,1,24),(205,84,1,24),(225,85,1,24),(245,5,1,1)]
 str:=[(9,())]
 boo:=[(4,())]
 con:=[(200,()),(201,()),(202,()),(203,()),(232,())]
theorem TK:TabOk TP tab:=tabB_ok (by kernel_rfl)
section
variable {n k:Nat}{w:World}{g:Gh}{mv:Nat->Bool}{x y:Code}{ops ops':Array Oper}{l l':List Oper}{e e':Exit}{fr fr':Fr}{hp hp':List Blk}{ks kt:List Kt}{Q:Exit->St->Prop}
theorem bO(j:Nat)(h:run tab n j (.kc x fr hp [])=.kc y fr' hp' kt)(hk:TWp ⟨TP,n,w,k,g,mv⟩ y ⟨fr',hp'⟩ (post ⟨TP,n,w,k,g,mv⟩ kt Q)):TWp ⟨TP,n,w,k,g,mv⟩ x ⟨fr,hp⟩ Q:=cj (C:=⟨TP,n,w,k,g,mv⟩) (Q:=Q) (m:=.kc x fr hp []) TK h hk
theorem aQ(j:Nat)(h:run tab n j (.kc x fr hp [])=.ko ops' l' fr' hp' kt)(hk:eA ⟨TP,n,w,k,g,mv⟩ ops' l' ⟨fr',hp'⟩ (pn ⟨TP,n,w,k,g,mv⟩ kt Q)):TWp ⟨TP,n,w,k,g,mv⟩ x ⟨fr,hp⟩ Q:=cj (C:=⟨TP,n,w,k,g,mv⟩) (Q:=Q) (m:=.kc x fr hp []) TK h hk
theorem qBB(j:Nat)(h:run tab n j (.kc x fr hp [])=.kx e' fr' hp' kt)(hk:post ⟨TP,n,w,k,g,mv⟩ kt Q e' ⟨fr',hp'⟩):TWp ⟨TP,n,w,k,g,mv⟩ x ⟨fr,hp⟩ Q:=cj (C:=⟨TP,n,w,k,g,mv⟩) (Q:=Q) (m:=.kc x fr hp []) TK h hk
theorem cH(j:Nat)(h:run tab n j (.kc x fr hp ks)=.kc y fr' hp' kt)(hk:TWp ⟨TP,n,w,k,g,mv⟩ y ⟨fr',hp'⟩ (post ⟨TP,n,w,k,g,mv⟩ kt Q)):TWp ⟨TP,n,w,k,g,mv⟩ x ⟨fr,hp⟩ (post ⟨TP,n,w,k,g,mv⟩ ks Q):=cj (C:=⟨TP,n,w,k,g,mv⟩) (Q:=Q) (m:=.kc x fr hp ks) TK h hk
theorem aK(j:Nat)(h:run tab n j (.kc x fr hp ks)=.ko ops' l' fr' hp' kt)(hk:eA ⟨TP,n,w,k,g,mv⟩ ops' l' ⟨fr',hp'⟩ (pn ⟨TP,n,w,k,g,mv⟩ kt Q)):TWp ⟨TP,n,w,k,g,mv⟩ x ⟨fr,hp⟩ (post ⟨TP,n,w,k,g,mv⟩ ks Q):=cj (C:=⟨TP,n,w,k,g,mv⟩) (Q:=Q) (m:=.kc x fr hp ks) TK h hk
theorem aM(j:Nat)(h:run tab n j (.kc x fr hp ks)=.kx e' fr' hp' kt)(hk:post ⟨TP,n,w,k,g,mv⟩ kt Q e' ⟨fr',hp'⟩):TWp ⟨TP,n,w,k,g,mv⟩ x ⟨fr,hp⟩ (post ⟨TP,n,w,k,g,mv⟩ ks Q):=cj (C:=⟨TP,n,w,k,g,mv⟩) (Q:=Q) (m:=.kc x fr hp ks) TK h hk
theorem aH(j:Nat)(h:run tab n j (.ko ops l fr hp ks)=.kc y fr' hp' kt)(hk:TWp ⟨TP,n,w,k,g,mv⟩ y ⟨fr',hp'⟩ (post ⟨TP,n,w,k,g,mv⟩ kt Q)):eA ⟨TP,n,w,k,g,mv⟩ ops l ⟨fr,hp⟩ (pn ⟨TP,n,w,k,g,mv⟩ ks Q):=cj (C:=⟨TP,n,w,k,g,mv⟩) (Q:=Q) (m:=.ko ops l fr hp ks) TK h hk
theorem aI(j:Nat)(h:run tab n j (.ko ops l fr hp ks)=.ko ops' l' fr' hp' kt)(hk:eA ⟨TP,n,w,k,g,mv⟩ ops' l' ⟨fr',hp'⟩ (pn ⟨TP,n,w,k,g,mv⟩ kt Q)):eA ⟨TP,n,w,k,g,mv⟩ ops l ⟨fr,hp⟩ (pn ⟨TP,n,w,k,g,mv⟩ ks Q):=cj (C:=⟨TP,n,w,k,g,mv⟩) (Q:=Q) (m:=.ko ops l fr hp ks) TK h hk
theorem aG(j:Nat)(h:run tab n j (.ko ops l fr hp ks)=.kx e' fr' hp' kt)(hk:post ⟨TP,n,w,k,g,mv⟩ kt Q e' ⟨fr',hp'⟩):eA ⟨TP,n,w,k,g,mv⟩ ops l ⟨fr,hp⟩ (pn ⟨TP,n,w,k,g,mv⟩ ks Q):=cj (C:=⟨TP,n,w,k,g,mv⟩) (Q:=Q) (m:=.ko ops l fr hp ks) TK h hk
theorem bM(j:Nat)(h:run tab n j (.kx e fr hp ks)=.kx e' fr' hp' kt)(hk:post ⟨TP,n,w,k,g,mv⟩ kt Q e' ⟨fr',hp'⟩):post ⟨TP,n,w,k,g,mv⟩ ks Q e ⟨fr,hp⟩:=cj (C:=⟨TP,n,w,k,g,mv⟩) (Q:=Q) (m:=.kx e fr hp ks) TK h hk
end
theorem sH:Wn TP 233=some (3,1):=by kernel_rfl
theorem qAG:Wn TP 247=some (24,1):=by kernel_rfl
theorem Z9:Et TP 200=true:=by kernel_rfl
theorem Z8:Et TP 201=true:=by kernel_rfl
theorem Z7:Et TP 202=true:=by kernel_rfl
theorem Z6:Et TP 203=true:=by kernel_rfl
theorem keyt125:(TP.keyTypeAt 30 125&&!TP.eqGuardType TP.depth 125&&(match TP.underlying 125 with|some (.struct _)=>true|_=>false)&&[TypeDesc.int .i64,TypeDesc.int .i64].length == TP.cellsOf 125)=true:=by kernel_rfl
theorem Zw:(TP.keyTypeAt 30 148&&!TP.eqGuardType TP.depth 148&&(match TP.underlying 148 with|some (.struct _)=>true|_=>false)&&[TypeDesc.int .i64,TypeDesc.int .i64].length == TP.cellsOf 148)=true:=by kernel_rfl
theorem kinds125:y4 TP 30 125=some [.int .i64,.int .i64]:=by kernel_rfl
theorem Vn:y4 TP 30 148=some [.int .i64,.int .i64]:=by kernel_rfl
theorem lay23:lay TP 23=some (false,1):=by kernel_rfl
theorem lay85:lay TP 85=some (false,1):=by kernel_rfl
theorem lay9:lay TP 9=some (false,1):=by kernel_rfl
theorem mty222:Xz TP 222=some (9,.string,4):=by kernel_rfl
theorem mty91:Xz TP 91=some (9,.string,3):=by kernel_rfl
theorem plc111:Df TP 111=some [(0,5),(5,6),(11,1)]:=by kernel_rfl
theorem plc123:Df TP 123=some [(0,1),(1,1),(2,1),(3,1),(4,1),(5,1),(6,1)]:=by kernel_rfl
theorem zA:Df TP 125=some [(0,1),(1,1)]:=by kernel_rfl
theorem plc127:Df TP 127=some [(0,2),(2,2)]:=by kernel_rfl
theorem Xs:Df TP 129=some [(0,1),(1,2),(3,1)]:=by kernel_rfl
theorem Xr:Df TP 131=some [(0,5),(5,1),(6,1),(7,1),(8,1)]:=by kernel_rfl
theorem plc135:Df TP 135=some [(0,9),(9,1)]:=by kernel_rfl
theorem tZ:Df TP 148=some [(0,1),(1,1)]:=by kernel_rfl
theorem plc177:Df TP 177=some [(0,1),(1,1),(2,1)]:=by kernel_rfl
theorem plc200:Df TP 200=some [(0,1)]:=by kernel_rfl
theorem plc201:Df TP 201=some [(0,1)]:=by kernel_rfl
theorem plc202:Df TP 202=some [(0,1)]:=by kernel_rfl
theorem plc203:Df TP 203=some [(0,1)]:=by kernel_rfl
theorem plc207:Df TP 207=some [(0,1)]:=by kernel_rfl
theorem plc232:Df TP 232=some [(0,1)]:=by kernel_rfl
theorem plc25:Df TP 25=some [(0,1),(1,1),(2,1),(3,1),(4,1)]:=by kernel_rfl
theorem plc34:Df TP 34=some [(0,1),(1,1),(2,1),(3,1),(4,1),(5,1)]:=by kernel_rfl
theorem vX:Df TP 40=some [(0,1),(1,1),(2,1)]:=by kernel_rfl
theorem plc42:Df TP 42=some [(0,1),(1,3)]:=by kernel_rfl
theorem Zl:Df TP 47=some [(0,1),(1,1),(2,1)]:=by kernel_rfl
theorem K8:Df TP 54=some [(0,1),(1,1),(2,1)]:=by kernel_rfl
theorem E7:Df TP 64=some [(0,1),(1,1),(2,1),(3,3)]:=by kernel_rfl
theorem plc71:Df TP 71=some [(0,1),(1,1),(2,1),(3,1),(4,1),(5,1)]:=by kernel_rfl
theorem plc88:Df TP 88=some [(0,1),(1,1),(2,1),(3,1),(4,1),(5,1),(6,1),(7,1),(8,1),(9,1),(10,1),(11,1),(12,1),(13,1)]:=by kernel_rfl
theorem plc93:Df TP 93=some [(0,5),(5,1),(6,1)]:=by kernel_rfl
theorem Du:sel TP 193=some (23,1,24):=by kernel_rfl
theorem Dt:sel TP 225=some (85,1,24):=by kernel_rfl
theorem yl:sel TP 23=some (3,1,8):=by kernel_rfl
theorem yk:sel TP 85=some (148,2,16):=by kernel_rfl
theorem zero111:(TP.info? 111).bind (·.zero)=Option.some (Go.Value.agg #[Go.Value.slice Option.none 0 0,Go.Value.slice Option.none 0 0,Go.Value.slice Option.none 0 0,Go.Value.int Go.IntKind.i64 0,Go.Value.int Go.IntKind.i64 0,Go.Value.int Go.IntKind.i64 0,Go.Value.int Go.IntKind.i64 0,Go.Value.int Go.IntKind.i64 0,Go.Value.int Go.IntKind.i64 0,Go.Value.int Go.IntKind.i64 0,Go.Value.slice Option.none 0 0,Go.Value.slice Option.none 0 0]):=by kernel_rfl
theorem gf:(TP.info? 123).bind (·.zero)=Option.some (Go.Value.agg #[Go.Value.string { data:=#[] },Go.Value.int Go.IntKind.i64 0,Go.Value.int Go.IntKind.i64 0,Go.Value.int Go.IntKind.i64 0,Go.Value.int Go.IntKind.i64 0,Go.Value.int Go.IntKind.i64 0,Go.Value.int Go.IntKind.i64 0]):=by kernel_rfl
theorem gL:(TP.info? 125).bind (·.zero)=Option.some (Go.Value.agg #[Go.Value.int Go.IntKind.i64 0,Go.Value.int Go.IntKind.i64 0]):=by kernel_rfl
theorem Bp:(TP.info? 127).bind (·.zero)=Option.some (Go.Value.agg #[Go.Value.int Go.IntKind.i64 0,Go.Value.int Go.IntKind.i64 0,Go.Value.int Go.IntKind.i64 0,Go.Value.int Go.IntKind.i64 0]):=by kernel_rfl
theorem xA:(TP.info? 129).bind (·.zero)=Option.some (Go.Value.agg #[Go.Value.string { data:=#[] },Go.Value.int Go.IntKind.i64 0,Go.Value.int Go.IntKind.i64 0,Go.Value.int Go.IntKind.i64 0]):=by kernel_rfl
theorem xd:(TP.info? 131).bind (·.zero)=Option.some (Go.Value.agg #[Go.Value.slice Option.none 0 0,Go.Value.slice Option.none 0 0,Go.Value.slice Option.none 0 0,Go.Value.int Go.IntKind.i64 0,Go.Value.int Go.IntKind.i64 0,Go.Value.int Go.IntKind.i64 0,Go.Value.slice Option.none 0 0,Go.Value.int Go.IntKind.i64 0,Go.Value.int Go.IntKind.i64 0]):=by kernel_rfl
theorem Yz:(TP.info? 135).bind (·.zero)=Option.some (Go.Value.agg #[Go.Value.slice Option.none 0 0,Go.Value.slice Option.none 0 0,Go.Value.slice Option.none 0 0,Go.Value.int Go.IntKind.i64 0,Go.Value.int Go.IntKind.i64 0,Go.Value.int Go.IntKind.i64 0,Go.Value.slice Option.none 0 0,Go.Value.int Go.IntKind.i64 0,Go.Value.int Go.IntKind.i64 0,Go.Value.slice Option.none 0 0]):=by kernel_rfl
theorem dJ:(TP.info? 148).bind (·.zero)=Option.some (Go.Value.agg #[Go.Value.int Go.IntKind.i64 0,Go.Value.int Go.IntKind.i64 0]):=by kernel_rfl
theorem Yy:(TP.info? 153).bind (·.zero)=Option.some (Go.Value.agg #[Go.Value.string { data:=#[] },Go.Value.string { data:=#[] },Go.Value.string { data:=#[] },Go.Value.string { data:=#[] }]):=by kernel_rfl
theorem wZ:(TP.info? 177).bind (·.zero)=Option.some (Go.Value.agg #[Go.Value.int Go.IntKind.i64 0,Go.Value.int Go.IntKind.i64 0,Go.Value.int Go.IntKind.i64 0]):=by kernel_rfl
theorem Me:(TP.info? 200).bind (·.zero)=Option.some (Go.Value.agg #[Go.Value.pointer Option.none]):=by kernel_rfl
theorem Mc:(TP.info? 201).bind (·.zero)=Option.some (Go.Value.agg #[Go.Value.pointer Option.none]):=by kernel_rfl
theorem Mb:(TP.info? 202).bind (·.zero)=Option.some (Go.Value.agg #[Go.Value.pointer Option.none]):=by kernel_rfl
theorem Ma:(TP.info? 203).bind (·.zero)=Option.some (Go.Value.agg #[Go.Value.pointer Option.none]):=by kernel_rfl
theorem zero207:(TP.info? 207).bind (·.zero)=Option.some (Go.Value.agg #[Go.Value.slice Option.none 0 0]):=by kernel_rfl
theorem G3:(TP.info? 23).bind (·.zero)=Option.some (Go.Value.slice Option.none 0 0):=by kernel_rfl
theorem Yx:(TP.info? 232).bind (·.zero)=Option.some (Go.Value.agg #[Go.Value.pointer Option.none]):=by kernel_rfl
theorem F3:(TP.info? 233).bind (·.zero)=Option.some (Go.Value.agg #[Go.Value.slice Option.none 0 0,Go.Value.slice Option.none 0 0,Go.Value.slice Option.none 0 0]):=by kernel_rfl
theorem zero242:(TP.info? 242).bind (·.zero)=Option.some (Go.Value.agg #[Go.Value.int Go.IntKind.i64 0,Go.Value.int Go.IntKind.i64 0,Go.Value.int Go.IntKind.i64 0]):=by kernel_rfl
theorem zero247:(TP.info? 247).bind (·.zero)=Option.some (Go.Value.agg #[Go.Value.bool Bool.false,Go.Value.bool Bool.false,Go.Value.bool Bool.false,Go.Value.bool Bool.false,Go.Value.bool Bool.false,Go.Value.bool Bool.false,Go.Value.bool Bool.false,Go.Value.bool Bool.false,Go.Value.bool Bool.false,Go.Value.bool Bool.false,Go.Value.bool Bool.false,Go.Value.bool Bool.false,Go.Value.bool Bool.false,Go.Value.bool Bool.false,Go.Value.bool Bool.false,Go.Value.bool Bool.false,Go.Value.bool Bool.false,Go.Value.bool Bool.false,Go.Value.bool Bool.false,Go.Value.bool Bool.false,Go.Value.bool Bool.false,Go.Value.bool Bool.false,Go.Value.bool Bool.false,Go.Value.bool Bool.false]):=by kernel_rfl
theorem Di:(TP.info? 25).bind (·.zero)=Option.some (Go.Value.agg #[Go.Value.slice Option.none 0 0,Go.Value.slice Option.none 0 0,Go.Value.slice Option.none 0 0,Go.Value.int Go.IntKind.i64 0,Go.Value.int Go.IntKind.i64 0]):=by kernel_rfl
theorem gA:(TP.info? 3).bind (·.zero)=Option.some (Go.Value.int Go.IntKind.i64 0):=by kernel_rfl
theorem Wv:(TP.info? 34).bind (·.zero)=Option.some (Go.Value.agg #[Go.Value.int Go.IntKind.i64 0,Go.Value.int Go.IntKind.i64 0,Go.Value.int Go.IntKind.i64 0,Go.Value.int Go.IntKind.i64 0,Go.Value.int Go.IntKind.i64 0,Go.Value.slice Option.none 0 0]):=by kernel_rfl
theorem lU:(TP.info? 4).bind (·.zero)=Option.some (Go.Value.bool Bool.false):=by kernel_rfl
theorem aO:(TP.info? 40).bind (·.zero)=Option.some (Go.Value.agg #[Go.Value.int Go.IntKind.i64 0,Go.Value.int Go.IntKind.i64 0,Go.Value.slice Option.none 0 0]):=by kernel_rfl
theorem L9:(TP.info? 42).bind (·.zero)=Option.some (Go.Value.agg #[Go.Value.string { data:=#[] },Go.Value.int Go.IntKind.i64 0,Go.Value.int Go.IntKind.i64 0,Go.Value.slice Option.none 0 0]):=by kernel_rfl
theorem ge:(TP.info? 47).bind (·.zero)=Option.some (Go.Value.agg #[Go.Value.slice Option.none 0 0,Go.Value.slice Option.none 0 0,Go.Value.bool Bool.false]):=by kernel_rfl
theorem zero5:(TP.info? 5).bind (·.zero)=Option.some (Go.Value.int Go.IntKind.u8 0):=by kernel_rfl
theorem zero51:(TP.info? 51).bind (·.zero)=Option.some (Go.Value.slice Option.none 0 0):=by kernel_rfl
theorem xY:(TP.info? 54).bind (·.zero)=Option.some (Go.Value.agg #[Go.Value.slice Option.none 0 0,Go.Value.int Go.IntKind.i64 0,Go.Value.slice Option.none 0 0]):=by kernel_rfl
theorem jN:(TP.info? 64).bind (·.zero)=Option.some (Go.Value.agg #[Go.Value.int Go.IntKind.i64 0,Go.Value.int Go.IntKind.i64 0,Go.Value.int Go.IntKind.i64 0,Go.Value.int Go.IntKind.i64 0,Go.Value.int Go.IntKind.i64 0,Go.Value.slice Option.none 0 0]):=by kernel_rfl
theorem Wu:(TP.info? 71).bind (·.zero)=Option.some (Go.Value.agg #[Go.Value.string { data:=#[] },Go.Value.slice Option.none 0 0,Go.Value.slice Option.none 0 0,Go.Value.slice Option.none 0 0,Go.Value.slice Option.none 0 0,Go.Value.slice Option.none 0 0]):=by kernel_rfl
theorem zero80:(TP.info? 80).bind (·.zero)=Option.some (Go.Value.agg #[Go.Value.slice Option.none 0 0,Go.Value.slice Option.none 0 0,Go.Value.slice Option.none 0 0,Go.Value.slice Option.none 0 0,Go.Value.slice Option.none 0 0,Go.Value.slice Option.none 0 0,Go.Value.slice Option.none 0 0]):=by kernel_rfl
theorem zero84:(TP.info? 84).bind (·.zero)=Option.some (Go.Value.slice Option.none 0 0):=by kernel_rfl
theorem zero85:(TP.info? 85).bind (·.zero)=Option.some (Go.Value.slice Option.none 0 0):=by kernel_rfl
theorem iM:(TP.info? 88).bind (·.zero)=Option.some (Go.Value.agg #[Go.Value.string { data:=#[] },Go.Value.int Go.IntKind.i64 0,Go.Value.int Go.IntKind.i64 0,Go.Value.slice Option.none 0 0,Go.Value.slice Option.none 0 0,Go.Value.slice Option.none 0 0,Go.Value.int Go.IntKind.i64 0,Go.Value.int Go.IntKind.i64 0,Go.Value.slice Option.none 0 0,Go.Value.slice Option.none 0 0,Go.Value.slice Option.none 0 0,Go.Value.slice Option.none 0 0,Go.Value.slice Option.none 0 0,Go.Value.slice Option.none 0 0]):=by kernel_rfl
theorem fK:(TP.info? 9).bind (·.zero)=Option.some (Go.Value.string { data:=#[] }):=by kernel_rfl
theorem zero93:(TP.info? 93).bind (·.zero)=Option.some (Go.Value.agg #[Go.Value.slice Option.none 0 0,Go.Value.slice Option.none 0 0,Go.Value.slice Option.none 0 0,Go.Value.int Go.IntKind.i64 0,Go.Value.int Go.IntKind.i64 0,Go.Value.map Option.none,Go.Value.slice Option.none 0 0]):=by kernel_rfl
theorem plcA153:qBC TP 153=some [(0,1),(1,1),(2,1),(3,1)]:=by kernel_rfl
theorem plcA233:qBC TP 233=some [(0,1),(1,1),(2,1)]:=by kernel_rfl
theorem Xn{C:Ctx}{o:Oper}{ev:Operand->AV}{hp:List Blk}{t:TypeId}{parts:Array (Nat×Operand)}{z:Value}{zc cs:List AV}{pl:List (Nat×Nat)}{v:AV}(ho:o.op=.build t parts)(hpl:qBC C.P t=some pl)(hz:(C.P.info? t).bind (·.zero)=some z)(hzf:(gF z).flat=true)(hzc:(gF z).cells=zc)
  (hf:Ix pl zc (parts.toList.map λp=>(p.1,ev p.2))=some cs) (hv:bv cs=v):RdOk C o ev hp v:=
 RdOk.mk λst hhp hag g a w hs=>by
  rw[<- hv];subst hzc;have hz':=mN w g z;have hpz:=(hz'.pw hzf).1
  have hparts:Pw (λ(x:Nat×AV)(y:Nat×Value)=>x.1=y.1/\ARep w g x.2 y.2) (parts.toList.map λp=>(p.1,ev p.2)) (parts.map λp=>(p.1,a.eval p.2)).toList:=by
   refine⟨by simp,λi x y hx hy=>?_⟩;simp only[gm,zQO,yC]at hx hy;obtain⟨p,hp,rfl⟩:=hx;obtain⟨q,hq,rfl⟩:=hy;rw[hp]at hq;cases hq;refine⟨rfl,?_⟩;have:=hs.ev p.2
   rw[hag p.2 (by
    simp only[ho,Op.operands];have:=lG hp
    first|exact Array.mem_map.2 ⟨p,zal10q.1 this,rfl⟩|(simp only[Bv,zal96q];exact⟨p,this,rfl⟩))]at this
   exact this
  unfold qBC at hpl;split at hpl;rename_i n e hu;obtain⟨inf,hinf,hpl⟩:=zQO.1 hpl;obtain⟨cells',h1,h2⟩:=Cz pl.toArray _ _ _ _ z.cells hparts hpz (by simpa using hf);refine⟨.agg cells',?_,xT (by have:=h2.1;simpa using this) λi c v hc hv=>h2.2 i c v hc (by simpa using hv)⟩;obtain⟨infz,hinfz,hzz⟩:=zal137q.1 hz;have hzv:(zeroValue t).run C.P w=.ok z w:=by simp[zeroValue,typeInfo,hinfz,hzz]
  have hsz:(sizeOf e).run C.P w=.ok inf.size w:=by simp[sizeOf,typeInfo,hinf]
  have h1':Instr.fill (λi=>some (i*inf.size,inf.size)) z.cells (parts.map λp=>(p.1,a.eval p.2)).toList=some cells':=by
   refine N1 ?_ _ _ _ h1;intro i x hx;subst hpl;simp only[Dk,gm,zQO]at hx;obtain⟨k,hk,rfl⟩:=hx;have:=(zQQ.1 hk).2;simp at this;rw[this]
  have hb:(Instr.build t (parts.map λp=>(p.1,a.eval p.2))).run C.P w=.ok (.agg cells') w:=by
   unfold Instr.build;rw[Sem.run_bind,hzv,Result.andThen_ok,Sem.run_bind,run_underlying hu,Result.andThen_ok];simp only;rw[Sem.run_bind,hsz,Result.andThen_ok];simp only[h1',Sem.run_pure]
  simp only[execOp,ho];simp only[Sem.run_bind];have hb':(Instr.build t (parts.map λx=>(x.1,a.eval x.2))).run C.P w=.ok (.agg cells') w:=hb;rw[hb'];rfl;cases hpl
theorem Jq{w:World}{n k:Nat}{g:Gh}{mv:Nat->Bool}{o:Oper}{ev:Operand->AV}{hp:List Blk}{a b:Operand}{t':TypeId}{x y:End}(ho:o.op=.binOp .eql 125 a b t')(hx:ev a=.d x.enc)(hy:ev b=.d y.enc)(h1:x.ok)(h2:y.ok):RdOk ⟨TP,n,w,k,g,mv⟩ o ev hp (.d (.bool (decide (x=y)))):=
 eq_yes ho hx hy kinds125 keyt125 rfl rfl ⟨⟨rfl,h1.1⟩,⟨rfl,h1.2⟩,trivial⟩ ⟨⟨rfl,h2.1⟩,⟨rfl,h2.2⟩,trivial⟩ (End_lits x y)
theorem Bn{w:World}{n k:Nat}{g:Gh}{mv:Nat->Bool}{o:Oper}{ev:Operand->AV}{hp:List Blk}{a b:Operand}{t':TypeId}{x y:Ad}(ho:o.op=.binOp .eql 148 a b t')(hx:ev a=.d x.enc)(hy:ev b=.d y.enc)(h1:x.ok)(h2:y.ok):RdOk ⟨TP,n,w,k,g,mv⟩ o ev hp (.d (.bool (decide (x=y)))):=
 eq_yes ho hx hy Vn Zw rfl rfl ⟨⟨rfl,h1.1⟩,⟨rfl,h1.2⟩,trivial⟩ ⟨⟨rfl,h2.1⟩,⟨rfl,h2.2⟩,trivial⟩ (Dd x y)
theorem Jl{w:World}{n k:Nat}{g:Gh}{mv:Nat->Bool}{o:Oper}{ev:Operand->AV}{hp:List Blk}{a b:Operand}{t':TypeId}{x y:Ad}(ho:o.op=.binOp .neq 148 a b t')(hx:ev a=.d x.enc)(hy:ev b=.d y.enc)(h1:x.ok)(h2:y.ok):RdOk ⟨TP,n,w,k,g,mv⟩ o ev hp (.d (.bool (!decide (x=y)))):=
 eq_not ho hx hy Vn Zw rfl rfl ⟨⟨rfl,h1.1⟩,⟨rfl,h1.2⟩,trivial⟩ ⟨⟨rfl,h2.1⟩,⟨rfl,h2.2⟩,trivial⟩ (Dd x y)
abbrev tcA(t:Al)(r:List AV):List AV:=.d (.sl 14 (t.Ac.map Ak.enc))::.d (.sl 1 (t.Ag.map (D.int .i64)))::.d (.sl 1 (t.A7.map (D.int .i64)))::.d (.int .i64 t.Aa)::.d (.int .i64 t.Au)::r
abbrev fy(t:Al)(m i n:Nat):Blk:=.box 93 (tcA t [.mmap m,.msl i 4 0 n])
abbrev zT(t:Al)(p:Pd)(i n:Nat):Blk:=.box 111 (tcA t [.d (.int .i64 p.Ag),.d (.int .i64 p.Ac),.d (.int .i64 p.lies),.d (.int .i64 p.aux),.d (.int .i64 p.all),.d (.sl 1 (p.states.map (D.int .i64))),.msl i 6 0 n])
abbrev wW(t:Al)(p:Ay)(i n:Nat):Blk:=.box 135 (tcA t [.d (.int .i64 p.inputs),.d (.sl 1 (p.Pf.map (D.int .i64))),.d (.int .i64 p.extra),.d (.int .i64 p.count),.msl i 6 0 n])
theorem HasTy.fld{P:Go.Program}{cs:List D}{fs:Array Field}(h2:∀(i:Nat)(f:Field),fs[i]?=some f->HasTy P f.type ((cs.drop f.offset).take (P.cellsOf f.type))){i off n:Nat}{f:Field}{t:TypeId}(hf:fs[i]?=some f)(ht:f.type=t)(ho:f.offset=off)(hc:P.cellsOf t=n):HasTy P t ((cs.drop off).take n):=by
 have:=h2 i f hf;rw[ht,ho,hc]at this;exact this
theorem ty9(cs:List D)(h:HasTy TP 9 cs):∃x:BA,(λs=>s.size<=reachBytes) x/\cR TP 9 cs=D.str x:=by
 obtain⟨x,rfl,w⟩:=h.str_inv Tryz.underlying9;exact⟨x,w,by simp[cR,Tryz.underlying9]⟩
theorem ty3(cs:List D)(h:HasTy TP 3 cs):∃x:Int,bH x/\cR TP 3 cs=(D.int .i64) x:=by
 obtain⟨x,rfl,w⟩:=h.int_inv Tryz.underlying3;exact⟨x,w,by simp[cR,Tryz.underlying3]⟩
theorem sS:TP.cellsOf 3=1:=by kernel_rfl
theorem len_is3{cs:List D}(h:cs.length=3):∃a0 a1 a2,cs=[a0,a1,a2]:=by
 match cs,h with
 |[a0,a1,a2],_=>exact⟨a0,a1,a2,rfl⟩
theorem len_is2{cs:List D}(h:cs.length=2):∃a0 a1,cs=[a0,a1]:=by
 match cs,h with
 |[a0,a1],_=>exact⟨a0,a1,rfl⟩
theorem C6:TP.cellsOf 125=2:=by kernel_rfl
theorem W4(cs:List D)(h:HasTy TP 125 cs):∃x:End,x.Wf/\cs=[.int .i64 x.el,.int .i64 x.side]:=by
 obtain⟨h1,h2⟩:=h.struct_inv Tryz.underlying125;rw[C6]at h1;obtain⟨a0,a1,rfl⟩:=len_is2 h1;obtain⟨x0,e0,w0⟩:=(show HasTy TP 3 [a0]from HasTy.fld h2 (i:=0) rfl rfl rfl sS).int_inv Tryz.underlying3;replace e0:[a0]=[D.int .i64 x0]:=e0;simp only[iY,and_true]at e0;obtain⟨x1,e1,w1⟩:=(show HasTy TP 3 [a1]from HasTy.fld h2 (i:=1) rfl rfl rfl sS).int_inv Tryz.underlying3;replace e1:[a1]=[D.int .i64 x1]:=e1;simp only[iY,and_true]at e1;subst e0 e1;exact⟨⟨x0,x1⟩,⟨w0,w1⟩,rfl⟩
theorem Oe:TP.cellsOf 9=1:=by kernel_rfl
theorem Og:TP.cellsOf 23=1:=by kernel_rfl
theorem Zu{cs:List D}(h:cs.length=4):∃a0 a1 a2 a3,cs=[a0,a1,a2,a3]:=by
 match cs,h with
 |[a0,a1,a2,a3],_=>exact⟨a0,a1,a2,a3,rfl⟩
theorem ty4(cs:List D)(h:HasTy TP 4 cs):∃x:Bool,(λ_=>True) x/\cR TP 4 cs=D.bool x:=by
 obtain⟨x,rfl⟩:=h.bool_inv Tryz.underlying4;exact⟨x,trivial,by simp[cR,Tryz.underlying4]⟩
theorem Of:TP.cellsOf 4=1:=by kernel_rfl
theorem Gx:TP.cellsOf 36=1:=by kernel_rfl
theorem len_is6{cs:List D}(h:cs.length=6):∃a0 a1 a2 a3 a4 a5,cs=[a0,a1,a2,a3,a4,a5]:=by
 match cs,h with
 |[a0,a1,a2,a3,a4,a5],_=>exact⟨a0,a1,a2,a3,a4,a5,rfl⟩
theorem cells51:TP.cellsOf 51=1:=by kernel_rfl
theorem We:TP.cellsOf 123=7:=by kernel_rfl
theorem Zt{cs:List D}(h:cs.length=7):∃a0 a1 a2 a3 a4 a5 a6,cs=[a0,a1,a2,a3,a4,a5,a6]:=by
 match cs,h with
 |[a0,a1,a2,a3,a4,a5,a6],_=>exact⟨a0,a1,a2,a3,a4,a5,a6,rfl⟩
theorem ty123c(cs:List D)(h:HasTy TP 123 cs):∃x:A6,x.Wf/\cs=[.str x.name,.int .i64 x.kind,.int .i64 x.length,.int .i64 x.grade,.int .i64 x.speed,.int .i64 x.slow,.int .i64 x.A4]:=by
 obtain⟨h1,h2⟩:=h.struct_inv Tryz.underlying123;rw[We]at h1;obtain⟨a0,a1,a2,a3,a4,a5,a6,rfl⟩:=Zt h1;obtain⟨x0,e0,w0⟩:=(show HasTy TP 9 [a0]from HasTy.fld h2 (i:=0) rfl rfl rfl Oe).str_inv Tryz.underlying9;replace e0:[a0]=[D.str x0]:=e0;simp only[iY,and_true]at e0;obtain⟨x1,e1,w1⟩:=(show HasTy TP 3 [a1]from HasTy.fld h2 (i:=1) rfl rfl rfl sS).int_inv Tryz.underlying3;replace e1:[a1]=[D.int .i64 x1]:=e1;simp only[iY,and_true]at e1;obtain⟨x2,e2,w2⟩:=(show HasTy TP 3 [a2]from HasTy.fld h2 (i:=2) rfl rfl rfl sS).int_inv Tryz.underlying3;replace e2:[a2]=[D.int .i64 x2]:=e2;simp only[iY,and_true]at e2;obtain⟨x3,e3,w3⟩:=(show HasTy TP 3 [a3]from HasTy.fld h2 (i:=3) rfl rfl rfl sS).int_inv Tryz.underlying3;replace e3:[a3]=[D.int .i64 x3]:=e3;simp only[iY,and_true]at e3;obtain⟨x4,e4,w4⟩:=(show HasTy TP 3 [a4]from HasTy.fld h2 (i:=4) rfl rfl rfl sS).int_inv Tryz.underlying3;replace e4:[a4]=[D.int .i64 x4]:=e4;simp only[iY,and_true]at e4;obtain⟨x5,e5,w5⟩:=(show HasTy TP 3 [a5]from HasTy.fld h2 (i:=5) rfl rfl rfl sS).int_inv Tryz.underlying3;replace e5:[a5]=[D.int .i64 x5]:=e5;simp only[iY,and_true]at e5;obtain⟨x6,e6,w6⟩:=(show HasTy TP 3 [a6]from HasTy.fld h2 (i:=6) rfl rfl rfl sS).int_inv Tryz.underlying3;replace e6:[a6]=[D.int .i64 x6]:=e6;simp only[iY,and_true]at e6;subst e0 e1 e2 e3 e4 e5 e6;exact⟨⟨x0,x1,x2,x3,x4,x5,x6⟩,⟨w0,w1,w2,w3,w4,w5,w6⟩,rfl⟩
theorem ty123(cs:List D)(h:HasTy TP 123 cs):∃x:A6,x.Wf/\cR TP 123 cs=x.enc:=by
 obtain⟨x,w,rfl⟩:=ty123c cs h;exact⟨x,w,by simp[cR,Tryz.underlying123,A6.enc]⟩
theorem Wd:TP.cellsOf 127=4:=by kernel_rfl
theorem ty127c(cs:List D)(h:HasTy TP 127 cs):∃x:Fn,x.Wf/\cs=[.int .i64 x.a.el,.int .i64 x.a.side,.int .i64 x.b.el,.int .i64 x.b.side]:=by
 obtain⟨h1,h2⟩:=h.struct_inv Tryz.underlying127;rw[Wd]at h1;obtain⟨a0,a1,a2,a3,rfl⟩:=Zu h1;obtain⟨x0,w0,e0⟩:=W4 _ (show HasTy TP 125 [a0,a1]from HasTy.fld h2 (i:=0) rfl rfl rfl C6);replace e0:[a0,a1]=[D.int .i64 x0.el,D.int .i64 x0.side]:=e0;simp only[iY,and_true]at e0;obtain⟨f0x0,f0x1⟩:=e0;obtain⟨x1,w1,e1⟩:=W4 _ (show HasTy TP 125 [a2,a3]from HasTy.fld h2 (i:=1) rfl rfl rfl C6);replace e1:[a2,a3]=[D.int .i64 x1.el,D.int .i64 x1.side]:=e1;simp only[iY,and_true]at e1;obtain⟨f1x0,f1x1⟩:=e1;subst f0x0 f0x1 f1x0 f1x1;exact⟨⟨x0,x1⟩,⟨w0,w1⟩,rfl⟩
theorem ty127(cs:List D)(h:HasTy TP 127 cs):∃x:Fn,x.Wf/\cR TP 127 cs=x.enc:=by
 obtain⟨x,w,rfl⟩:=ty127c cs h;exact⟨x,w,by simp[cR,Tryz.underlying127,Fn.enc]⟩
theorem Wc:TP.cellsOf 129=4:=by kernel_rfl
theorem ty129c(cs:List D)(h:HasTy TP 129 cs):∃x:A9,x.Wf/\cs=[.str x.name,.int .i64 x.atV.el,.int .i64 x.atV.side,.int .i64 x.overlap]:=by
 obtain⟨h1,h2⟩:=h.struct_inv Tryz.underlying129;rw[Wc]at h1;obtain⟨a0,a1,a2,a3,rfl⟩:=Zu h1;obtain⟨x0,e0,w0⟩:=(show HasTy TP 9 [a0]from HasTy.fld h2 (i:=0) rfl rfl rfl Oe).str_inv Tryz.underlying9;replace e0:[a0]=[D.str x0]:=e0;simp only[iY,and_true]at e0;obtain⟨x1,w1,e1⟩:=W4 _ (show HasTy TP 125 [a1,a2]from HasTy.fld h2 (i:=1) rfl rfl rfl C6);replace e1:[a1,a2]=[D.int .i64 x1.el,D.int .i64 x1.side]:=e1;simp only[iY,and_true]at e1;obtain⟨f1x0,f1x1⟩:=e1;obtain⟨x2,e2,w2⟩:=(show HasTy TP 3 [a3]from HasTy.fld h2 (i:=2) rfl rfl rfl sS).int_inv Tryz.underlying3;replace e2:[a3]=[D.int .i64 x2]:=e2;simp only[iY,and_true]at e2;subst e0 f1x0 f1x1 e2;exact⟨⟨x0,x1,x2⟩,⟨w0,w1,w2⟩,rfl⟩
theorem ty129(cs:List D)(h:HasTy TP 129 cs):∃x:A9,x.Wf/\cR TP 129 cs=x.enc:=by
 obtain⟨x,w,rfl⟩:=ty129c cs h;exact⟨x,w,by simp[cR,Tryz.underlying129,A9.enc]⟩
theorem Wb:TP.cellsOf 242=3:=by kernel_rfl
theorem ty242c(cs:List D)(h:HasTy TP 242 cs):∃x:Fd,x.Wf/\cs=[.int .i64 x.id,.int .i64 x.el,.int .i64 x.offset]:=by
 obtain⟨h1,h2⟩:=h.struct_inv Tryz.underlying242;rw[Wb]at h1;obtain⟨a0,a1,a2,rfl⟩:=len_is3 h1;obtain⟨x0,e0,w0⟩:=(show HasTy TP 3 [a0]from HasTy.fld h2 (i:=0) rfl rfl rfl sS).int_inv Tryz.underlying3;replace e0:[a0]=[D.int .i64 x0]:=e0;simp only[iY,and_true]at e0;obtain⟨x1,e1,w1⟩:=(show HasTy TP 3 [a1]from HasTy.fld h2 (i:=1) rfl rfl rfl sS).int_inv Tryz.underlying3;replace e1:[a1]=[D.int .i64 x1]:=e1;simp only[iY,and_true]at e1;obtain⟨x2,e2,w2⟩:=(show HasTy TP 3 [a2]from HasTy.fld h2 (i:=2) rfl rfl rfl sS).int_inv Tryz.underlying3;replace e2:[a2]=[D.int .i64 x2]:=e2;simp only[iY,and_true]at e2;subst e0 e1 e2;exact⟨⟨x0,x1,x2⟩,⟨w0,w1,w2⟩,rfl⟩
theorem ty242(cs:List D)(h:HasTy TP 242 cs):∃x:Fd,x.Wf/\cR TP 242 cs=x.enc:=by
 obtain⟨x,w,rfl⟩:=ty242c cs h;exact⟨x,w,by simp[cR,Tryz.underlying242,Fd.enc]⟩
theorem cells71:TP.cellsOf 71=6:=by kernel_rfl
theorem cells66:TP.cellsOf 66=1:=by kernel_rfl
theorem cells67:TP.cellsOf 67=1:=by kernel_rfl
theorem cells68:TP.cellsOf 68=1:=by kernel_rfl
theorem cells69:TP.cellsOf 69=1:=by kernel_rfl
theorem ty71c(cs:List D)(h:HasTy TP 71 cs):∃x:Aq,x.Wf/\cs=[.str x.name,.sl 1 (x.Aa.map D.str),.sl 7 (x.Ar.map A6.enc),.sl 4 (x.joints.map Fn.enc),.sl 4 (x.Au.map A9.enc),.sl 3 (x.balises.map Fd.enc)]:=by
 obtain⟨h1,h2⟩:=h.struct_inv Tryz.underlying71;rw[cells71]at h1;obtain⟨a0,a1,a2,a3,a4,a5,rfl⟩:=len_is6 h1;obtain⟨x0,e0,w0⟩:=(show HasTy TP 9 [a0]from HasTy.fld h2 (i:=0) rfl rfl rfl Oe).str_inv Tryz.underlying9;replace e0:[a0]=[D.str x0]:=e0;simp only[iY,and_true]at e0;obtain⟨x1,e1,l1,m1⟩:=(show HasTy TP 51 [a1]from HasTy.fld h2 (i:=1) rfl rfl rfl cells51).list Tryz.underlying51 D.str (λs=>s.size<=reachBytes) (λcs _ h=>ty9 cs h);rw[Oe]at e1;have w1:=qi l1 m1;replace e1:[a1]=[D.sl 1 (x1.map D.str)]:=e1;simp only[iY,and_true]at e1;obtain⟨x2,e2,l2,m2⟩:=(show HasTy TP 66 [a2]from HasTy.fld h2 (i:=2) rfl rfl rfl cells66).list Tryz.underlying66 A6.enc A6.Wf (λcs _ h=>ty123 cs h);rw[We]at e2;have w2:=qi l2 m2;replace e2:[a2]=[D.sl 7 (x2.map A6.enc)]:=e2;simp only[iY,and_true]at e2;obtain⟨x3,e3,l3,m3⟩:=(show HasTy TP 67 [a3]from HasTy.fld h2 (i:=3) rfl rfl rfl cells67).list Tryz.underlying67 Fn.enc Fn.Wf (λcs _ h=>ty127 cs h);rw[Wd]at e3;have w3:=qi l3 m3;replace e3:[a3]=[D.sl 4 (x3.map Fn.enc)]:=e3;simp only[iY,and_true]at e3;obtain⟨x4,e4,l4,m4⟩:=(show HasTy TP 68 [a4]from HasTy.fld h2 (i:=4) rfl rfl rfl cells68).list Tryz.underlying68 A9.enc A9.Wf (λcs _ h=>ty129 cs h);rw[Wc]at e4;have w4:=qi l4 m4;replace e4:[a4]=[D.sl 4 (x4.map A9.enc)]:=e4;simp only[iY,and_true]at e4;obtain⟨x5,e5,l5,m5⟩:=(show HasTy TP 69 [a5]from HasTy.fld h2 (i:=5) rfl rfl rfl cells69).list Tryz.underlying69 Fd.enc Fd.Wf (λcs _ h=>ty242 cs h);rw[Wb]at e5;have w5:=qi l5 m5;replace e5:[a5]=[D.sl 3 (x5.map Fd.enc)]:=e5;simp only[iY,and_true]at e5;subst e0 e1 e2 e3 e4 e5;exact⟨⟨x0,x1,x2,x3,x4,x5⟩,⟨w0,w1,w2,w3,w4,w5⟩,rfl⟩
theorem ty71(cs:List D)(h:HasTy TP 71 cs):∃x:Aq,x.Wf/\cR TP 71 cs=x.enc:=by
 obtain⟨x,w,rfl⟩:=ty71c cs h;exact⟨x,w,by simp[cR,Tryz.underlying71,Aq.enc]⟩
theorem qAB:TP.cellsOf 80=7:=by kernel_rfl
theorem ty80c(cs:List D)(h:HasTy TP 80 cs):∃x:A8,x.Wf/\cs=[.sl 1 (x.occupied.map D.bool),.sl 1 (x.detected.map (D.int .i64)),.sl 1 (x.closed.map D.bool),.sl 1 (x.claimed.map D.bool),.sl 1 (x.passed.map D.bool),.sl 1 (x.calls.map (D.int .i64)),.sl 1 (x.cancels.map (D.int .i64))]:=by
 obtain⟨h1,h2⟩:=h.struct_inv Tryz.underlying80;rw[qAB]at h1;obtain⟨a0,a1,a2,a3,a4,a5,a6,rfl⟩:=Zt h1;obtain⟨x0,e0,l0,m0⟩:=(show HasTy TP 36 [a0]from HasTy.fld h2 (i:=0) rfl rfl rfl Gx).list Tryz.underlying36 D.bool (λ_=>True) (λcs _ h=>ty4 cs h);rw[Of]at e0;have w0:=qi l0 m0;replace e0:[a0]=[D.sl 1 (x0.map D.bool)]:=e0;simp only[iY,and_true]at e0;obtain⟨x1,e1,l1,m1⟩:=(show HasTy TP 23 [a1]from HasTy.fld h2 (i:=1) rfl rfl rfl Og).list Tryz.underlying23 (D.int .i64) bH (λcs _ h=>ty3 cs h);rw[sS]at e1;have w1:=qi l1 m1;replace e1:[a1]=[D.sl 1 (x1.map (D.int .i64))]:=e1;simp only[iY,and_true]at e1;obtain⟨x2,e2,l2,m2⟩:=(show HasTy TP 36 [a2]from HasTy.fld h2 (i:=2) rfl rfl rfl Gx).list Tryz.underlying36 D.bool (λ_=>True) (λcs _ h=>ty4 cs h);rw[Of]at e2;have w2:=qi l2 m2;replace e2:[a2]=[D.sl 1 (x2.map D.bool)]:=e2;simp only[iY,and_true]at e2;obtain⟨x3,e3,l3,m3⟩:=(show HasTy TP 36 [a3]from HasTy.fld h2 (i:=3) rfl rfl rfl Gx).list Tryz.underlying36 D.bool (λ_=>True) (λcs _ h=>ty4 cs h);rw[Of]at e3;have w3:=qi l3 m3;replace e3:[a3]=[D.sl 1 (x3.map D.bool)]:=e3;simp only[iY,and_true]at e3;obtain⟨x4,e4,l4,m4⟩:=(show HasTy TP 36 [a4]from HasTy.fld h2 (i:=4) rfl rfl rfl Gx).list Tryz.underlying36 D.bool (λ_=>True) (λcs _ h=>ty4 cs h);rw[Of]at e4;have w4:=qi l4 m4;replace e4:[a4]=[D.sl 1 (x4.map D.bool)]:=e4;simp only[iY,and_true]at e4;obtain⟨x5,e5,l5,m5⟩:=(show HasTy TP 23 [a5]from HasTy.fld h2 (i:=5) rfl rfl rfl Og).list Tryz.underlying23 (D.int .i64) bH (λcs _ h=>ty3 cs h);rw[sS]at e5;have w5:=qi l5 m5;replace e5:[a5]=[D.sl 1 (x5.map (D.int .i64))]:=e5;simp only[iY,and_true]at e5;obtain⟨x6,e6,l6,m6⟩:=(show HasTy TP 23 [a6]from HasTy.fld h2 (i:=6) rfl rfl rfl Og).list Tryz.underlying23 (D.int .i64) bH (λcs _ h=>ty3 cs h);rw[sS]at e6;have w6:=qi l6 m6;replace e6:[a6]=[D.sl 1 (x6.map (D.int .i64))]:=e6;simp only[iY,and_true]at e6;subst e0 e1 e2 e3 e4 e5 e6;exact⟨⟨x0,x1,x2,x3,x4,x5,x6⟩,⟨w0,w1,w2,w3,w4,w5,w6⟩,rfl⟩
theorem ty80(cs:List D)(h:HasTy TP 80 cs):∃x:A8,x.Wf/\cR TP 80 cs=x.enc:=by
 obtain⟨x,w,rfl⟩:=ty80c cs h;exact⟨x,w,by simp[cR,Tryz.underlying80,A8.enc]⟩
theorem ty72(cs:List D)(h:HasTy TP 72 cs):∃l:(List A8),(λl=>l.length<=reachBytes/\∀x∈l,A8.Wf x) l/\cR TP 72 cs=(λ(l:List A8)=>D.sl 7 (l.map A8.enc)) l:=by
 obtain⟨l,rfl,h1,h2⟩:=h.list Tryz.underlying72 A8.enc A8.Wf (λcs _ h=>ty80 cs h);exact⟨l,⟨h1,h2⟩,by simp[cR,Tryz.underlying72,qAB]⟩
def xr(b:Al):Option Bool:=
 if((decide (80<(b.Ac.length:Int)))||((decide (80<(b.Ag.length:Int)))||(decide (80<(b.A7.length:Int)))))=true then
 some false
 else
 dS (
 bB (λc=>
 if c<(b.Ac.length:Int)then
 bC b.Ac c λa=>
 if((decide (80<(a.path.length:Int)))||((decide (80<(a.Ag.length:Int)))||((decide (80<(a.Aa.length:Int)))||((decide (80<(a.over.length:Int)))||((decide (80<(a.An.length:Int)))||((decide (80<(a.Ae.length:Int)))||((decide (80<(a.Ax.length:Int)))||((decide (80<(a.guards.length:Int)))||(decide (80<(a.gaps.length:Int)))))))))))=true then
 aT (
 aT (
 some false))
 else
 aE (bH (c+1)) <|
 some (.inl (c+1))
 else
 aT (
 some (.inl ()))) (0:Int)) λ_=>
 some true
def vZ(a:Al):Option Bool:=
 aD (
 aD (xr a) λb=>
 if b=true then
 some (decide ((a.Ac.length:Int)<=14))
 else
 some false) λc=>
 some c
def z6:Option Aq:=
 aD (
 bB (λ(a,b)=>
 if a<(([(⟨#[97]⟩:BA),(⟨#[98]⟩:BA),(⟨#[99]⟩:BA)]:List BA).length:Int)then
 bC ([(⟨#[97]⟩:BA),(⟨#[98]⟩:BA),(⟨#[99]⟩:BA)]:List BA) a λc=>
 aE ((b++([(⟨c,(1:Int),(20000:Int),(0:Int),(3000:Int),(0:Int),a⟩:A6)]:List A6)).length<=1000000000) <|
 aE (bH (a+1)) <|
 some (.inl ((a+1),(b++([(⟨c,(1:Int),(20000:Int),(0:Int),(3000:Int),(0:Int),a⟩:A6)]:List A6))))
 else
 aT (
 some b)) ((0:Int),([]:List A6))) λd=>
 some (⟨(⟨#[108,105,110,101]⟩:BA),([(⟨#[120]⟩:BA),(⟨#[121]⟩:BA),(⟨#[122]⟩:BA)]:List BA),d,([(⟨(⟨(0:Int),(1:Int)⟩:End),(⟨(1:Int),(0:Int)⟩:End)⟩:Fn),(⟨(⟨(1:Int),(1:Int)⟩:End),(⟨(2:Int),(0:Int)⟩:End)⟩:Fn)]:List Fn),([(⟨(⟨#[115,49]⟩:BA),(⟨(0:Int),(1:Int)⟩:End),(0:Int)⟩:A9),(⟨(⟨#[115,50]⟩:BA),(⟨(1:Int),(1:Int)⟩:End),(0:Int)⟩:A9)]:List A9),([]:List Fd)⟩:Aq)
def vS(a:Aq):Option Pb:=
 aE ((([]:List BA)++a.Aa).length<=1000000000) <|
 aD (
 bB (λ(c,e)=>
 if c<(a.Ar.length:Int)then
 bC a.Ar c λf=>
 aE ((e++([f.name]:List BA)).length<=1000000000) <|
 aE (bH (c+1)) <|
 some (.inl ((c+1),(e++([f.name]:List BA))))
 else
 aT (
 some e)) ((0:Int),([]:List BA))) λi=>
 aD (
 bB (λ(b,d)=>
 if b<(a.Au.length:Int)then
 bC a.Au b λg=>
 aE ((d++([g.name]:List BA)).length<=1000000000) <|
 aE (bH (b+1)) <|
 some (.inl ((b+1),(d++([g.name]:List BA))))
 else
 aT (
 some d)) ((0:Int),([]:List BA))) λh=>
 some (⟨(([]:List BA)++a.Aa),i,h⟩:Pb)
def yY(b:BA):Option Bool:=
 dS (
 bB (λa=>
 if a<(b.size:Int)then
 aD (
 bC b.data.toList a λi=>
 if 97<=(i.toNat:Int)then
 bC b.data.toList a λd=>
 some (decide ((d.toNat:Int)<=122))
 else
 some false) λj=>
 aD (
 bC b.data.toList a λe=>
 if 48<=(e.toNat:Int)then
 bC b.data.toList a λg=>
 if(g.toNat:Int)<=57 then
 some true
 else
 bC b.data.toList a λh=>
 some (decide ((h.toNat:Int)=95))
 else
 bC b.data.toList a λf=>
 some (decide ((f.toNat:Int)=95))) λc=>
 if((!(j))&&((!(c))||(decide (a=0))))=true then
 aT (
 aT (
 some false))
 else
 aE (bH (a+1)) <|
 some (.inl (a+1))
 else
 aT (
 some (.inl ()))) (0:Int)) λ_=>
 some ((decide (1<=(b.size:Int)))&&(decide ((b.size:Int)<=12)))
def qN(c:(List BA)):Option Bool:=
 dS (
 bB (λa=>
 if a<(c.length:Int)then
 dS (
 bB (λb=>
 if b<a then
 bC c a λd=>
 bC c b λe=>
 if d=e then
 aT (
 aT (
 aT (
 aT (
 some true))))
 else
 aE (bH (b+1)) <|
 some (.inl (b+1))
 else
 aT (
 some (.inl ()))) (0:Int)) λ_=>
 aE (bH (a+1)) <|
 some (.inl (a+1))
 else
 aT (
 some (.inl ()))) (0:Int)) λ_=>
 some false
def vT(b:Aq):Option Int:=
 if((decide ((b.Ar.length:Int)<1))||((decide (32<(b.Ar.length:Int)))||((decide ((b.Aa.length:Int)<1))||((decide (24<(b.Aa.length:Int)))||((decide (20<(b.Au.length:Int)))||(decide (24<(b.balises.length:Int))))))))=true then
 some (2:Int)
 else
 aD (vS b) λa=>
 dS (
 aE ((([b.name]:List BA)++a.a0).length<=1000000000) <|
 aE (((([b.name]:List BA)++a.a0)++a.a1).length<=1000000000) <|
 aE ((((([b.name]:List BA)++a.a0)++a.a1)++a.a2).length<=1000000000) <|
 bB (λc=>
 if c<((((([b.name]:List BA)++a.a0)++a.a1)++a.a2).length:Int)then
 bC (((([b.name]:List BA)++a.a0)++a.a1)++a.a2) c λd=>
 aD (yY d) λe=>
 if(!(e))=true then
 aT (
 aT (
 some (3:Int)))
 else
 aE (bH (c+1)) <|
 some (.inl (c+1))
 else
 aT (
 some (.inl ()))) (0:Int)) λ_=>
 aD (
 aD (qN a.a0) λf=>
 if f=true then
 some true
 else
 aD (qN a.a1) λg=>
 if g=true then
 some true
 else
 aD (qN a.a2) λh=>
 some h) λi=>
 if i=true then
 some (8:Int)
 else
 some (0:Int)
def vR(b:Aq)(a:A6):Option Bool:=
 if((decide (a.kind<1))||((decide (3<a.kind))||((decide (a.length<500))||((decide (1000000<a.length))||((decide (a.grade<(-50:Int)))||((decide (50<a.grade))||((decide (a.speed<100))||((decide (10000<a.speed))||((decide (a.A4<0))||(decide ((b.Aa.length:Int)<=a.A4)))))))))))=true then
 some false
 else
 if a.kind=2 then
 some ((decide (100<=a.slow))&&(decide (a.slow<=a.speed)))
 else
 some (decide (a.slow=0))
def rX(c:Aq)(d:Int):Option ((List Int)):=
 aD (
 bB (λ(a,b)=>
 if a<(c.Ar.length:Int)then
 bC c.Ar a λf=>
 if((decide (f.A4=d))&&((decide (0<=d))&&(decide (d<(c.Aa.length:Int)))))=true then
 aE ((b++([a]:List Int)).length<=1000000000) <|
 aE (bH (a+1)) <|
 some (.inl ((a+1),(b++([a]:List Int))))
 else
 aE (bH (a+1)) <|
 some (.inl ((a+1),b))
 else
 aT (
 some b)) ((0:Int),([]:List Int))) λe=>
 some e
def qQ(a:Int):Option Int:=
 if a=1 then
 some (2:Int)
 else
 if a=2 then
 some (3:Int)
 else
 if a=3 then
 some (4:Int)
 else
 some (0:Int)
def pG(b:Aq)(a:End):Option Bool:=
 aD (
 if 0<=a.el then
 if a.el<(b.Ar.length:Int)then
 if 0<=a.side then
 bC b.Ar a.el λc=>
 aD (qQ c.kind) λd=>
 some (decide (a.side<d))
 else
 some false
 else
 some false
 else
 some false) λe=>
 some e
def uV(c:(List End)):Option Bool:=
 dS (
 bB (λa=>
 if a<(c.length:Int)then
 dS (
 bB (λb=>
 if b<a then
 bC c a λd=>
 bC c b λe=>
 aE (End.ok d/\End.ok e) <|
 if d=e then
 aT (
 aT (
 aT (
 aT (
 some true))))
 else
 aE (bH (b+1)) <|
 some (.inl (b+1))
 else
 aT (
 some (.inl ()))) (0:Int)) λ_=>
 aE (bH (a+1)) <|
 some (.inl (a+1))
 else
 aT (
 some (.inl ()))) (0:Int)) λ_=>
 some false
def qO(d:Aq):Option Int:=
 dS (
 bB (λg=>
 if g<(d.Ar.length:Int)then
 bC d.Ar g λj=>
 aD (vR d j) λo=>
 if(!(o))=true then
 aT (
 aT (
 some (1:Int)))
 else
 aE (bH (g+1)) <|
 some (.inl (g+1))
 else
 aT (
 some (.inl ()))) (0:Int)) λ_=>
 dS (
 bB (λe=>
 if e<(d.Aa.length:Int)then
 aD (rX d e) λk=>
 if(k.length:Int)=0 then
 aT (
 aT (
 some (1:Int)))
 else
 aE (bH (e+1)) <|
 some (.inl (e+1))
 else
 aT (
 some (.inl ()))) (0:Int)) λ_=>
 dS (
 bB (λ(f,h)=>
 if f<(d.joints.length:Int)then
 bC d.joints f λc=>
 aD (
 aD (pG d c.a) λl=>
 if(!(l))=true then
 some true
 else
 aD (pG d c.b) λm=>
 if(!(m))=true then
 some true
 else
 aE (End.ok c.a/\End.ok c.b) <|
 some (decide (c.a=c.b))) λp=>
 if p=true then
 aT (
 aT (
 some (1:Int)))
 else
 aE ((h++([c.a,c.b]:List End)).length<=1000000000) <|
 aE (bH (f+1)) <|
 some (.inl ((f+1),(h++([c.a,c.b]:List End))))
 else
 aT (
 some (.inl h))) ((0:Int),([]:List End))) λi=>
 aD (uV i) λn=>
 if n=true then
 some (8:Int)
 else
 some (0:Int)
def kG(f:Aq)(d:End):Option (End×Bool):=
 dS (
 bB (λe=>
 if e<(f.joints.length:Int)then
 bC f.joints e λc=>
 aE (End.ok c.a/\End.ok d) <|
 if c.a=d then
 aT (
 aT (
 some (c.b,true)))
 else
 aE (End.ok c.b/\End.ok d) <|
 if c.b=d then
 aT (
 aT (
 some (c.a,true)))
 else
 aE (bH (e+1)) <|
 some (.inl (e+1))
 else
 aT (
 some (.inl ()))) (0:Int)) λ_=>
 some ((⟨(0:Int),(0:Int)⟩:End),false)
def rU(a:Aq):Option Int:=
 dS (
 bB (λ(d,f)=>
 if d<(a.Au.length:Int)then
 bC a.Au d λb=>
 aD (
 aD (pG a b.atV) λj=>
 if(!(j))=true then
 some true
 else
 if b.overlap<0 then
 some true
 else
 some (decide (1000000<b.overlap))) λn=>
 if n=true then
 aT (
 aT (
 some (1:Int)))
 else
 aE ((f++([b.atV]:List End)).length<=1000000000) <|
 aE (bH (d+1)) <|
 some (.inl ((d+1),(f++([b.atV]:List End))))
 else
 aT (
 some (.inl f))) ((0:Int),([]:List End))) λe=>
 aD (uV e) λk=>
 if k=true then
 some (8:Int)
 else
 dS (
 bB (λc=>
 if c<(e.length:Int)then
 bC e c λg=>
 aD (kG a g) λ(l,m)=>
 aD (
 if(!(m))=true then
 some true
 else
 bC a.Ar l.el λh=>
 bC a.Ar g.el λi=>
 some (decide (h.A4=i.A4))) λo=>
 if o=true then
 aT (
 aT (
 some (14:Int)))
 else
 aE (bH (c+1)) <|
 some (.inl (c+1))
 else
 aT (
 some (.inl ()))) (0:Int)) λ_=>
 some (0:Int)
def rV(c:(List Int)):Option Bool:=
 dS (
 bB (λa=>
 if a<(c.length:Int)then
 dS (
 bB (λb=>
 if b<a then
 bC c a λd=>
 bC c b λe=>
 if d=e then
 aT (
 aT (
 aT (
 aT (
 some true))))
 else
 aE (bH (b+1)) <|
 some (.inl (b+1))
 else
 aT (
 some (.inl ()))) (0:Int)) λ_=>
 aE (bH (a+1)) <|
 some (.inl (a+1))
 else
 aT (
 some (.inl ()))) (0:Int)) λ_=>
 some false
def rW(b:Aq):Option Int:=
 dS (
 bB (λ(c,d)=>
 if c<(b.balises.length:Int)then
 bC b.balises c λa=>
 aD (
 if a.id<1 then
 some true
 else
 if 1073741824<a.id then
 some true
 else
 if a.el<0 then
 some true
 else
 if(b.Ar.length:Int)<=a.el then
 some true
 else
 if a.offset<0 then
 some true
 else
 bC b.Ar a.el λf=>
 some (decide (f.length<a.offset))) λh=>
 if h=true then
 aT (
 aT (
 some (1:Int)))
 else
 aE ((d++([a.id]:List Int)).length<=1000000000) <|
 aE (bH (c+1)) <|
 some (.inl ((c+1),(d++([a.id]:List Int))))
 else
 aT (
 some (.inl d))) ((0:Int),([]:List Int))) λe=>
 aD (rV e) λg=>
 if g=true then
 some (8:Int)
 else
 some (0:Int)
def vU(a:Aq):Option Int:=
 aD (vT a) λb=>
 if b=0 then
 aD (qO a) λc=>
 if c=0 then
 aD (rU a) λd=>
 if d=0 then
 aD (rW a) λe=>
 some e
 else
 some d
 else
 some c
 else
 some b
def nO(b:Aq)(a:Int):Option Bool:=
 some ((decide (0<=a))&&(decide (a<(b.Ar.length:Int))))
def mW(c:Int)(a:Int)(b:Int):Option (Int×Bool):=
 if((decide (c=1))||(decide (c=3)))=true then
 some ((0:Int),(bif decide ((min a b)=0)then((decide ((max a b)=1))||((decide (c=3))&&((decide ((min a b)=2))&&(decide ((max a b)=3)))))else((decide (c=3))&&((decide ((min a b)=2))&&(decide ((max a b)=3))))))
 else
 if((decide (c=2))&&((decide ((min a b)=0))&&(decide ((max a b)=1))))=true then
 some ((1:Int),true)
 else
 if((decide (c=2))&&((decide ((min a b)=0))&&(decide ((max a b)=2))))=true then
 some ((2:Int),true)
 else
 some ((0:Int),false)
def uW(d:Int)(e:Int):Option ((List Int)):=
 aD (
 bB (λ(a,b)=>
 if a<4 then
 aD (mW d e a) λ(g,f)=>
 if f=true then
 aE ((b++([a]:List Int)).length<=1000000000) <|
 aE (bH (a+1)) <|
 some (.inl ((a+1),(b++([a]:List Int))))
 else
 aE (bH (a+1)) <|
 some (.inl ((a+1),b))
 else
 aT (
 some b)) ((0:Int),([]:List Int))) λc=>
 some c
def oM(e:Aq)(a:End):Option ((List Aw)):=
 aD (nO e a.el) λi=>
 if(!(i))=true then
 some ([]:List Aw)
 else
 bC e.Ar a.el λh=>
 aD (uW h.kind a.side) λf=>
 aD (
 bB (λ(b,c)=>
 if b<(f.length:Int)then
 bC f b λd=>
 aE ((c++([(⟨a.el,a.side,d⟩:Aw)]:List Aw)).length<=1000000000) <|
 aE (bH (b+1)) <|
 some (.inl ((b+1),(c++([(⟨a.el,a.side,d⟩:Aw)]:List Aw))))
 else
 aT (
 some c)) ((0:Int),([]:List Aw))) λg=>
 some g
def sM(b:Aq)(a:Aw):Option (Int×Bool):=
 aD (nO b a.el) λd=>
 if(!(d))=true then
 some ((0:Int),false)
 else
 bC b.Ar a.el λc=>
 aD (mW c.kind a.inV a.out) λ(e,f)=>
 some (e,f)
def pF(b:Aq)(a:Aw):Option (End×Bool):=
 aD (kG b (⟨a.el,a.out⟩:End)) λ(c,d)=>
 some (c,d)
def vQ(c:Aq)(b:(List Aw)):Option Bool:=
 if((decide ((b.length:Int)=0))||(decide (64<(b.length:Int))))=true then
 some false
 else
 dS (
 bB (λa=>
 if a<(b.length:Int)then
 dS (
 bC b a λj=>
 aD (sM c j) λ(n,k)=>
 if(!(k))=true then
 aT (
 aT (
 aT (
 some false)))
 else
 dS (
 if 0<a then
 aE (bH (a-1)) <|
 bC b (a-1) λe=>
 aD (pF c e) λ(d,l)=>
 aD (
 if(!(l))=true then
 some true
 else
 bC b a λf=>
 if d.el=f.el then
 bC b a λg=>
 some (!(decide (d.side=g.inV)))
 else
 some true) λm=>
 if m=true then
 aT (
 aT (
 aT (
 aT (
 some false))))
 else
 some (.inl ())
 else
 some (.inl ())) λ_=>
 bB (λk36=>
 if k36<a then
 bC b k36 λh=>
 bC b a λi=>
 if h.el=i.el then
 aT (
 aT (
 aT (
 aT (
 some false))))
 else
 aE (bH (k36+1)) <|
 some (.inl (k36+1))
 else
 aT (
 some (.inl ()))) (0:Int)) λ_=>
 aE (bH (a+1)) <|
 some (.inl (a+1))
 else
 aT (
 some (.inl ()))) (0:Int)) λ_=>
 some true
def kC(b:Aq)(a:Int):Option Int:=
 if((decide (a<0))||(decide ((b.Ar.length:Int)<=a)))=true then
 some (-1:Int)
 else
 bC b.Ar a λc=>
 some c.A4
def ey(b:(List Int))(d:Int):Option Bool:=
 dS (
 bB (λa=>
 if a<(b.length:Int)then
 bC b a λc=>
 if c=d then
 aT (
 aT (
 some true))
 else
 aE (bH (a+1)) <|
 some (.inl (a+1))
 else
 aT (
 some (.inl ()))) (0:Int)) λ_=>
 some false
def mV(d:Aq)(c:(List Aw)):Option ((List Int)):=
 aD (
 bB (λ(a,b)=>
 if a<(c.length:Int)then
 aD (
 bC c a λg=>
 aD (nO d g.el) λk=>
 if k=true then
 bC c a λh=>
 bC d.Ar h.el λi=>
 aD (ey b i.A4) λl=>
 some (!(l))
 else
 some false) λm=>
 if m=true then
 bC c a λj=>
 bC d.Ar j.el λe=>
 aE ((b++([e.A4]:List Int)).length<=1000000000) <|
 aE (bH (a+1)) <|
 some (.inl ((a+1),(b++([e.A4]:List Int))))
 else
 aE (bH (a+1)) <|
 some (.inl ((a+1),b))
 else
 aT (
 some b)) ((0:Int),([]:List Int))) λf=>
 some f
def yW(d:Aq)(e:End)(a:(List Aw)):Option Bool:=
 aD (
 if(a.length:Int)=0 then
 some true
 else
 if 12<(a.length:Int)then
 some true
 else
 bC a (0:Int) λi=>
 if i.el=e.el then
 bC a (0:Int) λj=>
 if j.inV=e.side then
 aD (vQ d a) λn=>
 some (!(n))
 else
 some true
 else
 some true) λo=>
 if o=true then
 some false
 else
 aD (
 bB (λ(c,b)=>
 if b<(a.length:Int)then
 bC a b λg=>
 aD (kC d g.el) λk=>
 aE (bH (b-1)) <|
 bC a (b-1) λh=>
 aD (kC d h.el) λl=>
 if k=l then
 aE (bH (b+1)) <|
 some (.inl (c,(b+1)))
 else
 aE (bH (c+1)) <|
 aE (bH (b+1)) <|
 some (.inl ((c+1),(b+1)))
 else
 aT (
 some c)) ((1:Int),(1:Int))) λf=>
 aD (mV d a) λm=>
 some (decide (f=(m.length:Int)))
def rC(c:Aq)(d:End):Option Int:=
 dS (
 bB (λa=>
 if a<(c.Au.length:Int)then
 bC c.Au a λb=>
 aE (End.ok b.atV/\End.ok d) <|
 if b.atV=d then
 aT (
 aT (
 some a))
 else
 aE (bH (a+1)) <|
 some (.inl (a+1))
 else
 aT (
 some (.inl ()))) (0:Int)) λ_=>
 some (-1:Int)
def qM(b:Aq)(a:Aw):Option (Int×Bool):=
 aD (rC b (⟨a.el,a.out⟩:End)) λc=>
 aD (pF b a) λ(e,d)=>
 some (c,((decide (0<=c))||(!(d))))
def sK(b:Aq)(e:Int)(f:Int):Option BA:=
 if f<0 then
 bC b.Au e λc=>
 aE (c.name.size+(⟨#[45,101,110,100]⟩:BA).size<=9223372036854775807) <|
 some (c.name++(⟨#[45,101,110,100]⟩:BA))
 else
 bC b.Au e λa=>
 aE (a.name.size+(⟨#[45]⟩:BA).size<=9223372036854775807) <|
 bC b.Au f λd=>
 aE ((a.name++(⟨#[45]⟩:BA)).size+d.name.size<=9223372036854775807) <|
 some ((a.name++(⟨#[45]⟩:BA))++d.name)
def tV(a:(List Ad))(c:Ad):Option ((List Ad)):=
 aD (
 bB (λ(b,f)=>
 aD (
 if b<(a.length:Int)then
 bC a b λj=>
 if j.el<c.el then
 some true
 else
 bC a b λk=>
 if k.el=c.el then
 bC a b λl=>
 some (decide (l.pos<c.pos))
 else
 some false
 else
 some false) λm=>
 if m=true then
 bC a b λh=>
 aE ((f++([h]:List Ad)).length<=1000000000) <|
 aE (bH (b+1)) <|
 some (.inl ((b+1),(f++([h]:List Ad))))
 else
 aT (
 some (b,f))) ((0:Int),([]:List Ad))) λ(d,e)=>
 aD (
 aD (
 if d=(a.length:Int)then
 some true
 else
 bC a d λi=>
 aE (Ad.ok i/\Ad.ok c) <|
 some (!(decide (i=c)))) λn=>
 if n=true then
 aE ((e++([c]:List Ad)).length<=1000000000) <|
 some (e++([c]:List Ad))
 else
 some e) λg=>
 aE (0<=d/\d<=(a.length:Int)/\(a.length:Int)<=(a.length:Int)) <|
 aE ((g++(sub a d (a.length:Int))).length<=1000000000) <|
 some (g++(sub a d (a.length:Int)))
def oL(h:Aq)(c:(List Aw)):Option ((List Ad)):=
 aD (
 bB (λ(b,a)=>
 if a<(c.length:Int)then
 bC c a λf=>
 aD (sM h f) λ(d,i)=>
 if(i&&(!(decide (d=0))))=true then
 bC c a λe=>
 aD (tV b (⟨e.el,d⟩:Ad)) λj=>
 aE (bH (a+1)) <|
 some (.inl (j,(a+1)))
 else
 aE (bH (a+1)) <|
 some (.inl (b,(a+1)))
 else
 aT (
 some b)) (([]:List Ad),(0:Int))) λg=>
 some g
def rB(e:Aq)(c:(List Aw)):Option Int:=
 aD (
 bB (λ(b,a)=>
 if a<(c.length:Int)then
 bC c a λg=>
 aD (nO e g.el) λh=>
 if h=true then
 bC c a λf=>
 bC e.Ar f.el λd=>
 aE (bH (b+d.length)) <|
 aE (bH (a+1)) <|
 some (.inl ((b+d.length),(a+1)))
 else
 aE (bH (a+1)) <|
 some (.inl (b,(a+1)))
 else
 aT (
 some b)) ((0:Int),(0:Int))) λi=>
 some i
def rT(c:Int):Option BA:=
 aD (
 bB (λ(a,b)=>
 if 0<a then
 aE (¬(10:Int)=0) <|
 aE (bH (48+(a.tmod (10:Int)))) <|
 aE ((strOfNums ([(IntKind.u8.wrap (48+(a.tmod (10:Int))))]:List Int)).size+b.size<=9223372036854775807) <|
 aE (¬(10:Int)=0) <|
 some (.inl ((IntKind.i64.wrap (a.tdiv (10:Int))),((strOfNums ([(IntKind.u8.wrap (48+(a.tmod (10:Int))))]:List Int))++b)))
 else
 aT (
 some b)) (c,(⟨#[]⟩:BA))) λd=>
 some d
def iJ:Nat->Pc->Aq->End->End->(List Aw)->Option Pc
 |0,_,_,_,_,_=>none
 |fu+1,j,e,g,k,b=>
 aD (oM e k) λf=>
 bB (λ(a,c)=>
 if a<(f.length:Int)then
 aE ((([]:List Aw)++b).length<=1000000000) <|
 bC f a λd=>
 aE (((([]:List Aw)++b)++([d]:List Aw)).length<=1000000000) <|
 aD (yW e g ((([]:List Aw)++b)++([d]:List Aw))) λm=>
 if(!(m))=true then
 aE (bH (a+1)) <|
 some (.inl ((a+1),c))
 else
 bC f a λh=>
 aD (qM e h) λ(q,n)=>
 if n=true then
 aE ((c++([((([]:List Aw)++b)++([d]:List Aw))]:List (List Aw))).length<=1000000000) <|
 aE (bH (a+1)) <|
 some (.inl ((a+1),(c++([((([]:List Aw)++b)++([d]:List Aw))]:List (List Aw)))))
 else
 bC f a λi=>
 aD (pF e i) λ(o,r)=>
 aD ((iJ fu) (⟨c⟩:Pc) e g o ((([]:List Aw)++b)++([d]:List Aw))) λp=>
 aE (bH (a+1)) <|
 some (.inl ((a+1),p.l))
 else
 aT (
 some (⟨c⟩:Pc))) ((0:Int),j.l)
def sL(a:Pc)(b:Aq)(c:End)(d:End)(e:(List Aw)):Option Pc:=iJ eO a b c d e
def yV(a:Aq)(b:Int):Option ((List Ak)):=
 if((decide (b<0))||(decide ((a.Au.length:Int)<=b)))=true then
 some ([]:List Ak)
 else
 bC a.Au b λw=>
 aD (kG a w.atV) λ(r,E)=>
 if(!(E))=true then
 some ([]:List Ak)
 else
 aD (sL (⟨([]:List (List Aw))⟩:Pc) a r r []) λh=>
 aD (
 bB (λ(d,i)=>
 if d<(h.l.length:Int)then
 aD (
 bC h.l d λc=>
 aE (bH ((c.length:Int)-1)) <|
 bC c ((c.length:Int)-1) λv=>
 aD (qM a v) λ(f,F)=>
 aD (sK a b f) λg=>
 aD (oL a c) λn=>
 aD (mV a c) λo=>
 aD (rB a c) λp=>
 bC a.Au b λx=>
 aD (kC a x.atV.el) λq=>
 aD (
 bB (λ(e,k37)=>
 if k37<d then
 bC h.l k37 λy=>
 bC h.l k37 λm=>
 aE (bH ((m.length:Int)-1)) <|
 bC y ((m.length:Int)-1) λz=>
 aD (qM a z) λ(A,G)=>
 aD (sK a b A) λB=>
 aD (sK a b f) λC=>
 if B=C then
 aE (bH (e+1)) <|
 aE (bH (k37+1)) <|
 some (.inl ((e+1),(k37+1)))
 else
 aE (bH (k37+1)) <|
 some (.inl (e,(k37+1)))
 else
 aT (
 some e)) ((1:Int),(0:Int))) λj=>
 aD (
 if 1<j then
 aE (g.size+(⟨#[46]⟩:BA).size<=9223372036854775807) <|
 aD (rT j) λs=>
 aE ((g++(⟨#[46]⟩:BA)).size+s.size<=9223372036854775807) <|
 some ((g++(⟨#[46]⟩:BA))++s)
 else
 some g) λk=>
 aE ((i++([(⟨k,b,f,c,n,o,q,p,([]:List Aw),([]:List Ad),([]:List Int),([]:List Ad),([]:List Int),([]:List End)⟩:Ak)]:List Ak)).length<=1000000000) <|
 some (i++([(⟨k,b,f,c,n,o,q,p,([]:List Aw),([]:List Ad),([]:List Int),([]:List Ad),([]:List Int),([]:List End)⟩:Ak)]:List Ak))) λt=>
 aE (bH (d+1)) <|
 some (.inl ((d+1),t))
 else
 aT (
 some i)) ((0:Int),([]:List Ak))) λu=>
 some u
def ex(c:Aq):Option ((List Ak)×Int):=
 aD (vU c) λe=>
 if e=0 then
 aD (
 bB (λ(a,b)=>
 if a<(c.Au.length:Int)then
 aD (yV c a) λf=>
 aE ((b++f).length<=1000000000) <|
 aE (bH (a+1)) <|
 some (.inl ((a+1),(b++f)))
 else
 aT (
 some b)) ((0:Int),([]:List Ak))) λd=>
 if 48<(d.length:Int)then
 some (([]:List Ak),(2:Int))
 else
 some (d,(0:Int))
 else
 some (([]:List Ak),e)
def tX(c:Aq):Option ((List Int)):=
 aD (
 bB (λ(a,b)=>
 if a<(c.Ar.length:Int)then
 bC c.Ar a λe=>
 if e.kind=2 then
 aE ((b++([a]:List Int)).length<=1000000000) <|
 aE (bH (a+1)) <|
 some (.inl ((a+1),(b++([a]:List Int))))
 else
 aE (bH (a+1)) <|
 some (.inl ((a+1),b))
 else
 aT (
 some b)) ((0:Int),([]:List Int))) λd=>
 some d
def ke(b:Aq)(a:Ak):Option (A9×Bool):=
 if((decide (a.exit<0))||(decide ((b.Au.length:Int)<=a.exit)))=true then
 some ((⟨(⟨#[]⟩:BA),(⟨(0:Int),(0:Int)⟩:End),(0:Int)⟩:A9),false)
 else
 bC b.Au a.exit λc=>
 some (c,true)
def rS(h:Aq)(c:Ak)(d:(List Aw))(e:Int):Option Bool:=
 dS (
 bB (λb=>
 if b<(d.length:Int)then
 bC d b λg=>
 if g.el=e then
 aT (
 aT (
 some true))
 else
 aE (bH (b+1)) <|
 some (.inl (b+1))
 else
 aT (
 some (.inl ()))) (0:Int)) λ_=>
 dS (
 bB (λa=>
 if a<(c.Aa.length:Int)then
 bC c.Aa a λf=>
 aD (kC h e) λi=>
 if f=i then
 aT (
 aT (
 some true))
 else
 aE (bH (a+1)) <|
 some (.inl (a+1))
 else
 aT (
 some (.inl ()))) (0:Int)) λ_=>
 some false
def yU(c:Aq)(a:Ak):Option Ak:=
 aD (ke c (⟨a.name,a.entry,a.exit,a.path,a.Ag,a.Aa,a.A5,a.length,([]:List Aw),([]:List Ad),([]:List Int),a.Ax,a.guards,a.gaps⟩:Ak)) λ(i,p)=>
 if(!(p))=true then
 some (⟨a.name,a.entry,a.exit,a.path,a.Ag,a.Aa,a.A5,a.length,([]:List Aw),([]:List Ad),([]:List Int),a.Ax,a.guards,a.gaps⟩:Ak)
 else
 aD (kG c i.atV) λ(k,t)=>
 aD (
 bB (λ(m,d,f,b)=>
 aD (
 if m=true then
 aD (rB c b) λn=>
 if n<i.overlap then
 if(b.length:Int)<12 then
 aD (rS c (⟨a.name,a.entry,a.exit,a.path,a.Ag,a.Aa,a.A5,a.length,b,([]:List Ad),([]:List Int),a.Ax,a.guards,a.gaps⟩:Ak) b d) λo=>
 some (!(o))
 else
 some false
 else
 some false
 else
 some false) λu=>
 if u=true then
 aD (oM c (⟨d,f⟩:End)) λg=>
 if(g.length:Int)=0 then
 aT (
 some (b,d,f))
 else
 bC g (0:Int) λh=>
 aE ((b++([h]:List Aw)).length<=1000000000) <|
 bC g (0:Int) λl=>
 aD (pF c l) λ(j,q)=>
 some (.inl (q,j.el,j.side,(b++([h]:List Aw))))
 else
 aT (
 some (b,d,f))) (t,k.el,k.side,([]:List Aw))) λ(e,w,v)=>
 aD (oL c e) λr=>
 aD (mV c e) λs=>
 some (⟨a.name,a.entry,a.exit,a.path,a.Ag,a.Aa,a.A5,a.length,e,r,s,a.Ax,a.guards,a.gaps⟩:Ak)
def pE(e:Aq)(a:Aw):Option ((List End)):=
 if((decide (a.el<0))||(decide ((e.Ar.length:Int)<=a.el)))=true then
 some ([]:List End)
 else
 bC e.Ar a.el λd=>
 aD (mW d.kind a.inV a.out) λ(i,h)=>
 aD (
 bB (λ(b,c)=>
 aD (qQ d.kind) λg=>
 if b<g then
 if(h&&((!(decide (b=a.inV)))&&(!(decide (b=a.out)))))=true then
 aE ((c++([(⟨a.el,b⟩:End)]:List End)).length<=1000000000) <|
 aE (bH (b+1)) <|
 some (.inl ((b+1),(c++([(⟨a.el,b⟩:End)]:List End))))
 else
 aE (bH (b+1)) <|
 some (.inl ((b+1),c))
 else
 aT (
 some c)) ((0:Int),([]:List End))) λf=>
 some f
def vP(f:Aq)(c:Ak):Option ((List End)):=
 aD (
 bB (λ(b,e)=>
 if b<(c.path.length:Int)then
 bC c.path b λk=>
 aD (pE f k) λg=>
 aE ((e++g).length<=1000000000) <|
 aE (bH (b+1)) <|
 some (.inl ((b+1),(e++g)))
 else
 aT (
 some e)) ((0:Int),([]:List End))) λi=>
 aD (
 bB (λ(a,d)=>
 if a<(c.over.length:Int)then
 bC c.over a λl=>
 aD (pE f l) λh=>
 aE ((d++h).length<=1000000000) <|
 aE (bH (a+1)) <|
 some (.inl ((a+1),(d++h)))
 else
 aT (
 some d)) ((0:Int),i)) λj=>
 some j
def uT(b:(List Aw))(d:Int):Option Bool:=
 dS (
 bB (λa=>
 if a<(b.length:Int)then
 bC b a λc=>
 if c.el=d then
 aT (
 aT (
 some true))
 else
 aE (bH (a+1)) <|
 some (.inl (a+1))
 else
 aT (
 some (.inl ()))) (0:Int)) λ_=>
 some false
def tA(c:(List Ad))(d:Ad):Option Bool:=
 dS (
 bB (λa=>
 if a<(c.length:Int)then
 bC c a λb=>
 aE (Ad.ok b/\Ad.ok d) <|
 if b=d then
 aT (
 aT (
 some true))
 else
 aE (bH (a+1)) <|
 some (.inl (a+1))
 else
 aT (
 some (.inl ()))) (0:Int)) λ_=>
 some false
def bm(a:Ak)(b:Ad):Option Bool:=
 aD (
 aD (tA a.Ag b) λc=>
 if c=true then
 some true
 else
 aD (tA a.An b) λd=>
 if d=true then
 some true
 else
 aD (tA a.Ax b) λe=>
 some e) λf=>
 some f
def xQ(d:Ak)(a:End):Option (Ad×Int×Bool):=
 aD (
 if a.side=2 then
 some ((2:Int),(1:Int))
 else
 some ((1:Int),(2:Int))) λ(b,c)=>
 aD (bm d (⟨a.el,b⟩:Ad)) λe=>
 if e=true then
 some ((⟨(0:Int),(0:Int)⟩:Ad),(-1:Int),false)
 else
 some ((⟨a.el,c⟩:Ad),(-1:Int),true)
def xR(c:Int)(d:Int)(e:Int):Option (Int×Bool):=
 dS (
 bB (λa=>
 if a<4 then
 aD (mW c d a) λ(b,f)=>
 if(f&&((decide (b=0))||(decide (b=e))))=true then
 aT (
 aT (
 some (a,true)))
 else
 aE (bH (a+1)) <|
 some (.inl (a+1))
 else
 aT (
 some (.inl ()))) (0:Int)) λ_=>
 some ((0:Int),false)
def tU(b:Aq)(d:Ak)(g:End):Option (Ad×Int×Bool):=
 dS (
 bB (λ(c,f,e)=>
 if c<4 then
 aD (kG b (⟨f,e⟩:End)) λ(a,l)=>
 if(!(l))=true then
 aT (
 aT (
 some ((⟨(0:Int),(0:Int)⟩:Ad),(-1:Int),true)))
 else
 aD (rC b a) λh=>
 if 0<=h then
 aT (
 aT (
 some ((⟨(0:Int),(0:Int)⟩:Ad),h,true)))
 else
 aD (
 aD (uT d.path a.el) λm=>
 if m=true then
 some true
 else
 aD (uT d.over a.el) λn=>
 some n) λs=>
 if s=true then
 aT (
 aT (
 some ((⟨(0:Int),(0:Int)⟩:Ad),(-1:Int),true)))
 else
 aD (
 if a.el<0 then
 some true
 else
 if(b.Ar.length:Int)<=a.el then
 some true
 else
 bC b.Ar a.el λi=>
 if i.kind=2 then
 some (decide (a.side=0))
 else
 some false) λt=>
 if t=true then
 aT (
 aT (
 some ((⟨(0:Int),(0:Int)⟩:Ad),(-1:Int),false)))
 else
 bC b.Ar a.el λj=>
 if j.kind=2 then
 aD (xQ d a) λ(o,p,q)=>
 aT (
 aT (
 some (o,p,q)))
 else
 bC b.Ar a.el λk=>
 aD (xR k.kind a.side (0:Int)) λ(r,w)=>
 aE (bH (c+1)) <|
 some (.inl ((c+1),a.el,r))
 else
 aT (
 some (.inl (f,e)))) ((0:Int),g.el,g.side)) λ(u,v)=>
 some ((⟨(0:Int),(0:Int)⟩:Ad),(-1:Int),false)
def ew(c:(List Ad))(a:Ad):Option ((List Ad)):=
 aD (tA c a) λi=>
 if i=true then
 some c
 else
 aD (
 bB (λ(done11,b,d)=>
 if b<(c.length:Int)then
 aD (
 aD (
 if(!(done11))=true then
 bC c b λh=>
 some (decide (a.el<h.el))
 else
 some false) λj=>
 if j=true then
 aE ((d++([a]:List Ad)).length<=1000000000) <|
 some (true,(d++([a]:List Ad)))
 else
 some (done11,d)) λ(done16,f)=>
 bC c b λg=>
 aE ((f++([g]:List Ad)).length<=1000000000) <|
 aE (bH (b+1)) <|
 some (.inl (done16,(b+1),(f++([g]:List Ad))))
 else
 aT (
 some (done11,d))) (false,(0:Int),([]:List Ad))) λ(done3,e)=>
 if(!(done3))=true then
 aE ((e++([a]:List Ad)).length<=1000000000) <|
 some (e++([a]:List Ad))
 else
 some e
def pQ(b:(List Int))(d:Int):Option Bool:=
 dS (
 bB (λa=>
 if a<(b.length:Int)then
 bC b a λc=>
 if c=d then
 aT (
 aT (
 some true))
 else
 aE (bH (a+1)) <|
 some (.inl (a+1))
 else
 aT (
 some (.inl ()))) (0:Int)) λ_=>
 some false
def rD(c:(List Int))(a:Int):Option ((List Int)):=
 aD (pQ c a) λi=>
 if i=true then
 some c
 else
 aD (
 bB (λ(done11,b,d)=>
 if b<(c.length:Int)then
 aD (
 aD (
 if(!(done11))=true then
 bC c b λh=>
 some (decide (a<h))
 else
 some false) λj=>
 if j=true then
 aE ((d++([a]:List Int)).length<=1000000000) <|
 some (true,(d++([a]:List Int)))
 else
 some (done11,d)) λ(done16,f)=>
 bC c b λg=>
 aE ((f++([g]:List Int)).length<=1000000000) <|
 aE (bH (b+1)) <|
 some (.inl (done16,(b+1),(f++([g]:List Int))))
 else
 aT (
 some (done11,d))) (false,(0:Int),([]:List Int))) λ(done3,e)=>
 if(!(done3))=true then
 aE ((e++([a]:List Int)).length<=1000000000) <|
 some (e++([a]:List Int))
 else
 some e
def ki(c:(List Int)):Option ((List Int)):=
 aD (
 bB (λ(b,a)=>
 if a<(c.length:Int)then
 bC c a λd=>
 aD (rD b d) λf=>
 aE (bH (a+1)) <|
 some (.inl (f,(a+1)))
 else
 aT (
 some b)) (([]:List Int),(0:Int))) λe=>
 some e
def vV(f:(List Int))(c:(List Int)):Option ((List Int)):=
 aD (ki f) λg=>
 aD (
 bB (λ(b,a)=>
 if a<(c.length:Int)then
 bC c a λd=>
 aD (rD b d) λh=>
 aE (bH (a+1)) <|
 some (.inl (h,(a+1)))
 else
 aT (
 some b)) (g,(0:Int))) λe=>
 some e
def yT(j:Aq)(a:Ak):Option Ak:=
 aD (vP j (⟨a.name,a.entry,a.exit,a.path,a.Ag,a.Aa,a.A5,a.length,a.over,a.An,a.Ae,([]:List Ad),([]:List Int),([]:List End)⟩:Ak)) λf=>
 aD (
 bB (λ(b,d,e,c)=>
 if b<(f.length:Int)then
 bC f b λp=>
 aD (tU j (⟨a.name,a.entry,a.exit,a.path,a.Ag,a.Aa,a.A5,a.length,a.over,a.An,a.Ae,d,e,c⟩:Ak) p) λ(k,l,q)=>
 aD (
 if(!(q))=true then
 bC f b λi=>
 aE ((c++([i]:List End)).length<=1000000000) <|
 some (c++([i]:List End))
 else
 some c) λg=>
 aD (
 if k.pos=0 then
 some d
 else
 aD (ew d k) λr=>
 some r) λh=>
 if 0<=l then
 aD (vV e ([l]:List Int)) λs=>
 aE (bH (b+1)) <|
 some (.inl ((b+1),h,s,g))
 else
 aE (bH (b+1)) <|
 some (.inl ((b+1),h,e,g))
 else
 aT (
 some (d,e,c))) ((0:Int),([]:List Ad),([]:List Int),([]:List End))) λ(n,o,m)=>
 some (⟨a.name,a.entry,a.exit,a.path,a.Ag,a.Aa,a.A5,a.length,a.over,a.An,a.Ae,n,o,m⟩:Ak)
def sZ(a:Aq):Option (Al×Int):=
 aD (ex a) λ(h,i)=>
 if i=0 then
 aD (tX a) λf=>
 aD (
 bB (λ(b,d)=>
 if b<(h.length:Int)then
 bC h b λm=>
 aD (yU a m) λo=>
 aD (yT a o) λg=>
 aE ((d++([g]:List Ak)).length<=1000000000) <|
 aE (bH (b+1)) <|
 some (.inl ((b+1),(d++([g]:List Ak))))
 else
 aT (
 some d)) ((0:Int),([]:List Ak))) λl=>
 aD (
 bB (λ(c,e)=>
 if c<(f.length:Int)then
 bC f c λn=>
 aD (kC a n) λj=>
 aE ((e++([j]:List Int)).length<=1000000000) <|
 aE (bH (c+1)) <|
 some (.inl ((c+1),(e++([j]:List Int))))
 else
 aT (
 some e)) ((0:Int),([]:List Int))) λk=>
 some ((⟨l,f,k,(a.Aa.length:Int),(a.Au.length:Int)⟩:Al),(0:Int))
 else
 some ((⟨([]:List Ak),([]:List Int),([]:List Int),(0:Int),(0:Int)⟩:Al),i)
def fY(a:Int)(b:Int):Option Bool:=
 some ((decide (0<=a))&&(decide (a<b)))
def nK(a:Al):Option Bool:=
 if(a.A7.length:Int)=(a.Ag.length:Int)then
 dS (
 bB (λb=>
 if b<(a.Ag.length:Int)then
 bC a.Ag b λc=>
 aD (
 if c<0 then
 some true
 else
 if 0<b then
 aE (bH (b-1)) <|
 bC a.Ag (b-1) λe=>
 if c<=e then
 some true
 else
 bC a.A7 b λf=>
 aD (fY f a.Aa) λh=>
 some (!(h))
 else
 bC a.A7 b λd=>
 aD (fY d a.Aa) λg=>
 some (!(g))) λi=>
 if i=true then
 aT (
 aT (
 some false))
 else
 aE (bH (b+1)) <|
 some (.inl (b+1))
 else
 aT (
 some (.inl ()))) (0:Int)) λ_=>
 some true
 else
 some false
def kD(a:List (List Int)):Option (List Int):=
 aE (a.length<=1000/\a.flatten.length<=1000000000) <|
 some a.flatten
def mR(d:Al)(a:Ak):Option Bool:=
 aD (
 aD (fY a.entry d.Au) λi=>
 if(!(i))=true then
 some true
 else
 if a.exit=(-1:Int)then
 some false
 else
 aD (fY a.exit d.Au) λk=>
 some (!(k))) λl=>
 if l=true then
 some false
 else
 if((decide ((a.path.length:Int)<1))||((decide (12<(a.path.length:Int)))||(decide ((a.Aa.length:Int)=0))))=true then
 some false
 else
 dS (
 aD (kD ([a.Aa,a.Ae]:List (List Int))) λf=>
 bB (λ(e,c)=>
 if e<(f.length:Int)then
 bC f e λb=>
 aD (
 aD (fY b d.Aa) λh=>
 if(!(h))=true then
 some true
 else
 aE (b<24) <|
 bC c b λg=>
 some g) λm=>
 if m=true then
 aT (
 aT (
 some false))
 else
 aE (b<24) <|
 bC c b λp=>
 aE (bH (e+1)) <|
 some (.inl ((e+1),(c.set b.toNat true)))
 else
 aT (
 some (.inl c))) ((0:Int),(List.replicate 24 false))) λo=>
 aD (
 aD (fY a.A5 d.Aa) λj=>
 if j=true then
 some (decide (1<=a.length))
 else
 some false) λn=>
 some n
def eQ(b:(List Int))(d:Int):Option Int:=
 dS (
 bB (λa=>
 if a<(b.length:Int)then
 bC b a λc=>
 if d=c then
 aT (
 aT (
 some a))
 else
 aE (bH (a+1)) <|
 some (.inl (a+1))
 else
 aT (
 some (.inl ()))) (0:Int)) λ_=>
 some (-1:Int)
def jR(a:Al)(b:Int):Option Int:=
 aD (eQ a.Ag b) λc=>
 some c
def fQ(d:Al)(c:(List Ad)):Option Bool:=
 dS (
 bB (λa=>
 if a<(c.length:Int)then
 bC c a λb=>
 aD (
 if 0<a then
 aE (bH (a-1)) <|
 bC c (a-1) λe=>
 if b.el<=e.el then
 some true
 else
 aD (jR d b.el) λg=>
 some (decide (g<0))
 else
 aD (jR d b.el) λf=>
 some (decide (f<0))) λh=>
 if h=true then
 aT (
 aT (
 some false))
 else
 if((!(decide (b.pos=1)))&&(!(decide (b.pos=2))))=true then
 aT (
 aT (
 some false))
 else
 aE (bH (a+1)) <|
 some (.inl (a+1))
 else
 aT (
 some (.inl ()))) (0:Int)) λ_=>
 some true
def jJ(e:(List Ad))(f:(List Ad)):Option Bool:=
 dS (
 bB (λa=>
 if a<(e.length:Int)then
 dS (
 bC e a λd=>
 bB (λb=>
 if b<(f.length:Int)then
 bC f b λc=>
 if((decide (d.el=c.el))&&(!(decide (d.pos=c.pos))))=true then
 aT (
 aT (
 aT (
 aT (
 some false))))
 else
 aE (bH (b+1)) <|
 some (.inl (b+1))
 else
 aT (
 some (.inl ()))) (0:Int)) λ_=>
 aE (bH (a+1)) <|
 some (.inl (a+1))
 else
 aT (
 some (.inl ()))) (0:Int)) λ_=>
 some true
def vL(a:Al):Option Int:=
 aD (
 if 48<(a.Ac.length:Int)then
 some true
 else
 if 32<(a.Ag.length:Int)then
 some true
 else
 aD (fY a.Aa (25:Int)) λp=>
 if(!(p))=true then
 some true
 else
 aD (fY a.Au (21:Int)) λs=>
 some (!(s))) λu=>
 if u=true then
 some (2:Int)
 else
 aD (nK a) λt=>
 if(!(t))=true then
 some (1:Int)
 else
 dS (
 bB (λd=>
 if d<(a.Ac.length:Int)then
 bC a.Ac d λj=>
 aD (mR a j) λk=>
 if(!(k))=true then
 aT (
 aT (
 some (1:Int)))
 else
 aE (bH (d+1)) <|
 some (.inl (d+1))
 else
 aT (
 some (.inl ()))) (0:Int)) λ_=>
 dS (
 bB (λe=>
 if e<(a.Ac.length:Int)then
 bC a.Ac e λh=>
 aD (
 aD (fQ a h.Ag) λl=>
 if(!(l))=true then
 some true
 else
 aD (fQ a h.An) λm=>
 if(!(m))=true then
 some true
 else
 aD (fQ a h.Ax) λn=>
 some (!(n))) λv=>
 if v=true then
 aT (
 aT (
 some (1:Int)))
 else
 aE (bH (e+1)) <|
 some (.inl (e+1))
 else
 aT (
 some (.inl ()))) (0:Int)) λ_=>
 dS (
 bB (λf=>
 if f<(a.Ac.length:Int)then
 bC a.Ac f λb=>
 aD (
 aD (jJ b.Ag b.An) λo=>
 if(!(o))=true then
 some true
 else
 aD (jJ b.Ag b.Ax) λq=>
 if(!(q))=true then
 some true
 else
 aD (jJ b.An b.Ax) λr=>
 some (!(r))) λw=>
 if w=true then
 aT (
 aT (
 some (10:Int)))
 else
 aE (bH (f+1)) <|
 some (.inl (f+1))
 else
 aT (
 some (.inl ()))) (0:Int)) λ_=>
 dS (
 bB (λ(g,c)=>
 if g<(a.Ac.length:Int)then
 bC a.Ac g λi=>
 aE (c.map (·.1)).Nodup <|
 if(((lF c i.name).getD false))=true then
 aT (
 aT (
 some (8:Int)))
 else
 aE (c.map (·.1)).Nodup <|
 aE (bH (g+1)) <|
 some (.inl ((g+1),(Nh c i.name true)))
 else
 aT (
 some (.inl c))) ((0:Int),([]:List (BA×Bool)))) λx=>
 some (0:Int)
def cM(b:Ay)(c:Int):Option Int:=
 bC b.t.Ac c λa=>
 aE (bH ((a.Aa.length:Int)-1)) <|
 some ((a.Aa.length:Int)-1)
def oS(a:Al):Option (Ay×Int):=
 aD (vL a) λg=>
 if g=0 then
 aE (bH (2*a.Aa)) <|
 aE (bH (2*(a.Ag.length:Int))) <|
 aE (bH ((2*a.Aa)+(2*(a.Ag.length:Int)))) <|
 aE (bH (4*(a.Ac.length:Int))) <|
 aE (bH (((2*a.Aa)+(2*(a.Ag.length:Int)))+(4*(a.Ac.length:Int)))) <|
 aE (bH ((((2*a.Aa)+(2*(a.Ag.length:Int)))+(4*(a.Ac.length:Int)))+(a.Ag.length:Int))) <|
 aD (
 bB (λ(f,b,c)=>
 if f<(a.Ac.length:Int)then
 aE ((c++([b]:List Int)).length<=1000000000) <|
 aD (cM (⟨a,(((2*a.Aa)+(2*(a.Ag.length:Int)))+(4*(a.Ac.length:Int))),(c++([b]:List Int)),b,(0:Int)⟩:Ay) f) λe=>
 aE (bH (4+e)) <|
 aE (bH ((4+e)+2)) <|
 aE (bH (b+((4+e)+2))) <|
 aE (bH (f+1)) <|
 some (.inl ((f+1),(b+((4+e)+2)),(c++([b]:List Int))))
 else
 aT (
 some (b,c))) ((0:Int),((((2*a.Aa)+(2*(a.Ag.length:Int)))+(4*(a.Ac.length:Int)))+(a.Ag.length:Int)),([]:List Int))) λ(d,h)=>
 aE (bH (5*(a.Ac.length:Int))) <|
 aE (bH (d+(5*(a.Ac.length:Int)))) <|
 if 2000<(d+(5*(a.Ac.length:Int)))then
 some ((⟨(⟨([]:List Ak),([]:List Int),([]:List Int),(0:Int),(0:Int)⟩:Al),(0:Int),([]:List Int),(0:Int),(0:Int)⟩:Ay),(2:Int))
 else
 some ((⟨a,(((2*a.Aa)+(2*(a.Ag.length:Int)))+(4*(a.Ac.length:Int))),h,d,(d+(5*(a.Ac.length:Int)))⟩:Ay),(0:Int))
 else
 some ((⟨(⟨([]:List Ak),([]:List Int),([]:List Int),(0:Int),(0:Int)⟩:Al),(0:Int),([]:List Int),(0:Int),(0:Int)⟩:Ay),g)
def dW(c:Ay)(d:Int)(b:Int):Option Int:=
 bC c.Pf d λa=>
 aE (bH (a+b)) <|
 some (a+b)
def gP(a:Ay)(b:Int):Option Int:=
 aD (cM a b) λc=>
 aE (bH (4+c)) <|
 aD (dW a b (4+c)) λd=>
 some d
def dH(a:Int):Option Ab:=
 some (⟨(3:Int),a,([]:List Ab)⟩:Ab)
def kT(a:Ay)(b:Int)(c:Int):Option Int:=
 aE (bH (2*a.t.Aa)) <|
 aE (bH (2*(a.t.Ag.length:Int))) <|
 aE (bH ((2*a.t.Aa)+(2*(a.t.Ag.length:Int)))) <|
 aE (bH (4*b)) <|
 aE (bH (((2*a.t.Aa)+(2*(a.t.Ag.length:Int)))+(4*b))) <|
 aE (bH ((((2*a.t.Aa)+(2*(a.t.Ag.length:Int)))+(4*b))+c)) <|
 some ((((2*a.t.Aa)+(2*(a.t.Ag.length:Int)))+(4*b))+c)
def gK(c:Ay)(a:Int)(b:Int):Option Int:=
 aE (bH (2*a)) <|
 aE (bH ((2*a)+b)) <|
 some ((2*a)+b)
def fN(a:(List Ab)):Option Ab:=
 some (⟨(6:Int),(0:Int),a⟩:Ab)
def dT(a:(List Ab)):Option Ab:=
 some (⟨(5:Int),(0:Int),a⟩:Ab)
def iC(b:Ay)(c:Int):Option Int:=
 aD (gP b c) λa=>
 aE (bH (a+1)) <|
 some (a+1)
def eG(a:Ab):Option Ab:=
 some (⟨(4:Int),(0:Int),([a]:List Ab)⟩:Ab)
def bQ(b:Ay)(a:Int)(c:Int):Option Int:=
 aE (bH (5*a)) <|
 aE (bH (b.extra+(5*a))) <|
 aE (bH ((b.extra+(5*a))+c)) <|
 some ((b.extra+(5*a))+c)
def nB(a:List (List Ad)):Option (List Ad):=
 aE (a.length<=1000/\a.flatten.length<=1000000000) <|
 some a.flatten
def sB(a:Int):Option Bool:=
 some (!(decide (a=a)))
def nJ(a:Int)(b:Int):Option Int:=
 aD (sB a) λd=>
 aD (sB b) λc=>
 if d=true then
 if c=true then
 some (0:Int)
 else
 some (-1:Int)
 else
 if c=true then
 some (1:Int)
 else
 if a<b then
 some (-1:Int)
 else
 if b<a then
 some (1:Int)
 else
 some (0:Int)
def zN(c:(List Int)):Option Int:=
 dS (
 bB (λa=>
 if a<(c.length:Int)then
 bC c a λb=>
 if b=0 then
 aE (bH (a+1)) <|
 some (.inl (a+1))
 else
 aT (
 aT (
 some b))
 else
 aT (
 some (.inl ()))) (0:Int)) λ_=>
 some (0:Int)
def eX(a:Ad)(b:Ad):Option Int:=
 aD (nJ a.el b.el) λc=>
 aD (nJ a.pos b.pos) λd=>
 aD (zN ([c,d]:List Int)) λe=>
 some e
def iF(e:Ak):Option ((List Ad)):=
 aD (nB ([e.Ag,e.An,e.Ax]:List (List Ad))) λd=>
 aE (d.length<=1000000000) <|
 aD (
 bB (λ(a,b)=>
 if a<((be eX d).length:Int)then
 bC (be eX d) a λc=>
 aD (
 if a=0 then
 some true
 else
 aE (bH (a-1)) <|
 bC (be eX d) (a-1) λf=>
 aE (Ad.ok c/\Ad.ok f) <|
 some (!(decide (c=f)))) λh=>
 if h=true then
 aE ((b++([c]:List Ad)).length<=1000000000) <|
 aE (bH (a+1)) <|
 some (.inl ((a+1),(b++([c]:List Ad))))
 else
 aE (bH (a+1)) <|
 some (.inl ((a+1),b))
 else
 aT (
 some b)) ((0:Int),([]:List Ad))) λg=>
 some g
def lK(a:Ay)(b:Int)(c:Int):Option Int:=
 aE (bH (2*a.t.Aa)) <|
 aE (bH (2*b)) <|
 aE (bH ((2*a.t.Aa)+(2*b))) <|
 aE (bH (((2*a.t.Aa)+(2*b))+c)) <|
 some (((2*a.t.Aa)+(2*b))+c)
def iT(a:Ak)(b:Ak):Option Bool:=
 some ((decide (0<=a.exit))&&(decide (b.entry=a.exit)))
def fZ(a:(List Int))(b:Int):Option Bool:=
 aD (eQ a b) λc=>
 some (decide (0<=c))
def lO(c:(List Ad))(d:Ad):Option Int:=
 dS (
 bB (λa=>
 if a<(c.length:Int)then
 bC c a λb=>
 aE (Ad.ok d/\Ad.ok b) <|
 if d=b then
 aT (
 aT (
 some a))
 else
 aE (bH (a+1)) <|
 some (.inl (a+1))
 else
 aT (
 some (.inl ()))) (0:Int)) λ_=>
 some (-1:Int)
def dK(a:(List Ad))(b:Ad):Option Bool:=
 aD (lO a b) λc=>
 some (decide (0<=c))
def gY(a:Ay)(b:Int):Option Int:=
 aE (bH (a.inputs+b)) <|
 some (a.inputs+b)
def qT(n:Nat):BA:=⟨(Go.Lib.decDigits n).toArray⟩
def nL(a:Int):Option BA:=aE (0<=a/\a<100) <|some (qT a.toNat)
def cX(f:Int)(e:(List BA))(g:(List BA)):Option ((List BA)):=
 bB (λ(b,c)=>
 if b<(e.length:Int)then
 bC e b λa=>
 aE (a.size+(⟨#[46]⟩:BA).size<=9223372036854775807) <|
 aD (nL f) λd=>
 aE ((a++(⟨#[46]⟩:BA)).size+d.size<=9223372036854775807) <|
 aE ((c++([((a++(⟨#[46]⟩:BA))++d)]:List BA)).length<=1000000000) <|
 aE (bH (b+1)) <|
 some (.inl ((b+1),(c++([((a++(⟨#[46]⟩:BA))++d)]:List BA))))
 else
 aT (
 some c)) ((0:Int),g)
def jX(a:Ay):Option ((List BA)):=
 aD (
 bB (λ(f,n)=>
 if f<a.t.Aa then
 aD (cX f ([(⟨#[102,114,101,101]⟩:BA),(⟨#[111,112,101,110]⟩:BA)]:List BA) n) λz=>
 aE (bH (f+1)) <|
 some (.inl ((f+1),z))
 else
 aT (
 some n)) ((0:Int),([]:List BA))) λq=>
 aD (
 bB (λ(c,i)=>
 if c<(a.t.Ag.length:Int)then
 aD (cX c ([(⟨#[110,111,114,109,97,108]⟩:BA),(⟨#[114,101,118,101,114,115,101]⟩:BA)]:List BA) i) λA=>
 aE (bH (c+1)) <|
 some (.inl ((c+1),A))
 else
 aT (
 some i)) ((0:Int),q)) λr=>
 aD (
 bB (λ(d,j)=>
 if d<(a.t.Ac.length:Int)then
 aD (cX d ([(⟨#[117,110,99,108,97,105,109,101,100]⟩:BA),(⟨#[112,97,115,115,101,100]⟩:BA),(⟨#[99,97,108,108]⟩:BA),(⟨#[99,97,110,99,101,108]⟩:BA)]:List BA) j) λB=>
 aE (bH (d+1)) <|
 some (.inl ((d+1),B))
 else
 aT (
 some j)) ((0:Int),r)) λs=>
 aD (
 bB (λ(e,k)=>
 if e<(a.t.Ag.length:Int)then
 aD (cX e ([(⟨#[108,105,101]⟩:BA)]:List BA) k) λC=>
 aE (bH (e+1)) <|
 some (.inl ((e+1),C))
 else
 aT (
 some k)) ((0:Int),s)) λu=>
 aD (
 bB (λ(b,l)=>
 if b<(a.t.Ac.length:Int)then
 aD (
 aD (cX b ([(⟨#[115,101,116]⟩:BA),(⟨#[99,108,101,97,114]⟩:BA),(⟨#[117,115,101,100]⟩:BA),(⟨#[104,101,108,100]⟩:BA)]:List BA) l) λE=>
 aD (
 aD (cM a b) λF=>
 bB (λ(g,m)=>
 if g<F then
 aD (nL b) λp=>
 aE ((⟨#[114,101,108,46]⟩:BA).size+p.size<=9223372036854775807) <|
 aD (cX g ([((⟨#[114,101,108,46]⟩:BA)++p)]:List BA) m) λG=>
 aE (bH (g+1)) <|
 some (.inl ((g+1),G))
 else
 aT (
 some m)) ((0:Int),E)) λx=>
 aD (cX b ([(⟨#[119,97,105,116]⟩:BA),(⟨#[115,116,97,110,100]⟩:BA)]:List BA) x) λH=>
 some H) λw=>
 aE (bH (b+1)) <|
 some (.inl ((b+1),w))
 else
 aT (
 some l)) ((0:Int),u)) λv=>
 aD (
 bB (λ(h,o)=>
 if h<(a.t.Ac.length:Int)then
 aD (cX h ([(⟨#[107,101,101,112]⟩:BA),(⟨#[117,115,101]⟩:BA),(⟨#[104,111,108,100]⟩:BA),(⟨#[97,99,116]⟩:BA),(⟨#[99,97,108,108,101,100]⟩:BA)]:List BA) o) λI=>
 aE (bH (h+1)) <|
 some (.inl ((h+1),I))
 else
 aT (
 some o)) ((0:Int),v)) λy=>
 some y
def cN(a:At)(b:Int)(c:Int):Option Ab:=
 aD (dW a.Af b c) λd=>
 aD (dH d) λe=>
 some e
def cU(a:At)(b:Int)(c:Int):Option Ab:=
 aD (kT a.Af b c) λd=>
 aD (dH d) λe=>
 some e
def dZ(b:At)(c:Int)(a:Int):Option Ab:=
 aE (bH (4+a)) <|
 aD (dW b.Af c (4+a)) λd=>
 aD (dH d) λe=>
 some e
def cZ(a:At)(b:Int):Option Ab:=
 aD (gK a.Af b (0:Int)) λc=>
 aD (dH c) λd=>
 some d
def gD(c:At)(d:Int):Option Ab:=
 aD (
 bC c.Af.t.Ac d λf=>
 bB (λ(a,b)=>
 if a<(f.Aa.length:Int)then
 bC f.Aa a λe=>
 aD (cM c.Af d) λj=>
 if a<j then
 aD (dZ c d a) λk=>
 aD (cZ c e) λl=>
 aD (fN ([k,l]:List Ab)) λg=>
 aE ((b++([g]:List Ab)).length<=1000000000) <|
 aE (bH (a+1)) <|
 some (.inl ((a+1),(b++([g]:List Ab))))
 else
 aD (cZ c e) λh=>
 aE ((b++([h]:List Ab)).length<=1000000000) <|
 aE (bH (a+1)) <|
 some (.inl ((a+1),(b++([h]:List Ab))))
 else
 aT (
 some b)) ((0:Int),([]:List Ab))) λi=>
 aD (dT i) λm=>
 some m
def iV(a:At)(b:Int):Option Ab:=
 aD (cM a.Af b) λd=>
 if d=0 then
 aD (dT []) λe=>
 some e
 else
 aD (cM a.Af b) λc=>
 aE (bH (c-1)) <|
 aD (dZ a b (c-1)) λf=>
 some f
def kI(a:At)(b:Int):Option At:=
 bC a.Af.t.Ac b λg=>
 aD (gP a.Af b) λd=>
 aD (cN a b (3:Int)) λm=>
 aD (cU a b (0:Int)) λn=>
 aD (gD a b) λo=>
 aD (dT ([m,n,o]:List Ab)) λe=>
 aD (iC a.Af b) λf=>
 aD (cN a b (2:Int)) λp=>
 aD (cU a b (0:Int)) λq=>
 aD (iV a b) λi=>
 aD (cM a.Af b) λj=>
 bC g.Aa j λh=>
 aD (cZ a h) λk=>
 aD (eG k) λl=>
 aD (dT ([p,q,i,l]:List Ab)) λc=>
 aE ((a.Ai++([(⟨(2:Int),d,(12:Int),e⟩:Ap),(⟨(2:Int),f,(4:Int),c⟩:Ap)]:List Ap)).length<=1000000000) <|
 some (⟨a.Af,(a.Ai++([(⟨(2:Int),d,(12:Int),e⟩:Ap),(⟨(2:Int),f,(4:Int),c⟩:Ap)]:List Ap))⟩:At)
def gQ(a:At)(p:Int):Option Ab:=
 bC a.Af.t.Ac p λf=>
 aD (
 aD (kD ([f.Aa,f.Ae]:List (List Int))) λk=>
 bB (λ(c,e)=>
 if c<(k.length:Int)then
 bC k c λn=>
 aD (cZ a n) λh=>
 aE ((e++([h]:List Ab)).length<=1000000000) <|
 aE (bH (c+1)) <|
 some (.inl ((c+1),(e++([h]:List Ab))))
 else
 aT (
 some e)) ((0:Int),([]:List Ab))) λm=>
 aD (
 aD (iF f) λi=>
 bB (λ(b,d)=>
 if b<(i.length:Int)then
 bC i b λg=>
 aD (
 if g.pos=2 then
 some (1:Int)
 else
 some (0:Int)) λo=>
 aD (jR a.Af.t g.el) λq=>
 aD (lK a.Af q o) λr=>
 aD (dH r) λj=>
 aE ((d++([j]:List Ab)).length<=1000000000) <|
 aE (bH (b+1)) <|
 some (.inl ((b+1),(d++([j]:List Ab))))
 else
 aT (
 some d)) ((0:Int),m)) λl=>
 aD (dT l) λs=>
 some s
def dL(a:At)(b:Int)(c:Ab):Option At:=
 aE ((a.Ai++([(⟨(1:Int),b,(0:Int),c⟩:Ap)]:List Ap)).length<=1000000000) <|
 some (⟨a.Af,(a.Ai++([(⟨(1:Int),b,(0:Int),c⟩:Ap)]:List Ap))⟩:At)
def iD(b:At)(c:Int):Option Ab:=
 aD (
 bC b.Af.t.Ac c λg=>
 bB (λ(a,e)=>
 if a<(g.Aa.length:Int)then
 bC g.Aa a λm=>
 aD (cZ b m) λf=>
 aD (
 if 0<a then
 aE (bH (a-1)) <|
 aD (dZ b c (a-1)) λh=>
 aE ((([f]:List Ab)++([h]:List Ab)).length<=1000000000) <|
 some (([f]:List Ab)++([h]:List Ab))
 else
 some ([f]:List Ab)) λd=>
 aD (
 aD (cM b.Af c) λn=>
 if a<n then
 aD (dZ b c a) λo=>
 aD (eG o) λi=>
 aE ((d++([i]:List Ab)).length<=1000000000) <|
 some (d++([i]:List Ab))
 else
 some d) λl=>
 aD (dT l) λj=>
 aE ((e++([j]:List Ab)).length<=1000000000) <|
 aE (bH (a+1)) <|
 some (.inl ((a+1),(e++([j]:List Ab))))
 else
 aT (
 some e)) ((0:Int),([]:List Ab))) λk=>
 aD (fN k) λp=>
 some p
def iU(a:At)(b:Int):Option Ab:=
 aD (cN a b (0:Int)) λc=>
 aD (cN a b (1:Int)) λd=>
 aD (fN ([c,d]:List Ab)) λe=>
 aD (cU a b (3:Int)) λf=>
 aD (eG f) λg=>
 aD (gQ a b) λh=>
 aD (dT ([e,g,h]:List Ab)) λi=>
 some i
def jK(a:At)(b:Int):Option At:=
 bC a.Af.t.Ac b λe=>
 bC e.Aa (0:Int) λf=>
 aD (cM a.Af b) λC=>
 bC e.Aa C λh=>
 aD (bQ a.Af b (0:Int)) λY=>
 aD (cN a b (0:Int)) λa9=>
 aD (cU a b (3:Int)) λb9=>
 aD (eG b9) λc7=>
 aD (gQ a b) λc8=>
 aD (eG c8) λi=>
 aD (dT ([a9,c7,i]:List Ab)) λj=>
 aD (dL a Y j) λd=>
 aD (bQ a.Af b (1:Int)) λk=>
 aD (cN (⟨a.Af,d.Ai⟩:At) b (1:Int)) λl=>
 aD (cZ (⟨a.Af,d.Ai⟩:At) f) λm=>
 aD (eG m) λn=>
 aD (dT ([l,n]:List Ab)) λo=>
 aD (cN (⟨a.Af,d.Ai⟩:At) b (2:Int)) λp=>
 aD (cU (⟨a.Af,d.Ai⟩:At) b (0:Int)) λq=>
 aD (eG q) λr=>
 aD (cU (⟨a.Af,d.Ai⟩:At) b (3:Int)) λs=>
 aD (gD (⟨a.Af,d.Ai⟩:At) b) λu=>
 aD (dT ([s,u]:List Ab)) λv=>
 aD (eG v) λw=>
 aD (iV (⟨a.Af,d.Ai⟩:At) b) λx=>
 aD (cZ (⟨a.Af,d.Ai⟩:At) h) λy=>
 aD (dT ([x,y]:List Ab)) λz=>
 aD (eG z) λA=>
 aD (iC a.Af b) λB=>
 aD (dH B) λE=>
 aD (eG E) λF=>
 aD (dT ([w,A,F]:List Ab)) λG=>
 aD (fN ([r,G]:List Ab)) λH=>
 aD (dT ([p,H]:List Ab)) λI=>
 aD (cN (⟨a.Af,d.Ai⟩:At) b (3:Int)) λJ=>
 aD (iD (⟨a.Af,d.Ai⟩:At) b) λK=>
 aD (eG K) λL=>
 aD (dT ([J,L]:List Ab)) λM=>
 aD (fN ([o,I,M]:List Ab)) λN=>
 aD (dL (⟨a.Af,d.Ai⟩:At) k N) λc=>
 aD (bQ a.Af b (2:Int)) λO=>
 aD (cN (⟨a.Af,c.Ai⟩:At) b (1:Int)) λP=>
 aD (cZ (⟨a.Af,c.Ai⟩:At) f) λR=>
 aD (cU (⟨a.Af,c.Ai⟩:At) b (3:Int)) λS=>
 aD (cU (⟨a.Af,c.Ai⟩:At) b (0:Int)) λT=>
 aD (cZ (⟨a.Af,c.Ai⟩:At) e.A5) λU=>
 aD (dT ([S,T,U]:List Ab)) λV=>
 aD (eG V) λW=>
 aD (cU (⟨a.Af,c.Ai⟩:At) b (3:Int)) λX=>
 aD (gQ (⟨a.Af,c.Ai⟩:At) b) λZ=>
 aD (eG Z) λa0=>
 aD (fN ([X,a0]:List Ab)) λa1=>
 aD (dT ([P,R,W,a1]:List Ab)) λa2=>
 aD (cN (⟨a.Af,c.Ai⟩:At) b (2:Int)) λa3=>
 aD (cU (⟨a.Af,c.Ai⟩:At) b (0:Int)) λa4=>
 aD (cU (⟨a.Af,c.Ai⟩:At) b (3:Int)) λa5=>
 aD (gD (⟨a.Af,c.Ai⟩:At) b) λa6=>
 aD (dT ([a3,a4,a5,a6]:List Ab)) λa7=>
 aD (cN (⟨a.Af,c.Ai⟩:At) b (3:Int)) λa8=>
 aD (iD (⟨a.Af,c.Ai⟩:At) b) λb0=>
 aD (gP a.Af b) λb1=>
 aD (dH b1) λb2=>
 aD (eG b2) λb3=>
 aD (dT ([a8,b0,b3]:List Ab)) λb4=>
 aD (fN ([a2,a7,b4]:List Ab)) λb5=>
 aD (dL (⟨a.Af,c.Ai⟩:At) O b5) λg=>
 aD (bQ a.Af b (3:Int)) λb6=>
 aD (bQ a.Af b (0:Int)) λb7=>
 aD (dH b7) λb8=>
 aD (iU (⟨a.Af,g.Ai⟩:At) b) λc0=>
 aD (bQ a.Af b (1:Int)) λc1=>
 aD (dH c1) λc2=>
 aD (bQ a.Af b (2:Int)) λc3=>
 aD (dH c3) λc4=>
 aD (fN ([b8,c0,c2,c4]:List Ab)) λc5=>
 aD (dL (⟨a.Af,g.Ai⟩:At) b6 c5) λc6=>
 some (⟨a.Af,c6.Ai⟩:At)
def kY(a:At)(b:Int):Option At:=
 bC a.Af.t.Ac b λj=>
 aD (
 aD (cM a.Af b) λl=>
 aE (bH (l-1)) <|
 bB (λ(k9,c)=>
 if 0<=k9 then
 aD (cN (⟨a.Af,c⟩:At) b (2:Int)) λd=>
 aD (bQ a.Af b (1:Int)) λp=>
 aD (dH p) λe=>
 aD (cU (⟨a.Af,c⟩:At) b (0:Int)) λf=>
 bC j.Aa k9 λn=>
 aD (cZ (⟨a.Af,c⟩:At) n) λg=>
 aE (bH (k9+1)) <|
 bC j.Aa (k9+1) λo=>
 aD (cZ (⟨a.Af,c⟩:At) o) λq=>
 aD (eG q) λr=>
 aD (cU (⟨a.Af,c⟩:At) b (1:Int)) λs=>
 aD (fN ([r,s]:List Ab)) λh=>
 aD (
 if 0<k9 then
 aE (bH (k9-1)) <|
 aD (dZ (⟨a.Af,c⟩:At) b (k9-1)) λk=>
 aE ((([d,e,f,g,h]:List Ab)++([k]:List Ab)).length<=1000000000) <|
 some (([d,e,f,g,h]:List Ab)++([k]:List Ab))
 else
 some ([d,e,f,g,h]:List Ab)) λm=>
 aE (bH (4+k9)) <|
 aD (dW a.Af b (4+k9)) λu=>
 aD (bQ a.Af b (1:Int)) λv=>
 aD (dH v) λw=>
 aD (bQ a.Af b (2:Int)) λx=>
 aD (dH x) λy=>
 aD (fN ([w,y]:List Ab)) λz=>
 aD (dZ (⟨a.Af,c⟩:At) b k9) λA=>
 aD (dT m) λB=>
 aD (fN ([A,B]:List Ab)) λC=>
 aD (dT ([z,C]:List Ab)) λE=>
 aD (dL (⟨a.Af,c⟩:At) u E) λF=>
 aE (bH (k9-1)) <|
 some (.inl ((k9-1),F.Ai))
 else
 aT (
 some c)) ((l-1),a.Ai)) λi=>
 aD (dW a.Af b (1:Int)) λG=>
 aD (iU (⟨a.Af,i⟩:At) b) λH=>
 aD (dL (⟨a.Af,i⟩:At) G H) λI=>
 aD (dW a.Af b (2:Int)) λJ=>
 aD (bQ a.Af b (1:Int)) λK=>
 aD (dH K) λL=>
 aD (dL (⟨a.Af,I.Ai⟩:At) J L) λM=>
 aD (dW a.Af b (3:Int)) λN=>
 aD (bQ a.Af b (2:Int)) λO=>
 aD (dH O) λP=>
 aD (dL (⟨a.Af,M.Ai⟩:At) N P) λR=>
 some (⟨a.Af,R.Ai⟩:At)
def dA(a:Int)(d:At)(e:Int)(c:Bool)(b:(List Int)):Option (Bool×(List Int)):=
 aD (
 if a<0 then
 some true
 else
 aD (cM d.Af e) λf=>
 some (decide (a=f))) λh=>
 if h=true then
 some (true,b)
 else
 aD (fZ b a) λg=>
 if(!(g))=true then
 aE ((b++([a]:List Int)).length<=1000000000) <|
 some (c,(b++([a]:List Int)))
 else
 some (c,b)
def kJ(g:At)(I:Int)(j:Int):Option (Bool×(List Int)):=
 bC g.Af.t.Ac I λf=>
 bC g.Af.t.Ac j λa=>
 aD (iT a f) λu=>
 aD (iT f a) λv=>
 aD (
 bB (λ(d,n,k)=>
 if d<(f.Aa.length:Int)then
 bC f.Aa d λq=>
 aD (
 aD (eQ a.Aa q) λs=>
 if 0<=s then
 aD (dA s g j n k) λ(J,K)=>
 some (J,K)
 else
 some (n,k)) λ(B,l)=>
 if B=true then
 aE (bH (d+1)) <|
 some (.inl ((d+1),true,l))
 else
 aD (fZ a.Ae q) λL=>
 if L=true then
 aE (bH (d+1)) <|
 some (.inl ((d+1),!(u),l))
 else
 aE (bH (d+1)) <|
 some (.inl ((d+1),false,l))
 else
 aT (
 some (n,k))) ((0:Int),false,([]:List Int))) λ(F,z)=>
 aD (
 bB (λ(b,o,m)=>
 if b<(f.Ae.length:Int)then
 bC f.Ae b λr=>
 aD (
 aD (eQ a.Aa r) λw=>
 if((decide (0<=w))&&(!(v)))=true then
 aD (dA w g j o m) λ(M,N)=>
 some (M,N)
 else
 some (o,m)) λ(E,h)=>
 if E=true then
 aE (bH (b+1)) <|
 some (.inl ((b+1),true,h))
 else
 aD (fZ a.Ae r) λO=>
 if O=true then
 if(!(u))=true then
 aE (bH (b+1)) <|
 some (.inl ((b+1),!(v),h))
 else
 aE (bH (b+1)) <|
 some (.inl ((b+1),false,h))
 else
 aE (bH (b+1)) <|
 some (.inl ((b+1),false,h))
 else
 aT (
 some (o,m))) ((0:Int),F,z)) λ(C,y)=>
 aD (
 aD (iF f) λx=>
 bB (λ(e,p,i)=>
 if e<(x.length:Int)then
 bC x e λc=>
 aE (bH ((3:Int)-c.pos)) <|
 aD (
 aD (dK a.An (⟨c.el,((3:Int)-c.pos)⟩:Ad)) λP=>
 if P=true then
 some true
 else
 aD (dK a.Ax (⟨c.el,((3:Int)-c.pos)⟩:Ad)) λR=>
 some R) λX=>
 if X=true then
 aE (bH (e+1)) <|
 some (.inl ((e+1),true,i))
 else
 aD (dK a.Ag (⟨c.el,((3:Int)-c.pos)⟩:Ad)) λS=>
 if S=true then
 aD (jR g.Af.t c.el) λT=>
 bC g.Af.t.A7 T λH=>
 aD (eQ a.Aa H) λU=>
 aD (dA U g j p i) λ(V,W)=>
 aE (bH (e+1)) <|
 some (.inl ((e+1),V,W))
 else
 aE (bH (e+1)) <|
 some (.inl ((e+1),p,i))
 else
 aT (
 some (p,i))) ((0:Int),C,y)) λ(G,A)=>
 some (G,A)
def kZ(b:At)(k:Int)(a:Int):Option ((List Ab)):=
 aD (kJ b k a) λ(t,g)=>
 aD (bQ b.Af a (3:Int)) λv=>
 aD (dH v) λc=>
 aD (
 if a<k then
 aD (bQ b.Af a (4:Int)) λq=>
 aD (dH q) λr=>
 aD (fN ([c,r]:List Ab)) λf=>
 some (f.op,f.var,f.args)
 else
 some (c.op,c.var,c.args)) λ(h,i,j)=>
 if t=true then
 aD (eG (⟨h,i,j⟩:Ab)) λs=>
 some ([s]:List Ab)
 else
 if(g.length:Int)=0 then
 some ([]:List Ab)
 else
 aD (eG (⟨h,i,j⟩:Ab)) λl=>
 aD (
 bB (λ(d,e)=>
 if d<(g.length:Int)then
 bC g d λp=>
 aD (dZ b a p) λm=>
 aE ((e++([m]:List Ab)).length<=1000000000) <|
 aE (bH (d+1)) <|
 some (.inl ((d+1),(e++([m]:List Ab))))
 else
 aT (
 some e)) ((0:Int),([]:List Ab))) λo=>
 aD (dT o) λn=>
 aE ((([l]:List Ab)++([n]:List Ab)).length<=1000000000) <|
 aD (fN (([l]:List Ab)++([n]:List Ab))) λu=>
 some ([u]:List Ab)
def kK(a:At)(c:Int):Option Ab:=
 bC a.Af.t.Ac c λj=>
 aD (cU a c (2:Int)) λC=>
 aD (bQ a.Af c (3:Int)) λE=>
 aD (dH E) λF=>
 aD (eG F) λH=>
 aD (
 aD (kD ([j.Aa,j.Ae]:List (List Int))) λr=>
 bB (λ(f,h)=>
 if f<(r.length:Int)then
 bC r f λz=>
 aD (gK a.Af z (1:Int)) λB=>
 aD (dH B) λm=>
 aE ((h++([m]:List Ab)).length<=1000000000) <|
 aE (bH (f+1)) <|
 some (.inl ((f+1),(h++([m]:List Ab))))
 else
 aT (
 some h)) ((0:Int),([C,H]:List Ab))) λv=>
 aD (
 bB (λ(b,d)=>
 if b<(a.Af.t.Ac.length:Int)then
 if b=c then
 aE (bH (b+1)) <|
 some (.inl ((b+1),d))
 else
 aD (kZ a c b) λn=>
 aE ((d++n).length<=1000000000) <|
 aE (bH (b+1)) <|
 some (.inl ((b+1),(d++n)))
 else
 aT (
 some d)) ((0:Int),v)) λs=>
 aD (
 aD (iF j) λo=>
 bB (λ(g,i)=>
 if g<(o.length:Int)then
 bC o g λl=>
 aD (jR a.Af.t l.el) λp=>
 aD (gY a.Af p) λG=>
 aD (dH G) λe=>
 aD (
 if l.pos=1 then
 aD (eG e) λk=>
 some (k.op,k.var,k.args)
 else
 some (e.op,e.var,e.args)) λ(w,x,y)=>
 bC a.Af.t.A7 p λA=>
 aD (cZ a A) λI=>
 aD (fN ([(⟨w,x,y⟩:Ab),I]:List Ab)) λq=>
 aE ((i++([q]:List Ab)).length<=1000000000) <|
 aE (bH (g+1)) <|
 some (.inl ((g+1),(i++([q]:List Ab))))
 else
 aT (
 some i)) ((0:Int),s)) λu=>
 aD (dT u) λJ=>
 some J
def lS(b:At)(i:Int):Option Ab:=
 aD (
 bB (λ(c,g,f)=>
 if c<(b.Af.t.Ac.length:Int)then
 aD (
 bC b.Af.t.Ac c λq=>
 aD (iF q) λj=>
 bB (λ(a,d,e)=>
 if a<(j.length:Int)then
 bC j a λh=>
 bC b.Af.t.Ag i λr=>
 if h.el=r then
 if h.pos=2 then
 aD (bQ b.Af c (4:Int)) λs=>
 aD (dH s) λk=>
 aE ((e++([k]:List Ab)).length<=1000000000) <|
 aE (bH (a+1)) <|
 some (.inl ((a+1),d,(e++([k]:List Ab))))
 else
 aD (bQ b.Af c (4:Int)) λu=>
 aD (dH u) λl=>
 aE ((d++([l]:List Ab)).length<=1000000000) <|
 aE (bH (a+1)) <|
 some (.inl ((a+1),(d++([l]:List Ab)),e))
 else
 aE (bH (a+1)) <|
 some (.inl ((a+1),d,e))
 else
 aT (
 some (d,e))) ((0:Int),g,f)) λ(n,o)=>
 aE (bH (c+1)) <|
 some (.inl ((c+1),n,o))
 else
 aT (
 some (g,f))) ((0:Int),([]:List Ab),([]:List Ab))) λ(m,p)=>
 aD (fN p) λv=>
 aD (gY b.Af i) λw=>
 aD (dH w) λx=>
 aD (fN m) λy=>
 aD (eG y) λz=>
 aD (dT ([x,z]:List Ab)) λA=>
 aD (fN ([v,A]:List Ab)) λB=>
 some B
def lZ(b:Al):Option (Program×Int):=
 aD (oS b) λ(a,o)=>
 if o=0 then
 aD (
 bB (λ(f,k)=>
 if f<(b.Ac.length:Int)then
 aD (kI (⟨a,k⟩:At) f) λv=>
 aE (bH (f+1)) <|
 some (.inl ((f+1),v.Ai))
 else
 aT (
 some k)) ((0:Int),([]:List Ap))) λs=>
 aD (
 bB (λ(g,l)=>
 if g<(b.Ac.length:Int)then
 aD (jK (⟨a,l⟩:At) g) λw=>
 aE (bH (g+1)) <|
 some (.inl ((g+1),w.Ai))
 else
 aT (
 some l)) ((0:Int),s)) λp=>
 aD (
 bB (λ(h,m)=>
 if h<(b.Ac.length:Int)then
 aD (kY (⟨a,m⟩:At) h) λx=>
 aE (bH (h+1)) <|
 some (.inl ((h+1),x.Ai))
 else
 aT (
 some m)) ((0:Int),p)) λq=>
 aD (
 bB (λ(d,i)=>
 if d<(b.Ac.length:Int)then
 aD (bQ a d (4:Int)) λy=>
 aD (kK (⟨a,i⟩:At) d) λz=>
 aD (dL (⟨a,i⟩:At) y z) λA=>
 aE (bH (d+1)) <|
 some (.inl ((d+1),A.Ai))
 else
 aT (
 some i)) ((0:Int),q)) λr=>
 aD (
 bB (λ(e,j)=>
 if e<(b.Ag.length:Int)then
 aD (gY a e) λB=>
 aD (lS (⟨a,j⟩:At) e) λC=>
 aD (dL (⟨a,j⟩:At) B C) λE=>
 aE (bH (e+1)) <|
 some (.inl ((e+1),E.Ai))
 else
 aT (
 some j)) ((0:Int),r)) λt=>
 aD (
 bB (λ(c,n)=>
 if c<(b.Ac.length:Int)then
 aD (dW a c (0:Int)) λF=>
 aD (bQ a c (0:Int)) λG=>
 aD (dH G) λH=>
 aD (bQ a c (4:Int)) λI=>
 aD (dH I) λJ=>
 aD (fN ([H,J]:List Ab)) λK=>
 aD (dL (⟨a,n⟩:At) F K) λL=>
 aE (bH (c+1)) <|
 some (.inl ((c+1),L.Ai))
 else
 aT (
 some n)) ((0:Int),t)) λu=>
 aD (jX a) λM=>
 some ((⟨M,a.inputs,u⟩:Program),(0:Int))
 else
 some ((⟨([]:List BA),(0:Int),([]:List Ap)⟩:Program),o)
def rE(g:BA)(b:BA)(e:(List Int)):Option BA:=
 aD (
 bB (λ(d,a)=>
 if a<(e.length:Int)then
 bC e a λf=>
 aD (nL f) λc=>
 aE (b.size+c.size<=9223372036854775807) <|
 aE (d.size+(b++c).size<=9223372036854775807) <|
 aE (bH (a+1)) <|
 some (.inl ((d++(b++c)),(a+1)))
 else
 aT (
 some d)) (g,(0:Int))) λh=>
 some h
def tC(a:(List Ab)):Option Ab:=
 some (⟨(6:Int),(0:Int),a⟩:Ab)
def kH(a:Ab):Option Ab:=
 some (⟨(4:Int),(0:Int),([a]:List Ab)⟩:Ab)
def nY(a:(List Ab)):Option Ab:=
 some (⟨(5:Int),(0:Int),a⟩:Ab)
def bS(a:Av)(b:BA)(c:(List Int)):Option Ab:=
 aD (rE b (⟨#[46]⟩:BA) c) λd=>
 aE (a.vars.map (·.1)).Nodup <|
 some (⟨(3:Int),((lF a.vars d).getD (0:Int)),([]:List Ab)⟩:Ab)
def eB(a:Av)(b:Int):Option Ab:=
 aD (bS a (⟨#[115,101,116]⟩:BA) ([b]:List Int)) λc=>
 aD (bS a (⟨#[99,108,101,97,114]⟩:BA) ([b]:List Int)) λd=>
 aD (bS a (⟨#[117,115,101,100]⟩:BA) ([b]:List Int)) λe=>
 aD (bS a (⟨#[104,101,108,100]⟩:BA) ([b]:List Int)) λf=>
 aD (tC ([c,d,e,f]:List Ab)) λg=>
 some g
def eH(a:Av)(b:Int)(d:Int):Option Ab:=
 bC a.A0.Ac b λc=>
 aE (bH ((c.Aa.length:Int)-1)) <|
 if d=((c.Aa.length:Int)-1)then
 aD (eB a b) λe=>
 some e
 else
 aD (eB a b) λf=>
 aD (bS a (⟨#[114,101,108]⟩:BA) ([b,d]:List Int)) λg=>
 aD (kH g) λh=>
 aD (nY ([f,h]:List Ab)) λi=>
 some i
def eV(a:Av)(b:Ab)(d:BA)(e:(List Int)):Option Av:=
 aD (rE d (⟨#[32]⟩:BA) e) λc=>
 aE ((a.list++([(⟨c,b⟩:Am)]:List Am)).length<=1000000000) <|
 some (⟨a.A0,a.vars,(a.list++([(⟨c,b⟩:Am)]:List Am))⟩:Av)
def iP(a:Av):Option Av:=
 bB (λ(b,g)=>
 if b<(a.A0.Ac.length:Int)then
 aD (
 aE (bH (b+1)) <|
 bB (λ(d,f)=>
 if d<(a.A0.Ac.length:Int)then
 aD (
 bC a.A0.Ac b λh=>
 bB (λ(c,e)=>
 if c<(h.Aa.length:Int)then
 bC h.Aa c λi=>
 bC a.A0.Ac d λm=>
 aD (eQ m.Aa i) λj=>
 if 0<=j then
 aD (eH (⟨a.A0,a.vars,e⟩:Av) b c) λn=>
 aD (eH (⟨a.A0,a.vars,e⟩:Av) d j) λo=>
 aD (nY ([n,o]:List Ab)) λp=>
 aD (kH p) λq=>
 aD (eV (⟨a.A0,a.vars,e⟩:Av) q (⟨#[112,97,116,104]⟩:BA) ([b,d,i]:List Int)) λr=>
 aE (bH (c+1)) <|
 some (.inl ((c+1),r.list))
 else
 aE (bH (c+1)) <|
 some (.inl ((c+1),e))
 else
 aT (
 some e)) ((0:Int),f)) λk=>
 aE (bH (d+1)) <|
 some (.inl ((d+1),k))
 else
 aT (
 some f)) ((b+1),g)) λl=>
 aE (bH (b+1)) <|
 some (.inl ((b+1),l))
 else
 aT (
 some (⟨a.A0,a.vars,g⟩:Av))) ((0:Int),a.list)
def gJ(a:Av):Option Av:=
 bB (λ(c,h)=>
 if c<(a.A0.Ac.length:Int)then
 aD (
 bC a.A0.Ac c λg=>
 bB (λ(b,f)=>
 if b<(a.A0.Ac.length:Int)then
 aD (
 bC a.A0.Ac b λi=>
 aD (
 if c=b then
 some true
 else
 aD (iT g i) λn=>
 some n) λt=>
 if t=true then
 some f
 else
 bB (λ(d,e)=>
 if d<(g.Ae.length:Int)then
 bC g.Ae d λj=>
 aD (eQ i.Aa j) λk=>
 if 0<=k then
 aD (eB (⟨a.A0,a.vars,e⟩:Av) c) λo=>
 aD (eH (⟨a.A0,a.vars,e⟩:Av) b k) λp=>
 aD (nY ([o,p]:List Ab)) λq=>
 aD (kH q) λr=>
 aD (eV (⟨a.A0,a.vars,e⟩:Av) r (⟨#[111,118,101,114]⟩:BA) ([c,b,j]:List Int)) λs=>
 aE (bH (d+1)) <|
 some (.inl ((d+1),s.list))
 else
 aE (bH (d+1)) <|
 some (.inl ((d+1),e))
 else
 aT (
 some e)) ((0:Int),f)) λl=>
 aE (bH (b+1)) <|
 some (.inl ((b+1),l))
 else
 aT (
 some f)) ((0:Int),h)) λm=>
 aE (bH (c+1)) <|
 some (.inl ((c+1),m))
 else
 aT (
 some (⟨a.A0,a.vars,h⟩:Av))) ((0:Int),a.list)
def iQ(a:Av)(c:Int)(d:Ad):Option Ab:=
 bC a.A0.Ac c λb=>
 aD (jR a.A0 d.el) λj=>
 bC a.A0.A7 j λf=>
 aD (eQ b.Aa f) λe=>
 aD (
 if e<0 then
 some true
 else
 aD (dK b.An d) λk=>
 if k=true then
 some true
 else
 aD (dK b.Ax d) λg=>
 some g) λl=>
 if l=true then
 aD (eB a c) λh=>
 some h
 else
 aD (eH a c e) λi=>
 some i
def jE(a:Av)(f:Int):Option Av:=
 bC a.A0.Ac f λm=>
 aD (iF m) λi=>
 bB (λ(d,b)=>
 if d<(i.length:Int)then
 bC i d λe=>
 aD (jR a.A0 e.el) λh=>
 aD (bS (⟨a.A0,a.vars,b⟩:Av) (⟨#[108,105,101]⟩:BA) ([h]:List Int)) λc=>
 aD (
 if e.pos=1 then
 aD (kH c) λg=>
 some (g.op,g.var,g.args)
 else
 some (c.op,c.var,c.args)) λ(j,k,l)=>
 aD (iQ (⟨a.A0,a.vars,b⟩:Av) f e) λn=>
 aD (kH n) λo=>
 aD (tC ([o,(⟨j,k,l⟩:Ab)]:List Ab)) λp=>
 aD (eV (⟨a.A0,a.vars,b⟩:Av) p (⟨#[108,105,101]⟩:BA) ([f,h]:List Int)) λq=>
 aE (bH (d+1)) <|
 some (.inl ((d+1),q.list))
 else
 aT (
 some (⟨a.A0,a.vars,b⟩:Av))) ((0:Int),a.list)
def iA(a:Av)(g:Int):Option Av:=
 bC a.A0.Ac g λf=>
 aD (
 aD (kD ([f.Aa,f.Ae]:List (List Int))) λl=>
 bB (λ(c,e)=>
 if c<(l.length:Int)then
 bC l c λo=>
 aD (bS a (⟨#[102,114,101,101]⟩:BA) ([o]:List Int)) λi=>
 aE ((e++([i]:List Ab)).length<=1000000000) <|
 aE (bH (c+1)) <|
 some (.inl ((c+1),(e++([i]:List Ab))))
 else
 aT (
 some e)) ((0:Int),([]:List Ab))) λn=>
 aD (
 aD (iF f) λj=>
 bB (λ(b,d)=>
 if b<(j.length:Int)then
 bC j b λh=>
 aD (
 if h.pos=2 then
 some (⟨#[114,101,118,101,114,115,101]⟩:BA)
 else
 some (⟨#[110,111,114,109,97,108]⟩:BA)) λv=>
 aD (jR a.A0 h.el) λp=>
 aD (bS a v ([p]:List Int)) λk=>
 aE ((d++([k]:List Ab)).length<=1000000000) <|
 aE (bH (b+1)) <|
 some (.inl ((b+1),(d++([k]:List Ab))))
 else
 aT (
 some d)) ((0:Int),n)) λm=>
 aD (bS a (⟨#[99,108,101,97,114]⟩:BA) ([g]:List Int)) λq=>
 aD (kH q) λr=>
 aD (nY m) λs=>
 aD (tC ([r,s]:List Ab)) λt=>
 aD (eV a t (⟨#[112,114,111,118,101,100]⟩:BA) ([g]:List Int)) λu=>
 some (⟨a.A0,a.vars,u.list⟩:Av)
def jV(b:Av)(e:Int):Option Av:=
 aD (
 bB (λ(a,f)=>
 if a<4 then
 aD (
 bC ([(⟨#[115,101,116]⟩:BA),(⟨#[99,108,101,97,114]⟩:BA),(⟨#[117,115,101,100]⟩:BA),(⟨#[104,101,108,100]⟩:BA)]:List BA) a λj=>
 aE (0<=(0:Int)/\0<=a/\a<=4) <|
 bB (λ(c,d)=>
 if c<((sub ([(⟨#[115,101,116]⟩:BA),(⟨#[99,108,101,97,114]⟩:BA),(⟨#[117,115,101,100]⟩:BA),(⟨#[104,101,108,100]⟩:BA)]:List BA) (0:Int) a).length:Int)then
 bC (sub ([(⟨#[115,101,116]⟩:BA),(⟨#[99,108,101,97,114]⟩:BA),(⟨#[117,115,101,100]⟩:BA),(⟨#[104,101,108,100]⟩:BA)]:List BA) (0:Int) a) c λk=>
 aD (bS b j ([e]:List Int)) λl=>
 aD (bS b k ([e]:List Int)) λm=>
 aD (nY ([l,m]:List Ab)) λn=>
 aD (kH n) λg=>
 aE ((d++([g]:List Ab)).length<=1000000000) <|
 aE (bH (c+1)) <|
 some (.inl ((c+1),(d++([g]:List Ab))))
 else
 aT (
 some d)) ((0:Int),f)) λi=>
 aE (bH (a+1)) <|
 some (.inl ((a+1),i))
 else
 aT (
 some f)) ((0:Int),([]:List Ab))) λh=>
 aD (nY h) λo=>
 aD (eV b o (⟨#[111,110,101]⟩:BA) ([e]:List Int)) λp=>
 some (⟨b.A0,b.vars,p.list⟩:Av)
def jD(a:Av)(b:Int):Option Av:=
 aD (
 bB (λ(k6,c)=>
 bC a.A0.Ac b λd=>
 aE (bH ((d.Aa.length:Int)-1)) <|
 if k6<((d.Aa.length:Int)-1)then
 aD (bS a (⟨#[114,101,108]⟩:BA) ([b,k6]:List Int)) λg=>
 aD (kH g) λh=>
 aE (bH (k6-1)) <|
 aD (bS a (⟨#[114,101,108]⟩:BA) ([b,(k6-1)]:List Int)) λi=>
 aD (tC ([h,i]:List Ab)) λe=>
 aE ((c++([e]:List Ab)).length<=1000000000) <|
 aE (bH (k6+1)) <|
 some (.inl ((k6+1),(c++([e]:List Ab))))
 else
 aT (
 some c)) ((1:Int),([]:List Ab))) λf=>
 aD (nY f) λj=>
 aD (eV a j (⟨#[114,101,108]⟩:BA) ([b]:List Int)) λk=>
 some (⟨a.A0,a.vars,k.list⟩:Av)
def uX(a:Al):Option ((List Am)×Int):=
 aD (lZ a) λ(m,n)=>
 if n=0 then
 aD (
 bB (λ(c,h)=>
 if c<(m.names.length:Int)then
 bC m.names c λs=>
 aE (h.map (·.1)).Nodup <|
 aE (bH (c+1)) <|
 some (.inl ((c+1),(Nh h s c)))
 else
 aT (
 some h)) ((0:Int),([]:List (BA×Int)))) λb=>
 aD (iP (⟨a,b,([]:List Am)⟩:Av)) λt=>
 aD (gJ (⟨a,b,t.list⟩:Av)) λu=>
 aD (
 bB (λ(d,i)=>
 if d<(a.Ac.length:Int)then
 aD (jE (⟨a,b,i⟩:Av) d) λv=>
 aE (bH (d+1)) <|
 some (.inl ((d+1),v.list))
 else
 aT (
 some i)) ((0:Int),u.list)) λo=>
 aD (
 bB (λ(e,j)=>
 if e<(a.Ac.length:Int)then
 aD (iA (⟨a,b,j⟩:Av) e) λw=>
 aE (bH (e+1)) <|
 some (.inl ((e+1),w.list))
 else
 aT (
 some j)) ((0:Int),o)) λp=>
 aD (
 bB (λ(f,k)=>
 if f<(a.Ac.length:Int)then
 aD (jV (⟨a,b,k⟩:Av) f) λx=>
 aE (bH (f+1)) <|
 some (.inl ((f+1),x.list))
 else
 aT (
 some k)) ((0:Int),p)) λq=>
 aD (
 bB (λ(g,l)=>
 if g<(a.Ac.length:Int)then
 aD (jD (⟨a,b,l⟩:Av) g) λy=>
 aE (bH (g+1)) <|
 some (.inl ((g+1),y.list))
 else
 aT (
 some l)) ((0:Int),q)) λr=>
 some (r,(0:Int))
 else
 some (([]:List Am),n)
def ky(a:Int):Option Ab:=
 some (⟨(3:Int),a,([]:List Ab)⟩:Ab)
def xM:Nat->Ab->Int->Int->Int->Option (Bool×Int)
 |0,_,_,_,_=>none
 |fu+1,a,c,d,b=>
 if((decide (12<d))||(decide (b=0)))=true then
 none
 else
 aE (bH (b-1)) <|
 aD (
 if a.op=1 then
 none
 else
 some ()) λ_=>
 if a.op=2 then
 none
 else
 if a.op=3 then
 some (((decide (0<=a.var))&&((decide (a.var<c))&&(decide ((a.args.length:Int)=0)))),(b-1))
 else
 none
def Iy(a:Ab)(b:Int)(c:Int)(d:Int):Option (Bool×Int):=xM eO a b c d
def zK(a:Ab)(b:Int):Option Bool:=
 aD (Iy a b (1:Int) (20000:Int)) λ(c,d)=>
 some c
def cp(b:Program)(a:Ap):Option Bool:=
 dS (
 if a.kind=1 then
 if a.A1=0 then
 some (.inl ())
 else
 none
 else
 if a.kind=2 then
 if((decide (a.A1<1))||(decide (1073741824<a.A1)))=true then
 none
 else
 some (.inl ())
 else
 none) λ_=>
 aD (
 if b.inputs<=a.var then
 if a.var<(b.names.length:Int)then
 aD (zK a.expr (b.names.length:Int)) λc=>
 some c
 else
 some false
 else
 some false) λd=>
 some d
def D8(a:Program):Option Int:=
 if 2000<(a.names.length:Int)then
 none
 else
 if((decide (a.inputs<0))||(decide ((a.names.length:Int)<a.inputs)))=true then
 none
 else
 dS (
 bB (λd=>
 if d<(a.Ai.length:Int)then
 bC a.Ai d λg=>
 aD (cp a g) λh=>
 if(!(h))=true then
 none
 else
 aE (bH (d+1)) <|
 some (.inl (d+1))
 else
 aT (
 some (.inl ()))) (0:Int)) λ_=>
 aE (0<=(a.names.length:Int)/\(a.names.length:Int)<=1000000000) <|
 dS (
 bB (λ(c,b)=>
 if c<(a.Ai.length:Int)then
 bC a.Ai c λe=>
 bC b e.var λf=>
 if f=true then
 none
 else
 bC b e.var λj=>
 aE (bH (c+1)) <|
 some (.inl ((c+1),(b.set e.var.toNat true)))
 else
 aT (
 some (.inl b))) ((0:Int),(List.replicate (a.names.length:Int).toNat false))) λi=>
 some (0:Int)
def uD:Nat->Ab->Option Ab
 |0,_=>none
 |fu+1,a=>
 aD (
 bB (λb=>
 if b<(a.args.length:Int)then
 none
 else
 aT (
 some ())) (0:Int)) λ_=>
 some (⟨a.op,a.var,([]:List Ab)⟩:Ab)
def C1(a:Ab):Option Ab:=uD eO a
def uE:Nat->Ab->Int->Ab->Option Ab
 |0,_,_,_=>none
 |fu+1,a,b,c=>
 if((decide (a.op=3))&&(decide (a.var=b)))=true then
 aD (C1 c) λd=>
 some d
 else
 aD (
 bB (λe=>
 if e<(a.args.length:Int)then
 none
 else
 aT (
 some ())) (0:Int)) λ_=>
 some (⟨a.op,a.var,([]:List Ab)⟩:Ab)
def qb(a:Ab)(b:Int)(c:Ab):Option Ab:=uE eO a b c
def bz:Nat->Ab->Option Int
 |0,_=>none
 |fu+1,c=>
 aD (
 bB (λ(b,d)=>
 if d<(c.args.length:Int)then
 none
 else
 aT (
 some b)) ((1:Int),(0:Int))) λa=>
 some a
def Ep(a:Ab):Option Int:=bz eO a
def sF:Nat->Ab->Int->Option Int
 |0,_,_=>none
 |fu+1,a,d=>
 aD (
 if((decide (a.op=3))&&(decide (a.var=d)))=true then
 some ()
 else
 none) λ_=>
 aD (
 bB (λ(c,e)=>
 if e<(a.args.length:Int)then
 none
 else
 aT (
 some c)) ((1:Int),(0:Int))) λb=>
 some b
def yw(a:Ab)(b:Int):Option Int:=sF eO a b
def xE:Nat->Ab->Ab->Option Bool
 |0,_,_=>none
 |fu+1,a,b=>
 if((!(decide (a.op=b.op)))||((!(decide (a.var=b.var)))||(!(decide ((a.args.length:Int)=(b.args.length:Int))))))=true then
 none
 else
 dS (
 bB (λc=>
 if c<(a.args.length:Int)then
 none
 else
 aT (
 some (.inl ()))) (0:Int)) λ_=>
 some true
def zq(a:Ab)(b:Ab):Option Bool:=xE eO a b
def wD(a:Ab):Option Pa:=
 if a.op=3 then
 some (⟨200,a⟩:Pa)
 else
 if a.op=4 then
 if 0<(a.args.length:Int)then
 some (⟨201,a⟩:Pa)
 else
 some (⟨232,a⟩:Pa)
 else
 if a.op=5 then
 some (⟨202,a⟩:Pa)
 else
 if a.op=6 then
 some (⟨203,a⟩:Pa)
 else
 some (⟨232,a⟩:Pa)
def mP:Nat->Ab->(List Bool)->Option Bool
 |0,_,_=>none
 |fu+1,f,b=>
 dS (
 aD (wD f) λa=>
 if a.tid=200 then
 aD (
 if 0<=a.e.var then
 if a.e.var<(b.length:Int)then
 bC b a.e.var λj=>
 some j
 else
 some false
 else
 some false) λn=>
 aT (
 some n)
 else
 if a.tid=201 then
 bC a.e.args (0:Int) λg=>
 aD ((mP fu) g b) λk=>
 aT (
 some (!(k)))
 else
 if a.tid=202 then
 dS (
 bB (λc=>
 if c<(a.e.args.length:Int)then
 bC a.e.args c λh=>
 aD ((mP fu) h b) λl=>
 if(!(l))=true then
 aT (
 aT (
 aT (
 some false)))
 else
 aE (bH (c+1)) <|
 some (.inl (c+1))
 else
 aT (
 some (.inl ()))) (0:Int)) λ_=>
 aT (
 some true)
 else
 if a.tid=203 then
 dS (
 bB (λd=>
 if d<(a.e.args.length:Int)then
 bC a.e.args d λi=>
 aD ((mP fu) i b) λm=>
 if m=true then
 aT (
 aT (
 aT (
 some true)))
 else
 aE (bH (d+1)) <|
 some (.inl (d+1))
 else
 aT (
 some (.inl ()))) (0:Int)) λ_=>
 aT (
 some false)
 else
 some (.inl ())) λ_=>
 some (decide (f.op=2))
def En(a:Ab)(b:(List Bool)):Option Bool:=mP eO a b
def fh(a:Ab)(b:(List Bool)):Option Bool:=
 aD (En a b) λc=>
 some c
def pM(a:Am)(b:Machine):Option Bool:=
 aD (fh a.expr b.vars) λc=>
 some (!(c))
def jZ(b:(List Am))(d:Am->Option Bool):Option Int:=
 dS (
 bB (λa=>
 if a<(b.length:Int)then
 bC b a λc=>
 aD (d c) λe=>
 if e=true then
 aT (
 aT (
 some a))
 else
 aE (bH (a+1)) <|
 some (.inl (a+1))
 else
 aT (
 some (.inl ()))) (0:Int)) λ_=>
 some (-1:Int)
def nQ(b:(List Am))(c:Machine):Option Int:=
 aD (jZ b (λa=>pM a c)) λd=>
 some d
def sG(a:Program)(n:Ab):Option (Ab×Int):=
 aD (
 aD (D8 a) λs=>
 if s=0 then
 aD (zK n (a.names.length:Int)) λu=>
 some (!(u))
 else
 some true) λv=>
 if v=true then
 none
 else
 aE (bH ((a.names.length:Int)+(a.Ai.length:Int))) <|
 aD (qb n (-1:Int) (⟨(0:Int),(0:Int),([]:List Ab)⟩:Ab)) λj=>
 dS (
 aE (bH ((a.Ai.length:Int)-1)) <|
 bB (λ(c,d,e,f)=>
 if 0<=c then
 bC a.Ai c λb=>
 aD (
 if b.kind=2 then
 aE (bH ((a.names.length:Int)+c)) <|
 some ((3:Int),((a.names.length:Int)+c),([]:List Ab))
 else
 some (b.expr.op,b.expr.var,b.expr.args)) λ(k,l,m)=>
 aD (Ep (⟨d,e,f⟩:Ab)) λo=>
 aD (yw (⟨d,e,f⟩:Ab) b.var) λi=>
 aD (Ep (⟨k,l,m⟩:Ab)) λg=>
 aE (bH (g-1)) <|
 aE (bH (i*(g-1))) <|
 aE (bH (o+(i*(g-1)))) <|
 if 20000<(o+(i*(g-1)))then
 none
 else
 aD (qb (⟨d,e,f⟩:Ab) b.var (⟨k,l,m⟩:Ab)) λh=>
 aD (zK h ((a.names.length:Int)+(a.Ai.length:Int))) λt=>
 if(!(t))=true then
 none
 else
 aE (bH (c-1)) <|
 some (.inl ((c-1),h.op,h.var,h.args))
 else
 aT (
 some (.inl (d,e,f)))) (((a.Ai.length:Int)-1),j.op,j.var,j.args)) λ(r,p,q)=>
 some ((⟨r,p,q⟩:Ab),(0:Int))
def qS:Option Bool:=
 aD (z6) λg=>
 aD (sZ g) λ(o,v)=>
 aD (uX o) λ(b,s)=>
 aD (ky (0:Int)) λc=>
 aD (ky (1:Int)) λt=>
 aD (sG (⟨([(⟨#[97]⟩:BA),(⟨#[98]⟩:BA)]:List BA),(1:Int),([(⟨(1:Int),(1:Int),(0:Int),c⟩:Ap)]:List Ap)⟩:Program) t) λ(h,i)=>
 bC ([(⟨(1:Int),(1:Int),(0:Int),c⟩:Ap)]:List Ap) (0:Int) λa=>
 bC (([(⟨(1:Int),(1:Int),(0:Int),c⟩:Ap)]:List Ap).set (0:Int).toNat (⟨(2:Int),a.var,a.A1,a.expr⟩:Ap)) (0:Int) λd=>
 aD (ky (1:Int)) λj=>
 aD (sG (⟨([(⟨#[97]⟩:BA),(⟨#[98]⟩:BA)]:List BA),(1:Int),((([(⟨(1:Int),(1:Int),(0:Int),c⟩:Ap)]:List Ap).set (0:Int).toNat (⟨(2:Int),a.var,a.A1,a.expr⟩:Ap)).set (0:Int).toNat (⟨d.kind,d.var,(2:Int),d.expr⟩:Ap))⟩:Program) j) λ(k,l)=>
 aD (
 if s=0 then
 if(b.length:Int)=6 then
 bC b (0:Int) λe=>
 if e.name=(⟨#[112,114,111,118,101,100,32,48]⟩:BA)then
 bC b (5:Int) λf=>
 if f.name=(⟨#[114,101,108,32,49]⟩:BA)then
 if i=0 then
 aD (ky (0:Int)) λm=>
 aD (zq h m) λn=>
 if n=true then
 if l=0 then
 aD (ky (2:Int)) λp=>
 aD (zq k p) λq=>
 if q=true then
 aD (nQ b (⟨([]:List Bool),([]:List Int),false⟩:Machine)) λr=>
 some (decide (r=(-1:Int)))
 else
 some false
 else
 some false
 else
 some false
 else
 some false
 else
 some false
 else
 some false
 else
 some false
 else
 some false) λu=>
 some u
def qL(f:Al)(d:(List Int)):Option Bool:=
 dS (
 bB (λa=>
 if a<(d.length:Int)then
 dS (
 bC d a λc=>
 if((decide (c<0))||(decide (f.Aa<=c)))=true then
 aT (
 aT (
 aT (
 some false)))
 else
 bB (λb=>
 if b<a then
 bC d b λe=>
 if e=c then
 aT (
 aT (
 aT (
 aT (
 some false))))
 else
 aE (bH (b+1)) <|
 some (.inl (b+1))
 else
 aT (
 some (.inl ()))) (0:Int)) λ_=>
 aE (bH (a+1)) <|
 some (.inl (a+1))
 else
 aT (
 some (.inl ()))) (0:Int)) λ_=>
 some true
def sX(b:Al)(a:Ak):Option Bool:=
 if((decide (a.entry<0))||((decide (b.Au<=a.entry))||((decide (a.exit<(-1:Int)))||((decide (b.Au<=a.exit))||((decide ((a.path.length:Int)<1))||((decide (12<(a.path.length:Int)))||(decide (a.length<1))))))))=true then
 some false
 else
 aE ((([]:List Int)++a.Aa).length<=1000000000) <|
 aE (((([]:List Int)++a.Aa)++a.Ae).length<=1000000000) <|
 aD (
 if 0<(a.Aa.length:Int)then
 aD (qL b ((([]:List Int)++a.Aa)++a.Ae)) λc=>
 if c=true then
 if 0<=a.A5 then
 some (decide (a.A5<b.Aa))
 else
 some false
 else
 some false
 else
 some false) λd=>
 some d
def oX(b:Al)(d:Int):Option Int:=
 dS (
 bB (λa=>
 if a<(b.Ag.length:Int)then
 bC b.Ag a λc=>
 if c=d then
 aT (
 aT (
 some a))
 else
 aE (bH (a+1)) <|
 some (.inl (a+1))
 else
 aT (
 some (.inl ()))) (0:Int)) λ_=>
 some (-1:Int)
def jI(e:Al)(c:(List Ad)):Option Bool:=
 dS (
 bB (λa=>
 if a<(c.length:Int)then
 bC c a λb=>
 aD (
 aD (oX e b.el) λf=>
 if f<0 then
 some true
 else
 if b.pos<1 then
 some true
 else
 if 2<b.pos then
 some true
 else
 if 0<a then
 aE (bH (a-1)) <|
 bC c (a-1) λd=>
 some (decide (b.el<=d.el))
 else
 some false) λg=>
 if g=true then
 aT (
 aT (
 some false))
 else
 aE (bH (a+1)) <|
 some (.inl (a+1))
 else
 aT (
 some (.inl ()))) (0:Int)) λ_=>
 some true
def mM(e:(List Ad))(f:(List Ad)):Option Bool:=
 dS (
 bB (λa=>
 if a<(e.length:Int)then
 dS (
 bC e a λd=>
 bB (λb=>
 if b<(f.length:Int)then
 bC f b λc=>
 if((decide (d.el=c.el))&&(!(decide (d.pos=c.pos))))=true then
 aT (
 aT (
 aT (
 aT (
 some false))))
 else
 aE (bH (b+1)) <|
 some (.inl (b+1))
 else
 aT (
 some (.inl ()))) (0:Int)) λ_=>
 aE (bH (a+1)) <|
 some (.inl (a+1))
 else
 aT (
 some (.inl ()))) (0:Int)) λ_=>
 some true
def uS(b:Al)(d:BA):Option Int:=
 dS (
 bB (λa=>
 if a<(b.Ac.length:Int)then
 bC b.Ac a λc=>
 if c.name=d then
 aT (
 aT (
 some a))
 else
 aE (bH (a+1)) <|
 some (.inl (a+1))
 else
 aT (
 some (.inl ()))) (0:Int)) λ_=>
 some (-1:Int)
def sY(a:Al):Option Int:=
 if((decide (48<(a.Ac.length:Int)))||((decide (32<(a.Ag.length:Int)))||((decide (a.Aa<0))||((decide (24<a.Aa))||((decide (a.Au<0))||(decide (20<a.Au)))))))=true then
 some (2:Int)
 else
 if(a.A7.length:Int)=(a.Ag.length:Int)then
 dS (
 bB (λb=>
 if b<(a.Ag.length:Int)then
 bC a.Ag b λh=>
 aD (
 if h<0 then
 some true
 else
 if 0<b then
 aE (bH (b-1)) <|
 bC a.Ag (b-1) λk=>
 if h<=k then
 some true
 else
 bC a.A7 b λl=>
 if l<0 then
 some true
 else
 bC a.A7 b λm=>
 some (decide (a.Aa<=m))
 else
 bC a.A7 b λi=>
 if i<0 then
 some true
 else
 bC a.A7 b λj=>
 some (decide (a.Aa<=j))) λw=>
 if w=true then
 aT (
 aT (
 some (1:Int)))
 else
 aE (bH (b+1)) <|
 some (.inl (b+1))
 else
 aT (
 some (.inl ()))) (0:Int)) λ_=>
 dS (
 bB (λf=>
 if f<(a.Ac.length:Int)then
 bC a.Ac f λe=>
 aD (
 aD (sX a e) λo=>
 if(!(o))=true then
 some true
 else
 aD (jI a e.Ag) λp=>
 if(!(p))=true then
 some true
 else
 aD (jI a e.An) λq=>
 if(!(q))=true then
 some true
 else
 aD (jI a e.Ax) λr=>
 some (!(r))) λx=>
 if x=true then
 aT (
 aT (
 some (1:Int)))
 else
 aE (bH (f+1)) <|
 some (.inl (f+1))
 else
 aT (
 some (.inl ()))) (0:Int)) λ_=>
 dS (
 bB (λg=>
 if g<(a.Ac.length:Int)then
 bC a.Ac g λc=>
 aD (
 aD (mM c.Ag c.An) λs=>
 if(!(s))=true then
 some true
 else
 aD (mM c.Ag c.Ax) λt=>
 if(!(t))=true then
 some true
 else
 aD (mM c.An c.Ax) λu=>
 some (!(u))) λy=>
 if y=true then
 aT (
 aT (
 some (10:Int)))
 else
 aE (bH (g+1)) <|
 some (.inl (g+1))
 else
 aT (
 some (.inl ()))) (0:Int)) λ_=>
 dS (
 bB (λd=>
 if d<(a.Ac.length:Int)then
 bC a.Ac d λn=>
 aD (uS a n.name) λv=>
 if v=d then
 aE (bH (d+1)) <|
 some (.inl (d+1))
 else
 aT (
 aT (
 some (8:Int)))
 else
 aT (
 some (.inl ()))) (0:Int)) λ_=>
 some (0:Int)
 else
 some (1:Int)
def qJ(a:Al):Option Pd:=
 aE (bH (2*a.Aa)) <|
 aE (bH (2*(a.Ag.length:Int))) <|
 aE (bH ((2*a.Aa)+(2*(a.Ag.length:Int)))) <|
 aE (bH (4*(a.Ac.length:Int))) <|
 aE (bH (((2*a.Aa)+(2*(a.Ag.length:Int)))+(4*(a.Ac.length:Int)))) <|
 aE (bH ((((2*a.Aa)+(2*(a.Ag.length:Int)))+(4*(a.Ac.length:Int)))+(a.Ag.length:Int))) <|
 aD (
 bB (λ(b,c,e)=>
 if c<(a.Ac.length:Int)then
 aE ((e++([b]:List Int)).length<=1000000000) <|
 aE (bH (b+6)) <|
 bC a.Ac c λf=>
 aE (bH ((f.Aa.length:Int)-1)) <|
 aE (bH ((b+6)+(max (0:Int) ((f.Aa.length:Int)-1)))) <|
 aE (bH (c+1)) <|
 some (.inl (((b+6)+(max (0:Int) ((f.Aa.length:Int)-1))),(c+1),(e++([b]:List Int))))
 else
 aT (
 some (b,e))) (((((2*a.Aa)+(2*(a.Ag.length:Int)))+(4*(a.Ac.length:Int)))+(a.Ag.length:Int)),(0:Int),([]:List Int))) λ(d,g)=>
 aE (bH (5*(a.Ac.length:Int))) <|
 aE (bH (d+(5*(a.Ac.length:Int)))) <|
 some (⟨(2*a.Aa),((2*a.Aa)+(2*(a.Ag.length:Int))),(((2*a.Aa)+(2*(a.Ag.length:Int)))+(4*(a.Ac.length:Int))),d,(d+(5*(a.Ac.length:Int))),g⟩:Pd)
def fU(a:Int):Option Ab:=
 some (⟨(3:Int),a,([]:List Ab)⟩:Ab)
def jH(a:(List Ab)):Option Ab:=
 some (⟨(6:Int),(0:Int),a⟩:Ab)
def fI(a:(List Ab)):Option Ab:=
 some (⟨(5:Int),(0:Int),a⟩:Ab)
def fP(a:Ab):Option Ab:=
 some (⟨(4:Int),(0:Int),([a]:List Ab)⟩:Ab)
def lE(a:Ad)(b:Ad):Option Bool:=
 some ((decide (a.el<b.el))||((decide (a.el=b.el))&&(decide (a.pos<b.pos))))
def kF(a:Ak):Option ((List Ad)):=
 aE ((([]:List Ad)++a.Ag).length<=1000000000) <|
 aE (((([]:List Ad)++a.Ag)++a.An).length<=1000000000) <|
 aE ((((([]:List Ad)++a.Ag)++a.An)++a.Ax).length<=1000000000) <|
 bB (λb=>
 aD (
 bB (λ(d,c)=>
 if c<((((([]:List Ad)++a.Ag)++a.An)++a.Ax).length:Int)then
 bC (((([]:List Ad)++a.Ag)++a.An)++a.Ax) c λe=>
 aD (
 if(b.length:Int)=0 then
 if d<0 then
 some true
 else
 bC (((([]:List Ad)++a.Ag)++a.An)++a.Ax) d λj=>
 aD (lE e j) λm=>
 some m
 else
 aE (bH ((b.length:Int)-1)) <|
 bC b ((b.length:Int)-1) λh=>
 aD (lE h e) λk=>
 if k=true then
 if d<0 then
 some true
 else
 bC (((([]:List Ad)++a.Ag)++a.An)++a.Ax) d λi=>
 aD (lE e i) λl=>
 some l
 else
 some false) λn=>
 if n=true then
 aE (bH (c+1)) <|
 some (.inl (c,(c+1)))
 else
 aE (bH (c+1)) <|
 some (.inl (d,(c+1)))
 else
 aT (
 some d)) ((-1:Int),(0:Int))) λg=>
 if g<0 then
 aT (
 some b)
 else
 bC (((([]:List Ad)++a.Ag)++a.An)++a.Ax) g λf=>
 aE ((b++([f]:List Ad)).length<=1000000000) <|
 some (.inl (b++([f]:List Ad)))) ([]:List Ad)
def pP(a:Ak)(b:Ak):Option Bool:=
 some ((decide (0<=a.exit))&&(decide (b.entry=a.exit)))
def nV(c:(List Int))(f:(List Int)):Option Int:=
 aD (
 bB (λ(b,a)=>
 if a<(c.length:Int)then
 bC c a λd=>
 aD (pQ f d) λg=>
 if g=true then
 aE (bH (a+1)) <|
 some (.inl (a,(a+1)))
 else
 aE (bH (a+1)) <|
 some (.inl (b,(a+1)))
 else
 aT (
 some b)) ((-1:Int),(0:Int))) λe=>
 some e
def sU(c:(List Ad))(d:Ad):Option Bool:=
 dS (
 bB (λa=>
 if a<(c.length:Int)then
 bC c a λb=>
 aE (Ad.ok b/\Ad.ok d) <|
 if b=d then
 aT (
 aT (
 some true))
 else
 aE (bH (a+1)) <|
 some (.inl (a+1))
 else
 aT (
 some (.inl ()))) (0:Int)) λ_=>
 some false
def tS(e:Al)(x:Int)(y:Int):Option Int:=
 bC e.Ac x λa=>
 bC e.Ac y λb=>
 aE (bH ((a.Aa.length:Int)-1)) <|
 aD (pP a b) λh=>
 aD (pP b a) λi=>
 aD (nV a.Aa b.Aa) λl=>
 aD (
 if(!(i))=true then
 aD (nV a.Aa b.Ae) λz=>
 some (max l z)
 else
 some l) λw=>
 aD (
 if(!(h))=true then
 aD (nV a.Ae b.Aa) λB=>
 if 0<=B then
 some true
 else
 if(!(h))=true then
 if(!(i))=true then
 aD (nV a.Ae b.Ae) λC=>
 some (decide (0<=C))
 else
 some false
 else
 some false
 else
 if(!(h))=true then
 if(!(i))=true then
 aD (nV a.Ae b.Ae) λA=>
 some (decide (0<=A))
 else
 some false
 else
 some false) λH=>
 if H=true then
 some ((a.Aa.length:Int)-1)
 else
 aD (kF a) λd=>
 aD (kF b) λg=>
 dS (
 bB (λ(j,c)=>
 if c<(d.length:Int)then
 dS (
 bB (λ(f,k38)=>
 if k38<(g.length:Int)then
 aD (
 bC d c λm=>
 bC g k38 λn=>
 if m.el=n.el then
 bC d c λo=>
 bC g k38 λp=>
 some (decide (o.pos=p.pos))
 else
 some true) λI=>
 if I=true then
 aE (bH (k38+1)) <|
 some (.inl (f,(k38+1)))
 else
 bC d c λq=>
 aD (oX e q.el) λE=>
 bC e.A7 E λr=>
 aD (nV a.Aa ([r]:List Int)) λk=>
 aD (
 if k<0 then
 some true
 else
 bC d c λs=>
 aD (sU a.An s) λF=>
 if F=true then
 some true
 else
 bC d c λt=>
 aD (sU a.Ax t) λG=>
 some G) λJ=>
 if J=true then
 aT (
 aT (
 aT (
 aT (
 some ((a.Aa.length:Int)-1)))))
 else
 aE (bH (k38+1)) <|
 some (.inl ((max f k),(k38+1)))
 else
 aT (
 some (.inl f))) (j,(0:Int))) λv=>
 aE (bH (c+1)) <|
 some (.inl (v,(c+1)))
 else
 aT (
 some (.inl j))) (w,(0:Int))) λu=>
 some u
def xH(e:Int):Option BA:=
 aD (
 bB (λ(c,b)=>
 if((!(decide (b=0)))||(decide (c=(⟨#[]⟩:BA))))=true then
 aE (¬(10:Int)=0) <|
 aD (
 if(b.tmod (10:Int))<0 then
 some (IntKind.i64.wrap (0-(b.tmod (10:Int))))
 else
 some (b.tmod (10:Int))) λa=>
 aE (bH (a+1)) <|
 aE (0<=a/\a<=(a+1)/\(a+1)<=((⟨#[48,49,50,51,52,53,54,55,56,57]⟩:BA).size:Int)) <|
 aE (((⟨#[48,49,50,51,52,53,54,55,56,57]⟩:BA).extract a.toNat (a+1).toNat).size+c.size<=9223372036854775807) <|
 aE (¬(10:Int)=0) <|
 some (.inl ((((⟨#[48,49,50,51,52,53,54,55,56,57]⟩:BA).extract a.toNat (a+1).toNat)++c),(IntKind.i64.wrap (b.tdiv (10:Int)))))
 else
 aT (
 some c)) ((⟨#[]⟩:BA),e)) λd=>
 if e<0 then
 aE ((⟨#[45]⟩:BA).size+d.size<=9223372036854775807) <|
 some ((⟨#[45]⟩:BA)++d)
 else
 some d
def eS(a:BA)(c:Int):Option BA:=
 aE (a.size+(⟨#[46]⟩:BA).size<=9223372036854775807) <|
 aD (xH c) λb=>
 aE ((a++(⟨#[46]⟩:BA)).size+b.size<=9223372036854775807) <|
 some ((a++(⟨#[46]⟩:BA))++b)
def vN(e:Al):Option ((List BA)×Int):=
 aD (
 bB (λ(j,o)=>
 if j<e.Aa then
 aD (eS (⟨#[102,114,101,101]⟩:BA) j) λw=>
 aE ((o++([w]:List BA)).length<=1000000000) <|
 aD (eS (⟨#[111,112,101,110]⟩:BA) j) λG=>
 aE (((o++([w]:List BA))++([G]:List BA)).length<=1000000000) <|
 aE (bH (j+1)) <|
 some (.inl ((j+1),((o++([w]:List BA))++([G]:List BA))))
 else
 aT (
 some o)) ((0:Int),([]:List BA))) λN=>
 aD (
 bB (λ(i,n)=>
 if i<(e.Ag.length:Int)then
 aD (eS (⟨#[110,111,114,109,97,108]⟩:BA) i) λy=>
 aE ((n++([y]:List BA)).length<=1000000000) <|
 aD (eS (⟨#[114,101,118,101,114,115,101]⟩:BA) i) λI=>
 aE (((n++([y]:List BA))++([I]:List BA)).length<=1000000000) <|
 aE (bH (i+1)) <|
 some (.inl ((i+1),((n++([y]:List BA))++([I]:List BA))))
 else
 aT (
 some n)) ((0:Int),N)) λP=>
 aD (
 bB (λ(d,f)=>
 if d<(e.Ac.length:Int)then
 aD (eS (⟨#[117,110,99,108,97,105,109,101,100]⟩:BA) d) λl=>
 aE ((f++([l]:List BA)).length<=1000000000) <|
 aD (eS (⟨#[112,97,115,115,101,100]⟩:BA) d) λr=>
 aE (((f++([l]:List BA))++([r]:List BA)).length<=1000000000) <|
 aD (eS (⟨#[99,97,108,108]⟩:BA) d) λz=>
 aE ((((f++([l]:List BA))++([r]:List BA))++([z]:List BA)).length<=1000000000) <|
 aD (eS (⟨#[99,97,110,99,101,108]⟩:BA) d) λJ=>
 aE (((((f++([l]:List BA))++([r]:List BA))++([z]:List BA))++([J]:List BA)).length<=1000000000) <|
 aE (bH (d+1)) <|
 some (.inl ((d+1),((((f++([l]:List BA))++([r]:List BA))++([z]:List BA))++([J]:List BA))))
 else
 aT (
 some f)) ((0:Int),P)) λC=>
 aD (
 bB (λ(p,t)=>
 if p<(e.Ag.length:Int)then
 aD (eS (⟨#[108,105,101]⟩:BA) p) λK=>
 aE ((t++([K]:List BA)).length<=1000000000) <|
 aE (bH (p+1)) <|
 some (.inl ((p+1),(t++([K]:List BA))))
 else
 aT (
 some t)) ((0:Int),C)) λR=>
 aD (
 bB (λ(a,g)=>
 if a<(e.Ac.length:Int)then
 aD (
 aD (eS (⟨#[115,101,116]⟩:BA) a) λm=>
 aE ((g++([m]:List BA)).length<=1000000000) <|
 aD (eS (⟨#[99,108,101,97,114]⟩:BA) a) λs=>
 aE (((g++([m]:List BA))++([s]:List BA)).length<=1000000000) <|
 aD (eS (⟨#[117,115,101,100]⟩:BA) a) λA=>
 aE ((((g++([m]:List BA))++([s]:List BA))++([A]:List BA)).length<=1000000000) <|
 aD (eS (⟨#[104,101,108,100]⟩:BA) a) λL=>
 aE (((((g++([m]:List BA))++([s]:List BA))++([A]:List BA))++([L]:List BA)).length<=1000000000) <|
 aD (
 bB (λ(k87,v)=>
 bC e.Ac a λE=>
 aE (bH ((E.Aa.length:Int)-1)) <|
 if k87<((E.Aa.length:Int)-1)then
 aD (eS (⟨#[114,101,108]⟩:BA) a) λU=>
 aD (eS U k87) λM=>
 aE ((v++([M]:List BA)).length<=1000000000) <|
 aE (bH (k87+1)) <|
 some (.inl ((k87+1),(v++([M]:List BA))))
 else
 aT (
 some v)) ((0:Int),((((g++([m]:List BA))++([s]:List BA))++([A]:List BA))++([L]:List BA)))) λu=>
 aD (eS (⟨#[119,97,105,116]⟩:BA) a) λB=>
 aE ((u++([B]:List BA)).length<=1000000000) <|
 aD (eS (⟨#[115,116,97,110,100]⟩:BA) a) λF=>
 aE (((u++([B]:List BA))++([F]:List BA)).length<=1000000000) <|
 some ((u++([B]:List BA))++([F]:List BA))) λT=>
 aE (bH (a+1)) <|
 some (.inl ((a+1),T))
 else
 aT (
 some g)) ((0:Int),R)) λS=>
 aD (
 bB (λ(b,c)=>
 if b<(e.Ac.length:Int)then
 aD (eS (⟨#[107,101,101,112]⟩:BA) b) λh=>
 aE ((c++([h]:List BA)).length<=1000000000) <|
 aD (eS (⟨#[117,115,101]⟩:BA) b) λk=>
 aE (((c++([h]:List BA))++([k]:List BA)).length<=1000000000) <|
 aD (eS (⟨#[104,111,108,100]⟩:BA) b) λq=>
 aE ((((c++([h]:List BA))++([k]:List BA))++([q]:List BA)).length<=1000000000) <|
 aD (eS (⟨#[97,99,116]⟩:BA) b) λx=>
 aE (((((c++([h]:List BA))++([k]:List BA))++([q]:List BA))++([x]:List BA)).length<=1000000000) <|
 aD (eS (⟨#[99,97,108,108,101,100]⟩:BA) b) λH=>
 aE ((((((c++([h]:List BA))++([k]:List BA))++([q]:List BA))++([x]:List BA))++([H]:List BA)).length<=1000000000) <|
 aE (bH (b+1)) <|
 some (.inl ((b+1),(((((c++([h]:List BA))++([k]:List BA))++([q]:List BA))++([x]:List BA))++([H]:List BA))))
 else
 aT (
 some c)) ((0:Int),S)) λO=>
 some (O,(C.length:Int))
def fR(b:Ao)(c:Int):Option Int:=
 bC b.t.Ac c λa=>
 aE (bH ((a.Aa.length:Int)-1)) <|
 some ((a.Aa.length:Int)-1)
def dB(c:Ao)(a:Int):Option Ab:=
 aE (bH (2*a)) <|
 aD (fU (2*a)) λb=>
 some b
def bP(c:Ao)(d:Int)(b:Int):Option Ab:=
 bC c.p.states d λa=>
 aE (bH (a+b)) <|
 aD (fU (a+b)) λe=>
 some e
def dM(b:Ao)(a:Int)(c:Int):Option Ab:=
 aE (bH (4*a)) <|
 aE (bH (b.p.Ac+(4*a))) <|
 aE (bH ((b.p.Ac+(4*a))+c)) <|
 aD (fU ((b.p.Ac+(4*a))+c)) λd=>
 some d
def eZ(c:Ao)(d:Int)(b:Int):Option Ab:=
 bC c.p.states d λa=>
 aE (bH (a+4)) <|
 aE (bH ((a+4)+b)) <|
 aD (fU ((a+4)+b)) λe=>
 some e
def iO(b:Ao)(e:Int):Option Ab:=
 bC b.t.Ac e λa=>
 aD (
 bB (λ(k7,c)=>
 aE (bH ((a.Aa.length:Int)-1)) <|
 if k7<((a.Aa.length:Int)-1)then
 aD (eZ b e k7) λj=>
 bC a.Aa k7 λh=>
 aD (dB b h) λk=>
 aD (jH ([j,k]:List Ab)) λf=>
 aE ((c++([f]:List Ab)).length<=1000000000) <|
 aE (bH (k7+1)) <|
 some (.inl ((k7+1),(c++([f]:List Ab))))
 else
 aT (
 some c)) ((0:Int),([]:List Ab))) λd=>
 aE (bH ((a.Aa.length:Int)-1)) <|
 bC a.Aa ((a.Aa.length:Int)-1) λi=>
 aD (dB b i) λg=>
 aE ((d++([g]:List Ab)).length<=1000000000) <|
 aD (fI (d++([g]:List Ab))) λl=>
 some l
def jA(c:Ao)(d:Int)(a:Int):Option Ab:=
 aD (
 if 0<a then
 aE (bH (a-1)) <|
 aD (eZ c d (a-1)) λf=>
 aE ((([]:List Ab)++([f]:List Ab)).length<=1000000000) <|
 some (([]:List Ab)++([f]:List Ab))
 else
 some ([]:List Ab)) λb=>
 aD (
 aD (fR c d) λj=>
 if a<j then
 aD (eZ c d a) λh=>
 aD (fP h) λe=>
 aE ((b++([e]:List Ab)).length<=1000000000) <|
 some (b++([e]:List Ab))
 else
 some b) λg=>
 aD (fI g) λi=>
 some i
def fF(c:Ao)(d:Int)(e:Int):Option Ab:=
 bC c.p.states d λa=>
 aE (bH (a+4)) <|
 aD (fR c d) λb=>
 aE (bH ((a+4)+b)) <|
 aE (bH (((a+4)+b)+e)) <|
 aD (fU (((a+4)+b)+e)) λf=>
 some f
def kV(a:Ao)(b:Int):Option Ao:=
 aD (fR a b) λe=>
 bC a.t.Ac b λh=>
 bC h.Aa e λi=>
 aD (dB a i) λm=>
 aD (bP a b (3:Int)) λn=>
 aD (dM a b (0:Int)) λo=>
 aD (iO a b) λq=>
 aD (fI ([n,o,q]:List Ab)) λd=>
 aD (bP a b (2:Int)) λr=>
 aD (jA a b e) λj=>
 aD (dM a b (0:Int)) λk=>
 aD (fP m) λl=>
 aD (fI ([r,j,k,l]:List Ab)) λf=>
 aD (fF a b (0:Int)) λc=>
 aE ((a.Ai++([(⟨(2:Int),c.var,(12:Int),d⟩:Ap)]:List Ap)).length<=1000000000) <|
 aD (fF (⟨a.t,a.p,(a.Ai++([(⟨(2:Int),c.var,(12:Int),d⟩:Ap)]:List Ap))⟩:Ao) b (1:Int)) λg=>
 aE (((a.Ai++([(⟨(2:Int),c.var,(12:Int),d⟩:Ap)]:List Ap))++([(⟨(2:Int),g.var,(4:Int),f⟩:Ap)]:List Ap)).length<=1000000000) <|
 some (⟨a.t,a.p,((a.Ai++([(⟨(2:Int),c.var,(12:Int),d⟩:Ap)]:List Ap))++([(⟨(2:Int),g.var,(4:Int),f⟩:Ap)]:List Ap))⟩:Ao)
def bW(b:Ao)(a:Int)(c:Int):Option Ab:=
 aE (bH (5*a)) <|
 aE (bH (b.p.aux+(5*a))) <|
 aE (bH ((b.p.aux+(5*a))+c)) <|
 aD (fU ((b.p.aux+(5*a))+c)) λd=>
 some d
def gW(a:Ao)(w:Int):Option Ab:=
 bC a.t.Ac w λb=>
 aD (
 bB (λ(f,i)=>
 if f<(b.Aa.length:Int)then
 bC b.Aa f λs=>
 aD (dB a s) λl=>
 aE ((i++([l]:List Ab)).length<=1000000000) <|
 aE (bH (f+1)) <|
 some (.inl ((f+1),(i++([l]:List Ab))))
 else
 aT (
 some i)) ((0:Int),([]:List Ab))) λq=>
 aD (
 bB (λ(e,g)=>
 if e<(b.Ae.length:Int)then
 bC b.Ae e λu=>
 aD (dB a u) λm=>
 aE ((g++([m]:List Ab)).length<=1000000000) <|
 aE (bH (e+1)) <|
 some (.inl ((e+1),(g++([m]:List Ab))))
 else
 aT (
 some g)) ((0:Int),q)) λo=>
 aD (kF b) λk=>
 aD (
 bB (λ(c,h)=>
 if c<(k.length:Int)then
 bC k c λv=>
 aD (oX a.t v.el) λd=>
 aE (bH (2*d)) <|
 aE (bH (a.p.Ag+(2*d))) <|
 bC k c λj=>
 aE (bH ((a.p.Ag+(2*d))+j.pos)) <|
 aE (bH (((a.p.Ag+(2*d))+j.pos)-1)) <|
 aD (fU (((a.p.Ag+(2*d))+j.pos)-1)) λn=>
 aE ((h++([n]:List Ab)).length<=1000000000) <|
 aE (bH (c+1)) <|
 some (.inl ((c+1),(h++([n]:List Ab))))
 else
 aT (
 some h)) ((0:Int),o)) λr=>
 aD (fI r) λx=>
 some x
def dY(a:Ao)(b:Ab)(c:Ab):Option Ao:=
 aE ((a.Ai++([(⟨(1:Int),b.var,(0:Int),c⟩:Ap)]:List Ap)).length<=1000000000) <|
 some (⟨a.t,a.p,(a.Ai++([(⟨(1:Int),b.var,(0:Int),c⟩:Ap)]:List Ap))⟩:Ao)
def iI(a:Ao)(b:Int):Option Ab:=
 aD (dM a b (3:Int)) λc=>
 aD (iO a b) λd=>
 aD (fI ([c,d]:List Ab)) λe=>
 some e
def kM(a:Ao)(c:Int):Option Ab:=
 aD (
 bB (λ(k6,b)=>
 aD (fR a c) λk=>
 if k6<=k then
 aD (jA a c k6) λh=>
 bC a.t.Ac c λf=>
 bC f.Aa k6 λg=>
 aD (dB a g) λi=>
 aD (fI ([h,i]:List Ab)) λd=>
 aE ((b++([d]:List Ab)).length<=1000000000) <|
 aE (bH (k6+1)) <|
 some (.inl ((k6+1),(b++([d]:List Ab))))
 else
 aT (
 some b)) ((0:Int),([]:List Ab))) λe=>
 aD (jH e) λj=>
 some j
def jU(a:Ao)(b:Int):Option Ao:=
 bC a.t.Ac b λg=>
 aD (fR a b) λi=>
 aD (dM a b (0:Int)) λj=>
 aD (dM a b (3:Int)) λk=>
 bC g.Aa (0:Int) λo=>
 aD (dB a o) λn=>
 bC g.Aa i λq=>
 aD (dB a q) λd4=>
 aD (bW a b (0:Int)) λe4=>
 aD (bP a b (0:Int)) λu=>
 aD (fP k) λE=>
 aD (gW a b) λG=>
 aD (fP G) λH=>
 aD (fI ([u,E,H]:List Ab)) λI=>
 aD (dY a e4 I) λe=>
 aD (fP j) λJ=>
 aD (iI (⟨a.t,a.p,e.Ai⟩:Ao) b) λK=>
 aD (fP K) λL=>
 aD (jA (⟨a.t,a.p,e.Ai⟩:Ao) b i) λM=>
 aD (fI ([M,d4]:List Ab)) λN=>
 aD (fP N) λO=>
 aD (fF (⟨a.t,a.p,e.Ai⟩:Ao) b (1:Int)) λP=>
 aD (fP P) λR=>
 aD (fI ([L,O,R]:List Ab)) λS=>
 aD (jH ([J,S]:List Ab)) λT=>
 aD (bW (⟨a.t,a.p,e.Ai⟩:Ao) b (1:Int)) λU=>
 aD (bP (⟨a.t,a.p,e.Ai⟩:Ao) b (1:Int)) λV=>
 aD (fP n) λW=>
 aD (fI ([V,W]:List Ab)) λX=>
 aD (bP (⟨a.t,a.p,e.Ai⟩:Ao) b (3:Int)) λY=>
 aD (kM (⟨a.t,a.p,e.Ai⟩:Ao) b) λZ=>
 aD (fP Z) λa0=>
 aD (fI ([Y,a0]:List Ab)) λa1=>
 aD (bP (⟨a.t,a.p,e.Ai⟩:Ao) b (2:Int)) λa2=>
 aD (fI ([a2,T]:List Ab)) λa3=>
 aD (jH ([X,a1,a3]:List Ab)) λa4=>
 aD (dY (⟨a.t,a.p,e.Ai⟩:Ao) U a4) λd=>
 aD (dB (⟨a.t,a.p,d.Ai⟩:Ao) g.A5) λa5=>
 aD (fI ([k,j,a5]:List Ab)) λa6=>
 aD (bW (⟨a.t,a.p,d.Ai⟩:Ao) b (2:Int)) λa7=>
 aD (bP (⟨a.t,a.p,d.Ai⟩:Ao) b (1:Int)) λa8=>
 aD (gW (⟨a.t,a.p,d.Ai⟩:Ao) b) λa9=>
 aD (fP a9) λb0=>
 aD (jH ([k,b0]:List Ab)) λb1=>
 aD (fP a6) λb2=>
 aD (fI ([a8,n,b1,b2]:List Ab)) λb3=>
 aD (bP (⟨a.t,a.p,d.Ai⟩:Ao) b (2:Int)) λb4=>
 aD (iI (⟨a.t,a.p,d.Ai⟩:Ao) b) λb5=>
 aD (fI ([b4,j,b5]:List Ab)) λb6=>
 aD (bP (⟨a.t,a.p,d.Ai⟩:Ao) b (3:Int)) λb7=>
 aD (kM (⟨a.t,a.p,d.Ai⟩:Ao) b) λb8=>
 aD (fF (⟨a.t,a.p,d.Ai⟩:Ao) b (0:Int)) λb9=>
 aD (fP b9) λc0=>
 aD (fI ([b7,b8,c0]:List Ab)) λc1=>
 aD (jH ([b3,b6,c1]:List Ab)) λc2=>
 aD (dY (⟨a.t,a.p,d.Ai⟩:Ao) a7 c2) λh=>
 aD (bP (⟨a.t,a.p,h.Ai⟩:Ao) b (1:Int)) λc3=>
 aD (bP (⟨a.t,a.p,h.Ai⟩:Ao) b (0:Int)) λc4=>
 aD (bP (⟨a.t,a.p,h.Ai⟩:Ao) b (1:Int)) λc5=>
 aD (jH ([c4,c5]:List Ab)) λc6=>
 aD (fP k) λc7=>
 aD (gW (⟨a.t,a.p,h.Ai⟩:Ao) b) λc8=>
 aD (fI ([c6,c7,c8]:List Ab)) λc9=>
 aD (dY (⟨a.t,a.p,h.Ai⟩:Ao) c3 c9) λd0=>
 aD (
 aE (bH (i-1)) <|
 bB (λ(k71,c)=>
 if 0<=k71 then
 aE (bH (k71+1)) <|
 bC g.Aa (k71+1) λr=>
 aD (dB (⟨a.t,a.p,c⟩:Ao) r) λd1=>
 aD (fP d1) λd2=>
 aD (dM (⟨a.t,a.p,c⟩:Ao) b (1:Int)) λd3=>
 aD (jH ([d2,d3]:List Ab)) λd5=>
 aD (bP (⟨a.t,a.p,c⟩:Ao) b (2:Int)) λd6=>
 aD (iI (⟨a.t,a.p,c⟩:Ao) b) λd7=>
 aD (fP d7) λd8=>
 aD (jA (⟨a.t,a.p,c⟩:Ao) b k71) λd9=>
 bC g.Aa k71 λs=>
 aD (dB (⟨a.t,a.p,c⟩:Ao) s) λe0=>
 aD (fI ([d6,j,d8,d9,e0,d5]:List Ab)) λe1=>
 aD (eZ (⟨a.t,a.p,c⟩:Ao) b k71) λe2=>
 aD (bW (⟨a.t,a.p,c⟩:Ao) b (1:Int)) λe3=>
 aD (bW (⟨a.t,a.p,c⟩:Ao) b (2:Int)) λe5=>
 aD (jH ([e3,e5]:List Ab)) λe6=>
 aD (eZ (⟨a.t,a.p,c⟩:Ao) b k71) λe7=>
 aD (jH ([e7,e1]:List Ab)) λe8=>
 aD (fI ([e6,e8]:List Ab)) λe9=>
 aD (dY (⟨a.t,a.p,c⟩:Ao) e2 e9) λf0=>
 aE (bH (k71-1)) <|
 some (.inl ((k71-1),f0.Ai))
 else
 aT (
 some c)) ((i-1),d0.Ai)) λl=>
 aD (bP (⟨a.t,a.p,l⟩:Ao) b (2:Int)) λf1=>
 aD (bW (⟨a.t,a.p,l⟩:Ao) b (1:Int)) λf2=>
 aD (dY (⟨a.t,a.p,l⟩:Ao) f1 f2) λm=>
 aD (bP (⟨a.t,a.p,m.Ai⟩:Ao) b (3:Int)) λv=>
 aD (bW (⟨a.t,a.p,m.Ai⟩:Ao) b (2:Int)) λw=>
 aD (dY (⟨a.t,a.p,m.Ai⟩:Ao) v w) λf=>
 aD (bW (⟨a.t,a.p,f.Ai⟩:Ao) b (3:Int)) λx=>
 aD (bW (⟨a.t,a.p,f.Ai⟩:Ao) b (0:Int)) λy=>
 aD (bP (⟨a.t,a.p,f.Ai⟩:Ao) b (1:Int)) λz=>
 aD (bP (⟨a.t,a.p,f.Ai⟩:Ao) b (2:Int)) λA=>
 aD (bP (⟨a.t,a.p,f.Ai⟩:Ao) b (3:Int)) λB=>
 aD (jH ([y,z,A,B]:List Ab)) λC=>
 aD (dY (⟨a.t,a.p,f.Ai⟩:Ao) x C) λF=>
 some (⟨a.t,a.p,F.Ai⟩:Ao)
def kW(a:Ao)(c:Int):Option Ao:=
 bC a.t.Ac c λd=>
 aD (dM a c (2:Int)) λU=>
 aD (bW a c (3:Int)) λV=>
 aD (fP V) λW=>
 aD (
 bB (λ(g,k)=>
 if g<(d.Aa.length:Int)then
 bC d.Aa g λn=>
 aE (bH (2*n)) <|
 aE (bH ((2*n)+1)) <|
 aD (fU ((2*n)+1)) λA=>
 aE ((k++([A]:List Ab)).length<=1000000000) <|
 aE (bH (g+1)) <|
 some (.inl ((g+1),(k++([A]:List Ab))))
 else
 aT (
 some k)) ((0:Int),([U,W]:List Ab))) λH=>
 aD (
 bB (λ(h,l)=>
 if h<(d.Ae.length:Int)then
 bC d.Ae h λo=>
 aE (bH (2*o)) <|
 aE (bH ((2*o)+1)) <|
 aD (fU ((2*o)+1)) λB=>
 aE ((l++([B]:List Ab)).length<=1000000000) <|
 aE (bH (h+1)) <|
 some (.inl ((h+1),(l++([B]:List Ab))))
 else
 aT (
 some l)) ((0:Int),H)) λF=>
 aD (
 bB (λ(b,f)=>
 if b<(a.t.Ac.length:Int)then
 aD (tS a.t b c) λq=>
 if((decide (b=c))||(decide (q<0)))=true then
 aE (bH (b+1)) <|
 some (.inl ((b+1),f))
 else
 aD (bW a b (3:Int)) λi=>
 aD (
 aD (fR a b) λX=>
 if q<X then
 aD (eZ a b q) λY=>
 aD (fP Y) λZ=>
 aD (fI ([i,Z]:List Ab)) λr=>
 some (r.op,r.var,r.args)
 else
 some (i.op,i.var,i.args)) λ(x,y,z)=>
 aD (
 if b<c then
 aD (bW a b (4:Int)) λa0=>
 aD (jH ([(⟨x,y,z⟩:Ab),a0]:List Ab)) λs=>
 some (s.op,s.var,s.args)
 else
 some (x,y,z)) λ(J,K,L)=>
 aD (fP (⟨J,K,L⟩:Ab)) λC=>
 aE ((f++([C]:List Ab)).length<=1000000000) <|
 aE (bH (b+1)) <|
 some (.inl ((b+1),(f++([C]:List Ab))))
 else
 aT (
 some f)) ((0:Int),F)) λG=>
 aD (kF d) λu=>
 aD (
 bB (λ(e,m)=>
 if e<(u.length:Int)then
 bC u e λP=>
 aD (oX a.t P.el) λv=>
 aE (bH (a.p.lies+v)) <|
 aD (fU (a.p.lies+v)) λj=>
 aD (
 bC u e λR=>
 if R.pos=1 then
 aD (fP j) λw=>
 some (w.op,w.var,w.args)
 else
 some (j.op,j.var,j.args)) λ(M,N,O)=>
 bC a.t.A7 v λS=>
 aD (dB a S) λa1=>
 aD (jH ([(⟨M,N,O⟩:Ab),a1]:List Ab)) λE=>
 aE ((m++([E]:List Ab)).length<=1000000000) <|
 aE (bH (e+1)) <|
 some (.inl ((e+1),(m++([E]:List Ab))))
 else
 aT (
 some m)) ((0:Int),G)) λI=>
 aD (bW a c (4:Int)) λa2=>
 aD (fI I) λa3=>
 aD (dY a a2 a3) λT=>
 some (⟨a.t,a.p,T.Ai⟩:Ao)
def mC(a:Ao)(e:Int):Option Ao:=
 aD (
 bB (λ(b,d,c)=>
 if b<(a.t.Ac.length:Int)then
 bC a.t.Ac b λm=>
 aD (kF m) λg=>
 aD (
 bC a.t.Ag e λn=>
 aD (sU g (⟨n,(1:Int)⟩:Ad)) λq=>
 if q=true then
 aD (bW a b (4:Int)) λh=>
 aE ((d++([h]:List Ab)).length<=1000000000) <|
 some (d++([h]:List Ab))
 else
 some d) λf=>
 bC a.t.Ag e λo=>
 aD (sU g (⟨o,(2:Int)⟩:Ad)) λr=>
 if r=true then
 aD (bW a b (4:Int)) λi=>
 aE ((c++([i]:List Ab)).length<=1000000000) <|
 aE (bH (b+1)) <|
 some (.inl ((b+1),f,(c++([i]:List Ab))))
 else
 aE (bH (b+1)) <|
 some (.inl ((b+1),f,c))
 else
 aT (
 some (d,c))) ((0:Int),([]:List Ab),([]:List Ab))) λ(k,l)=>
 aE (bH (a.p.lies+e)) <|
 aD (fU (a.p.lies+e)) λj=>
 aD (jH l) λs=>
 aD (jH k) λu=>
 aD (fP u) λv=>
 aD (fI ([j,v]:List Ab)) λw=>
 aD (jH ([s,w]:List Ab)) λx=>
 aD (dY a j x) λy=>
 some (⟨a.t,a.p,y.Ai⟩:Ao)
def nW(a:Al):Option (Program×Int):=
 aD (sY a) λl=>
 if l=0 then
 aD (qJ a) λb=>
 if 2000<b.all then
 some ((⟨([]:List BA),(0:Int),([]:List Ap)⟩:Program),(2:Int))
 else
 aD (
 bB (λ(e,h)=>
 if e<(a.Ac.length:Int)then
 aD (kV (⟨a,b,h⟩:Ao) e) λr=>
 aE (bH (e+1)) <|
 some (.inl ((e+1),r.Ai))
 else
 aT (
 some h)) ((0:Int),([]:List Ap))) λp=>
 aD (
 bB (λ(f,i)=>
 if f<(a.Ac.length:Int)then
 aD (jU (⟨a,b,i⟩:Ao) f) λs=>
 aE (bH (f+1)) <|
 some (.inl ((f+1),s.Ai))
 else
 aT (
 some i)) ((0:Int),p)) λm=>
 aD (
 bB (λ(g,j)=>
 if g<(a.Ac.length:Int)then
 aD (kW (⟨a,b,j⟩:Ao) g) λt=>
 aE (bH (g+1)) <|
 some (.inl ((g+1),t.Ai))
 else
 aT (
 some j)) ((0:Int),m)) λn=>
 aD (
 bB (λ(c,d)=>
 if c<(a.Ac.length:Int)then
 aD (bP (⟨a,b,d⟩:Ao) c (0:Int)) λu=>
 aD (bW (⟨a,b,d⟩:Ao) c (0:Int)) λv=>
 aD (bW (⟨a,b,d⟩:Ao) c (4:Int)) λw=>
 aD (jH ([v,w]:List Ab)) λx=>
 aD (dY (⟨a,b,d⟩:Ao) u x) λy=>
 aE (bH (c+1)) <|
 some (.inl ((c+1),y.Ai))
 else
 aT (
 some d)) ((0:Int),n)) λo=>
 aD (
 bB (λ(k62,k)=>
 if k62<(a.Ag.length:Int)then
 aD (mC (⟨a,b,k⟩:Ao) k62) λz=>
 aE (bH (k62+1)) <|
 some (.inl ((k62+1),z.Ai))
 else
 aT (
 some k)) ((0:Int),o)) λq=>
 aD (vN a) λ(A,B)=>
 some ((⟨A,B,q⟩:Program),(0:Int))
 else
 some ((⟨([]:List BA),(0:Int),([]:List Ap)⟩:Program),l)
def pD:Nat->Ab->Option Int
 |0,_=>none
 |fu+1,c=>
 aD (
 bB (λ(b,a)=>
 if a<(c.args.length:Int)then
 bC c.args a λe=>
 aD ((pD fu) e) λd=>
 aE (bH (b+d)) <|
 aE (bH (a+1)) <|
 some (.inl ((b+d),(a+1)))
 else
 aT (
 some b)) ((1:Int),(0:Int))) λf=>
 some f
def gz(a:Ab):Option Int:=pD eO a
def nX:Nat->Ab->Option Int
 |0,_=>none
 |fu+1,d=>
 aD (
 bB (λ(c,a)=>
 if a<(d.args.length:Int)then
 bC d.args a λe=>
 aD ((nX fu) e) λf=>
 aE (bH (a+1)) <|
 some (.inl ((max c f),(a+1)))
 else
 aT (
 some c)) ((0:Int),(0:Int))) λb=>
 aE (bH (b+1)) <|
 some (b+1)
def bl(a:Ab):Option Int:=nX eO a
def nN:Nat->Ab->Int->Option Bool
 |0,_,_=>none
 |fu+1,a,c=>
 dS (
 aD (
 if a.op=1 then
 some (decide (a.op=1))
 else
 some (decide (a.op=2))) λf=>
 if f=true then
 aT (
 some ((decide (a.var=0))&&(decide ((a.args.length:Int)=0))))
 else
 if a.op=3 then
 aT (
 some ((decide (0<=a.var))&&((decide (a.var<c))&&(decide ((a.args.length:Int)=0)))))
 else
 if a.op=4 then
 if(a.args.length:Int)=1 then
 some (.inl ())
 else
 aT (
 some false)
 else
 if a.op=5 then
 some (.inl ())
 else
 if a.op=6 then
 some (.inl ())
 else
 aT (
 some false)) λ_=>
 dS (
 bB (λb=>
 if b<(a.args.length:Int)then
 bC a.args b λd=>
 aD ((nN fu) d c) λe=>
 if(!(e))=true then
 aT (
 aT (
 some false))
 else
 aE (bH (b+1)) <|
 some (.inl (b+1))
 else
 aT (
 some (.inl ()))) (0:Int)) λ_=>
 some (decide (a.var=0))
def gy(a:Ab)(b:Int):Option Bool:=nN eO a b
def vO(a:Ab)(b:Int):Option Bool:=
 aD (
 aD (gz a) λc=>
 if c<=20000 then
 aD (bl a) λd=>
 if d<=12 then
 aD (gy a b) λe=>
 some e
 else
 some false
 else
 some false) λf=>
 some f
def mG:Nat->Ab->(List Bool)->Option Bool
 |0,_,_=>none
 |fu+1,a,c=>
 dS (
 if a.op=2 then
 aT (
 some true)
 else
 if a.op=3 then
 aD (
 if 0<=a.var then
 if a.var<(c.length:Int)then
 bC c a.var λf=>
 some f
 else
 some false
 else
 some false) λk=>
 aT (
 some k)
 else
 if a.op=4 then
 aD (
 if 0<(a.args.length:Int)then
 bC a.args (0:Int) λd=>
 aD ((mG fu) d c) λg=>
 some (!(g))
 else
 some false) λi=>
 aT (
 some i)
 else
 aD (
 if a.op=5 then
 some (decide (a.op=5))
 else
 some (decide (a.op=6))) λj=>
 if j=true then
 dS (
 bB (λb=>
 if b<(a.args.length:Int)then
 bC a.args b λe=>
 aD ((mG fu) e c) λh=>
 if((h == (decide (a.op=6))))=true then
 aT (
 aT (
 aT (
 some (decide (a.op=6)))))
 else
 aE (bH (b+1)) <|
 some (.inl (b+1))
 else
 aT (
 some (.inl ()))) (0:Int)) λ_=>
 aT (
 some (decide (a.op=5)))
 else
 some (.inl ())) λ_=>
 some false
def ka(a:Ab)(b:(List Bool)):Option Bool:=mG eO a b
def yQ(b:Program)(a:Ap):Option Bool:=
 if(bif !(decide (a.kind=1))then((!(decide (a.kind=2)))||((decide (a.var<b.inputs))||(decide ((b.names.length:Int)<=a.var))))else((decide (a.var<b.inputs))||(decide ((b.names.length:Int)<=a.var))))=true then
 some false
 else
 if(bif decide (a.kind=1)then((!(decide (a.A1=0)))||((decide (a.kind=2))&&((decide (a.A1<1))||(decide (1073741824<a.A1)))))else((decide (a.kind=2))&&((decide (a.A1<1))||(decide (1073741824<a.A1)))))=true then
 some false
 else
 aD (vO a.expr (b.names.length:Int)) λc=>
 some c
def sW(a:Program):Option Int:=
 if 2000<(a.names.length:Int)then
 some (2:Int)
 else
 if((decide (a.inputs<0))||(decide ((a.names.length:Int)<a.inputs)))=true then
 some (1:Int)
 else
 dS (
 bB (λc=>
 if c<(a.Ai.length:Int)then
 bC a.Ai c λf=>
 aD (yQ a f) λg=>
 if(!(g))=true then
 aT (
 aT (
 some (1:Int)))
 else
 aE (bH (c+1)) <|
 some (.inl (c+1))
 else
 aT (
 some (.inl ()))) (0:Int)) λ_=>
 dS (
 bB (λb=>
 if b<(a.Ai.length:Int)then
 dS (
 bB (λk23=>
 if k23<b then
 bC a.Ai k23 λd=>
 bC a.Ai b λe=>
 if d.var=e.var then
 aT (
 aT (
 aT (
 aT (
 some (8:Int)))))
 else
 aE (bH (k23+1)) <|
 some (.inl (k23+1))
 else
 aT (
 some (.inl ()))) (0:Int)) λ_=>
 aE (bH (b+1)) <|
 some (.inl (b+1))
 else
 aT (
 some (.inl ()))) (0:Int)) λ_=>
 some (0:Int)
def yS(c:Program)(b:Machine):Option Bool:=
 aD (
 aD (sW c) λg=>
 if g=0 then
 if(b.vars.length:Int)=(c.names.length:Int)then
 some (!(decide ((b.counts.length:Int)=(c.Ai.length:Int))))
 else
 some true
 else
 some true) λh=>
 if h=true then
 some false
 else
 dS (
 bB (λa=>
 if a<(b.counts.length:Int)then
 aD (
 bC b.counts a λd=>
 if d<0 then
 some true
 else
 bC b.counts a λe=>
 bC c.Ai a λf=>
 some (decide (f.A1<e))) λi=>
 if i=true then
 aT (
 aT (
 some false))
 else
 aE (bH (a+1)) <|
 some (.inl (a+1))
 else
 aT (
 some (.inl ()))) (0:Int)) λ_=>
 some true
def sV(a:Program):Option Machine:=
 aD (sW a) λb=>
 if b=0 then
 aE (0<=(a.names.length:Int)/\(a.names.length:Int)<=1000000000) <|
 aE (0<=(a.Ai.length:Int)/\(a.Ai.length:Int)<=1000000000) <|
 some (⟨(List.replicate (a.names.length:Int).toNat false),(List.replicate (a.Ai.length:Int).toNat (0:Int)),false⟩:Machine)
 else
 some (⟨([]:List Bool),([]:List Int),true⟩:Machine)
def yR(b:Program):Option Machine:=
 aD (sV b) λa=>
 some (⟨a.vars,a.counts,true⟩:Machine)
def qK(g:Program)(d:Machine)(k:(List Bool)):Option Machine:=
 aD (
 aD (yS g d) λr=>
 if(!(r))=true then
 some true
 else
 some d.halted) λu=>
 if u=true then
 aD (yR g) λs=>
 some s
 else
 aE ((([]:List Bool)++d.vars).length<=1000000000) <|
 aE ((([]:List Int)++d.counts).length<=1000000000) <|
 aD (
 bB (λ(a,e)=>
 if a<g.inputs then
 if a<(k.length:Int)then
 bC k a λq=>
 bC e a λw=>
 aE (bH (a+1)) <|
 some (.inl ((a+1),(e.set a.toNat q)))
 else
 bC e a λv=>
 aE (bH (a+1)) <|
 some (.inl ((a+1),(e.set a.toNat false)))
 else
 aT (
 some e)) ((0:Int),(([]:List Bool)++d.vars))) λp=>
 aD (
 bB (λ(b,h,f)=>
 if b<(g.Ai.length:Int)then
 bC g.Ai b λc=>
 aD (ka c.expr h) λl=>
 aD (
 if c.kind=2 then
 aD (
 if l=true then
 bC f b λi=>
 aE (bH (i+1)) <|
 some (min (i+1) c.A1)
 else
 some (0:Int)) λj=>
 bC f b λx=>
 some (decide (j=c.A1),(f.set b.toNat j))
 else
 some (l,f)) λ(t,o)=>
 bC h c.var λy=>
 aE (bH (b+1)) <|
 some (.inl ((b+1),(h.set c.var.toNat t),o))
 else
 aT (
 some (h,f))) ((0:Int),p,(([]:List Int)++d.counts))) λ(m,n)=>
 some (⟨m,n,false⟩:Machine)
def xu(a:Aq):Option Bool:=
 some ((decide ((a.Aa.length:Int)<=60))&&((decide ((a.Ar.length:Int)<=60))&&((decide ((a.joints.length:Int)<=100))&&((decide ((a.Au.length:Int)<=60))&&(decide ((a.balises.length:Int)<=60))))))
def tT(k:Al)(a:A8):Option ((List Bool)):=
 aD (sY k) λx=>
 if x=0 then
 aD (
 bB (λ(d,g)=>
 if d<k.Aa then
 aD (
 if d<(a.occupied.length:Int)then
 bC a.occupied d λn=>
 aE ((g++([!(n)]:List Bool)).length<=1000000000) <|
 some (g++([!(n)]:List Bool))
 else
 aE ((g++([false]:List Bool)).length<=1000000000) <|
 some (g++([false]:List Bool))) λh=>
 if d<(a.closed.length:Int)then
 bC a.closed d λo=>
 aE ((h++([!(o)]:List Bool)).length<=1000000000) <|
 aE (bH (d+1)) <|
 some (.inl ((d+1),(h++([!(o)]:List Bool))))
 else
 aE ((h++([false]:List Bool)).length<=1000000000) <|
 aE (bH (d+1)) <|
 some (.inl ((d+1),(h++([false]:List Bool))))
 else
 aT (
 some g)) ((0:Int),([]:List Bool))) λv=>
 aD (
 bB (λ(b,e)=>
 if b<(k.Ag.length:Int)then
 aD (
 if b<(a.detected.length:Int)then
 bC a.detected b λp=>
 aE ((e++([decide (p=1)]:List Bool)).length<=1000000000) <|
 some (e++([decide (p=1)]:List Bool))
 else
 aE ((e++([false]:List Bool)).length<=1000000000) <|
 some (e++([false]:List Bool))) λi=>
 if b<(a.detected.length:Int)then
 bC a.detected b λq=>
 aE ((i++([decide (q=2)]:List Bool)).length<=1000000000) <|
 aE (bH (b+1)) <|
 some (.inl ((b+1),(i++([decide (q=2)]:List Bool))))
 else
 aE ((i++([false]:List Bool)).length<=1000000000) <|
 aE (bH (b+1)) <|
 some (.inl ((b+1),(i++([false]:List Bool))))
 else
 aT (
 some e)) ((0:Int),v)) λu=>
 aD (
 bB (λ(c,f)=>
 if c<(k.Ac.length:Int)then
 aD (
 if c<(a.claimed.length:Int)then
 bC a.claimed c λr=>
 aE ((f++([!(r)]:List Bool)).length<=1000000000) <|
 some (f++([!(r)]:List Bool))
 else
 aE ((f++([false]:List Bool)).length<=1000000000) <|
 some (f++([false]:List Bool))) λj=>
 aD (
 if c<(a.passed.length:Int)then
 bC a.passed c λs=>
 aE ((j++([s]:List Bool)).length<=1000000000) <|
 some (j++([s]:List Bool))
 else
 aE ((j++([false]:List Bool)).length<=1000000000) <|
 some (j++([false]:List Bool))) λl=>
 aD (pQ a.calls c) λm=>
 aE ((l++([m]:List Bool)).length<=1000000000) <|
 aD (pQ a.cancels c) λt=>
 aE (((l++([m]:List Bool))++([t]:List Bool)).length<=1000000000) <|
 aE (bH (c+1)) <|
 some (.inl ((c+1),((l++([m]:List Bool))++([t]:List Bool))))
 else
 aT (
 some f)) ((0:Int),u)) λw=>
 some w
 else
 some ([]:List Bool)
def oQ(j:Aq)(e:(List A8)):Option Bool:=
 aD (sZ j) λ(a,r)=>
 aD (
 aD (xu j) λv=>
 if(!(v))=true then
 some true
 else
 if r=0 then
 aD (vZ a) λw=>
 if(!(w))=true then
 some true
 else
 some (decide (40<(e.length:Int)))
 else
 some true) λy=>
 if y=true then
 aD (qS) λn=>
 some n
 else
 aD (nW a) λ(k,l)=>
 aD (uX a) λ(f,o)=>
 if l=o then
 if l=0 then
 aD (sV k) λb=>
 aD (nQ f b) λq=>
 if 0<=q then
 some false
 else
 dS (
 bB (λ(d,g,h,i)=>
 if d<(e.length:Int)then
 bC e d λm=>
 aD (tT a m) λs=>
 aD (qK k (⟨g,h,i⟩:Machine) s) λc=>
 aD (nQ f c) λt=>
 if 0<=t then
 aT (
 aT (
 some false))
 else
 aE (bH (d+1)) <|
 some (.inl ((d+1),c.vars,c.counts,c.halted))
 else
 aT (
 some (.inl (g,h,i)))) ((0:Int),b.vars,b.counts,b.halted)) λ(z,A,B)=>
 aD (qS) λu=>
 some u
 else
 aD (
 if(f.length:Int)=0 then
 aD (qS) λp=>
 some p
 else
 some false) λx=>
 some x
 else
 some false
@[simp] theorem aB{α:Type}{p:Prop}[Decidable p]{k:Option α}(h:p):aE p k=k:=if_pos h
@[simp] theorem aA{α β:Type}(a:α)(k:α->Option β):aD (some a) k=k a:=rfl
@[simp] theorem oT{α β:Type}(a:α)(k:α->Option β):dS (some (.inl a)) k=k a:=rfl
@[simp] theorem kN{α β:Type}(b:β)(k:α->Option β):dS (some (.inr b)) k=some b:=rfl
@[simp] theorem fJ{α β:Type}(b:β):(aT (some b):Option (α ⊕ β))=some (.inr b):=rfl
theorem aJ{α β:Type}{l:List α}{i:Nat}{e:α}{k:α->Option β}(h:l[i]?=some e):bC l (i:Int) k=k e:=by simp[bC,h]
theorem wC{α β:Type}{l:List α}{i:Int}{e:α}{k:α->Option β}(h0:0<=i)(h:l[i.toNat]?=some e):bC l i k=k e:=by simp[bC,h0,h]
@[simp] theorem ite_bindM{α β:Type}{p:Prop}[Decidable p](a b:α)(k:α->Option β):aD (if p then some a else some b) k=k (if p then a else b):=by split<;>rfl
theorem pS{α β:Type}{p:Prop}[Decidable p](a b:Option α)(k:α->Option β):aD (if p then a else b) k=if p then aD a k else aD b k:=by split<;>rfl
theorem Im{α:Type}{p:Prop}[Decidable p](a b:α):(if p then some a else some b)=some (if p then a else b):=by split<;>rfl
theorem Wi{p:Prop}[Decidable p]{a b:Bool}:((if p then a else b)=true)=((p/\a=true)\/(¬p/\b=true)):=by split<;>simp_all
theorem O3{α:Type}(l:List α)(i:Nat):sub l (i:Int) (l.length:Int)=l.drop i:=by simp[sub,<- List.length_drop]
variable {σ ρ:Type}
theorem Vq{f:σ->Option (σ ⊕ ρ)}(B:Nat->σ){o:ρ}:∀(n k:Nat),(∀i,k<=i->i<k+n->f (B i)=some (.inl (B (i+1))))->f (B (k+n))=some (.inr o)->pN f (n+1) (B k)=some o
 |0,k,_,he=>by simp only[vD]at he;simp[pN,he]
 |n+1,k,hf,he=>by
  simp only[pN];rw[hf k (Ks _) (by omega)];exact Vq B n (k+1) (λi h1 h2=>hf i (by omega) (by omega)) (by rw[show k+1+n=k+(n+1) by omega];exact he)
theorem oG{f:σ->Option (σ ⊕ ρ)}(B:Nat->σ)(n:Nat){o:ρ}{s:σ}(hs:s=B 0)(hn:n<=9223372036854775807)(hf:∀i,i<n->f (B i)=some (.inl (B (i+1))))(he:f (B n)=some (.inr o)):bB f s=some o:=by
 subst hs;exact zG (Vq B n 0 (λi _ h=>hf i (by omega)) (by rw[fV];exact he)) (by unfold eO;omega)
theorem Vh{f:Int->Option (Int ⊕ ρ)}(n:Nat)(c:Nat->Option ρ)(o:ρ)(hn:n<=9223372036854775807)(hf:∀i,i<n->f (i:Int)=match c i with
  |some r=>some (.inr r)
  |none=>some (.inl ((i:Int)+1))) (he:f (n:Int)=some (.inr o)):bB f 0=some (((List.range n).findSome? c).getD o):=by
 cases h:(List.range n).findSome? c with
 |none=>
  rw[List.findSome?_eq_none_iff]at h;refine oG (λi=>(i:Int)) n rfl hn (λi hi=>?_) he;rw[hf i hi,h i (zal101q.2 hi)];rfl
 |some r=>
  rw[List.findSome?_eq_some_iff]at h;obtain⟨l1,a,l2,h1,h2,h3⟩:=h
  have ha:l1.length=a/\a<n:=by
   have hlen:l1.length<(List.range n).length:=by rw[h1];simp
   have:(List.range n)[l1.length]?=some a:=by rw[h1];simp
   simp only[q8]at hlen;simp[hlen]at this;exact⟨this,by omega⟩
  obtain⟨ha1,ha2⟩:=ha;refine oG (λi=>(i:Int)) a rfl (by omega) (λi hi=>?_) ?_
  have hm:i∈l1:=by
   have:(List.range n)[i]?=some i:=Mh (by omega);rw[h1,G9 (by omega)]at this;exact lG this
  rw[hf i (by omega),h3 i hm];rfl;rw[hf a ha2,h2];rfl
theorem Iv{α β:Type}(l:List α)(c:Nat->Option β)(d:α->Option β)(h:∀(i:Nat)(e:α),l[i]?=some e->c i=d e):(List.range l.length).findSome? c=l.findSome? d:=by
 induction l generalizing c with
 |nil=>rfl
 |cons x r ih=>
  rw[jF,List.range_succ_eq_map,List.findSome?_cons,List.findSome?_map,List.findSome?_cons,h 0 x rfl]
  cases d x with
  |some b=>rfl
  |none=>exact ih (c ∘ Nat.succ) λi e he=>h (i+1) e (by simpa using he)
theorem qBN{α:Type}{f:Int->Option (Int ⊕ ρ)}(l:List α)(d:α->Option ρ)(o:ρ)(hn:l.length<=9223372036854775807)(hf:∀(i:Nat)(e:α),l[i]?=some e->f (i:Int)=match d e with
  |some r=>some (.inr r)
  |none=>some (.inl ((i:Int)+1))) (he:f (l.length:Int)=some (.inr o)):bB f 0=some ((l.findSome? d).getD o):=by
 rw[Vh l.length (λi=>(l[i]?).bind d) o hn (λi hi=>?_) he,Iv l _ d (λi e he=>by simp[he])];rw[hf i l[i] (by simp),gN hi];rfl
theorem Cy{α β:Type}(l:List α)(c:α->Bool)(v:β):l.findSome? (λe=>if c e=true then some v else none)=if l.any c=true then some v else none:=by
 induction l with
 |nil=>rfl
 |cons x r ih=>
  rw[List.findSome?_cons,nT,ih];cases c x<;>simp
theorem mE{α:Type}{f:Int->Option (Int ⊕ ρ)}(l:List α)(c:α->Bool)(v o:ρ)(hn:l.length<=9223372036854775807)(hf:∀(i:Nat)(e:α),l[i]?=some e->f (i:Int)=if c e=true then some (.inr v)else some (.inl ((i:Int)+1)))(he:f (l.length:Int)=some (.inr o)):bB f 0=some (if l.any c=true then v else o):=by
 rw[qBN l (λe=>if c e=true then some v else none) o hn (λi e h=>by rw[hf i e h];cases c e<;>simp) he,Cy];split<;>rfl
theorem tD{f:Int->Option (Int ⊕ ρ)}(n:Nat)(c:Nat->Bool)(v o:ρ)(hn:n<=9223372036854775807)(hf:∀i,i<n->f (i:Int)=if c i=true then some (.inr v)else some (.inl ((i:Int)+1)))(he:f (n:Int)=some (.inr o)):bB f 0=some (if(List.range n).any c=true then v else o):=by
 rw[Vh n (λe=>if c e=true then some v else none) o hn (λi h=>by rw[hf i h];cases c i<;>simp) he,Cy];split<;>rfl
theorem xp{α:Type}{f:Int->Option (Int ⊕ ρ)}(l:List α)(c:α->Bool)(w:Nat->ρ)(o:ρ)(hn:l.length<=9223372036854775807)(hf:∀(i:Nat)(e:α),l[i]?=some e->f (i:Int)=if c e=true then some (.inr (w i))else some (.inl ((i:Int)+1)))(he:f (l.length:Int)=some (.inr o)):bB f 0=some (match l.findIdx? c with|some i=>w i|none=>o):=by
 cases h:l.findIdx? c with
 |none=>
  rw[Mi]at h;refine oG (λi=>(i:Int)) l.length rfl hn (λi hi=>?_) he;rw[hf i l[i] (by simp),if_neg (by rw[h l[i] (by simp)];simp)];rfl
 |some k=>
  rw[za]at h;obtain⟨hk,h1,h2⟩:=h;refine oG (λi=>(i:Int)) k rfl (by omega) (λi hi=>?_) ?_;have hl : i < l.length := by omega
  have:=h2 i hi;rw[hf i l[i] (by simp),if_neg (by simpa using this)];rfl;rw[hf k l[k] (by simp),if_pos h1]
theorem lR{β:Type}{f:Int×β->Option ((Int×β) ⊕ ρ)}(n:Nat)(B:Nat->β){o:ρ}{b:β}(hb:b=B 0)(hn:n<=9223372036854775807)(hf:∀i,i<n->f ((i:Int),B i)=some (.inl ((i:Int)+1,B (i+1))))(he:f ((n:Int),B n)=some (.inr o)):bB f (0,b)=some o:=
 oG (λi=>((i:Int),B i)) n (by rw[hb];rfl) hn (λi hi=>by rw[hf i hi];rfl) he
theorem Li{β:Type}{f:Int×β->Option ((Int×β) ⊕ ρ)}(n:Nat)(B:Nat->β)(c:Nat->Bool)(v o:ρ){b:β}(hb:b=B 0)(hn:n<=9223372036854775807)(hf:∀i,i<n->(∀j,j<i->c j=false)->f ((i:Int),B i)=if c i=true then some (.inr v)else some (.inl ((i:Int)+1,B (i+1))))(he:(∀j,j<n->c j=false)->f ((n:Int),B n)=some (.inr o)):bB f (0,b)=some (if(List.range n).any c=true then v else o):=by
 cases h:(List.range n).findIdx? c with
 |none=>
  rw[Mi]at h;have hall:∀j,j<n->c j=false:=λj hj=>by simpa using h j (zal101q.2 hj)
  have hno:¬(List.range n).any c=true:=by
   rw[zQU];rintro⟨j,hj,hc⟩;rw[hall j (zal101q.1 hj)]at hc;cases hc
  rw[if_neg hno];exact lR n B hb hn (λi hi=>by rw[hf i hi (λj hj=>hall j (by omega)),hall i hi];rfl) (he hall)
 |some k=>
  rw[za]at h;obtain⟨hk,h1,h2⟩:=h;simp only[q8]at hk;simp only[List.getElem_range]at h1;have hb':∀j,j<k->c j=false:=λj hj=>by have:=h2 j hj;simpa using this
  have hyes:(List.range n).any c=true:=zQU.2 ⟨k,zal101q.2 hk,h1⟩;rw[if_pos hyes];exact lR k B hb (by omega) (λi hi=>by rw[hf i (by omega) (λj hj=>hb' j (by omega)),hb' i hi];rfl) (by rw[hf k hk hb',h1];rfl)
theorem bG{i n:Nat}(h:i<n)(hn:n<=9223372036854775807):bH ((i:Int)+1):=by unfold bH;omega
def sgn(x y:Int):Int:=if x<y then -1 else if y<x then 1 else 0
theorem Yc(x y:Int):nJ x y=some (sgn x y):=by
 simp only[nJ,sB,decide_true,vf,aA,gk,if_false,sgn];split;rfl;split<;>rfl
theorem or_eq(x y:Int):zN [x,y]=some (if x=0 then y else x):=by
 unfold zN;by_cases hx:x=0;by_cases hy:y=0
 ·rw [zG (n := 3) (r := (.inl () : Unit ⊕ Int)) (by simp [pN, bC, aE, bH, hx, hy, aT]) (by decide)];simp[dS,hx,hy]
 rw [zG (n := 3) (r := (.inr y : Unit ⊕ Int)) (by simp [pN, bC, aE, bH, hx, hy, aT]) (by decide)];simp[dS,hx];rw [zG (n := 3) (r := (.inr x : Unit ⊕ Int)) (by simp [pN, bC, aE, bH, hx, aT]) (by decide)];simp[dS,hx]
theorem yL(x y:Ad):eX x y=some (if sgn x.el y.el=0 then sgn x.pos y.pos else sgn x.el y.el):=by
 simp only[eX,Yc,aA,or_eq]
theorem tN:SortOk eX:=by
 have hl:∀x y,Dg eX x y=decide (x.el<y.el\/x.el=y.el/\x.pos<y.pos):=by
  intro x y;simp only[Dg,yL,vC,sgn];rw[decide_eq_decide];split<;>split<;>(try split)<;>(try split)<;>omega
 refine⟨λx y=>⟨_,yL x y⟩,λx=>?_,λx y z h1 h2=>?_,λx y z h1 h2=>?_,λx y h1 h2=>?_⟩;rw[hl];simp;rw[hl,decide_eq_true_eq]at *; omega;rw[hl,decide_eq_false_iff_not]at *; omega;rw[hl,decide_eq_false_iff_not]at *;obtain⟨a,b⟩:=x;obtain⟨c,d⟩:=y;simp only at h1 h2;have h3:a=c:=by omega
 have h4:b=d:=by omega
 rw[h3,h4]
end Go.Proofs.YtldaknhjmhlefaaGreatDoor
set_option maxHeartbeats 8000000
set_option linter.unusedSimpArgs false
set_option linter.unusedVariables false
set_option maxRecDepth 20000
namespace Go.Proofs.YtldaknhjmhlefaaGreatDoor
open Go Go.TL Go.Sort Go.Shelf Go.RowKit Go.Lib Go.Proofs.Tryz
def O6:Go.Shelf.Ren:=⟨fun|6=>177|15=>219|14=>218|28=>245|29=>246|20=>237|21=>238|22=>239|23=>240|24=>241|25=>242|26=>243|27=>244|46=>252|47=>253|48=>254|49=>255|50=>256|57=>261|n=>n,fun|22=>85|24=>148|25=>192|3=>3|39=>229|0=>0|53=>257|55=>98|4=>4|46=>251|45=>250|50=>209|5=>5|9=>9|66=>264|70=>161|76=>272|77=>273|n=>n,fun|n=>n⟩
theorem Zc:Go.Proofs.SlLaysF0.n6 TP O6 where
 mixed:=by kernel_rfl
 f6:=⟨Tryz.f177.name,by kernel_rfl,func177.trans (congrArg some (by kernel_rfl))⟩
 f14:=⟨Tryz.f218.name,by kernel_rfl,func218.trans (congrArg some (by kernel_rfl))⟩
 f15:=func219.trans (congrArg some (by kernel_rfl))
 f20:=⟨Tryz.f237.name,by kernel_rfl,func237.trans (congrArg some (by kernel_rfl))⟩
 f21:=⟨Tryz.f238.name,by kernel_rfl,func238.trans (congrArg some (by kernel_rfl))⟩
 f22:=⟨Tryz.f239.name,by kernel_rfl,func239.trans (congrArg some (by kernel_rfl))⟩
 f23:=⟨Tryz.f240.name,by kernel_rfl,func240.trans (congrArg some (by kernel_rfl))⟩
 f24:=⟨Tryz.f241.name,by kernel_rfl,func241.trans (congrArg some (by kernel_rfl))⟩
 f25:=⟨Tryz.f242.name,by kernel_rfl,func242.trans (congrArg some (by kernel_rfl))⟩
 f26:=⟨Tryz.f243.name,by kernel_rfl,func243.trans (congrArg some (by kernel_rfl))⟩
 f27:=⟨Tryz.f244.name,by kernel_rfl,func244.trans (congrArg some (by kernel_rfl))⟩
 f28:=func245.trans (congrArg some (by kernel_rfl))
 f29:=func246.trans (congrArg some (by kernel_rfl))
 f46:=⟨Tryz.f252.name,by kernel_rfl,func252.trans (congrArg some (by kernel_rfl))⟩
 f47:=func253.trans (congrArg some (by kernel_rfl))
 f48:=func254.trans (congrArg some (by kernel_rfl))
 f49:=⟨Tryz.f255.name,by kernel_rfl,func255.trans (congrArg some (by kernel_rfl))⟩
 f50:=⟨Tryz.f256.name,by kernel_rfl,func256.trans (congrArg some (by kernel_rfl))⟩
 f57:=⟨Tryz.f261.name,by kernel_rfl,func261.trans (congrArg some (by kernel_rfl))⟩
 t0:=Tryz.underlying0
 a0:=Tryz.isAgg0
 z0:=Tryz.sizeOf0
 v0:=Tryz.zeroValue0
 t3:=Tryz.underlying3
 a3:=Tryz.isAgg3
 z3:=Tryz.sizeOf3
 v3:=Tryz.zeroValue3
 t4:=Tryz.underlying4
 a4:=Tryz.isAgg4
 z4:=Tryz.sizeOf4
 v4:=Tryz.zeroValue4
 t5:=Tryz.underlying5
 a5:=Tryz.isAgg5
 z5:=Tryz.sizeOf5
 v5:=Tryz.zeroValue5
 t9:=Tryz.underlying9
 a9:=Tryz.isAgg9
 z9:=Tryz.sizeOf9
 v9:=Tryz.zeroValue9
 t22:=Tryz.underlying85
 a22:=Tryz.isAgg85
 z22:=Tryz.sizeOf85
 v22:=Tryz.zeroValue85
 t25:=Tryz.underlying192
 a25:=Tryz.isAgg192
 z25:=Tryz.sizeOf192
 v25:=Tryz.zeroValue192
 t39:=Tryz.underlying229
 a39:=Tryz.isAgg229
 z39:=Tryz.sizeOf229
 v39:=Tryz.zeroValue229
 t45:=Tryz.underlying250
 a45:=Tryz.isAgg250
 z45:=Tryz.sizeOf250
 v45:=Tryz.zeroValue250
 t46:=Tryz.underlying251
 a46:=Tryz.isAgg251
 z46:=Tryz.sizeOf251
 v46:=Tryz.zeroValue251
 t50:=Tryz.underlying209
 a50:=Tryz.isAgg209
 z50:=Tryz.sizeOf209
 v50:=Tryz.zeroValue209
 t53:=Tryz.underlying257
 a53:=Tryz.isAgg257
 z53:=Tryz.sizeOf257
 v53:=Tryz.zeroValue257
 t55:=Tryz.underlying98
 a55:=Tryz.isAgg98
 z55:=Tryz.sizeOf98
 v55:=Tryz.zeroValue98
 t66:=Tryz.underlying264
 a66:=Tryz.isAgg264
 z66:=Tryz.sizeOf264
 v66:=Tryz.zeroValue264
 t70:=Tryz.underlying161
 a70:=Tryz.isAgg161
 z70:=Tryz.sizeOf161
 v70:=Tryz.zeroValue161
 t76:=Tryz.underlying272
 a76:=Tryz.isAgg272
 z76:=Tryz.sizeOf272
 v76:=Tryz.zeroValue272
 t77:=Tryz.underlying273
 a77:=Tryz.isAgg273
 z77:=Tryz.sizeOf273
 v77:=Tryz.zeroValue273
theorem zU{G:FuncId}{c:D}{cs:List D}{m:Ad->Ad->Option Int}(hs:SortOk m)(hfn:Vy c=some (G,cs))(hclo:∀a b r,m a b=some r->RetD TP G ([a.enc,b.enc]++cs) (.int .i64 r))(xs:List Ad)(hlen:xs.length<=1000000000):Ret TP 177 [.flat 148 2 (xs.map Ad.enc)] (λ_=>false) [.msl 0 2 0 xs.length,.d c] (.tup []) [.flat 148 2 ((be m xs).map Ad.enc)]:=by
 have hcb:cd TP G=true:=by
  obtain⟨r,hr⟩:=hs.tot default default;obtain⟨_,_,_,h,_⟩:=hclo _ _ _ hr;exact h.1
 have hlt:ltOf (λx y=>(m x y).getD 0)=Dg m:=rfl
 have hS := qAX (P := TP) (F := 177) (G := G) (sz := 2) (f := Ad.enc) (c := c) (cs := cs) (cf := fun x y => (m x y).getD 0) (S := fun d => d.toList.mergeSort fun x y => !(Dg m) y x) 148 (fun _ => false) xs (bE rfl) (fun _ => rfl) (fun _ => rfl) (fun _ => rfl) hfn
  (λx y=>by obtain⟨r,hr⟩:=hs.tot x y;rw[hr];exact hclo x y r hr) (by omega) (by rw[List.length_mergeSort])
  (λp cap fv w=>AnyF.slices_SortFunc_none { Zc with } p cap fv w)
  (fun blk off cap cb d w hcl hH hb hl => AnyQ.slices_SortFunc_total Zc 2 Tryz.isAgg148 Tryz.sizeOf148 (fun x => (Ad.enc x).cells.map D.val) (fun _ => rfl) (fun x v hv => by obtain ⟨c, hc, rfl⟩ := zal96q.1 hv; simp only [Ad.enc, D.cells, zQB, qZ, or_false] at hc; rcases hc with rfl | rfl <;> rfl) (fun x y => (m x y).getD 0)
   ⟨hs.irrefl,hs.trans,hs.ntrans⟩ G cb blk off cap d w (Oi hcb) hcl hH hb hl hs.anti)
 rwa [show(xs.toArray.toList.mergeSort λx y=>!(Dg m) y x)=be m xs from O5 hs xs]at hS
def Vp:Go.Shelf.Ren:=⟨fun|171=>174|243=>216|246=>236|283=>248|284=>249|285=>250|286=>251|129=>246|317=>257|318=>258|319=>259|320=>260|337=>262|338=>263|n=>n,fun|3=>3|9=>9|2=>2|4=>4|171=>260|0=>0|53=>98|37=>245|5=>5|173=>262|212=>270|51=>257|20=>20|213=>271|46=>229|232=>275|233=>276|n=>n,fun|17=>0|18=>1|19=>2|n=>n⟩
theorem itoa174:Go.Proofs.Lays.n171 TP Vp where
 mixed:=by kernel_rfl
 f129:=func246.trans (congrArg some (by kernel_rfl))
 f171:=func174.trans (congrArg some (by kernel_rfl))
 f243:=func216.trans (congrArg some (by kernel_rfl))
 f246:=func236.trans (congrArg some (by kernel_rfl))
 f283:=func248.trans (congrArg some (by kernel_rfl))
 f284:=func249.trans (congrArg some (by kernel_rfl))
 f285:=func250.trans (congrArg some (by kernel_rfl))
 f286:=func251.trans (congrArg some (by kernel_rfl))
 f317:=func257.trans (congrArg some (by kernel_rfl))
 f318:=func258.trans (congrArg some (by kernel_rfl))
 f319:=func259.trans (congrArg some (by kernel_rfl))
 f320:=func260.trans (congrArg some (by kernel_rfl))
 f337:=func262.trans (congrArg some (by kernel_rfl))
 f338:=func263.trans (congrArg some (by kernel_rfl))
 t0:=Tryz.underlying0
 a0:=Tryz.isAgg0
 z0:=Tryz.sizeOf0
 v0:=Tryz.zeroValue0
 t2:=Tryz.underlying2
 a2:=Tryz.isAgg2
 z2:=Tryz.sizeOf2
 v2:=Tryz.zeroValue2
 t3:=Tryz.underlying3
 a3:=Tryz.isAgg3
 z3:=Tryz.sizeOf3
 v3:=Tryz.zeroValue3
 t4:=Tryz.underlying4
 a4:=Tryz.isAgg4
 z4:=Tryz.sizeOf4
 v4:=Tryz.zeroValue4
 t5:=Tryz.underlying5
 a5:=Tryz.isAgg5
 z5:=Tryz.sizeOf5
 v5:=Tryz.zeroValue5
 t9:=Tryz.underlying9
 a9:=Tryz.isAgg9
 z9:=Tryz.sizeOf9
 v9:=Tryz.zeroValue9
 t20:=Tryz.underlying20
 a20:=Tryz.isAgg20
 z20:=Tryz.sizeOf20
 v20:=Tryz.zeroValue20
 t37:=Tryz.underlying245
 a37:=Tryz.isAgg245
 z37:=Tryz.sizeOf245
 v37:=Tryz.zeroValue245
 t46:=Tryz.underlying229
 a46:=Tryz.isAgg229
 z46:=Tryz.sizeOf229
 v46:=Tryz.zeroValue229
 t51:=Tryz.underlying257
 a51:=Tryz.isAgg257
 z51:=Tryz.sizeOf257
 v51:=Tryz.zeroValue257
 t53:=Tryz.underlying98
 a53:=Tryz.isAgg98
 z53:=Tryz.sizeOf98
 v53:=Tryz.zeroValue98
 t171:=Tryz.underlying260
 a171:=Tryz.isAgg260
 z171:=Tryz.sizeOf260
 v171:=Tryz.zeroValue260
 t173:=Tryz.underlying262
 a173:=Tryz.isAgg262
 z173:=Tryz.sizeOf262
 v173:=Tryz.zeroValue262
 t212:=Tryz.underlying270
 a212:=Tryz.isAgg270
 z212:=Tryz.sizeOf270
 v212:=Tryz.zeroValue270
 t213:=Tryz.underlying271
 a213:=Tryz.isAgg271
 z213:=Tryz.sizeOf271
 t232:=Tryz.underlying275
 a232:=Tryz.isAgg275
 z232:=Tryz.sizeOf275
 v232:=Tryz.zeroValue275
 t233:=Tryz.underlying276
 a233:=Tryz.isAgg276
 z233:=Tryz.sizeOf276
 v233:=Tryz.zeroValue276
 g17:=by kernel_rfl
 g18:=by kernel_rfl
 g19:=by kernel_rfl
theorem Kn(i:Nat)(hi:i<100):RetN TP 174 [.int .i64 i] (.str ⟨(Go.Lib.decDigits i).toArray⟩):=qAY (bE rfl) λw=>Any.strconv_Itoa_small itoa174 i hi w
end Go.Proofs.YtldaknhjmhlefaaGreatDoor
set_option maxHeartbeats 8000000
set_option linter.unusedSimpArgs false
set_option linter.unusedVariables false
set_option maxRecDepth 20000
namespace Go.Proofs.YtldaknhjmhlefaaGreatDoor
open Go Go.TL Go.Proofs.Tryz
theorem Vl{k:Al}{r:Bool}(a:xr k=some r):RetN TP 32 [k.enc] (.bool (r)):=by
 refine .unit (aN (bE Q) func32 Q ntmps32 Q Q (λwX gX=>?_)) Q;unfold xr at a;refine aC [0] Q (aQ 1 Q (cY 0 Q Q Q (aH 4 Q ?_)));refine hO [(20,.d (.bool (((decide (80<(k.Ac.length:Int)))||((decide (80<(k.Ag.length:Int)))||(decide (80<(k.A7.length:Int))))))))] [20] [1] Q ?_ ?_;refine aQ 3 Q (aW TK Q (aI 1 Q (SB TK Q (λz m=>?_))));cases z;refine aI 2 Q (aW TK Q (aI 2 Q (SB TK Q (λJ q=>?_))));cases J;refine aI 2 Q (aW TK Q (aG 3 Q ?_));exact⟨[0],Q,k0,bT (aR (aU (by simp[m,q])) Q) Q⟩;refine aG 6 Q ?_;exact⟨[0],Q,k0,bT (aR (aU (by simp[m,q])) Q) Q⟩;refine aG 12 Q ?_;exact⟨[0],Q,k0,bT (aR (aU (by simp[m])) Q) Q⟩;refine aC [1,20] Q (cI a Q (λv a=>?_) (λv a=>?_))
 ·exact aM 6 Q (bD a Q)
 refine cH 2 Q (cJ a (λ_=>[]) (λ_=>[]) [] [] Q (λN a y=>?_) (λj a=>?_))
 ·refine aQ 3 Q (aW TK Q (aH 4 Q (aX a (λo=>([(24,.d (.int .i64 o))])) (λo=>[]) [24] [22,23] [0] k0 Q (λo O a s=>aC [22,23,24] Q (bO 5 Q (bK a Q (λw a=>?_) (λw a=>?_)))))))
  ·refine aK 5 Q (VE a λb x a=>dN TK Q x (aI 1 Q (cS 1 Q Q iM Q (cL 1 [none,none,none,some 3,some 2,some 1,none,none,some 3,some 2,some 1,some 2,some 1,some 2] Q Q (aH 3 Q ?_)))));refine hO [(79,.d (.bool (((decide (80<(b.path.length:Int)))||((decide (80<(b.Ag.length:Int)))||((decide (80<(b.Aa.length:Int)))||((decide (80<(b.over.length:Int)))||((decide (80<(b.An.length:Int)))||((decide (80<(b.Ae.length:Int)))||((decide (80<(b.Ax.length:Int)))||((decide (80<(b.guards.length:Int)))||(decide (80<(b.gaps.length:Int))))))))))))))] [79] [22,23,24] Q ?_ ?_;refine aQ 3 Q (aW TK Q (aI 1 Q (SB TK Q (λA c=>?_))));cases A;refine aI 2 Q (aW TK Q (aI 2 Q (SB TK Q (λB e=>?_))));cases B;refine aI 2 Q (aW TK Q (aI 2 Q (SB TK Q (λC f=>?_))));cases C;refine aI 2 Q (aW TK Q (aI 2 Q (SB TK Q (λE g=>?_))));cases E;refine aI 2 Q (aW TK Q (aI 2 Q (SB TK Q (λF h=>?_))));cases F;refine aI 2 Q (aW TK Q (aI 2 Q (SB TK Q (λG l=>?_))));cases G;refine aI 2 Q (aW TK Q (aI 2 Q (SB TK Q (λH n=>?_))));cases H;refine aI 2 Q (aW TK Q (aI 2 Q (SB TK Q (λI p=>?_))));cases I;refine aI 2 Q (aW TK Q (aG 3 Q ?_));exact⟨[0,1],Q,k0,bT (aR (aU (by simp[c,e,f,g,h,l,n,p])) Q) Q⟩;refine aG 6 Q ?_;exact⟨[0,1],Q,k0,bT (aR (aU (by simp[c,e,f,g,h,l,n,p])) Q) Q⟩;refine aG 12 Q ?_;exact⟨[0,1],Q,k0,bT (aR (aU (by simp[c,e,f,g,h,l,n])) Q) Q⟩;refine aG 18 Q ?_;exact⟨[0,1],Q,k0,bT (aR (aU (by simp[c,e,f,g,h,l])) Q) Q⟩;refine aG 24 Q ?_;exact⟨[0,1],Q,k0,bT (aR (aU (by simp[c,e,f,g,h])) Q) Q⟩;refine aG 30 Q ?_;exact⟨[0,1],Q,k0,bT (aR (aU (by simp[c,e,f,g])) Q) Q⟩;refine aG 36 Q ?_;exact⟨[0,1],Q,k0,bT (aR (aU (by simp[c,e,f])) Q) Q⟩;refine aG 42 Q ?_;exact⟨[0,1],Q,k0,bT (aR (aU (by simp[c,e])) Q) Q⟩;refine aG 48 Q ?_;exact⟨[0,1],Q,k0,bT (aR (aU (by simp[c])) Q) Q⟩;refine aC [22,23,24,79] Q (cI a Q (λu a=>?_) (λu a=>?_))
   ·refine aM 7 Q (IE a λK a i=>?_);rw[s _ i]at a;refine WR (bM 1 Q (IE a λL a i=>?_));rw[y _ i]at a;exact WR (bD a Q)
   exact aK 4 Q (GE a λt a=>bF Q t (aG 2 Q (bU [0] a Q Q)))
  refine aM 2 Q (IE a λM a i=>?_);rw[s _ i]at a;exact WX (bM 1 Q (bU [0] a Q Q))
 exact aC [] Q (aM 5 Q (bD a Q))
theorem Km{e:Al}{r:Bool}(a:vZ e=some r):RetN TP 9 [e.enc] (.bool (r)):=by
 refine .unit (aN (bE Q) func9 Q ntmps9 Q Q (λwX gX=>?_)) Q;unfold vZ at a;refine aC [0] Q (aQ 1 Q (cY 0 Q Q Q (aH 3 Q (aL a (λb=>([(2,.d (.bool (b)))])) (λb=>[]) [2] [] Q (λh a=>?_) (λb a=>?_)))));refine aQ 2 Q (cW a (Vl ·) Q λg a=>SB TK Q (λf c=>?_));cases f;replace a:=JB c a;exact aG 7 Q (bI [0] a Q Q);replace a:=JA c a;exact aI 2 Q (aW TK Q (aG 4 Q (bI [0] a Q Q)));exact aC [2] Q (aM 1 Q (bD a Q))
theorem Nv  {r:Aq} (a:z6=some r):RetD TP 33 [] (r.enc):=by
 refine .of (mv:=λ_=>false) (aN (bE Q) func33 Q ntmps33 Q Q (λwX gX=>?_));unfold z6 at a;refine aC [] Q (aQ 1 Q (cS 0 Q Q Wu Q (jG (f:=A6.enc) 0 2 1 123 7 Q Q Q (cL 0 [none,some 1,none,some 4,some 4,some 3] Q Q (aI 3 Q (bN Q (nD [.const (Value.string ⟨#[120]⟩),.const (Value.string ⟨#[121]⟩),.const (Value.string ⟨#[122]⟩)] TK Q Q fK Q Q Q Q Q) (bN Q (kX Q plc71 Wu Q Q Q Q) (cS 2 Q Q Wu Q (jG (f:=A6.enc) 2 2 3 123 7 Q Q Q (cL 2 [none,some 1,none,some 4,some 4,some 3] Q Q (aI 1 Q (jG (f:=A6.enc) 2 2 4 123 7 Q Q Q (cL 2 [none,none,none,some 4,some 4,some 3] Q Q (aH 2 Q (aC [0,1] Q (aL a (λb=>[]) (λb=>([(2,.box 71 [.d (.str (⟨#[108,105,110,101]⟩:BA)),.d (.sl 1 (([(⟨#[120]⟩:BA),(⟨#[121]⟩:BA),(⟨#[122]⟩:BA)]:List BA).map D.str)),.msl 4 7 0 b.length,.d (.sl 4 (([]:List Fn).map Fn.enc)),.d (.sl 4 (([]:List A9).map A9.enc)),.d (.sl 3 (([]:List Fd).map Fd.enc))]),(4,.flat 123 7 (b.map A6.enc))])) [] [0,1] Q (λp a=>?_) (λb a=>?_)))))))))))))))));refine aQ 1 Q (bN Q (nD [.const (Value.string ⟨#[97]⟩),.const (Value.string ⟨#[98]⟩),.const (Value.string ⟨#[99]⟩)] TK Q Q fK Q Q Q Q Q) (bN Q (yD (f:=D.str) (xs:=([(⟨#[97]⟩:BA),(⟨#[98]⟩:BA),(⟨#[99]⟩:BA)]:List BA)) TK Q Q Q) (aH 4 Q (aX a (λ(e,c)=>([(8,.d (.int .i64 e))])) (λ(e,c)=>([(2,.box 71 [.d (.str (⟨#[108,105,110,101]⟩:BA)),.d (.sl 1 (([(⟨#[120]⟩:BA),(⟨#[121]⟩:BA),(⟨#[122]⟩:BA)]:List BA).map D.str)),.msl 4 7 0 c.length,.d (.sl 4 (([]:List Fn).map Fn.enc)),.d (.sl 4 (([]:List A9).map A9.enc)),.d (.sl 3 (([]:List Fd).map Fd.enc))]),(4,.flat 123 7 (c.map A6.enc))])) [8] [0,1,6,7] [0,1,2,3,4] k0 Q (λs q a n=>?_)))));obtain⟨e,c⟩:=s;refine aC [0,1,6,7,8] Q (bO 5 Q (bK a Q (λk a=>?_) (λk a=>?_)));exact aK 6 Q (VE a λg l a=>bN Q (eW (f:=D.str) (xs:=([(⟨#[97]⟩:BA),(⟨#[98]⟩:BA),(⟨#[99]⟩:BA)]:List BA)) TK Q Q Q Q l) (aI 10 Q (bN Q (cK Q plc123 gf Q Q Q Q) (dO [.tmp 17] TK Q gf (GE a λi a=>cG (f:=A6.enc) ([(⟨g,(1:Int),(20000:Int),(0:Int),(3000:Int),(0:Int),e⟩:A6)]:List A6) TK Q Q gf Q Q Q Q Q (λh=>absurd h (mQ _)) Q cB i Q Q (aH 5 Q (aC [0,1,6,7,8] Q (aK 1 Q (GE a λj a=>bF Q j (aG 2 Q (bU [0,1,2,3,4] a Q Q)))))))))));refine aM 2 Q (IE a λo a m=>?_);rw[n _ m]at a;exact WX (bM 1 Q (bI [0,1,2,3,4] a Q Q));refine aC [0,1] Q (aK 1 Q (bN Q (cK Q zA gL Q Q Q Q) (bN Q (cK Q zA gL Q Q Q Q) (bN Q (cK Q plc127 Bp Q Q Q Q) (bN Q (cK Q zA gL Q Q Q Q) (bN Q (cK Q zA gL Q Q Q Q) (bN Q (cK Q plc127 Bp Q Q Q Q) (dO [.tmp 24,.tmp 27] TK Q Bp (aH 4 Q (aC [0,1] Q (aK 1 Q (bN Q (cK Q zA gL Q Q Q Q) (bN Q (cK Q Xs xA Q Q Q Q) (bN Q (cK Q zA gL Q Q Q Q) (bN Q (cK Q Xs xA Q Q Q Q) (dO [.tmp 31,.tmp 33] TK Q xA (aH 4 Q (aC [0,1] Q (cH 5 Q (aC [0] Q (aM 1 Q ?_)))))))))))))))))))))
 obtain rfl:=OJ a;exact EndsS.cellR _ TK Q Q Q Q Q (jS (.cons (.d _) Q (.cons (.d _) Q (.cons (cO Q) Q (.cons (.d _) Q (.cons (.d _) Q (.cons (.d _) Q .nil)))))))
theorem Kb{b:Aq}{r:Pb}(a:vS b=some r):RetD TP 222 [b.enc] (r.enc):=by
 refine .of (mv:=λ_=>false) (aN (bE Q) func222 Q ntmps222 Q Q (λwX gX=>?_));unfold vS at a;refine aC [0] Q (aQ 1 Q (cY 0 Q Q Q (cS 1 Q Q F3 Q (jG (f:=D.str) 1 0 2 9 1 Q Q Q (jG (f:=D.str) 1 1 3 9 1 Q Q Q (jG (f:=D.str) 1 2 4 9 1 Q Q Q (aH 2 Q (aC [1,2] Q (aK 1 Q (bN Q (Xn Q plcA233 F3 Q Q Q Q) (cS 5 Q Q F3 Q (jG (f:=D.str) 5 0 6 9 1 Q Q Q (jG (f:=D.str) 5 1 7 9 1 Q Q Q (jG (f:=D.str) 5 2 8 9 1 Q Q Q (aI 1 Q (jG (f:=D.str) 5 0 9 9 1 Q Q Q (jG (f:=D.str) 5 1 10 9 1 Q Q Q (jG (f:=D.str) 5 2 11 9 1 Q Q Q (aH 2 Q (aC [1,2,3] Q (aK 1 Q ?_)))))))))))))))))))));refine bN Q (lX Q sH Q Q (by decide) (by decide) Q) ?_;refine aI 3 Q (GE a λo a=>cG (f:=D.str) b.Aa TK Q Q fK Q Q Q Q Q (λh=>absurd h (mQ _)) Q cB o Q Q ?_);refine bN Q (lX Q sH Q Q (by decide) (by decide) Q) ?_;refine aH 3 Q (aC [1,2,3] Q (aL a (λc=>[]) (λc=>([(5,.box 233 [.msl 9 1 0 (([]:List BA)++b.Aa).length,.msl 10 1 0 c.length,.msl 11 1 0 ([]:List BA).length]),(10,.flat 9 1 (c.map D.str))])) [] [1,2,3] Q (λG a=>?_) (λc a=>?_)));refine aQ 3 Q (aW TK Q (aH 4 Q (aX a (λ(l,i)=>([(18,.d (.int .i64 l))])) (λ(l,i)=>([(5,.box 233 [.msl 9 1 0 (([]:List BA)++b.Aa).length,.msl 10 1 0 i.length,.msl 11 1 0 ([]:List BA).length]),(10,.flat 9 1 (i.map D.str))])) [18] [1,2,3,16,17] [0,1,2,3,4,5,6,7,8,9,10,11] k0 Q (λs H a A=>?_))));obtain⟨l,i⟩:=s;refine aC [1,2,3,16,17,18] Q (bO 5 Q (bK a Q (λv a=>?_) (λv a=>?_)));refine aK 5 Q (VE a λm x a=>dN TK Q x (aI 1 Q (cS 12 Q Q gf Q (aH 3 Q (aC [1,2,3,5,16,17,18] Q (aK 1 Q ?_))))));refine bN Q (lX Q sH Q Q (by decide) (by decide) Q) ?_;refine aI 3 Q (dO [.tmp 25] TK Q fK (GE a λp a=>cG (f:=D.str) ([m.name]:List BA) TK Q Q fK Q Q Q Q Q (λh=>absurd h (mQ _)) Q cB p Q Q ?_));refine bN Q (lX Q sH Q Q (by decide) (by decide) Q) ?_;exact aH 4 Q (aC [1,2,3,16,17,18] Q (aK 1 Q (GE a λq a=>bF Q q (aG 2 Q (bU [0,1,2,3,4,5,6,7,8,9,10,11] a Q Q)))));refine aM 2 Q (IE a λB a j=>?_);rw[A _ j]at a;exact WX (bM 1 Q (bI [0,1,2,3,4,5,6,7,8,9,10,11] a Q Q));refine aC [1,2,3] Q (aL a (λe=>[]) (λe=>([(5,.box 233 [.msl 9 1 0 (([]:List BA)++b.Aa).length,.msl 10 1 0 c.length,.msl 11 1 0 e.length]),(11,.flat 9 1 (e.map D.str))])) [] [2,3] Q (λE a=>?_) (λe a=>?_))
 ·refine aQ 3 Q (aW TK Q (aH 4 Q (aX a (λ(k,g)=>([(33,.d (.int .i64 k))])) (λ(k,g)=>([(5,.box 233 [.msl 9 1 0 (([]:List BA)++b.Aa).length,.msl 10 1 0 c.length,.msl 11 1 0 g.length]),(11,.flat 9 1 (g.map D.str))])) [33] [2,3,31,32] [0,1,2,3,4,5,6,7,8,9,10,11] k0 Q (λs F a z=>?_))));obtain⟨k,g⟩:=s;refine aC [2,3,31,32,33] Q (bO 5 Q (bK a Q (λw a=>?_) (λw a=>?_)));refine aK 5 Q (VE a λn y a=>dN TK Q y (aI 1 Q (cS 12 Q Q xA Q (aH 3 Q (aC [2,3,7,31,32,33] Q (aK 1 Q ?_))))));refine bN Q (lX Q sH Q Q (by decide) (by decide) Q) ?_;refine aI 3 Q (dO [.tmp 40] TK Q fK (GE a λt a=>cG (f:=D.str) ([n.name]:List BA) TK Q Q fK Q Q Q Q Q (λh=>absurd h (mQ _)) Q cB t Q Q ?_));refine bN Q (lX Q sH Q Q (by decide) (by decide) Q) ?_;exact aH 4 Q (aC [2,3,31,32,33] Q (aK 1 Q (GE a λu a=>bF Q u (aG 2 Q (bU [0,1,2,3,4,5,6,7,8,9,10,11] a Q Q)))));refine aM 2 Q (IE a λC a j=>?_);rw[z _ j]at a;exact WX (bM 1 Q (bI [0,1,2,3,4,5,6,7,8,9,10,11] a Q Q))
 refine aC [2,3] Q (cH 5 Q (aC [2] Q (aM 1 Q ?_)));obtain rfl:=OJ a;exact EndsS.cellR _ TK Q Q Q Q Q (jS (.cons (cO Q) Q (.cons (cO Q) Q (.cons (cO Q) Q .nil))))
theorem Nb{g:BA}{r:Bool}(a:yY g=some r):RetN TP 223 [.str g] (.bool (r)):=by
 refine .unit (aN (bE Q) func223 Q ntmps223 Q Q (λwX gX=>?_)) Q;unfold yY at a;refine aC [0] Q (bO 4 Q (cJ a (λ_=>[]) (λ_=>[]) [] [0] Q (λR a z=>?_) (λj a=>?_)));refine bO 5 Q (aX a (λe=>([(3,.d (.int .i64 e))])) (λe=>[]) [3] [0] [] k0 Q (λe T a o=>aC [0,3] Q (bO 8 Q (bK a Q (λs a=>?_) (λs a=>?_)))))
 ·refine cH 4 Q (aL a (λf=>([(4,.d (.bool (f)))])) (λf=>[]) [4] [0,3] Q (λU a=>?_) (λf a=>?_))
  ·refine aQ 3 Q (VE a λM y a=>bN Q (Ku Q Tryz.underlying9 Q Q y) (aI 1 Q (SB TK Q (λG n=>?_))));cases G;replace a:=JF n a;exact aG 7 Q (bI [] a Q Q);replace a:=JT n a;exact aI 2 Q (VE a λH t a=>bN Q (Ku Q Tryz.underlying9 Q Q t) (aG 4 Q (bI [] a Q Q)))
  refine aC [0,3,4] Q (aL a (λc=>([(5,.d (.bool (c)))])) (λc=>[]) [5] [0,3,4] Q (λS a=>?_) (λc a=>?_))
  ·refine aQ 3 Q (VE a λI u a=>bN Q (Ku Q Tryz.underlying9 Q Q u) (aI 1 Q (SB TK Q (λA i=>?_))));cases A;replace a:=JF i a;exact aI 8 Q (VE a λJ v a=>bN Q (Ku Q Tryz.underlying9 Q Q v) (aG 4 Q (bI [] a Q Q)));replace a:=JT i a;refine aI 2 Q (VE a λK w a=>bN Q (Ku Q Tryz.underlying9 Q Q w) (aI 2 Q (SB TK Q (λB k=>?_))));cases B;replace a:=JF k a;exact aI 2 Q (VE a λL x a=>bN Q (Ku Q Tryz.underlying9 Q Q x) (aG 4 Q (bI [] a Q Q)));replace a:=JT k a;exact aG 7 Q (bI [] a Q Q)
  refine aC [0,3,4,5] Q ?_;refine hO [(47,.d (.bool (((!(f))&&((!(c))||(decide (e=0)))))))] [47] [0,3] Q ?_ ?_;refine aQ 3 Q (SB TK Q (λC h=>?_));cases C;refine aG 8 Q ?_;exact⟨[],Q,k0,bT (aR (aU (by simp[h])) Q) Q⟩;refine aI 2 Q (SB TK Q (λE l=>?_));cases E;refine aG 5 Q ?_;exact⟨[],Q,k0,bT (aR (aU (by simp[h,l])) Q) Q⟩;refine aG 5 Q ?_;exact⟨[],Q,k0,bT (aR (aU (by simp[h,l])) Q) Q⟩;refine aC [0,3,47] Q (cI a Q (λq a=>?_) (λq a=>?_))
  ·refine aM 7 Q (IE a λN a b=>?_);rw[o _ b]at a;refine WR (bM 1 Q (IE a λO a b=>?_));rw[z _ b]at a;exact WR (bD a Q)
  exact aK 5 Q (GE a λp a=>bF Q p (aG 2 Q (bU [] a Q Q)))
 refine aM 2 Q (IE a λP a b=>?_);rw[o _ b]at a;exact WX (bM 1 Q (bU [] a Q Q));refine aC [0] Q (hO [(2,.d (.bool (((decide (1<=(g.size:Int)))&&(decide ((g.size:Int)<=12))))))] [2] [] Q ?_ ?_)
 ·refine aQ 4 Q (SB TK Q (λF m=>?_));cases F;refine aG 6 Q ?_;exact⟨[],Q,k0,bT (aR (aU (by simp[m])) Q) Q⟩;refine aG 6 Q ?_;exact⟨[],Q,k0,bT (aR (aU (by simp[m])) Q) Q⟩
 exact aC [2] Q (aM 1 Q (bD a Q))
theorem cm{h:(List BA)}{r:Bool}(a:qN h=some r):RetN TP 224 [.sl 1 (h.map D.str)] (.bool (r)):=by
 refine .unit (aN (bE Q) func224 Q ntmps224 Q Q (λwX gX=>?_)) Q;unfold qN at a;refine aC [0] Q (bO 4 Q (cJ a (λ_=>[]) (λ_=>[]) [] [] Q (λB a q=>?_) (λj a=>?_)));refine aQ 2 Q (aW TK Q (aH 4 Q (aX a (λc=>([(7,.d (.int .i64 c))])) (λc=>[]) [7] [0,6] [] k0 Q (λc C a f=>aC [0,6,7] Q (bO 5 Q (bK a Q (λn a=>?_) (λn a=>?_)))))))
 ·refine cH 2 Q (cJ a (λ_=>[]) (λ_=>[]) [] [0,6,7] Q (λE a s=>?_) (λj a=>?_))
  ·refine bO 12 Q (aX a (λe=>([(11,.d (.int .i64 e))])) (λe=>[]) [11] [0,3,6,7,10] [] k0 Q (λe F a g=>aC [0,3,6,7,10,11] Q (bO 5 Q (bK a Q (λl a=>?_) (λl a=>?_)))))
   ·refine cH 9 Q (bR follows ?_);iterate 2 (refine DA [] TK Q ?_)
    refine VE a λt o a=>aV [] Q (eW TK Q Q Q Q o) ?_;iterate 3 (refine DA [] TK Q ?_)
    refine VE a λu p a=>aV [] Q (eW TK Q Q Q Q p) ?_;iterate 2 (refine DA [] TK Q ?_)
    refine DT ?_ (by kernel_rfl);refine aH 2 Q (bK a Q (λm a=>?_) (λm a=>?_));refine cH 4 Q (aC [2] Q (aM 3 Q (IE a λv a b=>?_)));rw[g _ b]at a;refine WR (bM 2 Q (IE a λw a b=>?_));rw[s _ b]at a;refine WR (IE a λx a b=>?_);rw[f _ b]at a;refine WR (bM 1 Q (IE a λy a b=>?_));rw[q _ b]at a;exact WR (bD a Q);exact aK 4 Q (GE a λi a=>bF Q i (aG 2 Q (bU [] a Q Q)))
   refine aM 2 Q (IE a λz a b=>?_);rw[g _ b]at a;exact WX (bM 2 Q (bU [] a Q Q))
  exact aC [0,6,7] Q (aK 1 Q (GE a λk a=>bF Q k (aG 2 Q (bU [] a Q Q))))
 refine aM 2 Q (IE a λA a b=>?_);rw[f _ b]at a;exact WX (bM 1 Q (bU [] a Q Q));exact aC [] Q (aM 5 Q (bD a Q))
theorem Kc{b:Aq}{r:Int}(a:vT b=some r):RetN TP 186 [b.enc] (.int .i64 r):=by
 refine .unit (aN (bE Q) func186 Q ntmps186 Q Q (λwX gX=>?_)) Q;unfold vT at a;refine aC [0] Q (aQ 1 Q (cY 0 Q Q Q (aH 4 Q ?_)));refine hO [(39,.d (.bool (((decide ((b.Ar.length:Int)<1))||((decide (32<(b.Ar.length:Int)))||((decide ((b.Aa.length:Int)<1))||((decide (24<(b.Aa.length:Int)))||((decide (20<(b.Au.length:Int)))||(decide (24<(b.balises.length:Int)))))))))))] [39] [1] Q ?_ ?_;refine aQ 3 Q (aW TK Q (aI 1 Q (SB TK Q (λC e=>?_))));cases C;refine aI 2 Q (aW TK Q (aI 2 Q (SB TK Q (λE g=>?_))));cases E;refine aI 2 Q (aW TK Q (aI 2 Q (SB TK Q (λH i=>?_))));cases H;refine aI 2 Q (aW TK Q (aI 2 Q (SB TK Q (λI k=>?_))));cases I;refine aI 2 Q (aW TK Q (aI 2 Q (SB TK Q (λJ q=>?_))));cases J;refine aI 2 Q (aW TK Q (aG 3 Q ?_));exact⟨[0],Q,k0,bT (aR (aU (by simp[e,g,i,k,q])) Q) Q⟩;refine aG 6 Q ?_;exact⟨[0],Q,k0,bT (aR (aU (by simp[e,g,i,k,q])) Q) Q⟩;refine aG 12 Q ?_;exact⟨[0],Q,k0,bT (aR (aU (by simp[e,g,i,k])) Q) Q⟩;refine aG 18 Q ?_;exact⟨[0],Q,k0,bT (aR (aU (by simp[e,g,i])) Q) Q⟩;refine aG 24 Q ?_;exact⟨[0],Q,k0,bT (aR (aU (by simp[e,g])) Q) Q⟩;refine aG 30 Q ?_;exact⟨[0],Q,k0,bT (aR (aU (by simp[e])) Q) Q⟩;refine aC [1,39] Q (cI a Q (λA a=>?_) (λA a=>?_))
 ·exact aM 6 Q (bD a Q)
 refine aK 4 Q (fA a (Kb ·) Q λc a=>cS 1 Q Q F3 Q (cL 1 [some 1,some 1,some 1] Q Q (aH 3 Q (cJ a (λ_=>[]) (λ_=>[]) [] [3] Q (λV a B=>?_) (λj a=>?_)))))
 ·refine iW (iW (iW (iW (qAQ follows (DA [] TK Q (DA [0] TK Q (zZ [2] _ (.msl 2 1 0 (([b.name]:List BA)).length) Q (mD Q) Q (w_litD [.tmp 43] Q Q (TK.sel Q) fK Q Q Q Q Q) ?_)))))));refine aV [] Q (lX Q sH Q Q (by decide) (by decide) Q) ?_;refine DA [1] TK Q (GE a λw a=>zZ [2,3] _ (.msl 3 1 0 (([b.name]:List BA)++c.a0).length) Q (mD Q) Q (zj (f:=D.str) (xs:=([b.name]:List BA)) c.a0 Q Q Q TK Q fK Q Q Q Q Q Q cB w) ?_);refine aV [] Q (lX Q sH Q Q (by decide) (by decide) Q) ?_;refine DA [1] TK Q (GE a λt a=>zZ [3,4] _ (.msl 4 1 0 ((([b.name]:List BA)++c.a0)++c.a1).length) Q (mD Q) Q (zj (f:=D.str) (xs:=(([b.name]:List BA)++c.a0)) c.a1 Q Q Q TK Q fK Q Q Q Q Q Q cB t) ?_);refine aV [] Q (lX Q sH Q Q (by decide) (by decide) Q) ?_;refine DA [1] TK Q (GE a λu a=>zZ [4,5] _ (.msl 5 1 0 (((([b.name]:List BA)++c.a0)++c.a1)++c.a2).length) Q (mD Q) Q (zj (f:=D.str) (xs:=((([b.name]:List BA)++c.a0)++c.a1)) c.a2 Q Q Q TK Q fK Q Q Q Q Q Q cB u) ?_);iterate 2 (refine DA [] TK Q ?_)
  refine DT ?_ (by kernel_rfl);refine aH 2 Q (aC [3,53,54,55] Q (cH 1 Q (aX a (λl=>([(53,.msl 2 1 0 (((([b.name]:List BA)++c.a0)++c.a1)++c.a2).length),(55,.d (.int .i64 l))])) (λl=>[]) [53,55] [3,54] [0,1,5] k0 Q (λl T a s=>aC [3,53,54,55] Q (bO 5 Q (bK a Q (λx a=>?_) (λx a=>?_)))))));refine aK 5 Q (VE a λK n a=>bN Q (rH TK Q Q Q Q n Q) (bN Q (wQ TK Q Q Q Q n.2 Q) (aI 5 Q (cW a (Nb ·) Q λL a=>aH 3 Q (cI a Q (λy a=>?_) (λy a=>?_))))))
  ·refine aM 7 Q (IE a λP a h=>?_);rw[s _ h]at a;refine WR (bM 1 Q (IE a λR a h=>?_));rw[B _ h]at a;exact WR (bD a Q)
  exact aK 4 Q (GE a λv a=>bF Q v (aG 2 Q (bU [0,1,2] a Q Q)));refine aM 2 Q (IE a λS a h=>?_);rw[s _ h]at a;exact WX (bM 1 Q (bU [0,1] a Q Q))
 refine aC [3] Q (cH 1 Q (aL a (λm=>([(75,.d (.bool (m)))])) (λm=>[]) [75] [] Q (λU a=>?_) (λm a=>?_)))
 ·refine aQ 1 Q ?_;refine bN Q (lX Q sH Q Q (by decide) (by decide) Q) ?_;refine aI 1 Q (cW a (cm ·) Q λM a=>SB TK Q (λF o=>?_));cases F;replace a:=JB o a;refine bN Q (lX Q sH Q Q (by decide) (by decide) Q) ?_;refine aI 1 Q (cW a (cm ·) Q λN a=>aI 1 Q (SB TK Q (λG p=>?_)));cases G;replace a:=JB p a;refine bN Q (lX Q sH Q Q (by decide) (by decide) Q) ?_;exact aI 1 Q (cW a (cm ·) Q λO a=>aG 2 Q (bI [0,1] a Q Q));replace a:=JA p a;exact aG 5 Q (bI [0,1] a Q Q);replace a:=JA o a;exact aG 10 Q (bI [0,1] a Q Q)
 refine aC [75] Q (cI a Q (λz a=>?_) (λz a=>?_))
 ·exact aM 6 Q (bD a Q)
 exact aM 7 Q (bD a Q)
theorem Ka{l:Aq}{a:A6}{r:Bool}(b:vR l a=some r):RetN TP 225 [l.enc,a.enc] (.bool (r)):=by
 refine .unit (aN (bE Q) func225 Q ntmps225 Q Q (λwX gX=>?_)) Q;unfold vR at b;refine aC [0,1] Q (aQ 1 Q (cY 0 Q Q Q (cY 1 Q Q Q (aH 4 Q ?_))));refine hO [(55,.d (.bool (((decide (a.kind<1))||((decide (3<a.kind))||((decide (a.length<500))||((decide (1000000<a.length))||((decide (a.grade<(-50:Int)))||((decide (50<a.grade))||((decide (a.speed<100))||((decide (10000<a.speed))||((decide (a.A4<0))||(decide ((l.Aa.length:Int)<=a.A4))))))))))))))] [55] [3] Q ?_ ?_;refine aQ 4 Q (SB TK Q (λq c=>?_));cases q;refine aI 4 Q (SB TK Q (λt e=>?_));cases t;refine aI 4 Q (SB TK Q (λu f=>?_));cases u;refine aI 4 Q (SB TK Q (λv g=>?_));cases v;refine aI 4 Q (SB TK Q (λw h=>?_));cases w;refine aI 4 Q (SB TK Q (λx i=>?_));cases x;refine aI 4 Q (SB TK Q (λy j=>?_));cases y;refine aI 4 Q (SB TK Q (λz k=>?_));cases z;refine aI 4 Q (SB TK Q (λA n=>?_));cases A;refine aI 4 Q (aW TK Q (aG 3 Q ?_));exact⟨[0,1],Q,k0,bT (aR (aU (by simp[c,e,f,g,h,i,j,k,n])) Q) Q⟩;refine aG 8 Q ?_;exact⟨[0,1],Q,k0,bT (aR (aU (by simp[c,e,f,g,h,i,j,k,n])) Q) Q⟩;refine aG 13 Q ?_;exact⟨[0,1],Q,k0,bT (aR (aU (by simp[c,e,f,g,h,i,j,k])) Q) Q⟩;refine aG 18 Q ?_;exact⟨[0,1],Q,k0,bT (aR (aU (by simp[c,e,f,g,h,i,j])) Q) Q⟩;refine aG 23 Q ?_;exact⟨[0,1],Q,k0,bT (aR (aU (by simp[c,e,f,g,h,i])) Q) Q⟩;refine aG 28 Q ?_;exact⟨[0,1],Q,k0,bT (aR (aU (by simp[c,e,f,g,h])) Q) Q⟩;refine aG 33 Q ?_;exact⟨[0,1],Q,k0,bT (aR (aU (by simp[c,e,f,g])) Q) Q⟩;refine aG 38 Q ?_;exact⟨[0,1],Q,k0,bT (aR (aU (by simp[c,e,f])) Q) Q⟩;refine aG 43 Q ?_;exact⟨[0,1],Q,k0,bT (aR (aU (by simp[c,e])) Q) Q⟩;refine aG 48 Q ?_;exact⟨[0,1],Q,k0,bT (aR (aU (by simp[c])) Q) Q⟩;refine aC [3,55] Q (cI b Q (λo b=>?_) (λo b=>?_))
 ·exact aM 6 Q (bD b Q)
 refine cH 9 Q (bK b Q (λp b=>?_) (λp b=>?_))
 ·refine hO [(4,.d (.bool (((decide (100<=a.slow))&&(decide (a.slow<=a.speed))))))] [4] [] Q ?_ ?_
  ·refine aQ 4 Q (SB TK Q (λs m=>?_));cases s;refine aG 8 Q ?_;exact⟨[0,1],Q,k0,bT (aR (aU (by simp[m])) Q) Q⟩;refine aG 8 Q ?_;exact⟨[0,1],Q,k0,bT (aR (aU (by simp[m])) Q) Q⟩
  exact aC [4] Q (aM 2 Q (bD b Q))
 exact aM 10 Q (bD b Q)
theorem Fq{j:Aq}{b:Int}{r:(List Int)}(a:rX j b=some r):RetD TP 226 [j.enc,.int .i64 b] (.sl 1 (r.map (D.int .i64))):=by
 refine .of (mv:=λ_=>false) (aN (bE Q) func226 Q ntmps226 Q Q (λwX gX=>?_));unfold rX at a;refine aC [0,1] Q (aQ 1 Q (cY 0 Q Q Q (aI 4 Q (gU (f:=(D.int .i64)) 1 3 1 Q Q Q (aH 2 Q (aL a (λc=>([(5,.msl 1 1 0 c.length)])) (λc=>([(1,.flat 3 1 (c.map (D.int .i64)))])) [5] [] Q (λz a=>?_) (λc a=>?_)))))));refine aQ 3 Q (aW TK Q (aH 4 Q (aX a (λ(g,e)=>([(5,.msl 1 1 0 e.length),(11,.d (.int .i64 g))])) (λ(g,e)=>([(1,.flat 3 1 (e.map (D.int .i64)))])) [5,11] [1,2,9,10] [0,1] k0 Q (λs A a v=>?_))));obtain⟨g,e⟩:=s;refine aC [1,2,5,9,10,11] Q (bO 5 Q (bK a Q (λq a=>?_) (λq a=>?_)));refine aK 6 Q (VE a λl t a=>dN TK Q t (aI 1 Q (cS 2 Q Q gf Q (aH 4 Q (hO [(30,.d (.bool (((decide (l.A4=b))&&((decide (0<=b))&&(decide (b<(j.Aa.length:Int))))))))] [30] [1,2,5,6,9,10,11] Q ?_ ?_)))))
 ·refine aQ 5 Q (SB TK Q (λw i=>?_));cases w;refine aG 11 Q ?_;exact⟨[0,1,2],Q,k0,bT (aR (aU (by simp[i])) Q) Q⟩;refine aI 3 Q (SB TK Q (λx k=>?_));cases x;refine aG 7 Q ?_;exact⟨[0,1,2],Q,k0,bT (aR (aU (by simp[i,k])) Q) Q⟩;refine aI 3 Q (aW TK Q (aG 3 Q ?_));exact⟨[0,1,2],Q,k0,bT (aR (aU (by simp[i,k])) Q) Q⟩
 refine aC [1,2,5,6,9,10,11,30] Q (cI a Q (λp a=>?_) (λp a=>?_))
 ·exact aK 3 Q (dO [.tmp 32] TK Q gA (GE a λm a=>cG (f:=(D.int .i64)) ([g]:List Int) TK Q Q gA Q Q Q Q Q (λh=>absurd h (mQ _)) Q cB m Q Q (aI 5 Q (GE a λn a=>bF Q n (aG 2 Q (bU [0,1] a Q Q))))))
 exact aK 4 Q (GE a λo a=>bF Q o (aG 2 Q (bU [0,1] a Q Q)));refine aM 2 Q (IE a λy a u=>?_);rw[v _ u]at a;exact WX (bM 1 Q (bI [0,1] a Q Q));refine aC [5] Q (aM 6 Q ?_);obtain rfl:=OJ a;exact EndsS.one _ Q (cO Q) (.refl _)
theorem yt{b:Int}{r:Int}(a:qQ b=some r):RetN TP 232 [.int .i64 b] (.int .i64 r):=by
 refine .unit (aN (bE Q) func232 Q ntmps232 Q Q (λwX gX=>?_)) Q;unfold qQ at a;refine aC [0] Q (bO 15 Q (bK a Q (λc a=>?_) (λc a=>?_)));exact aM 7 Q (bD a Q);refine cH 5 Q (bK a Q (λd a=>?_) (λd a=>?_))
 ·exact aM 7 Q (bD a Q)
 refine cH 5 Q (bK a Q (λe a=>?_) (λe a=>?_))
 ·exact aM 7 Q (bD a Q)
 exact aM 8 Q (bD a Q)
theorem yX{g:Aq}{h:End}{r:Bool}(a:pG g h=some r):RetN TP 227 [g.enc,h.enc] (.bool (r)):=by
 refine .unit (aN (bE Q) func227 Q ntmps227 Q Q (λwX gX=>?_)) Q;unfold pG at a;refine aC [0,1] Q (aQ 1 Q (cY 0 Q Q Q (cY 1 Q Q Q (aH 3 Q (aL a (λb=>([(4,.d (.bool (b)))])) (λb=>[]) [4] [] Q (λo a=>?_) (λb a=>?_))))));refine gT follows ?_;iterate 3 (refine DA [0,1] TK Q ?_)
 refine uP [0,1] TK Q (λj c=>?_);cases j;replace a:=JF c a;iterate 25 (refine DA [0,1] TK Q ?_)
 refine DT ?_ (by kernel_rfl);exact aG 2 Q (bI [0,1] a Q Q);replace a:=JT c a;iterate 4 (refine DA [0,1] TK Q ?_)
 refine aV [0,1] Q (yD TK Q Q Q) ?_;iterate 2 (refine DA [0,1] TK Q ?_)
 refine uP [0,1] TK Q (λk e=>?_);cases k;replace a:=JF e a;iterate 17 (refine DA [0,1] TK Q ?_)
 refine DT ?_ (by kernel_rfl);exact aG 2 Q (bI [0,1] a Q Q);replace a:=JT e a;iterate 4 (refine DA [0,1] TK Q ?_)
 refine uP [0,1] TK Q (λl f=>?_);cases l;replace a:=JF f a;iterate 12 (refine DA [0,1] TK Q ?_)
 refine DT ?_ (by kernel_rfl);exact aG 2 Q (bI [0,1] a Q Q);replace a:=JT f a;iterate 6 (refine DA [0,1] TK Q ?_)
 refine VE a λm i a=>aV [0,1] Q (eW TK Q Q Q Q i) ?_;iterate 2 (refine DA [0,1] TK Q ?_)
 refine gI [0,1] a (yt ·) Q λn a=>?_;iterate 2 (refine DA [0,1] TK Q ?_)
 refine DT ?_ (by kernel_rfl);exact aG 2 Q (bI [0,1] a Q Q);exact aC [4] Q (aM 1 Q (bD a Q))
theorem Cc{i:(List End)}{r:Bool}(a:uV i=some r):RetN TP 228 [.sl 2 (i.map End.enc)] (.bool (r)):=by
 refine .unit (aN (bE Q) func228 Q ntmps228 Q Q (λwX gX=>?_)) Q;unfold uV at a;refine aC [0] Q (bO 4 Q (cJ a (λ_=>[]) (λ_=>[]) [] [] Q (λC a s=>?_) (λj a=>?_)));refine aQ 2 Q (aW TK Q (aH 4 Q (aX a (λc=>([(7,.d (.int .i64 c))])) (λc=>[]) [7] [0,6] [] k0 Q (λc E a g=>aC [0,6,7] Q (bO 5 Q (bK a Q (λo a=>?_) (λo a=>?_)))))))
 ·refine cH 2 Q (cJ a (λ_=>[]) (λ_=>[]) [] [0,6,7] Q (λF a t=>?_) (λj a=>?_))
  ·refine bO 12 Q (aX a (λe=>([(11,.d (.int .i64 e))])) (λe=>[]) [11] [0,3,6,7,10] [] k0 Q (λe G a h=>aC [0,3,6,7,10,11] Q (bO 5 Q (bK a Q (λm a=>?_) (λm a=>?_)))))
   ·refine cH 9 Q (bR follows ?_);iterate 2 (refine DA [] TK Q ?_)
    refine VE a λu p a=>aV [] Q (eW TK Q Q Q Q p) ?_;iterate 3 (refine DA [] TK Q ?_)
    refine VE a λv q a=>aV [] Q (eW TK Q Q Q Q q) (DA [] TK Q (GE a λf a=>aV [] Q (Jq Q Q Q f.1 f.2) ?_));refine DT ?_ (by kernel_rfl);refine aH 2 Q (bK a Q (λn a=>?_) (λn a=>?_));refine cH 4 Q (aC [2] Q (aM 3 Q (IE a λw a b=>?_)));rw[h _ b]at a;refine WR (bM 2 Q (IE a λx a b=>?_));rw[t _ b]at a;refine WR (IE a λy a b=>?_);rw[g _ b]at a;refine WR (bM 1 Q (IE a λz a b=>?_));rw[s _ b]at a;exact WR (bD a Q);exact aK 4 Q (GE a λk a=>bF Q k (aG 2 Q (bU [] a Q Q)))
   refine aM 2 Q (IE a λA a b=>?_);rw[h _ b]at a;exact WX (bM 2 Q (bU [] a Q Q))
  exact aC [0,6,7] Q (aK 1 Q (GE a λl a=>bF Q l (aG 2 Q (bU [] a Q Q))))
 refine aM 2 Q (IE a λB a b=>?_);rw[g _ b]at a;exact WX (bM 1 Q (bU [] a Q Q));exact aC [] Q (aM 5 Q (bD a Q))
theorem D0{x:Aq}{r:Int}(c:qO x=some r):RetN TP 187 [x.enc] (.int .i64 r):=by
 refine .unit (aN (bE Q) func187 Q ntmps187 Q Q (λwX gX=>?_)) Q;unfold qO at c;refine aC [0] Q (aQ 1 Q (cY 0 Q Q Q (aH 3 Q (cJ c (λ_=>[]) (λ_=>[]) [] [1] Q (λa8 c N=>?_) (λj c=>?_)))));refine aQ 3 Q (aW TK Q (aH 4 Q (aX c (λm=>([(12,.d (.int .i64 m))])) (λm=>[]) [12] [1,10,11] [0] k0 Q (λm b4 c w=>aC [1,10,11,12] Q (bO 5 Q (bK c Q (λI c=>?_) (λI c=>?_)))))))
 ·refine aK 5 Q (VE c λT L c=>dN TK Q L (aI 1 Q (cS 1 Q Q gf Q (aI 6 Q (cW c (Ka ·) Q λY c=>aH 3 Q (cI c Q (λJ c=>?_) (λJ c=>?_)))))))
  ·refine aM 7 Q (IE c λa7 c e=>?_);rw[w _ e]at c;refine WR (bM 1 Q (IE c λZ c e=>?_));rw[N _ e]at c;exact WR (bD c Q)
  exact aK 4 Q (GE c λy c=>bF Q y (aG 2 Q (bU [0] c Q Q)))
 refine aM 2 Q (IE c λa0 c e=>?_);rw[w _ e]at c;exact WX (bM 1 Q (bU [0] c Q Q));refine aC [1] Q (cJ c (λ_=>[]) (λ_=>[]) [] [1] Q (λa9 c O=>?_) (λj c=>?_))
 ·refine aQ 3 Q (aW TK Q (aH 4 Q (aX c (λk=>([(24,.d (.int .i64 k))])) (λk=>[]) [24] [1,23] [0] k0 Q (λk b0 c u=>aC [1,23,24] Q (bO 5 Q (bK c Q (λC c=>?_) (λC c=>?_)))))))
  ·refine aK 12 Q (fA c (Fq ·) Q λU c=>aW TK Q (aH 3 Q (bK c Q (λE c=>?_) (λE c=>?_))))
   ·refine aM 7 Q (IE c λa1 c e=>?_);rw[u _ e]at c;refine WR (bM 1 Q (IE c λa2 c e=>?_));rw[O _ e]at c;exact WR (bD c Q)
   exact aK 4 Q (GE c λz c=>bF Q z (aG 2 Q (bU [0] c Q Q)))
  refine aM 2 Q (IE c λa3 c e=>?_);rw[u _ e]at c;exact WX (bM 1 Q (bU [0] c Q Q))
 refine aC [1] Q (aK 1 Q (gU (f:=End.enc) 1 125 2 Q Q Q (aH 2 Q (cJ c (λg=>([(6,.msl 1 2 0 g.length)])) (λg=>([(1,.flat 125 2 (g.map End.enc))])) [6] [] Q (λb1 c P=>?_) (λg c=>?_)))))
 ·refine aQ 3 Q (aW TK Q (aH 4 Q (aX c (λ(l,i)=>([(6,.msl 1 2 0 i.length),(36,.d (.int .i64 l))])) (λ(l,i)=>([(1,.flat 125 2 (i.map End.enc))])) [6,36] [1,34,35] [0,1] k0 Q (λs b2 c v=>?_))));obtain⟨l,i⟩:=s;refine aC [1,6,34,35,36] Q (bO 5 Q (bK c Q (λF c=>?_) (λF c=>?_)));refine aK 5 Q (VE c λo K c=>dN TK Q K (aI 1 Q (cS 2 Q Q Bp Q (aH 4 Q (aL c (λn=>([(58,.d (.bool (n)))])) (λn=>[]) [58] [1,6,8,34,35,36] Q (λb3 c=>?_) (λn c=>?_))))))
  ·refine aQ 4 Q (cW c (yX ·) Q λV c=>aI 1 Q (SB TK Q (λR q=>?_)));cases R;replace c:=JB q c;refine aI 3 Q (cW c (yX ·) Q λW c=>aI 2 Q (SB TK Q (λS t=>?_)));cases S;replace c:=JB t c;exact aI 4 Q (GE c λp c=>bN Q (Jq Q Q Q p.1 p.2) (aG 2 Q (bI [0,1,2] c Q Q)));replace c:=JA t c;exact aG 7 Q (bI [0,1,2] c Q Q);replace c:=JA q c;exact aG 14 Q (bI [0,1,2] c Q Q)
  refine aC [1,6,8,34,35,36,58] Q (cI c Q (λG c=>?_) (λG c=>?_))
  ·refine aM 8 Q (IE c λa4 c e=>?_);rw[v _ e]at c;refine WR (bM 1 Q (IE c λa5 c e=>?_));rw[P _ e]at c;exact WR (bD c Q)
  exact aK 8 Q (dO [.tmp 61,.tmp 63] TK Q gL (GE c λA c=>cG (f:=End.enc) ([o.a,o.b]:List End) TK Q Q gL Q Q Q Q Q (λh=>absurd h (mQ _)) Q cB A Q Q (aI 5 Q (GE c λB c=>bF Q B (aG 2 Q (bU [0,1] c Q Q))))));refine aM 2 Q (IE c λa6 c e=>?_);rw[v _ e]at c;exact WX (bM 1 Q (bU [0,1] c Q Q))
 refine aC [6] Q (aK 3 Q (BE c λX M c=>bN Q (RN Q Q (SC (cO Q) SN) (Cc M)) (aH 2 Q (cI c Q (λH c=>?_) (λH c=>?_)))))
 ·exact aM 6 Q (bD c Q)
 exact aM 7 Q (bD c Q)
end Go.Proofs.YtldaknhjmhlefaaGreatDoor
