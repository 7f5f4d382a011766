/- Texts of this proof, joined, without what it does not use. No condition. -/
import Derived.Laws.BytesArg
import Derived.Test.YtciilodpnepdbaaDoorQp

set_option linter.unusedVariables false
set_option linter.unusedSimpArgs false
set_option linter.unusedSectionVars false
namespace Go.TL
open Go.Sort Go.Proofs
variable {P:Program} {C:Ctx} {st:St} {g:Gh} {a:Act} {w:World}
section
variable {o:Oper} {ev:Operand->AV} {hp:List Blk} {t t' e arr:TypeId} {x y:Operand}
theorem x_bstr {xs:List Int} (ho:o.op=.convert t t' x) (hs:C.P.underlying t=some (.slice e)) (he:C.P.underlying e=some (.int .u8)) (hd:C.P.underlying t'=some .string) (hx:ev x=.d (.sl 1 (xs.map (D.int .u8)))):RdOk C o ev hp (.d (.str (strOfNums xs))):=
  RdOk.mk λst hhp hag g a w hsim=>by
    have hv:=hsim.ev x;rw [hag x (by simp [ho,Op.operands]),hx] at hv;generalize hev:a.eval x=v at *
    have key:∀ (ad:Option Addr) (cap:Nat),v=.slice ad xs.length cap->(Conv.bytesToString v).run C.P w=.ok (.string (strOfNums xs)) w->(execOp a.eval o).run C.P w=.ok (.value (.string (strOfNums xs))) w:=by
      intro ad cap hv h;simp only [execOp,ho,hev,Sem.run_bind];rw [hv,run_convert_bytes_string w t t' e ad xs.length cap hs he hd,<- hv,h];rfl
    refine⟨.string (strOfNums xs),?_,.d _ _ (.str _)⟩
    cases hv with
    | d _ _ h=>
      generalize hes:xs.map (D.int .u8)=es at h
      cases h with
      | sl0 _ ad cap=>
        have hx0:xs=[]:=by simpa using hes
        subst hx0;refine key ad cap rfl ?_
        cases ad with
        | none=>simp [Conv.bytesToString];rfl
        | some ad=>
          rw [run_bytesToString w ad 0 cap [] (run_loadCells_list (P:=C.P) w ad [] (λj v h=>by simp at h)),foldl_push_bytes];rfl
      | sl _ _ ad cap val hX hc hsz h1 hv hr=>
        subst hes;simp only [zQC] at *;refine key (some ad) cap rfl ?_
        have hl:(loadCells ad xs.length).run C.P w=.ok (xs.map (Value.int .u8)).toArray w:=by
          have := run_loadCells_list (P := C.P) w ad (xs.map (Value.int .u8)) (fun j v hj => by
            simp only [zQP, zQO] at hj;obtain ⟨n, hn, rfl⟩ := hj;have h3 := hv j (D.int .u8 n) 0 (D.int .u8 n) (by simp [hn]) rfl;have h4 := hr j (D.int .u8 n) 0 (D.int .u8 n) (by simp [hn]) rfl;rw [Nat.mul_one, Nat.add_zero] at h3;rw [h3];generalize val j 0 = u at h4;cases h4
            rfl)
          simpa using this
        rw [run_bytesToString w ad xs.length cap xs hl,foldl_push_bytes];simp [strOfNums,ByteArray.empty,ByteArray.emptyWithCapacity];rfl
end
section
variable {o:Oper} {ev:Operand->AV} {hp:List Blk} {x:Operand}
end
end Go.TL
set_option maxHeartbeats 4000000
namespace Go.TL
variable {C:Ctx} {st:St} {g:Gh} {a:Act} {w:World} {P:Program}
inductive Kt where
  | s (y:Code)
  | b (i:Nat)
def post (C:Ctx):List Kt->(Exit->St->Prop)->Exit->St->Prop
  | [],Q=>Q
  | .s y :: ks,Q=>fW (λst=>TWp C y st (post C ks Q)) (post C ks Q)
  | .b i :: ks,Q=>fF i (post C ks Q)
def pn (C:Ctx) (ks:List Kt) (Q:Exit->St->Prop):St->Prop:=post C ks Q .normal
inductive Md where
  | kc (x:Code) (fr:Fr) (hp:List Blk) (ks:List Kt)
  | ko (ops:Array Oper) (l:List Oper) (fr:Fr) (hp:List Blk) (ks:List Kt)
  | kx (e:Exit) (fr:Fr) (hp:List Blk) (ks:List Kt)
  | kn
def Md.goal (C:Ctx) (Q:Exit->St->Prop):Md->Prop
  | .kc x fr hp ks=>TWp C x ⟨fr,hp⟩ (post C ks Q)
  | .ko ops l fr hp ks=>aM C ops l ⟨fr,hp⟩ (pn C ks Q)
  | .kx e fr hp ks=>post C ks Q e ⟨fr,hp⟩
  | .kn=>False
def stX (fr:Fr) (hp:List Blk) (e:Exit):List Kt->Md
  | []=>.kn
  | .s y :: ks=>match e with
    | .normal=>.kc y fr hp ks
    | e=>.kx e fr hp ks
  | .b i :: ks=>match e with
    | .exit j=>match Nat.beq j i with
      | true=>.kx .normal fr hp ks
      | false=>.kx (.exit j) fr hp ks
    | e=>.kx e fr hp ks
def stO (T:Tab) (n:Nat) (ops:Array Oper) (fr:Fr) (hp:List Blk) (ks:List Kt):List Oper->Md
  | []=>.kx .normal fr hp ks
  | o :: l=>match stE T n ops o fr hp with
    | some (fr',hp')=>.ko ops l fr' hp' ks
    | none=>.kn
def stS (fr:Fr) (hp:List Blk) (ks:List Kt) (y:Code):Code->Md
  | .region id ops d=>match d with
    | false=>.ko ops ops.toList fr hp (.s y :: ks)
    | true=>.kc (.region id ops true) fr hp (.s y :: ks)
  | x=>.kc x fr hp (.s y :: ks)
def stC (fr:Fr) (hp:List Blk) (ks:List Kt):Code->Md
  | .seq x y=>stS fr hp ks y x
  | .region _ ops d=>match d with
    | false=>.ko ops ops.toList fr hp ks
    | true=>.kn
  | .skip=>.kx .normal fr hp ks
  | .ret=>.kx .ret fr hp ks
  | .exit i=>.kx (.exit i) fr hp ks
  | .block i x=>.kc x fr hp (.b i :: ks)
  | _=>.kn
def stp (T:Tab) (n:Nat):Md->Md
  | .kc x fr hp ks=>stC fr hp ks x
  | .ko ops l fr hp ks=>stO T n ops fr hp ks l
  | .kx e fr hp ks=>stX fr hp e ks
  | .kn=>.kn
def run (T:Tab) (n:Nat):Nat->Md->Md
  | 0,m=>m
  | k+1,m=>run T n k (stp T n m)
theorem stX_ok {Q:Exit->St->Prop} {fr:Fr} {hp:List Blk} {e:Exit} {ks:List Kt} (h:(stX fr hp e ks).goal C Q):post C ks Q e ⟨fr,hp⟩:=by
  cases ks with
  | nil=>exact h.elim
  | cons k ks=>
    cases k with
    | s y=>cases e<;>exact h
    | b i=>
      cases e with
      | exit j=>
        simp only [stX] at h;show fF i (post C ks Q) (.exit j) _;simp only [fF];split at h
        · rename_i hj;rw [if_pos (Nat.eq_of_beq_eq_true hj)];exact h
        rename_i hj;rw [if_neg (λe=>by rw [e,Nat.beq_refl] at hj;cases hj)];exact h
      | _=>exact h
theorem stS_ok {Q:Exit->St->Prop} {fr:Fr} {hp:List Blk} {ks:List Kt} {y x:Code} (h:(stS fr hp ks y x).goal C Q):TWp C (.seq x y) ⟨fr,hp⟩ (post C ks Q):=by
  cases x with
  | region id ops d=>cases d with
    | false=>exact RS h
    | true=>exact TQ h
  | _=>exact TQ h
theorem stC_ok {Q:Exit->St->Prop} {fr:Fr} {hp:List Blk} {ks:List Kt} {x:Code} (h:(stC fr hp ks x).goal C Q):TWp C x ⟨fr,hp⟩ (post C ks Q):=by
  cases x with
  | seq x y=>exact stS_ok h
  | region id ops d=>cases d with
    | false=>exact TG h
    | true=>exact h.elim
  | skip=>exact TS h
  | ret=>exact TR h
  | exit i=>exact qDE h
  | block i x=>exact TB h
  | _=>exact h.elim
theorem stp_ok {T:Tab} (hT:TabOk C.P T) {Q:Exit->St->Prop} {m:Md} (h:(stp T C.n m).goal C Q):m.goal C Q:=by
  cases m with
  | kc x fr hp ks=>exact stC_ok h
  | ko ops l fr hp ks=>
    cases l with
    | nil=>exact TN h
    | cons o l=>
      simp only [stp,stO] at h;split at h
      · rename_i fr' hp' he;exact SA hT he h
      exact h.elim
  | kx e fr hp ks=>exact stX_ok h
  | kn=>exact h.elim
theorem qDS {T:Tab} (hT:TabOk C.P T) {Q:Exit->St->Prop}:∀ (k:Nat) (m:Md),(run T C.n k m).goal C Q->m.goal C Q
  | 0,_,h=>h
  | k+1,_,h=>stp_ok hT (qDS hT k _ h)
theorem gT {T:Tab} (hT:TabOk C.P T) {Q:Exit->St->Prop} {k:Nat} {m m':Md} (h:run T C.n k m=m') (hm:m'.goal C Q):m.goal C Q:=qDS hT k m (h ▸ hm)
theorem bK {id:Nat} {ops:Array Oper} {y:Code} {ks:List Kt} {Q:Exit->St->Prop} (hm:C.P.follows .mixedOrders=true) (h:TDr C ops (pn C (.s y :: ks) Q) ops.toList st.fr st.hp []):TWp C (.seq (.region id ops true) y) st (post C ks Q):=qDF hm h
theorem lA {id:Nat} {ops:Array Oper} {ks:List Kt} {Q:Exit->St->Prop} (hm:C.P.follows .mixedOrders=true) (h:TDr C ops (pn C ks Q) ops.toList st.fr st.hp []):TWp C (.region id ops true) st (post C ks Q):=pZ hm h
theorem qAU {id:Nat} {ops:Array Oper} {Q:Exit->St->Prop} (hm:C.P.follows .mixedOrders=true) (h:TDr C ops (pn C [] Q) ops.toList st.fr st.hp []):TWp C (.region id ops true) st Q:=pZ hm h
theorem bV {α:Type} {p:Prop} [Decidable p] {x0 y0:Option α} {r:α} {o:Operand} {x y:Code} {Q:Exit->St->Prop} (hm:(if p then x0 else y0)=some r) (hc:st.fr.ev o=.d (.bool (decide p)))
    (h1:decide p=true->x0=some r->TWp C x st Q) (h2:decide p=false->y0=some r->TWp C y st Q):TWp C (.cond o x y) st Q:=
  TC _ hc (λh=>h1 h (JT h hm)) (λh=>h2 h (JF h hm))
theorem iG {α:Type} {p:Prop} [Decidable p] {x0 y0:Option α} {r:α} {o:Operand} {x y:Code} {Q:Exit->St->Prop} (hm:(if p then y0 else x0)=some r) (hc:st.fr.ev o=.d (.bool (!decide p)))
    (h1:(!decide p)=true->x0=some r->TWp C x st Q) (h2:(!decide p)=false->y0=some r->TWp C y st Q):TWp C (.cond o x y) st Q:=
  TC _ hc (λh=>h1 h (oH h hm)) (λh=>h2 h (oI h hm))
theorem cF {α:Type} {p:Bool} {x0 y0:Option α} {r:α} {o:Operand} {x y:Code} {Q:Exit->St->Prop} (hm:(if p=true then x0 else y0)=some r) (hc:st.fr.ev o=.d (.bool p))
    (h1:p=true->x0=some r->TWp C x st Q) (h2:p=false->y0=some r->TWp C y st Q):TWp C (.cond o x y) st Q:=
  TC _ hc (λh=>h1 h (JA h hm)) (λh=>h2 h (JB h hm))
/- A call, and the model's call with it. -/
section calls
variable {ops:Array Oper} {ty:TypeId} {pos:String} {after:Array Edge} {gd:Option (Nat×Bool)} {l:List Oper} {K:St->Prop} {fr:Fr} {hp:List Blk} {acc:List Rec} {d:Nat} {F:FuncId} {f:Operand} {xs:Array Operand} {ts:Array TypeId} {ds:List D} {α β:Type} {m:Option α} {k:α->Option β} {o:β} {e:α->D}
theorem c_N (hm:aD m k=some o) (hf:∀ {x},m=some x->RetN C.P F ds (e x)) (hd:decide (d < C.n)=true) (hon:onE ops gd fr=some true) (he:fr.ev f=.d (.fn F)) (hx:xs.toList.map fr.ev=ds.map .d)
    (hk:∀ x,k x=some o->aM C ops l ⟨(d,.d (e x)) :: fr,hp⟩ K):aM C ops (⟨some d,.call { callee:=.value f,args:=xs,argTypes:=ts },ty,pos,after,gd⟩ :: l) ⟨fr,hp⟩ K:=by
  obtain⟨x,h1,h2⟩:=BI hm;exact SX hd hon (RN rfl he (mZ hx) (hf h1)) (hk x h2)
theorem c_D (hm:aD m k=some o) (hf:∀ {x},m=some x->RetD C.P F ds (e x)) (hd:decide (d < C.n)=true) (hon:onE ops gd fr=some true) (he:fr.ev f=.d (.fn F)) (hx:xs.toList.map fr.ev=ds.map .d)
    (hk:∀ x,k x=some o->aM C ops l ⟨(d,.d (e x)) :: fr,hp⟩ K):aM C ops (⟨some d,.call { callee:=.value f,args:=xs,argTypes:=ts },ty,pos,after,gd⟩ :: l) ⟨fr,hp⟩ K:=by
  obtain⟨x,h1,h2⟩:=BI hm;exact SX hd hon (RD rfl he hx (hf h1)) (hk x h2)
theorem qCF (rs:List Nat) (hm:aD m k=some o) (hf:∀ {x},m=some x->RetN C.P F ds (e x)) (hd:decide (d < C.n)=true) (hon:onE ops gd fr=some true) (he:fr.ev f=.d (.fn F)) (hx:xs.toList.map fr.ev=ds.map .d)
    (hk:∀ x,k x=some o->TDr C ops K l ((d,.d (e x)) :: fr) hp (acc++[⟨true,d,.d (e x),rs,[]⟩])):TDr C ops K (⟨some d,.call { callee:=.value f,args:=xs,argTypes:=ts },ty,pos,after,gd⟩ :: l) fr hp acc:=by
  obtain⟨x,h1,h2⟩:=BI hm;exact DX rs hd hon (RN rfl he (mZ hx) (hf h1)) (hk x h2)
theorem qIL (rs:List Nat) (hm:aD m k=some o) (hf:∀ {x},m=some x->RetD C.P F ds (e x)) (hd:decide (d < C.n)=true) (hon:onE ops gd fr=some true) (he:fr.ev f=.d (.fn F)) (hx:xs.toList.map fr.ev=ds.map .d)
    (hk:∀ x,k x=some o->TDr C ops K l ((d,.d (e x)) :: fr) hp (acc++[⟨true,d,.d (e x),rs,[]⟩])):TDr C ops K (⟨some d,.call { callee:=.value f,args:=xs,argTypes:=ts },ty,pos,after,gd⟩ :: l) fr hp acc:=by
  obtain⟨x,h1,h2⟩:=BI hm;exact DX rs hd hon (RD rfl he hx (hf h1)) (hk x h2)
end calls
theorem aW {α:Type} {f:α->D} {x r:α} {rs:List ResultVar} {st:St} (hm:some x=some r) (h:nC st.fr rs=some (.d (f x))):EndsS P rs (f r) st:=by
  cases hm;exact EndsS.one _ h (.d _) (.refl _)
theorem e_j {α:Type} {x z:α} (ids:List Nat) {ks:List Nat} {st:St} {k:Nat} {S:α->St} (hm:some x=some z) (h1:dG ids=true) (h2:∀ i,i < k->ids[i]?=some i) (h3:st.canon ks ids=S x):
    ∃ j ids',z=j/\dG ids'=true/\(∀ i,i < k->ids'[i]?=some i)/\st.canon ks ids'=S j:=⟨x,ids,(Option.some.inj hm).symm,h1,h2,h3⟩
theorem bR {α:Type} {x z:α} (ids:List Nat) {ks:List Nat} {st:St} {S:α->St} (hm:some x=some z) (h1:dG ids=true) (h3:st.canon ks ids=S x):
    ∃ j ids',z=j/\dG ids'=true/\(∀ i,i < 0->ids'[i]?=some i)/\st.canon ks ids'=S j:=⟨x,ids,(Option.some.inj hm).symm,h1,λi hi=>absurd hi (zQV i),h3⟩
theorem e_l {α β:Type} {x:α} {z:α ⊕ β} (ids:List Nat) {ks:List Nat} {st:St} {k:Nat} {S:α->St} (hm:some (.inl x)=some z) (h1:dG ids=true) (h2:∀ i,i < k->ids[i]?=some i) (h3:st.canon ks ids=S x):
    ∃ j ids',z=.inl j/\dG ids'=true/\(∀ i,i < k->ids'[i]?=some i)/\st.canon ks ids'=S j:=⟨x,ids,(Option.some.inj hm).symm,h1,h2,h3⟩
theorem cQ {α β:Type} {x:α} {z:α ⊕ β} (ids:List Nat) {ks:List Nat} {st:St} {S:α->St} (hm:some (.inl x)=some z) (h1:dG ids=true) (h3:st.canon ks ids=S x):
    ∃ j ids',z=.inl j/\dG ids'=true/\(∀ i,i < 0->ids'[i]?=some i)/\st.canon ks ids'=S j:=⟨x,ids,(Option.some.inj hm).symm,h1,λi hi=>absurd hi (zQV i),h3⟩
end Go.TL
