/- Texts of this proof, joined, without what it does not use. No condition. -/
import Derived.DeepKeys3
import Derived.Test.YtofndjhpbonpbaaGreatDoorQo

set_option linter.unusedVariables false
set_option linter.unusedSimpArgs false
set_option linter.unusedSectionVars false
namespace Go.TL
open Go.Sort Go.Proofs
variable {P:Program} {C:Ctx} {st:St} {g:Gh} {a:Act} {w:World}
def isKS (ks:List TypeDesc) (k:D):Prop:=∃ cs L,k=.agg cs/\oB cs=some L/\fJ ks L
def keySV:D->Value
  | .agg cs=>.agg (((oB cs).getD []).map eX).toArray
  | _=>undef
structure SKey (P:Program) (kt:TypeId) (ks:List TypeDesc):Prop where
  law:WideMaps.KeyLaw P kt
  of:∀ k,isKS ks k->∃ l,keyOf P kt (keySV k)=some l
section find
variable {kt:TypeId} {ks:List TypeDesc} {k:D} {es:List (D×D)} {ents:Array MapEntry}
end find
section look
variable {o:Oper} {ev:Operand->AV} {hp:List Blk} {x y:Operand} {t kt et kt' et':TypeId} {d:TypeDesc} {id:Nat} {es:List (D×D)} {k v zd:D} {z:Value} {ks:List TypeDesc}
end look
section upd
variable {o:Oper} {K:St->Prop} {x y u:Operand} {t kt et kt' et':TypeId} {d:TypeDesc} {id:Nat} {es:List (D×D)} {k v:D} {ks:List TypeDesc}
end upd
structure KeyG (ks:List TypeDesc) {α:Type} (kf:α->D) (ok:α->Bool):Prop where
  key:∀ a,ok a=true->isKS ks (kf a)
  inj:∀ a b,kf a=kf b->a=b
def zBK {α β:Type} (ok:α->Bool) (fs:List (α×β)) (s:α):Prop:=(fs.map (·.1)).Nodup/\(∀ x∈fs,ok x.1=true)/\ok s=true
instance {α β:Type} [DecidableEq α] (ok:α->Bool) (fs:List (α×β)) (s:α):Decidable (zBK ok fs s):=by unfold zBK;infer_instance
section pm
variable {α β:Type} [DecidableEq α] {dk:TypeDesc} {kf:α->D} {ok:α->Bool} {ks:List TypeDesc}
variable {o:Oper} {ev:Operand->AV} {hp:List Blk} {x y u:Operand} {t kt et kt' et':TypeId} {id:Nat} {zd:D} {z:Value}
end pm
variable {P:Program} {C:Ctx} {st:St} {g:Gh} {a:Act} {w:World}
section
variable {ops:Array Oper} {l:List Oper} {K:St->Prop} {fr:Fr} {hp:List Blk} {c:Code} {Q:Exit->St->Prop} {α β:Type}
end
section
variable {o:Oper} {ev:Operand->AV} {hp:List Blk} {x y:Operand} {t t' k e:TypeId}
end
inductive ArgW:AV->AV->Prop
  | refl (x:AV):ArgW x x
  | nil (i sz:Nat):ArgW (.d .nilsl) (.msl i sz 0 0)
  | nilD (sz:Nat):ArgW (.d .nilsl) (.d (.sl sz []))
inductive ArgsW:List AV->List AV->Prop
  | nil:ArgsW [] []
  | cons {x y:AV} {xs ys:List AV} (h:ArgW x y) (hr:ArgsW xs ys):ArgsW (x :: xs) (y :: ys)
theorem ArgW.rep {x y:AV} (h:ArgW x y) {v:Value} (hv:ARep w g x v):ARep w g y v:=by
  cases h with
  | refl=>exact hv
  | nil i sz=>cases hv with
    | d _ _ hd=>cases hd with
      | nilsl ad=>exact .msl0 _ _ _ _
  | nilD sz=>cases hv with
    | d _ _ hd=>cases hd with
      | nilsl ad=>exact .d _ _ (.sl0 _ _ _)
theorem ArgsW.rep:∀ {xs ys:List AV},ArgsW xs ys->∀ {vs:List Value},Pw (ARep w g) xs vs->Pw (ARep w g) ys vs
  | [],[],.nil,vs,h=>h
  | x :: xs,y :: ys,.cons hx hr,vs,h=>by
    cases vs with
    | nil=>have:=h.1;simp at this
    | cons v vs=>
      have h1:Pw (ARep w g) xs vs:=⟨by simpa using h.1,λi a b ha hb=>h.2 (i+1) a b (by simpa using ha) (by simpa using hb)⟩;have h2:=ArgsW.rep hr h1;refine⟨by simp [h2.1],λi a b ha hb=>?_⟩
      cases i with
      | zero=>simp at ha hb;subst ha hb;exact hx.rep (h.2 0 x v rfl rfl)
      | succ i=>exact h2.2 i a b (by simpa using ha) (by simpa using hb)
theorem Ret.argsW {F:FuncId} {hp hp':List Blk} {mv:Nat->Bool} {xs ys:List AV} {r:AV} (h:Ret P F hp mv ys r hp') (hw:ArgsW xs ys):Ret P F hp mv xs r hp':=
  ⟨h.1,λw g vs ho ha=>h.2 w g vs ho (hw.rep ha)⟩
theorem qZS {ops : Array Oper} {l : List Oper} {K : St -> Prop} {fr : Fr} {hp : List Blk} {d : Nat} {ty : TypeId} {pos : String} {after : Array Edge} {f : Operand} {xs : Array Operand} {ts : Array TypeId} {F : FuncId} {c : AV} {cs : List AV} (ids : List Nat) (mv : Nat -> Bool) {args0 args : List AV} {r r' : AV} {fr2 : Fr} {hh hp' hp2 : List Blk} (hd : decide (d < C.n) = true) (hf : fr.ev f = c) (hc : wH c = some (F, cs)) (hnd : ids.Nodup) (hal : (ids.all fun j => cD hp j) = true)
    (hmv:((List.range C.k).all λj=>!mvd ids mv j||C.mv j)=true) (hx:((xs.toList.map fr.ev)++cs).map (AV.mapRef (toName (bG ids)))=args0) (hhd:mG ids hp=hh) (hret:Ret C.P F hh mv args r hp') (hw:ArgsW args0 args) (hr:r.mapRef (fwd ids hp.length)=r') (hfr:Fr.mapRef (eK (mvd ids mv)) fr=fr2) (hb:mD ids (hp.map (Blk.mapRef (eK (mvd ids mv)))) hp'=hp2)
    (h:cE C ops l ⟨(d,r') :: fr2,hp2⟩ K):cE C ops (⟨some d,.call { callee:=.value f,args:=xs,argTypes:=ts },ty,pos,after,none⟩ :: l) ⟨fr,hp⟩ K:=
  qKX ids mv hd hf hc hnd hal hmv hx hhd (hret.argsW hw) hr hfr hb h
def qGT:List AV->Option (List D)
  | []=>some []
  | .d d :: r=>match d.one,qGT r with
    | true,some ds=>some (d :: ds)
    | _,_=>none
  | .msl _ sz _ 0 :: r=>match qGT r with
    | some ds=>some (.sl sz [] :: ds)
    | none=>none
  | _=>none
theorem yQ:∀ {cs:List AV} {ds:List D},qGT cs=some ds->cs.length=ds.length/\(∀ d∈ds,d.one=true)/\∀ (i:Nat) (d:D) (c:AV) (v:Value),cs[i]?=some c->ds[i]?=some d->ARep w g c v->DRep w g.X d v
  | [],ds,h=>by cases h;exact⟨rfl,(λd h=>by cases h),λi d c v h=>by simp at h⟩
  | c0 :: r,ds,h=>by
    unfold qGT at h;split at h
    · cases ‹_=[]›
    · rename_i e
      cases e;split at h
      · rename_i d ds' h1 h2
        cases h;have ih:=yQ h2;refine⟨by simp [ih.1],λx hx=>?_,λi x c v hc hd hr=>?_⟩
        · rcases zQB.1 hx with rfl|hx
          · exact h1
          exact ih.2.1 x hx
        cases i with
        | zero=>simp at hc hd;subst hc hd;cases hr with|d _ _ h=>exact h
        | succ i=>exact ih.2.2 i x c v (by simpa using hc) (by simpa using hd) hr
      cases h
    · rename_i e
      cases e;split at h
      · rename_i ds' h2
        cases h;have ih:=yQ h2;refine⟨by simp [ih.1],λx hx=>?_,λi x c v hc hd hr=>?_⟩
        · rcases zQB.1 hx with rfl|hx
          · rfl
          exact ih.2.1 x hx
        cases i with
        | zero=>
          simp at hc hd;subst hc hd
          cases hr with
          | msl0=>exact .sl0 _ _ _
          | msl _ _ _ _ cap=>exact .sl0 _ _ _
        | succ i=>exact ih.2.2 i x c v (by simpa using hc) (by simpa using hd) hr
      cases h
    cases h
theorem s_aggE {ops:Array Oper} {l:List Oper} {K:St->Prop} {fr:Fr} {hp:List Blk} {cs:List AV} {ds:List D} (k:Nat) (hk:fr.get k=.agg cs) (hd:qGT cs=some ds) (h:cE C ops l ⟨(k,.d (.agg ds)) :: fr,hp⟩ K):cE C ops l ⟨fr,hp⟩ K:=by
  intro g a w hs;refine h g a w { hs with fr:=λu=>?_ };simp only [Fr.get];split
  · rename_i e
    subst e;have hu:=hs.fr k;simp only at hu;rw [hk] at hu;generalize a.tmps.getD k undef=v at *
    cases hu with
    | agg _ vs hl hr=>
      have e:=yQ (w:=w) (g:=g) hd
      exact .d _ _ (.agg _ _ (by rw [<- e.1]; exact hl) e.2.1 fun i d v hi hv => by
        have hlt : i < cs.length := by rw [e.1]; exact (zQQ.1 hi).1
        exact e.2.2 i d cs[i] v (zQR hlt) hi (hr i cs[i] v (zQR hlt) hv))
  exact hs.fr u
end Go.TL
