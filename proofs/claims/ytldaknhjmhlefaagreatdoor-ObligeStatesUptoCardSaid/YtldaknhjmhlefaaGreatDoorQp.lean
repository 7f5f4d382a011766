/- Texts of this proof, joined, without what it does not use. No condition. -/
import Derived.DeepKeys3
import Derived.Test.YtldaknhjmhlefaaGreatDoorQo

set_option linter.unusedVariables false
set_option linter.unusedSimpArgs false
set_option linter.unusedSectionVars false
namespace Go.TL
open Go.Sort Go.Proofs
variable {P:Program} {C:Ctx} {st:St} {g:Gh} {a:Act} {w:World}
def isKS (ks:List TypeDesc) (k:D):Prop:=∃ cs L,k=.agg cs/\yW cs=some L/\nW ks L
def keySV:D->Value
  | .agg cs=>.agg (((yW cs).getD []).map nX).toArray
  | _=>undef
structure SKey (P:Program) (kt:TypeId) (ks:List TypeDesc):Prop where
  law:WideMaps.KeyLaw P kt
  of:∀ k,isKS ks k->∃ l,keyOf P kt (keySV k)=some l
section find
variable {kt:TypeId} {ks:List TypeDesc} {k:D} {es:List (D×D)} {ents:Array MapEntry}
end find
section look
variable {o:Oper} {ev:Operand->AV} {hp:List Blk} {x y:Operand} {t kt et kt' et':TypeId} {d:TypeDesc} {id:Nat} {es:List (D×D)} {k v zd:D} {z:Value} {ks:List TypeDesc}
end look
section upd
variable {o:Oper} {K:St->Prop} {x y u:Operand} {t kt et kt' et':TypeId} {d:TypeDesc} {id:Nat} {es:List (D×D)} {k v:D} {ks:List TypeDesc}
end upd
structure KeyG (ks:List TypeDesc) {α:Type} (kf:α->D) (ok:α->Bool):Prop where
  key:∀ a,ok a=true->isKS ks (kf a)
  inj:∀ a b,kf a=kf b->a=b
def zCX {α β:Type} (ok:α->Bool) (fs:List (α×β)) (s:α):Prop:=(fs.map (·.1)).Nodup/\(∀ x∈fs,ok x.1=true)/\ok s=true
instance {α β:Type} [DecidableEq α] (ok:α->Bool) (fs:List (α×β)) (s:α):Decidable (zCX ok fs s):=by unfold zCX;infer_instance
section pm
variable {α β:Type} [DecidableEq α] {dk:TypeDesc} {kf:α->D} {ok:α->Bool} {ks:List TypeDesc}
variable {o:Oper} {ev:Operand->AV} {hp:List Blk} {x y u:Operand} {t kt et kt' et':TypeId} {id:Nat} {zd:D} {z:Value}
end pm
variable {P:Program} {C:Ctx} {st:St} {g:Gh} {a:Act} {w:World}
theorem Sim.virtM (h:Sim C st g a w) (kt vt:Nat):Sim C ⟨st.fr,st.hp++[.map kt vt []]⟩ g a w:=by
  refine { h with hp:=?_,lt:=?_,inj:=?_,kle:=?_ }
  · intro i B hi
    simp only [List.getElem?_append] at hi;split at hi
    · exact h.hp i B hi
    rename_i hge
    have:i=st.hp.length:=by
      rcases Nat.lt_or_ge (i - st.hp.length) 1 with h1|h1
      · omega
      rw [List.getElem?_eq_none (by simpa using h1)] at hi;cases hi
    subst this;simp at hi;subst hi;exact .inl ⟨rfl,h.phi_none (zQW _)⟩
  · intro i b hp
    have:=h.lt i b hp;simp only [zQL,List.length_cons,List.length_nil];exact⟨this.1,by omega,this.2.2⟩
  · intro i j b Bi Bj hBi hBj hdi hdj hi hj
    have l1:=(h.lt _ _ hi).2.1;have l2:=(h.lt _ _ hj).2.1;rw [List.getElem?_append,if_pos l1] at hBi;rw [List.getElem?_append,if_pos l2] at hBj;exact h.inj i j b Bi Bj hBi hBj hdi hdj hi hj
  have:=h.kle;simp only [zQL,List.length_cons,List.length_nil];omega
theorem Sim.recell (h:Sim C st g a w) {i j:Nat} {t:TypeId} {cs:List AV} {y:AV} (hb:st.hp[i]?=some (.box t cs))
    (hy:∀ v,(∀ x,cs[j]?=some x->ARep w g x v)->(∃ b cells,g.phi i=some b/\w.heap[b]?=some (.cells cells t (0,0))/\cells[j]?=some v)->ARep w g y v):Sim C ⟨st.fr,st.hp.set i (.box t (cs.set j y))⟩ g a w:=by
  have hi:=(zQQ.1 hb).1;obtain⟨b,cells,hp,hw,hps,hl,hr⟩:=h.hp i _ hb;refine { h with hp:=λk B hk=>?_,lt:=λk b hk=>by have:=h.lt k b hk;simpa using this,inj:=λk k' b Bk Bk' h1 h2 d1 d2 p1 p2=>?_,kle:=by simpa using h.kle }
  · by_cases e1:i=k
    · subst e1
      rw [List.getElem?_set,if_pos rfl] at hk
      have hk:B=.box t (cs.set j y):=by
        simp only [hi,if_true,Option.some.injEq] at hk;exact hk.symm
      subst hk;refine⟨b,cells,hp,hw,hps,by simpa using hl,λq c v hq hv'=>?_⟩;by_cases e2:j=q
      · subst e2
        rw [List.getElem?_set,if_pos rfl] at hq;split at hq
        · cases hq
          exact hy v (λx hx=>hr _ x v hx hv') ⟨b,cells,hp,hw,hv'⟩
        cases hq
      rw [List.getElem?_set_ne e2] at hq;exact hr q c v hq hv'
    rw [List.getElem?_set_ne e1] at hk;exact h.hp k B hk
  have key:∀ (k:Nat) (Bk:Blk),(st.hp.set i (.box t (cs.set j y)))[k]?=some Bk->Bk≠.dead->∃ B',st.hp[k]?=some B'/\B'≠.dead:=by
    intro k Bk hk hd;rw [List.getElem?_set] at hk;split at hk
    · rename_i e1
      subst e1;exact⟨.box t cs,hb,λe=>by cases e⟩
    exact⟨Bk,hk,hd⟩
  obtain⟨B1,e1,d1'⟩:=key k Bk h1 d1;obtain⟨B2,e2,d2'⟩:=key k' Bk' h2 d2;exact h.inj k k' b B1 B2 e1 e2 d1' d2' p1 p2
theorem Sim.upM (h:Sim C st g a w) {i j:Nat} {t kt vt:Nat} {cs:List AV} (hb:st.hp[i]?=some (.box t cs)) (hc:cs[j]?=some (.d .nilmap)):Sim C ⟨st.fr,(st.hp.set i (.box t (cs.set j (.mmapN st.hp.length 0))))++[Blk.map kt vt []]⟩ g a w:=by
  have hi:=(zQQ.1 hb).1;have hb':(st.hp++[Blk.map kt vt []])[i]?=some (.box t cs):=by rw [List.getElem?_append,if_pos hi];exact hb
  have h2:=Sim.recell (h.virtM kt vt) (i:=i) (j:=j) (y:=.mmapN st.hp.length 0) hb' λv hv _=>by
    cases hv _ hc with
    | d _ _ hd=>cases hd with
      | nilmap=>exact .mmapN0 _
  simp only [List.set_append,if_pos hi] at h2;exact h2
section
variable {ops:Array Oper} {l:List Oper} {K:St->Prop} {fr:Fr} {hp:List Blk} {c:Code} {Q:Exit->St->Prop} {α β:Type}
theorem s_upM {kf:α->D} {f:β->D} (i j N kt vt:Nat) {t:TypeId} {cs:List AV} (hN:Nat.beq hp.length N=true) (hb:hp[i]?=some (.box t cs)) (hc:cs[j]?=some (.d .nilmap))
    (h:eF C ops l ⟨fr,(hp.set i (.box t (cs.set j (.mmapN N ([]:List (α×β)).length))))++[Blk.map kt vt (eC kf f ([]:List (α×β)))]⟩ K):eF C ops l ⟨fr,hp⟩ K:=by
  have e:=Nat.eq_of_beq_eq_true hN;subst e;exact λg a w hs=>h g a w (Sim.upM (st:=⟨fr,hp⟩) hs hb hc)
end
section
variable {o:Oper} {ev:Operand->AV} {hp:List Blk} {x y:Operand} {t t' k e:TypeId}
end
inductive ArgW:AV->AV->Prop
  | refl (x:AV):ArgW x x
  | nil (i sz:Nat):ArgW (.d .nilsl) (.msl i sz 0 0)
  | nilD (sz:Nat):ArgW (.d .nilsl) (.d (.sl sz []))
inductive ArgsW:List AV->List AV->Prop
  | nil:ArgsW [] []
  | cons {x y:AV} {xs ys:List AV} (h:ArgW x y) (hr:ArgsW xs ys):ArgsW (x :: xs) (y :: ys)
theorem ArgW.rep {x y:AV} (h:ArgW x y) {v:Value} (hv:ARep w g x v):ARep w g y v:=by
  cases h with
  | refl=>exact hv
  | nil i sz=>cases hv with
    | d _ _ hd=>cases hd with
      | nilsl ad=>exact .msl0 _ _ _ _
  | nilD sz=>cases hv with
    | d _ _ hd=>cases hd with
      | nilsl ad=>exact .d _ _ (.sl0 _ _ _)
theorem ArgsW.rep:∀ {xs ys:List AV},ArgsW xs ys->∀ {vs:List Value},Pw (ARep w g) xs vs->Pw (ARep w g) ys vs
  | [],[],.nil,vs,h=>h
  | x :: xs,y :: ys,.cons hx hr,vs,h=>by
    cases vs with
    | nil=>have:=h.1;simp at this
    | cons v vs=>
      have h1:Pw (ARep w g) xs vs:=⟨by simpa using h.1,λi a b ha hb=>h.2 (i+1) a b (by simpa using ha) (by simpa using hb)⟩;have h2:=ArgsW.rep hr h1;refine⟨by simp [h2.1],λi a b ha hb=>?_⟩
      cases i with
      | zero=>simp at ha hb;subst ha hb;exact hx.rep (h.2 0 x v rfl rfl)
      | succ i=>exact h2.2 i a b (by simpa using ha) (by simpa using hb)
theorem Ret.argsW {F:FuncId} {hp hp':List Blk} {mv:Nat->Bool} {xs ys:List AV} {r:AV} (h:Ret P F hp mv ys r hp') (hw:ArgsW xs ys):Ret P F hp mv xs r hp':=
  ⟨h.1,λw g vs ho ha=>h.2 w g vs ho (hw.rep ha)⟩
theorem zBM {ops : Array Oper} {l : List Oper} {K : St -> Prop} {fr : Fr} {hp : List Blk} {d : Nat} {ty : TypeId} {pos : String} {after : Array Edge} {f : Operand} {xs : Array Operand} {ts : Array TypeId} {F : FuncId} {c : AV} {cs : List AV} (ids : List Nat) (mv : Nat -> Bool) {args0 args : List AV} {r r' : AV} {fr2 : Fr} {hh hp' hp2 : List Blk} (hd : decide (d < C.n) = true) (hf : fr.ev f = c) (hc : qAM c = some (F, cs)) (hnd : ids.Nodup) (hal : (ids.all fun j => dX hp j) = true)
    (hmv:((List.range C.k).all λj=>!mvd ids mv j||C.mv j)=true) (hx:((xs.toList.map fr.ev)++cs).map (AV.mapRef (toName (bS ids)))=args0) (hhd:pY ids hp=hh) (hret:Ret C.P F hh mv args r hp') (hw:ArgsW args0 args) (hr:r.mapRef (fwd ids hp.length)=r') (hfr:Fr.mapRef (jZ (mvd ids mv)) fr=fr2) (hb:pP ids (hp.map (Blk.mapRef (jZ (mvd ids mv)))) hp'=hp2)
    (h:eF C ops l ⟨(d,r') :: fr2,hp2⟩ K):eF C ops (⟨some d,.call { callee:=.value f,args:=xs,argTypes:=ts },ty,pos,after,none⟩ :: l) ⟨fr,hp⟩ K:=
  dE ids mv hd hf hc hnd hal hmv hx hhd (hret.argsW hw) hr hfr hb h
def qLN:List AV->Option (List D)
  | []=>some []
  | .d d :: r=>match d.one,qLN r with
    | true,some ds=>some (d :: ds)
    | _,_=>none
  | .msl _ sz _ 0 :: r=>match qLN r with
    | some ds=>some (.sl sz [] :: ds)
    | none=>none
  | _=>none
theorem qDO:∀ {cs:List AV} {ds:List D},qLN cs=some ds->cs.length=ds.length/\(∀ d∈ds,d.one=true)/\∀ (i:Nat) (d:D) (c:AV) (v:Value),cs[i]?=some c->ds[i]?=some d->ARep w g c v->DRep w g.X d v
  | [],ds,h=>by cases h;exact⟨rfl,(λd h=>by cases h),λi d c v h=>by simp at h⟩
  | c0 :: r,ds,h=>by
    unfold qLN at h;split at h
    · cases ‹_=[]›
    · rename_i e
      cases e;split at h
      · rename_i d ds' h1 h2
        cases h;have ih:=qDO h2;refine⟨by simp [ih.1],λx hx=>?_,λi x c v hc hd hr=>?_⟩
        · rcases zQB.1 hx with rfl|hx
          · exact h1
          exact ih.2.1 x hx
        cases i with
        | zero=>simp at hc hd;subst hc hd;cases hr with|d _ _ h=>exact h
        | succ i=>exact ih.2.2 i x c v (by simpa using hc) (by simpa using hd) hr
      cases h
    · rename_i e
      cases e;split at h
      · rename_i ds' h2
        cases h;have ih:=qDO h2;refine⟨by simp [ih.1],λx hx=>?_,λi x c v hc hd hr=>?_⟩
        · rcases zQB.1 hx with rfl|hx
          · rfl
          exact ih.2.1 x hx
        cases i with
        | zero=>
          simp at hc hd;subst hc hd
          cases hr with
          | msl0=>exact .sl0 _ _ _
          | msl _ _ _ _ cap=>exact .sl0 _ _ _
        | succ i=>exact ih.2.2 i x c v (by simpa using hc) (by simpa using hd) hr
      cases h
    cases h
theorem s_aggE {ops:Array Oper} {l:List Oper} {K:St->Prop} {fr:Fr} {hp:List Blk} {cs:List AV} {ds:List D} (k:Nat) (hk:fr.get k=.agg cs) (hd:qLN cs=some ds) (h:eF C ops l ⟨(k,.d (.agg ds)) :: fr,hp⟩ K):eF C ops l ⟨fr,hp⟩ K:=by
  intro g a w hs;refine h g a w { hs with fr:=λu=>?_ };simp only [Fr.get];split
  · rename_i e
    subst e;have hu:=hs.fr k;simp only at hu;rw [hk] at hu;generalize a.tmps.getD k undef=v at *
    cases hu with
    | agg _ vs hl hr=>
      have e:=qDO (w:=w) (g:=g) hd
      exact .d _ _ (.agg _ _ (by rw [<- e.1]; exact hl) e.2.1 fun i d v hi hv => by
        have hlt : i < cs.length := by rw [e.1]; exact (zQQ.1 hi).1
        exact e.2.2 i d cs[i] v (zQR hlt) hi (hr i cs[i] v (zQR hlt) hv))
  exact hs.fr u
end Go.TL
