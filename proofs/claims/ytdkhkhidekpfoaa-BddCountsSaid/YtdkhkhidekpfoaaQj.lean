/- Texts of this proof, joined, without what it does not use. No condition. -/
import Derived.Lib.AppendZeros
import Derived.Test.YtdkhkhidekpfoaaQi

set_option linter.unusedVariables false
set_option linter.unusedSimpArgs false
namespace Go.TL
variable {C:Ctx} {st:St} {g:Gh} {a:Act} {w:World} {P:Program} {o:Oper} {K:St->Prop} {ev:Operand->AV} {hp:List Blk}
section steps
variable {ops:Array Oper} {l:List Oper} {fr:Fr} {d:Nat} {ty:TypeId} {pos:String} {after:Array Edge} {t tn e:TypeId} {x y:Operand} {sz by' n:Nat} {z:Value} {k kn:IntKind}
end steps
section rds
variable {t e:TypeId} {x:Operand} {sz by':Nat}
end rds
def lk {α:Type}:List (Nat×α)->Nat->Option α
  | [],_=>none
  | (k,a) :: r,t=>match Nat.beq k t with
    | true=>some a
    | false=>lk r t
theorem jM {α:Type}:∀ {l:List (Nat×α)} {t:Nat} {a:α},lk l t=some a->(t,a)∈l
  | [],_,_,h=>by cases h
  | (k,b) :: r,t,a,h=>by
    simp only [lk] at h;split at h
    · rename_i e;cases h;rw [Nat.eq_of_beq_eq_true e];simp
    exact List.mem_cons_of_mem _ (jM h)
structure Tab where
  lay:List (Nat×Bool×Nat)
  fs:List (Nat×List (Nat×Bool×Nat))
  sel:List (Nat×Nat×Nat×Nat)
  str:List (Nat×Unit)
  boo:List (Nat×Unit)
  con:List (Nat×Unit)
structure TabOk (P:Program) (T:Tab):Prop where
  lay:∀ {t:Nat} {x:Bool×Nat},lk T.lay t=some x->lay P t=some x
  fs:∀ {t:Nat} {l:List (Nat×Bool×Nat)} {f:Nat} {x:Nat×Bool×Nat},lk T.fs t=some l->l[f]?=some x->fld P t f=some x.1/\tU P t f=some x
  sel:∀ {t:Nat} {x:Nat×Nat×Nat},lk T.sel t=some x->sel P t=some x
  str:∀ {t:Nat} {x:Unit},lk T.str t=some x->P.underlying t=some .string
  boo:∀ {t:Nat} {x:Unit},lk T.boo t=some x->P.underlying t=some .bool
  con:∀ {t:Nat} {x:Unit},lk T.con t=some x->vO P t=true
def qAE (P:Program) (t:Nat):Bool:=match P.underlying t with
  | some .string=>true
  | _=>false
def qAF (P:Program) (t:Nat):Bool:=match P.underlying t with
  | some .bool=>true
  | _=>false
def tabB (P:Program) (T:Tab):Bool:=
  T.lay.all (λe=>lay P e.1 == some e.2)&&T.fs.all (λe=>e.2.zipIdx.all λx=>fld P e.1 x.2 == some x.1.1&&tU P e.1 x.2 == some x.1)&&T.sel.all (λe=>sel P e.1 == some e.2)&&
  T.str.all (λe=>qAE P e.1)&&T.boo.all (λe=>qAF P e.1)&&T.con.all (λe=>vO P e.1)
theorem yT {P:Program} {T:Tab} (h:tabB P T=true):TabOk P T:=by
  simp only [tabB,Bool.and_eq_true,List.all_eq_true] at h;obtain⟨⟨⟨⟨⟨h1,h2⟩,h3⟩,h4⟩,h5⟩,h6⟩:=h;refine⟨λhl=>?_,fun {t l f x} hl hf=>?_,λhl=>?_,λhl=>?_,λhl=>?_,λhl=>?_⟩
  · simpa using h1 _ (jM hl)
  · have := h2 _ (jM hl) (x, f) (by rw [List.mem_zipIdx_iff_getElem?]; simpa using hf)
    simpa using this
  · simpa using h3 _ (jM hl)
  · have:=h4 _ (jM hl)
    simp only [qAE] at this;split at this
    · assumption
    cases this
  · have:=h5 _ (jM hl)
    simp only [qAF] at this;split at this
    · assumption
    cases this
  exact h6 _ (jM hl)
def nf:AV->Option AV
  | .d d=>some (.d d)
  | .msl i s o l=>some (.msl i s o l)
  | .mptr i s x o=>some (.mptr i s x o)
  | .mmap i=>some (.mmap i)
  | .yld i=>some (.yld i)
  | .mmapN i n=>some (.mmapN i n)
  | .agg cs=>some (.agg cs)
  | .tup vs=>some (.tup vs)
  | .fnc f c=>some (.fnc f c)
  | .ifc t v=>some (.ifc t v)
  | _=>none
theorem gN {v u:AV} (h:nf v=some u):v=u:=by cases v<;>first|(simp only [nf,Option.some.injEq] at h;exact h)|cases h
def lL (fr:Fr):List Nat->Option Fr
  | []=>some []
  | k :: ks=>match nf (fr.get k) with
    | some v=>match lL fr ks with
      | some r=>some ((k,v) :: r)
      | none=>none
    | none=>none
theorem kT {fr:Fr}:∀ {ks:List Nat} {r:Fr},lL fr ks=some r->SubK fr ks r
  | [],r,h=>by cases h;exact .nil
  | k :: ks,r,h=>by
    simp only [lL] at h;split at h
    · rename_i v hv
      split at h
      · rename_i r' hr;cases h;exact .cons k v ks r' (gN hv) (kT hr)
      cases h
    cases h
def uM:List AV->Option (List AV)
  | []=>some []
  | c :: r=>match nf c with
    | some v=>match uM r with
      | some r'=>some (v :: r')
      | none=>none
    | none=>none
theorem rJ:∀ {cs ds:List AV},uM cs=some ds->cs=ds
  | [],_,h=>by cases h;rfl
  | c :: r,ds,h=>by
    simp only [uM] at h;split at h
    · rename_i v hv
      split at h
      · rename_i r' hr;cases h;rw [gN hv,rJ hr]
      cases h
    cases h
def uL:List Blk->Option (List Blk)
  | []=>some []
  | b :: r=>match uL r with
    | some r'=>match b with
      | .dead=>some (.dead :: r')
      | .hole=>some (.hole :: r')
      | .flat t s es=>some (.flat t s es :: r')
      | .map k v es=>some (.map k v es :: r')
      | .ob o=>some (.ob o :: r')
      | .lp s pd ps a b n fr=>some (.lp s pd ps a b n fr :: r')
      | .box t cs=>match uM cs with
        | some cs'=>some (.box t cs' :: r')
        | none=>none
    | none=>none
theorem rI:∀ {hp hp':List Blk},uL hp=some hp'->hp=hp'
  | [],_,h=>by cases h;rfl
  | b :: r,hp',h=>by
    simp only [uL] at h;split at h
    · rename_i r' hr
      have e:=rI hr
      cases b with
      | box t cs=>
        simp only at h;split at h
        · rename_i cs' hc;cases h;rw [rJ hc,e]
        cases h
      | _=>simp only [Option.some.injEq] at h;rw [<- h,e]
    cases h
theorem WN {C:Ctx} {c:Code} {Q:Exit->St->Prop} {fr fr':Fr} {hp hp':List Blk} (ks:List Nat) (h1:lL fr ks=some fr') (h2:uL hp=some hp') (h:TWp C c ⟨fr',hp'⟩ Q):TWp C c ⟨fr,hp⟩ Q:=
  wD ks (kT h1) (rI h2) h
def jA (agg:Bool) (s:Nat) (hp:List Blk):AV->Option AV
  | .d (.ptr e off)=>match agg with
    | false=>match e.cells[off]? with
      | some d=>some (.d d)
      | none=>none
    | true=>match Nat.beq off 0,Nat.beq e.cells.length s,e.one with
      | true,true,false=>some (.d e)
      | _,_,_=>match Nat.ble (off+s) e.cells.length with
        | true=>some (.d (e.part off s))
        | false=>none
  | .mptr id s' i off=>match Nat.beq s' 0,Nat.beq i 0 with
    | true,true=>match hp[id]? with
      | some (.box _ cs)=>match agg with
        | false=>match cs[off]? with
          | some c=>nf c
          | none=>none
        | true=>match Nat.ble (off+s) cs.length with
          | true=>nf (gO ((cs.drop off).take s))
          | false=>none
      | _=>none
    | _,_=>none
  | _=>none
def tV (fo:Nat) (agg:Bool) (n:Nat) (u:AV):Option AV:=
  match u.isAgg with
  | true=>match agg with
    | false=>match u.cells[fo]? with
      | some c=>nf c
      | none=>none
    | true=>match Nat.ble (fo+n) u.cells.length with
      | true=>nf (gO ((u.cells.drop fo).take n))
      | false=>none
  | false=>none
def nS (op:BinOp) (isB:Option Unit):AV->AV->Option AV
  | .d (.int k m),.d (.int k' n)=>match decide (k=k') with
    | true=>match tY op m n with
      | some b=>some (.d (.bool b))
      | none=>none
    | false=>none
  | .d (.str p),.d (.str q)=>match tX op (decide (p=q)) with
    | some b=>some (.d (.bool b))
    | none=>none
  | .d (.bool p),.d (.bool q)=>match isB with
    | some _=>match qJ op p q with
      | some b=>some (.d (.bool b))
      | none=>none
    | none=>none
  | _,_=>none
def uI:AV->AV->AV->Option AV
  | .d (.bool b),u,v=>match b with
    | true=>nf u
    | false=>nf v
  | _,_,_=>none
def rdE (T:Tab) (op:Op) (ev:Operand->AV) (hp:List Blk):Option AV:=
  match op with
  | .move x=>nf (ev x)
  | .assign x=>nf (ev x)
  | .load t x=>match lk T.lay t with
    | some (b,s)=>jA b s hp (ev x)
    | none=>none
  | .fieldAddr s x f=>match lk T.fs s with
    | some l=>match l[f]? with
      | some (fo,_,_)=>match ev x with
        | .d (.ptr e off)=>some (.d (.ptr e (off+fo)))
        | .mptr id sz i off=>some (.mptr id sz i (off+fo))
        | _=>none
      | none=>none
    | none=>none
  | .field s x f=>match lk T.fs s with
    | some l=>match l[f]? with
      | some (fo,b,n)=>tV fo b n (ev x)
      | none=>none
    | none=>none
  | .binOp op t x y _=>nS op (lk T.boo t) (ev x) (ev y)
  | .unOp .not _ x=>match ev x with
    | .d (.bool b)=>some (.d (.bool (!b)))
    | _=>none
  | .pick c x y=>uI (ev c) (ev x) (ev y)
  | .extract x i=>match ev x with
    | .tup vs=>match vs[i]? with
      | some v=>nf v
      | none=>none
    | _=>none
  | .nilCheck x=>match (ev x).notNil with
    | true=>nf (ev x)
    | false=>none
  | .call { callee:=.builtin .len,args:=⟨[x]⟩,argTypes:=⟨[t]⟩ }=>match ev x with
    | .d (.str s)=>match lk T.str t with
      | some _=>some (.d (.int .i64 s.size))
      | none=>none
    | .msl _ _ _ n=>match lk T.sel t with
      | some _=>some (.d (.int .i64 n))
      | none=>none
    | _=>none
  | .makeInterface t x=>match lk T.con t with
    | some _=>match ev x with
      | .d d=>some (.d (.iface t d))
      | _=>none
    | none=>none
  | .typeAssert x _ t true=>match lk T.con t with
    | some _=>match ev x with
      | .d (.iface t' d)=>match Nat.beq t' t with
        | true=>some (.tup [.d d,.d (.bool true)])
        | false=>none
      | _=>none
    | none=>none
  | .makeFunc (.func F) ⟨[]⟩ caps=>match evD (caps.toList.map ev) with
    | some ds=>some (.d (.clo F ds))
    | none=>none
  | _=>none
section rd
variable {C:Ctx} {T:Tab} {o:Oper} {ev:Operand->AV} {hp:List Blk} {v:AV}
theorem xI {t:TypeId} {x:Operand} {b:Bool} {s:Nat} (ho:o.op=.load t x) (hl:lay C.P t=some (b,s)) (h:jA b s hp (ev x)=some v):RdOk C o ev hp v:=by
  cases hx:ev x with
  | d d=>
    rw [hx] at h
    cases d with
    | ptr e off=>
      cases b with
      | false=>
        simp only [jA] at h;split at h
        · rename_i d hd;cases h;exact rA e d off s ho hl hx hd
        cases h
      | true=>
        simp only [jA] at h;split at h
        · rename_i h1 h2 h3
          cases h;have h1:=Nat.eq_of_beq_eq_true h1;subst h1;exact vI ho hl hx (Nat.eq_of_beq_eq_true h2) h3
        split at h
        · rename_i hb;cases h;exact gY e off s ho hl hx (Nat.le_of_ble_eq_true hb)
        cases h
    | _=>simp [jA] at h
  | mptr id s' i off=>
    rw [hx] at h;simp only [jA] at h;split at h
    · rename_i h1 h2
      have h1:=Nat.eq_of_beq_eq_true h1;have h2:=Nat.eq_of_beq_eq_true h2;subst h1 h2;split at h
      · rename_i bt cs hb
        cases b with
        | false=>
          simp only at h;split at h
          · rename_i c hc;rw [<- gN h];exact rB id off s cs c ho hl hx hb hc
          cases h
        | true=>
          simp only at h;split at h
          · rename_i hc;rw [<- gN h];exact mZ id off s cs ho hl hx hb (Nat.le_of_ble_eq_true hc)
          cases h
      cases h
    cases h
  | _=>rw [hx] at h;simp [jA] at h
theorem vM {s:TypeId} {x:Operand} {f fo n:Nat} {b:Bool} (ho:o.op=.field s x f) (hf:tU C.P s f=some (fo,b,n)) (h:tV fo b n (ev x)=some v):RdOk C o ev hp v:=by
  simp only [tV] at h;split at h
  · rename_i ha
    cases b with
    | false=>
      simp only at h;split at h
      · rename_i c hc;rw [<- gN h];exact vD ho hf rfl ha hc
      cases h
    | true=>
      simp only at h;split at h
      · rename_i hc;exact tF ho hf rfl ha hc (gN h)
      cases h
  cases h
theorem zO {op:BinOp} {t t':TypeId} {x y:Operand} {u:Option Unit} (hu:∀ z,u=some z->C.P.underlying t=some .bool) (ho:o.op=.binOp op t x y t') (h:nS op u (ev x) (ev y)=some v):RdOk C o ev hp v:=by
  cases hx:ev x with
  | d d=>
    rw [hx] at h
    cases hy:ev y with
    | d e=>
      rw [hy] at h
      cases d with
      | int k m=>
        cases e with
        | int k' n=>
          simp only [nS] at h;split at h
          · rename_i hk
            have hk:=of_decide_eq_true hk;subst hk;split at h
            · rename_i b hb;cases h;exact rd_cmp k m n b ho hx hy hb
            cases h
          cases h
        | _=>simp [nS] at h
      | str p=>
        cases e with
        | str q=>
          simp only [nS] at h;split at h
          · rename_i b hb;cases h;exact zN ho hx hy hb
          cases h
        | _=>simp [nS] at h
      | bool p=>
        cases e with
        | bool q=>
          simp only [nS] at h;split at h
          · rename_i z
            split at h
            · rename_i b hb;cases h;exact yB (hu _ rfl) ho hx hy hb
            cases h
          cases h
        | _=>simp [nS] at h
      | _=>simp [nS] at h
    | _=>rw [hy] at h;simp [nS] at h
  | _=>rw [hx] at h;simp [nS] at h
theorem wW {c x y:Operand} (ho:o.op=.pick c x y) (h:uI (ev c) (ev x) (ev y)=some v):RdOk C o ev hp v:=by
  cases hc:ev c with
  | d d=>
    rw [hc] at h
    cases d with
    | bool b=>
      cases b with
      | true=>exact pick_T ho hc (gN h)
      | false=>exact pick_F ho hc (gN h)
    | _=>simp [uI] at h
  | _=>rw [hc] at h;simp [uI] at h
theorem wT (hT:TabOk C.P T) (h:rdE T o.op ev hp=some v):RdOk C o ev hp v:=by
  unfold rdE at h;split at h
  · rename_i x ho;rw [<- gN h];exact pR (.inl ho)
  · rename_i x ho;rw [<- gN h];exact pR (.inr ho)
  · rename_i t x ho
    split at h
    · rename_i b s hl;exact xI ho (hT.lay hl) h
    cases h
  · rename_i s x f ho
    split at h
    · rename_i l hl
      split at h
      · rename_i fo b n hf
        split at h
        · rename_i e off hx;cases h;exact kS e off fo ho (hT.fs hl hf).1 hx
        · rename_i id sz i off hx;cases h;exact jW id sz i off fo ho (hT.fs hl hf).1 hx
        cases h
      cases h
    cases h
  · rename_i s x f ho
    split at h
    · rename_i l hl
      split at h
      · rename_i fo b n hf;exact vM ho (hT.fs hl hf).2 h
      cases h
    cases h
  · rename_i op t x y t' ho;exact zO (λz hz=>hT.boo hz) ho h
  · rename_i t x ho
    split at h
    · rename_i b hx;cases h;exact not_b ho hx rfl
    cases h
  · rename_i c x y ho;exact wW ho h
  · rename_i x i ho
    split at h
    · rename_i vs hx
      split at h
      · rename_i u hu;rw [<- gN h];exact tG vs u ho hx hu
      cases h
    cases h
  · rename_i x ho
    split at h
    · rename_i hn;rw [<- gN h];exact qX _ ho rfl hn
    cases h
  · rename_i x t ho
    split at h
    · rename_i s hx
      split at h
      · rename_i z hz;cases h;exact tE s ho (hT.str hz) hx
      cases h
    · rename_i i s f n hx
      split at h
      · rename_i z hz;cases h;obtain⟨e,sz,by'⟩:=z;exact oV _ sz by' n ho (hT.sel hz) hx rfl
      cases h
    cases h
  · rename_i t x ho
    split at h
    · rename_i z hz
      split at h
      · rename_i d hx;cases h;exact tD ho (hT.con hz) hx
      cases h
    cases h
  · rename_i x xt t ho
    split at h
    · rename_i z hz
      split at h
      · rename_i t' d hx
        split at h
        · rename_i he;cases h;have he:=Nat.eq_of_beq_eq_true he;subst he;exact pW ho (hT.con hz) hx
        cases h
      cases h
    cases h
  · rename_i F caps ho
    split at h
    · rename_i ds hx;cases h;exact pS ho hx
    cases h
  cases h
end rd
def onE (ops:Array Oper) (gd:Option (Nat×Bool)) (fr:Fr):Option Bool:=
  match gd with
  | none=>some true
  | some (i,want)=>match (ops[i]?).bind (·.dst) with
    | some t=>match fr.get t with
      | .d (.bool b)=>match b,want with
        | true,true=>some true
        | false,false=>some true
        | true,false=>some false
        | false,true=>some false
      | .und=>some false
      | _=>none
    | none=>none
def wI (T:Tab) (t:TypeId) (hp:List Blk) (p v:AV):Option (List Blk):=
  match lk T.lay t with
  | some (_,s)=>match p with
    | .mptr id s' i off=>match Nat.beq s' 0,Nat.beq i 0 with
      | true,true=>match hp[id]? with
        | some (.box bt cs)=>match v.flat,Nat.beq v.cells.length s,Nat.ble (off+s) cs.length with
          | true,true,true=>some (hp.set id (.box bt (spl cs off v.cells)))
          | _,_,_=>none
        | _=>none
      | _,_=>none
    | _=>none
  | none=>none
def stE (T:Tab) (n:Nat) (ops:Array Oper) (o:Oper) (fr:Fr) (hp:List Blk):Option (Fr×List Blk):=
  match onE ops o.guard fr with
  | some true=>match o.dst with
    | some d=>match Nat.blt d n with
      | true=>match rdE T o.op fr.ev hp with
        | some v=>some ((d,v) :: fr,hp)
        | none=>none
      | false=>none
    | none=>match o.op with
      | .store t x y=>match wI T t hp (fr.ev x) (fr.ev y) with
        | some hp'=>some (fr,hp')
        | none=>none
      | _=>none
  | some false=>match o.dst with
    | some d=>match Nat.blt d n with
      | true=>some ((d,.und) :: fr,hp)
      | false=>none
    | none=>none
  | none=>none
theorem mI {d n:Nat} (h:Nat.blt d n=true):decide (d < n)=true:=by simpa [Nat.blt_eq] using h
theorem pZ {C:Ctx} {ops:Array Oper} {gd:Option (Nat×Bool)} {st:St} {g:Gh} {a:Act} {w:World} (hs:Sim C st g a w) {b:Bool} (h:onE ops gd st.fr=some b):gd=none/\b=true\/∃ i want,gd=some (i,want)/\((yielded ops a.tmps i=some want/\b=true)\/(yielded ops a.tmps i≠some want/\b=false)):=by
  unfold onE at h;split at h
  · cases h;exact .inl ⟨rfl,rfl⟩
  rename_i i want;right;refine⟨i,want,rfl,?_⟩;split at h
  · rename_i t ht
    split at h
    · rename_i c hc
      have hy:=iV hs ht hc;split at h<;>cases h<;>simp [hy]
    · rename_i hc
      cases h;have hy:=lE hs ht hc;simp [hy]
    cases h
  cases h
theorem SA {C:Ctx} {T:Tab} {ops:Array Oper} {o:Oper} {l:List Oper} {K:St->Prop} {fr fr':Fr} {hp hp':List Blk} (hT:TabOk C.P T) (h:stE T C.n ops o fr hp=some (fr',hp')) (k:aH C ops l ⟨fr',hp'⟩ K):aH C ops (o :: l) ⟨fr,hp⟩ K:=by
  intro g a w hs;unfold stE at h;split at h
  · rename_i hon
    have hrun:OpOk C o ⟨fr,hp⟩ (λst''=>aH C ops l st'' K)->wpList C.P ops (QN C K) (o :: l) a w:=by
      intro hok;unfold wpList
      have hw:Region.wanted o (yielded ops a.tmps)=true:=by
        rcases pZ hs hon with ⟨hg,_⟩|⟨i,want,hg,⟨hy,_⟩|⟨_,hc⟩⟩
        · simp [Region.wanted,hg]
        · simp [Region.wanted,hg,hy]
        cases hc
      rw [if_pos hw];exact .inl (Oper.wp_mono (λa w ⟨st',g',hK,hs'⟩=>hK g' a w hs') (hok g a w _ hs))
    split at h
    · rename_i d hd
      split at h
      · rename_i hlt
        split at h
        · rename_i v hv
          cases h;exact hrun ((wT (hp:=hp) hT hv).ok (st:=⟨fr,hp⟩) (by rw [hd];exact mI hlt) (by rw [hd];exact k))
        cases h
      cases h
    rename_i hd;split at h
    · rename_i t x y ho
      split at h
      · rename_i hp' hst
        cases h;unfold wI at hst;split at hst
        · rename_i bb s hl
          split at hst
          · rename_i id s' i off hx
            split at hst
            · rename_i e1 e2
              have e1:=Nat.eq_of_beq_eq_true e1;have e2:=Nat.eq_of_beq_eq_true e2;subst e1 e2;split at hst
              · rename_i bt cs hb
                split at hst
                · rename_i f1 f2 f3
                  cases hst;exact hrun (qA id off s bb cs _ ho hd (hT.lay hl) hx rfl f1 (Nat.eq_of_beq_eq_true f2) hb (Nat.le_of_ble_eq_true f3) k)
                cases hst
              cases hst
            cases hst
          cases hst
        cases hst
      cases h
    cases h
  · rename_i hon
    have hw:¬ Region.wanted o (yielded ops a.tmps)=true:=by
      rcases pZ hs hon with ⟨_,hc⟩|⟨i,want,hg,⟨_,hc⟩|⟨hy,_⟩⟩
      · cases hc
      · cases hc
      simpa [Region.wanted,hg] using hy
    split at h
    · rename_i d hd
      split at h
      · rename_i hlt
        cases h;unfold wpList;rw [if_neg hw];refine k g _ w ?_;rw [hd];exact hs.put (of_decide_eq_true (mI hlt)) .und
      cases h
    cases h
  cases h
theorem SB {C:Ctx} {T:Tab} {ops:Array Oper} {o:Oper} {l:List Oper} {K:St->Prop} {fr0 fr:Fr} {hp0 hp:List Blk} {d:Nat} {e:Bool} (hT:TabOk C.P T) (h:stE T C.n ops o fr0 hp0=some ((d,.d (.bool e)) :: fr,hp)) (k:∀ b,e=b->aH C ops l ⟨(d,.d (.bool b)) :: fr,hp⟩ K):aH C ops (o :: l) ⟨fr0,hp0⟩ K:=
  SA hT h (k e rfl)
theorem uK {ops:Array Oper} {o:Oper} {fr:Fr} {b:Bool} (h:onE ops o.guard fr=some b):onA ops fr o=some b:=by
  unfold onE at h;unfold onA;split at h
  · rename_i hg;rw [hg];exact h
  rename_i i want hg;rw [hg];simp only;split at h
  · rename_i t ht
    rw [ht];simp only;split at h
    · rename_i c hc
      rw [hc];simp only;split at h<;>exact h
    · rename_i hc
      rw [hc];exact h
    cases h
  cases h
def drE (T:Tab) (n:Nat) (ops:Array Oper) (o:Oper) (fr:Fr) (hp:List Blk):Option (Bool×Nat×AV):=
  match onE ops o.guard fr with
  | some b=>match o.dst with
    | some d=>match Nat.blt d n with
      | true=>match b with
        | true=>match rdE T o.op fr.ev hp with
          | some v=>some (true,d,v)
          | none=>none
        | false=>some (false,d,.und)
      | false=>none
    | none=>none
  | none=>none
theorem DA {C:Ctx} {T:Tab} {ops:Array Oper} {o:Oper} {l:List Oper} {K:St->Prop} {fr:Fr} {hp:List Blk} {acc:List Rec} {on:Bool} {d:Nat} {v:AV} (rs:List Nat) (hT:TabOk C.P T) (h:drE T C.n ops o fr (qD rs hp)=some (on,d,v))
    (k:TDr C ops K l ((d,v) :: fr) hp (acc++[⟨on,d,v,bif on then rs else [],[]⟩])):TDr C ops K (o :: l) fr hp acc:=by
  unfold drE at h;split at h
  · rename_i b hon
    split at h
    · rename_i d' hd
      split at h
      · rename_i hlt
        split at h
        · split at h
          · rename_i u hv
            cases h;exact .step o l fr hp acc d v rs [] v (.inl ⟨hd,mI hlt,rfl⟩) (uK hon) (λp hp=>by simp at hp) (wT hT hv).dok k
          cases h
        cases h;exact .skip o l fr hp acc d _ (.inl ⟨hd,mI hlt,rfl⟩) (uK hon) k
      cases h
    cases h
  cases h
theorem d_b {C:Ctx} {T:Tab} {ops:Array Oper} {o:Oper} {l:List Oper} {K:St->Prop} {fr:Fr} {hp:List Blk} {acc:List Rec} {d:Nat} {e:Bool} (rs:List Nat) (hT:TabOk C.P T) (h:drE T C.n ops o fr (qD rs hp)=some (true,d,.d (.bool e)))
    (k:∀ b,e=b->TDr C ops K l ((d,.d (.bool b)) :: fr) hp (acc++[⟨true,d,.d (.bool b),rs,[]⟩])):TDr C ops K (o :: l) fr hp acc:=
  DA rs hT h (k e rfl)
theorem DX {C:Ctx} {ops:Array Oper} {op:Op} {ty:TypeId} {pos:String} {after:Array Edge} {gd:Option (Nat×Bool)} {l:List Oper} {K:St->Prop} {fr:Fr} {hp:List Blk} {acc:List Rec} {d:Nat} {v:AV} (rs:List Nat) (hd:decide (d < C.n)=true) (hon:onE ops gd fr=some true)
    (hr:RdOk C ⟨some d,op,ty,pos,after,gd⟩ fr.ev (qD rs hp) v) (k:TDr C ops K l ((d,v) :: fr) hp (acc++[⟨true,d,v,rs,[]⟩])):TDr C ops K (⟨some d,op,ty,pos,after,gd⟩ :: l) fr hp acc:=
  .step _ l fr hp acc d v rs [] v (.inl ⟨rfl,hd,rfl⟩) (uK (o:=⟨some d,op,ty,pos,after,gd⟩) hon) (λp hp=>by simp at hp) hr.dok k
theorem SX {C:Ctx} {ops:Array Oper} {op:Op} {ty:TypeId} {pos:String} {after:Array Edge} {gd:Option (Nat×Bool)} {l:List Oper} {K:St->Prop} {fr:Fr} {hp:List Blk} {d:Nat} {v:AV} (hd:decide (d < C.n)=true) (hon:onE ops gd fr=some true)
    (hr:RdOk C ⟨some d,op,ty,pos,after,gd⟩ fr.ev hp v) (k:aH C ops l ⟨(d,v) :: fr,hp⟩ K):aH C ops (⟨some d,op,ty,pos,after,gd⟩ :: l) ⟨fr,hp⟩ K:=by
  intro g a w hs;unfold wpList
  have hw:Region.wanted ⟨some d,op,ty,pos,after,gd⟩ (yielded ops a.tmps)=true:=by
    rcases pZ hs hon with ⟨hg,_⟩|⟨i,want,hg,⟨hy,_⟩|⟨_,hc⟩⟩
    · simp [Region.wanted,hg]
    · simp [Region.wanted,hg,hy]
    cases hc
  rw [if_pos hw];have hok:OpOk C ⟨some d,op,ty,pos,after,gd⟩ ⟨fr,hp⟩ (λst''=>aH C ops l st'' K):=hr.ok (st:=⟨fr,hp⟩) hd k;exact .inl (Oper.wp_mono (λa w ⟨st',g',hK,hs'⟩=>hK g' a w hs') (hok g a w _ hs))
def wkE:List D->List (Option Nat)->Option (List D)
  | [],_=>some []
  | d :: r,[]=>some (d :: r)
  | d :: r,none :: s=>match wkE r s with
    | some r'=>some (d :: r')
    | none=>none
  | d :: r,some n :: s=>match wkE r s with
    | some r'=>match d with
      | .nilsl=>some (.sl n [] :: r')
      | _=>none
    | none=>none
theorem sR:∀ {ds:List D} {s:List (Option Nat)} {ds':List D},wkE ds s=some ds'->ds.length=ds'.length/\∀ (i:Nat) (c c':D),ds[i]?=some c->ds'[i]?=some c'->DLe c c'/\c'.one=c.one
  | [],_,_,h=>by cases h;exact⟨rfl,λi c c' h=>by simp at h⟩
  | d :: r,[],_,h=>by
    cases h;exact⟨rfl,λi c c' h h'=>by rw [h] at h';cases h';exact⟨.refl _,rfl⟩⟩
  | d :: r,none :: s,_,h=>by
    simp only [wkE] at h;split at h
    · rename_i r' hr
      cases h;obtain⟨h1,h2⟩:=sR hr;refine⟨by simp [h1],λi c c' hc hc'=>?_⟩
      cases i with
      | zero=>simp at hc hc';subst hc hc';exact⟨.refl _,rfl⟩
      | succ i=>exact h2 i c c' (by simpa using hc) (by simpa using hc')
    cases h
  | d :: r,some n :: s,_,h=>by
    simp only [wkE] at h;split at h
    · rename_i r' hr
      obtain⟨h1,h2⟩:=sR hr
      cases d with
      | nilsl=>
        cases h;refine⟨by simp [h1],λi c c' hc hc'=>?_⟩
        cases i with
        | zero=>simp at hc hc';subst hc hc';exact⟨.nil _,rfl⟩
        | succ i=>exact h2 i c c' (by simpa using hc) (by simpa using hc')
      | _=>cases h
    cases h
def wkV (s:List (Option Nat)):AV->Option AV
  | .d (.agg ds)=>match wkE ds s with
    | some ds'=>some (.d (.agg ds'))
    | none=>none
  | .d .nilsl=>match s with
    | [some n]=>some (.d (.sl n []))
    | _=>none
  | _=>none
theorem yP {w:World} {g:Gh} {s:List (Option Nat)} {v v':AV} {u:Value} (h:wkV s v=some v') (hr:ARep w g v u):ARep w g v' u:=by
  cases v with
  | d d=>
    cases d with
    | agg ds=>
      simp only [wkV] at h;split at h
      · rename_i ds' hw
        cases h;obtain⟨h1,h2⟩:=sR hw
        cases hr with
        | d _ _ hr=>
          cases hr with
          | agg _ vs hl ho hc=>
            refine .d _ _ (.agg ds' vs (by rw [<- h1];exact hl) (λc hc'=>?_) λi c u hi hu=>?_)
            · obtain⟨i,hi⟩:=List.getElem?_of_mem hc'
              have hlt:=(List.getElem?_eq_some_iff.1 hi).1;have hd:ds[i]?=some ds[i]:=by simp
              rw [(h2 i _ c hd hi).2];exact ho _ (by simp)
            have hlt:=(List.getElem?_eq_some_iff.1 hi).1;have hd:ds[i]?=some ds[i]:=by simp
            exact (h2 i _ c hd hi).1 _ _ _ (hc i _ u hd hu)
      cases h
    | nilsl=>
      simp only [wkV] at h;split at h
      · cases h
        cases hr with
        | d _ _ hr=>exact .d _ _ (DLe.nil _ _ _ _ hr)
      cases h
    | _=>cases h
  | _=>cases h
theorem Sim.wk {C:Ctx} {fr:Fr} {hp:List Blk} {g:Gh} {a:Act} {w:World} (h:Sim C ⟨fr,hp⟩ g a w) {t:Nat} {s:List (Option Nat)} {v:AV} (hv:wkV s (fr.get t)=some v):Sim C ⟨(t,v) :: fr,hp⟩ g a w:=by
  refine { h with fr:=λu=>?_ };simp only [Fr.get];split
  · rename_i e;subst e;exact yP hv (h.fr t)
  exact h.fr u
theorem c_wk {C:Ctx} {fr:Fr} {hp:List Blk} {c:Code} {Q:Exit->St->Prop} (t:Nat) (s:List (Option Nat)) {v:AV} (hv:wkV s (fr.get t)=some v) (h:TWp C c ⟨(t,v) :: fr,hp⟩ Q):TWp C c ⟨fr,hp⟩ Q:=λg a w hs=>h g a w (Sim.wk hs hv)
theorem oA {C:Ctx} {fr:Fr} {hp:List Blk} {ops:Array Oper} {l:List Oper} {K:St->Prop} (t:Nat) (s:List (Option Nat)) {v:AV} (hv:wkV s (fr.get t)=some v) (h:aH C ops l ⟨(t,v) :: fr,hp⟩ K):aH C ops l ⟨fr,hp⟩ K:=λg a w hs=>h g a w (Sim.wk hs hv)
def wkB:List AV->List (Option Nat)->Option (List AV)
  | [],_=>some []
  | d :: r,[]=>some (d :: r)
  | d :: r,none :: s=>match wkB r s with
    | some r'=>some (d :: r')
    | none=>none
  | d :: r,some n :: s=>match wkB r s with
    | some r'=>match d with
      | .d .nilsl=>some (.d (.sl n []) :: r')
      | _=>none
    | none=>none
theorem sS:∀ {ds:List AV} {s:List (Option Nat)} {ds':List AV},wkB ds s=some ds'->ds'.length=ds.length/\∀ (i:Nat) (c':AV),ds'[i]?=some c'->∃ c,ds[i]?=some c/\∀ (w:World) (g:Gh) (v:Value),ARep w g c v->ARep w g c' v
  | [],_,_,h=>by cases h;exact⟨rfl,λi c h=>by simp at h⟩
  | d :: r,[],_,h=>by
    cases h;exact⟨rfl,λi c' h'=>⟨c',h',λ_ _ _ h=>h⟩⟩
  | d :: r,none :: s,_,h=>by
    simp only [wkB] at h;split at h
    · rename_i r' hr
      cases h;obtain⟨h1,h2⟩:=sS hr;refine⟨by simp [h1],λi c' hc'=>?_⟩
      cases i with
      | zero=>simp at hc';subst hc';exact⟨d,by simp,λ_ _ _ h=>h⟩
      | succ i=>obtain⟨c,hc,hh⟩:=h2 i c' (by simpa using hc');exact⟨c,by simpa using hc,hh⟩
    cases h
  | d :: r,some n :: s,_,h=>by
    simp only [wkB] at h;split at h
    · rename_i r' hr
      obtain⟨h1,h2⟩:=sS hr;split at h
      · cases h
        refine⟨by simp [h1],λi c' hc'=>?_⟩
        cases i with
        | zero=>simp at hc';subst hc';exact⟨.d .nilsl,by simp,λ_ _ _ h=>by cases h with|d _ _ h=>exact .d _ _ (DLe.nil _ _ _ _ h)⟩
        | succ i=>obtain⟨c,hc,hh⟩:=h2 i c' (by simpa using hc');exact⟨c,by simpa using hc,hh⟩
      cases h
    cases h
theorem Sim.wkb {C:Ctx} {fr:Fr} {hp:List Blk} {g:Gh} {a:Act} {w:World} (h:Sim C ⟨fr,hp⟩ g a w) {id ty:Nat} {cs cs':List AV} {s:List (Option Nat)} (hb:hp[id]?=some (.box ty cs)) (hv:wkB cs s=some cs'):Sim C ⟨fr,hp.set id (.box ty cs')⟩ g a w:=by
  have hlen:id < hp.length:=(List.getElem?_eq_some_iff.1 hb).1
  have hin:∀ (i:Nat) (B:Blk),(hp.set id (.box ty cs'))[i]?=some B->∃ B',hp[i]?=some B'/\(B≠.dead->B'≠.dead):=by
    intro i B hi;rw [List.getElem?_set] at hi;split at hi
    · rename_i e;subst e;exact⟨_,hb,λ_ e=>by cases e⟩
    exact⟨B,hi,λh=>h⟩
  refine { h with hp:=λi B hi=>?_,lt:=?_,inj:=?_,kle:=?_ }
  · simp only [List.getElem?_set] at hi
    split at hi
    · rename_i e
      subst e;cases hi;obtain⟨b,cells,h1,h2,h3,h4,h5⟩:=h.hp _ _ hb;obtain⟨e1,e2⟩:=sS hv;refine⟨b,cells,h1,h2,h3,by rw [e1];exact h4,λj c v hc hv=>?_⟩;obtain⟨c0,hc0,hm⟩:=e2 j c hc;exact hm _ _ _ (h5 j c0 v hc0 hv)
    exact h.hp i B hi
  · intro i b hp'
    have:=h.lt i b hp';simp only [List.length_set];exact this
  · intro i j b Bi Bj hi hj di dj hpi hpj
    obtain⟨Bi',hi',ei⟩:=hin i Bi hi;obtain⟨Bj',hj',ej⟩:=hin j Bj hj;exact h.inj i j b Bi' Bj' hi' hj' (ei di) (ej dj) hpi hpj
  have:=h.kle;simp only [List.length_set];exact this
theorem gK {C:Ctx} {fr:Fr} {hp:List Blk} {ops:Array Oper} {l:List Oper} {K:St->Prop} (id:Nat) (s:List (Option Nat)) {ty:Nat} {cs cs':List AV} (hb:hp[id]?=some (.box ty cs)) (hv:wkB cs s=some cs') (h:aH C ops l ⟨fr,hp.set id (.box ty cs')⟩ K):aH C ops l ⟨fr,hp⟩ K:=λg a w hs=>h g a w (Sim.wkb hs hb hv)
def aC {α:Type} (p:Prop) [Decidable p] (k:Option α):Option α:=if p then k else none
def bH {α β:Type} (l:List α) (i:Int) (k:α->Option β):Option β:=if 0<=i then (match l[i.toNat]? with|some x=>k x|none=>none) else none
def aX {α β:Type} (m:Option β):Option (α ⊕ β):=m.map .inr
def eJ {α β:Type} (m:Option (α ⊕ β)) (k:α->Option β):Option β:=match m with
  | some (.inl a)=>k a
  | some (.inr b)=>some b
  | none=>none
def aD {α β:Type} (m:Option α) (k:α->Option β):Option β:=match m with
  | some a=>k a
  | none=>none
def sub {α:Type} (l:List α) (i j:Int):List α:=(l.drop i.toNat).take (j.toNat - i.toNat)
section
variable {α β γ:Type}
theorem GI {p:Prop} [Decidable p] {k:Option α} {r:α} (h:aC p k=some r):p/\k=some r:=by
  unfold aC at h;split at h
  · exact⟨by assumption,h⟩
  cases h
theorem GV {l:List α} {i:Int} {k:α->Option β} {r:β} (h:bH l i k=some r):∃ x,(0<=i/\l[i.toNat]?=some x)/\k x=some r:=by
  unfold bH at h;split at h
  · split at h
    · exact⟨_,⟨by assumption,by assumption⟩,h⟩
    cases h
  cases h
theorem BI {m:Option α} {k:α->Option β} {r:β} (h:aD m k=some r):∃ x,m=some x/\k x=some r:=by
  cases m with
  | none=>cases h
  | some a=>exact⟨a,rfl,h⟩
theorem II {m:Option β} {x:α ⊕ β} (h:aX m=some x):∃ v,m=some v/\x=.inr v:=by
  cases m with
  | none=>cases h
  | some a=>cases h;exact⟨a,rfl,rfl⟩
theorem JT {p:Prop} [Decidable p] {a b:Option α} {c:α} (h:decide p=true) (hm:(if p then a else b)=some c):a=some c:=by rw [if_pos (of_decide_eq_true h)] at hm;exact hm
theorem JF {p:Prop} [Decidable p] {a b:Option α} {c:α} (h:decide p=false) (hm:(if p then a else b)=some c):b=some c:=by rw [if_neg (of_decide_eq_false h)] at hm;exact hm
theorem hO {p:Prop} [Decidable p] {a b:Option α} {c:α} (h:(!decide p)=true) (hm:(if p then b else a)=some c):a=some c:=by rw [if_neg (of_decide_eq_false (by simpa using h))] at hm;exact hm
theorem hP {p:Prop} [Decidable p] {a b:Option α} {c:α} (h:(!decide p)=false) (hm:(if p then b else a)=some c):b=some c:=by rw [if_pos (of_decide_eq_true (by simpa using h))] at hm;exact hm
theorem JA {p:Bool} {a b:Option α} {c:α} (h:p=true) (hm:(if p=true then a else b)=some c):a=some c:=by rw [if_pos h] at hm;exact hm
theorem JB {p:Bool} {a b:Option α} {c:α} (h:p=false) (hm:(if p=true then a else b)=some c):b=some c:=by rw [if_neg (by rw [h];simp)] at hm;exact hm
def rK {ρ:Type} [DecidableEq ρ] (l:List α) (a b:Option ρ):Option ρ:=match l with
  | []=>match a,b with
    | some x,some y=>if x=y then some x else none
    | _,_=>none
  | _=>b
theorem qAC {ρ:Type} [DecidableEq ρ] {l:List α} {a b:Option ρ} {o:ρ} (hm:rK l a b=some o):b=some o:=by
  cases l with
  | nil=>
    simp only [rK] at hm;split at hm
    · split at hm
      · rename_i e;subst e;exact hm
      cases hm
    cases hm
  | cons x r=>exact hm
def eI {σ ρ:Type} (f:σ->Option (σ ⊕ ρ)):Nat->σ->Option ρ
  | 0,_=>none
  | n+1,s=>match f s with
    | none=>none
    | some (.inl s')=>eI f n s'
    | some (.inr r)=>some r
def aO:Nat:=73786976294838206464
def bR {σ ρ:Type} (f:σ->Option (σ ⊕ ρ)) (s:σ):Option ρ:=eI f aO s
theorem nH {σ ρ:Type} {f:σ->Option (σ ⊕ ρ)}:∀ {n m:Nat} {s:σ} {r:ρ},eI f n s=some r->n<=m->eI f m s=some r
  | 0,_,_,_,h,_=>by cases h
  | n+1,0,_,_,_,hm=>absurd hm (Nat.not_succ_le_zero n)
  | n+1,m+1,s,r,h,hm=>by
    simp only [eI] at h ⊢;split at h
    · cases h
    · exact nH h (Nat.le_of_succ_le_succ hm)
    exact h
theorem xH {σ ρ:Type} {f:σ->Option (σ ⊕ ρ)} {n:Nat} {s:σ} {r:ρ} (h:eI f n s=some r) (hn:n<=aO):bR f s=some r:=nH h hn
end
theorem k0 {ids:List Nat} (i:Nat) (h:i < 0):ids[i]?=some i:=absurd h (Nat.not_lt_zero i)
variable {C:Ctx}
theorem TWp.monoT {c:Code} {st:St} {n n':St->Prop} {Q:Exit->St->Prop} (h:TWp C c st (fM n Q)) (hn:∀ st,n st->n' st):TWp C c st (fM n' Q):=h.mono λe st hq=>by
  cases e with
  | normal=>exact hn st hq
  | _=>exact hq
theorem bT {c:Code} {Q:Exit->St->Prop} {σ ρ:Type} {f:σ->Option (σ ⊕ ρ)} {s0:σ} {o:ρ} (hm:bR f s0=some o) {fr:Fr} {hp:List Blk} (var:σ->Fr) (chg:σ->List (Nat×Blk)) (vk ik ids:List Nat) {inv:Fr} {hp0:List Blk} (hnd:eF ids=true) (hk:∀ i,i < C.k->ids[i]?=some i)
    (hI:lL fr ik=some inv) (hI':Fr.mapRef (toName (aE ids)) inv=inv) (hV:Fr.mapRef (toName (aE ids)) (Fr.keep vk fr)=var s0) (hH:ids.map (λi=>(hp.getD i .dead).mapRef (toName (aE ids)))=hp0) (hC:hp0=wr (chg s0) hp0)
    (round:∀ s x,f s=some x->(∀ v,x=.inr v->v=o)->TWp C c ⟨var s++inv,wr (chg s) hp0⟩ (fM (λst'=>∃ s' ids',x=.inl s'/\eF ids'=true/\(∀ i,i < C.k->ids'[i]?=some i)/\st'.canon (vk++ik) ids'=⟨var s'++inv,wr (chg s') hp0⟩) Q)):TWp C (.loop c) ⟨fr,hp⟩ Q:=by
  refine sV (α:=σ×Nat) (λx=>var x.1) (λx=>chg x.1) (λx=>eI f x.2 x.1=some o) (λx=>x.2) vk ik ids (s0,aO) (bQ hnd) hk hm (kT hI) hI' hV hH hC ?_;rintro⟨s,n⟩ hs
  cases n with
  | zero=>cases hs
  | succ n=>
    simp only [eI] at hs
    cases hf:f s with
    | none=>rw [hf] at hs;cases hs
    | some x=>
      rw [hf] at hs;refine (round s x hf λv hv=>by subst hv;exact Option.some.inj hs).monoT ?_;rintro st' ⟨s',ids',hx,h1,h2,h3⟩;subst hx;exact⟨(s',n),ids',bQ h1,h2,hs,Nat.lt_succ_self n,h3⟩
theorem cO {x y:Code} {Q:Exit->St->Prop} {J ρ:Type} {m:Option (J ⊕ ρ)} {k:J->Option ρ} {o:ρ} (hm:eJ m k=some o) {fr:Fr} {hp:List Blk} (sets:J->Fr) (chg:J->List (Nat×Blk)) (sk ks:List Nat) {inv:Fr} (hI:lL fr ks=some inv)
    (h1:∀ z,m=some z->(∀ v,z=.inr v->v=o)->TWp C x ⟨fr,hp⟩ (fM (λst=>∃ j ids,z=.inl j/\eF ids=true/\(∀ i,i < C.k->ids[i]?=some i)/\st.canon (sk++ks) ids=⟨sets j++inv,wr (chg j) hp⟩) Q))
    (h2:∀ j,k j=some o->TWp C y ⟨sets j++inv,wr (chg j) hp⟩ Q):TWp C (.seq x y) ⟨fr,hp⟩ Q:=by
  cases hz:m with
  | none=>rw [hz] at hm;cases hm
  | some z=>
    rw [hz] at hm;refine TQ ((h1 z hz λv hv=>by subst hv;exact Option.some.inj hm).monoT ?_);rintro st ⟨j,ids,hj,hnd,hk,he⟩;subst hj;refine iG (sk++ks) ids (bQ hnd) hk ?_;rw [he];exact h2 j hm
theorem aG {x y:Code} {Q:Exit->St->Prop} {J ρ:Type} {m:Option J} {k:J->Option ρ} {o:ρ} (hm:aD m k=some o) {fr:Fr} {hp:List Blk} (sets:J->Fr) (chg:J->List (Nat×Blk)) (sk ks:List Nat) {inv:Fr} (hI:lL fr ks=some inv)
    (h1:∀ z,m=some z->TWp C x ⟨fr,hp⟩ (fM (λst=>∃ j ids,z=j/\eF ids=true/\(∀ i,i < C.k->ids[i]?=some i)/\st.canon (sk++ks) ids=⟨sets j++inv,wr (chg j) hp⟩) Q))
    (h2:∀ j,k j=some o->TWp C y ⟨sets j++inv,wr (chg j) hp⟩ Q):TWp C (.seq x y) ⟨fr,hp⟩ Q:=by
  cases hz:m with
  | none=>rw [hz] at hm;cases hm
  | some z=>
    rw [hz] at hm;refine TQ ((h1 z hz).monoT ?_);rintro st ⟨j,ids,hj,hnd,hk,he⟩;subst hj;refine iG (sk++ks) ids (bQ hnd) hk ?_;rw [he];exact h2 z hm
theorem fK {x y:Code} {Q:Exit->St->Prop} {fr:Fr} {hp:List Blk} (sets:Fr) (sk ks:List Nat) {inv:Fr} (hI:lL fr ks=some inv)
    (h1:TWp C x ⟨fr,hp⟩ (fM (λst=>∃ ids,eF ids=true/\(∀ i,i < C.k->ids[i]?=some i)/\st.canon (sk++ks) ids=⟨sets++inv,hp⟩) Q))
    (h2:TWp C y ⟨sets++inv,hp⟩ Q):TWp C (.seq x y) ⟨fr,hp⟩ Q:=by
  refine TQ (h1.monoT ?_);rintro st ⟨ids,hnd,hk,he⟩;refine iG (sk++ks) ids (bQ hnd) hk ?_;rw [he];exact h2
theorem bU {fr fr':Fr} {hp hp':List Blk} (h1:fr=fr') (h2:hp=hp'):(⟨fr,hp⟩:St)=⟨fr',hp'⟩:=by rw [h1,h2]
theorem aQ {t:Nat} {v v':AV} {r r':Fr} (h1:v=v') (h2:r=r'):(t,v) :: r=(t,v') :: r':=by rw [h1,h2]
section rd
variable {T:Tab} {o:Oper} {ev:Operand->AV} {hp:List Blk} {α:Type} {f:α->D} {xs ys:List α}
theorem dD {t e sz by':Nat} {a b:Operand} {k:IntKind} {i:Int} {x:α} (hT:TabOk C.P T) (ho:o.op=.indexAddr t a b) (hl:lk T.sel t=some (e,sz,by')) (ha:ev a=.d (.sl sz (xs.map f))) (hb:ev b=.d (.int k i)) (h:0<=i/\xs[i.toNat]?=some x):RdOk C o ev hp (.d (.ptr (f x) 0)):=
  xL ho (hT.sel hl) ha hb (zK h.1 h.2)
theorem lF {t e sz by' n id:Nat} {a b:Operand} {k:IntKind} {i:Int} {x:α} (hT:TabOk C.P T) (ho:o.op=.indexAddr t a b) (hl:lk T.sel t=some (e,sz,by')) (ha:ev a=.msl id sz 0 n) (hb:ev b=.d (.int k i)) (h:0<=i/\xs[i.toNat]?=some x) (hn:n=xs.length):RdOk C o ev hp (.mptr id sz i.toNat 0):=by
  have hlt:=(List.getElem?_eq_some_iff.1 h.2).1;exact vL ho (hT.sel hl) ha hb ⟨h.1,by omega⟩ (Nat.zero_add _)
theorem oQ {t s id sz idx off bt:Nat} {b:Bool} {a:Operand} {x:α} {v:AV} (hT:TabOk C.P T) (ho:o.op=.load t a) (hl:lk T.lay t=some (b,s)) (ha:ev a=.mptr id sz idx off) (hb:hp[id]?=some (.flat bt sz (xs.map f))) (hx:xs[idx]?=some x) (hv:jA b s [] (.d (.ptr (f x) off))=some v):RdOk C o ev hp v:=by
  have he:(xs.map f)[idx]?=some (f x):=xS hx
  cases b with
  | false=>
    simp only [jA] at hv;split at hv
    · rename_i d hd;cases hv;exact vJ ho (hT.lay hl) ha hb he hd
    cases hv
  | true=>
    simp only [jA] at hv;split at hv
    · rename_i h1 h2 h3
      cases hv;have h1:=Nat.eq_of_beq_eq_true h1;subst h1;exact tN ho (hT.lay hl) ha hb he (Nat.eq_of_beq_eq_true h2) h3
    split at hv
    · rename_i hle;cases hv;exact gM id sz idx off s _ _ ho (hT.lay hl) ha hb he (Nat.le_of_ble_eq_true hle)
    cases hv
theorem bI {t e sz sz' by':Nat} {a:Operand} (hT:TabOk C.P T) (ho:o.op=.call { callee:=.builtin .len,args:=#[a],argTypes:=#[t] }) (hl:lk T.sel t=some (e,sz',by')) (ha:ev a=.d (.sl sz (xs.map f))):RdOk C o ev hp (.d (.int .i64 (xs.length:Int))):=
  len_d ho (hT.sel hl) ha (List.length_map _)
theorem bA {op:BinOp} {t t':TypeId} {x y:Operand} {m n r:Int} (ho:o.op=.binOp op t x y t') (hx:ev x=.d (.int .i64 m)) (hy:ev y=.d (.int .i64 n)) (hr:yJ op m n=some r) (hb:I64 r):RdOk C o ev hp (.d (.int .i64 r)):=yG ho hx hy hr hb
theorem dW {t e sz by' n:Nat} {parts:Array (Nat×Operand)} {z:Value} (l:List Operand) (hT:TabOk C.P T) (ho:o.op=.buildSlice t n parts) (hl:lk T.sel t=some (e,sz,by')) (hz:(C.P.info? e).bind (·.zero)=some z) (hp':cM parts l) {ds:List D}
    (hx:evD (l.map ev)=some ds) (hn:Nat.beq ds.length n=true) (hs:(ds.all λd=>Nat.beq d.cells.length sz)=true) (hsmall:Nat.ble (n * sz) 16777216=true):RdOk C o ev hp (.d (.sl sz ds)):=zA l ho (hT.sel hl) hz hp' hx hn hs hsmall
end rd
def gA {α β:Type} [DecidableEq α] (fs:List (α×β)) (k:α) (v:β):List (α×β):=match fs.findIdx? λx=>decide (x.1=k) with
  | some j=>fs.set j (k,v)
  | none=>fs++[(k,v)]
section pm
variable {α β:Type} [DecidableEq α] {dk:TypeDesc} {kf:α->D}
variable {o:Oper} {ev:Operand->AV} {hp:List Blk} {x y u:Operand} {t kt et kt' et':TypeId} {id:Nat} {zd:D} {z:Value}
end pm
theorem uA {s u:ByteArray}:s.data=u.data↔s=u:=⟨λh=>by cases s;cases u;congr 1,λh=>by rw [h]⟩
section st
variable {T:Tab} {ops:Array Oper} {l:List Oper} {K:St->Prop} {fr:Fr} {hp:List Blk} {d:Nat} {ty:TypeId} {pos:String} {after:Array Edge} {α:Type} {f:α->D} {xs ys:List α}
theorem jH {x:Operand} (N ety sz:Nat) (hd:decide (d < C.n)=true) (hN:Nat.beq hp.length N=true) (hx:fr.ev x=.d .nilsl) (h:aH C ops l ⟨(d,.msl N sz 0 ([]:List α).length) :: fr,hp++[.flat ety sz (([]:List α).map f)]⟩ K):aH C ops (⟨some d,.assign x,ty,pos,after,none⟩ :: l) ⟨fr,hp⟩ K:=by
  have e:=Nat.eq_of_beq_eq_true hN;subst e;exact qT ety sz hd hx h
def zS:AV->Option (List AV)
  | .d (.agg ds)=>some (ds.map .d)
  | .d d=>some [.d d]
  | .agg cs=>match (AV.agg cs).flat with
    | true=>some cs
    | false=>none
  | .msl i s o l=>some [.msl i s o l]
  | .mptr i s o l=>some [.mptr i s o l]
  | .mmap i=>some [.mmap i]
  | .yld i=>some [.yld i]
  | .mmapN i n=>some [.mmapN i n]
  | _=>none
theorem mH {v:AV} {cs:List AV} (h:zS v=some cs):v.flat=true/\v.cells=cs:=by
  cases v with
  | d d=>cases d<;>cases h<;>exact⟨rfl,rfl⟩
  | agg cs=>
    simp only [zS] at h;split at h
    · rename_i hf;cases h;exact⟨hf,rfl⟩
    cases h
  | msl=>cases h;exact⟨rfl,rfl⟩
  | mptr=>cases h;exact⟨rfl,rfl⟩
  | mmap=>cases h;exact⟨rfl,rfl⟩
  | yld=>cases h;exact⟨rfl,rfl⟩
  | mmapN=>cases h;exact⟨rfl,rfl⟩
  | _=>cases h
theorem cS {x:Operand} {t:TypeId} {cs:List AV} (N:Nat) (hd:decide (d < C.n)=true) (hN:Nat.beq hp.length N=true) (hx:zS (fr.ev x)=some cs) (h:aH C ops l ⟨(d,.mptr N 0 0 0) :: fr,hp++[.box t cs]⟩ K):aH C ops (⟨some d,.box t x,ty,pos,after,none⟩ :: l) ⟨fr,hp⟩ K:=by
  have e:=Nat.eq_of_beq_eq_true hN;subst e;exact s_box hd rfl (mH hx).1 (mH hx).2 h
theorem dF {t:TypeId} {z:Value} {cs:List AV} (N:Nat) (hd:decide (d < C.n)=true) (hN:Nat.beq hp.length N=true) (hz:(C.P.info? t).bind (·.zero)=some z) (hc:zS (bJ z)=some cs) (h:aH C ops l ⟨(d,.mptr N 0 0 0) :: fr,hp++[.box t cs]⟩ K):aH C ops (⟨some d,.alloc t,ty,pos,after,none⟩ :: l) ⟨fr,hp⟩ K:=by
  have e:=Nat.eq_of_beq_eq_true hN;subst e;exact yX hd hz (mH hc).1 (mH hc).2 h
theorem qAA {t e sz by':Nat} {a b:Operand} {z:Value} {zd:D} {n:Int} (N:Nat) (hT:TabOk C.P T) (hd:decide (d < C.n)=true) (hN:Nat.beq hp.length N=true) (hl:lk T.sel t=some (e,sz,by')) (hz:(C.P.info? e).bind (·.zero)=some z) (hzd:bJ z=.d zd) (hzs:Nat.beq zd.cells.length sz=true) (ha:fr.ev a=.d (.int .i64 n)) (hb:fr.ev b=.d (.int .i64 n)) (hby:Nat.ble by' 100000=true) (hn:0<=n/\n<=1000000000) {x:α} (hf:f x=zd)
    (h:aH C ops l ⟨(d,.msl N sz 0 (List.replicate n.toNat x).length) :: fr,hp++[.flat e sz ((List.replicate n.toNat x).map f)]⟩ K):aH C ops (⟨some d,.makeSlice t a b,ty,pos,after,none⟩ :: l) ⟨fr,hp⟩ K:=by
  obtain⟨m,rfl⟩:=Int.eq_ofNat_of_zero_le hn.1;have h1:=Nat.le_of_ble_eq_true hby;have h2:m<=1000000000:=by omega
  have h3:by' * m<=100000 * 1000000000:=Nat.mul_le_mul h1 h2
  have e:=Nat.eq_of_beq_eq_true hN;subst e;rw [List.map_replicate,hf] at h;simp only [Int.toNat_natCast,List.length_replicate] at h;exact qS (n:=m) hd (hT.sel hl) hz hzd (Nat.eq_of_beq_eq_true hzs) ha hb (by omega) (by omega) h
theorem s_litO {t e sz by' n:Nat} {parts:Array (Nat×Operand)} {z:Value} (N:Nat) (os:List Operand) (xs:List α) (hT:TabOk C.P T) (hd:decide (d < C.n)=true) (hN:Nat.beq hp.length N=true) (hl:lk T.sel t=some (e,sz,by')) (hz:(C.P.info? e).bind (·.zero)=some z) (hp':cM parts os)
    (hx:evD (os.map fr.ev)=some (xs.map f)) (hn:Nat.beq (xs.map f).length n=true) (hs:((xs.map f).all λd=>Nat.beq d.cells.length sz)=true) (hsmall:Nat.ble (n * sz) 16777216=true) (h:aH C ops l ⟨(d,.msl N sz 0 xs.length) :: fr,hp++[.flat e sz (xs.map f)]⟩ K):aH C ops (⟨some d,.buildSlice t n parts,ty,pos,after,none⟩ :: l) ⟨fr,hp⟩ K:=by
  have e:=Nat.eq_of_beq_eq_true hN;subst e;have e2:=Nat.eq_of_beq_eq_true hn;rw [List.length_map] at e2;rw [e2] at h;exact s_litD os hd (hT.sel hl) hz hp' hx hn hs hsmall h
theorem eG {t e sz by' n id:Nat} {x y:Operand} {u:AV} {z:Value} {fr':Fr} {hp1:List Blk} (ys:List α) (hT:TabOk C.P T) (hd:decide (d < C.n)=true) (hl:lk T.sel t=some (e,sz,by')) (hz:(C.P.info? e).bind (·.zero)=some z) (hzs:Nat.beq z.cells.size sz=true) (hby:Nat.ble by' 100000=true) (hx:fr.ev x=.msl id sz 0 n) (hb:hp[id]?=some (.flat e sz (xs.map f))) (hn:n=xs.length) (hmv:id < C.k->C.mv id=true)
    (hy:fr.ev y=u) (hu:SrcA hp sz (ys.map f) u) (hg:(xs++ys).length<=1000000000) (hfr:Fr.mapRef (purge id) fr=fr') (hhp:hp.map (Blk.mapRef (purge id))=hp1)
    (h:aH C ops l ⟨(d,.msl id sz 0 (xs++ys).length) :: fr',hp1.set id (.flat e sz ((xs++ys).map f))⟩ K):aH C ops (⟨some d,.call { callee:=.builtin .append,args:=#[x,y],argTypes:=#[t,t] },ty,pos,after,none⟩ :: l) ⟨fr,hp⟩ K:=by
  have h1:=Nat.le_of_ble_eq_true hby;have h3:(xs++ys).length * by'<=1000000000 * 100000:=Nat.mul_le_mul hg h1
  exact wP (m:=(xs++ys).length) (ds:=ys.map f) (es':=(xs++ys).map f) hd (hT.sel hl) hz (Nat.eq_of_beq_eq_true hzs) hx hb (by rw [hn,List.length_map]) hmv hy hu (by rw [List.map_append]) (by simp) (by omega) (by omega) hfr hhp h
theorem zZ {t s id sz idx off bt:Nat} {b:Bool} {a y:Operand} {x x':α} {v:D} (hT:TabOk C.P T) (hl:lk T.lay t=some (b,s)) (ha:fr.ev a=.mptr id sz idx off) (hy:fr.ev y=.d v) (hs:Nat.beq v.cells.length s=true) (hb:hp[id]?=some (.flat bt sz (xs.map f))) (hx:xs[idx]?=some x) (hone:((!(f x).one)||v.one)=true) (hle:Nat.ble (off+s) (f x).cells.length=true) (hu:(f x).upd off v=f x') (h:aH C ops l ⟨fr,hp.set id (.flat bt sz ((xs.set idx x').map f))⟩ K):aH C ops (⟨none,.store t a y,ty,pos,after,none⟩ :: l) ⟨fr,hp⟩ K:=by
  rw [List.map_set] at h;refine pP (e:=f x) (e':=f x') (hT.lay hl) ha hy (Nat.eq_of_beq_eq_true hs) hb (xS hx) ?_ (Nat.le_of_ble_eq_true hle) hu h;simp only [Bool.or_eq_true,Bool.not_eq_true'] at hone;exact hone
theorem wM (t n':Nat) {id sz n:Nat} (hv:Fr.get fr t=.msl id sz 0 n) (he:n=n') (h:aH C ops l ⟨(t,.msl id sz 0 n') :: fr,hp⟩ K):aH C ops l ⟨fr,hp⟩ K:=s_eq t _ hv (by rw [he]) h
theorem dX {hp:List Blk} {sz:Nat} {ds:List D}:SrcA hp sz ds (.d (.sl sz ds)):=⟨rfl,rfl⟩
theorem dY {id sz ty:Nat} (h:hp[id]?=some (.flat ty sz (xs.map f))):Snap hp (.msl id sz 0 xs.length) (.sl sz (xs.map f)):=uY h (by simp)
end st
theorem cN {o:Oper} {ev:Operand->AV} {hp:List Blk} {f:Operand} {xs:Array Operand} {ts:Array TypeId} {F:FuncId} {ds rs:List D} (ho:o.op=.call { callee:=.value f,args:=xs,argTypes:=ts }) (hf:ev f=.d (.fn F)) (hx:xs.toList.map ev=ds.map .d) (hret:RetT C.P F ds rs):RdOk C o ev hp (.tup (rs.map .d)):=
  vE (cs:=[]) ho hf rfl hx (by rw [List.append_nil];exact hret)
theorem uU {c:Code} {Q:Exit->St->Prop} {fr fr':Fr} {hp hp':List Blk} (i:Nat) (hk:Nat.ble C.k i=true) (hks:((List.range C.k).all (aI hp))=true) (hal:aI hp i=true) (hf:Fr.mapRef (frz i (hp.getD i .dead) (aI hp)) fr=fr') (hh:(hp.map (Blk.mapRef (frz i (hp.getD i .dead) (aI hp)))).set i .dead=hp') (h:TWp C c ⟨fr',hp'⟩ Q):TWp C c ⟨fr,hp⟩ Q:=by
  subst hf hh;exact sW i (Nat.le_of_ble_eq_true hk) hal (λj hj=>List.all_eq_true.1 hks j (List.mem_range.2 hj)) h
theorem c_frzO {c:Code} {Q:Exit->St->Prop} {fr fr':Fr} {hp hp':List Blk} (t i:Nat) (ks:List Nat) (hk:Nat.ble C.k i=true) (hks:((List.range C.k).all (aI hp))=true) (hal:aI hp i=true) {sz n ty:Nat} {es:List D} (ht:fr.get t=.msl i sz 0 n) (hb:hp[i]?=some (.flat ty sz es)) (hn:n=es.length) (hf:Fr.mapRef (frz i (.flat ty sz es) (aI hp)) (Fr.keep ks fr)=fr') (hh:(hp.map (Blk.mapRef (frz i (.flat ty sz es) (aI hp)))).set i .dead=hp')
    (h:TWp C c ⟨(t,.d (.sl sz es)) :: fr',hp'⟩ Q):TWp C c ⟨fr,hp⟩ Q:=by
  have hB:hp.getD i .dead=.flat ty sz es:=by rw [List.getD_eq_getElem?_getD,hb];rfl
  intro g a w hs;obtain⟨g',hs'⟩:=hs.freeze i (Nat.le_of_ble_eq_true hk) hal (λj hj=>List.all_eq_true.1 hks j (List.mem_range.2 hj));subst hf hh;refine h g' a w ?_;simp only [St.freeze,hB] at hs';refine { hs' with fr:=λu=>?_ };have hu:=hs'.fr u;simp only [Fr.get];split
  · rename_i e
    subst e;rw [Fr.get_mapRef,ht] at hu;simp only [AV.mapRef,frz,if_true] at hu;rw [if_pos ⟨trivial,by omega⟩] at hu;subst hn;simpa using hu
  rw [Fr.get_mapRef];rcases Fr.get_keep fr ks u with e|e
  · rw [e,<- Fr.get_mapRef];exact hu
  rw [e];exact .junk _
theorem OJ {α : Type} {a b : α} (h : some a = some b) : a = b := Option.some.inj h
theorem SJ {α : Type} {a b : α} (h : some a = some b) : b = a := (Option.some.inj h).symm
theorem Q {α : Sort _} {a : α} : a = a := rfl
theorem BE {α β : Type} {m : Option α} {k : α → Option β} {r : β} {C : Prop} (h : aD m k = some r) (f : ∀ x, m = some x → k x = some r → C) : C := (BI h).elim fun x h => f x h.1 h.2
theorem GE {α : Type} {p : Prop} [Decidable p] {k : Option α} {r : α} {C : Prop} (h : aC p k = some r) (f : p → k = some r → C) : C := f (GI h).1 (GI h).2
theorem VE {α β : Type} {l : List α} {i : Int} {k : α → Option β} {r : β} {C : Prop} (h : bH l i k = some r) (f : ∀ x, (0 ≤ i ∧ l[i.toNat]? = some x) → k x = some r → C) : C := (GV h).elim fun x h => f x h.1 h.2
theorem IE {α β : Type} {m : Option β} {x : α ⊕ β} {C : Prop} (h : aX m = some x) (f : ∀ v, m = some v → x = .inr v → C) : C := (II h).elim fun v h => f v h.1 h.2
theorem zQQ {α : Type _} {l : List α} {i : Nat} {a : α} : l[i]? = some a ↔ ∃ h : i < l.length, l[i] = a := List.getElem?_eq_some_iff
theorem zQR {α : Type _} {l : List α} {i : Nat} (h : i < l.length) : l[i]? = some l[i] := List.getElem?_eq_getElem h
theorem zQM {α : Type _} {l : List α} {i : Nat} {a : α} (h : l[i]? = some a) : a ∈ l := List.mem_of_getElem? h
theorem zQD {α : Type _} {l : List α} {i : Nat} {a : α} : l.getD i a = l[i]?.getD a := List.getD_eq_getElem?_getD
theorem zQL {α : Type _} {a b : List α} : (a ++ b).length = a.length + b.length := List.length_append
theorem zQO {α : Type _} {b : α} {β : Type _} {x : Option β} {f : β → α} : Option.map f x = some b ↔ ∃ a, x = some a ∧ f a = b := Option.map_eq_some_iff
theorem zQP {α : Type _} {β : Type _} {f : α → β} {l : List α} {i : Nat} : (List.map f l)[i]? = Option.map f l[i]? := List.getElem?_map
theorem zQA (a b : Bool) : ((a && b) = true) = (a = true ∧ b = true) := Bool.and_eq_true a b
theorem zQN {α : Type _} {a : α} {s t : List α} : a ∈ s ++ t ↔ a ∈ s ∨ a ∈ t := List.mem_append
theorem zQT {α : Type _} {p : α → Bool} {l : List α} : l.all p = true ↔ ∀ x, x ∈ l → p x = true := List.all_eq_true
theorem zQU {α : Type _} {p : α → Bool} {l : List α} : l.any p = true ↔ ∃ x, x ∈ l ∧ p x = true := List.any_eq_true
theorem zQV (n : Nat) : ¬ n < 0 := Nat.not_lt_zero n
theorem zQB {α : Type _} {a b : α} {l : List α} : b ∈ a :: l ↔ b = a ∨ b ∈ l := List.mem_cons
theorem zQC {α β : Type _} {l : List α} (f : α → β) : (l.map f).length = l.length := List.length_map f
theorem zQW (n : Nat) : n ≤ n := Nat.le_refl n
variable {C:Ctx} {st:St} {g:Gh} {a:Act} {w:World} {P:Program}
theorem sE {o:Oper} {t e:TypeId} {x y:Operand} (id sz by' n:Nat) (es ds:List D) (z:Value) (ho:o.op=.call { callee:=.builtin .append,args:=#[x,y],argTypes:=#[t,t] }) (hl:sel P t=some (e,sz,by'))
    (hz:(P.info? e).bind (·.zero)=some z) (hzs:z.cells.size=sz) (hvx:ARep w g (.msl id sz 0 n) (a.eval x)) (hblk:BRep w g id (.flat e sz es)) (hn:n=es.length) (hsrc:Src w g.X sz ds (a.eval y))
    (hlen:(es.length+ds.length) * by'<=140737488355328) (hlen':es.length+ds.length<=9223372036854775807):
    ∃ v w',(execOp a.eval o).run P w=.ok (.value v) w'/\
      ((ds = [] /\ v = a.eval x /\ w' = w) \/
       (∃ b cells cells' cap, g.phi id = some b /\ w.heap[b]? = some (.cells cells e (0, 0)) /\ g.psi id = cells.size /\ cells'.size = cells.size /\ v = .slice (some ⟨b, 0, none⟩) (es.length + ds.length) cap /\ es.length + ds.length <= cap /\ cap * sz <= cells.size /\ w' = w.setRow b cells' /\ RowOf w g.X sz (es ++ ds) cells') \/
       (∃ cells' cap, v = .slice (some ⟨w.heap.size, 0, none⟩) (es.length + ds.length) cap /\ es.length + ds.length <= cap /\ cap * sz <= cells'.size /\ w' = w.drew.alloc (.cells cells' e) /\ RowOf w g.X sz (es ++ ds) cells')) := by
    obtain⟨inf,hun,hi,hsz,hby⟩:=eK hl;obtain⟨i',hi',hzero⟩:=fJ hz;cases hi.symm.trans hi'
    have zero:ds=[]->(∃ ad cap,a.eval y=.slice ad 0 cap)->∃ v w',(execOp a.eval o).run P w=.ok (.value v) w'/\(ds=[]/\v=a.eval x/\w'=w):=by
      intro hds ⟨ad,cap,hey⟩;subst hds
      have hexv:∃ b cap',a.eval x=.slice b n cap'/\n<=cap':=by
        generalize a.eval x=vx at *
        cases hvx with
        | msl0=>exact⟨_,_,rfl,zQW _⟩
        | msl _ _ _ _ cap b h1 h2 h3=>exact⟨_,_,rfl,h2⟩
      obtain⟨b,cap',hex,hle⟩:=hexv;have hr:=gL hl w o.type b ad n cap' cap hle;rw [<- hex,<- hey] at hr;exact⟨_,_,aV ho hr,rfl,rfl,rfl⟩
    rcases hsrc with ⟨ad,cap,hey,hds⟩|⟨ad,cap,news,hey,n1,n2,n3,n4,n5,n6⟩
    · obtain⟨v,w',h1,h2⟩:=zero hds ⟨ad,cap,hey⟩;exact⟨v,w',h1,.inl h2⟩
    by_cases hm:ds.length=0
    · obtain⟨v,w',h1,h2⟩:=zero (List.eq_nil_of_length_eq_zero hm) ⟨some ad,cap,by rw [hm] at hey;exact hey⟩;exact⟨v,w',h1,.inl h2⟩
    clear zero
    have hes:∀ (i:Nat) (d:D),(es++ds)[i]?=some d->(i < es.length/\es[i]?=some d)\/(es.length<=i/\ds[i - es.length]?=some d):=by
      intro i d h;rw [List.getElem?_append] at h;split at h
      · exact .inl ⟨‹_›,h⟩
      exact .inr ⟨by omega,h⟩
    have holds:∃ olds:List Value,olds.length=es.length * sz/\(∀ (b:Nat) (cells:Array Value),g.phi id=some b->w.heap[b]?=some (.cells cells e (0,0))->∀ (j:Nat) (u:Value),olds[j]?=some u->cells[j]?=some u)/\
        (∀ (i:Nat) (d:D),es[i]?=some d->d.cells.length=sz)/\(∀ (i:Nat) (d:D) (j:Nat) (c:D),es[i]?=some d->d.cells[j]?=some c->c.one=true)/\
        ∀ (i:Nat) (d:D) (j:Nat) (c:D),es[i]?=some d->d.cells[j]?=some c->∃ v,olds[i * sz+j]?=some v/\DRep w g.X c v:=by
      rcases hblk with ⟨he,hn'⟩|⟨b,cells,hp,hw,hpsi,hl',h0,h1,hr⟩
      · subst he;exact⟨[],by simp,λ_ _ _ _ j u hu=>by simp at hu,λi d h=>by simp at h,λi d j c h=>by simp at h,λi d j c h=>by simp at h⟩
      obtain ⟨olds, o1, o2, _, o4⟩ := jV (w := w) (X := g.X) (fun m => cells[m]?) h0 h1 hr;refine⟨olds,o1,λb' cells' hp' hw' j u hu=>?_,h0,h1,o4⟩;cases hp.symm.trans hp';rw [hw] at hw';cases hw';exact o2 j u hu
    obtain⟨olds,o1,o2,o3,o4,o5⟩:=holds
    have hsizes:∀ (i:Nat) (d:D),(es++ds)[i]?=some d->d.cells.length=sz:=λi d h=>by
      rcases hes i d h with ⟨_,h⟩|⟨_,h⟩
      · exact o3 i d h
      exact n4 _ d h
    have hones:∀ (i:Nat) (d:D) (j:Nat) (c:D),(es++ds)[i]?=some d->d.cells[j]?=some c->c.one=true:=λi d j c h hc=>by
      rcases hes i d h with ⟨_,h⟩|⟨_,h⟩
      · exact o4 i d j c h hc
      exact n5 _ d j c h hc
    have hlap:(es.length+ds.length) * sz=es.length * sz+ds.length * sz:=Nat.add_mul _ _ _
    have hcells:∀ f:Nat->Option Value,(∀ m,m < es.length * sz->f m=olds[m]?)->(∀ m,m < ds.length * sz->f (es.length * sz+m)=news[m]?)->
        ∀ (i:Nat) (d:D) (j:Nat) (c:D),(es++ds)[i]?=some d->d.cells[j]?=some c->∃ v,f (i * sz+j)=some v/\DRep w g.X c v:=by
      intro f f1 f2 i d j c h hc;have hj:j < sz:=by rw [<- hsizes i d h];exact (zQQ.1 hc).1
      rcases hes i d h with ⟨hlt,h⟩|⟨hge,h⟩
      · obtain⟨v,hv,hd⟩:=o5 i d j c h hc
        exact⟨v,by rw [f1 _ (by rw [<- o1];exact (zQQ.1 hv).1)];exact hv,hd⟩
      obtain⟨v,hv,hd⟩:=n6 _ d j c h hc;refine⟨v,?_,hd⟩;have hsub:i * sz=es.length * sz+(i - es.length) * sz:=by rw [<- Nat.add_mul];congr 1;omega
      rw [hsub,Nat.add_assoc,f2 _ (by rw [<- n1];exact (zQQ.1 hv).1)];exact hv
    have grown:∀ (zs:Array Value) (cap':Nat),es.length+ds.length<=cap'->zs.size=(cap' - (es.length+ds.length)) * sz->
        cap' * sz<=(olds.toArray++news.toArray++zs).size/\RowOf w g.X sz (es++ds) (olds.toArray++news.toArray++zs):=by
      intro zs cap' hcap hzz
      have htot:(olds.toArray++news.toArray++zs).size=cap' * sz:=by
        simp only [Array.size_append,List.size_toArray,o1,n1,hzz,<- Nat.add_mul]
        congr 1
        omega
      refine⟨Nat.le_of_eq htot.symm,?_,hsizes,hones,λi d j c h hc=>?_⟩
      · rw [htot,zQL];exact Nat.mul_le_mul_right _ hcap
      exact hcells (λm=>(olds.toArray++news.toArray++zs)[m]?) (λm hm=>by rw [eO,if_pos (by omega)]) (λm hm=>by rw [eO,if_neg (by omega),if_pos (by omega)];congr 1;omega) i d j c h hc
    have hzsz:∀ k,(Builtin.zeroCells z.cells k).size=k * sz:=λk=>by rw [size_zeroCells,hzs]
    generalize hex:a.eval x=vx at hvx
    cases hvx with
    | msl0 _ _ _ ad0=>
      have hes0:es=[]:=List.eq_nil_of_length_eq_zero hn.symm;have holds0:olds=[]:=List.eq_nil_of_length_eq_zero (by rw [o1,hes0];simp);have hgr:=grown (Builtin.zeroCells z.cells (grownCap w ds.length 0 e - ds.length)) (grownCap w ds.length 0 e) (by rw [hes0];simpa using grownCap_ge w ds.length 0 e) (by rw [hzsz,hes0];simp);have hcap:es.length+ds.length<=grownCap w ds.length 0 e:=by rw [hes0];simpa using grownCap_ge w ds.length 0 e
      rw [hes0,holds0] at hgr;rw [hes0] at hlen hlen' hcap;simp only [List.length_nil,Nat.zero_add] at hlen hlen' hcap;have he:(#[]:Array Value)++news.toArray++Builtin.zeroCells z.cells (grownCap w ds.length 0 e - ds.length)=news.toArray++Builtin.zeroCells z.cells (grownCap w ds.length 0 e - ds.length):=by simp
      rw [show ([]:List Value).toArray=#[] from rfl,he] at hgr
      have fin:∃ cells' cap,(Value.slice (some ⟨w.heap.size,0,none⟩) ds.length (grownCap w ds.length 0 e))=.slice (some ⟨w.heap.size,0,none⟩) (es.length+ds.length) cap/\es.length+ds.length<=cap/\cap * sz<=cells'.size/\w.drew.alloc (.cells (news.toArray++Builtin.zeroCells z.cells (grownCap w ds.length 0 e - ds.length)) e)=w.drew.alloc (.cells cells' e)/\RowOf w g.X sz (es++ds) cells':=
        ⟨_,_,by rw [hes0];simp,by rw [hes0];simpa using hcap,hgr.1,rfl,by rw [hes0];exact hgr.2⟩
      cases ad0 with
      | none=>
        have hr:=run_append_nil (P:=P) w t o.type e inf z hun hi hzero ad ds.length cap news (by rw [n1,hsz]) n2 (by omega) (by omega) (by rw [hby];omega);rw [<- hex,<- hey] at hr;exact⟨_,_,aV ho hr,.inr (.inr fin)⟩
      | some b0=>
        have hr := run_append_grow (P := P) w t o.type e inf z hun hi hzero b0 0 0 [] (by simp) (fun j v hv => by simp at hv) ad ds.length cap news (by rw [n1, hsz]) n2 (by omega) (by omega)
          (by rw [hby,Nat.zero_add,nextslicecap_zero (by omega)];omega)
        rw [<- hex,<- hey] at hr;simp only [Nat.zero_add] at hr;rw [show ([]:List Value).toArray=#[] from rfl,he] at hr;exact⟨_,_,aV ho hr,.inr (.inr fin)⟩
    | msl _ _ _ _ cap0 b hbp hc hpsz=>
      rw [Nat.zero_add] at hpsz;rw [Nat.zero_mul] at hex;rcases hblk with ⟨_,hn'⟩|⟨b',cells,hp',hw,hpsi,hl',h0,h1,hr0⟩
      · rw [hbp] at hn';cases hn'
      cases hbp.symm.trans hp';have hold2:=o2 b cells hbp hw;by_cases hroom:n+ds.length<=cap0
      · have hfit:n * inf.size+news.length<=cells.size:=by
          rw [n1,hsz,<- Nat.add_mul,<- hpsi];exact Nat.le_trans (Nat.mul_le_mul_right _ hroom) hpsz
        have hr:=run_append_room (P:=P) w t o.type e inf hun hi b n cap0 cells hw ad ds.length cap news (by rw [n1,hsz]) n2 n3 hroom hfit;rw [<- hex,<- hey] at hr;have hfit':n * sz+news.length<=cells.size:=by rw [hsz] at hfit;exact hfit
        have hget:∀ m,m < n * sz+news.length->(cells.toList.take (n * inf.size)++news++cells.toList.drop (n * inf.size+news.length)).toArray[m]?=if m < n * sz then cells[m]? else news[m - n * sz]?:=by
          intro m hm;simp only [List.getElem?_toArray,List.getElem?_append,zQL,List.length_take,Array.length_toList,List.getElem?_take,Array.getElem?_toList,hsz];have hmin:min (n * sz) cells.size=n * sz:=by omega
          rw [hmin,if_pos hm];by_cases m1:m < n * sz
          · simp [m1]
          simp [m1]
        refine⟨_,_,aV ho hr,.inr (.inl ⟨b,cells,(cells.toList.take (n * inf.size)++news++cells.toList.drop (n * inf.size+news.length)).toArray,cap0,hbp,hw,hpsi,?_,by rw [hn],by omega,by rw [<- hpsi];exact hpsz,rfl,?_,hsizes,hones,?_⟩)⟩
        · simp only [List.size_toArray,zQL,List.length_take,List.length_drop,Array.length_toList,hsz]
          omega
        · simp only [List.size_toArray,zQL,List.length_take,List.length_drop,Array.length_toList,hsz]
          rw [hlap];rw [hn,n1] at hfit';rw [hn,n1];omega
        exact hcells (fun m => (cells.toList.take (n * inf.size) ++ news ++ cells.toList.drop (n * inf.size + news.length)).toArray[m]?) (fun m hm => by
            show (cells.toList.take (n * inf.size) ++ news ++ cells.toList.drop (n * inf.size + news.length)).toArray[m]? = _;rw [hget m (by rw [hn]; omega), if_pos (by rw [hn]; exact hm)];have hlt : m < olds.length := by rw [o1]; exact hm
            rw [zQR hlt]
            exact hold2 m _ (zQR hlt)) (fun m hm => by
            show (cells.toList.take (n * inf.size) ++ news ++ cells.toList.drop (n * inf.size + news.length)).toArray[_]? = _
            rw [hget _ (by rw [hn, n1]; omega), if_neg (by rw [hn]; omega)]; congr 1; rw [hn]; omega)
      have hr := run_append_grow (P := P) w t o.type e inf z hun hi hzero ⟨b, 0, none⟩ n cap0 olds (by rw [o1, hsz, hn]) (fun j v hv => by
          rw [dU, cell_of_row w b _ cells e (0, 0) hw]; simpa using hold2 j v hv) ad ds.length cap news (by rw [n1, hsz]) n2 (by omega) (by omega)
        (by rw [hby];exact growslice_fits (by omega) (by rw [hn];exact hlen))
      rw [<- hex,<- hey] at hr;refine⟨_,_,aV ho hr,.inr (.inr ⟨_,_,by rw [hn],by simpa [hn] using grownCap_ge w (es.length+ds.length) cap0 e,?_,rfl,?_⟩)⟩
      · rw [hn];exact (grown _ _ (by simpa using grownCap_ge w (es.length+ds.length) cap0 e) (by rw [hzsz])).1
      rw [hn];exact (grown _ _ (by simpa using grownCap_ge w (es.length+ds.length) cap0 e) (by rw [hzsz])).2
theorem Sim.kill (h:Sim C st g a w) (i:Nat):Sim C ⟨st.fr,st.hp.set i .dead⟩ g a w:=by
  refine { h with hp:=λj B hj=>?_,lt:=λj b hp=>?_,inj:=λj j' b Bj Bj' h1 h2 d1 d2 p1 p2=>?_,kle:=by simpa using h.kle }
  · rw [List.getElem?_set] at hj
    split at hj
    · split at hj
      · cases hj;trivial
      cases hj
    exact h.hp j B hj
  · have:=h.lt j b hp;simpa using this
  simp only [List.getElem?_set] at h1 h2;split at h1
  · split at h1<;>cases h1;exact absurd rfl d1
  split at h2
  · split at h2<;>cases h2;exact absurd rfl d2
  exact h.inj j j' b Bj Bj' h1 h2 d1 d2 p1 p2
theorem Sim.dup (h:Sim C st g a w) {i N:Nat} {B:Blk} (hik:C.k<=i) (hi:st.hp[i]?=some B) (hd:B≠.dead) (hN:st.hp[N]?=some .hole) (hB:∀ g':Gh,g'.phi N=g.phi i->g'.psi N=g.psi i->g'.X=g.X->BRep w g i B->BRep w g' N B) (hne:i≠N):
    ∃ g',Sim C ⟨st.fr,(st.hp.set i .dead).set N B⟩ g' a w/\Grow w g w g'/\g'.phi N=g.phi i/\g'.psi N=g.psi i/\g'.X=g.X:=by
  have hno:g.phi N=none:=h.hp N _ hN;have hNl:N < st.hp.length:=(zQQ.1 hN).1
  let g':Gh:={ phi:=upd g.phi N (g.phi i),psi:=upd g.psi N (g.psi i),X:=g.X }
  have hphi:∀ j b,g'.phi j=some b->(j=N/\g.phi i=some b)\/(j≠N/\g.phi j=some b):=by
    intro j b hp;by_cases hj:j=N
    · subst hj;exact .inl ⟨rfl,by simpa [g',upd] using hp⟩
    exact .inr ⟨hj,by simpa [g',upd,hj] using hp⟩
  have hg:Grow w g w g':=by
    refine⟨λj b hp=>?_,λj b hp=>?_,λ_ h=>h,λ_ _=>rfl⟩
    · have hj : j ≠ N := fun e => by subst e; rw [hno] at hp; cases hp
      simpa [g',upd,hj] using hp
    have hj : j ≠ N := fun e => by subst e; rw [hno] at hp; cases hp
    simp [g',upd,hj]
  refine⟨g',{ h with fr:=λt=>(h.fr t).mono hg,hp:=λj Bj hj=>?_,lt:=λj b hp=>?_,inj:=λj j' b Bj Bj' h1 h2 d1 d2 p1 p2=>?_,own:=λj b hp hb=>?_,stay:=λj b hj hm hp=>?_,kle:=by simpa using h.kle },hg,by simp [g',upd],by simp [g',upd],rfl⟩
  · rw [List.getElem?_set] at hj
    split at hj
    · rename_i e;subst e
      split at hj
      · cases hj;exact hB g' (by simp [g',upd]) (by simp [g',upd]) rfl (h.hp i B hi)
      cases hj
    rename_i hjN;rw [List.getElem?_set] at hj;split at hj
    · split at hj
      · cases hj;trivial
      cases hj
    refine (h.hp j Bj hj).mono hg (fun hn => ?_) (fun _ _ => rfl);simpa [g',upd,show j≠N from λe=>hjN e.symm] using hn
  · simp only [List.length_set]
    rcases hphi j b hp with ⟨rfl,hp'⟩|⟨_,hp'⟩
    · have:=h.lt i b hp';exact⟨this.1,hNl,this.2.2⟩
    exact h.lt j b hp'
  · have key:∀ (j:Nat) (Bj:Blk),((st.hp.set i .dead).set N B)[j]?=some Bj->Bj≠.dead->j≠N->st.hp[j]?=some Bj/\j≠i:=by
      intro j Bj hj hdj hjN;rw [List.getElem?_set,if_neg (λe=>hjN e.symm),List.getElem?_set] at hj;split at hj
      · split at hj<;>cases hj;exact absurd rfl hdj
      exact⟨hj,λe=>‹¬ i=j› e.symm⟩
    rcases hphi j b p1 with ⟨rfl,q1⟩|⟨n1,q1⟩<;>rcases hphi j' b p2 with ⟨rfl,q2⟩|⟨n2,q2⟩
    · rfl
    · obtain⟨k1,k2⟩:=key j' Bj' h2 d2 n2
      exact absurd (h.inj j' i b Bj' B k1 hi d2 hd q2 q1) k2
    · obtain⟨k1,k2⟩:=key j Bj h1 d1 n1
      exact absurd (h.inj j i b Bj B k1 hi d1 hd q1 q2) k2
    exact h.inj j j' b Bj Bj' (key j Bj h1 d1 n1).1 (key j' Bj' h2 d2 n2).1 d1 d2 q1 q2
  · rcases hphi j b hp with ⟨rfl,hp'⟩|⟨_,hp'⟩
    · have:=(h.own i b hp' hb).1;omega
    exact h.own j b hp' hb
  have hst:=h.stay j b hj hm hp;have hjN:j≠N:=λe=>by subst e;rw [hno] at hst;cases hst.2
  simpa [g',upd,hjN] using hst
theorem SrcA.le {hp hp':List Blk} (hle:HpLe hp hp') {sz:Nat} {ds:List D} {u:AV} (h:SrcA hp sz ds u):SrcA hp' sz ds u:=by
  cases u with
  | d x=>cases x<;>exact h
  | msl id s off len=>obtain⟨h0,ty,es,h1,h2⟩:=h;exact⟨h0,ty,es,hle _ _ h1 (λe=>by cases e),h2⟩
  | _=>exact h.elim
theorem w_appD {α:Type} {f:α->D} {T:Tab} {o:Oper} {ev:Operand->AV} {hp:List Blk} {t e sz by' n i N:Nat} {x y:Operand} {u:AV} {z:Value} {xs:List α} (ys:List α) (hik:Nat.ble C.k i=true) (hN:hp[N]?=some .hole) (ho:o.op=.call { callee:=.builtin .append,args:=#[x,y],argTypes:=#[t,t] })
    (hT:TabOk C.P T) (hl:lk T.sel t=some (e,sz,by')) (hz:(C.P.info? e).bind (·.zero)=some z) (hzs:Nat.beq z.cells.size sz=true) (hby:Nat.ble by' 100000=true) (hx:ev x=.msl i sz 0 n) (hb:hp[i]?=some (.flat e sz (xs.map f))) (hn:n=xs.length)
    (hy:ev y=u) (hu:SrcA hp sz (ys.map f) u) (hg:(xs++ys).length<=1000000000):DOk C o ev hp (.msl N sz 0 (xs++ys).length) [(i,.dead),(N,.flat e sz ((xs++ys).map f))]:=
  DOk.mk λst hhp hag g a w hs=>by
    have hb':=hhp i _ hb (λe=>by cases e);have hN':=zL hN hhp;have hne:i≠N:=λe=>by rw [e,hN'] at hb';cases hb'
    have hvx:=hs.ev x;rw [hag x (by simp [ho,Op.operands,Call.operands]),hx] at hvx;have hvy:=hs.ev y;rw [hag y (by simp [ho,Op.operands,Call.operands]),hy] at hvy;have hsrc:=wJ hs hvy (hu.le hhp);have h1:=Nat.le_of_ble_eq_true hby;have h3:(xs++ys).length * by'<=1000000000 * 100000:=Nat.mul_le_mul hg h1
    rw [zQL] at h3 hg;obtain⟨v,w',hr,hc⟩:=sE (P:=C.P) i sz by' n (xs.map f) (ys.map f) z ho (hT.sel hl) hz (Nat.eq_of_beq_eq_true hzs) hvx (hs.hp i _ hb') (by simpa using hn) hsrc (by simp;omega) (by simp;omega)
    have hwr:wr [(i,.dead),(N,.flat e sz ((xs++ys).map f))] st.hp=(st.hp.set i .dead).set N (.flat e sz ((xs++ys).map f)):=rfl;rw [hwr,List.map_append]
    have dupB:∀ (es:List D) (g':Gh),g'.phi N=g.phi i->g'.psi N=g.psi i->g'.X=g.X->BRep w g i (.flat e sz es)->BRep w g' N (.flat e sz es):=by
      intro es g' e1 e2 e3 hB;unfold BRep at hB ⊢;simp only [e1,e2,e3];exact hB
    rcases hc with ⟨hds,rfl,rfl⟩|⟨b,cells,cells',cap,hp0,hw,hpsi,hcs,rfl,hcap,hcapsz,rfl,row⟩|⟨cells',cap,rfl,hcap,hcapsz,rfl,row⟩
    · obtain ⟨g', h2, h4, e1, e2, e3⟩ := hs.dup (Nat.le_of_ble_eq_true hik) hb' (fun e => by cases e) hN' (dupB _) hne
      refine⟨_,_,g',hr,by rw [hds,List.append_nil];exact h2,?_⟩;have hys:ys.length=0:=by have:=congrArg List.length hds;simpa using this
      rw [zQL,hys,Nat.add_zero,<- hn];generalize a.eval x=vx at hvx
      cases hvx with
      | msl0=>exact .msl0 _ _ _ _
      | msl _ _ _ _ cap b q1 q2 q3=>exact .msl _ _ _ _ cap b (by rw [e1];exact q1) q2 (by rw [e2];exact q3)
    · obtain ⟨g', h2, h4, e1, e2, e3⟩ := hs.dup (Nat.le_of_ble_eq_true hik) hb' (fun e => by cases e) hN' (dupB _) hne
      have hX:∀ b',g.X b'->b'≠b:=λb' hX e=>(hs.lt i b hp0).2.2 (e ▸ hX);have hNl:N < st.hp.length:=(zQQ.1 hN').1
      have hch := h2.change (i := N) (b := b) (B0 := .flat e sz (xs.map f)) (by simp [hNl]) (fun e => by cases e) (by rw [e1]; exact hp0) (w' := w.setRow b cells') (dZ _ _ _) rfl rfl rfl (zQW _) (fun b' hb' => setRow_other w b b' _ hb')
        (B:=.flat e sz (xs.map f++ys.map f)) (.inr ⟨b,cells',by rw [e1];exact hp0,setRow_heap w b cells _ e (0,0) hw,by rw [e2,hpsi,hcs],row.le,row.h0,row.h1,λk d j c hk hc=>?_⟩)
      · refine ⟨_, _, g', hr, by simpa [List.set_set] using hch, ?_⟩
        have:=ARep.msl (w:=w.setRow b cells') (g:=g') N sz 0 ((xs.map f).length+(ys.map f).length) cap b (by rw [e1];exact hp0) hcap (by rw [e2,hpsi,Nat.zero_add];exact hcapsz);simpa using this
      obtain⟨v,hv,hd⟩:=row.rep k d j c hk hc;exact⟨v,hv,hd.mono (by rw [e3];exact λ_ h=>h) λb' hb'=>setRow_other w b b' _ (hX b' (e3 ▸ hb'))⟩
    have hk:=(hs.kill i).drew;have hN2:(st.hp.set i .dead)[N]?=some .hole:=by rw [List.getElem?_set,if_neg hne];exact hN'
    have hno:g.phi N=none:=hs.hp N _ hN';have hf:=hk.fill (i:=N) (o:=.cells cells' e) (n:=cells'.size) (B:=.flat e sz (xs.map f++ys.map f)) hN2 (.inr ⟨w.heap.size,cells',by simp [Gh.new,upd],heap_alloc_new w.drew _,by simp [Gh.new,upd],row.le,row.h0,row.h1,λk d j c hk hc=>?_⟩)
    · refine⟨_,_,_,hr,hf,?_⟩
      have:=ARep.msl (w:=w.drew.alloc (.cells cells' e)) (g:=g.new N w.heap.size cells'.size) N sz 0 ((xs.map f).length+(ys.map f).length) cap w.heap.size (by simp [Gh.new,upd]) hcap (by simp only [Gh.new,upd,if_true,Nat.zero_add];exact hcapsz);simpa using this
    obtain⟨v,hv,hd⟩:=row.rep k d j c hk hc;exact⟨v,hv,hd.mono (λ_ h=>h) λb' hb'=>aS w.drew _ b' (hs.Xlt b' hb')⟩
section ends
theorem EndsS.cellR {P:Program} {st:St} {a t id off s:Nat} {ty:TypeId} {cs:List AV} {T:Tab} (x:AV) {d:D} (hT:TabOk P T) (hl:lk T.lay t=some (true,s)) (ha:st.fr.get a=.mptr id 0 0 off) (hb:st.hp[id]?=some (.box ty cs)) (hc:Nat.ble (off+s) cs.length=true) (hv:gO ((cs.drop off).take s)=x) (hs:Snap st.hp x d):EndsS P [.cell a t] d st:=
  EndsS.cell x (hT.lay hl) ha hb hc hv hs
end ends
def ltM {α:Type} (m:α->α->Option Int) (x y:α):Bool:=decide ((m x y).getD 0 < 0)
structure SortOk {α:Type} (m:α->α->Option Int):Prop where
  tot:∀ x y,∃ r,m x y=some r
  irrefl:∀ x,ltM m x x=false
  trans:∀ x y z,ltM m x y=true->ltM m y z=true->ltM m x z=true
  ntrans:∀ x y z,ltM m x y=false->ltM m y z=false->ltM m x z=false
  anti:∀ x y,ltM m x y=false->ltM m y x=false->x=y
section sort
variable {α:Type} {m:α->α->Option Int}
end sort
theorem wL {α:Type} {l:List α} {i:Nat} {x:α} (h:l[i]?=some x):l.set i x=l:=by
  apply List.ext_getElem?;intro j;by_cases e:i=j
  · subst e;rw [List.getElem?_set_self (zQQ.1 h).1,h]
  rw [List.getElem?_set_ne e]
theorem s_eqB {C:Ctx} {fr:Fr} {hp:List Blk} {ops:Array Oper} {l:List Oper} {K:St->Prop} (i:Nat) {t:TypeId} {cs:List AV} (cs':List AV) (hb:hp[i]?=some (.box t cs)) (he:cs=cs') (h:aH C ops l ⟨fr,hp.set i (.box t cs')⟩ K):aH C ops l ⟨fr,hp⟩ K:=by
  subst he;rwa [wL hb] at h
theorem Sim.handedM (hs:Sim C st g a w) {ids:List Nat} (hnd:ids.Nodup) (mv:Nat->Bool):Out ⟨C.P,0,w,(jN ids st.hp).length,g.canon ids,mv⟩ (jN ids st.hp) (g.canon ids) w:=by
  have h:=hs.handed hnd;exact { h with keep:=h.keep,own:=h.own,stay:=λi b hi _ hp=>h.stay i b hi rfl hp,kle:=h.kle }
def kI:AV->Option (FuncId×List AV)
  | .d (.fn F)=>some (F,[])
  | .d (.clo F cs)=>some (F,cs.map .d)
  | .fnc F cs=>some (F,cs)
  | _=>none
theorem qL {x:AV} {F:FuncId} {cs:List AV} {v:Value} (h:ARep w g x v) (hc:kI x=some (F,cs)):∃ vs:Array Value,v=.func (.func F) #[] vs/\Pw (ARep w g) cs vs.toList:=by
  cases h with
  | d d v hd=>
    cases hd with
    | fn f=>cases hc;exact⟨#[],rfl,rfl,λi c v h=>by simp at h⟩
    | clo f ds vs hl h=>
      cases hc;refine⟨vs,rfl,by simpa using hl,λi c v hci hvi=>?_⟩;simp only [zQP,zQO] at hci;obtain⟨d,hd,rfl⟩:=hci;exact .d _ _ (h i d v hd (by simpa using hvi))
    | _=>cases hc
  | fnc f cs vs hl h=>cases hc;exact⟨vs,rfl,by simpa using hl,λi c v hci hvi=>h i c v hci (by simpa using hvi)⟩
  | _=>cases hc
theorem xA {o:Oper} {K:St->Prop} {f:Operand} {xs:Array Operand} {ts:Array TypeId} {F:FuncId} {c:AV} {cs:List AV} (ids:List Nat) (mv:Nat->Bool) (args:List AV) (r:AV) (hp':List Blk) (ho:o.op=.call { callee:=.value f,args:=xs,argTypes:=ts }) (hd:fU C.n o.dst=true)
    (hf:st.fr.ev f=c) (hc:kI c=some (F,cs)) (hnd:ids.Nodup) (hal:(ids.all λj=>aI st.hp j)=true) (hmv:((List.range C.k).all λj=>!mvd ids mv j||C.mv j)=true) (hx:((xs.toList.map st.fr.ev)++cs).map (AV.mapRef (toName (aE ids)))=args) (hret:Ret C.P F (jN ids st.hp) mv args r hp')
    (hK:K (St.put ⟨Fr.mapRef (bV (mvd ids mv)) st.fr,gG ids (st.hp.map (Blk.mapRef (bV (mvd ids mv)))) hp'⟩ o.dst (r.mapRef (fwd ids st.hp.length)))):OpOk C o st K:=by
  intro g a w Q hs;have hfv:=hs.ev f;rw [hf] at hfv;obtain⟨vs,hv,hvs⟩:=qL hfv hc
  have hf':∀ i j,aE ids i=some j->(g.canon ids).phi j=g.phi i/\(g.canon ids).psi j=g.psi i:=by
    intro i j hij;have:=aM ids i j hij;simp [Gh.canon,this]
  have hargs:Pw (ARep w (g.canon ids)) args (xs.map a.eval++vs).toList:=by
    rw [<- hx,Array.toList_append,List.map_append];refine Pw.append ⟨by simp,λi x v hxi hvi=>?_⟩ ⟨by simpa using hvs.1,λi x v hxi hvi=>?_⟩
    · simp only [List.map_map,zQP,zQO] at hxi
      simp only [Array.toList_map,zQP,zQO] at hvi;obtain⟨y,hy,rfl⟩:=hxi;obtain⟨z,hz,rfl⟩:=hvi;rw [hy] at hz;cases hz;exact ARep.mapRef (w:=w) (g:=g) (g':=g.canon ids) (λd v hd=>hd) (ARep.toName hf' λ_ hb=>hb) (hs.ev y)
    simp only [zQP,zQO] at hxi;obtain⟨d,hd',rfl⟩:=hxi;exact ARep.mapRef (w:=w) (g:=g) (g':=g.canon ids) (λd v hd=>hd) (ARep.toName hf' λ_ hb=>hb) (hvs.2 i d v hd' hvi)
  have hal':∀ j∈ids,aI st.hp j=true:=λj hj=>zQT.1 hal j hj;have hlt:∀ j∈ids,j < st.hp.length:=λj hj=>by obtain⟨B,hB,_⟩:=dC (hal' j hj);exact (zQQ.1 hB).1
  have hmv':∀ j,j < C.k->mvd ids mv j=true->C.mv j=true:=λj hj hm=>by
    have:=zQT.1 hmv j (List.mem_range.2 hj);simpa [hm] using this
  simp only [Oper.wp,cG ho hv hret.1,Oper.upon_enter];refine (hret.2 w (g.canon ids) _ (hs.handedM hnd mv) hargs).mono ?_;rintro e w' ⟨v,g',rfl,hout,hr⟩;refine⟨_,_,hK,(hs.backM mv hnd hal' hmv' hout).put' hd ?_⟩;refine ARep.mapRef (w:=w') (g:=g') (λd v hd=>hd.mono (λb hb=>?_) λ_ _=>rfl) (λx v hx hr=>hx.fwd hnd hlt hr) hr;by_cases hlt':b < w.heap.size
  · exact .inl (hout.Xold b hb hlt')
  exact .inr ⟨by omega,hb⟩
section
variable {ops:Array Oper} {l:List Oper} {K:St->Prop} {fr:Fr} {hp:List Blk} {d:Nat} {ty:TypeId} {pos:String} {after:Array Edge}
theorem cP {f : Operand} {xs : Array Operand} {ts : Array TypeId} {F : FuncId} {c : AV} {cs : List AV} (ids : List Nat) (mv : Nat -> Bool) {args : List AV} {r r' : AV} {fr2 : Fr} {hh hp' hp2 : List Blk} (hd : decide (d < C.n) = true) (hf : fr.ev f = c) (hc : kI c = some (F, cs)) (hnd : ids.Nodup) (hal : (ids.all fun j => aI hp j) = true)
    (hmv:((List.range C.k).all λj=>!mvd ids mv j||C.mv j)=true) (hx:((xs.toList.map fr.ev)++cs).map (AV.mapRef (toName (aE ids)))=args) (hhd:jN ids hp=hh) (hret:Ret C.P F hh mv args r hp') (hr:r.mapRef (fwd ids hp.length)=r') (hfr:Fr.mapRef (bV (mvd ids mv)) fr=fr2) (hb:gG ids (hp.map (Blk.mapRef (bV (mvd ids mv)))) hp'=hp2)
    (h:aH C ops l ⟨(d,r') :: fr2,hp2⟩ K):aH C ops (⟨some d,.call { callee:=.value f,args:=xs,argTypes:=ts },ty,pos,after,none⟩ :: l) ⟨fr,hp⟩ K:=by
  subst hr hb hhd hfr;exact bS rfl (xA ids mv args r hp' rfl hd hf hc hnd hal hmv hx hret h)
end
end Go.TL
