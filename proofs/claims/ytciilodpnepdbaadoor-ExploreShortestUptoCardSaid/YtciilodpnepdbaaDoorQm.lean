/- Texts of this proof, joined, without what it does not use. No condition. -/
import Derived.Lib.AppendZeros
import Derived.Test.YtciilodpnepdbaaDoorQl

set_option linter.unusedVariables false
set_option linter.unusedSimpArgs false
namespace Go.TL
variable {C:Ctx} {st:St} {g:Gh} {a:Act} {w:World} {P:Program} {o:Oper} {K:St->Prop} {ev:Operand->AV} {hp:List Blk}
section steps
variable {ops:Array Oper} {l:List Oper} {fr:Fr} {d:Nat} {ty:TypeId} {pos:String} {after:Array Edge} {t tn e:TypeId} {x y:Operand} {sz by' n:Nat} {z:Value} {k kn:IntKind}
end steps
section rds
variable {t e:TypeId} {x:Operand} {sz by':Nat}
end rds
def lk {α:Type}:List (Nat×α)->Nat->Option α
  | [],_=>none
  | (k,a) :: r,t=>match Nat.beq k t with
    | true=>some a
    | false=>lk r t
theorem mN {α:Type}:∀ {l:List (Nat×α)} {t:Nat} {a:α},lk l t=some a->(t,a)∈l
  | [],_,_,h=>by cases h
  | (k,b) :: r,t,a,h=>by
    simp only [lk] at h;split at h
    · rename_i e;cases h;rw [Nat.eq_of_beq_eq_true e];simp
    exact List.mem_cons_of_mem _ (mN h)
structure Tab where
  lay:List (Nat×Bool×Nat)
  fs:List (Nat×List (Nat×Bool×Nat))
  sel:List (Nat×Nat×Nat×Nat)
  str:List (Nat×Unit)
  boo:List (Nat×Unit)
  con:List (Nat×Unit)
structure TabOk (P:Program) (T:Tab):Prop where
  lay:∀ {t:Nat} {x:Bool×Nat},lk T.lay t=some x->lay P t=some x
  fs:∀ {t:Nat} {l:List (Nat×Bool×Nat)} {f:Nat} {x:Nat×Bool×Nat},lk T.fs t=some l->l[f]?=some x->fld P t f=some x.1/\yN P t f=some x
  sel:∀ {t:Nat} {x:Nat×Nat×Nat},lk T.sel t=some x->sel P t=some x
  str:∀ {t:Nat} {x:Unit},lk T.str t=some x->P.underlying t=some .string
  boo:∀ {t:Nat} {x:Unit},lk T.boo t=some x->P.underlying t=some .bool
  con:∀ {t:Nat} {x:Unit},lk T.con t=some x->oN P t=true
def qJD (P:Program) (t:Nat):Bool:=match P.underlying t with
  | some .string=>true
  | _=>false
def qJE (P:Program) (t:Nat):Bool:=match P.underlying t with
  | some .bool=>true
  | _=>false
def tabB (P:Program) (T:Tab):Bool:=
  T.lay.all (λe=>lay P e.1 == some e.2)&&T.fs.all (λe=>e.2.zipIdx.all λx=>fld P e.1 x.2 == some x.1.1&&yN P e.1 x.2 == some x.1)&&T.sel.all (λe=>sel P e.1 == some e.2)&&
  T.str.all (λe=>qJD P e.1)&&T.boo.all (λe=>qJE P e.1)&&T.con.all (λe=>oN P e.1)
theorem qGW {P:Program} {T:Tab} (h:tabB P T=true):TabOk P T:=by
  simp only [tabB,Bool.and_eq_true,List.all_eq_true] at h;obtain⟨⟨⟨⟨⟨h1,h2⟩,h3⟩,h4⟩,h5⟩,h6⟩:=h;refine⟨λhl=>?_,fun {t l f x} hl hf=>?_,λhl=>?_,λhl=>?_,λhl=>?_,λhl=>?_⟩
  · simpa using h1 _ (mN hl)
  · have := h2 _ (mN hl) (x, f) (by rw [List.mem_zipIdx_iff_getElem?]; simpa using hf)
    simpa using this
  · simpa using h3 _ (mN hl)
  · have:=h4 _ (mN hl)
    simp only [qJD] at this;split at this
    · assumption
    cases this
  · have:=h5 _ (mN hl)
    simp only [qJE] at this;split at this
    · assumption
    cases this
  exact h6 _ (mN hl)
def nf:AV->Option AV
  | .d d=>some (.d d)
  | .msl i s o l=>some (.msl i s o l)
  | .mptr i s x o=>some (.mptr i s x o)
  | .mmap i=>some (.mmap i)
  | .yld i=>some (.yld i)
  | .mmapN i n=>some (.mmapN i n)
  | .agg cs=>some (.agg cs)
  | .tup vs=>some (.tup vs)
  | .fnc f c=>some (.fnc f c)
  | .ifc t v=>some (.ifc t v)
  | _=>none
theorem jS {v u:AV} (h:nf v=some u):v=u:=by cases v<;>first|(simp only [nf,Option.some.injEq] at h;exact h)|cases h
def kQ (fr:Fr):List Nat->Option Fr
  | []=>some []
  | k :: ks=>match nf (fr.get k) with
    | some v=>match kQ fr ks with
      | some r=>some ((k,v) :: r)
      | none=>none
    | none=>none
theorem lF {fr:Fr}:∀ {ks:List Nat} {r:Fr},kQ fr ks=some r->SubK fr ks r
  | [],r,h=>by cases h;exact .nil
  | k :: ks,r,h=>by
    simp only [kQ] at h;split at h
    · rename_i v hv
      split at h
      · rename_i r' hr;cases h;exact .cons k v ks r' (jS hv) (lF hr)
      cases h
    cases h
def zS:List AV->Option (List AV)
  | []=>some []
  | c :: r=>match nf c with
    | some v=>match zS r with
      | some r'=>some (v :: r')
      | none=>none
    | none=>none
theorem wI:∀ {cs ds:List AV},zS cs=some ds->cs=ds
  | [],_,h=>by cases h;rfl
  | c :: r,ds,h=>by
    simp only [zS] at h;split at h
    · rename_i v hv
      split at h
      · rename_i r' hr;cases h;rw [jS hv,wI hr]
      cases h
    cases h
def qV:List Blk->Option (List Blk)
  | []=>some []
  | b :: r=>match qV r with
    | some r'=>match b with
      | .dead=>some (.dead :: r')
      | .hole=>some (.hole :: r')
      | .flat t s es=>some (.flat t s es :: r')
      | .map k v es=>some (.map k v es :: r')
      | .ob o=>some (.ob o :: r')
      | .lp s pd ps a b n fr=>some (.lp s pd ps a b n fr :: r')
      | .box t cs=>match zS cs with
        | some cs'=>some (.box t cs' :: r')
        | none=>none
    | none=>none
theorem qU:∀ {hp hp':List Blk},qV hp=some hp'->hp=hp'
  | [],_,h=>by cases h;rfl
  | b :: r,hp',h=>by
    simp only [qV] at h;split at h
    · rename_i r' hr
      have e:=qU hr
      cases b with
      | box t cs=>
        simp only at h;split at h
        · rename_i cs' hc;cases h;rw [wI hc,e]
        cases h
      | _=>simp only [Option.some.injEq] at h;rw [<- h,e]
    cases h
theorem WN {C:Ctx} {c:Code} {Q:Exit->St->Prop} {fr fr':Fr} {hp hp':List Blk} (ks:List Nat) (h1:kQ fr ks=some fr') (h2:qV hp=some hp') (h:TWp C c ⟨fr',hp'⟩ Q):TWp C c ⟨fr,hp⟩ Q:=
  qDB ks (lF h1) (qU h2) h
def mE (agg:Bool) (s:Nat) (hp:List Blk):AV->Option AV
  | .d (.ptr e off)=>match agg with
    | false=>match e.cells[off]? with
      | some d=>some (.d d)
      | none=>none
    | true=>match Nat.beq off 0,Nat.beq e.cells.length s,e.one with
      | true,true,false=>some (.d e)
      | _,_,_=>match Nat.ble (off+s) e.cells.length with
        | true=>some (.d (e.part off s))
        | false=>none
  | .mptr id s' i off=>match Nat.beq s' 0,Nat.beq i 0 with
    | true,true=>match hp[id]? with
      | some (.box _ cs)=>match agg with
        | false=>match cs[off]? with
          | some c=>nf c
          | none=>none
        | true=>match Nat.ble (off+s) cs.length with
          | true=>nf (jT ((cs.drop off).take s))
          | false=>none
      | _=>none
    | _,_=>none
  | _=>none
def yO (fo:Nat) (agg:Bool) (n:Nat) (u:AV):Option AV:=
  match u.isAgg with
  | true=>match agg with
    | false=>match u.cells[fo]? with
      | some c=>nf c
      | none=>none
    | true=>match Nat.ble (fo+n) u.cells.length with
      | true=>nf (jT ((u.cells.drop fo).take n))
      | false=>none
  | false=>none
def rN (op:BinOp) (isB:Option Unit):AV->AV->Option AV
  | .d (.int k m),.d (.int k' n)=>match decide (k=k') with
    | true=>match yX op m n with
      | some b=>some (.d (.bool b))
      | none=>none
    | false=>none
  | .d (.str p),.d (.str q)=>match yW op (decide (p=q)) with
    | some b=>some (.d (.bool b))
    | none=>none
  | .d (.bool p),.d (.bool q)=>match isB with
    | some _=>match uW op p q with
      | some b=>some (.d (.bool b))
      | none=>none
    | none=>none
  | _,_=>none
def zQ:AV->AV->AV->Option AV
  | .d (.bool b),u,v=>match b with
    | true=>nf u
    | false=>nf v
  | _,_,_=>none
def rdE (T:Tab) (op:Op) (ev:Operand->AV) (hp:List Blk):Option AV:=
  match op with
  | .move x=>nf (ev x)
  | .assign x=>nf (ev x)
  | .load t x=>match lk T.lay t with
    | some (b,s)=>mE b s hp (ev x)
    | none=>none
  | .fieldAddr s x f=>match lk T.fs s with
    | some l=>match l[f]? with
      | some (fo,_,_)=>match ev x with
        | .d (.ptr e off)=>some (.d (.ptr e (off+fo)))
        | .mptr id sz i off=>some (.mptr id sz i (off+fo))
        | _=>none
      | none=>none
    | none=>none
  | .field s x f=>match lk T.fs s with
    | some l=>match l[f]? with
      | some (fo,b,n)=>yO fo b n (ev x)
      | none=>none
    | none=>none
  | .binOp op t x y _=>rN op (lk T.boo t) (ev x) (ev y)
  | .unOp .not _ x=>match ev x with
    | .d (.bool b)=>some (.d (.bool (!b)))
    | _=>none
  | .pick c x y=>zQ (ev c) (ev x) (ev y)
  | .extract x i=>match ev x with
    | .tup vs=>match vs[i]? with
      | some v=>nf v
      | none=>none
    | _=>none
  | .nilCheck x=>match (ev x).notNil with
    | true=>nf (ev x)
    | false=>none
  | .call { callee:=.builtin .len,args:=⟨[x]⟩,argTypes:=⟨[t]⟩ }=>match ev x with
    | .d (.str s)=>match lk T.str t with
      | some _=>some (.d (.int .i64 s.size))
      | none=>none
    | .msl _ _ _ n=>match lk T.sel t with
      | some _=>some (.d (.int .i64 n))
      | none=>none
    | _=>none
  | .makeInterface t x=>match lk T.con t with
    | some _=>match ev x with
      | .d d=>some (.d (.iface t d))
      | _=>none
    | none=>none
  | .typeAssert x _ t true=>match lk T.con t with
    | some _=>match ev x with
      | .d (.iface t' d)=>match Nat.beq t' t with
        | true=>some (.tup [.d d,.d (.bool true)])
        | false=>none
      | _=>none
    | none=>none
  | .makeFunc (.func F) ⟨[]⟩ caps=>match evD (caps.toList.map ev) with
    | some ds=>some (.d (.clo F ds))
    | none=>none
  | _=>none
section rd
variable {C:Ctx} {T:Tab} {o:Oper} {ev:Operand->AV} {hp:List Blk} {v:AV}
theorem qEU {t:TypeId} {x:Operand} {b:Bool} {s:Nat} (ho:o.op=.load t x) (hl:lay C.P t=some (b,s)) (h:mE b s hp (ev x)=some v):RdOk C o ev hp v:=by
  cases hx:ev x with
  | d d=>
    rw [hx] at h
    cases d with
    | ptr e off=>
      cases b with
      | false=>
        simp only [mE] at h;split at h
        · rename_i d hd;cases h;exact wC e d off s ho hl hx hd
        cases h
      | true=>
        simp only [mE] at h;split at h
        · rename_i h1 h2 h3
          cases h;have h1:=Nat.eq_of_beq_eq_true h1;subst h1;exact qBQ ho hl hx (Nat.eq_of_beq_eq_true h2) h3
        split at h
        · rename_i hb;cases h;exact kM e off s ho hl hx (Nat.le_of_ble_eq_true hb)
        cases h
    | _=>simp [mE] at h
  | mptr id s' i off=>
    rw [hx] at h;simp only [mE] at h;split at h
    · rename_i h1 h2
      have h1:=Nat.eq_of_beq_eq_true h1;have h2:=Nat.eq_of_beq_eq_true h2;subst h1 h2;split at h
      · rename_i bt cs hb
        cases b with
        | false=>
          simp only at h;split at h
          · rename_i c hc;rw [<- jS h];exact wD id off s cs c ho hl hx hb hc
          cases h
        | true=>
          simp only at h;split at h
          · rename_i hc;rw [<- jS h];exact qP id off s cs ho hl hx hb (Nat.le_of_ble_eq_true hc)
          cases h
      cases h
    cases h
  | _=>rw [hx] at h;simp [mE] at h
theorem qCA {s:TypeId} {x:Operand} {f fo n:Nat} {b:Bool} (ho:o.op=.field s x f) (hf:yN C.P s f=some (fo,b,n)) (h:yO fo b n (ev x)=some v):RdOk C o ev hp v:=by
  simp only [yO] at h;split at h
  · rename_i ha
    cases b with
    | false=>
      simp only at h;split at h
      · rename_i c hc;rw [<- jS h];exact qBD ho hf rfl ha hc
      cases h
    | true=>
      simp only at h;split at h
      · rename_i hc;exact xZ ho hf rfl ha hc (jS h)
      cases h
  cases h
theorem qIG {op:BinOp} {t t':TypeId} {x y:Operand} {u:Option Unit} (hu:∀ z,u=some z->C.P.underlying t=some .bool) (ho:o.op=.binOp op t x y t') (h:rN op u (ev x) (ev y)=some v):RdOk C o ev hp v:=by
  cases hx:ev x with
  | d d=>
    rw [hx] at h
    cases hy:ev y with
    | d e=>
      rw [hy] at h
      cases d with
      | int k m=>
        cases e with
        | int k' n=>
          simp only [rN] at h;split at h
          · rename_i hk
            have hk:=of_decide_eq_true hk;subst hk;split at h
            · rename_i b hb;cases h;exact rd_cmp k m n b ho hx hy hb
            cases h
          cases h
        | _=>simp [rN] at h
      | str p=>
        cases e with
        | str q=>
          simp only [rN] at h;split at h
          · rename_i b hb;cases h;exact qIF ho hx hy hb
          cases h
        | _=>simp [rN] at h
      | bool p=>
        cases e with
        | bool q=>
          simp only [rN] at h;split at h
          · rename_i z
            split at h
            · rename_i b hb;cases h;exact qFS (hu _ rfl) ho hx hy hb
            cases h
          cases h
        | _=>simp [rN] at h
      | _=>simp [rN] at h
    | _=>rw [hy] at h;simp [rN] at h
  | _=>rw [hx] at h;simp [rN] at h
theorem qEG {c x y:Operand} (ho:o.op=.pick c x y) (h:zQ (ev c) (ev x) (ev y)=some v):RdOk C o ev hp v:=by
  cases hc:ev c with
  | d d=>
    rw [hc] at h
    cases d with
    | bool b=>
      cases b with
      | true=>exact pick_T ho hc (jS h)
      | false=>exact pick_F ho hc (jS h)
    | _=>simp [zQ] at h
  | _=>rw [hc] at h;simp [zQ] at h
theorem qEC (hT:TabOk C.P T) (h:rdE T o.op ev hp=some v):RdOk C o ev hp v:=by
  unfold rdE at h;split at h
  · rename_i x ho;rw [<- jS h];exact tW (.inl ho)
  · rename_i x ho;rw [<- jS h];exact tW (.inr ho)
  · rename_i t x ho
    split at h
    · rename_i b s hl;exact qEU ho (hT.lay hl) h
    cases h
  · rename_i s x f ho
    split at h
    · rename_i l hl
      split at h
      · rename_i fo b n hf
        split at h
        · rename_i e off hx;cases h;exact oA e off fo ho (hT.fs hl hf).1 hx
        · rename_i id sz i off hx;cases h;exact nE id sz i off fo ho (hT.fs hl hf).1 hx
        cases h
      cases h
    cases h
  · rename_i s x f ho
    split at h
    · rename_i l hl
      split at h
      · rename_i fo b n hf;exact qCA ho (hT.fs hl hf).2 h
      cases h
    cases h
  · rename_i op t x y t' ho;exact qIG (λz hz=>hT.boo hz) ho h
  · rename_i t x ho
    split at h
    · rename_i b hx;cases h;exact not_b ho hx rfl
    cases h
  · rename_i c x y ho;exact qEG ho h
  · rename_i x i ho
    split at h
    · rename_i vs hx
      split at h
      · rename_i u hu;rw [<- jS h];exact yA vs u ho hx hu
      cases h
    cases h
  · rename_i x ho
    split at h
    · rename_i hn;rw [<- jS h];exact vY _ ho rfl hn
    cases h
  · rename_i x t ho
    split at h
    · rename_i s hx
      split at h
      · rename_i z hz;cases h;exact xY s ho (hT.str hz) hx
      cases h
    · rename_i i s f n hx
      split at h
      · rename_i z hz;cases h;obtain⟨e,sz,by'⟩:=z;exact sS _ sz by' n ho (hT.sel hz) hx rfl
      cases h
    cases h
  · rename_i t x ho
    split at h
    · rename_i z hz
      split at h
      · rename_i d hx;cases h;exact xX ho (hT.con hz) hx
      cases h
    cases h
  · rename_i x xt t ho
    split at h
    · rename_i z hz
      split at h
      · rename_i t' d hx
        split at h
        · rename_i he;cases h;have he:=Nat.eq_of_beq_eq_true he;subst he;exact nF ho (hT.con hz) hx
        cases h
      cases h
    cases h
  · rename_i F caps ho
    split at h
    · rename_i ds hx;cases h;exact tX ho hx
    cases h
  cases h
end rd
def onE (ops:Array Oper) (gd:Option (Nat×Bool)) (fr:Fr):Option Bool:=
  match gd with
  | none=>some true
  | some (i,want)=>match (ops[i]?).bind (·.dst) with
    | some t=>match fr.get t with
      | .d (.bool b)=>match b,want with
        | true,true=>some true
        | false,false=>some true
        | true,false=>some false
        | false,true=>some false
      | .und=>some false
      | _=>none
    | none=>none
def qDI (T:Tab) (t:TypeId) (hp:List Blk) (p v:AV):Option (List Blk):=
  match lk T.lay t with
  | some (_,s)=>match p with
    | .mptr id s' i off=>match Nat.beq s' 0,Nat.beq i 0 with
      | true,true=>match hp[id]? with
        | some (.box bt cs)=>match v.flat,Nat.beq v.cells.length s,Nat.ble (off+s) cs.length with
          | true,true,true=>some (hp.set id (.box bt (spl cs off v.cells)))
          | _,_,_=>none
        | _=>none
      | _,_=>none
    | _=>none
  | none=>none
def stE (T:Tab) (n:Nat) (ops:Array Oper) (o:Oper) (fr:Fr) (hp:List Blk):Option (Fr×List Blk):=
  match onE ops o.guard fr with
  | some true=>match o.dst with
    | some d=>match Nat.blt d n with
      | true=>match rdE T o.op fr.ev hp with
        | some v=>some ((d,v) :: fr,hp)
        | none=>none
      | false=>none
    | none=>match o.op with
      | .store t x y=>match qDI T t hp (fr.ev x) (fr.ev y) with
        | some hp'=>some (fr,hp')
        | none=>none
      | _=>none
  | some false=>match o.dst with
    | some d=>match Nat.blt d n with
      | true=>some ((d,.und) :: fr,hp)
      | false=>none
    | none=>none
  | none=>none
theorem pW {d n:Nat} (h:Nat.blt d n=true):decide (d < n)=true:=by simpa [Nat.blt_eq] using h
theorem yD {C:Ctx} {ops:Array Oper} {gd:Option (Nat×Bool)} {st:St} {g:Gh} {a:Act} {w:World} (hs:Sim C st g a w) {b:Bool} (h:onE ops gd st.fr=some b):gd=none/\b=true\/∃ i want,gd=some (i,want)/\((yielded ops a.tmps i=some want/\b=true)\/(yielded ops a.tmps i≠some want/\b=false)):=by
  unfold onE at h;split at h
  · cases h;exact .inl ⟨rfl,rfl⟩
  rename_i i want;right;refine⟨i,want,rfl,?_⟩;split at h
  · rename_i t ht
    split at h
    · rename_i c hc
      have hy:=lT hs ht hc;split at h<;>cases h<;>simp [hy]
    · rename_i hc
      cases h;have hy:=oQ hs ht hc;simp [hy]
    cases h
  cases h
theorem SA {C:Ctx} {T:Tab} {ops:Array Oper} {o:Oper} {l:List Oper} {K:St->Prop} {fr fr':Fr} {hp hp':List Blk} (hT:TabOk C.P T) (h:stE T C.n ops o fr hp=some (fr',hp')) (k:aM C ops l ⟨fr',hp'⟩ K):aM C ops (o :: l) ⟨fr,hp⟩ K:=by
  intro g a w hs;unfold stE at h;split at h
  · rename_i hon
    have hrun:OpOk C o ⟨fr,hp⟩ (λst''=>aM C ops l st'' K)->wpList C.P ops (QN C K) (o :: l) a w:=by
      intro hok;unfold wpList
      have hw:Region.wanted o (yielded ops a.tmps)=true:=by
        rcases yD hs hon with ⟨hg,_⟩|⟨i,want,hg,⟨hy,_⟩|⟨_,hc⟩⟩
        · simp [Region.wanted,hg]
        · simp [Region.wanted,hg,hy]
        cases hc
      rw [if_pos hw];exact .inl (Oper.wp_mono (λa w ⟨st',g',hK,hs'⟩=>hK g' a w hs') (hok g a w _ hs))
    split at h
    · rename_i d hd
      split at h
      · rename_i hlt
        split at h
        · rename_i v hv
          cases h;exact hrun ((qEC (hp:=hp) hT hv).ok (st:=⟨fr,hp⟩) (by rw [hd];exact pW hlt) (by rw [hd];exact k))
        cases h
      cases h
    rename_i hd;split at h
    · rename_i t x y ho
      split at h
      · rename_i hp' hst
        cases h;unfold qDI at hst;split at hst
        · rename_i bb s hl
          split at hst
          · rename_i id s' i off hx
            split at hst
            · rename_i e1 e2
              have e1:=Nat.eq_of_beq_eq_true e1;have e2:=Nat.eq_of_beq_eq_true e2;subst e1 e2;split at hst
              · rename_i bt cs hb
                split at hst
                · rename_i f1 f2 f3
                  cases hst;exact hrun (uE id off s bb cs _ ho hd (hT.lay hl) hx rfl f1 (Nat.eq_of_beq_eq_true f2) hb (Nat.le_of_ble_eq_true f3) k)
                cases hst
              cases hst
            cases hst
          cases hst
        cases hst
      cases h
    cases h
  · rename_i hon
    have hw:¬ Region.wanted o (yielded ops a.tmps)=true:=by
      rcases yD hs hon with ⟨_,hc⟩|⟨i,want,hg,⟨_,hc⟩|⟨hy,_⟩⟩
      · cases hc
      · cases hc
      simpa [Region.wanted,hg] using hy
    split at h
    · rename_i d hd
      split at h
      · rename_i hlt
        cases h;unfold wpList;rw [if_neg hw];refine k g _ w ?_;rw [hd];exact hs.put (of_decide_eq_true (pW hlt)) .und
      cases h
    cases h
  cases h
theorem SB {C:Ctx} {T:Tab} {ops:Array Oper} {o:Oper} {l:List Oper} {K:St->Prop} {fr0 fr:Fr} {hp0 hp:List Blk} {d:Nat} {e:Bool} (hT:TabOk C.P T) (h:stE T C.n ops o fr0 hp0=some ((d,.d (.bool e)) :: fr,hp)) (k:∀ b,e=b->aM C ops l ⟨(d,.d (.bool b)) :: fr,hp⟩ K):aM C ops (o :: l) ⟨fr0,hp0⟩ K:=
  SA hT h (k e rfl)
theorem jR {ops:Array Oper} {o:Oper} {fr:Fr} {b:Bool} (h:onE ops o.guard fr=some b):onA ops fr o=some b:=by
  unfold onE at h;unfold onA;split at h
  · rename_i hg;rw [hg];exact h
  rename_i i want hg;rw [hg];simp only;split at h
  · rename_i t ht
    rw [ht];simp only;split at h
    · rename_i c hc
      rw [hc];simp only;split at h<;>exact h
    · rename_i hc
      rw [hc];exact h
    cases h
  cases h
def drE (T:Tab) (n:Nat) (ops:Array Oper) (o:Oper) (fr:Fr) (hp:List Blk):Option (Bool×Nat×AV):=
  match onE ops o.guard fr with
  | some b=>match o.dst with
    | some d=>match Nat.blt d n with
      | true=>match b with
        | true=>match rdE T o.op fr.ev hp with
          | some v=>some (true,d,v)
          | none=>none
        | false=>some (false,d,.und)
      | false=>none
    | none=>none
  | none=>none
theorem DA {C:Ctx} {T:Tab} {ops:Array Oper} {o:Oper} {l:List Oper} {K:St->Prop} {fr:Fr} {hp:List Blk} {acc:List Rec} {on:Bool} {d:Nat} {v:AV} (rs:List Nat) (hT:TabOk C.P T) (h:drE T C.n ops o fr (sC rs hp)=some (on,d,v))
    (k:TDr C ops K l ((d,v) :: fr) hp (acc++[⟨on,d,v,bif on then rs else [],[]⟩])):TDr C ops K (o :: l) fr hp acc:=by
  unfold drE at h;split at h
  · rename_i b hon
    split at h
    · rename_i d' hd
      split at h
      · rename_i hlt
        split at h
        · split at h
          · rename_i u hv
            cases h;exact .step o l fr hp acc d v rs [] v (.inl ⟨hd,pW hlt,rfl⟩) (jR hon) (λp hp=>by simp at hp) (qEC hT hv).dok k
          cases h
        cases h;exact .skip o l fr hp acc d _ (.inl ⟨hd,pW hlt,rfl⟩) (jR hon) k
      cases h
    cases h
  cases h
theorem d_b {C:Ctx} {T:Tab} {ops:Array Oper} {o:Oper} {l:List Oper} {K:St->Prop} {fr:Fr} {hp:List Blk} {acc:List Rec} {d:Nat} {e:Bool} (rs:List Nat) (hT:TabOk C.P T) (h:drE T C.n ops o fr (sC rs hp)=some (true,d,.d (.bool e)))
    (k:∀ b,e=b->TDr C ops K l ((d,.d (.bool b)) :: fr) hp (acc++[⟨true,d,.d (.bool b),rs,[]⟩])):TDr C ops K (o :: l) fr hp acc:=
  DA rs hT h (k e rfl)
theorem DX {C:Ctx} {ops:Array Oper} {op:Op} {ty:TypeId} {pos:String} {after:Array Edge} {gd:Option (Nat×Bool)} {l:List Oper} {K:St->Prop} {fr:Fr} {hp:List Blk} {acc:List Rec} {d:Nat} {v:AV} (rs:List Nat) (hd:decide (d < C.n)=true) (hon:onE ops gd fr=some true)
    (hr:RdOk C ⟨some d,op,ty,pos,after,gd⟩ fr.ev (sC rs hp) v) (k:TDr C ops K l ((d,v) :: fr) hp (acc++[⟨true,d,v,rs,[]⟩])):TDr C ops K (⟨some d,op,ty,pos,after,gd⟩ :: l) fr hp acc:=
  .step _ l fr hp acc d v rs [] v (.inl ⟨rfl,hd,rfl⟩) (jR (o:=⟨some d,op,ty,pos,after,gd⟩) hon) (λp hp=>by simp at hp) hr.dok k
theorem SX {C:Ctx} {ops:Array Oper} {op:Op} {ty:TypeId} {pos:String} {after:Array Edge} {gd:Option (Nat×Bool)} {l:List Oper} {K:St->Prop} {fr:Fr} {hp:List Blk} {d:Nat} {v:AV} (hd:decide (d < C.n)=true) (hon:onE ops gd fr=some true)
    (hr:RdOk C ⟨some d,op,ty,pos,after,gd⟩ fr.ev hp v) (k:aM C ops l ⟨(d,v) :: fr,hp⟩ K):aM C ops (⟨some d,op,ty,pos,after,gd⟩ :: l) ⟨fr,hp⟩ K:=by
  intro g a w hs;unfold wpList
  have hw:Region.wanted ⟨some d,op,ty,pos,after,gd⟩ (yielded ops a.tmps)=true:=by
    rcases yD hs hon with ⟨hg,_⟩|⟨i,want,hg,⟨hy,_⟩|⟨_,hc⟩⟩
    · simp [Region.wanted,hg]
    · simp [Region.wanted,hg,hy]
    cases hc
  rw [if_pos hw];have hok:OpOk C ⟨some d,op,ty,pos,after,gd⟩ ⟨fr,hp⟩ (λst''=>aM C ops l st'' K):=hr.ok (st:=⟨fr,hp⟩) hd k;exact .inl (Oper.wp_mono (λa w ⟨st',g',hK,hs'⟩=>hK g' a w hs') (hok g a w _ hs))
def wkE:List D->List (Option Nat)->Option (List D)
  | [],_=>some []
  | d :: r,[]=>some (d :: r)
  | d :: r,none :: s=>match wkE r s with
    | some r'=>some (d :: r')
    | none=>none
  | d :: r,some n :: s=>match wkE r s with
    | some r'=>match d with
      | .nilsl=>some (.sl n [] :: r')
      | _=>none
    | none=>none
theorem xJ:∀ {ds:List D} {s:List (Option Nat)} {ds':List D},wkE ds s=some ds'->ds.length=ds'.length/\∀ (i:Nat) (c c':D),ds[i]?=some c->ds'[i]?=some c'->DLe c c'/\c'.one=c.one
  | [],_,_,h=>by cases h;exact⟨rfl,λi c c' h=>by simp at h⟩
  | d :: r,[],_,h=>by
    cases h;exact⟨rfl,λi c c' h h'=>by rw [h] at h';cases h';exact⟨.refl _,rfl⟩⟩
  | d :: r,none :: s,_,h=>by
    simp only [wkE] at h;split at h
    · rename_i r' hr
      cases h;obtain⟨h1,h2⟩:=xJ hr;refine⟨by simp [h1],λi c c' hc hc'=>?_⟩
      cases i with
      | zero=>simp at hc hc';subst hc hc';exact⟨.refl _,rfl⟩
      | succ i=>exact h2 i c c' (by simpa using hc) (by simpa using hc')
    cases h
  | d :: r,some n :: s,_,h=>by
    simp only [wkE] at h;split at h
    · rename_i r' hr
      obtain⟨h1,h2⟩:=xJ hr
      cases d with
      | nilsl=>
        cases h;refine⟨by simp [h1],λi c c' hc hc'=>?_⟩
        cases i with
        | zero=>simp at hc hc';subst hc hc';exact⟨.nil _,rfl⟩
        | succ i=>exact h2 i c c' (by simpa using hc) (by simpa using hc')
      | _=>cases h
    cases h
def wkV (s:List (Option Nat)):AV->Option AV
  | .d (.agg ds)=>match wkE ds s with
    | some ds'=>some (.d (.agg ds'))
    | none=>none
  | .d .nilsl=>match s with
    | [some n]=>some (.d (.sl n []))
    | _=>none
  | _=>none
theorem qGT {w:World} {g:Gh} {s:List (Option Nat)} {v v':AV} {u:Value} (h:wkV s v=some v') (hr:ARep w g v u):ARep w g v' u:=by
  cases v with
  | d d=>
    cases d with
    | agg ds=>
      simp only [wkV] at h;split at h
      · rename_i ds' hw
        cases h;obtain⟨h1,h2⟩:=xJ hw
        cases hr with
        | d _ _ hr=>
          cases hr with
          | agg _ vs hl ho hc=>
            refine .d _ _ (.agg ds' vs (by rw [<- h1];exact hl) (λc hc'=>?_) λi c u hi hu=>?_)
            · obtain⟨i,hi⟩:=List.getElem?_of_mem hc'
              have hlt:=(List.getElem?_eq_some_iff.1 hi).1;have hd:ds[i]?=some ds[i]:=by simp
              rw [(h2 i _ c hd hi).2];exact ho _ (by simp)
            have hlt:=(List.getElem?_eq_some_iff.1 hi).1;have hd:ds[i]?=some ds[i]:=by simp
            exact (h2 i _ c hd hi).1 _ _ _ (hc i _ u hd hu)
      cases h
    | nilsl=>
      simp only [wkV] at h;split at h
      · cases h
        cases hr with
        | d _ _ hr=>exact .d _ _ (DLe.nil _ _ _ _ hr)
      cases h
    | _=>cases h
  | _=>cases h
theorem Sim.wk {C:Ctx} {fr:Fr} {hp:List Blk} {g:Gh} {a:Act} {w:World} (h:Sim C ⟨fr,hp⟩ g a w) {t:Nat} {s:List (Option Nat)} {v:AV} (hv:wkV s (fr.get t)=some v):Sim C ⟨(t,v) :: fr,hp⟩ g a w:=by
  refine { h with fr:=λu=>?_ };simp only [Fr.get];split
  · rename_i e;subst e;exact qGT hv (h.fr t)
  exact h.fr u
theorem c_wk {C:Ctx} {fr:Fr} {hp:List Blk} {c:Code} {Q:Exit->St->Prop} (t:Nat) (s:List (Option Nat)) {v:AV} (hv:wkV s (fr.get t)=some v) (h:TWp C c ⟨(t,v) :: fr,hp⟩ Q):TWp C c ⟨fr,hp⟩ Q:=λg a w hs=>h g a w (Sim.wk hs hv)
theorem s_wk {C:Ctx} {fr:Fr} {hp:List Blk} {ops:Array Oper} {l:List Oper} {K:St->Prop} (t:Nat) (s:List (Option Nat)) {v:AV} (hv:wkV s (fr.get t)=some v) (h:aM C ops l ⟨(t,v) :: fr,hp⟩ K):aM C ops l ⟨fr,hp⟩ K:=λg a w hs=>h g a w (Sim.wk hs hv)
def wkB:List AV->List (Option Nat)->Option (List AV)
  | [],_=>some []
  | d :: r,[]=>some (d :: r)
  | d :: r,none :: s=>match wkB r s with
    | some r'=>some (d :: r')
    | none=>none
  | d :: r,some n :: s=>match wkB r s with
    | some r'=>match d with
      | .d .nilsl=>some (.d (.sl n []) :: r')
      | _=>none
    | none=>none
theorem xK:∀ {ds:List AV} {s:List (Option Nat)} {ds':List AV},wkB ds s=some ds'->ds'.length=ds.length/\∀ (i:Nat) (c':AV),ds'[i]?=some c'->∃ c,ds[i]?=some c/\∀ (w:World) (g:Gh) (v:Value),ARep w g c v->ARep w g c' v
  | [],_,_,h=>by cases h;exact⟨rfl,λi c h=>by simp at h⟩
  | d :: r,[],_,h=>by
    cases h;exact⟨rfl,λi c' h'=>⟨c',h',λ_ _ _ h=>h⟩⟩
  | d :: r,none :: s,_,h=>by
    simp only [wkB] at h;split at h
    · rename_i r' hr
      cases h;obtain⟨h1,h2⟩:=xK hr;refine⟨by simp [h1],λi c' hc'=>?_⟩
      cases i with
      | zero=>simp at hc';subst hc';exact⟨d,by simp,λ_ _ _ h=>h⟩
      | succ i=>obtain⟨c,hc,hh⟩:=h2 i c' (by simpa using hc');exact⟨c,by simpa using hc,hh⟩
    cases h
  | d :: r,some n :: s,_,h=>by
    simp only [wkB] at h;split at h
    · rename_i r' hr
      obtain⟨h1,h2⟩:=xK hr;split at h
      · cases h
        refine⟨by simp [h1],λi c' hc'=>?_⟩
        cases i with
        | zero=>simp at hc';subst hc';exact⟨.d .nilsl,by simp,λ_ _ _ h=>by cases h with|d _ _ h=>exact .d _ _ (DLe.nil _ _ _ _ h)⟩
        | succ i=>obtain⟨c,hc,hh⟩:=h2 i c' (by simpa using hc');exact⟨c,by simpa using hc,hh⟩
      cases h
    cases h
theorem Sim.wkb {C:Ctx} {fr:Fr} {hp:List Blk} {g:Gh} {a:Act} {w:World} (h:Sim C ⟨fr,hp⟩ g a w) {id ty:Nat} {cs cs':List AV} {s:List (Option Nat)} (hb:hp[id]?=some (.box ty cs)) (hv:wkB cs s=some cs'):Sim C ⟨fr,hp.set id (.box ty cs')⟩ g a w:=by
  have hlen:id < hp.length:=(List.getElem?_eq_some_iff.1 hb).1
  have hin:∀ (i:Nat) (B:Blk),(hp.set id (.box ty cs'))[i]?=some B->∃ B',hp[i]?=some B'/\(B≠.dead->B'≠.dead):=by
    intro i B hi;rw [List.getElem?_set] at hi;split at hi
    · rename_i e;subst e;exact⟨_,hb,λ_ e=>by cases e⟩
    exact⟨B,hi,λh=>h⟩
  refine { h with hp:=λi B hi=>?_,lt:=?_,inj:=?_,kle:=?_ }
  · simp only [List.getElem?_set] at hi
    split at hi
    · rename_i e
      subst e;cases hi;obtain⟨b,cells,h1,h2,h3,h4,h5⟩:=h.hp _ _ hb;obtain⟨e1,e2⟩:=xK hv;refine⟨b,cells,h1,h2,h3,by rw [e1];exact h4,λj c v hc hv=>?_⟩;obtain⟨c0,hc0,hm⟩:=e2 j c hc;exact hm _ _ _ (h5 j c0 v hc0 hv)
    exact h.hp i B hi
  · intro i b hp'
    have:=h.lt i b hp';simp only [List.length_set];exact this
  · intro i j b Bi Bj hi hj di dj hpi hpj
    obtain⟨Bi',hi',ei⟩:=hin i Bi hi;obtain⟨Bj',hj',ej⟩:=hin j Bj hj;exact h.inj i j b Bi' Bj' hi' hj' (ei di) (ej dj) hpi hpj
  have:=h.kle;simp only [List.length_set];exact this
theorem eX {C:Ctx} {fr:Fr} {hp:List Blk} {ops:Array Oper} {l:List Oper} {K:St->Prop} (id:Nat) (s:List (Option Nat)) {ty:Nat} {cs cs':List AV} (hb:hp[id]?=some (.box ty cs)) (hv:wkB cs s=some cs') (h:aM C ops l ⟨fr,hp.set id (.box ty cs')⟩ K):aM C ops l ⟨fr,hp⟩ K:=λg a w hs=>h g a w (Sim.wkb hs hb hv)
def aE {α:Type} (p:Prop) [Decidable p] (k:Option α):Option α:=if p then k else none
def bE {α β:Type} (l:List α) (i:Int) (k:α->Option β):Option β:=if 0<=i then (match l[i.toNat]? with|some x=>k x|none=>none) else none
def aL {α β:Type} (m:Option β):Option (α ⊕ β):=m.map .inr
def cH {α β:Type} (m:Option (α ⊕ β)) (k:α->Option β):Option β:=match m with
  | some (.inl a)=>k a
  | some (.inr b)=>some b
  | none=>none
def aD {α β:Type} (m:Option α) (k:α->Option β):Option β:=match m with
  | some a=>k a
  | none=>none
def sub {α:Type} (l:List α) (i j:Int):List α:=(l.drop i.toNat).take (j.toNat - i.toNat)
section
variable {α β γ:Type}
theorem GI {p:Prop} [Decidable p] {k:Option α} {r:α} (h:aE p k=some r):p/\k=some r:=by
  unfold aE at h;split at h
  · exact⟨by assumption,h⟩
  cases h
theorem GV {l:List α} {i:Int} {k:α->Option β} {r:β} (h:bE l i k=some r):∃ x,(0<=i/\l[i.toNat]?=some x)/\k x=some r:=by
  unfold bE at h;split at h
  · split at h
    · exact⟨_,⟨by assumption,by assumption⟩,h⟩
    cases h
  cases h
theorem BI {m:Option α} {k:α->Option β} {r:β} (h:aD m k=some r):∃ x,m=some x/\k x=some r:=by
  cases m with
  | none=>cases h
  | some a=>exact⟨a,rfl,h⟩
theorem II {m:Option β} {x:α ⊕ β} (h:aL m=some x):∃ v,m=some v/\x=.inr v:=by
  cases m with
  | none=>cases h
  | some a=>cases h;exact⟨a,rfl,rfl⟩
theorem JT {p:Prop} [Decidable p] {a b:Option α} {c:α} (h:decide p=true) (hm:(if p then a else b)=some c):a=some c:=by rw [if_pos (of_decide_eq_true h)] at hm;exact hm
theorem JF {p:Prop} [Decidable p] {a b:Option α} {c:α} (h:decide p=false) (hm:(if p then a else b)=some c):b=some c:=by rw [if_neg (of_decide_eq_false h)] at hm;exact hm
theorem oH {p:Prop} [Decidable p] {a b:Option α} {c:α} (h:(!decide p)=true) (hm:(if p then b else a)=some c):a=some c:=by rw [if_neg (of_decide_eq_false (by simpa using h))] at hm;exact hm
theorem oI {p:Prop} [Decidable p] {a b:Option α} {c:α} (h:(!decide p)=false) (hm:(if p then b else a)=some c):b=some c:=by rw [if_pos (of_decide_eq_true (by simpa using h))] at hm;exact hm
theorem JA {p:Bool} {a b:Option α} {c:α} (h:p=true) (hm:(if p=true then a else b)=some c):a=some c:=by rw [if_pos h] at hm;exact hm
theorem JB {p:Bool} {a b:Option α} {c:α} (h:p=false) (hm:(if p=true then a else b)=some c):b=some c:=by rw [if_neg (by rw [h];simp)] at hm;exact hm
def wJ {ρ:Type} [DecidableEq ρ] (l:List α) (a b:Option ρ):Option ρ:=match l with
  | []=>match a,b with
    | some x,some y=>if x=y then some x else none
    | _,_=>none
  | _=>b
theorem qJB {ρ:Type} [DecidableEq ρ] {l:List α} {f:α->D} {a b:Option ρ} {o:ρ} (h:(l.map f).length=0) (hm:wJ l a b=some o):l=[]/\a=some o:=by
  cases l with
  | nil=>
    refine⟨rfl,?_⟩;simp only [wJ] at hm;split at hm
    · split at hm
      · exact hm
      cases hm
    cases hm
  | cons x r=>simp at h
theorem qJC {ρ:Type} [DecidableEq ρ] {l:List α} {a b:Option ρ} {o:ρ} (hm:wJ l a b=some o):b=some o:=by
  cases l with
  | nil=>
    simp only [wJ] at hm;split at hm
    · split at hm
      · rename_i e;subst e;exact hm
      cases hm
    cases hm
  | cons x r=>exact hm
def fE {σ ρ:Type} (f:σ->Option (σ ⊕ ρ)):Nat->σ->Option ρ
  | 0,_=>none
  | n+1,s=>match f s with
    | none=>none
    | some (.inl s')=>fE f n s'
    | some (.inr r)=>some r
def aZ:Nat:=73786976294838206464
def bC {σ ρ:Type} (f:σ->Option (σ ⊕ ρ)) (s:σ):Option ρ:=fE f aZ s
theorem rE {σ ρ:Type} {f:σ->Option (σ ⊕ ρ)}:∀ {n m:Nat} {s:σ} {r:ρ},fE f n s=some r->n<=m->fE f m s=some r
  | 0,_,_,_,h,_=>by cases h
  | n+1,0,_,_,_,hm=>absurd hm (Nat.not_succ_le_zero n)
  | n+1,m+1,s,r,h,hm=>by
    simp only [fE] at h ⊢;split at h
    · cases h
    · exact rE h (Nat.le_of_succ_le_succ hm)
    exact h
theorem rA {σ ρ:Type} {f:σ->Option (σ ⊕ ρ)} {n:Nat} {s:σ} {r:ρ} (h:fE f n s=some r) (hn:n<=aZ):bC f s=some r:=rE h hn
end
theorem k0 {ids:List Nat} (i:Nat) (h:i < 0):ids[i]?=some i:=absurd h (Nat.not_lt_zero i)
variable {C:Ctx}
theorem TWp.monoT {c:Code} {st:St} {n n':St->Prop} {Q:Exit->St->Prop} (h:TWp C c st (fW n Q)) (hn:∀ st,n st->n' st):TWp C c st (fW n' Q):=h.mono λe st hq=>by
  cases e with
  | normal=>exact hn st hq
  | _=>exact hq
theorem bP {c:Code} {Q:Exit->St->Prop} {σ ρ:Type} {f:σ->Option (σ ⊕ ρ)} {s0:σ} {o:ρ} (hm:bC f s0=some o) {fr:Fr} {hp:List Blk} (var:σ->Fr) (chg:σ->List (Nat×Blk)) (vk ik ids:List Nat) {inv:Fr} {hp0:List Blk} (hnd:dG ids=true) (hk:∀ i,i < C.k->ids[i]?=some i)
    (hI:kQ fr ik=some inv) (hI':Fr.mapRef (toName (aC ids)) inv=inv) (hV:Fr.mapRef (toName (aC ids)) (Fr.keep vk fr)=var s0) (hH:ids.map (λi=>(hp.getD i .dead).mapRef (toName (aC ids)))=hp0) (hC:hp0=wr (chg s0) hp0)
    (round:∀ s x,f s=some x->(∀ v,x=.inr v->v=o)->TWp C c ⟨var s++inv,wr (chg s) hp0⟩ (fW (λst'=>∃ s' ids',x=.inl s'/\dG ids'=true/\(∀ i,i < C.k->ids'[i]?=some i)/\st'.canon (vk++ik) ids'=⟨var s'++inv,wr (chg s') hp0⟩) Q)):TWp C (.loop c) ⟨fr,hp⟩ Q:=by
  refine xL (α:=σ×Nat) (λx=>var x.1) (λx=>chg x.1) (λx=>fE f x.2 x.1=some o) (λx=>x.2) vk ik ids (s0,aZ) (cD hnd) hk hm (lF hI) hI' hV hH hC ?_;rintro⟨s,n⟩ hs
  cases n with
  | zero=>cases hs
  | succ n=>
    simp only [fE] at hs
    cases hf:f s with
    | none=>rw [hf] at hs;cases hs
    | some x=>
      rw [hf] at hs;refine (round s x hf λv hv=>by subst hv;exact Option.some.inj hs).monoT ?_;rintro st' ⟨s',ids',hx,h1,h2,h3⟩;subst hx;exact⟨(s',n),ids',cD h1,h2,hs,Nat.lt_succ_self n,h3⟩
theorem bS {x y:Code} {Q:Exit->St->Prop} {J ρ:Type} {m:Option (J ⊕ ρ)} {k:J->Option ρ} {o:ρ} (hm:cH m k=some o) {fr:Fr} {hp:List Blk} (sets:J->Fr) (chg:J->List (Nat×Blk)) (sk ks:List Nat) {inv:Fr} (hI:kQ fr ks=some inv)
    (h1:∀ z,m=some z->(∀ v,z=.inr v->v=o)->TWp C x ⟨fr,hp⟩ (fW (λst=>∃ j ids,z=.inl j/\dG ids=true/\(∀ i,i < C.k->ids[i]?=some i)/\st.canon (sk++ks) ids=⟨sets j++inv,wr (chg j) hp⟩) Q))
    (h2:∀ j,k j=some o->TWp C y ⟨sets j++inv,wr (chg j) hp⟩ Q):TWp C (.seq x y) ⟨fr,hp⟩ Q:=by
  cases hz:m with
  | none=>rw [hz] at hm;cases hm
  | some z=>
    rw [hz] at hm;refine TQ ((h1 z hz λv hv=>by subst hv;exact Option.some.inj hm).monoT ?_);rintro st ⟨j,ids,hj,hnd,hk,he⟩;subst hj;refine lB (sk++ks) ids (cD hnd) hk ?_;rw [he];exact h2 j hm
theorem bF {x y:Code} {Q:Exit->St->Prop} {J ρ:Type} {m:Option J} {k:J->Option ρ} {o:ρ} (hm:aD m k=some o) {fr:Fr} {hp:List Blk} (sets:J->Fr) (chg:J->List (Nat×Blk)) (sk ks:List Nat) {inv:Fr} (hI:kQ fr ks=some inv)
    (h1:∀ z,m=some z->TWp C x ⟨fr,hp⟩ (fW (λst=>∃ j ids,z=j/\dG ids=true/\(∀ i,i < C.k->ids[i]?=some i)/\st.canon (sk++ks) ids=⟨sets j++inv,wr (chg j) hp⟩) Q))
    (h2:∀ j,k j=some o->TWp C y ⟨sets j++inv,wr (chg j) hp⟩ Q):TWp C (.seq x y) ⟨fr,hp⟩ Q:=by
  cases hz:m with
  | none=>rw [hz] at hm;cases hm
  | some z=>
    rw [hz] at hm;refine TQ ((h1 z hz).monoT ?_);rintro st ⟨j,ids,hj,hnd,hk,he⟩;subst hj;refine lB (sk++ks) ids (cD hnd) hk ?_;rw [he];exact h2 z hm
theorem lV {x y:Code} {Q:Exit->St->Prop} {fr:Fr} {hp:List Blk} (sets:Fr) (sk ks:List Nat) {inv:Fr} (hI:kQ fr ks=some inv)
    (h1:TWp C x ⟨fr,hp⟩ (fW (λst=>∃ ids,dG ids=true/\(∀ i,i < C.k->ids[i]?=some i)/\st.canon (sk++ks) ids=⟨sets++inv,hp⟩) Q))
    (h2:TWp C y ⟨sets++inv,hp⟩ Q):TWp C (.seq x y) ⟨fr,hp⟩ Q:=by
  refine TQ (h1.monoT ?_);rintro st ⟨ids,hnd,hk,he⟩;refine lB (sk++ks) ids (cD hnd) hk ?_;rw [he];exact h2
theorem eM {fr fr':Fr} {hp hp':List Blk} (h1:fr=fr') (h2:hp=hp'):(⟨fr,hp⟩:St)=⟨fr',hp'⟩:=by rw [h1,h2]
theorem bX {t:Nat} {v v':AV} {r r':Fr} (h1:v=v') (h2:r=r'):(t,v) :: r=(t,v') :: r':=by rw [h1,h2]
section rd
variable {T:Tab} {o:Oper} {ev:Operand->AV} {hp:List Blk} {α:Type} {f:α->D} {xs ys:List α}
theorem fM {t e sz by':Nat} {a b:Operand} {k:IntKind} {i:Int} {x:α} (hT:TabOk C.P T) (ho:o.op=.indexAddr t a b) (hl:lk T.sel t=some (e,sz,by')) (ha:ev a=.d (.sl sz (xs.map f))) (hb:ev b=.d (.int k i)) (h:0<=i/\xs[i.toNat]?=some x):RdOk C o ev hp (.d (.ptr (f x) 0)):=
  qFC ho (hT.sel hl) ha hb (qHY h.1 h.2)
theorem eZ {t e sz by' n id:Nat} {a b:Operand} {k:IntKind} {i:Int} {x:α} (hT:TabOk C.P T) (ho:o.op=.indexAddr t a b) (hl:lk T.sel t=some (e,sz,by')) (ha:ev a=.msl id sz 0 n) (hb:ev b=.d (.int k i)) (h:0<=i/\xs[i.toNat]?=some x) (hn:n=xs.length):RdOk C o ev hp (.mptr id sz i.toNat 0):=by
  have hlt:=(List.getElem?_eq_some_iff.1 h.2).1;exact qBS ho (hT.sel hl) ha hb ⟨h.1,by omega⟩ (Nat.zero_add _)
theorem lU {t s id sz idx off bt:Nat} {b:Bool} {a:Operand} {x:α} {v:AV} (hT:TabOk C.P T) (ho:o.op=.load t a) (hl:lk T.lay t=some (b,s)) (ha:ev a=.mptr id sz idx off) (hb:hp[id]?=some (.flat bt sz (xs.map f))) (hx:xs[idx]?=some x) (hv:mE b s [] (.d (.ptr (f x) off))=some v):RdOk C o ev hp v:=by
  have he:(xs.map f)[idx]?=some (f x):=yP hx
  cases b with
  | false=>
    simp only [mE] at hv;split at hv
    · rename_i d hd;cases hv;exact qBR ho (hT.lay hl) ha hb he hd
    cases hv
  | true=>
    simp only [mE] at hv;split at hv
    · rename_i h1 h2 h3
      cases hv;have h1:=Nat.eq_of_beq_eq_true h1;subst h1;exact yI ho (hT.lay hl) ha hb he (Nat.eq_of_beq_eq_true h2) h3
    split at hv
    · rename_i hle;cases hv;exact jQ id sz idx off s _ _ ho (hT.lay hl) ha hb he (Nat.le_of_ble_eq_true hle)
    cases hv
theorem aU {t e sz sz' by':Nat} {a:Operand} (hT:TabOk C.P T) (ho:o.op=.call { callee:=.builtin .len,args:=#[a],argTypes:=#[t] }) (hl:lk T.sel t=some (e,sz',by')) (ha:ev a=.d (.sl sz (xs.map f))):RdOk C o ev hp (.d (.int .i64 (xs.length:Int))):=
  len_d ho (hT.sel hl) ha (List.length_map _)
theorem cI {op:BinOp} {t t':TypeId} {x y:Operand} {m n r:Int} (ho:o.op=.binOp op t x y t') (hx:ev x=.d (.int .i64 m)) (hy:ev y=.d (.int .i64 n)) (hr:qGC op m n=some r) (hb:I64 r):RdOk C o ev hp (.d (.int .i64 r)):=qGA ho hx hy hr hb
theorem gK {t e sz by' n:Nat} {parts:Array (Nat×Operand)} {z:Value} (l:List Operand) (hT:TabOk C.P T) (ho:o.op=.buildSlice t n parts) (hl:lk T.sel t=some (e,sz,by')) (hz:(C.P.info? e).bind (·.zero)=some z) (hp':eJ parts l) {ds:List D}
    (hx:evD (l.map ev)=some ds) (hn:Nat.beq ds.length n=true) (hs:(ds.all λd=>Nat.beq d.cells.length sz)=true) (hsmall:Nat.ble (n * sz) 16777216=true):RdOk C o ev hp (.d (.sl sz ds)):=qHI l ho (hT.sel hl) hz hp' hx hn hs hsmall
theorem xI {t e sz by':Nat} {a b:Operand} {z:Value} {zd:D} {n:Int} (hT:TabOk C.P T) (ho:o.op=.makeSlice t a b) (hl:lk T.sel t=some (e,sz,by')) (hz:(C.P.info? e).bind (·.zero)=some z) (hzd:bG z=.d zd) (hzs:Nat.beq zd.cells.length sz=true) (ha:ev a=.d (.int .i64 n)) (hb:ev b=.d (.int .i64 n)) (hby:Nat.ble by' 100000=true) (hn:0<=n/\n<=1000000000) {x:α} (hf:f x=zd):RdOk C o ev hp (.d (.sl sz ((List.replicate n.toNat x).map f))):=by
  obtain⟨m,rfl⟩:=Int.eq_ofNat_of_zero_le hn.1;have h1:=Nat.le_of_ble_eq_true hby;have h2:m<=1000000000:=by omega
  have h3:by' * m<=100000 * 1000000000:=Nat.mul_le_mul h1 h2
  have:=qHH (hp:=hp) (n:=m) ho (hT.sel hl) hz hzd (Nat.eq_of_beq_eq_true hzs) ha hb (by omega) (by omega);rw [List.map_replicate,hf];exact this
end rd
def qBE {α β:Type} [DecidableEq α] (fs:List (α×β)) (k:α) (v:β):List (α×β):=match fs.findIdx? λx=>decide (x.1=k) with
  | some j=>fs.set j (k,v)
  | none=>fs++[(k,v)]
section pm
variable {α β:Type} [DecidableEq α] {dk:TypeDesc} {kf:α->D}
variable {o:Oper} {ev:Operand->AV} {hp:List Blk} {x y u:Operand} {t kt et kt' et':TypeId} {id:Nat} {zd:D} {z:Value}
theorem zE (hk:KeyF dk kf) (f:β->D) (fs:List (α×β)) (s:α) (z0:β) (ho:o.op=.lookup t x y false) (hl:mty C.P t=some (kt,dk,et)) (hz:(C.P.info? et).bind (·.zero)=some z) (hzd:bG z=.d (f z0))
    (hx:ev x=.mmap id) (hb:hp[id]?=some (.map kt' et' (aO kf f fs))) (hy:ev y=.d (kf s)) (hnd:(fs.map (·.1)).Nodup):RdOk C o ev hp (.d (f ((dJ fs s).getD z0))):=by
  have:=wA (C:=C) hk f fs s ho hl hz hzd hx hb hy hnd
  cases h:dJ fs s with
  | none=>rw [h] at this;exact this
  | some b=>rw [h] at this;exact this
theorem s_putE {ops:Array Oper} {l:List Oper} {K:St->Prop} {fr:Fr} {ty:TypeId} {pos:String} {after:Array Edge} (hk:KeyF dk kf) (f:β->D) {fs:List (α×β)} {s:α} {b:β} (hl:mty C.P t=some (kt,dk,et)) (hx:fr.ev x=.mmap id) (hb:hp[id]?=some (.map kt' et' (aO kf f fs))) (hy:fr.ev y=.d (kf s)) (hu:fr.ev u=.d (f b)) (hnd:(fs.map (·.1)).Nodup)
    (h:aM C ops l ⟨fr,hp.set id (.map kt' et' (aO kf f (qBE fs s b)))⟩ K):aM C ops (⟨none,.mapUpdate t x y u,ty,pos,after,none⟩ :: l) ⟨fr,hp⟩ K:=by
  cases e:fs.findIdx? λx=>decide (x.1=s) with
  | none=>
    have hn:dJ fs s=none:=by
      unfold dJ;rw [Option.map_eq_none_iff,List.find?_eq_none];rw [List.findIdx?_eq_none_iff] at e;intro x hx;simpa using e x hx
    refine qDL hk f hl hx hb hy hu hn rfl ?_;simpa only [qBE,e] using h
  | some j=>
    rw [List.findIdx?_eq_some_iff_getElem] at e;obtain⟨hlt,hj,_⟩:=e
    have hj':fs[j]?=some (s,fs[j].2):=by
      rw [List.getElem?_eq_getElem hlt,<- of_decide_eq_true hj]
    refine qDM (j:=j) (v0:=f fs[j].2) hl hx hb hy hu (iD hk) (mB hk hnd) (by simp [aO,hj']) rfl ?_;have e':(fs.findIdx? λx=>decide (x.1=s))=some j:=by rw [List.findIdx?_eq_some_iff_getElem];exact⟨hlt,hj,by assumption⟩
    simp only [qBE,e'] at h;simpa [aO,List.map_set] using h
end pm
section st
variable {T:Tab} {ops:Array Oper} {l:List Oper} {K:St->Prop} {fr:Fr} {hp:List Blk} {d:Nat} {ty:TypeId} {pos:String} {after:Array Edge} {α:Type} {f:α->D} {xs ys:List α}
theorem iH {x:Operand} (N ety sz:Nat) (hd:decide (d < C.n)=true) (hN:Nat.beq hp.length N=true) (hx:fr.ev x=.d .nilsl) (h:aM C ops l ⟨(d,.msl N sz 0 ([]:List α).length) :: fr,hp++[.flat ety sz (([]:List α).map f)]⟩ K):aM C ops (⟨some d,.assign x,ty,pos,after,none⟩ :: l) ⟨fr,hp⟩ K:=by
  have e:=Nat.eq_of_beq_eq_true hN;subst e;exact vP ety sz hd hx h
def qIM:AV->Option (List AV)
  | .d (.agg ds)=>some (ds.map .d)
  | .d d=>some [.d d]
  | .agg cs=>match (AV.agg cs).flat with
    | true=>some cs
    | false=>none
  | .msl i s o l=>some [.msl i s o l]
  | .mptr i s o l=>some [.mptr i s o l]
  | .mmap i=>some [.mmap i]
  | .yld i=>some [.yld i]
  | .mmapN i n=>some [.mmapN i n]
  | _=>none
theorem pV {v:AV} {cs:List AV} (h:qIM v=some cs):v.flat=true/\v.cells=cs:=by
  cases v with
  | d d=>cases d<;>cases h<;>exact⟨rfl,rfl⟩
  | agg cs=>
    simp only [qIM] at h;split at h
    · rename_i hf;cases h;exact⟨hf,rfl⟩
    cases h
  | msl=>cases h;exact⟨rfl,rfl⟩
  | mptr=>cases h;exact⟨rfl,rfl⟩
  | mmap=>cases h;exact⟨rfl,rfl⟩
  | yld=>cases h;exact⟨rfl,rfl⟩
  | mmapN=>cases h;exact⟨rfl,rfl⟩
  | _=>cases h
theorem eB {x:Operand} {t:TypeId} {cs:List AV} (N:Nat) (hd:decide (d < C.n)=true) (hN:Nat.beq hp.length N=true) (hx:qIM (fr.ev x)=some cs) (h:aM C ops l ⟨(d,.mptr N 0 0 0) :: fr,hp++[.box t cs]⟩ K):aM C ops (⟨some d,.box t x,ty,pos,after,none⟩ :: l) ⟨fr,hp⟩ K:=by
  have e:=Nat.eq_of_beq_eq_true hN;subst e;exact s_box hd rfl (pV hx).1 (pV hx).2 h
theorem eQ {t:TypeId} {z:Value} {cs:List AV} (N:Nat) (hd:decide (d < C.n)=true) (hN:Nat.beq hp.length N=true) (hz:(C.P.info? t).bind (·.zero)=some z) (hc:qIM (bG z)=some cs) (h:aM C ops l ⟨(d,.mptr N 0 0 0) :: fr,hp++[.box t cs]⟩ K):aM C ops (⟨some d,.alloc t,ty,pos,after,none⟩ :: l) ⟨fr,hp⟩ K:=by
  have e:=Nat.eq_of_beq_eq_true hN;subst e;exact qHC hd hz (pV hc).1 (pV hc).2 h
theorem s_mkO {t e sz by':Nat} {a b:Operand} {z:Value} {zd:D} {n:Int} (N:Nat) (hT:TabOk C.P T) (hd:decide (d < C.n)=true) (hN:Nat.beq hp.length N=true) (hl:lk T.sel t=some (e,sz,by')) (hz:(C.P.info? e).bind (·.zero)=some z) (hzd:bG z=.d zd) (hzs:Nat.beq zd.cells.length sz=true) (ha:fr.ev a=.d (.int .i64 n)) (hb:fr.ev b=.d (.int .i64 n)) (hby:Nat.ble by' 100000=true) (hn:0<=n/\n<=1000000000) {x:α} (hf:f x=zd)
    (h:aM C ops l ⟨(d,.msl N sz 0 (List.replicate n.toNat x).length) :: fr,hp++[.flat e sz ((List.replicate n.toNat x).map f)]⟩ K):aM C ops (⟨some d,.makeSlice t a b,ty,pos,after,none⟩ :: l) ⟨fr,hp⟩ K:=by
  obtain⟨m,rfl⟩:=Int.eq_ofNat_of_zero_le hn.1;have h1:=Nat.le_of_ble_eq_true hby;have h2:m<=1000000000:=by omega
  have h3:by' * m<=100000 * 1000000000:=Nat.mul_le_mul h1 h2
  have e:=Nat.eq_of_beq_eq_true hN;subst e;rw [List.map_replicate,hf] at h;simp only [Int.toNat_natCast,List.length_replicate] at h;exact vO (n:=m) hd (hT.sel hl) hz hzd (Nat.eq_of_beq_eq_true hzs) ha hb (by omega) (by omega) h
theorem xP {t e sz by' n:Nat} {parts:Array (Nat×Operand)} {z:Value} (N:Nat) (os:List Operand) (xs:List α) (hT:TabOk C.P T) (hd:decide (d < C.n)=true) (hN:Nat.beq hp.length N=true) (hl:lk T.sel t=some (e,sz,by')) (hz:(C.P.info? e).bind (·.zero)=some z) (hp':eJ parts os)
    (hx:evD (os.map fr.ev)=some (xs.map f)) (hn:Nat.beq (xs.map f).length n=true) (hs:((xs.map f).all λd=>Nat.beq d.cells.length sz)=true) (hsmall:Nat.ble (n * sz) 16777216=true) (h:aM C ops l ⟨(d,.msl N sz 0 xs.length) :: fr,hp++[.flat e sz (xs.map f)]⟩ K):aM C ops (⟨some d,.buildSlice t n parts,ty,pos,after,none⟩ :: l) ⟨fr,hp⟩ K:=by
  have e:=Nat.eq_of_beq_eq_true hN;subst e;have e2:=Nat.eq_of_beq_eq_true hn;rw [List.length_map] at e2;rw [e2] at h;exact s_litD os hd (hT.sel hl) hz hp' hx hn hs hsmall h
theorem nA {t e sz by' n id:Nat} {x y:Operand} {u:AV} {z:Value} {fr':Fr} {hp1:List Blk} (ys:List α) (hT:TabOk C.P T) (hd:decide (d < C.n)=true) (hl:lk T.sel t=some (e,sz,by')) (hz:(C.P.info? e).bind (·.zero)=some z) (hzs:Nat.beq z.cells.size sz=true) (hby:Nat.ble by' 100000=true) (hx:fr.ev x=.msl id sz 0 n) (hb:hp[id]?=some (.flat e sz (xs.map f))) (hn:n=xs.length) (hmv:id < C.k->C.mv id=true)
    (hy:fr.ev y=u) (hu:qGI hp sz (ys.map f) u) (hg:(xs++ys).length<=1000000000) (hfr:Fr.mapRef (purge id) fr=fr') (hhp:hp.map (Blk.mapRef (purge id))=hp1)
    (h:aM C ops l ⟨(d,.msl id sz 0 (xs++ys).length) :: fr',hp1.set id (.flat e sz ((xs++ys).map f))⟩ K):aM C ops (⟨some d,.call { callee:=.builtin .append,args:=#[x,y],argTypes:=#[t,t] },ty,pos,after,none⟩ :: l) ⟨fr,hp⟩ K:=by
  have h1:=Nat.le_of_ble_eq_true hby;have h3:(xs++ys).length * by'<=1000000000 * 100000:=Nat.mul_le_mul hg h1
  exact qDQ (m:=(xs++ys).length) (ds:=ys.map f) (es':=(xs++ys).map f) hd (hT.sel hl) hz (Nat.eq_of_beq_eq_true hzs) hx hb (by rw [hn,List.length_map]) hmv hy hu (by rw [List.map_append]) (by simp) (by omega) (by omega) hfr hhp h
theorem qH {t s id sz idx off bt:Nat} {b:Bool} {a y:Operand} {x x':α} {v:D} (hT:TabOk C.P T) (hl:lk T.lay t=some (b,s)) (ha:fr.ev a=.mptr id sz idx off) (hy:fr.ev y=.d v) (hs:Nat.beq v.cells.length s=true) (hb:hp[id]?=some (.flat bt sz (xs.map f))) (hx:xs[idx]?=some x) (hone:((!(f x).one)||v.one)=true) (hle:Nat.ble (off+s) (f x).cells.length=true) (hu:(f x).upd off v=f x') (h:aM C ops l ⟨fr,hp.set id (.flat bt sz ((xs.set idx x').map f))⟩ K):aM C ops (⟨none,.store t a y,ty,pos,after,none⟩ :: l) ⟨fr,hp⟩ K:=by
  rw [List.map_set] at h;refine tR (e:=f x) (e':=f x') (hT.lay hl) ha hy (Nat.eq_of_beq_eq_true hs) hb (yP hx) ?_ (Nat.le_of_ble_eq_true hle) hu h;simp only [Bool.or_eq_true,Bool.not_eq_true'] at hone;exact hone
theorem fK (t n':Nat) {id sz n:Nat} (hv:Fr.get fr t=.msl id sz 0 n) (he:n=n') (h:aM C ops l ⟨(t,.msl id sz 0 n') :: fr,hp⟩ K):aM C ops l ⟨fr,hp⟩ K:=qI t _ hv (by rw [he]) h
theorem mY {hp:List Blk} {sz:Nat} {ds:List D}:qGI hp sz ds (.d (.sl sz ds)):=⟨rfl,rfl⟩
theorem iP {id sz ty:Nat} (h:hp[id]?=some (.flat ty sz (xs.map f))):Snap hp (.msl id sz 0 xs.length) (.sl sz (xs.map f)):=qAW h (by simp)
end st
theorem jE {o:Oper} {ev:Operand->AV} {hp:List Blk} {f:Operand} {xs:Array Operand} {ts:Array TypeId} {F:FuncId} {ds rs:List D} (ho:o.op=.call { callee:=.value f,args:=xs,argTypes:=ts }) (hf:ev f=.d (.fn F)) (hx:xs.toList.map ev=ds.map .d) (hret:RetT C.P F ds rs):RdOk C o ev hp (.tup (rs.map .d)):=
  oB (cs:=[]) ho hf rfl hx (by rw [List.append_nil];exact hret)
theorem qAO {c:Code} {Q:Exit->St->Prop} {fr fr':Fr} {hp hp':List Blk} (i:Nat) (hk:Nat.ble C.k i=true) (hks:((List.range C.k).all (aR hp))=true) (hal:aR hp i=true) (hf:Fr.mapRef (frz i (hp.getD i .dead) (aR hp)) fr=fr') (hh:(hp.map (Blk.mapRef (frz i (hp.getD i .dead) (aR hp)))).set i .dead=hp') (h:TWp C c ⟨fr',hp'⟩ Q):TWp C c ⟨fr,hp⟩ Q:=by
  subst hf hh;exact xM i (Nat.le_of_ble_eq_true hk) hal (λj hj=>List.all_eq_true.1 hks j (List.mem_range.2 hj)) h
theorem qFU {c:Code} {Q:Exit->St->Prop} {fr fr':Fr} {hp hp':List Blk} (t i:Nat) (ks:List Nat) (hk:Nat.ble C.k i=true) (hks:((List.range C.k).all (aR hp))=true) (hal:aR hp i=true) {sz n ty:Nat} {es:List D} (ht:fr.get t=.msl i sz 0 n) (hb:hp[i]?=some (.flat ty sz es)) (hn:n=es.length) (hf:Fr.mapRef (frz i (.flat ty sz es) (aR hp)) (Fr.keep ks fr)=fr') (hh:(hp.map (Blk.mapRef (frz i (.flat ty sz es) (aR hp)))).set i .dead=hp')
    (h:TWp C c ⟨(t,.d (.sl sz es)) :: fr',hp'⟩ Q):TWp C c ⟨fr,hp⟩ Q:=by
  have hB:hp.getD i .dead=.flat ty sz es:=by rw [List.getD_eq_getElem?_getD,hb];rfl
  intro g a w hs;obtain⟨g',hs'⟩:=hs.freeze i (Nat.le_of_ble_eq_true hk) hal (λj hj=>List.all_eq_true.1 hks j (List.mem_range.2 hj));subst hf hh;refine h g' a w ?_;simp only [St.freeze,hB] at hs';refine { hs' with fr:=λu=>?_ };have hu:=hs'.fr u;simp only [Fr.get];split
  · rename_i e
    subst e;rw [Fr.get_mapRef,ht] at hu;simp only [AV.mapRef,frz,if_true] at hu;rw [if_pos ⟨trivial,by omega⟩] at hu;subst hn;simpa using hu
  rw [Fr.get_mapRef];rcases Fr.get_keep fr ks u with e|e
  · rw [e,<- Fr.get_mapRef];exact hu
  rw [e];exact .junk _
theorem tA {t sz:Nat} {α:Type} {f:α->D} {xs:List α} (hf:∀ x,D.mem0 (f x)=true):xG (.flat t sz (xs.map f)):=by
  intro e he;obtain⟨x,hx,rfl⟩:=List.mem_map.1 he;exact hf _
theorem OJ {α : Type} {a b : α} (h : some a = some b) : a = b := Option.some.inj h
theorem SJ {α : Type} {a b : α} (h : some a = some b) : b = a := (Option.some.inj h).symm
theorem Q {α : Sort _} {a : α} : a = a := rfl
theorem BE {α β : Type} {m : Option α} {k : α → Option β} {r : β} {C : Prop} (h : aD m k = some r) (f : ∀ x, m = some x → k x = some r → C) : C := (BI h).elim fun x h => f x h.1 h.2
theorem GE {α : Type} {p : Prop} [Decidable p] {k : Option α} {r : α} {C : Prop} (h : aE p k = some r) (f : p → k = some r → C) : C := f (GI h).1 (GI h).2
theorem VE {α β : Type} {l : List α} {i : Int} {k : α → Option β} {r : β} {C : Prop} (h : bE l i k = some r) (f : ∀ x, (0 ≤ i ∧ l[i.toNat]? = some x) → k x = some r → C) : C := (GV h).elim fun x h => f x h.1 h.2
theorem IE {α β : Type} {m : Option β} {x : α ⊕ β} {C : Prop} (h : aL m = some x) (f : ∀ v, m = some v → x = .inr v → C) : C := (II h).elim fun v h => f v h.1 h.2
theorem zQQ {α : Type _} {l : List α} {i : Nat} {a : α} : l[i]? = some a ↔ ∃ h : i < l.length, l[i] = a := List.getElem?_eq_some_iff
theorem zQR {α : Type _} {l : List α} {i : Nat} (h : i < l.length) : l[i]? = some l[i] := List.getElem?_eq_getElem h
theorem zQM {α : Type _} {l : List α} {i : Nat} {a : α} (h : l[i]? = some a) : a ∈ l := List.mem_of_getElem? h
theorem zQD {α : Type _} {l : List α} {i : Nat} {a : α} : l.getD i a = l[i]?.getD a := List.getD_eq_getElem?_getD
theorem zQL {α : Type _} {a b : List α} : (a ++ b).length = a.length + b.length := List.length_append
theorem zQO {α : Type _} {b : α} {β : Type _} {x : Option β} {f : β → α} : Option.map f x = some b ↔ ∃ a, x = some a ∧ f a = b := Option.map_eq_some_iff
theorem zQP {α : Type _} {β : Type _} {f : α → β} {l : List α} {i : Nat} : (List.map f l)[i]? = Option.map f l[i]? := List.getElem?_map
theorem zQA (a b : Bool) : ((a && b) = true) = (a = true ∧ b = true) := Bool.and_eq_true a b
theorem zQN {α : Type _} {a : α} {s t : List α} : a ∈ s ++ t ↔ a ∈ s ∨ a ∈ t := List.mem_append
theorem zQT {α : Type _} {p : α → Bool} {l : List α} : l.all p = true ↔ ∀ x, x ∈ l → p x = true := List.all_eq_true
theorem zQU {α : Type _} {p : α → Bool} {l : List α} : l.any p = true ↔ ∃ x, x ∈ l ∧ p x = true := List.any_eq_true
theorem zQV (n : Nat) : ¬ n < 0 := Nat.not_lt_zero n
theorem zQB {α : Type _} {a b : α} {l : List α} : b ∈ a :: l ↔ b = a ∨ b ∈ l := List.mem_cons
theorem zQC {α β : Type _} {l : List α} (f : α → β) : (l.map f).length = l.length := List.length_map f
theorem zQW (n : Nat) : n ≤ n := Nat.le_refl n
variable {C:Ctx} {st:St} {g:Gh} {a:Act} {w:World} {P:Program}
section ends
theorem EndsS.cellR {P:Program} {st:St} {a t id off s:Nat} {ty:TypeId} {cs:List AV} {T:Tab} (x:AV) {d:D} (hT:TabOk P T) (hl:lk T.lay t=some (true,s)) (ha:st.fr.get a=.mptr id 0 0 off) (hb:st.hp[id]?=some (.box ty cs)) (hc:Nat.ble (off+s) cs.length=true) (hv:jT ((cs.drop off).take s)=x) (hs:Snap st.hp x d):EndsS P [.cell a t] d st:=
  EndsS.cell x (hT.lay hl) ha hb hc hv hs
end ends
theorem vA {G:FuncId} (hc:iF P G=true) (args:Array Value) (w:World):(callFunc G args).run P w=.ok (.enter G args) w:=by
  unfold iF at hc
  cases hfn:P.funcs[G]? with
  | none=>simp [hfn] at hc
  | some fn=>
    simp only [hfn,zQA,Bool.not_eq_true'] at hc;have hb:fn.body.isNone=false:=by cases h:fn.body<;>simp_all
    unfold callFunc;simp only [Sem.run_bind,run_program,Result.andThen_ok,hfn];rw [if_neg (by rw [hc.1];exact Bool.false_ne_true),if_neg (by rw [hb];exact Bool.false_ne_true)];rfl
def ltM {α:Type} (m:α->α->Option Int) (x y:α):Bool:=decide ((m x y).getD 0 < 0)
structure SortOk {α:Type} (m:α->α->Option Int):Prop where
  tot:∀ x y,∃ r,m x y=some r
  irrefl:∀ x,ltM m x x=false
  trans:∀ x y z,ltM m x y=true->ltM m y z=true->ltM m x z=true
  ntrans:∀ x y z,ltM m x y=false->ltM m y z=false->ltM m x z=false
  anti:∀ x y,ltM m x y=false->ltM m y x=false->x=y
section sort
variable {α:Type} {m:α->α->Option Int}
end sort
theorem qDJ {α:Type} {l:List α} {i:Nat} {x:α} (h:l[i]?=some x):l.set i x=l:=by
  apply List.ext_getElem?;intro j;by_cases e:i=j
  · subst e;rw [List.getElem?_set_self (zQQ.1 h).1,h]
  rw [List.getElem?_set_ne e]
theorem sK {C:Ctx} {fr:Fr} {hp:List Blk} {ops:Array Oper} {l:List Oper} {K:St->Prop} (i:Nat) {t:TypeId} {cs:List AV} (cs':List AV) (hb:hp[i]?=some (.box t cs)) (he:cs=cs') (h:aM C ops l ⟨fr,hp.set i (.box t cs')⟩ K):aM C ops l ⟨fr,hp⟩ K:=by
  subst he;rwa [qDJ hb] at h
theorem Sim.handedM (hs:Sim C st g a w) {ids:List Nat} (hnd:ids.Nodup) (mv:Nat->Bool):Out ⟨C.P,0,w,(eT ids st.hp).length,g.canon ids,mv⟩ (eT ids st.hp) (g.canon ids) w:=by
  have h:=hs.handed hnd;exact { h with keep:=h.keep,own:=h.own,stay:=λi b hi _ hp=>h.stay i b hi rfl hp,kle:=h.kle }
def jB:AV->Option (FuncId×List AV)
  | .d (.fn F)=>some (F,[])
  | .d (.clo F cs)=>some (F,cs.map .d)
  | .fnc F cs=>some (F,cs)
  | _=>none
theorem gO {x:AV} {F:FuncId} {cs:List AV} {v:Value} (h:ARep w g x v) (hc:jB x=some (F,cs)):∃ vs:Array Value,v=.func (.func F) #[] vs/\Pw (ARep w g) cs vs.toList:=by
  cases h with
  | d d v hd=>
    cases hd with
    | fn f=>cases hc;exact⟨#[],rfl,rfl,λi c v h=>by simp at h⟩
    | clo f ds vs hl h=>
      cases hc;refine⟨vs,rfl,by simpa using hl,λi c v hci hvi=>?_⟩;simp only [zQP,zQO] at hci;obtain⟨d,hd,rfl⟩:=hci;exact .d _ _ (h i d v hd (by simpa using hvi))
    | _=>cases hc
  | fnc f cs vs hl h=>cases hc;exact⟨vs,rfl,by simpa using hl,λi c v hci hvi=>h i c v hci (by simpa using hvi)⟩
  | _=>cases hc
theorem qEN {o:Oper} {K:St->Prop} {f:Operand} {xs:Array Operand} {ts:Array TypeId} {F:FuncId} {c:AV} {cs:List AV} (ids:List Nat) (mv:Nat->Bool) (args:List AV) (r:AV) (hp':List Blk) (ho:o.op=.call { callee:=.value f,args:=xs,argTypes:=ts }) (hd:gG C.n o.dst=true)
    (hf:st.fr.ev f=c) (hc:jB c=some (F,cs)) (hnd:ids.Nodup) (hal:(ids.all λj=>aR st.hp j)=true) (hmv:((List.range C.k).all λj=>!mvd ids mv j||C.mv j)=true) (hx:((xs.toList.map st.fr.ev)++cs).map (AV.mapRef (toName (aC ids)))=args) (hret:Ret C.P F (eT ids st.hp) mv args r hp')
    (hK:K (St.put ⟨Fr.mapRef (bQ (mvd ids mv)) st.fr,eO ids (st.hp.map (Blk.mapRef (bQ (mvd ids mv)))) hp'⟩ o.dst (r.mapRef (fwd ids st.hp.length)))):OpOk C o st K:=by
  intro g a w Q hs;have hfv:=hs.ev f;rw [hf] at hfv;obtain⟨vs,hv,hvs⟩:=gO hfv hc
  have hf':∀ i j,aC ids i=some j->(g.canon ids).phi j=g.phi i/\(g.canon ids).psi j=g.psi i:=by
    intro i j hij;have:=aH ids i j hij;simp [Gh.canon,this]
  have hargs:Pw (ARep w (g.canon ids)) args (xs.map a.eval++vs).toList:=by
    rw [<- hx,Array.toList_append,List.map_append];refine Pw.append ⟨by simp,λi x v hxi hvi=>?_⟩ ⟨by simpa using hvs.1,λi x v hxi hvi=>?_⟩
    · simp only [List.map_map,zQP,zQO] at hxi
      simp only [Array.toList_map,zQP,zQO] at hvi;obtain⟨y,hy,rfl⟩:=hxi;obtain⟨z,hz,rfl⟩:=hvi;rw [hy] at hz;cases hz;exact ARep.mapRef (w:=w) (g:=g) (g':=g.canon ids) (λd v hd=>hd) (ARep.toName hf' λ_ hb=>hb) (hs.ev y)
    simp only [zQP,zQO] at hxi;obtain⟨d,hd',rfl⟩:=hxi;exact ARep.mapRef (w:=w) (g:=g) (g':=g.canon ids) (λd v hd=>hd) (ARep.toName hf' λ_ hb=>hb) (hvs.2 i d v hd' hvi)
  have hal':∀ j∈ids,aR st.hp j=true:=λj hj=>zQT.1 hal j hj;have hlt:∀ j∈ids,j < st.hp.length:=λj hj=>by obtain⟨B,hB,_⟩:=bW (hal' j hj);exact (zQQ.1 hB).1
  have hmv':∀ j,j < C.k->mvd ids mv j=true->C.mv j=true:=λj hj hm=>by
    have:=zQT.1 hmv j (List.mem_range.2 hj);simpa [hm] using this
  simp only [Oper.wp,cB ho hv hret.1,Oper.upon_enter];refine (hret.2 w (g.canon ids) _ (hs.handedM hnd mv) hargs).mono ?_;rintro e w' ⟨v,g',rfl,hout,hr⟩;refine⟨_,_,hK,(hs.backM mv hnd hal' hmv' hout).put' hd ?_⟩;refine ARep.mapRef (w:=w') (g:=g') (λd v hd=>hd.mono (λb hb=>?_) λ_ _=>rfl) (λx v hx hr=>hx.fwd hnd hlt hr) hr;by_cases hlt':b < w.heap.size
  · exact .inl (hout.Xold b hb hlt')
  exact .inr ⟨by omega,hb⟩
section
variable {ops:Array Oper} {l:List Oper} {K:St->Prop} {fr:Fr} {hp:List Blk} {d:Nat} {ty:TypeId} {pos:String} {after:Array Edge}
theorem eK {f : Operand} {xs : Array Operand} {ts : Array TypeId} {F : FuncId} {c : AV} {cs : List AV} (ids : List Nat) (mv : Nat -> Bool) {args : List AV} {r r' : AV} {fr2 : Fr} {hh hp' hp2 : List Blk} (hd : decide (d < C.n) = true) (hf : fr.ev f = c) (hc : jB c = some (F, cs)) (hnd : ids.Nodup) (hal : (ids.all fun j => aR hp j) = true)
    (hmv:((List.range C.k).all λj=>!mvd ids mv j||C.mv j)=true) (hx:((xs.toList.map fr.ev)++cs).map (AV.mapRef (toName (aC ids)))=args) (hhd:eT ids hp=hh) (hret:Ret C.P F hh mv args r hp') (hr:r.mapRef (fwd ids hp.length)=r') (hfr:Fr.mapRef (bQ (mvd ids mv)) fr=fr2) (hb:eO ids (hp.map (Blk.mapRef (bQ (mvd ids mv)))) hp'=hp2)
    (h:aM C ops l ⟨(d,r') :: fr2,hp2⟩ K):aM C ops (⟨some d,.call { callee:=.value f,args:=xs,argTypes:=ts },ty,pos,after,none⟩ :: l) ⟨fr,hp⟩ K:=by
  subst hr hb hhd hfr;exact bZ rfl (qEN ids mv args r hp' rfl hd hf hc hnd hal hmv hx hret h)
end
end Go.TL
