/- Texts of this proof, joined, without what it does not use. No condition. -/
import Derived.DeepKeys
import Derived.Test.YtciilodpnepdbaaDoorQi

namespace Go.TL
variable {C:Ctx} {ops:Array Oper} {l:List Oper} {K:St->Prop} {fr:Fr} {hp:List Blk} {P:Program} {w:World} {g:Gh}
section drawn
variable {acc:List Rec} {d:Nat} {op:Op} {ty:TypeId} {pos:String} {after:Array Edge} {gd:Option (Nat×Bool)}
theorem DT (h:aM C ops l ⟨fr,hp⟩ K) (hE:pT ops.toList acc.length (acc.map Rec.d) (acc.map fB)=true):TDr C ops K l fr hp acc:=.tail l fr hp acc hE h
end drawn
def plc (P:Program) (t:TypeId):Option (List (Nat×Nat)):=
  match P.underlying t with
  | some (.struct fs)=>fs.toList.mapM λf=>(P.info? f.type).map λi=>(f.offset,i.size)
  | _=>none
def wZ (pl:List (Nat×Nat)):List AV->List (Nat×AV)->Option (List AV)
  | cs,[]=>some cs
  | cs,(i,v) :: r=>
    match pl[i]? with
    | some (off,s)=>bif v.flat&&v.cells.length == s&&Nat.ble (off+s) cs.length then wZ pl (spl cs off v.cells) r else none
    | none=>none
theorem wW (pl : Array (Nat × Nat)) : ∀ (parts : List (Nat × AV)) (vals : List (Nat × Value)) (cs cs' : List AV) (cells : Array Value), Pw (fun (x : Nat × AV) (y : Nat × Value) => x.1 = y.1 /\ ARep w g x.2 y.2) parts vals ->
    Pw (ARep w g) cs cells.toList->wZ pl.toList cs parts=some cs'->∃ cells',Instr.fill (pl[·]?) cells vals=some cells'/\Pw (ARep w g) cs' cells'.toList
  | [],vals,cs,cs',cells,hp,hc,h=>by
    have:vals=[]:=by have:=hp.1;simpa using this.symm
    subst this;cases h;exact⟨cells,rfl,hc⟩
  | (i,v) :: r,[],cs,cs',cells,hp,hc,h=>by have:=hp.1;simp at this
  | (i,v) :: r,(j,u) :: vals,cs,cs',cells,hp,hc,h=>by
    obtain⟨he,hvu⟩:=hp.2 0 _ _ rfl rfl;simp only at he hvu;subst he;simp only [wZ] at h;split at h
    · rename_i off s hpl
      cases hb:(v.flat&&v.cells.length == s&&Nat.ble (off+s) cs.length) with
      | false=>rw [hb] at h;cases h
      | true=>
        rw [hb] at h;simp only [Bool.and_eq_true,beq_iff_eq,Nat.ble_eq] at hb;obtain⟨⟨hf,hs⟩,hle⟩:=hb;have hpv:=(hvu.pw hf).1;have hus:u.cells.size=s:=by have:=hpv.1;simp at this;omega
        have hcl:=hc.1;simp only [Array.length_toList] at hcl;have hfo:=qAA cells u.cells off (by omega)
        obtain ⟨cells', h1, h2⟩ := wW pl r vals (spl cs off v.cells) cs' (u.cells.zipIdx.foldl (fun cs (c, j) => cs.setIfInBounds (off + j) c) cells)
          ⟨by have:=hp.1;simpa using this,λi x y hx hy=>hp.2 (i+1) x y (by simpa using hx) (by simpa using hy)⟩ (by rw [hfo];exact hc.spl off hpv) h
        refine⟨cells',?_,h2⟩;have hpl':pl[i]?=some (off,s):=by simpa using hpl
        simp only [Instr.fill,hpl'];rw [if_neg (by simp [hus];omega)];exact h1
    cases h
theorem qHD {fs:List Field} {pl:List (Nat×Nat)} (w:World) (h:fs.mapM (λf=>(P.info? f.type).map λi=>(f.offset,i.size))=some pl):(fs.mapM (m:=Sem) λf=>do pure (f.offset,<- sizeOf f.type)).run P w=.ok pl w:=by
  induction fs generalizing pl with
  | nil=>simp at h;subst h;simp
  | cons f r ih=>
    rw [List.mapM_cons] at h;simp only [bind,Option.bind_eq_some_iff,pure,Option.some.injEq,Option.map_eq_some_iff] at h;obtain⟨p,⟨i,hi,rfl⟩,pl',hpl,rfl⟩:=h;have hf:(do pure (f.offset,<- sizeOf f.type):Sem (Nat×Nat)).run P w=.ok (f.offset,i.size) w:=by simp [sizeOf,typeInfo,hi]
    rw [List.mapM_cons,Sem.run_bind,hf,Result.andThen_ok,Sem.run_bind,ih hpl,Result.andThen_ok,Sem.run_pure]
theorem iT {o:Oper} {ev:Operand->AV} {t:TypeId} {parts:Array (Nat×Operand)} {z:Value} {zc cs:List AV} {pl:List (Nat×Nat)} {v:AV} (ho:o.op=.build t parts) (hpl:plc C.P t=some pl) (hz:(C.P.info? t).bind (·.zero)=some z) (hzf:(bG z).flat=true) (hzc:(bG z).cells=zc)
    (hf:wZ pl zc (parts.toList.map λp=>(p.1,ev p.2))=some cs) (hv:jT cs=v):RdOk C o ev hp v:=
  RdOk.mk λst hhp hag g a w hs=>by
    subst hv hzc;have hz':=eE w g z;have hpz:=(hz'.pw hzf).1
    have hparts:Pw (λ(x:Nat×AV) (y:Nat×Value)=>x.1=y.1/\ARep w g x.2 y.2) (parts.toList.map λp=>(p.1,ev p.2)) (parts.map λp=>(p.1,a.eval p.2)).toList:=by
      refine⟨by simp,λi x y hx hy=>?_⟩;simp only [List.getElem?_map,Option.map_eq_some_iff,Array.toList_map] at hx hy;obtain⟨p,hp,rfl⟩:=hx;obtain⟨q,hq,rfl⟩:=hy;rw [hp] at hq;cases hq;refine⟨rfl,?_⟩;have:=hs.ev p.2
      rw [hag p.2 (by
        simp only [ho, Op.operands];have := List.mem_of_getElem? hp
        first | exact Array.mem_map.2 ⟨p, Array.mem_toList_iff.1 this, rfl⟩ | (simp only [List.mem_toArray, List.mem_map]; exact ⟨p, this, rfl⟩))] at this
      exact this
    unfold plc at hpl;split at hpl
    · rename_i fs hu
      obtain⟨cells',h1,h2⟩:=wW pl.toArray _ _ _ _ z.cells hparts hpz (by simpa using hf);refine⟨.agg cells',?_,lG (by have:=h2.1;simpa using this) λi c v hc hv=>h2.2 i c v hc (by simpa using hv)⟩;obtain⟨inf,hinf,hzz⟩:=Option.bind_eq_some_iff.1 hz;have hm:=qHD (P:=C.P) w hpl
      have hma:(fs.mapM (m:=Sem) λf=>do pure (f.offset,<- sizeOf f.type)).run C.P w=.ok pl.toArray w:=by
        rw [Array.mapM_eq_mapM_toList,Sem.run_map,hm];rfl
      have h1':Instr.fill (λx=>pl.toArray[x]?) z.cells (parts.map λp=>(p.1,a.eval p.2)).toList=some cells':=h1;have hzv:(zeroValue t).run C.P w=.ok z w:=by simp [zeroValue,typeInfo,hinf,hzz]
      have hb:(Instr.build t (parts.map λp=>(p.1,a.eval p.2))).run C.P w=.ok (.agg cells') w:=by
        unfold Instr.build;rw [Sem.run_bind,hzv,Result.andThen_ok,Sem.run_bind,run_underlying hu,Result.andThen_ok];simp only;rw [Sem.run_bind,hma,Result.andThen_ok];simp only [h1',Sem.run_pure]
      simp only [execOp,ho];simp only [Sem.run_bind];have hb':(Instr.build t (parts.map λx=>(x.1,a.eval x.2))).run C.P w=.ok (.agg cells') w:=hb;rw [hb'];rfl
    cases hpl
def litOk:TypeDesc->Lit->Prop
  | .bool,.bool _=>True
  | .int k,.int k' n=>k'=k/\k.min<=n/\n<=k.max
  | .string,.string bs=>bs.length<=maxLen
  | _,_=>False
def litVal:Lit->Value
  | .bool b=>.bool b
  | .int k n=>.int k n
  | .string bs=>.string ⟨bs.toArray⟩
  | _=>undef
def litD:D->Option Lit
  | .bool b=>some (.bool b)
  | .int k n=>some (.int k n)
  | .str s=>some (.string s.data.toList)
  | _=>none
def qEZ:List D->Option (List Lit)
  | []=>some []
  | d :: r=>match litD d,qEZ r with
    | some x,some xs=>some (x :: xs)
    | _,_=>none
def qEY:List TypeDesc->List Lit->Prop
  | [],[]=>True
  | k :: ks,x :: xs=>litOk k x/\qEY ks xs
  | _,_=>False
theorem cG {o:Oper} {ev:Operand->AV} {t:TypeId} {parts:Array (Nat×Operand)} {z:Value} {zc cs:List AV} {pl:List (Nat×Nat)} {ds:List D} (ho:o.op=.build t parts) (hpl:plc C.P t=some pl) (hz:(C.P.info? t).bind (·.zero)=some z) (hzf:(bG z).flat=true) (hzc:(bG z).cells=zc)
    (hf:wZ pl zc (parts.toList.map λp=>(p.1,ev p.2))=some cs) (hv:jT cs=.d (.agg ds)):RdOk C o ev hp (.d (.agg ds)):=iT ho hpl hz hzf hzc hf hv
theorem cC {F:FuncId} {fn:Func} {c:Code} {hp hp':List Blk} {mv:Nat->Bool} {args:List AV} {r:AV} {n:Nat} {rs:List ResultVar} (hcb:iF P F=true) (hf:P.funcs[F]?=some fn) (hb:fn.body=some c) (hn:fn.ntmps=n) (hrs:fn.results.toList=rs) (hle:Nat.ble args.length n=true)
    (h:∀ w g,TWp ⟨P,n,w,hp.length,g,mv⟩ c ⟨jD args,hp⟩ (qJH P hp.length rs r hp')):Ret P F hp mv args r hp':=by
  subst hn hrs;exact vV hcb hf hb (Nat.le_of_ble_eq_true hle) h
theorem qGU {c:Operand} {x y:Code} {Q:Exit->St->Prop} {b:Bool} (hc:fr.ev c=.d (.bool b)) (k:Bool) (hk:b=k) (h:TWp C (bif k then x else y) ⟨fr,hp⟩ Q):TWp C (.cond c x y) ⟨fr,hp⟩ Q:=by
  subst hk;exact TC b hc (λe=>by subst e;exact h) (λe=>by subst e;exact h)
theorem qI (t:Nat) {v:AV} (v':AV) (hv:Fr.get fr t=v) (he:v=v') (h:aM C ops l ⟨(t,v') :: fr,hp⟩ K):aM C ops l ⟨fr,hp⟩ K:=by
  subst he;intro g a w hs;refine h g a w { hs with fr:=λt'=>?_ };have:=hs.fr t';simp only [Fr.get];split
  · rename_i e;subst e;rw [<- hv];exact this
  exact this
theorem qAW {id sz n:Nat} {ty:TypeId} {es:List D} (h:hp[id]?=some (.flat ty sz es)) (hn:n=es.length):Snap hp (.msl id sz 0 n) (.sl sz es):=
  (Snap.msl id sz 0 n ty es h (by omega)).same (by subst hn;simp)
inductive SnapsO (hp:List Blk):List AV->List D->Prop
  | nil:SnapsO hp [] []
  | cons {x:AV} {d:D} {xs:List AV} {ds:List D} (h:Snap hp x d) (h1:d.one=true) (hr:SnapsO hp xs ds):SnapsO hp (x :: xs) (d :: ds)
theorem vK {cs:List AV} {ds:List D} (h:SnapsO hp cs ds):Snap hp (.agg cs) (.agg ds):=by
  have key:cs.length=ds.length/\(∀ d∈ds,d.one=true)/\∀ (i:Nat) (c:AV) (d:D),cs[i]?=some c->ds[i]?=some d->Snap hp c d:=by
    induction h with
    | nil=>exact⟨rfl,λd hd=>by simp at hd,λi c d hc=>by simp at hc⟩
    | cons h h1 _ ih=>
      refine⟨by simp [ih.1],λd hd=>?_,λi c d hc hd=>?_⟩
      · simp only [List.mem_cons] at hd
        rcases hd with rfl|hd
        · exact h1
        exact ih.2.1 d hd
      cases i with
      | zero=>simp at hc hd;subst hc hd;exact h
      | succ i=>exact ih.2.2 i c d (by simpa using hc) (by simpa using hd)
  exact .agg cs ds key.1 key.2.1 key.2.2
def evD:List AV->Option (List D)
  | []=>some []
  | .d x :: r=>match evD r with|some xs=>some (x :: xs)|none=>none
  | _=>none
theorem kW:∀ {cs:List AV} {ds:List D},evD cs=some ds->cs=ds.map .d
  | [],ds,h=>by cases h;rfl
  | c :: r,ds,h=>by
    cases c with
    | d x=>
      simp only [evD] at h;split at h
      · rename_i xs hx;cases h;rw [kW hx];rfl
      cases h
    | _=>simp [evD] at h
theorem s_litD {d:Nat} {ty:TypeId} {pos:String} {after:Array Edge} {t e:TypeId} {parts:Array (Nat×Operand)} {n sz by':Nat} {ds:List D} {z:Value} (xs:List Operand) (hd:decide (d < C.n)=true) (hl:sel C.P t=some (e,sz,by')) (hz:(C.P.info? e).bind (·.zero)=some z) (hp':eJ parts xs) (hx:evD (xs.map fr.ev)=some ds) (hn:Nat.beq ds.length n=true)
    (hs:(ds.all λd=>Nat.beq d.cells.length sz)=true) (hsmall:Nat.ble (n * sz) 16777216=true) (h:aM C ops l ⟨(d,.msl hp.length sz 0 n) :: fr,hp++[.flat e sz ds]⟩ K):aM C ops (⟨some d,.buildSlice t n parts,ty,pos,after,none⟩ :: l) ⟨fr,hp⟩ K:=
  s_lit xs hd hl hz hp' (kW hx) (Nat.eq_of_beq_eq_true hn) (λd hd=>Nat.eq_of_beq_eq_true (List.all_eq_true.1 hs d hd)) (Nat.le_of_ble_eq_true hsmall) h
theorem RetN.mk {F:FuncId} {ds:List D} {d:D} {r:AV} {hp':List Blk} (h:Ret P F [] (λ_=>false) (ds.map .d) r hp') (hs:Snap hp' r d) (hm:AMem0 r) (hb:∀ B∈hp',xG B):RetN P F ds d:=⟨_,r,hp',h,hs,hm,hb⟩
theorem RetN.lit {F:FuncId} {ds:List D} {d:D} (h:Ret P F [] (λ_=>false) (ds.map .d) (.d d) []) (hm:D.mem0 d=true):RetN P F ds d:=.mk h (.d d) (.d d hm) λB hB=>by simp at hB
theorem yP {α:Type} {f:α->D} {xs:List α} {i:Nat} {x:α} (h:xs[i]?=some x):(xs.map f)[i]?=some (f x):=by simp [h]
end Go.TL
