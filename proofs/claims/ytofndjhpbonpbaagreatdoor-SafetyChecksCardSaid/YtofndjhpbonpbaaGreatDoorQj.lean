/- Texts of this proof, joined, without what it does not use. No condition. -/
import Derived.DeepKeys
import Derived.Test.YtofndjhpbonpbaaGreatDoorQi

namespace Go.TL
variable {C:Ctx} {ops:Array Oper} {l:List Oper} {K:St->Prop} {fr:Fr} {hp:List Blk} {P:Program} {w:World} {g:Gh}
section drawn
variable {acc:List Rec} {d:Nat} {op:Op} {ty:TypeId} {pos:String} {after:Array Edge} {gd:Option (Nat×Bool)}
theorem DT (h:cE C ops l ⟨fr,hp⟩ K) (hE:qEQ ops.toList acc.length (acc.map Rec.d) (acc.map nV)=true):TDr C ops K l fr hp acc:=.tail l fr hp acc hE h
end drawn
def plc (P:Program) (t:TypeId):Option (List (Nat×Nat)):=
  match P.underlying t with
  | some (.struct fs)=>fs.toList.mapM λf=>(P.info? f.type).map λi=>(f.offset,i.size)
  | _=>none
def qGS (pl:List (Nat×Nat)):List AV->List (Nat×AV)->Option (List AV)
  | cs,[]=>some cs
  | cs,(i,v) :: r=>
    match pl[i]? with
    | some (off,s)=>bif v.flat&&v.cells.length == s&&Nat.ble (off+s) cs.length then qGS pl (spl cs off v.cells) r else none
    | none=>none
theorem qAL (pl : Array (Nat × Nat)) : ∀ (parts : List (Nat × AV)) (vals : List (Nat × Value)) (cs cs' : List AV) (cells : Array Value), Pw (fun (x : Nat × AV) (y : Nat × Value) => x.1 = y.1 /\ ARep w g x.2 y.2) parts vals ->
    Pw (ARep w g) cs cells.toList->qGS pl.toList cs parts=some cs'->∃ cells',Instr.fill (pl[·]?) cells vals=some cells'/\Pw (ARep w g) cs' cells'.toList
  | [],vals,cs,cs',cells,hp,hc,h=>by
    have:vals=[]:=by have:=hp.1;simpa using this.symm
    subst this;cases h;exact⟨cells,rfl,hc⟩
  | (i,v) :: r,[],cs,cs',cells,hp,hc,h=>by have:=hp.1;simp at this
  | (i,v) :: r,(j,u) :: vals,cs,cs',cells,hp,hc,h=>by
    obtain⟨he,hvu⟩:=hp.2 0 _ _ rfl rfl;simp only at he hvu;subst he;simp only [qGS] at h;split at h
    · rename_i off s hpl
      cases hb:(v.flat&&v.cells.length == s&&Nat.ble (off+s) cs.length) with
      | false=>rw [hb] at h;cases h
      | true=>
        rw [hb] at h;simp only [Bool.and_eq_true,beq_iff_eq,Nat.ble_eq] at hb;obtain⟨⟨hf,hs⟩,hle⟩:=hb;have hpv:=(hvu.pw hf).1;have hus:u.cells.size=s:=by have:=hpv.1;simp at this;omega
        have hcl:=hc.1;simp only [Array.length_toList] at hcl;have hfo:=qVB cells u.cells off (by omega)
        obtain ⟨cells', h1, h2⟩ := qAL pl r vals (spl cs off v.cells) cs' (u.cells.zipIdx.foldl (fun cs (c, j) => cs.setIfInBounds (off + j) c) cells)
          ⟨by have:=hp.1;simpa using this,λi x y hx hy=>hp.2 (i+1) x y (by simpa using hx) (by simpa using hy)⟩ (by rw [hfo];exact hc.spl off hpv) h
        refine⟨cells',?_,h2⟩;have hpl':pl[i]?=some (off,s):=by simpa using hpl
        simp only [Instr.fill,hpl'];rw [if_neg (by simp [hus];omega)];exact h1
    cases h
theorem zDM {fs:List Field} {pl:List (Nat×Nat)} (w:World) (h:fs.mapM (λf=>(P.info? f.type).map λi=>(f.offset,i.size))=some pl):(fs.mapM (m:=Sem) λf=>do pure (f.offset,<- sizeOf f.type)).run P w=.ok pl w:=by
  induction fs generalizing pl with
  | nil=>simp at h;subst h;simp
  | cons f r ih=>
    rw [List.mapM_cons] at h;simp only [bind,Option.bind_eq_some_iff,pure,Option.some.injEq,Option.map_eq_some_iff] at h;obtain⟨p,⟨i,hi,rfl⟩,pl',hpl,rfl⟩:=h;have hf:(do pure (f.offset,<- sizeOf f.type):Sem (Nat×Nat)).run P w=.ok (f.offset,i.size) w:=by simp [sizeOf,typeInfo,hi]
    rw [List.mapM_cons,Sem.run_bind,hf,Result.andThen_ok,Sem.run_bind,ih hpl,Result.andThen_ok,Sem.run_pure]
theorem nW {o:Oper} {ev:Operand->AV} {t:TypeId} {parts:Array (Nat×Operand)} {z:Value} {zc cs:List AV} {pl:List (Nat×Nat)} {v:AV} (ho:o.op=.build t parts) (hpl:plc C.P t=some pl) (hz:(C.P.info? t).bind (·.zero)=some z) (hzf:(cU z).flat=true) (hzc:(cU z).cells=zc)
    (hf:qGS pl zc (parts.toList.map λp=>(p.1,ev p.2))=some cs) (hv:rP cs=v):RdOk C o ev hp v:=
  RdOk.mk λst hhp hag g a w hs=>by
    subst hv hzc;have hz':=fY w g z;have hpz:=(hz'.pw hzf).1
    have hparts:Pw (λ(x:Nat×AV) (y:Nat×Value)=>x.1=y.1/\ARep w g x.2 y.2) (parts.toList.map λp=>(p.1,ev p.2)) (parts.map λp=>(p.1,a.eval p.2)).toList:=by
      refine⟨by simp,λi x y hx hy=>?_⟩;simp only [List.getElem?_map,Option.map_eq_some_iff,Array.toList_map] at hx hy;obtain⟨p,hp,rfl⟩:=hx;obtain⟨q,hq,rfl⟩:=hy;rw [hp] at hq;cases hq;refine⟨rfl,?_⟩;have:=hs.ev p.2
      rw [hag p.2 (by
        simp only [ho, Op.operands];have := List.mem_of_getElem? hp
        first | exact Array.mem_map.2 ⟨p, Array.mem_toList_iff.1 this, rfl⟩ | (simp only [List.mem_toArray, List.mem_map]; exact ⟨p, this, rfl⟩))] at this
      exact this
    unfold plc at hpl;split at hpl
    · rename_i fs hu
      obtain⟨cells',h1,h2⟩:=qAL pl.toArray _ _ _ _ z.cells hparts hpz (by simpa using hf);refine⟨.agg cells',?_,pE (by have:=h2.1;simpa using this) λi c v hc hv=>h2.2 i c v hc (by simpa using hv)⟩;obtain⟨inf,hinf,hzz⟩:=Option.bind_eq_some_iff.1 hz;have hm:=zDM (P:=C.P) w hpl
      have hma:(fs.mapM (m:=Sem) λf=>do pure (f.offset,<- sizeOf f.type)).run C.P w=.ok pl.toArray w:=by
        rw [Array.mapM_eq_mapM_toList,Sem.run_map,hm];rfl
      have h1':Instr.fill (λx=>pl.toArray[x]?) z.cells (parts.map λp=>(p.1,a.eval p.2)).toList=some cells':=h1;have hzv:(zeroValue t).run C.P w=.ok z w:=by simp [zeroValue,typeInfo,hinf,hzz]
      have hb:(Instr.build t (parts.map λp=>(p.1,a.eval p.2))).run C.P w=.ok (.agg cells') w:=by
        unfold Instr.build;rw [Sem.run_bind,hzv,Result.andThen_ok,Sem.run_bind,run_underlying hu,Result.andThen_ok];simp only;rw [Sem.run_bind,hma,Result.andThen_ok];simp only [h1',Sem.run_pure]
      simp only [execOp,ho];simp only [Sem.run_bind];have hb':(Instr.build t (parts.map λx=>(x.1,a.eval x.2))).run C.P w=.ok (.agg cells') w:=hb;rw [hb'];rfl
    cases hpl
def tA (P:Program):Nat->TypeId->Option (List TypeDesc)
  | 0,_=>none
  | n+1,t=>
    match P.underlying t with
    | some .bool=>some [.bool]
    | some (.int k)=>some [.int k]
    | some .string=>some [.string]
    | some (.struct fs)=>
      match fs.toList.mapM λf=>tA P n f.type with
      | some kss => bif pO P fs.toList 0 (P.cellsOf t) && (kss.map List.length == fs.toList.map fun f => P.cellsOf f.type) && fs.all (·.name != "_") then some kss.flatten else none
      | none=>none
    | _=>none
def zGP:TypeDesc->Lit->Prop
  | .bool,.bool _=>True
  | .int k,.int k' n=>k'=k/\k.min<=n/\n<=k.max
  | .string,.string bs=>bs.length<=maxLen
  | _,_=>False
def eX:Lit->Value
  | .bool b=>.bool b
  | .int k n=>.int k n
  | .string bs=>.string ⟨bs.toArray⟩
  | _=>undef
def litD:D->Option Lit
  | .bool b=>some (.bool b)
  | .int k n=>some (.int k n)
  | .str s=>some (.string s.data.toList)
  | _=>none
def oB:List D->Option (List Lit)
  | []=>some []
  | d :: r=>match litD d,oB r with
    | some x,some xs=>some (x :: xs)
    | _,_=>none
def fJ:List TypeDesc->List Lit->Prop
  | [],[]=>True
  | k :: ks,x :: xs=>zGP k x/\fJ ks xs
  | _,_=>False
theorem qCL {X:Nat->Prop}:∀ (cs:List D) (L:List Lit) (vs:List Value),oB cs=some L->Pw (DRep w X) cs vs->vs=L.map eX
  | [],L,vs,h,hp=>by
    cases h;have:=hp.1;simpa using this.symm
  | d :: r,L,[],h,hp=>by have:=hp.1;simp at this
  | d :: r,L,v :: vs,h,hp=>by
    simp only [oB] at h;split at h
    · rename_i x xs hx hxs
      cases h;rw [List.map_cons,qCL r xs vs hxs ⟨by have:=hp.1;simpa using this,λi x y hx hy=>hp.2 (i+1) x y (by simpa using hx) (by simpa using hy)⟩];have hd:=hp.2 0 d v rfl rfl
      congr 1
      cases d<;>simp only [litD] at hx<;>cases hx<;>cases hd<;>simp [eX]
    cases h
theorem kL:∀ {ks:List TypeDesc} {L:List Lit},fJ ks L->L.length=ks.length
  | [],[],_=>rfl
  | k :: ks,x :: xs,h=>by simp [kL h.2]
  | [],_ :: _,h=>h.elim
  | _ :: _,[],h=>h.elim
theorem uC:∀ {ks ks':List TypeDesc} {L:List Lit},fJ (ks++ks') L->fJ ks (L.take ks.length)/\fJ ks' (L.drop ks.length)
  | [],_,_,h=>⟨trivial,h⟩
  | _ :: _,_,_ :: _,h=>⟨⟨h.1,(uC h.2).1⟩,(uC h.2).2⟩
  | _ :: _,_,[],h=>h.elim
theorem yD (n m:Nat) (IH:∀ (t:TypeId) (ks:List TypeDesc) (L:List Lit),tA P n t=some ks->fJ ks L->P.keyLits n t (L.map eX)=some L) (A:List Value) (tot:Nat):
    ∀ (fs : List Field) (kss : List (List TypeDesc)) (L : List Lit) (o : Nat), fs.mapM (fun f => tA P n f.type) = some kss -> kss.map List.length = (fs.map fun f => P.cellsOf f.type) -> pO P fs o tot = true -> fJ kss.flatten L -> A.drop o = L.map eX ->
      ∃ Ls,fs.mapM (λf=>P.keyLits n f.type ((A.drop f.offset).take (P.cellsOf f.type)))=some Ls/\Ls.flatten=L
  | [],kss,L,o,hk,_,ht,hL,hA=>by
    simp at hk;subst hk
    cases L with
    | nil=>exact⟨[],by simp,rfl⟩
    | cons x r=>exact hL.elim
  | f :: fs,kss,L,o,hk,hlen,ht,hL,hA=>by
    rw [List.mapM_cons] at hk;simp only [bind,Option.bind_eq_some_iff,pure,Option.some.injEq] at hk;obtain⟨k1,hk1,kr,hkr,rfl⟩:=hk;simp only [List.map_cons,List.cons.injEq] at hlen;simp only [pO,Bool.and_eq_true,beq_iff_eq] at ht;simp only [List.flatten_cons] at hL;obtain⟨h1,h2⟩:=uC hL;obtain⟨Ls,e1,e2⟩:=yD n m IH A tot fs kr (L.drop k1.length) (o+P.cellsOf f.type) hkr hlen.2 ht.2 h2 (by rw [<- List.drop_drop,hA,<- hlen.1,List.map_drop]);refine⟨L.take k1.length :: Ls,?_,by rw [List.flatten_cons,e2,List.take_append_drop]⟩;rw [List.mapM_cons];have:(A.drop f.offset).take (P.cellsOf f.type)=(L.take k1.length).map eX:=by rw [ht.1,hA,<- hlen.1,List.map_take]
    rw [this,IH f.type k1 _ hk1 h1,e1];rfl
theorem uE:∀ (n:Nat) (t:TypeId) (ks:List TypeDesc) (L:List Lit),tA P n t=some ks->fJ ks L->P.keyLits n t (L.map eX)=some L
  | 0,_,_,_,h,_=>by cases h
  | n+1,t,ks,L,h,hL=>by
    unfold tA at h;unfold Program.keyLits;split at h
    · rename_i hu
      cases h
      match L,hL with
      | [x],hL=>cases x<;>first|exact hL.1.elim|(simp only [hu,List.map_cons,List.map_nil,eX])
      | [],hL=>exact hL.elim
      | _ :: _ :: _,hL=>exact hL.2.elim
    · rename_i k hu
      cases h
      match L,hL with
      | [x],hL=>
        cases x<;>first|exact hL.1.elim|skip
        rename_i k' m;obtain⟨⟨rfl,h1,h2⟩,_⟩:=hL;simp only [hu,List.map_cons,List.map_nil,eX];rw [if_pos (by simp [Lit.wf,h1,h2])]
      | [],hL=>exact hL.elim
      | _ :: _ :: _,hL=>exact hL.2.elim
    · rename_i hu
      cases h
      match L,hL with
      | [x],hL=>
        cases x<;>first|exact hL.1.elim|skip
        rename_i bs;have:bs.length<=maxLen:=hL.1;simp only [hu,List.map_cons,List.map_nil,eX];rw [if_pos (by simpa [ByteArray.size] using this)]
      | [],hL=>exact hL.elim
      | _ :: _ :: _,hL=>exact hL.2.elim
    · rename_i fs hu
      split at h
      · rename_i kss hk
        cases hb : (pO P fs.toList 0 (P.cellsOf t) && (kss.map List.length == fs.toList.map fun f => P.cellsOf f.type) && fs.all (·.name != "_")) with
        | false=>rw [hb] at h;cases h
        | true=>
          rw [hb] at h;cases h;simp only [Bool.and_eq_true,beq_iff_eq] at hb;obtain⟨Ls,e1,e2⟩:=yD n n (uE n) (L.map eX) (P.cellsOf t) fs.toList kss L 0 hk hb.1.2 hb.1.1 hL (by simp)
          have hlen:(L.map eX).length=P.cellsOf t:=by
            rw [List.length_map,kL hL]
            have:∀ (fs:List Field) (kss:List (List TypeDesc)) (o:Nat),kss.map List.length=(fs.map λf=>P.cellsOf f.type)->pO P fs o (P.cellsOf t)=true->o+kss.flatten.length=P.cellsOf t:=by
              intro fs
              induction fs with
              | nil => intro kss o h1 h2; have : kss = [] := by simpa using h1
                       subst this;simpa [pO] using h2
              | cons f r ih=>
                intro kss o h1 h2
                match kss,h1 with
                | k :: kr,h1=>
                  simp only [List.map_cons,List.cons.injEq] at h1;simp only [pO,Bool.and_eq_true,beq_iff_eq] at h2;have:=ih kr _ h1.2 h2.2;simp only [List.flatten_cons,List.length_append];omega
                | [],h1=>simp at h1
            have:=this fs.toList kss 0 hb.1.2 hb.1.1;omega
          simp only [hu];rw [if_pos ⟨hlen,hb.2⟩,e1];simp [e2]
      cases h
    cases h
theorem zBS {o:Oper} {ev:Operand->AV} {x y:Operand} {t t':TypeId} {cs ds:List D} {L M:List Lit} {ks:List TypeDesc} {b:Bool} (ho:o.op=.binOp .eql t x y t'\/o.op=.binOp .neq t x y t') (hx:ev x=.d (.agg cs)) (hy:ev y=.d (.agg ds))
    (hk:tA C.P 30 t=some ks) (hkt:(C.P.keyTypeAt 30 t&&!C.P.eqGuardType C.P.depth t&&(match C.P.underlying t with|some (.struct _)=>true|_=>false)&&ks.length == C.P.cellsOf t)=true) (hL:oB cs=some L) (hM:oB ds=some M) (h1:fJ ks L) (h2:fJ ks M)
    (hb:L=M↔b=true):RdOk C o ev hp (.d (.bool (match o.op with|.binOp .neq _ _ _ _=>!b|_=>b))):=
  RdOk.mk λst hhp hag g a w hs=>by
    simp only [Bool.and_eq_true,Bool.not_eq_true',beq_iff_eq] at hkt;obtain⟨⟨⟨hkt,hgd⟩,hst⟩,hkl⟩:=hkt
    have open':∀ (z:Operand) (cs:List D) (L:List Lit),z∈o.op.operands->ev z=.d (.agg cs)->oB cs=some L->a.eval z=.agg (L.map eX).toArray:=by
      intro z cs L hz he hl;have h:=hs.ev z;rw [hag z hz,he] at h;generalize a.eval z=v at *
      cases h with
      | d _ _ h=>
        cases h with
        | agg _ vs hlen _ h=>
          have:=qCL cs L vs.toList hl ⟨by simpa using hlen,λi x y hx hy=>h i x y hx (by simpa using hy)⟩;rw [<- this]
    have hxm:x∈o.op.operands:=by rcases ho with ho|ho<;>simp [ho,Op.operands]
    have hym:y∈o.op.operands:=by rcases ho with ho|ho<;>simp [ho,Op.operands]
    have e1:=open' x cs L hxm hx hL;have e2:=open' y ds M hym hy hM
    have formed:∀ N:List Lit,fJ ks N->Value.formed C.P t (.agg (N.map eX).toArray)=true:=λN hN=>by
      have:=kL hN;split at hst
      · rename_i hu;simp [Value.formed,hu];omega
      cases hst
    obtain⟨r,hr,hiff⟩:=run_equalIn_deep (P:=C.P) (10000 - 30) 30 t hkt w 30 30 _ _ L M (formed L h1) (formed M h2) (by simpa [Value.cells] using uE 30 t ks L hk h1) (by simpa [Value.cells] using uE 30 t ks M hk h2);have hrb:r=b:=by cases r<;>cases b<;>simp_all
    subst hrb;have heq:(Op.equal t (.agg (L.map eX).toArray) (.agg (M.map eX).toArray)).run C.P w=.ok r w:=hr;rcases ho with ho|ho
    · refine⟨.bool r,?_,?_⟩
      · simp only [execOp,ho,e1,e2]
        simp [eqGuard,binOp,hgd,heq]
      simp only [ho];exact .d _ _ (.bool _)
    refine⟨.bool (!r),?_,?_⟩
    · simp only [execOp,ho,e1,e2]
      simp [eqGuard,binOp,hgd,heq]
    simp only [ho];exact .d _ _ (.bool _)
theorem qTI {o:Oper} {ev:Operand->AV} {x y:Operand} {t t':TypeId} {cs ds:List D} {L M:List Lit} {ks:List TypeDesc} {b:Bool} (ho:o.op=.binOp .eql t x y t') (hx:ev x=.d (.agg cs)) (hy:ev y=.d (.agg ds))
    (hk:tA C.P 30 t=some ks) (hkt:(C.P.keyTypeAt 30 t&&!C.P.eqGuardType C.P.depth t&&(match C.P.underlying t with|some (.struct _)=>true|_=>false)&&ks.length == C.P.cellsOf t)=true) (hL:oB cs=some L) (hM:oB ds=some M) (h1:fJ ks L) (h2:fJ ks M)
    (hb:L=M↔b=true):RdOk C o ev hp (.d (.bool b)):=by
  have:=zBS (hp:=hp) (.inl ho) hx hy hk hkt hL hM h1 h2 hb;simpa only [ho] using this
theorem qMR {o:Oper} {ev:Operand->AV} {x y:Operand} {t t':TypeId} {cs ds:List D} {L M:List Lit} {ks:List TypeDesc} {b:Bool} (ho:o.op=.binOp .neq t x y t') (hx:ev x=.d (.agg cs)) (hy:ev y=.d (.agg ds))
    (hk:tA C.P 30 t=some ks) (hkt:(C.P.keyTypeAt 30 t&&!C.P.eqGuardType C.P.depth t&&(match C.P.underlying t with|some (.struct _)=>true|_=>false)&&ks.length == C.P.cellsOf t)=true) (hL:oB cs=some L) (hM:oB ds=some M) (h1:fJ ks L) (h2:fJ ks M)
    (hb:L=M↔b=true):RdOk C o ev hp (.d (.bool (!b))):=by
  have:=zBS (hp:=hp) (.inr ho) hx hy hk hkt hL hM h1 h2 hb;simpa only [ho] using this
theorem bV {o:Oper} {ev:Operand->AV} {t:TypeId} {parts:Array (Nat×Operand)} {z:Value} {zc cs:List AV} {pl:List (Nat×Nat)} {ds:List D} (ho:o.op=.build t parts) (hpl:plc C.P t=some pl) (hz:(C.P.info? t).bind (·.zero)=some z) (hzf:(cU z).flat=true) (hzc:(cU z).cells=zc)
    (hf:qGS pl zc (parts.toList.map λp=>(p.1,ev p.2))=some cs) (hv:rP cs=.d (.agg ds)):RdOk C o ev hp (.d (.agg ds)):=nW ho hpl hz hzf hzc hf hv
theorem iC {F:FuncId} {fn:Func} {c:Code} {hp hp':List Blk} {mv:Nat->Bool} {args:List AV} {r:AV} {n:Nat} {rs:List ResultVar} (hcb:qW P F=true) (hf:P.funcs[F]?=some fn) (hb:fn.body=some c) (hn:fn.ntmps=n) (hrs:fn.results.toList=rs) (hle:Nat.ble args.length n=true)
    (h:∀ w g,TWp ⟨P,n,w,hp.length,g,mv⟩ c ⟨yF args,hp⟩ (zGW P hp.length rs r hp')):Ret P F hp mv args r hp':=by
  subst hn hrs;exact qOC hcb hf hb (Nat.le_of_ble_eq_true hle) h
theorem qHW (t:Nat) {v:AV} (v':AV) (hv:Fr.get fr t=v) (he:v=v') (h:cE C ops l ⟨(t,v') :: fr,hp⟩ K):cE C ops l ⟨fr,hp⟩ K:=by
  subst he;intro g a w hs;refine h g a w { hs with fr:=λt'=>?_ };have:=hs.fr t';simp only [Fr.get];split
  · rename_i e;subst e;rw [<- hv];exact this
  exact this
theorem qJP {id sz n:Nat} {ty:TypeId} {es:List D} (h:hp[id]?=some (.flat ty sz es)) (hn:n=es.length):Snap hp (.msl id sz 0 n) (.sl sz es):=
  (Snap.msl id sz 0 n ty es h (by omega)).same (by subst hn;simp)
inductive SnapsO (hp:List Blk):List AV->List D->Prop
  | nil:SnapsO hp [] []
  | cons {x:AV} {d:D} {xs:List AV} {ds:List D} (h:Snap hp x d) (h1:d.one=true) (hr:SnapsO hp xs ds):SnapsO hp (x :: xs) (d :: ds)
theorem iA {cs:List AV} {ds:List D} (h:SnapsO hp cs ds):Snap hp (.agg cs) (.agg ds):=by
  have key:cs.length=ds.length/\(∀ d∈ds,d.one=true)/\∀ (i:Nat) (c:AV) (d:D),cs[i]?=some c->ds[i]?=some d->Snap hp c d:=by
    induction h with
    | nil=>exact⟨rfl,λd hd=>by simp at hd,λi c d hc=>by simp at hc⟩
    | cons h h1 _ ih=>
      refine⟨by simp [ih.1],λd hd=>?_,λi c d hc hd=>?_⟩
      · simp only [List.mem_cons] at hd
        rcases hd with rfl|hd
        · exact h1
        exact ih.2.1 d hd
      cases i with
      | zero=>simp at hc hd;subst hc hd;exact h
      | succ i=>exact ih.2.2 i c d (by simpa using hc) (by simpa using hd)
  exact .agg cs ds key.1 key.2.1 key.2.2
def evD:List AV->Option (List D)
  | []=>some []
  | .d x :: r=>match evD r with|some xs=>some (x :: xs)|none=>none
  | _=>none
theorem tE:∀ {cs:List AV} {ds:List D},evD cs=some ds->cs=ds.map .d
  | [],ds,h=>by cases h;rfl
  | c :: r,ds,h=>by
    cases c with
    | d x=>
      simp only [evD] at h;split at h
      · rename_i xs hx;cases h;rw [tE hx];rfl
      cases h
    | _=>simp [evD] at h
theorem s_litD {d:Nat} {ty:TypeId} {pos:String} {after:Array Edge} {t e:TypeId} {parts:Array (Nat×Operand)} {n sz by':Nat} {ds:List D} {z:Value} (xs:List Operand) (hd:decide (d < C.n)=true) (hl:sel C.P t=some (e,sz,by')) (hz:(C.P.info? e).bind (·.zero)=some z) (hp':jM parts xs) (hx:evD (xs.map fr.ev)=some ds) (hn:Nat.beq ds.length n=true)
    (hs:(ds.all λd=>Nat.beq d.cells.length sz)=true) (hsmall:Nat.ble (n * sz) 16777216=true) (h:cE C ops l ⟨(d,.msl hp.length sz 0 n) :: fr,hp++[.flat e sz ds]⟩ K):cE C ops (⟨some d,.buildSlice t n parts,ty,pos,after,none⟩ :: l) ⟨fr,hp⟩ K:=
  s_lit xs hd hl hz hp' (tE hx) (Nat.eq_of_beq_eq_true hn) (λd hd=>Nat.eq_of_beq_eq_true (List.all_eq_true.1 hs d hd)) (Nat.le_of_ble_eq_true hsmall) h
theorem RetN.mk {F:FuncId} {ds:List D} {d:D} {r:AV} {hp':List Blk} (h:Ret P F [] (λ_=>false) (ds.map .d) r hp') (hs:Snap hp' r d) (hm:AMem0 r) (hb:∀ B∈hp',qRP B):RetN P F ds d:=⟨_,r,hp',h,hs,hm,hb⟩
theorem RetN.flat {F:FuncId} {ds:List D} {sz n:Nat} {ty:TypeId} {es:List D} (h:Ret P F [] (λ_=>false) (ds.map .d) (.msl 0 sz 0 n) [.flat ty sz es]) (hn:n=es.length) (hm:∀ e∈es,D.mem0 e=true):RetN P F ds (.sl sz es):=
  .mk h (qJP rfl hn) (.msl _ _ _ _) λB hB=>by simp only [List.mem_singleton] at hB;subst hB;exact hm
theorem RetN.lit {F:FuncId} {ds:List D} {d:D} (h:Ret P F [] (λ_=>false) (ds.map .d) (.d d) []) (hm:D.mem0 d=true):RetN P F ds d:=.mk h (.d d) (.d d hm) λB hB=>by simp at hB
theorem qEO {α:Type} {f:α->D} {xs:List α} {i:Nat} {x:α} (h:xs[i]?=some x):(0:Int)<=(i:Int)/\(xs.map f)[((i:Int)).toNat]?=some (f x):=⟨by omega,by simp [h]⟩
theorem zBT {α:Type} {f:α->D} {xs:List α} {i:Nat} {x:α} (h:xs[i]?=some x):(xs.map f)[i]?=some (f x):=by simp [h]
end Go.TL
