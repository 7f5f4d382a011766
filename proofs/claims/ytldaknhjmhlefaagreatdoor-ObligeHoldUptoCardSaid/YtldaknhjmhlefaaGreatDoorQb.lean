/- A part of the proof. No condition. -/
import Derived.Test.YtldaknhjmhlefaaGreatDoorQa
set_option linter.unusedSimpArgs false
set_option linter.unusedVariables false

namespace Go.TL
variable {C:Ctx}{ops:Array Oper}{l:List Oper}{K:St->Prop}{fr:Fr}{hp:List Blk}{P:Program}{w:World}{g:Gh}
section drawn
variable {acc:List Rec}{d:Nat}{op:Op}{ty:TypeId}{pos:String}{after:Array Edge}{gd:Option (Nat×Bool)}
theorem DT(h:eA C ops l ⟨fr,hp⟩ K)(hE:Gv ops.toList acc.length (acc.map Rec.d) (acc.map tY)=true):TDr C ops K l fr hp acc:=.tail l fr hp acc hE h
end drawn
def Df(P:Program)(t:TypeId):Option (List (Nat×Nat)):=
  match P.underlying t with
  |some (.struct fs)=>fs.toList.mapM λf=>(P.info? f.type).map λi=>(f.offset,i.size)
  |_=>none
def Ix(pl:List (Nat×Nat)):List AV->List (Nat×AV)->Option (List AV)
  |cs,[]=>some cs
  |cs,(i,v)::r=>
    match pl[i]? with
    |some (off,s)=>bif v.flat&&v.cells.length == s&&Nat.ble (off+s) cs.length then Ix pl (spl cs off v.cells) r else none
    |none=>none
theorem Cz(pl : Array (Nat × Nat)) : ∀ (parts : List (Nat × AV)) (vals : List (Nat × Value)) (cs cs' : List AV) (cells : Array Value), Pw (fun (x : Nat × AV) (y : Nat × Value) => x.1 = y.1 /\ ARep w g x.2 y.2) parts vals ->
    Pw (ARep w g) cs cells.toList->Ix pl.toList cs parts=some cs'->∃cells',Instr.fill (pl[·]?) cells vals=some cells'/\Pw (ARep w g) cs' cells'.toList
  |[],vals,cs,cs',cells,hp,hc,h=>by
    have:vals=[]:=by have:=hp.1;simpa using this.symm
    subst this;cases h;exact⟨cells,rfl,hc⟩
  |(i,v)::r,[],cs,cs',cells,hp,hc,h=>by have:=hp.1;simp at this
  |(i,v)::r,(j,u)::vals,cs,cs',cells,hp,hc,h=>by
    obtain⟨he,hvu⟩:=hp.2 0 _ _ rfl rfl;simp only at he hvu;subst he;simp only[Ix]at h;split at h;rename_i off s hpl
    cases hb:(v.flat&&v.cells.length == s&&Nat.ble (off+s) cs.length)with
    |false=>rw[hb]at h;cases h
    |true=>
      rw[hb]at h;simp only[pU,beq_iff_eq,Nat.ble_eq]at hb;obtain⟨⟨hf,hs⟩,hle⟩:=hb;have hpv:=(hvu.pw hf).1;have hus:u.cells.size=s:=by have:=hpv.1;simp at this;omega
      have hcl:=hc.1;simp only[rG]at hcl;have hfo:=Z1 cells u.cells off (by omega)
      obtain ⟨cells', h1, h2⟩ := Cz pl r vals (spl cs off v.cells) cs' (u.cells.zipIdx.foldl (fun cs (c, j) => cs.setIfInBounds (off + j) c) cells)
        ⟨by have:=hp.1;simpa using this,λi x y hx hy=>hp.2 (i+1) x y (by simpa using hx) (by simpa using hy)⟩ (by rw[hfo];exact hc.spl off hpv) h
      refine⟨cells',?_,h2⟩;have hpl':pl[i]?=some (off,s):=by simpa using hpl
      simp only[Instr.fill,hpl'];rw[if_neg (by simp[hus];omega)];exact h1
    cases h
theorem run_plc{fs:List Field}{pl:List (Nat×Nat)}(w:World)(h:fs.mapM (λf=>(P.info? f.type).map λi=>(f.offset,i.size))=some pl):(fs.mapM (m:=Sem) λf=>do pure (f.offset,<- sizeOf f.type)).run P w=.ok pl w:=by
  induction fs generalizing pl with
  |nil=>simp at h;subst h;simp
  |cons f r ih=>
    rw[G7]at h;simp only[bind,zal137q,pure,lV,zal140q]at h;obtain⟨p,⟨i,hi,rfl⟩,pl',hpl,rfl⟩:=h;have hf:(do pure (f.offset,<- sizeOf f.type):Sem (Nat×Nat)).run P w=.ok (f.offset,i.size) w:=by simp[sizeOf,typeInfo,hi]
    rw[G7,Sem.run_bind,hf,Result.andThen_ok,Sem.run_bind,ih hpl,Result.andThen_ok,Sem.run_pure]
theorem kX{o:Oper}{ev:Operand->AV}{t:TypeId}{parts:Array (Nat×Operand)}{z:Value}{zc cs:List AV}{pl:List (Nat×Nat)}{v:AV}(ho:o.op=.build t parts)(hpl:Df C.P t=some pl)(hz:(C.P.info? t).bind (·.zero)=some z)(hzf:(gF z).flat=true)(hzc:(gF z).cells=zc)
    (hf:Ix pl zc (parts.toList.map λp=>(p.1,ev p.2))=some cs) (hv:bv cs=v):RdOk C o ev hp v:=
  RdOk.mk λst hhp hag g a w hs=>by
    subst hv hzc;have hz':=mN w g z;have hpz:=(hz'.pw hzf).1
    have hparts:Pw (λ(x:Nat×AV)(y:Nat×Value)=>x.1=y.1/\ARep w g x.2 y.2) (parts.toList.map λp=>(p.1,ev p.2)) (parts.map λp=>(p.1,a.eval p.2)).toList:=by
      refine⟨by simp,λi x y hx hy=>?_⟩;simp only[eR,zal140q,yC]at hx hy;obtain⟨p,hp,rfl⟩:=hx;obtain⟨q,hq,rfl⟩:=hy;rw[hp]at hq;cases hq;refine⟨rfl,?_⟩;have:=hs.ev p.2
      rw[hag p.2 (by
        simp only[ho,Op.operands];have:=gH hp
        first|exact Array.mem_map.2 ⟨p,zal10q.1 this,rfl⟩|(simp only[Bv,zal96q];exact⟨p,this,rfl⟩))]at this
      exact this
    unfold Df at hpl;split at hpl;rename_i fs hu;obtain⟨cells',h1,h2⟩:=Cz pl.toArray _ _ _ _ z.cells hparts hpz (by simpa using hf);refine⟨.agg cells',?_,xT (by have:=h2.1;simpa using this) λi c v hc hv=>h2.2 i c v hc (by simpa using hv)⟩;obtain⟨inf,hinf,hzz⟩:=zal137q.1 hz;have hm:=run_plc (P:=C.P) w hpl
    have hma:(fs.mapM (m:=Sem) λf=>do pure (f.offset,<- sizeOf f.type)).run C.P w=.ok pl.toArray w:=by
      rw[Array.mapM_eq_mapM_toList,Sem.run_map,hm];rfl
    have h1':Instr.fill (λx=>pl.toArray[x]?) z.cells (parts.map λp=>(p.1,a.eval p.2)).toList=some cells':=h1;have hzv:(zeroValue t).run C.P w=.ok z w:=by simp[zeroValue,typeInfo,hinf,hzz]
    have hb:(Instr.build t (parts.map λp=>(p.1,a.eval p.2))).run C.P w=.ok (.agg cells') w:=by
      unfold Instr.build;rw[Sem.run_bind,hzv,Result.andThen_ok,Sem.run_bind,run_underlying hu,Result.andThen_ok];simp only;rw[Sem.run_bind,hma,Result.andThen_ok];simp only[h1',Sem.run_pure]
    simp only[execOp,ho];simp only[Sem.run_bind];have hb':(Instr.build t (parts.map λx=>(x.1,a.eval x.2))).run C.P w=.ok (.agg cells') w:=hb;rw[hb'];rfl;cases hpl
def y4(P:Program):Nat->TypeId->Option (List TypeDesc)
  |0,_=>none
  |n+1,t=>
    match P.underlying t with
    |some .bool=>some [.bool]
    |some (.int k)=>some [.int k]
    |some .string=>some [.string]
    |some (.struct fs)=>
      match fs.toList.mapM λf=>y4 P n f.type with
      | some kss => bif yH P fs.toList 0 (P.cellsOf t) && (kss.map List.length == fs.toList.map fun f => P.cellsOf f.type) && fs.all (·.name != "_") then some kss.flatten else none
      |none=>none
    |_=>none
def litOk:TypeDesc->Lit->Prop
  |.bool,.bool _=>True
  |.int k,.int k' n=>k'=k/\k.min<=n/\n<=k.max
  |.string,.string bs=>bs.length<=maxLen
  |_,_=>False
def sP:Lit->Value
  |.bool b=>.bool b
  |.int k n=>.int k n
  |.string bs=>.string ⟨bs.toArray⟩
  |_=>undef
def litD:D->Option Lit
  |.bool b=>some (.bool b)
  |.int k n=>some (.int k n)
  |.str s=>some (.string s.data.toList)
  |_=>none
def y3:List D->Option (List Lit)
  |[]=>some []
  |d::r=>match litD d,y3 r with
    |some x,some xs=>some (x::xs)
    |_,_=>none
def sO:List TypeDesc->List Lit->Prop
  |[],[]=>True
  |k::ks,x::xs=>litOk k x/\sO ks xs
  |_,_=>False
theorem Lj{X:Nat->Prop}:∀(cs:List D)(L:List Lit)(vs:List Value),y3 cs=some L->Pw (DRep w X) cs vs->vs=L.map sP
  |[],L,vs,h,hp=>by
    cases h;have:=hp.1;simpa using this.symm
  |d::r,L,[],h,hp=>by have:=hp.1;simp at this
  |d::r,L,v::vs,h,hp=>by
    simp only[y3]at h;split at h;rename_i x xs hx hxs;cases h;rw[nE,Lj r xs vs hxs ⟨by have:=hp.1;simpa using this,λi x y hx hy=>hp.2 (i+1) x y (by simpa using hx) (by simpa using hy)⟩];have hd:=hp.2 0 d v rfl rfl
    congr 1
    cases d<;>simp only[litD]at hx<;>cases hx<;>cases hd<;>simp[sP];cases h
theorem ct:∀{ks:List TypeDesc}{L:List Lit},sO ks L->L.length=ks.length
  |[],[],_=>rfl
  |k::ks,x::xs,h=>by simp[ct h.2]
  |[],_::_,h=>h.elim
  |_::_,[],h=>h.elim
theorem kw:∀{ks ks':List TypeDesc}{L:List Lit},sO (ks++ks') L->sO ks (L.take ks.length)/\sO ks' (L.drop ks.length)
  |[],_,_,h=>⟨trivial,h⟩
  |_::_,_,_::_,h=>⟨⟨h.1,(kw h.2).1⟩,(kw h.2).2⟩
  |_::_,_,[],h=>h.elim
theorem y5(n m:Nat)(IH:∀(t:TypeId)(ks:List TypeDesc)(L:List Lit),y4 P n t=some ks->sO ks L->P.keyLits n t (L.map sP)=some L)(A:List Value)(tot:Nat):
    ∀ (fs : List Field) (kss : List (List TypeDesc)) (L : List Lit) (o : Nat), fs.mapM (fun f => y4 P n f.type) = some kss -> kss.map List.length = (fs.map fun f => P.cellsOf f.type) -> yH P fs o tot = true -> sO kss.flatten L -> A.drop o = L.map sP ->
      ∃Ls,fs.mapM (λf=>P.keyLits n f.type ((A.drop f.offset).take (P.cellsOf f.type)))=some Ls/\Ls.flatten=L
  |[],kss,L,o,hk,_,ht,hL,hA=>by
    simp at hk;subst hk
    cases L with
    |nil=>exact⟨[],by simp,rfl⟩
    |cons x r=>exact hL.elim
  |f::fs,kss,L,o,hk,hlen,ht,hL,hA=>by
    rw[G7]at hk;simp only[bind,zal137q,pure,lV]at hk;obtain⟨k1,hk1,kr,hkr,rfl⟩:=hk;simp only[nE,iY]at hlen;simp only[yH,pU,beq_iff_eq]at ht;simp only[List.flatten_cons]at hL;obtain⟨h1,h2⟩:=kw hL;obtain⟨Ls,e1,e2⟩:=y5 n m IH A tot fs kr (L.drop k1.length) (o+P.cellsOf f.type) hkr hlen.2 ht.2 h2 (by rw[<- List.drop_drop,hA,<- hlen.1,G6]);refine⟨L.take k1.length::Ls,?_,by rw[List.flatten_cons,e2,Bt]⟩;rw[G7];have:(A.drop f.offset).take (P.cellsOf f.type)=(L.take k1.length).map sP:=by rw[ht.1,hA,<- hlen.1,G5]
    rw[this,IH f.type k1 _ hk1 h1,e1];rfl
theorem z7:∀(n:Nat)(t:TypeId)(ks:List TypeDesc)(L:List Lit),y4 P n t=some ks->sO ks L->P.keyLits n t (L.map sP)=some L
  |0,_,_,_,h,_=>by cases h
  |n+1,t,ks,L,h,hL=>by
    unfold y4 at h;unfold Program.keyLits;split at h
    · rename_i hu
      cases h
      match L,hL with
      |[x],hL=>cases x<;>first|exact hL.1.elim|(simp only[hu,nE,q7,sP])
      |[],hL=>exact hL.elim
      |_::_::_,hL=>exact hL.2.elim
    · rename_i k hu
      cases h
      match L,hL with
      |[x],hL=>
        cases x<;>first|exact hL.1.elim|skip
        rename_i k' m;obtain⟨⟨rfl,h1,h2⟩,_⟩:=hL;simp only[hu,nE,q7,sP];rw[if_pos (by simp[Lit.wf,h1,h2])]
      |[],hL=>exact hL.elim
      |_::_::_,hL=>exact hL.2.elim
    · rename_i hu
      cases h
      match L,hL with
      |[x],hL=>
        cases x<;>first|exact hL.1.elim|skip
        rename_i bs;have:bs.length<=maxLen:=hL.1;simp only[hu,nE,q7,sP];rw[if_pos (by simpa[ByteArray.size]using this)]
      |[],hL=>exact hL.elim
      |_::_::_,hL=>exact hL.2.elim
    rename_i fs hu;split at h;rename_i kss hk
    cases hb : (yH P fs.toList 0 (P.cellsOf t) && (kss.map List.length == fs.toList.map fun f => P.cellsOf f.type) && fs.all (·.name != "_")) with
    |false=>rw[hb]at h;cases h
    |true=>
      rw[hb]at h;cases h;simp only[pU,beq_iff_eq]at hb;obtain⟨Ls,e1,e2⟩:=y5 n n (z7 n) (L.map sP) (P.cellsOf t) fs.toList kss L 0 hk hb.1.2 hb.1.1 hL (by simp)
      have hlen:(L.map sP).length=P.cellsOf t:=by
        rw[qF,ct hL]
        have:∀(fs:List Field)(kss:List (List TypeDesc)) (o:Nat),kss.map List.length=(fs.map λf=>P.cellsOf f.type)->yH P fs o (P.cellsOf t)=true->o+kss.flatten.length=P.cellsOf t:=by
          intro fs
          induction fs with
          | nil => intro kss o h1 h2; have : kss = [] := by simpa using h1
                   subst this;simpa[yH]using h2
          |cons f r ih=>
            intro kss o h1 h2
            match kss,h1 with
            |k::kr,h1=>
              simp only[nE,iY]at h1;simp only[yH,pU,beq_iff_eq]at h2;have:=ih kr _ h1.2 h2.2;simp only[List.flatten_cons,pA];omega
            |[],h1=>simp at h1
        have:=this fs.toList kss 0 hb.1.2 hb.1.1;omega
      simp only[hu];rw[if_pos ⟨hlen,hb.2⟩,e1];simp[e2]
    cases h;cases h
theorem eq_agg{o:Oper}{ev:Operand->AV}{x y:Operand}{t t':TypeId}{cs ds:List D}{L M:List Lit}{ks:List TypeDesc}{b:Bool}(ho:o.op=.binOp .eql t x y t'\/o.op=.binOp .neq t x y t')(hx:ev x=.d (.agg cs))(hy:ev y=.d (.agg ds))
    (hk:y4 C.P 30 t=some ks) (hkt:(C.P.keyTypeAt 30 t&&!C.P.eqGuardType C.P.depth t&&(match C.P.underlying t with|some (.struct _)=>true|_=>false)&&ks.length == C.P.cellsOf t)=true) (hL:y3 cs=some L) (hM:y3 ds=some M) (h1:sO ks L) (h2:sO ks M)
    (hb:L=M↔b=true):RdOk C o ev hp (.d (.bool (match o.op with|.binOp .neq _ _ _ _=>!b|_=>b))):=
  RdOk.mk λst hhp hag g a w hs=>by
    simp only[pU,lW,beq_iff_eq]at hkt;obtain⟨⟨⟨hkt,hgd⟩,hst⟩,hkl⟩:=hkt
    have open':∀(z:Operand)(cs:List D)(L:List Lit),z∈o.op.operands->ev z=.d (.agg cs)->y3 cs=some L->a.eval z=.agg (L.map sP).toArray:=by
      intro z cs L hz he hl;have h:=hs.ev z;rw[hag z hz,he]at h;generalize a.eval z=v at *
      cases h with
      |d _ _ h=>
        cases h with
        |agg _ vs hlen _ h=>
          have:=Lj cs L vs.toList hl ⟨by simpa using hlen,λi x y hx hy=>h i x y hx (by simpa using hy)⟩;rw[<- this]
    have hxm:x∈o.op.operands:=by rcases ho with ho|ho<;>simp[ho,Op.operands]
    have hym:y∈o.op.operands:=by rcases ho with ho|ho<;>simp[ho,Op.operands]
    have e1:=open' x cs L hxm hx hL;have e2:=open' y ds M hym hy hM
    have formed:∀N:List Lit,sO ks N->Value.formed C.P t (.agg (N.map sP).toArray)=true:=λN hN=>by
      have:=ct hN;split at hst;rename_i hu;simp[Value.formed,hu];omega;cases hst
    obtain⟨r,hr,hiff⟩:=run_equalIn_deep (P:=C.P) (10000-30) 30 t hkt w 30 30 _ _ L M (formed L h1) (formed M h2) (by simpa[Value.cells]using z7 30 t ks L hk h1) (by simpa[Value.cells]using z7 30 t ks M hk h2);have hrb:r=b:=by cases r<;>cases b<;>simp_all
    subst hrb;have heq:(Op.equal t (.agg (L.map sP).toArray) (.agg (M.map sP).toArray)).run C.P w=.ok r w:=hr;rcases ho with ho|ho
    refine⟨.bool r,?_,?_⟩
    · simp only[execOp,ho,e1,e2]
      simp[eqGuard,binOp,hgd,heq]
    simp only[ho];exact .d _ _ (.bool _);refine⟨.bool (!r),?_,?_⟩
    · simp only[execOp,ho,e1,e2]
      simp[eqGuard,binOp,hgd,heq]
    simp only[ho];exact .d _ _ (.bool _)
theorem eq_yes{o:Oper}{ev:Operand->AV}{x y:Operand}{t t':TypeId}{cs ds:List D}{L M:List Lit}{ks:List TypeDesc}{b:Bool}(ho:o.op=.binOp .eql t x y t')(hx:ev x=.d (.agg cs))(hy:ev y=.d (.agg ds))
    (hk:y4 C.P 30 t=some ks) (hkt:(C.P.keyTypeAt 30 t&&!C.P.eqGuardType C.P.depth t&&(match C.P.underlying t with|some (.struct _)=>true|_=>false)&&ks.length == C.P.cellsOf t)=true) (hL:y3 cs=some L) (hM:y3 ds=some M) (h1:sO ks L) (h2:sO ks M)
    (hb:L=M↔b=true):RdOk C o ev hp (.d (.bool b)):=by
  have:=eq_agg (hp:=hp) (.inl ho) hx hy hk hkt hL hM h1 h2 hb;simpa only[ho]using this
theorem eq_not{o:Oper}{ev:Operand->AV}{x y:Operand}{t t':TypeId}{cs ds:List D}{L M:List Lit}{ks:List TypeDesc}{b:Bool}(ho:o.op=.binOp .neq t x y t')(hx:ev x=.d (.agg cs))(hy:ev y=.d (.agg ds))
    (hk:y4 C.P 30 t=some ks) (hkt:(C.P.keyTypeAt 30 t&&!C.P.eqGuardType C.P.depth t&&(match C.P.underlying t with|some (.struct _)=>true|_=>false)&&ks.length == C.P.cellsOf t)=true) (hL:y3 cs=some L) (hM:y3 ds=some M) (h1:sO ks L) (h2:sO ks M)
    (hb:L=M↔b=true):RdOk C o ev hp (.d (.bool (!b))):=by
  have:=eq_agg (hp:=hp) (.inr ho) hx hy hk hkt hL hM h1 h2 hb;simpa only[ho]using this
theorem cK{o:Oper}{ev:Operand->AV}{t:TypeId}{parts:Array (Nat×Operand)}{z:Value}{zc cs:List AV}{pl:List (Nat×Nat)}{ds:List D}(ho:o.op=.build t parts)(hpl:Df C.P t=some pl)(hz:(C.P.info? t).bind (·.zero)=some z)(hzf:(gF z).flat=true)(hzc:(gF z).cells=zc)
    (hf:Ix pl zc (parts.toList.map λp=>(p.1,ev p.2))=some cs) (hv:bv cs=.d (.agg ds)):RdOk C o ev hp (.d (.agg ds)):=kX ho hpl hz hzf hzc hf hv
theorem cP{F:FuncId}{fn:Func}{c:Code}{hp hp':List Blk}{mv:Nat->Bool}{args:List AV}{r:AV}{n:Nat}{rs:List ResultVar}(hcb:cd P F=true)(hf:P.funcs[F]?=some fn)(hb:fn.body=some c)(hn:fn.ntmps=n)(hrs:fn.results.toList=rs)(hle:Nat.ble args.length n=true)
    (h:∀w g,TWp ⟨P,n,w,hp.length,g,mv⟩ c ⟨y6 args,hp⟩ (bodyQ P hp.length rs r hp')):Ret P F hp mv args r hp':=by
  subst hn hrs;exact Qj hcb hf hb (jY hle) h
theorem twp_hyp{c:Operand}{x y:Code}{Q:Exit->St->Prop}{b:Bool}(hc:fr.ev c=.d (.bool b))(k:Bool)(hk:b=k)(h:TWp C (bif k then x else y) ⟨fr,hp⟩ Q):TWp C (.cond c x y) ⟨fr,hp⟩ Q:=by
  subst hk;exact TC b hc (λe=>by subst e;exact h) (λe=>by subst e;exact h)
theorem s_eq(t:Nat){v:AV}(v':AV)(hv:Fr.get fr t=v)(he:v=v')(h:eA C ops l ⟨(t,v')::fr,hp⟩ K):eA C ops l ⟨fr,hp⟩ K:=by
  subst he;intro g a w hs;refine h g a w { hs with fr:=λt'=>?_ };have:=hs.fr t';simp only[Fr.get];split;rename_i e;subst e;rw[<- hv];exact this;exact this
theorem Kx{id sz n:Nat}{ty:TypeId}{es:List D}(h:hp[id]?=some (.flat ty sz es))(hn:n=es.length):Snap hp (.msl id sz 0 n) (.sl sz es):=
  (Snap.msl id sz 0 n ty es h (by omega)).same (by subst hn;simp)
inductive SnapsO (hp:List Blk):List AV->List D->Prop
  |nil:SnapsO hp [] []
  |cons {x:AV} {d:D} {xs:List AV} {ds:List D} (h:Snap hp x d) (h1:d.one=true) (hr:SnapsO hp xs ds):SnapsO hp (x::xs) (d::ds)
theorem jS{cs:List AV}{ds:List D}(h:SnapsO hp cs ds):Snap hp (.agg cs) (.agg ds):=by
  have key:cs.length=ds.length/\(∀d∈ds,d.one=true)/\∀(i:Nat)(c:AV)(d:D),cs[i]?=some c->ds[i]?=some d->Snap hp c d:=by
    induction h with
    |nil=>exact⟨rfl,λd hd=>by simp at hd,λi c d hc=>by simp at hc⟩
    |cons h h1 _ ih=>
      refine⟨by simp[ih.1],λd hd=>?_,λi c d hc hd=>?_⟩;simp only[zal91q]at hd;rcases hd with rfl|hd
      exact h1;exact ih.2.1 d hd
      cases i with
      |zero=>simp at hc hd;subst hc hd;exact h
      |succ i=>exact ih.2.2 i c d (by simpa using hc) (by simpa using hd)
  exact .agg cs ds key.1 key.2.1 key.2.2
def Ya:List AV->Option (List D)
  |[]=>some []
  |.d x::r=>match Ya r with|some xs=>some (x::xs)|none=>none
  |_=>none
theorem fj:∀{cs:List AV}{ds:List D},Ya cs=some ds->cs=ds.map .d
  |[],ds,h=>by cases h;rfl
  |c::r,ds,h=>by
    cases c with
    |d x=>
      simp only[Ya]at h;split at h;rename_i xs hx;cases h;rw[fj hx];rfl;cases h
    |_=>simp[Ya]at h
theorem s_litD{d:Nat}{ty:TypeId}{pos:String}{after:Array Edge}{t e:TypeId}{parts:Array (Nat×Operand)}{n sz by':Nat}{ds:List D}{z:Value}(xs:List Operand)(hd:decide (d<C.n)=true)(hl:sel C.P t=some (e,sz,by'))(hz:(C.P.info? e).bind (·.zero)=some z)(hp':pJ parts xs)(hx:Ya (xs.map fr.ev)=some ds)(hn:Nat.beq ds.length n=true)
    (hs:(ds.all λd=>Nat.beq d.cells.length sz)=true) (hsmall:Nat.ble (n*sz) 16777216=true) (h:eA C ops l ⟨(d,.msl hp.length sz 0 n)::fr,hp++[.flat e sz ds]⟩ K):eA C ops (⟨some d,.buildSlice t n parts,ty,pos,after,none⟩::l) ⟨fr,hp⟩ K:=
  s_lit xs hd hl hz hp' (fj hx) (fC hn) (λd hd=>fC (zal30q.1 hs d hd)) (jY hsmall) h
theorem RetN.mk{F:FuncId}{ds:List D}{d:D}{r:AV}{hp':List Blk}(h:Ret P F [] (λ_=>false) (ds.map .d) r hp')(hs:Snap hp' r d)(hm:AMem0 r)(hb:∀B∈hp',BMem0 B):RetN P F ds d:=⟨_,r,hp',h,hs,hm,hb⟩
theorem RetN.flat{F:FuncId}{ds:List D}{sz n:Nat}{ty:TypeId}{es:List D}(h:Ret P F [] (λ_=>false) (ds.map .d) (.msl 0 sz 0 n) [.flat ty sz es])(hn:n=es.length)(hm:∀e∈es,D.mem0 e=true):RetN P F ds (.sl sz es):=
  .mk h (Kx rfl hn) (.msl _ _ _ _) λB hB=>by simp only[zal102q]at hB;subst hB;exact hm
theorem RetN.lit{F:FuncId}{ds:List D}{d:D}(h:Ret P F [] (λ_=>false) (ds.map .d) (.d d) [])(hm:D.mem0 d=true):RetN P F ds d:=.mk h (.d d) (.d d hm) λB hB=>by simp at hB
theorem Gp{α:Type}{f:α->D}{xs:List α}{i:Nat}{x:α}(h:xs[i]?=some x):(0:Int)<=(i:Int)/\(xs.map f)[((i:Int)).toNat]?=some (f x):=⟨by omega,by simp[h]⟩
theorem el_map{α:Type}{f:α->D}{xs:List α}{i:Nat}{x:α}(h:xs[i]?=some x):(xs.map f)[i]?=some (f x):=by simp[h]
variable {C:Ctx}{st:St}{g:Gh}{a:Act}{w:World}{P:Program}
theorem E5{o:Oper}{ev:Operand->AV}{hp:List Blk}{F:FuncId}{caps:Array Operand}(ho:o.op=.makeFunc (.func F) #[] caps):RdOk C o ev hp (.fnc F (caps.toList.map ev)):=
  RdOk.mk λst hhp hag g a w hs=>by
    refine⟨.func (.func F) #[] (caps.map a.eval),by simp[execOp,ho,Instr.makeFunc],.fnc _ _ _ (by simp) λi c v hc hv=>?_⟩;simp only[eR,zal140q]at hc;simp only[Array.getElem?_map,zal140q]at hv;obtain⟨y,hy,rfl⟩:=hc;obtain⟨z,hz,rfl⟩:=hv;have e:y=z:=by rw[<- Array.getElem?_toList,hy]at hz;exact cC hz
    subst e;have h:=hs.ev y;rw[hag y (by simp only[ho,Op.operands];exact zal9q.2 (.inr (zal10q.1 (gH hy))))]at h;exact h
def Vy:D->Option (FuncId×List D)
  |.fn F=>some (F,[])
  |.clo F cs=>some (F,cs)
  |_=>none
theorem Cw{c:D}{F:FuncId}{cs:List D}{X:Nat->Prop}{v:Value}(h:DRep w X c v)(hc:Vy c=some (F,cs)):∃vs:Array Value,v=.func (.func F) #[] vs/\Pw (DRep w X) cs vs.toList:=by
  cases h with
  |fn f=>cases hc;exact⟨#[],rfl,rfl,λi x y h=>by simp at h⟩
  |clo f cs vs hl h=>cases hc;exact⟨vs,rfl,by simpa using hl,λi x y hx hy=>h i x y hx (by simpa using hy)⟩
  |_=>cases hc
theorem Out.frozen{hp':List Blk}{g':Gh}{w':World}{mv:Nat->Bool}(hs:Sim C st g a w)(hout:Out ⟨C.P,0,w,0,iS g.X,mv⟩ hp' g' w'):
    ∃g2,Sim C st g2 a w'/\∀(r:AV)(d:D)(v:Value),ARep w' g' r v->Snap hp' r d->ARep w' g2 (.d d) v:=by
  have hX:∀b,g'.X b->b<w.heap.size->g.X b:=λb hb hlt=>hout.Xold b hb hlt;have hold:∀b,b<w.heap.size->w'.heap[b]?=w.heap[b]?:=λb hb=>hout.keep b hb λi hi=>absurd hi (oC i);have hsz:=hout.grown;simp only at hsz
  let g2:Gh:={ g with X:=λb=>g.X b\/(w.heap.size<=b/\b<w'.heap.size) }
  have hgr:Grow w g w' g2:=⟨λ_ _ h=>h,λ_ _ _=>rfl,λ_ h=>.inl h,λb hb=>hold b (hs.Xlt b hb)⟩;refine⟨g2,?_,λr d v hr hsn=>(.d _ _ (tP (st:=⟨[],hp'⟩) hout.hp hsn (Y:=g2.X) (λb hb=>?_) (λi b hp=>?_) hr))⟩
  refine { defers := hs.defers, size := hs.size, fr := fun t => (hs.fr t).mono hgr, hp := fun i B hB => (hs.hp i B hB).mono hgr id fun b hb => hold b (hs.lt i b hb).1, lt := ?_, inj := hs.inj, Xlt := ?_, Xold := ?_
           os:=hout.os.trans hs.os,tape:=hout.tape.trans hs.tape,output:=hout.output.trans hs.output,drawn:=jL hs.drawn hout.drawn,grown:=jL hs.grown hsz,keep:=?_,own:=hs.own,stay:=hs.stay,kle:=hs.kle,laid:=hs.laid }
  · intro i b hp
    have:=hs.lt i b hp;refine⟨by omega,this.2.1,λhX=>?_⟩;rcases hX with hX|⟨hX,_⟩
    exact this.2.2 hX;omega
  intro b hb;rcases hb with hb|⟨_,hb⟩
  have:=hs.Xlt b hb;omega;exact hb;intro b hb hlt;rcases hb with hb|⟨hge,_⟩
  exact hs.Xold b hb hlt;have:=hs.grown;omega;intro b hb hk;rw[hold b (by have:=hs.grown;omega)];exact hs.keep b hb hk;by_cases hlt:b<w.heap.size
  · exact .inl (hX b hb hlt)
  exact .inr ⟨by omega,hout.Xlt b hb⟩;refine .inr ⟨?_,(hout.lt i b hp).1⟩;rcases gM b w.heap.size with hlt|hge
  exact absurd (hout.own i b hp hlt).1 (oC _);exact hge
inductive SnapT (hp:List Blk):AV->List D->Prop
  |mk (xs:List AV) (ds:List D) (h:y7 hp xs ds):SnapT hp (.tup xs) ds
def RetT(P:Program)(F:FuncId)(ds:List D)(rs:List D):Prop:=∃mv r hp',Ret P F [] mv (ds.map .d) r hp'/\SnapT hp' r rs
theorem dargs{ev:Operand->AV}{xs:Array Operand}{ds cs:List D}{vs:Array Value}(hs:Sim C st g a w)(hag:∀y∈xs,st.fr.ev y=ev y)(hx:xs.toList.map ev=ds.map .d)(hc:Pw (DRep w g.X) cs vs.toList):
    Pw (ARep w (iS g.X)) ((ds++cs).map .d) (xs.map a.eval++vs).toList:=by
  rw[mU,He];refine Pw.append ?_ ?_;refine ⟨by have := congrArg List.length hx; simpa using this.symm, fun i x v hxi hv => ?_⟩;simp only[yC,eR,zal140q]at hv;obtain⟨y,hy,rfl⟩:=hv;have h1:(xs.toList.map ev)[i]?=some (ev y):=by simp[hy]
  rw[hx,hxi]at h1;cases h1;have h2:=hs.ev y;rw[hag y (zal10q.1 (gH hy))]at h2;simp only[eR,zal140q]at hxi;obtain⟨d,_,hd⟩:=hxi;rw[<- hd]at h2⊢;cases h2 with|d _ _ h=>exact .d _ _ h
  refine ⟨by simpa using hc.1, fun i x v hxi hv => ?_⟩;simp only[eR,zal140q]at hxi;obtain⟨d,hd,rfl⟩:=hxi;exact .d _ _ (hc.2 i d v hd hv)
section calls
variable {o:Oper}{ev:Operand->AV}{hp:List Blk}{f:Operand}{xs:Array Operand}{ts:Array TypeId}{F:FuncId}
theorem rd_callC{c:D}{cs ds:List D}{d:D}(ho:o.op=.call { callee:=.value f,args:=xs,argTypes:=ts })(hf:ev f=.d c)(hc:Vy c=some (F,cs))(hx:xs.toList.map ev=ds.map .d)(hret:RetD C.P F (ds++cs) d):RdOk C o ev hp (.d d):=by
  obtain⟨mv,r,hp',hret,hsn⟩:=hret;intro st hhp hag g a w hs Q K' hK;have hfv:=hs.ev f;rw[hag f (by simp[ho,Op.operands,Call.operands]),hf]at hfv
  obtain⟨vs,hv,hvs⟩:∃vs:Array Value,a.eval f=.func (.func F) #[] vs/\Pw (DRep w g.X) cs vs.toList:=by
    cases hfv with|d _ _ h=>exact Cw h hc
  have hargs:=dargs hs (λy hy=>hag y (by simp only[ho,Op.operands,Call.operands];exact zal9q.2 (.inr hy))) hx hvs;simp only[Oper.wp,lH ho hv hret.1,Oper.upon_enter];refine(hret.2 w (iS g.X) _ (qBG hs mv hs.Xlt) hargs).mono ?_;rintro e w' ⟨v,g',rfl,hout,hr⟩;obtain⟨g2,h1,h2⟩:=Out.frozen hs hout;exact hK v w' g2 h1 (h2 _ _ _ hr hsn)
theorem qBA{c:D}{cs ds rs:List D}(ho:o.op=.call { callee:=.value f,args:=xs,argTypes:=ts })(hf:ev f=.d c)(hc:Vy c=some (F,cs))(hx:xs.toList.map ev=ds.map .d)(hret:RetT C.P F (ds++cs) rs):RdOk C o ev hp (.tup (rs.map .d)):=by
  obtain⟨mv,r,hp',hret,hsn⟩:=hret;intro st hhp hag g a w hs Q K' hK;have hfv:=hs.ev f;rw[hag f (by simp[ho,Op.operands,Call.operands]),hf]at hfv
  obtain⟨vs,hv,hvs⟩:∃vs:Array Value,a.eval f=.func (.func F) #[] vs/\Pw (DRep w g.X) cs vs.toList:=by
    cases hfv with|d _ _ h=>exact Cw h hc
  have hargs:=dargs hs (λy hy=>hag y (by simp only[ho,Op.operands,Call.operands];exact zal9q.2 (.inr hy))) hx hvs;simp only[Oper.wp,lH ho hv hret.1,Oper.upon_enter];refine(hret.2 w (iS g.X) _ (qBG hs mv hs.Xlt) hargs).mono ?_;rintro e w' ⟨v,g',rfl,hout,hr⟩
  cases hsn with
  |mk ys ds' hsn=>
    cases hr with
    |tup _ us hl hr=>
      obtain⟨g2,h1,h2⟩:=Out.frozen hs hout;refine hK _ w' g2 h1 (.tup _ us (by rw[qF,<- hsn.1];exact hl) λi c u hci hu=>?_);simp only[eR,zal140q]at hci;obtain⟨d,hd,rfl⟩:=hci;have hi:i<ys.length:=by rw[hsn.1];exact(zal58q.1 hd).1
      exact h2 _ _ _ (hr i ys[i] u (by simp[hi]) hu) (hsn.2 i ys[i] d (by simp[hi]) hd)
end calls
def Et(P:Program)(t:TypeId):Bool:=
  match P.underlying t with
  |some (.interface _)=>false
  |some _=>true
  |none=>false
theorem I3{t:TypeId}(h:Et P t=true):∃u,P.underlying t=some u/\∀ms,u≠.interface ms:=by
  unfold Et at h;split at h;cases h;rename_i u hne hu;exact⟨u,hu,λms e=>hne ms e⟩;cases h
section ifc
variable {o:Oper}{ev:Operand->AV}{hp:List Blk}{x y:Operand}{t:TypeId}
theorem Xi{d:D}(ho:o.op=.makeInterface t x)(hc:Et C.P t=true)(hx:ev x=.d d):RdOk C o ev hp (.d (.iface t d)):=
  RdOk.mk λst hhp hag g a w hs=>by
    have h:=hs.ev x;rw[hag x (by simp[ho,Op.operands]),hx]at h;obtain⟨u,hu,hne⟩:=I3 hc;refine⟨.iface t (a.eval x),?_,.d _ _ (.iface _ _ _ (by cases h with|d _ _ h=>exact h))⟩;simp only[execOp,ho];cases u<;>first|(exfalso;exact hne _ rfl)|simp[Instr.makeInterface,run_underlying hu]
theorem Cf{xt:TypeId}{d:D}(ho:o.op=.typeAssert x xt t true)(hc:Et C.P t=true)(hx:ev x=.d (.iface t d)):RdOk C o ev hp (.tup [.d d,.d (.bool true)]):=
  RdOk.mk λst hhp hag g a w hs=>by
    have h:=hs.ev x;rw[hag x (by simp[ho,Op.operands]),hx]at h;generalize he:a.eval x=vx at *;obtain⟨u,hu,hne⟩:=I3 hc
    cases h with
    |d _ _ h=>
      cases h with
      |iface _ _ v h=>
        refine⟨.tuple #[v,.bool true],?_,.tup _ _ rfl λi c v hc hv=>?_⟩
        · simp only[execOp,ho,he]
          cases u<;>first|(exfalso;exact hne _ rfl)|simp[Instr.typeAssert,run_underlying hu]
        match i,hc,hv with
        |0,hc,hv=>simp at hc hv;subst hc hv;exact .d _ _ h
        |1,hc,hv=>simp at hc hv;subst hc hv;exact .d _ _ (.bool true)
        |i+2,hc,_=>simp at hc
theorem ym{t:TypeId}{z:Value}(hz:(P.info? t).bind (·.zero)=some z)(w:World):(zeroValue t).run P w=.ok z w:=by
  obtain⟨i,hi,hzi⟩:=xX hz;simp[zeroValue,typeInfo,hi,hzi]
theorem Qx{xt t':TypeId}{d:D}{z:Value}{zd:D}(ho:o.op=.typeAssert x xt t true)(hc:Et C.P t=true)(hx:ev x=.d (.iface t' d))(hne':Nat.beq t' t=false)(hz:(C.P.info? t).bind (·.zero)=some z)(hzd:gF z=.d zd):RdOk C o ev hp (.tup [.d zd,.d (.bool false)]):=
  RdOk.mk λst hhp hag g a w hs=>by
    have h:=hs.ev x;rw[hag x (by simp[ho,Op.operands]),hx]at h;generalize he:a.eval x=vx at *;obtain⟨u,hu,hne⟩:=I3 hc;have hneq:¬t'=t:=λe=>by subst e;simp at hne'
    cases h with
    |d _ _ h=>
      cases h with
      |iface _ _ v h=>
        refine⟨.tuple #[z,.bool false],?_,.tup _ _ rfl λi c v hc hv=>?_⟩
        · simp only[execOp,ho,he]
          cases u<;>first|(exfalso;exact hne _ rfl)|simp[Instr.typeAssert,run_underlying hu,hneq,ym hz]
        match i,hc,hv with
        |0,hc,hv=>simp at hc hv;subst hc hv;rw[<- hzd];exact mN w g _
        |1,hc,hv=>simp at hc hv;subst hc hv;exact .d _ _ (.bool false)
        |i+2,hc,_=>simp at hc
theorem rd_min{o:Oper}{ev:Operand->AV}{hp:List Blk}{x y:Operand}{ts:Array TypeId}{k:IntKind}{m n r:Int}(ho:o.op=.call { callee:=.builtin .min,args:=#[x,y],argTypes:=ts })(hx:ev x=.d (.int k m))(hy:ev y=.d (.int k n))(hr:min m n=r):RdOk C o ev hp (.d (.int k r)):=
  RdOk.mk λst hhp hag g a w hs=>by
    have h:=hs.ev x;rw[hag x (by simp[ho,Op.operands,Call.operands]),hx]at h;have hi:=hs.ev y;rw[hag y (by simp[ho,Op.operands,Call.operands]),hy]at hi;refine⟨.int k r,?_,.d _ _ (.int k r)⟩;subst hr;simp only[execOp,ho];simp[resolve,invoke,builtin,int_inv h,int_inv hi,run_min_int2];simp only[Int.min_def];split<;>split<;>first|rfl|omega
theorem H1{o:Oper}{ev:Operand->AV}{hp:List Blk}{x y:Operand}{ts:Array TypeId}{k:IntKind}{m n r:Int}(ho:o.op=.call { callee:=.builtin .max,args:=#[x,y],argTypes:=ts })(hx:ev x=.d (.int k m))(hy:ev y=.d (.int k n))(hr:max m n=r):RdOk C o ev hp (.d (.int k r)):=
  RdOk.mk λst hhp hag g a w hs=>by
    have h:=hs.ev x;rw[hag x (by simp[ho,Op.operands,Call.operands]),hx]at h;have hi:=hs.ev y;rw[hag y (by simp[ho,Op.operands,Call.operands]),hy]at hi;refine⟨.int k r,?_,.d _ _ (.int k r)⟩;subst hr;simp only[execOp,ho];simp[resolve,invoke,builtin,int_inv h,int_inv hi,run_max_int2];simp only[Int.max_def];split<;>split<;>first|rfl|omega
end ifc
def X8(P:Program)(s:TypeId)(f:Nat):Option (Nat×Bool×Nat):=
  match P.underlying s with
  |some (.struct fs)=>match fs[f]? with
    |some fl=>match lay P fl.type with
      |some (b,n)=>some (fl.offset,b,n)
      |none=>none
    |none=>none
  |_=>none
theorem qAZ{o:Oper}{ev:Operand->AV}{hp:List Blk}{s:TypeId}{x:Operand}{f fo n:Nat}{u v:AV}(ho:o.op=.field s x f)(hf:X8 C.P s f=some (fo,false,n))(hx:ev x=u)(hagg:u.isAgg=true)(hv:u.cells[fo]?=some v):RdOk C o ev hp v:=by
  unfold X8 at hf;split at hf;rename_i fs hu;split at hf;rename_i fl hfl;split at hf;rename_i b n' hl;cases hf;exact Qw _ _ false _ u v fs fl ho hu hfl rfl rfl hl hx hagg (by simpa using hv);cases hf;cases hf;cases hf
theorem Xk{o:Oper}{ev:Operand->AV}{hp:List Blk}{s:TypeId}{x:Operand}{f fo n:Nat}{u v:AV}(ho:o.op=.field s x f)(hf:X8 C.P s f=some (fo,true,n))(hx:ev x=u)(hagg:u.isAgg=true)(hle:Nat.ble (fo+n) u.cells.length=true)(hv:bv ((u.cells.drop fo).take n)=v):RdOk C o ev hp v:=by
  unfold X8 at hf;split at hf;rename_i fs hu;split at hf;rename_i fl hfl;split at hf;rename_i b n' hl;cases hf;exact Qw _ _ true _ u v fs fl ho hu hfl rfl rfl hl hx hagg ⟨jY hle,hv.symm⟩;cases hf;cases hf;cases hf
def Blk.isLp:Blk->Bool
  |.lp ..=>true
  |_=>false
def Blk.alive:Blk->Bool
  |.dead=>false
  |_=>true
def Gs(i:Nat)(B:Blk)(al:Nat->Bool):AV->AV
  |.mptr j s x o=>if j=i then(match B with
      |.box _ cs=>if s=0/\x=0 then(match qCI cs with|some ds=>.d (.ptr (.agg ds) o)|none=>.junk)else .junk
      |.flat _ sz es=>if s=sz then(match es[x]? with|some e=>.d (.ptr e o)|none=>.junk)else .junk
      |_=>.junk)else if al j then .mptr j s x o else .junk
  |.msl j s o l=>if j=i then(match B with
      |.flat _ sz es=>if s=sz/\o+l<=es.length then .d (.sl sz ((es.drop o).take l))else .junk
      |_=>.junk)else if al j then .msl j s o l else .junk
  |.mmap j=>if j=i then .junk else if al j then .mmap j else .junk
  |.yld j=>if j=i then .junk else if al j then .yld j else .junk
  |.mmapN j n=>if j=i then .junk else if al j then .mmapN j n else .junk
  |v=>v
def eD(hp:List Blk)(j:Nat):Bool:=(hp.getD j .dead).alive
def St.freeze(i:Nat)(st:St):St:=
  ⟨Fr.mapRef (Gs i (st.hp.getD i .dead) (eD st.hp)) st.fr,(st.hp.map (Blk.mapRef (Gs i (st.hp.getD i .dead) (eD st.hp)))).set i .dead⟩
theorem lT{hp:List Blk}{j:Nat}(h:eD hp j=true):∃B,hp[j]?=some B/\B≠.dead:=by
  unfold eD at h
  cases hB:hp[j]? with
  |none=>rw[rM,hB]at h;cases h
  |some B=>exact⟨B,rfl,λe=>by subst e;rw[rM,hB]at h;cases h⟩
theorem Sim.freezeX(h:Sim C st g a w)(i:Nat)(hk:C.k<=i)(hal:eD st.hp i=true)(hks:∀j,j<C.k->eD st.hp j=true):∃g',Sim C (st.freeze i) g' a w/\(∀b,g.phi i=some b->g'.X b)/\∀b,g.X b->g'.X b:=by
  obtain⟨B,hB,hBd⟩:=lT hal;have hgB:st.hp.getD i .dead=B:=by rw[rM,hB];rfl
  have hil:i<st.hp.length:=(zal58q.1 hB).1
  let g':Gh:={ phi:=λj=>if g.phi j=g.phi i then none else g.phi j,psi:=g.psi,X:=λb=>g.X b\/g.phi i=some b }
  have hphi:∀j b,g'.phi j=some b->g.phi j=some b/\g.phi i≠some b:=by
    intro j b hp;simp only[g']at hp;split at hp;cases hp;rename_i hne;exact⟨hp,λe=>hne (hp.trans e.symm)⟩
  have keep:∀j b,eD st.hp j=true->j≠i->g.phi j=some b->g'.phi j=some b:=by
    intro j b ha hne hp;obtain⟨Bj,hBj,hBjd⟩:=lT ha;simp only[g'];rw[if_neg];exact hp;intro e;exact hne (h.inj j i b Bj B hBj hB hBjd hBd hp (e ▸ hp))
  have hX:∀b,g.X b->g'.X b:=λb hb=>.inl hb;have hD:∀(d:D)(v:Value),DRep w g.X d v->DRep w g'.X d v:=λd v hd=>hd.mono hX λ_ _=>rfl
  let g1:Gh:={ phi:=λj=>if j=i then g.phi i else none,psi:=g.psi,X:=g.X }
  let hp1:List Blk:=(List.replicate st.hp.length Blk.dead).set i B
  have hp1i:hp1[i]?=some B:=by simp[hp1,hil]
  have hY:∀j b,g1.phi j=some b->g'.X b:=by
    intro j b hp;simp only[g1]at hp;split at hp;exact .inr hp;cases hp
  have hrep:(∀ty cs,B=.box ty cs->∃ds,qCI cs=some ds)/\B.isLp=false->∀(j:Nat)(Bj:Blk),hp1[j]?=some Bj->BRep w g1 j Bj:=by
    intro ⟨hdat,hnl⟩ j Bj hj;by_cases hji:j=i;subst hji;rw[hp1i]at hj;cases hj;have h0:=h.hp j B hB
    cases B with
    |dead=>trivial
    |hole=>
      have h0:g.phi j=none:=h0;show g1.phi j=none;simpa[g1]using h0
    |flat ty sz es=>
      rcases h0 with⟨he,hp⟩|⟨b,cells,hp,hw,hs,hl,h0,h1,hr⟩
      exact .inl ⟨he,by simpa[g1]using hp⟩;exact .inr ⟨b,cells,by simpa[g1]using hp,hw,hs,hl,h0,h1,hr⟩
    |box ty cs=>
      obtain⟨b,cells,hp,hw,hs,hl,hr⟩:=h0;obtain⟨ds,hds⟩:=hdat ty cs rfl;obtain⟨rfl,_⟩:=ya cs ds hds;refine⟨b,cells,by simpa[g1]using hp,hw,hs,hl,λjj c v hc hv=>?_⟩;have:=hr jj c v hc hv;simp only[eR,zal140q]at hc;obtain⟨d,_,rfl⟩:=hc;cases this with|d _ _ hd=>exact .d _ _ hd
    |map kt vt es=>
      rcases h0 with⟨he,hp⟩|⟨b,ents,clock,hp,hw,hs,hr⟩
      exact .inl ⟨he,by simpa[g1]using hp⟩;exact .inr ⟨b,ents,clock,by simpa[g1]using hp,hw,hs,hr⟩
    |ob q=>obtain⟨b,hp,hw⟩:=h0;exact⟨b,by simpa[g1]using hp,hw⟩
    |lp=>cases hnl
    simp only[hp1]at hj;rw[wF (λe=>hji e.symm),q9]at hj;split at hj;cases hj;trivial;cases hj
  have hF:∀(x:AV)(v:Value),ARep w g x v->x.isRef=true->ARep w g' (Gs i (st.hp.getD i .dead) (eD st.hp) x) v:=by
    intro x v hx hr;rw[hgB]
    cases hx with
    |msl0 j s o ad=>
      simp only[Gs];split
      cases B with
      |flat ty sz es=>
        simp only;split;simp only[List.take_zero];exact .d _ _ (.sl0 _ _ _);exact .junk _
      |_=>exact .junk _
      split
      · exact .msl0 _ _ _ _
      exact .junk _
    |msl j s o l cap b hb hc hp=>
      simp only[Gs];split;rename_i hji;subst hji
      cases B with
      |flat ty sz es=>
        simp only;split;rename_i hh;obtain⟨rfl,hle⟩:=hh;exact .d _ _ (tP (st:=⟨[],hp1⟩) (g:=g1) (hrep ⟨λ_ _ e=>(by cases e),rfl⟩) (Snap.msl j s o l ty es hp1i hle) hX hY (.msl j s o l cap b (by simpa[g1]using hb) hc hp));exact .junk _
      |_=>exact .junk _
      rename_i hne;split;rename_i hal';exact .msl _ _ _ _ _ b (keep j b hal' hne hb) hc hp;exact .junk _
    |mptr j s x o b hb=>
      simp only[Gs];split;rename_i hji;subst hji
      cases B with
      |flat ty sz es=>
        simp only;split;rename_i hs;subst hs;split;rename_i e he;exact .d _ _ (tP (st:=⟨[],hp1⟩) (g:=g1) (hrep ⟨λ_ _ e=>(by cases e),rfl⟩) (Snap.mptrF j s x o ty es e hp1i he) hX hY (.mptr j s x o b (by simpa[g1]using hb)));exact .junk _;exact .junk _
      |box ty cs=>
        simp only;split;rename_i hh;obtain⟨rfl,rfl⟩:=hh;split;rename_i ds hds;obtain⟨hcs,h1⟩:=ya cs ds hds
        exact .d _ _ (tP (st:=⟨[],hp1⟩) (g:=g1) (hrep ⟨λ_ _ e=>(by cases e;exact⟨ds,hds⟩),rfl⟩) (Snap.mptrB j o ty cs ds hp1i (by rw[hcs];simp) h1 (λi c d hc hd=>by
          rw[hcs]at hc;simp only[eR,hd,kP,lV]at hc
          subst hc;exact .d d)) hX hY (.mptr j 0 0 o b (by simpa[g1]using hb)))
        exact .junk _;exact .junk _
      |_=>exact .junk _
      rename_i hne;split;rename_i hal';exact .mptr _ _ _ _ b (keep j b hal' hne hb);exact .junk _
    |mmap j b hb=>
      simp only[Gs];split;exact .junk _;rename_i hne;split;rename_i hal';exact .mmap _ b (keep j b hal' hne hb);exact .junk _
    |yld j b hb=>
      simp only[Gs];split;exact .junk _;rename_i hne;split;rename_i hal';exact .yld _ b (keep j b hal' hne hb);exact .junk _
    |mmapN0 j=>
      simp only[Gs];split;exact .junk _;split
      · exact .mmapN0 _
      exact .junk _
    |mmapN j n b hb=>
      simp only[Gs];split;exact .junk _;rename_i hne;split;rename_i hal';exact .mmapN _ _ b (keep j b hal' hne hb);exact .junk _
    |_=>cases hr
  have inv:∀(j:Nat)(Bj:Blk),(st.freeze i).hp[j]?=some Bj->Bj≠.dead->j≠i/\∃B',st.hp[j]?=some B'/\B'≠.dead/\Bj=B'.mapRef (Gs i (st.hp.getD i .dead) (eD st.hp)):=by
    intro j Bj hj hd;simp only[St.freeze]at hj;rw[hZ]at hj;split at hj;split at hj
    · cases hj;exact absurd rfl hd
    cases hj;rename_i hne;simp only[eR,zal140q]at hj;obtain⟨B',hB',rfl⟩:=hj;exact⟨λe=>hne e.symm,B',hB',λe=>by subst e;exact hd rfl,rfl⟩
  refine⟨g',{ defers:=h.defers,size:=h.size,fr:=λt=>?_,hp:=?_,lt:=?_,inj:=?_,Xlt:=?_,Xold:=?_,os:=h.os,tape:=h.tape,output:=h.output,drawn:=h.drawn,grown:=h.grown,keep:=h.keep,own:=?_,stay:=?_,kle:=?_,laid:=h.laid },λ_ hb=>.inr hb,hX⟩;simp only[St.freeze,Fr.get_mapRef];exact(h.fr t).mapRef hD hF
  · intro j Bj hj
    by_cases hd:Bj=.dead;subst hd;trivial;obtain⟨hne,B',hB',hd',rfl⟩:=inv j Bj hj hd
    have hal':eD st.hp j=true:=by
      unfold eD;rw[rM,hB'];cases B'<;>first|rfl|exact absurd rfl hd'
    refine BRep.mapRef (i:=j) (g:=g) (g':=g') ?_ rfl hX hF (h.hp j B' hB')
    cases hp:g.phi j with
    |none=>simp only[g'];split<;>first|rfl|exact hp
    |some b=>exact keep j b hal' hne hp
  intro j b hp;obtain⟨h1,h2⟩:=hphi j b hp;have:=h.lt j b h1;refine⟨this.1,by simpa[St.freeze]using this.2.1,λhx=>?_⟩;rcases hx with hx|hx
  exact this.2.2 hx;exact h2 hx;intro j j' b Bj Bj' hBj hBj' hdj hdj' hj hj';obtain⟨_,B1,e1,d1,_⟩:=inv j Bj hBj hdj;obtain⟨_,B2,e2,d2,_⟩:=inv j' Bj' hBj' hdj';exact h.inj j j' b B1 B2 e1 e2 d1 d2 (hphi j b hj).1 (hphi j' b hj').1;intro b hb;rcases hb with hb|hb
  exact h.Xlt b hb;exact(h.lt i b hb).1;intro b hb hlt;rcases hb with hb|hb
  exact h.Xold b hb hlt;have:=(h.own i b hb hlt).1;omega;intro j b hp hb;exact h.own j b (hphi j b hp).1 hb;intro j b hj hm hp;have hst:=h.stay j b hj hm hp;exact⟨hst.1,keep j b (hks j hj) (by omega) hst.2⟩;have:=h.kle;simpa[St.freeze]using this
theorem Sim.freeze(h:Sim C st g a w)(i:Nat)(hk:C.k<=i)(hal:eD st.hp i=true)(hks:∀j,j<C.k->eD st.hp j=true):∃g',Sim C (st.freeze i) g' a w:=
  let ⟨g',h,_⟩:=h.freezeX i hk hal hks
  ⟨g',h⟩
theorem W5{c:Code}{Q:Exit->St->Prop}{fr:Fr}{hp:List Blk}(i:Nat)(hk:C.k<=i)(hal:eD hp i=true)(hks:∀j,j<C.k->eD hp j=true)(h:TWp C c (St.freeze i ⟨fr,hp⟩) Q):TWp C c ⟨fr,hp⟩ Q:=λ_ a w hs=>by
  obtain⟨g',hs'⟩:=hs.freeze i hk hal hks;exact h g' a w hs'
variable {C:Ctx}{st:St}{g:Gh}{a:Act}{w:World}{P:Program}
def back(ids:List Nat)(n:Nat)(i:Nat):Nat:=
  match ids[i]? with
  |some j=>j
  |none=>n+(i-ids.length)
def fwd(ids:List Nat)(n:Nat):AV->AV
  |.msl i s o l=>.msl (back ids n i) s o l
  |.mptr i s x o=>.mptr (back ids n i) s x o
  |.mmap i=>.mmap (back ids n i)
  |.yld i=>.yld (back ids n i)
  |.mmapN i m=>.mmapN (back ids n i) m
  |v=>v
def uB(ids:List Nat)(hp hp':List Blk):List Blk:=
  (hp.zipIdx.map λp=>match cE ids p.2 with
    |some i=>(hp'.getD i .dead).mapRef (fwd ids hp.length)
    |none=>p.1)++(hp'.drop ids.length).map (Blk.mapRef (fwd ids hp.length))
def Gh.back(g:Gh)(ids:List Nat)(n B:Nat)(g':Gh):Gh:=
  { phi := fun j => match cE ids j with
      |some i=>g'.phi i
      |none=>if j<n then g.phi j else g'.phi (ids.length+(j-n))
    psi:=λj=>match cE ids j with
      |some i=>g'.psi i
      |none=>if j<n then g.psi j else g'.psi (ids.length+(j-n))
    X:=λb=>g.X b\/(B<=b/\g'.X b) }
theorem H6:∀{ids:List Nat},ids.Nodup->∀{i j:Nat},ids[i]?=some j->cE ids j=some i
  |[],_,i,j,h=>by simp at h
  |x::r,hn,i,j,h=>by
    simp only[zal107q]at hn
    cases i with
    |zero=>simp at h;subst h;simp[cE]
    |succ i=>
      simp at h;have hne:x≠j:=λe=>by subst e;exact hn.1 (gH h)
      simp[cE,hne,H6 hn.2 h]
theorem Ch{ids:List Nat}{j:Nat}(h:cE ids j=none):∀i:Nat,ids[i]?≠some j:=by
  induction ids with
  |nil=>intro i h;simp at h
  |cons x r ih=>
    simp only[cE]at h;split at h;cases h;rename_i hne;simp only[Br]at h;intro i hi
    cases i with
    |zero=>simp at hi;exact hne hi
    |succ i=>simp at hi;exact ih h i hi
section back
variable {ids:List Nat}{n B:Nat}{g':Gh}
theorem Yk(hnd:ids.Nodup)(hlt:∀j∈ids,j<n)(i:Nat):(i<ids.length/\cE ids (back ids n i)=some i)\/(ids.length<=i/\back ids n i=n+(i-ids.length)/\cE ids (back ids n i)=none):=by
  unfold TL.back
  cases h:ids[i]? with
  |some j=>exact .inl ⟨(zal58q.1 h).1,H6 hnd h⟩
  |none=>
    have hi:=List.getElem?_eq_none_iff.1 h;refine .inr ⟨hi,rfl,?_⟩
    cases hp:cE ids (n+(i-ids.length))with
    |none=>rfl
    |some k=>have:=hlt _ (gH (fD ids _ _ hp));omega
theorem ga(hnd:ids.Nodup)(hlt:∀j∈ids,j<n)(i:Nat):(g.back ids n B g').phi (back ids n i)=g'.phi i/\(g.back ids n B g').psi (back ids n i)=g'.psi i:=by
  rcases Yk hnd hlt i with⟨_,h⟩|⟨hi,he,h⟩
  simp[Gh.back,h];simp only[Gh.back,h];rw[he,if_neg (by omega),if_neg (by omega)];constructor<;>congr 1<;>omega
theorem ARep.fwd{w':World}(hnd:ids.Nodup)(hlt:∀j∈ids,j<n){x:AV}{v:Value}(h:ARep w' g' x v)(hr:x.isRef=true):ARep w' (g.back ids n B g') (TL.fwd ids n x) v:=by
  cases h with
  |msl0=>exact .msl0 _ _ _ _
  |msl id sz off len cap b hb hc hp=>exact .msl _ _ _ _ _ b ((ga hnd hlt id).1.trans hb) hc (by rw[(ga hnd hlt id).2];exact hp)
  |mptr id sz idx off b hb=>exact .mptr _ _ _ _ b ((ga hnd hlt id).1.trans hb)
  |mmap id b hb=>exact .mmap _ b ((ga hnd hlt id).1.trans hb)
  |yld id b hb=>exact .yld _ b ((ga hnd hlt id).1.trans hb)
  |mmapN0=>exact .mmapN0 _
  |mmapN id n b hb=>exact .mmapN _ _ b ((ga hnd hlt id).1.trans hb)
  |_=>cases hr
end back
theorem Ir{ids:List Nat}{hp hp':List Blk}{j:Nat}{B:Blk}(h:(uB ids hp hp')[j]?=some B):
    (∃i,cE ids j=some i/\j<hp.length/\B=(hp'.getD i .dead).mapRef (fwd ids hp.length))\/(cE ids j=none/\j<hp.length/\hp[j]?=some B)\/
      (hp.length<=j/\∃B',hp'[ids.length+(j-hp.length)]?=some B'/\B=B'.mapRef (fwd ids hp.length)):=by
  unfold uB at h;rw[jP]at h;split at h;rename_i hlt;simp only[qF,List.length_zipIdx]at hlt;simp only[eR,Dj,Option.map_map,zal140q,Function.comp_def,fV]at h;obtain⟨B0,hB0,e⟩:=h;split at e;rename_i i hi;exact .inl ⟨i,hi,hlt,e.symm⟩;rename_i hi;exact .inr (.inl ⟨hi,hlt,by rw[hB0,e]⟩);rename_i hge;simp only[qF,List.length_zipIdx]at hge h;simp only[eR,pB,zal140q]at h;obtain⟨B',hB',e⟩:=h;exact .inr (.inr ⟨by omega,B',hB',e.symm⟩)
theorem cx{ids:List Nat}{hp hp':List Blk}:(uB ids hp hp').length=hp.length+(hp'.length-ids.length):=by simp[uB]
def uC(ids:List Nat)(hp:List Blk):List Blk:=ids.map λi=>(hp.getD i .dead).mapRef (toName (cE ids))
theorem Sim.handed(hs:Sim C st g a w){ids:List Nat}(hnd:ids.Nodup):Out ⟨C.P,0,w,(uC ids st.hp).length,g.canon ids,λ_=>false⟩ (uC ids st.hp) (g.canon ids) w:=by
  have hc:=hs.canon
  have hphi:∀i b,(g.canon ids).phi i=some b->∃j,ids[i]?=some j/\g.phi j=some b:=by
    intro i b hp;simp only[Gh.canon,zal137q]at hp;exact hp
  have hf:∀i j,cE ids i=some j->(g.canon ids).phi j=g.phi i/\(g.canon ids).psi j=g.psi i:=by
    intro i j hij;have:=fD ids i j hij;simp[Gh.canon,this]
  refine{ defers:=rfl,size:=rfl,fr:=λ_=>.junk _,hp:=?_,lt:=?_,inj:=?_,Xlt:=hs.Xlt,Xold:=λb h _=>h,os:=rfl,tape:=rfl,output:=rfl,drawn:=fL _,grown:=fL _,keep:=λ_ _ _=>rfl,own:=?_,stay:=?_,kle:=?_,laid:=λx hx=>⟨(hs.laidW x hx).1,λi hp=>by obtain⟨j,_,h⟩:=hphi i x.1 hp;exact(hs.laidW x hx).2 j h⟩ };intro i B hi;simp only[uC,eR,zal140q]at hi;obtain⟨j,hj,rfl⟩:=hi
  cases hB:st.hp[j]? with
  |none=>simp[List.getD,hB,Blk.mapRef,BRep]
  |some B=>
    rw[rM,hB];exact BRep.mapRef (i:=j) (g:=g) (g':=g.canon ids) (by simp[Gh.canon,hj]) (by simp[Gh.canon,hj]) (λ_ hb=>hb) (ARep.toName hf λ_ hb=>hb) (hs.hp j B hB)
  intro i b hp;obtain⟨j,hj,hp'⟩:=hphi i b hp;have:=hs.lt j b hp';exact⟨this.1,by simpa[uC]using(zal58q.1 hj).1,this.2.2⟩;intro i j b Bi Bj hBi hBj hdi hdj hi hj;obtain⟨i',hi',hpi⟩:=hphi i b hi;obtain⟨j',hj',hpj⟩:=hphi j b hj
  have inv:∀(m m':Nat)(Bm:Blk),ids[m]?=some m'->(uC ids st.hp)[m]?=some Bm->Bm≠.dead->∃B',st.hp[m']?=some B'/\B'≠.dead:=by
    intro m m' Bm hm hB hd;simp only[uC,eR,hm,kP,lV]at hB
    cases hh:st.hp[m']? with
    |none=>rw[rM,hh]at hB;subst hB;exact absurd rfl hd
    |some B'=>
      refine⟨B',rfl,λe=>?_⟩;subst e;rw[rM,hh]at hB;subst hB;exact hd rfl
  obtain⟨B1,e1,d1⟩:=inv i i' Bi hi' hBi hdi;obtain⟨B2,e2,d2⟩:=inv j j' Bj hj' hBj hdj;have e:=hs.inj i' j' b B1 B2 e1 e2 d1 d2 hpi hpj;subst e;exact xS hnd hi' hj';intro i b hp _;obtain⟨j,hj,_⟩:=hphi i b hp;exact⟨by simpa[uC]using(zal58q.1 hj).1,hp⟩;intro i b _ _ hp;exact⟨rfl,hp⟩;exact fL _
def kv(ids:List Nat)(mv:Nat->Bool)(j:Nat):Bool:=match cE ids j with
  |some i=>mv i
  |none=>false
def lP(S:Nat->Bool):AV->AV
  |.msl j s o l=>bif S j then .junk else .msl j s o l
  |.mptr j s x o=>bif S j then .junk else .mptr j s x o
  |.mmap j=>bif S j then .junk else .mmap j
  |.yld j=>bif S j then .junk else .yld j
  |.mmapN j n=>bif S j then .junk else .mmapN j n
  |v=>v
theorem Sim.backM(hs:Sim C st g a w){ids:List Nat}(mv:Nat->Bool)(hnd:ids.Nodup)(hal:∀j∈ids,eD st.hp j=true)(hmv:∀j,j<C.k->kv ids mv j=true->C.mv j=true){hp':List Blk}{g':Gh}{w':World}(ho:Out ⟨C.P,0,w,(uC ids st.hp).length,g.canon ids,mv⟩ hp' g' w'):
    Sim C ⟨Fr.mapRef (lP (kv ids mv)) st.fr,uB ids (st.hp.map (Blk.mapRef (lP (kv ids mv)))) hp'⟩ (g.back ids st.hp.length w.heap.size g') a w':=by
  have hlen:(uC ids st.hp).length=ids.length:=by simp[uC]
  have hlt:∀j∈ids,j<st.hp.length:=λj hj=>by obtain⟨B,hB,_⟩:=lT (hal j hj);exact(zal58q.1 hB).1
  have hcan:∀i b,(g.canon ids).phi i=some b->∃j:Nat,ids[i]?=some j/\g.phi j=some b:=by
    intro i b hp;simp only[Gh.canon,zal137q]at hp;exact hp
  have hcan':∀i j:Nat,ids[i]?=some j->(g.canon ids).phi i=g.phi j/\(g.canon ids).psi i=g.psi j:=by
    intro i j hij;simp[Gh.canon,hij]
  have hklen:=ho.kle;simp only[hlen]at hklen;have hsz:=ho.grown;simp only at hsz
  have hstay:∀i j b:Nat,ids[i]?=some j->mv i=false->g.phi j=some b->g'.psi i=g.psi j/\g'.phi i=some b:=by
    intro i j b hij hm hp;have h1:=hcan' i j hij;have:=ho.stay i b (by simp only[hlen];exact(zal58q.1 hij).1) hm (by rw[h1.1];exact hp);simp only at this;rw[h1.2]at this;exact this
  have hold:∀b,b<w.heap.size->(∀i j:Nat,ids[i]?=some j->g.phi j≠some b)->w'.heap[b]?=w.heap[b]?:=by
    intro b hb hne;refine ho.keep b hb λi hi hp=>?_;obtain⟨j,hj,hp'⟩:=hcan i b hp;exact hne i j hj hp'
  have hold':∀j b (B:Blk),st.hp[j]?=some B->B≠.dead->cE ids j=none->g.phi j=some b->w'.heap[b]?=w.heap[b]?:=by
    intro j b B hB hd hp hb;refine hold b (hs.lt j b hb).1 λi j' hij hp'=>?_;obtain⟨B',hB',hd'⟩:=lT (hal j' (gH hij));have:=hs.inj j j' b B B' hB hB' hd hd' hb hp';subst this;exact Ch hp i hij
  have hbelow:∀i b,g'.phi i=some b->b<w.heap.size->∃i' j:Nat,ids[i']?=some j/\g.phi j=some b:=by
    intro i b hp hb;obtain⟨_,h⟩:=ho.own i b hp hb;obtain⟨j,hj,hp'⟩:=hcan i b h;exact⟨i,j,hj,hp'⟩
  have hX:∀b,g'.X b->(g.back ids st.hp.length w.heap.size g').X b:=by
    intro b hb;by_cases hlt':b<w.heap.size;exact .inl (ho.Xold b hb hlt');exact .inr ⟨by omega,hb⟩
  let g1:Gh:={ g with phi:=λj=>if kv ids mv j=true then none else g.phi j }
  have hg1:∀j b,g1.phi j=some b->kv ids mv j=false/\g.phi j=some b:=by
    intro j b hp;simp only[g1]at hp;split at hp;cases hp;rename_i hne;exact⟨by simpa using hne,hp⟩
  have hF1:∀(x:AV)(v:Value),ARep w g x v->x.isRef=true->ARep w g1 (lP (kv ids mv) x) v:=by
    intro x v hx hr
    cases hx with
    |msl0 id sz off ad=>
      simp only[lP];cases kv ids mv id;exact .msl0 _ _ _ _;exact .junk _
    |msl id sz off len cap b hb hc hp=>
      simp only[lP];cases hm:kv ids mv id;exact .msl _ _ _ _ cap b (by simp[g1,hm,hb]) hc hp;exact .junk _
    |mptr id sz idx off b hb=>
      simp only[lP];cases hm:kv ids mv id;exact .mptr _ _ _ _ b (by simp[g1,hm,hb]);exact .junk _
    |mmap id b hb=>
      simp only[lP];cases hm:kv ids mv id;exact .mmap _ b (by simp[g1,hm,hb]);exact .junk _
    |yld id b hb=>
      simp only[lP];cases hm:kv ids mv id;exact .yld _ b (by simp[g1,hm,hb]);exact .junk _
    |mmapN0 id=>
      simp only[lP];cases kv ids mv id;exact .mmapN0 _;exact .junk _
    |mmapN id n b hb=>
      simp only[lP];cases hm:kv ids mv id;exact .mmapN _ _ b (by simp[g1,hm,hb]);exact .junk _
    |_=>cases hr
  have hfr1:∀t,ARep w g1 ((Fr.mapRef (lP (kv ids mv)) st.fr).get t) (a.tmps.getD t undef):=λt=>by
    rw[Fr.get_mapRef];exact ARep.mapRef (w:=w) (g:=g) (g':=g1) (λd v hd=>hd) hF1 (hs.fr t)
  have hgr:Grow w g1 w' (g.back ids st.hp.length w.heap.size g'):=by
    refine⟨λj b hp=>?_,λj b hp=>?_,λb hb=>.inl hb,λb hb=>?_⟩;obtain⟨hm,hp⟩:=hg1 j b hp;simp only[Gh.back]
    cases hpl:cE ids j with
    |some i=>exact(hstay i j b (fD ids _ _ hpl) (by simpa[kv,hpl]using hm) hp).2
    |none=>simp only;rw[if_pos (hs.lt j b hp).2.1];exact hp
    obtain⟨hm,hp⟩:=hg1 j b hp;simp only[Gh.back]
    cases hpl:cE ids j with
    |some i=>exact(hstay i j b (fD ids _ _ hpl) (by simpa[kv,hpl]using hm) hp).1
    |none=>simp only;rw[if_pos (hs.lt j b hp).2.1]
    exact hold b (hs.Xlt b hb) λi j _ hp=>(hs.lt j b hp).2.2 hb
  have hphi:∀j b,(g.back ids st.hp.length w.heap.size g').phi j=some b->(∃i,cE ids j=some i/\g'.phi i=some b)\/(cE ids j=none/\j<st.hp.length/\g.phi j=some b)\/(st.hp.length<=j/\g'.phi (ids.length+(j-st.hp.length))=some b):=by
    intro j b hp;simp only[Gh.back]at hp
    cases hpl:cE ids j with
    |some i=>rw[hpl]at hp;exact .inl ⟨i,rfl,hp⟩
    |none=>
      rw[hpl]at hp;simp only at hp;split at hp;rename_i hj;exact .inr (.inl ⟨rfl,hj,hp⟩);rename_i hj;exact .inr (.inr ⟨by omega,hp⟩)
  have hql:(st.hp.map (Blk.mapRef (lP (kv ids mv)))).length=st.hp.length:=qF _
  have hget:∀{j:Nat}{B:Blk},(st.hp.map (Blk.mapRef (lP (kv ids mv))))[j]?=some B->∃B0,st.hp[j]?=some B0/\B=B0.mapRef (lP (kv ids mv)):=by
    intro j B h;simp only[eR,zal140q]at h;obtain⟨B0,h1,h2⟩:=h;exact⟨B0,h1,h2.symm⟩
  refine{ defers:=hs.defers,size:=hs.size,fr:=λt=>(hfr1 t).mono hgr,hp:=?_,lt:=?_,inj:=?_,Xlt:=?_,Xold:=?_,os:=ho.os.trans hs.os,tape:=ho.tape.trans hs.tape,output:=ho.output.trans hs.output,drawn:=jL hs.drawn ho.drawn,grown:=jL hs.grown hsz,keep:=?_,own:=?_,stay:=?_,kle:=?_,laid:=hs.laid };intro j B hj;have hF:∀x v,ARep w' g' x v->x.isRef=true->ARep w' (g.back ids st.hp.length w.heap.size g') (fwd ids st.hp.length x) v:=λx v hx hr=>hx.fwd hnd hlt hr;rcases Ir hj with⟨i,hpl,hjl,rfl⟩|⟨hpl,hjl,hB⟩|⟨hjl,B',hB',rfl⟩
  rw[hql];have hi:i<ids.length:=(zal58q.1 (fD ids _ _ hpl)).1;have hB':hp'[i]?=some (hp'.getD i .dead):=by rw[rM,iE (by omega)];rfl
  exact BRep.mapRef (i:=i) (g:=g') (by simp[Gh.back,hpl]) (by simp[Gh.back,hpl]) hX hF (ho.hp i _ hB');obtain⟨B0,hB0,rfl⟩:=hget hB;rw[hql]at hjl;by_cases hd:B0=.dead;subst hd;trivial;have hm : kv ids mv j = false := by simp [kv, hpl]
  have h1:BRep w g1 j (B0.mapRef (lP (kv ids mv))):=BRep.mapRef (i:=j) (g:=g) (g':=g1) (by simp[g1,hm]) rfl (λ_ hb=>hb) hF1 (hs.hp j B0 hB0);refine h1.mono hgr (λhn=>?_) λb hb=>hold' j b B0 hB0 hd hpl (hg1 j b hb).2;simp only[g1,hm]at hn;simpa[Gh.back,hpl,hjl]using hn;rw[hql]at hjl hB'⊢
  have hpl:cE ids j=none:=by
    cases hp:cE ids j with
    |none=>rfl
    |some k=>have:=hlt _ (gH (fD ids _ _ hp));omega
  exact BRep.mapRef (i:=ids.length+(j-st.hp.length)) (g:=g') (by simp[Gh.back,hpl,show ¬j<st.hp.length by omega]) (by simp[Gh.back,hpl,show ¬j<st.hp.length by omega]) hX hF (ho.hp _ B' hB');intro j b hp;rw[cx,hql]
  have own':∀i,g'.phi i=some b->¬(g.back ids st.hp.length w.heap.size g').X b:=by
    intro i hi hx;rcases hx with hx|⟨_,hx⟩
    obtain⟨i',j',_,hp'⟩:=hbelow i b hi (hs.Xlt b hx);exact(hs.lt j' b hp').2.2 hx;exact(ho.lt i b hi).2.2 hx
  rcases hphi j b hp with⟨i,hpl,hp'⟩|⟨hpl,hjl,hp'⟩|⟨hjl,hp'⟩
  have:=hlt _ (gH (fD ids _ _ hpl));exact⟨(ho.lt i b hp').1,by omega,own' i hp'⟩;have:=hs.lt j b hp';refine⟨by omega,by omega,λhx=>?_⟩;rcases hx with hx|⟨hx,_⟩
  exact this.2.2 hx;omega;have:=(ho.lt _ b hp').2.1;simp only at this;exact⟨(ho.lt _ b hp').1,by omega,own' _ hp'⟩;intro j j' b Bj Bj' hBj hBj' hdj hdj' hj hj'
  have look:∀(j:Nat)(Bj:Blk),(uB ids (st.hp.map (Blk.mapRef (lP (kv ids mv)))) hp')[j]?=some Bj->Bj≠.dead->(g.back ids st.hp.length w.heap.size g').phi j=some b->
      (∃i B,hp'[i]?=some B/\B≠.dead/\g'.phi i=some b/\TL.back ids st.hp.length i=j)\/(cE ids j=none/\∃B,st.hp[j]?=some B/\B≠.dead/\g.phi j=some b):=by
    intro j Bj hBj hd hp;rcases Ir hBj with⟨i,hpl,hjl,rfl⟩|⟨hpl,hjl,hB⟩|⟨hjl,B',hB',rfl⟩
    left;have hij:=fD ids _ _ hpl;have hi:i<ids.length:=(zal58q.1 hij).1;refine⟨i,hp'.getD i .dead,by rw[rM,iE (by omega)];rfl,λe=>by rw[e]at hd;exact hd rfl,by simpa[Gh.back,hpl]using hp,by simp[TL.back,hij]⟩;right;obtain⟨B0,hB0,rfl⟩:=hget hB;rw[hql]at hjl;exact⟨hpl,B0,hB0,λe=>by subst e;exact hd rfl,by simpa[Gh.back,hpl,hjl]using hp⟩;left;rw[hql]at hjl hB'
    have hpl:cE ids j=none:=by
      cases hp:cE ids j with
      |none=>rfl
      |some k=>have:=hlt _ (gH (fD ids _ _ hp));omega
    refine⟨ids.length+(j-st.hp.length),B',hB',λe=>by subst e;exact hd rfl,by simpa[Gh.back,hpl,show ¬j<st.hp.length by omega]using hp,?_⟩;simp only[TL.back];rw[lB (by omega)];simp only;omega
  have cross:∀(i j:Nat)(B:Blk),g'.phi i=some b->cE ids j=none->st.hp[j]?=some B->B≠.dead->g.phi j=some b->False:=by
    intro i j B hi hpl hB hd hj;obtain⟨i',j',hij,hp'⟩:=hbelow i b hi (hs.lt j b hj).1;obtain⟨B',hB',hd'⟩:=lT (hal j' (gH hij));have:=hs.inj j j' b B B' hB hB' hd hd' hj hp';subst this;exact Ch hpl i' hij
  rcases look j Bj hBj hdj hj with⟨i,B,hB,hd,hi,rfl⟩|⟨hpl,B,hB,hd,hi⟩<;>rcases look j' Bj' hBj' hdj' hj' with⟨i',B',hB',hd',hi',rfl⟩|⟨hpl',B',hB',hd',hi'⟩
  rw[ho.inj i i' b B B' hB hB' hd hd' hi hi'];exact(cross i _ B' hi hpl' hB' hd' hi').elim;exact(cross i' _ B hi' hpl hB hd hi).elim;exact hs.inj _ _ b B B' hB hB' hd hd' hi hi';intro b hb;rcases hb with hb|⟨_,hb⟩
  have:=hs.Xlt b hb;omega;exact ho.Xlt b hb;intro b hb hlt';rcases hb with hb|⟨hge,_⟩
  exact hs.Xold b hb hlt';have:=hs.grown;omega;intro b hb hk;rw[hold b (by have:=hs.grown;omega) λi j _ hp=>?_];exact hs.keep b hb hk;obtain⟨hm,h0⟩:=hs.own j b hp hb;exact hk j hm h0;intro j b hp hb;have hbw:b<w.heap.size:=by have:=hs.grown;omega
  rcases hphi j b hp with⟨i,hpl,hp'⟩|⟨_,_,hp'⟩|⟨hjl,hp'⟩
  obtain⟨_,h⟩:=ho.own i b hp' hbw;obtain⟨j',hj',hp2⟩:=hcan i b h;rw[fD ids _ _ hpl]at hj';cases hj';exact hs.own j b hp2 hb;exact hs.own j b hp' hb;have:=(ho.own _ b hp' hbw).1;simp only[hlen]at this;omega;intro j b hj hm hp;have h1:=hs.stay j b hj hm hp;have hjl:=hs.kle
  cases hpl:cE ids j with
  |some i=>
    have hmi:mv i=false:=by
      cases h:mv i with
      |false=>rfl
      |true=>have:=hmv j hj (by simp[kv,hpl,h]);rw[hm]at this;cases this
    have:=hstay i j b (fD ids _ _ hpl) hmi h1.2;simp only[Gh.back,hpl];exact⟨this.1.trans h1.1,this.2⟩
  |none=>
    simp only[Gh.back,hpl];rw[if_pos (by omega),if_pos (by omega)];exact h1
  rw[cx,hql];have:=hs.kle;omega
mutual
theorem AV.mapRef_self{F:AV->AV}(hF:∀x,x.isRef=true->F x=x):∀v:AV,AV.mapRef F v=v
  |.junk|.und|.d _=>rfl
  |.msl ..|.mptr ..|.mmap _|.yld _|.mmapN ..=>hF _ rfl
  |.agg cs|.tup cs|.fnc _ cs=>by simp only[AV.mapRef,AV.mapRefs_self hF cs]
  |.ifc _ c=>by simp only[AV.mapRef,AV.mapRef_self hF c]
theorem AV.mapRefs_self{F:AV->AV}(hF:∀x,x.isRef=true->F x=x):∀cs:List AV,AV.mapRefs F cs=cs
  |[]=>rfl
  |c::r=>by simp only[AV.mapRefs,AV.mapRef_self hF c,AV.mapRefs_self hF r]
end
theorem Fr.mapRef_self{F:AV->AV}(hF:∀x,x.isRef=true->F x=x):∀fr:Fr,Fr.mapRef F fr=fr
  |[]=>rfl
  |(t,v)::r=>by simp only[Fr.mapRef,AV.mapRef_self hF v,Fr.mapRef_self hF r]
theorem Sim.back(hs : Sim C st g a w){ids : List Nat}(hnd : ids.Nodup)(hal : ∀ j ∈ ids, eD st.hp j = true){hp' : List Blk}{g' : Gh}{w' : World}(ho : Out ⟨C.P, 0, w, (uC ids st.hp).length, g.canon ids, fun _ => false⟩ hp' g' w') :
    Sim C ⟨st.fr,uB ids st.hp hp'⟩ (g.back ids st.hp.length w.heap.size g') a w':=by
  have hz:∀j,kv ids (λ_=>false) j=false:=λj=>by unfold kv;split<;>rfl
  have hF:∀x,x.isRef=true->lP (kv ids λ_=>false) x=x:=λx hx=>by
    cases x with
    |msl|mptr|mmap|yld|mmapN=>simp[lP,hz]
    |_=>cases hx
  have h:=hs.backM (λ_=>false) hnd hal (λj _ hm=>by rw[hz]at hm;cases hm) ho;have e1:Fr.mapRef (lP (kv ids λ_=>false)) st.fr=st.fr:=Fr.mapRef_self hF _
  have e2:st.hp.map (Blk.mapRef (lP (kv ids λ_=>false)))=st.hp:=by
    conv=>rhs;rw[<- List.map_id st.hp]
    refine Mg λB _=>?_
    cases B with
    |box ty cs=>simp only[Blk.mapRef,AV.mapRefs_self hF cs,id]
    |lp=>simp only[Blk.mapRef,Fr.mapRef_self hF,id]
    |_=>rfl
  rw[e1,e2]at h;exact h
theorem ok_callW{o:Oper}{K:St->Prop}{f:Operand}{xs:Array Operand}{ts:Array TypeId}{F:FuncId}{c:D}{cs:List D}(ids:List Nat)(args:List AV)(r:AV)(hp':List Blk)(ho:o.op=.call { callee:=.value f,args:=xs,argTypes:=ts })(hd:ca C.n o.dst=true)
    (hf:st.fr.ev f=.d c) (hc:Vy c=some (F,cs)) (hnd:ids.Nodup) (hal:(ids.all λj=>eD st.hp j)=true) (hx:(xs.toList.map λx=>(st.fr.ev x).mapRef (toName (cE ids)))++cs.map .d=args) (hret:Ret C.P F (uC ids st.hp) (λ_=>false) args r hp')
    (hK:K (St.put ⟨st.fr,uB ids st.hp hp'⟩ o.dst (r.mapRef (fwd ids st.hp.length)))):OpOk C o st K:=by
  intro g a w Q hs;have hfv:=hs.ev f;rw[hf]at hfv
  obtain⟨vs,hv,hvs⟩:∃vs:Array Value,a.eval f=.func (.func F) #[] vs/\Pw (DRep w g.X) cs vs.toList:=by
    cases hfv with|d _ _ h=>exact Cw h hc
  have hf':∀i j,cE ids i=some j->(g.canon ids).phi j=g.phi i/\(g.canon ids).psi j=g.psi i:=by
    intro i j hij;have:=fD ids i j hij;simp[Gh.canon,this]
  have hargs:Pw (ARep w (g.canon ids)) args (xs.map a.eval++vs).toList:=by
    rw[<- hx,He];refine Pw.append ⟨by simp,λi x v hxi hvi=>?_⟩ ⟨by simpa using hvs.1,λi x v hxi hvi=>?_⟩;simp only[eR,zal140q]at hxi;simp only[yC,eR,zal140q]at hvi;obtain⟨y,hy,rfl⟩:=hxi;obtain⟨z,hz,rfl⟩:=hvi;rw[hy]at hz;cases hz;exact ARep.mapRef (w:=w) (g:=g) (g':=g.canon ids) (λd v hd=>hd) (ARep.toName hf' λ_ hb=>hb) (hs.ev y);simp only[eR,zal140q]at hxi;obtain⟨d,hd',rfl⟩:=hxi;exact .d _ _ (hvs.2 i d v hd' hvi)
  have hal':∀j∈ids,eD st.hp j=true:=λj hj=>zal30q.1 hal j hj;have hlt:∀j∈ids,j<st.hp.length:=λj hj=>by obtain⟨B,hB,_⟩:=lT (hal' j hj);exact(zal58q.1 hB).1
  simp only[Oper.wp,lH ho hv hret.1,Oper.upon_enter];refine(hret.2 w (g.canon ids) _ (hs.handed hnd) hargs).mono ?_;rintro e w' ⟨v,g',rfl,hout,hr⟩;refine⟨_,_,hK,(hs.back hnd hal' hout).put' hd ?_⟩;refine ARep.mapRef (w:=w') (g:=g') (λd v hd=>hd.mono (λb hb=>?_) λ_ _=>rfl) (λx v hx hr=>hx.fwd hnd hlt hr) hr;by_cases hlt':b<w.heap.size;exact .inl (hout.Xold b hb hlt');exact .inr ⟨by omega,hb⟩
variable {C:Ctx}{st:St}{g:Gh}{a:Act}{w:World}{P:Program}
theorem DOk.mk{o:Oper}{ev:Operand->AV}{hpn:List Blk}{x:AV}{ws:List (Nat×Blk)}(h:∀st:St,HpLe hpn st.hp->(∀y∈o.op.operands,st.fr.ev y=ev y)->∀g a w,Sim C st g a w->∃v w' g',(execOp a.eval o).run C.P w=.ok (.value v) w'/\Sim C ⟨st.fr,wr ws st.hp⟩ g' a w'/\ARep w' g' x v):DOk C o ev hpn x ws:=by
  intro st h1 _ _ h2 g a w hs Q K' hK;obtain⟨v,w',g',hr,hs',hx⟩:=h st h1 h2 g a w hs;simp only[Oper.wp,hr,Oper.upon_value];exact hK v w' g' hs' hx
theorem DOk.mkS{o:Oper}{ev:Operand->AV}{hpn:List Blk}{ws:List (Nat×Blk)}(_hd:o.dst=none)(h:∀st:St,HpLe hpn st.hp->(∀y∈o.op.operands,st.fr.ev y=ev y)->∀g a w,Sim C st g a w->∃w' g',(execOp a.eval o).run C.P w=.ok .skip w'/\Sim C ⟨st.fr,wr ws st.hp⟩ g' a w'):DOk C o ev hpn .junk ws:=by
  intro st h1 _ _ h2 g a w hs Q K' hK;obtain⟨w',g',hr,hs'⟩:=h st h1 h2 g a w hs;simp only[Oper.wp,hr,Oper.upon_skip];exact hK undef w' g' hs' (.junk _)
theorem RdOk.mkW{o:Oper}{ev:Operand->AV}{hp:List Blk}{x:AV}(h:∀st:St,HpLe hp st.hp->(∀y∈o.op.operands,st.fr.ev y=ev y)->∀g a w,Sim C st g a w->∃v w' g',(execOp a.eval o).run C.P w=.ok (.value v) w'/\Sim C st g' a w'/\ARep w' g' x v):RdOk C o ev hp x:=by
  intro st h1 h2 g a w hs Q K' hK;obtain⟨v,w',g',hr,hs',hx⟩:=h st h1 h2 g a w hs;simp only[Oper.wp,hr,Oper.upon_value];exact hK v w' g' hs' hx
theorem RowOf.frozen{ty:TypeId}{sz:Nat}{es:List D}{vs:Array Value}(hs:Sim C st g a w)(r:RowOf w g.X sz es vs):∃g',Sim C st g' a (w.alloc (.cells vs ty))/\∀n,n=es.length->ARep (w.alloc (.cells vs ty)) g' (.d (.sl sz es)) (.slice (some ⟨w.heap.size,0,none⟩) n n):=by
  obtain⟨hs',hg⟩:=hs.allocX (.cells vs ty);refine⟨_,hs',λn hn=>.d _ _ ?_⟩;subst hn
  let g1:Gh:={ phi:=λj=>if j=0 then some w.heap.size else none,psi:=λ_=>vs.size,X:=g.X }
  have hrep:∀(j:Nat)(B:Blk),[Blk.flat ty sz es][j]?=some B->BRep (w.alloc (.cells vs ty)) g1 j B:=by
    intro j B hj
    match j,hj with
    |0,hj=>
      cases hj;refine .inr ⟨w.heap.size,vs,by simp[g1],heap_alloc_new w _,rfl,r.le,r.h0,r.h1,λi e j c he hc=>?_⟩;obtain⟨v,hv,hd⟩:=r.rep i e j c he hc;exact⟨v,hv,hd.mono (λ_ h=>h) λb hb=>iB w _ b (hs.Xlt b hb)⟩
    |j+1,hj=>simp at hj
  refine tP (st:=⟨[],[.flat ty sz es]⟩) (g:=g1) hrep ((Snap.msl 0 sz 0 es.length ty es rfl (by omega)).same (by simp)) (λb hb=>.inl hb) (λj b hp=>?_) (v:=.slice (some ⟨w.heap.size,0,none⟩) es.length es.length) ?_;simp only[g1]at hp;split at hp;cases hp;exact .inr rfl;cases hp;have := ARep.msl (w := w.alloc (.cells vs ty)) (g := g1) 0 sz 0 es.length es.length w.heap.size (by simp [g1]) (fL _) (by simp only [fV, g1]; exact r.le);simpa using this
section made
variable {o:Oper}{ev:Operand->AV}{hp:List Blk}{x y:Operand}{t e:TypeId}{sz by':Nat}{z:Value}
theorem rd_make{n:Nat}{zd:D}(ho:o.op=.makeSlice t x y)(hl:sel C.P t=some (e,sz,by'))(hz:(C.P.info? e).bind (·.zero)=some z)(hzd:gF z=.d zd)(hzs:zd.cells.length=sz)
    (hx:ev x=.d (.int .i64 n)) (hy:ev y=.d (.int .i64 n)) (hb:by'*n<=281474976710656) (hm:n<=9223372036854775807):RdOk C o ev hp (.d (.sl sz (List.replicate n zd))):=
  RdOk.mkW λst hhp hag g a w hs=>by
    obtain⟨vs,hr,row⟩:=wu (st:=st) sz by' n z zd ho hl hz hzd hzs (by rw[hag x (by simp[ho,Op.operands]),hx]) (by rw[hag y (by simp[ho,Op.operands]),hy]) (by omega) (by rw[<- Int.natCast_mul];omega) (by omega) hs
    obtain⟨g',h1,h2⟩:=row.frozen (ty:=e) hs;exact⟨_,_,g',hr,h1,by have:=h2 n (by simp);simpa using this⟩
theorem rd_litF{parts:Array (Nat×Operand)}{n:Nat}{ds:List D}(xs:List Operand)(ho:o.op=.buildSlice t n parts)(hl:sel C.P t=some (e,sz,by'))(hz:(C.P.info? e).bind (·.zero)=some z)(hp':pJ parts xs)
    (hx:Ya (xs.map ev)=some ds) (hn:Nat.beq ds.length n=true) (hs:(ds.all λd=>Nat.beq d.cells.length sz)=true) (hsmall:Nat.ble (n*sz) 16777216=true):RdOk C o ev hp (.d (.sl sz ds)):=
  RdOk.mkW λst hhp hag g a w hsim=>by
    have hmem:∀x∈xs,x∈o.op.operands:=by
      intro x hx;simp only[ho,Op.operands];obtain⟨i,hi⟩:=nS hx;have:(xs.zipIdx.map λx=>(x.2,x.1))[i]?=some (i,x):=by simp[hi]
      rw[<- hp']at this;simp only[Bv,zal96q];exact⟨(i,x),gH this,rfl⟩
    have hev:xs.map st.fr.ev=ds.map AV.d:=by
      rw[<- fj hx];exact Mg λx hx=>hag x (hmem x hx)
    obtain⟨vs,hr,row,_⟩:=wM (st:=st) sz by' xs ds z ho hl hz hp' hev (fC hn) (λd hd=>fC (zal30q.1 hs d hd)) (jY hsmall) hsim
    obtain⟨g',h1,h2⟩:=row.frozen (ty:=e) hsim;exact⟨_,_,g',hr,h1,h2 n (fC hn).symm⟩
theorem Gq{hpn hp':List Blk}{i:Nat}(h:hpn[i]?=some .hole)(hle:HpLe hpn hp'):hp'[i]?=some .hole:=hle i _ h λe=>by cases e
theorem pZ{i:Nat}{cs:List AV}(hi:hp[i]?=some .hole)(ho:o.op=.alloc t)(hz:(C.P.info? t).bind (·.zero)=some z)(hf:(gF z).flat=true)(hc:(gF z).cells=cs):DOk C o ev hp (.mptr i 0 0 0) [(i,.box t cs)]:=
  DOk.mk λst hhp hag g a w hs=>by
    subst hc;obtain⟨inf,hinf,hz'⟩:=xX hz;have hpw:=((mN w g z).pw hf).1;have hno:g.phi i=none:=hs.hp i _ (Gq hi hhp);have hg:=hs.grow_at (.cells z.cells t) z.cells.size hno;refine⟨.pointer (some ⟨w.heap.size,0,none⟩),w.alloc (.cells z.cells t),_,by simp[execOp,ho,Instr.alloc,zeroValue,typeInfo,hinf,hz',newVar,newRow],hs.fill (n:=z.cells.size) (Gq hi hhp) ?_,.mptr _ 0 0 0 w.heap.size (by simp[Gh.new,upd])⟩;exact⟨w.heap.size,z.cells,by simp[Gh.new,upd],heap_alloc_new w _,by simp[Gh.new,upd],by simpa using hpw.1,λj c v hc hv=>(hpw.2 j c v hc (by simpa using hv)).mono hg⟩
theorem RowOf.filled{ty:TypeId}{sz:Nat}{es:List D}{vs:Array Value}{i:Nat}(hs:Sim C st g a w)(hi:st.hp[i]?=some .hole)(r:RowOf w g.X sz es vs)(n:Nat)(hn:n=es.length):∃g',Sim C ⟨st.fr,st.hp.set i (.flat ty sz es)⟩ g' a (w.alloc (.cells vs ty))/\ARep (w.alloc (.cells vs ty)) g' (.msl i sz 0 n) (.slice (some ⟨w.heap.size,0,none⟩) n n):=by
  subst hn;have hno:g.phi i=none:=hs.hp i _ hi;have hg:=hs.grow_at (.cells vs ty) vs.size hno;refine⟨_,hs.fill (n:=vs.size) hi (.inr ⟨w.heap.size,vs,by simp[Gh.new,upd],heap_alloc_new w _,by simp[Gh.new,upd],r.le,r.h0,r.h1,λk e j c he hc=>?_⟩),?_⟩;obtain⟨v,hv,hd⟩:=r.rep k e j c he hc;exact⟨v,hv,hd.mono hg.X hg.mem⟩;have := ARep.msl (w := w.alloc (.cells vs ty)) (g := g.new i w.heap.size vs.size) i sz 0 es.length es.length w.heap.size (by simp [Gh.new, upd]) (fL _) (by simp only [fV, Gh.new, upd, if_true]; exact r.le);simpa using this
theorem Ou{id off s:Nat}{bb:Bool}{bt:TypeId}{cs cs':List AV}{v:AV}(ho:o.op=.store t x y)(hd:o.dst=none)(hl:lay C.P t=some (bb,s))(hx:ev x=.mptr id 0 0 off)(hy:ev y=v)(hf:v.flat=true)(hs:v.cells.length=s)
    (hb:hp[id]?=some (.box bt cs)) (hc:off+s<=cs.length) (hv:spl cs off v.cells=cs'):DOk C o ev hp .junk [(id,.box bt cs')]:=
  DOk.mkS hd λst hhp hag g a w hsim=>by
    subst hv;obtain⟨w',h1,h2⟩:=wt (st:=st) id off s bb cs v ho hd hl (by rw[hag x (by simp[ho,Op.operands]),hx]) (by rw[hag y (by simp[ho,Op.operands]),hy]) hf hs (hhp id _ hb λe=>by cases e) hc hsim;rw[hd]at h2;exact⟨w',g,h1,h2⟩
end made
section steps
variable {ops:Array Oper}{l:List Oper}{K:St->Prop}{fr:Fr}{hp:List Blk}{acc:List Rec}{d:Nat}{op:Op}{ty:TypeId}{pos:String}{after:Array Edge}{gd:Option (Nat×Bool)}
theorem zZ(rs : List Nat)(ws : List (Nat × Blk))(v : AV)(hd : decide (d < C.n) = true)(hon : onA ops fr ⟨some d, op, ty, pos, after, gd⟩ = some true)(hw : (ws.all fun p => rs.contains p.1 && decide (p.1 < hp.length)) = true)(hr : DOk C ⟨some d, op, ty, pos, after, gd⟩ fr.ev (Ib rs hp) v ws)
    (h:TDr C ops K l ((d,v)::fr) (wr ws hp) (acc++[⟨true,d,v,rs,ws⟩])):TDr C ops K (⟨some d,op,ty,pos,after,gd⟩::l) fr hp acc:=
  .step _ l fr hp acc d v rs ws v (.inl ⟨rfl,hd,rfl⟩) hon (λp hp=>by have:=zal30q.1 hw p hp;simp at this;exact⟨this.2,.inr this.1⟩) hr h
theorem V8(d : Nat)(rs : List Nat)(ws : List (Nat × Blk))(hon : onA ops fr ⟨none, op, ty, pos, after, gd⟩ = some true)(hw : (ws.all fun p => rs.contains p.1 && decide (p.1 < hp.length)) = true)(hr : DOk C ⟨none, op, ty, pos, after, gd⟩ fr.ev (Ib rs hp) .junk ws)
    (h:TDr C ops K l ((d,.junk)::fr) (wr ws hp) (acc++[⟨true,d,.junk,rs,ws⟩])):TDr C ops K (⟨none,op,ty,pos,after,gd⟩::l) fr hp acc:=
  .step _ l fr hp acc d .junk rs ws .junk (.inr ⟨rfl,rfl⟩) hon (λp hp=>by have:=zal30q.1 hw p hp;simp at this;exact⟨this.2,.inr this.1⟩) hr h
theorem iW{c:Code}{Q:Exit->St->Prop}(h:TWp C c ⟨fr,hp++[.hole]⟩ Q):TWp C c ⟨fr,hp⟩ Q:=λg a w hs=>h g a w (Sim.hole (st:=⟨fr,hp⟩) hs)
theorem s_callW{f : Operand}{xs : Array Operand}{ts : Array TypeId}{F : FuncId}{c : D}{cs : List D}(ids : List Nat){args : List AV}{r r' : AV}{hh hp' hp2 : List Blk}(hd : decide (d < C.n) = true)(hf : fr.ev f = .d c)(hc : Vy c = some (F, cs))(hnd : ids.Nodup)(hal : (ids.all fun j => eD hp j) = true)
    (hx:(xs.toList.map λx=>(fr.ev x).mapRef (toName (cE ids)))++cs.map .d=args) (hhd:uC ids hp=hh) (hret:Ret C.P F hh (λ_=>false) args r hp') (hr:r.mapRef (fwd ids hp.length)=r') (hb:uB ids hp hp'=hp2)
    (h:eA C ops l ⟨(d,r')::fr,hp2⟩ K):eA C ops (⟨some d,.call { callee:=.value f,args:=xs,argTypes:=ts },ty,pos,after,none⟩::l) ⟨fr,hp⟩ K:=by
  subst hr hb hhd;exact lD rfl (ok_callW ids args r hp' rfl hd hf hc hnd hal hx hret h)
end steps
def Oc(op:BinOp)(p q:Bool):Option Bool:=
  match op with
  |.eql=>some (p == q)
  |.neq=>some (!(p == q))
  |_=>none
theorem Xe{t:TypeId}(hu:P.underlying t=some .bool)(p q:Bool)(w:World):(Op.equal t (.bool p) (.bool q)).run P w=.ok (p == q) w:=by
  have h:(Op.equalIn (9999+1) t (.bool p) (.bool q)).run P w=.ok (p == q) w:=by
    unfold Op.equalIn;simp[run_underlying hu]
  exact h
theorem cmp_bool{o:Oper}{ev:Operand->AV}{hp:List Blk}{op:BinOp}{t t':TypeId}{x y:Operand}{p q r:Bool}(hu:C.P.underlying t=some .bool)(ho:o.op=.binOp op t x y t')(hx:ev x=.d (.bool p))(hy:ev y=.d (.bool q))(hr:Oc op p q=some r):RdOk C o ev hp (.d (.bool r)):=
  RdOk.mk λst hhp hag g a w hs=>by
    have h:=hs.ev x;rw[hag x (by simp[ho,Op.operands]),hx]at h;have hi:=hs.ev y;rw[hag y (by simp[ho,Op.operands]),hy]at hi;refine⟨.bool r,?_,.d _ _ (.bool r)⟩
    have hg:(eqGuard op t x y (.bool p) (.bool q)).run C.P w=.ok () w:=by
      unfold eqGuard;cases op<;>simp
    simp only[execOp,ho,bool_inv h,bool_inv hi,Sem.run_bind,hg,Result.andThen_ok];cases op<;>simp only[Oc]at hr<;>cases hr<;>simp[binOp,Xe hu]
theorem Nd{o:Oper}{ev:Operand->AV}{hp:List Blk}{F:FuncId}{caps:Array Operand}{ds:List D}(ho:o.op=.makeFunc (.func F) #[] caps)(hx:Ya (caps.toList.map ev)=some ds):RdOk C o ev hp (.d (.clo F ds)):=
  RdOk.mk λst hhp hag g a w hs=>by
    refine⟨.func (.func F) #[] (caps.map a.eval),by simp[execOp,ho,Instr.makeFunc],.d _ _ (.clo _ _ _ ?_ λi c v hc hv=>?_)⟩;have:=congrArg List.length (fj hx);simpa using this.symm;simp only[Array.getElem?_map,zal140q]at hv;obtain⟨z,hz,rfl⟩:=hv;have h1:(caps.toList.map ev)[i]?=some (.d c):=by rw[fj hx];simp[hc]
    simp only[eR,zal140q]at h1;obtain⟨y,hy,hyc⟩:=h1;have e:y=z:=by rw[<- Array.getElem?_toList,hy]at hz;exact cC hz
    subst e;have h:=hs.ev y;rw[hag y (by simp only[ho,Op.operands];exact zal9q.2 (.inr (zal10q.1 (gH hy)))),hyc]at h;cases h with|d _ _ h=>exact h
def DLe(d d':D):Prop:=∀(w:World)(X:Nat->Prop)(v:Value),DRep w X d v->DRep w X d' v
theorem DLe.refl(d:D):DLe d d:=λ_ _ _ h=>h
theorem DLe.nil(sz:Nat):DLe .nilsl (.sl sz []):=λ_ _ _ h=>by cases h;exact .sl0 _ _ _
inductive DLes:List D->List D->Prop
  |nil:DLes [] []
  |cons {d d':D} {ds ds':List D} (h:DLe d d') (h1:d'.one=true) (hr:DLes ds ds'):DLes (d::ds) (d'::ds')
theorem DLe.agg{ds ds':List D}(h:DLes ds ds'):DLe (.agg ds) (.agg ds'):=by
  have key:ds.length=ds'.length/\(∀d∈ds',d.one=true)/\∀(i:Nat)(c c':D),ds[i]?=some c->ds'[i]?=some c'->DLe c c':=by
    induction h with
    |nil=>exact⟨rfl,λd hd=>by simp at hd,λi c c' h=>by simp at h⟩
    |cons h h1 _ ih=>
      refine⟨by simp[ih.1],λd hd=>?_,λi c c' hc hc'=>?_⟩;rcases zal91q.1 hd with rfl|hd
      · exact h1
      exact ih.2.1 d hd
      cases i with
      |zero=>simp at hc hc';subst hc hc';exact h
      |succ i=>exact ih.2.2 i c c' (by simpa using hc) (by simpa using hc')
  intro w X v hv
  cases hv with
  |agg _ vs hl _ hr=>
    refine .agg _ vs (key.1 ▸ hl) key.2.1 λi c v hc hv=>?_;have hi:i<ds.length:=by rw[key.1];exact(zal58q.1 hc).1
    exact key.2.2 i ds[i] c (by simp[hi]) hc w X v (hr i ds[i] v (by simp[hi]) hv)
section weak
variable {ops:Array Oper}{l:List Oper}{K:St->Prop}{fr:Fr}{hp:List Blk}
end weak
theorem yG{c:Code}{Q:Exit->St->Prop}{α:Type}{fr:Fr}{hp:List Blk}(var:α->Fr)(chg:α->List (Nat×Blk))(ok:α->Prop)(m:α->Nat)(vk ik ids:List Nat)(x0:α){inv:Fr}{hp0:List Blk}(hnd:ids.Nodup)(hk:∀i,i<C.k->ids[i]?=some i)(h0:ok x0)
    (hI:SubK fr ik inv) (hI':Fr.mapRef (toName (cE ids)) inv=inv) (hV:Fr.mapRef (toName (cE ids)) (Fr.keep vk fr)=var x0) (hH:ids.map (λi=>(hp.getD i .dead).mapRef (toName (cE ids)))=hp0) (hC:hp0=wr (chg x0) hp0)
    (round:∀x,ok x->TWp C c ⟨var x++inv,wr (chg x) hp0⟩ (yI (λst'=>∃y ids',ids'.Nodup/\(∀i,i<C.k->ids'[i]?=some i)/\ok y/\m y<m x/\st'.canon (vk++ik) ids'=⟨var y++inv,wr (chg y) hp0⟩) Q)):TWp C (.loop c) ⟨fr,hp⟩ Q:=by
  refine qAP (λx=>(⟨var x++inv,wr (chg x) hp0⟩:St)) ok m (vk++ik) ids x0 hnd hk h0 ?_ round;simp only[St.canon]
  have e1:Fr.keep (vk++ik) fr=Fr.keep vk fr++inv:=by
    rw[hI.keep];simp[Fr.keep]
  have e2:∀(F:AV->AV)(a b:Fr),Fr.mapRef F (a++b)=Fr.mapRef F a++Fr.mapRef F b:=by
    intro F a b
    induction a with
    |nil=>rfl
    |cons x r ih=>obtain⟨t,v⟩:=x;simp[Fr.mapRef,ih]
  rw[e1,e2,hI',hV,hH]
  congr 1
variable {P:Program}{st:St}
theorem aU{b c:Bool}(h:b=c):AV.d (.bool b)=.d (.bool c):=h ▸ rfl
theorem gb{C:Ctx}{hp:List Blk}{o:Oper}{ev:Operand->AV}{op:BinOp}{t t':TypeId}{x y:Operand}{m n r' r:Int}(ho:o.op=.binOp op t x y t')(hx:ev x=.d (.int .i64 m))(hy:ev y=.d (.int .i64 n))(hr:Wp op m n=some r')(e:r'=r)(hb:-9223372036854775808<=r/\r<=9223372036854775807):RdOk C o ev hp (.d (.int .i64 r)):=
  gc ho hx hy (e ▸ hr) hb
theorem idx_int{α:Type}{f:α->D}{xs:List α}{v:Int}{x:α}(h0:0<=v)(h:xs[v.toNat]?=some x):0<=v/\(xs.map f)[v.toNat]?=some (f x):=⟨h0,by simp[h]⟩
section
variable {cs r r':List AV}
end
def bH(n:Int):Prop:=-9223372036854775808<=n/\n<=9223372036854775807
instance (n:Int):Decidable (bH n):=inferInstanceAs (Decidable (_/\_))
def anyTo{α:Type}(p:α->Bool)(xs:List α)(i:Nat):Prop:=(xs.take i).any p=false
theorem sQ{α:Type}{xs:List α}{i:Nat}(h:i<xs.length):∃x,xs[i]?=some x:=⟨_,iE h⟩
theorem RetN.unit{F:FuncId}{ds:List D}{d:D}(h:Ret P F [] (λ_=>false) (ds.map .d) (.d d) [])(hm:D.mem0 d=true):RetN P F ds d:=.lit h hm
theorem RetD.of{F:FuncId}{ds:List D}{d:D}{mv:Nat->Bool}(h:Ret P F [] mv (ds.map .d) (.d d) []):RetD P F ds d:=⟨mv,_,_,h,.d d⟩
theorem RetT.of{F:FuncId}{ds rs:List D}{mv:Nat->Bool}(h:Ret P F [] mv (ds.map .d) (.tup (rs.map .d)) []):RetT P F ds rs:=⟨mv,_,_,h,.mk _ _ (tO rfl)⟩
variable {C:Ctx}{st:St}{g:Gh}{a:Act}{w:World}{P:Program}
def EndsS(P:Program)(rs:List ResultVar)(d:D)(st:St):Prop:=∃x d0,ResOk P st rs x/\Snap st.hp x d0/\DLe d0 d
theorem EndsS.one{rs:List ResultVar}{d d0:D}(x:AV)(h:B8 st.fr rs=some x)(hs:Snap st.hp x d0)(hd:DLe d0 d):EndsS P rs d st:=⟨x,d0,res h,hs,hd⟩
theorem EndsS.cell{a t id off s:Nat}{ty:TypeId}{cs:List AV}(x:AV){d:D}(hl:lay P t=some (true,s))(ha:st.fr.get a=.mptr id 0 0 off)(hb:st.hp[id]?=some (.box ty cs))(hc:Nat.ble (off+s) cs.length=true)(hv:bv ((cs.drop off).take s)=x)(hs:Snap st.hp x d):EndsS P [.cell a t] d st:=
  ⟨_,d,.mk _ (.cons (.agg hl ha hb hc hv) .nil) rfl,hs,.refl _⟩
def bodyQS(P:Program)(rs:List ResultVar)(d:D):Exit->St->Prop
  |.normal,st|.ret,st=>EndsS P rs d st
  |_,_=>False
theorem Sim.endS{mv:Nat->Bool}{w0:World}{g0:Gh}{n:Nat}(hs:Sim ⟨P,n,w0,0,g0,mv⟩ st g a w):∃g',Out ⟨P,0,w0,0,g0,mv⟩ [] g' w/\∀(x:AV)(d:D)(v:Value),ARep w g x v->Snap st.hp x d->ARep w g' (.d d) v:=by
  let g':Gh:={ phi:=λ_=>none,psi:=λ_=>0,X:=λb=>g.X b\/∃i,g.phi i=some b }
  refine⟨g',?_,λx d v hx hsn=>.d _ _ (tP (st:=st) hs.hp hsn (Y:=g'.X) (λb hb=>.inl hb) (λi b hp=>.inr ⟨i,hp⟩) hx)⟩
  refine { defers := rfl, size := rfl, fr := fun _ => .junk _, hp := fun i B h => by simp at h, lt := fun i b h => by simp [g'] at h, inj := fun i j b _ _ _ _ _ _ h => by simp [g'] at h, Xlt := ?_, Xold := ?_
           os:=hs.os,tape:=hs.tape,output:=hs.output,drawn:=hs.drawn,grown:=hs.grown,keep:=hs.keep,own:=λi b h=>by simp[g']at h,stay:=λi b h=>absurd h (oC i),kle:=gS _,laid:=hs.laid }
  intro b hb;rcases hb with hb|⟨i,hb⟩
  exact hs.Xlt b hb;exact(hs.lt i b hb).1;intro b hb hlt;rcases hb with hb|⟨i,hb⟩
  exact hs.Xold b hb hlt;exact absurd (hs.own i b hb hlt).1 (oC i)
theorem aN{F:FuncId}{fn:Func}{c:Code}{mv:Nat->Bool}{args:List AV}{d:D}{n:Nat}{rs:List ResultVar}(hcb:cd P F=true)(hf:P.funcs[F]?=some fn)(hb:fn.body=some c)(hn:fn.ntmps=n)(hrs:fn.results.toList=rs)(hle:Nat.ble args.length n=true)
    (h:∀w g,TWp ⟨P,n,w,0,g,mv⟩ c ⟨y6 args,[]⟩ (bodyQS P rs d)):Ret P F [] mv args (.d d) []:=by
  subst hn hrs;have hn:=jY hle;refine⟨hcb,?_⟩;intro w g vs hout hargs;have hlen:vs.size=args.length:=by have:=hargs.1;simpa using this.symm
  have hsim:Sim ⟨P,fn.ntmps,w,0,g,mv⟩ ⟨y6 args,[]⟩ g { tmps:=vs++Array.replicate (fn.ntmps-vs.size) undef,defers:=[] } w:=by
    refine Out.sim (C:=⟨P,fn.ntmps,w,0,g,mv⟩) hout rfl ?_ λt=>?_;simp only[zg,Array.size_replicate];omega;unfold y6;rw[xw,if_pos (gS _),Nat.sub_zero];by_cases ht:t<args.length;have h1:args[t]?=some args[t]:=iE ht;have h2:vs.toList[t]?=some (vs.toList[t]'(by simpa[hlen]using ht)):=iE _;have h3:=hargs.2 t _ _ h1 h2;rw[h1]
    have h4:(vs++Array.replicate (fn.ntmps-vs.size) undef).getD t undef=vs.toList[t]'(by simpa[hlen]using ht):=by
      rw[Hc,Hb,if_pos (by omega)];simp[show t<vs.size by omega]
    rw[h4];exact h3;rw [lB (by omega)];exact .junk _
  refine calls_of_wp hf hb (Go.wp_mono (h w g g _ w hsim) ?_);intro e a' w' hq;obtain⟨st',g',hQ,hs'⟩:=hq
  have fin:EndsS P fn.results.toList d st'->a'.defers=[]/\∃v,(results fn a'.tmps).run P w'=.ok v w'/\∃v' g',Ending.returned v=.returned v'/\Out ⟨P,0,w,0,g,mv⟩ [] g' w'/\ARep w' g' (.d d) v':=by
    rintro⟨x,d0,hx,hsn,hd⟩;obtain⟨v,hv,hrep⟩:=vo (P:=P) hs' hx;obtain⟨g2,h1,h2⟩:=hs'.endS;have h3:=h2 _ _ _ hrep hsn;exact⟨hs'.defers,v,hv,v,g2,rfl,h1,by cases h3 with|d _ _ q=>exact .d _ _ (hd _ _ _ q)⟩
  cases e with
  |normal=>exact fin hQ
  |ret=>exact fin hQ
  |_=>exact hQ.elim
inductive DLa:List D->List D->Prop
  |nil:DLa [] []
  |cons {d d':D} {ds ds':List D} (h:DLe d d') (hr:DLa ds ds'):DLa (d::ds) (d'::ds')
theorem DLa.key{ds ds':List D}(h:DLa ds ds'):ds.length=ds'.length/\∀(i:Nat)(c c':D),ds[i]?=some c->ds'[i]?=some c'->DLe c c':=by
  induction h with
  |nil=>exact⟨rfl,λi c c' h=>by simp at h⟩
  |cons h _ ih=>
    refine⟨by simp[ih.1],λi c c' hc hc'=>?_⟩
    cases i with
    |zero=>simp at hc hc';subst hc hc';exact h
    |succ i=>exact ih.2 i c c' (by simpa using hc) (by simpa using hc')
theorem Ret.args{F:FuncId}{hp hp':List Blk}{mv:Nat->Bool}{ds ds':List D}{r:AV}(h:Ret P F hp mv (ds'.map .d) r hp')(hd:DLa ds ds'):Ret P F hp mv (ds.map .d) r hp':=by
  refine⟨h.1,λw g vs ho ha=>h.2 w g vs ho ⟨by have:=ha.1;simpa[hd.key.1]using this,λi x v hx hv=>?_⟩⟩;simp only[eR,zal140q]at hx;obtain⟨c',hc',rfl⟩:=hx;have hi:i<ds.length:=by rw[hd.key.1];exact(zal58q.1 hc').1
  have:=ha.2 i (.d ds[i]) v (by simp[hi]) hv;cases this with|d _ _ hr=>exact .d _ _ (hd.key.2 i ds[i] c' (by simp[hi]) hc' _ _ _ hr)
theorem RetD.args{F:FuncId}{ds ds':List D}{d:D}(h:RetD P F ds' d)(hd:DLa ds ds'):RetD P F ds d:=by
  obtain⟨mv,r,hp',h1,h2⟩:=h;exact⟨mv,r,hp',h1.args hd,h2⟩
theorem RetN.args{F:FuncId}{ds ds':List D}{d:D}(h:RetN P F ds' d)(hd:DLa ds ds'):RetN P F ds d:=by
  obtain⟨mv,r,hp',h1,h2⟩:=h;exact⟨mv,r,hp',h1.args hd,h2⟩
inductive SnapsW (hp:List Blk):List AV->List D->Prop
  |nil:SnapsW hp [] []
  |cons {x:AV} {d0 d:D} {xs:List AV} {ds:List D} (h:Snap hp x d0) (hd:DLe d0 d) (hr:SnapsW hp xs ds):SnapsW hp (x::xs) (d::ds)
theorem SnapsW.key{hp:List Blk}{xs:List AV}{ds:List D}(h:SnapsW hp xs ds):xs.length=ds.length/\∀(i:Nat)(x:AV)(d:D),xs[i]?=some x->ds[i]?=some d->∃d0,Snap hp x d0/\DLe d0 d:=by
  induction h with
  |nil=>exact⟨rfl,λi x d h=>by simp at h⟩
  |cons h hd _ ih=>
    refine⟨by simp[ih.1],λi x d hx hd'=>?_⟩
    cases i with
    |zero=>simp at hx hd';subst hx hd';exact⟨_,h,hd⟩
    |succ i=>exact ih.2 i x d (by simpa using hx) (by simpa using hd')
def EndsT(P:Program)(rs:List ResultVar)(ds:List D)(st:St):Prop:=∃xs,ResOk P st rs (.tup xs)/\SnapsW st.hp xs ds
def bodyQT(P:Program)(rs:List ResultVar)(ds:List D):Exit->St->Prop
  |.normal,st|.ret,st=>EndsT P rs ds st
  |_,_=>False
theorem EndsT.two{rs:List ResultVar}{x y:AV}{a b a0 b0:D}(h:B8 st.fr rs=some (.tup [x,y]))(h1:Snap st.hp x a0)(d1:DLe a0 a)(h2:Snap st.hp y b0)(d2:DLe b0 b):EndsT P rs [a,b] st:=
  ⟨_,res h,.cons h1 d1 (.cons h2 d2 .nil)⟩
theorem kL{F:FuncId}{fn:Func}{c:Code}{mv:Nat->Bool}{args:List AV}{ds:List D}{n:Nat}{rs:List ResultVar}(hcb:cd P F=true)(hf:P.funcs[F]?=some fn)(hb:fn.body=some c)(hn:fn.ntmps=n)(hrs:fn.results.toList=rs)(hle:Nat.ble args.length n=true)
    (h:∀w g,TWp ⟨P,n,w,0,g,mv⟩ c ⟨y6 args,[]⟩ (bodyQT P rs ds)):Ret P F [] mv args (.tup (ds.map .d)) []:=by
  subst hn hrs;have hn:=jY hle;refine⟨hcb,?_⟩;intro w g vs hout hargs;have hlen:vs.size=args.length:=by have:=hargs.1;simpa using this.symm
  have hsim:Sim ⟨P,fn.ntmps,w,0,g,mv⟩ ⟨y6 args,[]⟩ g { tmps:=vs++Array.replicate (fn.ntmps-vs.size) undef,defers:=[] } w:=by
    refine Out.sim (C:=⟨P,fn.ntmps,w,0,g,mv⟩) hout rfl ?_ λt=>?_;simp only[zg,Array.size_replicate];omega;unfold y6;rw[xw,if_pos (gS _),Nat.sub_zero];by_cases ht:t<args.length;have h1:args[t]?=some args[t]:=iE ht;have h2:vs.toList[t]?=some (vs.toList[t]'(by simpa[hlen]using ht)):=iE _;have h3:=hargs.2 t _ _ h1 h2;rw[h1]
    have h4:(vs++Array.replicate (fn.ntmps-vs.size) undef).getD t undef=vs.toList[t]'(by simpa[hlen]using ht):=by
      rw[Hc,Hb,if_pos (by omega)];simp[show t<vs.size by omega]
    rw[h4];exact h3;rw [lB (by omega)];exact .junk _
  refine calls_of_wp hf hb (Go.wp_mono (h w g g _ w hsim) ?_);intro e a' w' hq;obtain⟨st',g',hQ,hs'⟩:=hq
  have fin:EndsT P fn.results.toList ds st'->a'.defers=[]/\∃v,(results fn a'.tmps).run P w'=.ok v w'/\∃v' g',Ending.returned v=.returned v'/\Out ⟨P,0,w,0,g,mv⟩ [] g' w'/\ARep w' g' (.tup (ds.map .d)) v':=by
    rintro⟨xs,hx,hsn⟩;obtain⟨v,hv,hrep⟩:=vo (P:=P) hs' hx;obtain⟨g2,h1,h2⟩:=hs'.endS;refine⟨hs'.defers,v,hv,v,g2,rfl,h1,?_⟩;have hkey:=hsn.key
    have key:xs.length=ds.length/\∀(i:Nat)(x:AV)(d:D)(u:Value),xs[i]?=some x->ds[i]?=some d->ARep w' g' x u->ARep w' g2 (.d d) u:=by
      refine⟨hkey.1,λi x d u hx hd hu=>?_⟩;obtain⟨d0,q1,q2⟩:=hkey.2 i x d hx hd;have:=h2 _ _ _ hu q1;cases this with|d _ _ q=>exact .d _ _ (q2 _ _ _ q)
    cases hrep with
    |tup _ us hl hr=>
      refine .tup _ us (by rw[qF,<- key.1];exact hl) λi c u hci hu=>?_;simp only[eR,zal140q]at hci;obtain⟨d,hd,rfl⟩:=hci;have hi:i<xs.length:=by rw[key.1];exact(zal58q.1 hd).1
      exact key.2 i xs[i] d u (by simp[hi]) hd (hr i xs[i] u (by simp[hi]) hu)
  cases e with
  |normal=>exact fin hQ
  |ret=>exact fin hQ
  |_=>exact hQ.elim
end Go.TL
set_option linter.unusedVariables false
set_option linter.unusedSimpArgs false
namespace Go.TL
variable {C:Ctx}{st:St}{g:Gh}{a:Act}{w:World}{P:Program}
def rY(d:TypeDesc):D->Bool
  |.bool _=>match d with|.bool=>true|_=>false
  |.int k _=>match d with|.int k'=>k == k'|_=>false
  |.str _=>match d with|.string=>true|_=>false
  |_=>false
def xL:D->Value
  |.bool b=>.bool b
  |.int k n=>.int k n
  |.str s=>.string s
  |_=>undef
theorem Ik{d:TypeDesc}{k:D}(hk:rY d k=true):MapKept.IsKey d (xL k):=by
  cases k with
  |bool b=>cases d<;>first|trivial|(simp[rY]at hk)
  |int i n=>
    cases d<;>simp[rY]at hk;exact hk
  |str s=>cases d<;>first|trivial|(simp[rY]at hk)
  |_=>simp[rY]at hk
theorem wj{d:TypeDesc}{k:D}(hk:rY d k=true){X:Nat->Prop}{v:Value}(h:DRep w X k v):v=xL k/\MapKept.IsKey d v:=by
  have e:v=xL k:=by
    cases k with
    |bool b=>cases h;rfl
    |int k n=>cases h;rfl
    |str s=>cases h;rfl
    |_=>simp[rY]at hk
  exact⟨e,e ▸ Ik hk⟩
theorem Vo{d:TypeDesc}{k k':D}(hk:rY d k=true)(hk':rY d k'=true)(h:xL k=xL k'):k=k':=by
  cases k with
  |bool b=>cases k'<;>first|(simp[rY]at hk';done)|(simp[xL]at h;done)|(simp only[xL,Value.bool.injEq]at h;rw[h])
  |int i n=>cases k'<;>first|(simp[rY]at hk';done)|(simp[xL]at h;done)|(simp only[xL,Value.int.injEq]at h;rw[h.1,h.2])
  |str s=>cases k'<;>first|(simp[rY]at hk';done)|(simp[xL]at h;done)|(simp only[xL,Value.string.injEq]at h;rw[h])
  |_=>simp[rY]at hk
def De(w:World)(X:Nat->Prop)(es:List (D×D))(ents:Array MapEntry):Prop:=
  ents.size=es.length/\∀(k:Nat)(e:D×D)(m:MapEntry),es[k]?=some e->ents[k]?=some m->DRep w X e.1 m.key/\DRep w X e.2 m.val
section find
variable {X:Nat->Prop}{d:TypeDesc}{k:D}{es:List (D×D)}{ents:Array MapEntry}
theorem V3(hE:De w X es ents)(hks:∀e∈es,rY d e.1=true):∀x∈ents.toList,MapKept.IsKey d x.key:=by
  intro x hx;obtain⟨i,hi⟩:=nS hx;have hi':ents[i]?=some x:=by simpa using hi
  have hlt:i<es.length:=by rw[<- hE.1];exact(zal5q.1 hi').1
  exact(wj (hks es[i] (fH hlt)) (hE.2 i es[i] x (by simp[hlt]) hi').1).2
theorem Z0(hE:De w X es ents)(hks:∀e∈es,rY d e.1=true)(hk:rY d k=true)(hne:∀e∈es,e.1≠k):Instr.findNow d (xL k) ents.toList 0=some none:=by
  have hkk:MapKept.IsKey d (xL k):=Ik hk;rcases MapKept.findNow_spec hkk ents.toList 0 (V3 hE hks)with⟨h1,_⟩|⟨j,e,_,h2,h3⟩
  exact h1;exfalso;have hj:ents[j]?=some e:=by simpa using h2
  have hlt:j<es.length:=by rw[<- hE.1];exact(zal5q.1 hj).1
  have hmem:=fH hlt;have:=(wj (hks es[j] hmem) (hE.2 j es[j] e (by simp[hlt]) hj).1).1;exact hne _ hmem (Vo (hks _ hmem) hk (by rw[<- this,h3]))
theorem V2(hE:De w X es ents)(hks:∀e∈es,rY d e.1=true)(hnd:(es.map (·.1)).Nodup){j:Nat}{v:D}(hj:es[j]?=some (k,v)):∃e,ents[j]?=some e/\e.key=xL k/\DRep w X v e.val/\Instr.findNow d (xL k) ents.toList 0=some (some (j,e.val)):=by
  have hjl:=(zal58q.1 hj).1;have hk:rY d k=true:=hks (k,v) (gH hj);have hkk:MapKept.IsKey d (xL k):=Ik hk;have hjs:j<ents.size:=by rw[hE.1];exact hjl
  have he:ents[j]?=some ents[j]:=by simp[hjs]
  have hr:=hE.2 j (k,v) ents[j] hj he;have hkey:=(wj hk hr.1).1;rcases MapKept.findNow_spec hkk ents.toList 0 (V3 hE hks)with⟨_,h2⟩|⟨j',e',h1,h2,h3⟩
  exact absurd hkey (h2 ents[j] (by simp));have hj' : ents[j']? = some e' := by simpa using h2
  have hlt:j'<es.length:=by rw[<- hE.1];exact(zal5q.1 hj').1
  have hmem:=fH hlt;have h4:=(wj (hks es[j'] hmem) (hE.2 j' es[j'] e' (by simp[hlt]) hj').1).1;have h5:es[j'].1=k:=Vo (hks _ hmem) hk (by rw[<- h4,h3]);have h6:j'=j:=nodup_at (x:=k) hnd (by simp[hlt,h5]) (by simp[hj]);subst h6;rw[he]at hj';cases hj';exact⟨_,he,hkey,hr.2,by simpa using h1⟩
where
  nodup_at {α:Type} {l:List α} (hn:l.Nodup) {i j:Nat} {x:α} (hi:l[i]?=some x) (hj:l[j]?=some x):i=j:=by
    obtain⟨h1,h1'⟩:=zal58q.1 hi;obtain⟨h2,h2'⟩:=zal58q.1 hj;exact(List.getElem_inj hn).1 (h1'.trans h2'.symm)
end find
theorem mmap_inv{id:Nat}{v:Value}(h:ARep w g (.mmap id) v):∃b,g.phi id=some b/\v=.map (some b):=by
  cases h with
  |mmap _ b hb=>exact⟨b,hb,rfl⟩
def Xz(P:Program)(t:TypeId):Option (TypeId×TypeDesc×TypeId):=
  match P.underlying t with
  |some (.map k e)=>match P.underlying k with
    |some d=>some (k,d,e)
    |none=>none
  |_=>none
theorem Gl{t k e:TypeId}{d:TypeDesc}(h:Xz P t=some (k,d,e)):P.underlying t=some (.map k e)/\P.underlying k=some d:=by
  unfold Xz at h;split at h;rename_i k' e' hu;split at h;rename_i d' hd;cases h;exact⟨hu,hd⟩;cases h;cases h
section look
variable {o:Oper}{ev:Operand->AV}{hp:List Blk}{x y:Operand}{t kt et kt' et':TypeId}{d:TypeDesc}{id:Nat}{es:List (D×D)}{k v zd:D}{z:Value}
theorem xq(hs:Sim C st g a w)(hl:Xz C.P t=some (kt,d,et))(hx:st.fr.ev x=.mmap id)(hb:st.hp[id]?=some (.map kt' et' es))(hy:st.fr.ev y=.d k)(hk:rY d k=true):
    ∃b ents clock,g.phi id=some b/\a.eval x=.map (some b)/\w.heap[b]?=some (.map ents clock)/\De w g.X es ents/\a.eval y=xL k/\MapKept.IsKey d (xL k):=by
  have h1:=hs.ev x;rw[hx]at h1;obtain⟨b,hp,he⟩:=mmap_inv h1;rcases hs.hp id _ hb with⟨_,hp'⟩|⟨b',ents,clock,hp',hw,hsz,hr⟩<;>cases hp.symm.trans hp'
  have h2:=hs.ev y;rw[hy]at h2;have h3:DRep w g.X k (a.eval y):=by cases h2 with|d _ _ h=>exact h
  obtain⟨h4,h5⟩:=wj hk h3;exact⟨b,ents,clock,hp,he,hw,⟨hsz,hr⟩,h4,h4 ▸ h5⟩
end look
section upd
variable {o:Oper}{K:St->Prop}{x y u:Operand}{t tk kt et kt' et':TypeId}{d:TypeDesc}{id:Nat}{es:List (D×D)}{k v:D}
theorem Xy(ho:o.op=.makeMap t none)(hd:ca C.n o.dst=true)(kt et:TypeId)(hK:K (St.put ⟨st.fr,st.hp++[.map kt et []]⟩ o.dst (.mmap st.hp.length))):OpOk C o st K:=
  OpOk.change λg a w hs=>by
    refine⟨.map (some w.heap.size),w.alloc (.map #[] 0),?_,_,_,hK,(hs.alloc (n:=0) (B:=.map kt et []) (.inr ⟨w.heap.size,#[],0,by simp[Gh.new,upd],heap_alloc_new w _,rfl,λk e m he=>by simp at he⟩)).put' hd (.mmap _ w.heap.size (by simp[Gh.new,upd]))⟩;simp only[execOp,ho];simp[Instr.makeMap,newObj,Sem.run,Result.andThen]
theorem Ie(hs:Sim C st g a w){b:Nat}{ents ents':Array MapEntry}{clock clock':Nat}{es':List (D×D)}(hp:g.phi id=some b)(hb:st.hp[id]?=some (.map kt' et' es))(hw:w.heap[b]?=some (.map ents clock))(hE:De w g.X es' ents'):
    Sim C ⟨st.fr,st.hp.set id (.map kt' et' es')⟩ g a { w with heap:=w.heap.setIfInBounds b (.map ents' clock') }:=by
  have hX:∀b',g.X b'->b'≠b:=λb' hX e=>(hs.lt id b hp).2.2 (e ▸ hX);have hold:=(MapKept.heap_set (o':=.map ents' clock') hw).2;refine hs.change (w':={ w with heap:=w.heap.setIfInBounds b (.map ents' clock') }) hb (λe=>by cases e) hp (by simp) rfl rfl rfl (fL _) hold (.inr ⟨b,ents',clock',hp,(MapKept.heap_set hw).1,hE.1,λj e m he hm=>?_⟩);exact⟨(hE.2 j e m he hm).1.mono (λ_ h=>h) λb' hb'=>hold b' (hX b' hb'),(hE.2 j e m he hm).2.mono (λ_ h=>h) λb' hb'=>hold b' (hX b' hb')⟩
theorem Xx(ho:o.op=.mapUpdate t x y u)(hd:o.dst=none)(hl:Xz C.P t=some (kt,d,et))(hx:st.fr.ev x=.mmap id)(hb:st.hp[id]?=some (.map kt' et' es))(hy:st.fr.ev y=.d k)(hu:st.fr.ev u=.d v)(hk:rY d k=true)(hks:∀e∈es,rY d e.1=true)(hne:∀e∈es,e.1≠k)
    (hK:K ⟨st.fr,st.hp.set id (.map kt' et' (es++[(k,v)]))⟩):OpOk C o st K:=
  OpOk.skip λg a w hs=>by
    obtain⟨b,ents,clock,hp,hex,hw,hE,hey,hkk⟩:=xq hs hl hx hb hy hk;have hf:=Z0 hE hks hk hne;obtain⟨hu',hd'⟩:=Gl hl;have hv:=hs.ev u;rw[hu]at hv;have hv':DRep w g.X v (a.eval u):=by cases hv with|d _ _ h=>exact h
    have hkd:=hs.ev y;rw[hy,hey]at hkd;have hkd':DRep w g.X k (xL k):=by cases hkd with|d _ _ h=>exact h
    refine⟨{ w with heap:=w.heap.setIfInBounds b (.map (ents.push { key:=xL k,val:=a.eval u,born:=clock }) (clock+1)) },?_,_,g,hK,?_⟩;simp only[execOp,ho,hex,hey];simp[Instr.mapUpdate,run_underlying hu',MapKept.run_getObj_map hw,MapKept.run_checkKey hd' hkk,MapKept.run_findKey hd' hf,MapKept.run_setObj_map _ hw,Result.andThen];rw[hd];refine Ie hs hp hb hw ⟨by simp[hE.1],λj e m he hm=>?_⟩;rw[jP]at he;rw[Array.getElem?_push]at hm;split at he;rename_i hlt;rw[if_neg (by rw[hE.1];omega)]at hm;exact hE.2 j e m he hm;rename_i hge
    have hj:j=es.length:=by
      rcases gM (j-es.length) 1 with h1|h1
      omega;rw[lB (by simpa using h1)]at he;cases he
    subst hj;rw[if_pos hE.1.symm]at hm;simp at he hm;subst he hm;exact⟨hkd',hv'⟩
theorem qBH{j:Nat}{v0:D}(ho:o.op=.mapUpdate t x y u)(hd:o.dst=none)(hl:Xz C.P t=some (kt,d,et))(hx:st.fr.ev x=.mmap id)(hb:st.hp[id]?=some (.map kt' et' es))(hy:st.fr.ev y=.d k)(hu:st.fr.ev u=.d v)(hks:∀e∈es,rY d e.1=true)(hnd:(es.map (·.1)).Nodup)(hj:es[j]?=some (k,v0))
    (hK:K ⟨st.fr,st.hp.set id (.map kt' et' (es.set j (k,v)))⟩):OpOk C o st K:=
  OpOk.skip λg a w hs=>by
    have hk:rY d k=true:=hks (k,v0) (gH hj);obtain⟨b,ents,clock,hp,hex,hw,hE,hey,hkk⟩:=xq hs hl hx hb hy hk;obtain⟨e0,he0,hek,_,hf⟩:=V2 hE hks hnd hj;obtain⟨hu',hd'⟩:=Gl hl;have hv:=hs.ev u;rw[hu]at hv;have hv':DRep w g.X v (a.eval u):=by cases hv with|d _ _ h=>exact h
    have hkd:=hs.ev y;rw[hy,hey]at hkd;have hkd':DRep w g.X k (xL k):=by cases hkd with|d _ _ h=>exact h
    have hst:(Instr.keyThatStays e0.key (xL k)).run C.P w=.ok (xL k) w:=by rw[hek];exact MapKept.run_keyThatStays hkk
    refine⟨{ w with heap:=w.heap.setIfInBounds b (.map (ents.modify j λe=>{ e with key:=xL k,val:=a.eval u }) clock) },?_,_,g,hK,?_⟩;simp only[execOp,ho,hex,hey];simp[Instr.mapUpdate,run_underlying hu',MapKept.run_getObj_map hw,MapKept.run_checkKey hd' hkk,MapKept.run_findKey hd' hf,he0,hst,MapKept.run_setObj_map _ hw,Result.andThen];rw[hd];refine Ie hs hp hb hw ⟨by simp[hE.1],λi e m he hm=>?_⟩;rw[hZ]at he;rw[Y0]at hm;split at he;rename_i hij;subst hij;rw[if_pos rfl,he0]at hm;split at he;cases he;simp at hm;subst hm;exact⟨hkd',hv'⟩;cases he;rename_i hij;rw[if_neg hij]at hm;exact hE.2 i e m he hm
end upd
section steps
variable {ops:Array Oper}{l:List Oper}{K:St->Prop}{fr:Fr}{hp:List Blk}{dd:Nat}{ty:TypeId}{pos:String}{after:Array Edge}{x y u:Operand}{t tk kt et kt' et':TypeId}{d:TypeDesc}{id:Nat}{es es':List (D×D)}{k v:D}
theorem Kz(kt et:TypeId)(hd:decide (dd<C.n)=true)(h:eA C ops l ⟨(dd,.mmap hp.length)::fr,hp++[.map kt et []]⟩ K):eA C ops (⟨some dd,.makeMap t none,ty,pos,after,none⟩::l) ⟨fr,hp⟩ K:=
  lD rfl (Xy rfl hd kt et h)
theorem qAU(hl:Xz C.P t=some (kt,d,et))(hx:fr.ev x=.mmap id)(hb:hp[id]?=some (.map kt' et' es))(hy:fr.ev y=.d k)(hu:fr.ev u=.d v)(hk:rY d k=true)(hks:∀e∈es,rY d e.1=true)(hne:∀e∈es,e.1≠k)(he:es++[(k,v)]=es')
    (h:eA C ops l ⟨fr,hp.set id (.map kt' et' es')⟩ K):eA C ops (⟨none,.mapUpdate t x y u,ty,pos,after,none⟩::l) ⟨fr,hp⟩ K:=by
  subst he;exact lD rfl (Xx rfl rfl hl hx hb hy hu hk hks hne h)
theorem s_put_at{j:Nat}{v0:D}(hl:Xz C.P t=some (kt,d,et))(hx:fr.ev x=.mmap id)(hb:hp[id]?=some (.map kt' et' es))(hy:fr.ev y=.d k)(hu:fr.ev u=.d v)(hks:∀e∈es,rY d e.1=true)(hnd:(es.map (·.1)).Nodup)(hj:es[j]?=some (k,v0))(he:es.set j (k,v)=es')
    (h:eA C ops l ⟨fr,hp.set id (.map kt' et' es')⟩ K):eA C ops (⟨none,.mapUpdate t x y u,ty,pos,after,none⟩::l) ⟨fr,hp⟩ K:=by
  subst he;exact lD rfl (qBH rfl rfl hl hx hb hy hu hks hnd hj h)
end steps
section
variable {C:Ctx}{ops:Array Oper}{l:List Oper}{K:St->Prop}{fr:Fr}{hp:List Blk}{ty:TypeId}{pos:String}{after:Array Edge}{x y u:Operand}{t tk kt et kt' et':TypeId}{id:Nat}
end
theorem Yg(s u:ByteArray):(s.toList == u.toList)=decide (s=u):=by
  rw[ByteArray.toList_eq,ByteArray.toList_eq,nF];simp only[beq_iff_eq,decide_eq_true_eq];constructor;intro h;cases s;cases u
  congr 1
  exact Array.toList_inj.1 h;intro h;rw[h]
def Ye(op:BinOp)(e:Bool):Option Bool:=
  match op with
  |.eql=>some e
  |.neq=>some (!e)
  |_=>none
theorem cmp_str{C:Ctx}{o:Oper}{ev:Operand->AV}{hp:List Blk}{op:BinOp}{t t':TypeId}{x y:Operand}{p q:ByteArray}{r:Bool}(ho:o.op=.binOp op t x y t')(hx:ev x=.d (.str p))(hy:ev y=.d (.str q))(hr:Ye op (decide (p=q))=some r):RdOk C o ev hp (.d (.bool r)):=
  RdOk.mk λst hhp hag g a w hs=>by
    have h:=hs.ev x;rw[hag x (by simp[ho,Op.operands]),hx]at h;have hi:=hs.ev y;rw[hag y (by simp[ho,Op.operands]),hy]at hi;refine⟨.bool r,?_,.d _ _ (.bool r)⟩
    have hg:(eqGuard op t x y (.string p) (.string q)).run C.P w=.ok () w:=by
      unfold eqGuard;cases op<;>simp
    simp only[execOp,ho,str_inv h,str_inv hi,Sem.run_bind,hg,Result.andThen_ok];cases op<;>simp only[Ye]at hr<;>cases hr<;>simp[binOp,Op.stringOp,Yg]
end Go.TL
set_option linter.unusedVariables false
set_option linter.unusedSimpArgs false
set_option linter.unusedSectionVars false
namespace Go.TL
variable {C:Ctx}{st:St}{g:Gh}{a:Act}{w:World}{P:Program}
section look0
variable {o:Oper}{ev:Operand->AV}{hp:List Blk}{x y:Operand}{t kt et kt' et':TypeId}{d:TypeDesc}{id:Nat}{es:List (D×D)}{k v zd:D}{z:Value}
theorem Nf{j:Nat}(ho:o.op=.lookup t x y false)(hl:Xz C.P t=some (kt,d,et))(hx:ev x=.mmap id)(hb:hp[id]?=some (.map kt' et' es))(hy:ev y=.d k)(hks:∀e∈es,rY d e.1=true)(hnd:(es.map (·.1)).Nodup)(hj:es[j]?=some (k,v)):RdOk C o ev hp (.d v):=
  RdOk.mk λst hhp hag g a w hs=>by
    have hk:rY d k=true:=hks (k,v) (gH hj);obtain⟨b,ents,clock,hp',hex,hw,hE,hey,hkk⟩:=xq hs hl (by rw[hag x (by simp[ho,Op.operands]),hx]) (hhp id _ hb λe=>by cases e) (by rw[hag y (by simp[ho,Op.operands]),hy]) hk;obtain⟨e,_,_,hv,hf⟩:=V2 hE hks hnd hj;obtain⟨hu,hd⟩:=Gl hl;refine⟨e.val,?_,.d _ _ hv⟩;simp only[execOp,ho,hex,hey];simp[Instr.lookup,run_underlying hu,MapKept.run_getObj_map hw,MapKept.run_checkKey hd hkk,MapKept.run_findKey hd hf,Result.andThen]
theorem Qu(ho:o.op=.lookup t x y false)(hl:Xz C.P t=some (kt,d,et))(hz:(C.P.info? et).bind (·.zero)=some z)(hzd:gF z=.d zd)(hx:ev x=.mmap id)(hb:hp[id]?=some (.map kt' et' es))(hy:ev y=.d k)(hk:rY d k=true)(hks:∀e∈es,rY d e.1=true)(hne:∀e∈es,e.1≠k):RdOk C o ev hp (.d zd):=
  RdOk.mk λst hhp hag g a w hs=>by
    obtain⟨b,ents,clock,hp',hex,hw,hE,hey,hkk⟩:=xq hs hl (by rw[hag x (by simp[ho,Op.operands]),hx]) (hhp id _ hb λe=>by cases e) (by rw[hag y (by simp[ho,Op.operands]),hy]) hk;have hf:=Z0 hE hks hk hne;obtain⟨hu,hd⟩:=Gl hl;refine⟨z,?_,by rw[<- hzd];exact mN w g _⟩;simp only[execOp,ho,hex,hey];simp[Instr.lookup,run_underlying hu,MapKept.run_getObj_map hw,MapKept.run_checkKey hd hkk,MapKept.run_findKey hd hf,ym hz,Result.andThen]
end look0
structure KeyF (d:TypeDesc) {α:Type} (kf:α->D):Prop where
  key:∀a,rY d (kf a)=true
  inj:∀a b,kf a=kf b->a=b
theorem Cr:KeyF .string D.str:=⟨λ_=>rfl,λa b h=>by cases h;rfl⟩
def eP{α β:Type}(kf:α->D)(f:β->D)(fs:List (α×β)):List (D×D):=fs.map λx=>(kf x.1,f x.2)
def lF{α β:Type}[DecidableEq α](fs:List (α×β))(s:α):Option β:=(fs.find? λx=>decide (x.1=s)).map (·.2)
section pm
variable {α β:Type}[DecidableEq α]{kf:α->D}{f:β->D}{fs:List (α×β)}{s:α}{b:β}{dk:TypeDesc}
theorem w9(h:lF fs s=none):∀x∈fs,x.1≠s:=by
  intro x hx e;unfold lF at h;simp only[Br,Mj]at h;have:=h x hx;simp[e]at this
theorem w8(h:lF fs s=some b):∃j:Nat,fs[j]?=some (s,b):=by
  unfold lF at h;simp only[zal140q]at h;obtain⟨x,hx,rfl⟩:=h;have h1:=List.find?_some hx;simp at h1;subst h1;obtain⟨j,hj⟩:=nS (List.mem_of_find?_eq_some hx);exact⟨j,hj⟩
theorem bp(hk:KeyF dk kf):∀e∈eP kf f fs,rY dk e.1=true:=λe he=>by
  unfold eP at he;simp only[zal96q]at he;obtain⟨x,_,rfl⟩:=he;exact hk.key _
theorem yv(hk:KeyF dk kf)(h:(fs.map (·.1)).Nodup):((eP kf f fs).map (·.1)).Nodup:=by
  have:(eP kf f fs).map (·.1)=(fs.map (·.1)).map kf:=by simp[eP]
  rw[this];exact h.map _ λa b hab e=>hab (hk.inj _ _ e)
theorem H7(hk:KeyF dk kf)(h:∀x∈fs,x.1≠s):∀e∈eP kf f fs,e.1≠kf s:=λe he=>by
  unfold eP at he;simp only[zal96q]at he;obtain⟨x,hx,rfl⟩:=he;exact λq=>h x hx (hk.inj _ _ q)
variable {o:Oper}{ev:Operand->AV}{hp:List Blk}{x y u:Operand}{t kt et kt' et':TypeId}{id:Nat}{zd:D}{z:Value}
theorem Qt(hk:KeyF dk kf)(f:β->D)(fs:List (α×β))(s:α)(ho:o.op=.lookup t x y false)(hl:Xz C.P t=some (kt,dk,et))(hz:(C.P.info? et).bind (·.zero)=some z)(hzd:gF z=.d zd)
    (hx:ev x=.mmap id) (hb:hp[id]?=some (.map kt' et' (eP kf f fs))) (hy:ev y=.d (kf s)) (hnd:(fs.map (·.1)).Nodup):RdOk C o ev hp (.d (match lF fs s with|some b=>f b|none=>zd)):=by
  cases h:lF fs s with
  |none=>exact Qu ho hl hz hzd hx hb hy (hk.key _) (bp hk) (H7 hk (w9 h))
  |some b=>
    obtain⟨j,hj⟩:=w8 h;exact Nf (j:=j) ho hl hx hb hy (bp hk) (yv hk hnd) (by simp[eP,hj])
variable {ops:Array Oper}{l:List Oper}{K:St->Prop}{fr:Fr}{ty:TypeId}{pos:String}{after:Array Edge}
theorem s_put_pm(hk:KeyF dk kf)(f:β->D){fs:List (α×β)}{s:α}{b:β}{es':List (D×D)}(hl:Xz C.P t=some (kt,dk,et))(hx:fr.ev x=.mmap id)(hb:hp[id]?=some (.map kt' et' (eP kf f fs)))(hy:fr.ev y=.d (kf s))(hu:fr.ev u=.d (f b))(hn:lF fs s=none)(he:eP kf f (fs++[(s,b)])=es')
    (h:eA C ops l ⟨fr,hp.set id (.map kt' et' es')⟩ K):eA C ops (⟨none,.mapUpdate t x y u,ty,pos,after,none⟩::l) ⟨fr,hp⟩ K:=
  qAU hl hx hb hy hu (hk.key _) (bp hk) (H7 hk (w9 hn)) (by rw[<- he];simp[eP]) h
end pm
section arr
variable {o:Oper}{K:St->Prop}{t:TypeId}
theorem arr_row{w:World}{g:Gh}{n:Nat}{zd:D}{v:Value}(h:ARep w g (.d (.agg (List.replicate n zd))) v)(h1:zd.one=true):RowOf w g.X 1 (List.replicate n zd) v.cells:=by
  have hf:(AV.d (.agg (List.replicate n zd))).flat=true:=rfl;obtain⟨hp,_⟩:=h.pw hf;have hc:zd.cells=[zd]:=by cases zd<;>first|rfl|cases h1
  have hsz:v.cells.size=n:=by have:=hp.1;simpa[AV.cells,D.cells]using this.symm
  refine⟨by simp[hsz],λi e he=>?_,λi e j c he hcj=>?_,λi e j c he hcj=>?_⟩;rw[q9]at he;split at he<;>cases he;rw[hc];rfl;rw[q9]at he;split at he<;>cases he;rw[hc]at hcj
  cases j with
  |zero=>simp at hcj;subst hcj;exact h1
  |succ j=>simp at hcj
  rw[q9]at he;split at he;rename_i hi;cases he;rw[hc]at hcj
  cases j with
  |succ j=>simp at hcj
  |zero=>
    simp at hcj;subst hcj;have h1:(AV.d (.agg (List.replicate n zd))).cells[i]?=some (.d zd):=by simp[AV.cells,D.cells,hi]
    have h2:v.cells.toList[i]?=some (v.cells.toList[i]'(by simp[hsz,hi])):=by simp[hsz,hi]
    have h3:=hp.2 i _ _ h1 h2;refine⟨v.cells.toList[i]'(by simp[hsz,hi]),by simp[hsz,hi],?_⟩;cases h3 with|d _ _ h=>exact h
  cases he
theorem Q7{n:Nat}{zd:D}{z:Value}(ho:o.op=.alloc t)(hd:ca C.n o.dst=true)(hz:(C.P.info? t).bind (·.zero)=some z)(hzd:gF z=.d (.agg (List.replicate (n+1) zd)))(h1:zd.one=true)
    (hK:K (St.put ⟨st.fr,st.hp++[.flat t 1 (List.replicate (n+1) zd)]⟩ o.dst (.mptr st.hp.length 1 0 0))):OpOk C o st K:=
  OpOk.change λg a w hs=>by
    cases hi:C.P.info? t with
    |none=>simp[hi]at hz
    |some i=>
      simp[hi]at hz;have hrow:=arr_row (w:=w) (g:=g) (by rw[<- hzd];exact mN w g z) h1;obtain⟨hsim,h2⟩:=Gk (ty:=t) hs hrow.le hrow.h0 hrow.h1 hrow.rep;have h3:ARep (w.alloc (Obj.cells z.cells t)) (g.new st.hp.length w.heap.size z.cells.size) (.mptr st.hp.length 1 0 0) (.pointer (some ⟨w.heap.size,0,none⟩)):=.mptr _ 1 0 0 w.heap.size (by simp[Gh.new,upd]);exact⟨_,_,by simp[execOp,ho,Instr.alloc,zeroValue,typeInfo,hi,hz,newVar,newRow],_,_,hK,hsim.put' hd h3⟩
theorem Xb{ops:Array Oper}{l:List Oper}{fr:Fr}{hp:List Blk}{d:Nat}{ty:TypeId}{pos:String}{after:Array Edge}(n:Nat){zd:D}{z:Value}(hd:decide (d<C.n)=true)(hz:(C.P.info? t).bind (·.zero)=some z)(hzd:gF z=.d (.agg (List.replicate (n+1) zd)))(h1:zd.one=true)
    (h:eA C ops l ⟨(d,.mptr hp.length 1 0 0)::fr,hp++[.flat t 1 (List.replicate (n+1) zd)]⟩ K):eA C ops (⟨some d,.alloc t,ty,pos,after,none⟩::l) ⟨fr,hp⟩ K:=
  lD rfl (Q7 rfl hd hz hzd h1 h)
theorem X5{ev:Operand->AV}{hp:List Blk}{x y:Operand}{id n s:Nat}{k:IntKind}{i:Int}(ho:o.op=.indexAddr t x y)(hl:Wn C.P t=some (n,s))(hx:ev x=.mptr id s 0 0)(hy:ev y=.d (.int k i))(h:0<=i/\i<n):RdOk C o ev hp (.mptr id s i.toNat 0):=
  RdOk.mk λst hhp hag g a w hs=>by
    have h:=hs.ev x;rw[hag x (by simp[ho,Op.operands]),hx]at h;obtain⟨b,hp,he⟩:=oO h;have hi:=hs.ev y;rw[hag y (by simp[ho,Op.operands]),hy]at hi;obtain⟨e,inf,hu,hinf,hsz⟩:=Wm hl;rename_i h0;refine⟨.pointer (some ((⟨b,0*s+0,none⟩:Addr).add (i.toNat*s))),?_,?_⟩;simp only[execOp,ho,he,int_inv hi];simp[Instr.indexAt,run_underlying hu,asIntOf,h0.1,h0.2,sizeOf,typeInfo,hinf,hsz,Instr.sureAddr];rw[uJ];simp only[Nat.zero_mul,fV];exact .mptr id s i.toNat 0 b hp
end arr
variable {C:Ctx}{st:St}{g:Gh}{a:Act}{w:World}{P:Program}{o:Oper}{K:St->Prop}{ev:Operand->AV}{hp:List Blk}
theorem Ed{X:Nat->Prop}{v:Value}(h:ARep w g (.d .nilsl) v):∃ad,v=.slice ad 0 0:=by
  cases h with|d _ _ h=>cases h;exact⟨_,rfl⟩
theorem qAW(w:World)(t tn ty e:TypeId)(i:TypeInfo)(z:Value)(k kn:IntKind)(ht:P.underlying t=some (.slice e))(htn:P.underlying tn=some (.int kn))(hi:P.info? e=some i)(hz:i.zero=some z)
    (n:Nat) (ad:Option Addr) (h0:0<n) (hs:0<i.size) (h63:(n:Int)<=9223372036854775807) (h48:n*i.bytes<=281474976710656):
    (Builtin.append_ #[t,tn] ty #[.slice ad 0 0,.int k n]).run P w=
      .ok (.slice (some ⟨w.heap.size,0,none⟩) n (grownCap w n 0 e)) (w.drew.alloc (.cells (Builtin.zeroCells z.cells n++Builtin.zeroCells z.cells (grownCap w n 0 e-n)) e)):=by
  cases ad with
  |none=>exact Lib.run_append_nil_zeros w t tn ty e i z k kn ht htn hi hz n h0 hs h63 h48
  |some b=>
    have hn:n≠0:=by omega
    have hw:IntKind.i64.wrap (n:Int)=n:=by rw[IntKind.wrap_i64];omega
    have h63':¬(9223372036854775807<(n:Int)):=by omega
    have h48':¬(281474976710656<Builtin.nextslicecap n 0*i.bytes):=by rw[nextslicecap_zero h0];omega
    have h48i:¬(281474976710656<(n:Int)*(i.bytes:Int)):=by
      rw[<- Int.natCast_mul];omega
    have hneg:¬((n:Int)<0):=by omega
    have hns:¬(n*i.size=0):=Nat.mul_ne_zero hn (by omega);have hf:=run_firstCells_some (P:=P) w.drew i.size 0 b 0 0 [] (by simp) (λj v h=>by simp at h);simp[Builtin.append_,run_underlying ht,run_underlying htn,sizeOf,typeInfo,zeroValue,hi,hz,asInt,asIntOf,hw,hn,hneg,hns,h63',h48',h48i,Question.forced,hf,newRow,grownCap]
theorem ok_zeros{t tn e:TypeId}{x y:Operand}{sz by' n:Nat}{z:Value}{k kn:IntKind}(ho:o.op=.call { callee:=.builtin .append,args:=#[x,y],argTypes:=#[t,tn] })(hd:ca C.n o.dst=true)(hl:sel C.P t=some (e,sz,by'))(htn:C.P.underlying tn=some (.int kn))
    (hz:(C.P.info? e).bind (·.zero)=some z) (hx:st.fr.ev x=.d .nilsl) (hy:st.fr.ev y=.d (.int k n)) (hzc:z.cells.size=sz) (h0:0<n) (hs0:0<sz) (hlen:n*by'<=281474976710656) (hlen':n<=9223372036854775807)
    (hK:K (St.put ⟨st.fr,st.hp++[.flat e sz []]⟩ o.dst (.msl st.hp.length sz 0 n))):OpOk C o st K:=
  OpOk.change λg a w hsim=>by
    obtain⟨inf,hun,hi,hsz,hby⟩:=vF hl;obtain⟨i',hi',hzero⟩:=xX hz;cases hi.symm.trans hi';have hvx:=hsim.ev x;rw[hx]at hvx;obtain⟨ad,hex⟩:=Ed (X:=g.X) hvx;have hvy:=hsim.ev y;rw[hy]at hvy;have hey:=int_inv hvy;have hr:=qAW (P:=C.P) w t tn o.type e inf z k kn hun htn hi hzero n ad h0 (by omega) (by omega) (by rw[hby];exact hlen);rw[<- hex,<- hey]at hr;have hcap:n<=grownCap w n 0 e:=grownCap_ge w n 0 e;obtain⟨h1,_⟩:=Gk (ty:=e) (sz:=sz) (es:=[]) (vs:=Builtin.zeroCells z.cells n++Builtin.zeroCells z.cells (grownCap w n 0 e-n)) hsim.drew (by simp) (λi e h=>by simp at h) (λi e j c h=>by simp at h) (λi e j c h=>by simp at h)
    have h3:ARep (w.drew.alloc (.cells (Builtin.zeroCells z.cells n++Builtin.zeroCells z.cells (grownCap w n 0 e-n)) e)) (g.new st.hp.length w.heap.size (Builtin.zeroCells z.cells n++Builtin.zeroCells z.cells (grownCap w n 0 e-n)).size) (.msl st.hp.length sz 0 n) (.slice (some ⟨w.heap.size,0,none⟩) n (grownCap w n 0 e)):=by
      have:=ARep.msl (w:=w.drew.alloc (.cells (Builtin.zeroCells z.cells n++Builtin.zeroCells z.cells (grownCap w n 0 e-n)) e)) (g:=g.new st.hp.length w.heap.size (Builtin.zeroCells z.cells n++Builtin.zeroCells z.cells (grownCap w n 0 e-n)).size) st.hp.length sz 0 n (grownCap w n 0 e) w.heap.size (by simp[Gh.new,upd]) hcap (by
        simp only[Gh.new,upd,if_true,zg,size_zeroCells,hzc,fV,<- Nat.add_mul];rw[show n+(grownCap w n 0 e-n)=grownCap w n 0 e by omega]
        exact fL _)
      simpa using this
    refine⟨_,_,?_,_,_,hK,h1.put' hd h3⟩;simp only[execOp,ho];simp[resolve,invoke,builtin,hr]
section steps
variable {ops:Array Oper}{l:List Oper}{fr:Fr}{d:Nat}{ty:TypeId}{pos:String}{after:Array Edge}{t tn e:TypeId}{x y:Operand}{sz by' n:Nat}{z:Value}{k kn:IntKind}
theorem Ze(hd:decide (d<C.n)=true)(hl:sel C.P t=some (e,sz,by'))(htn:C.P.underlying tn=some (.int kn))(hz:(C.P.info? e).bind (·.zero)=some z)(hx:fr.ev x=.d .nilsl)(hy:fr.ev y=.d (.int k n))(hzc:z.cells.size=sz)(h0:0<n)(hs0:0<sz)(hlen:n*by'<=281474976710656)(hlen':n<=9223372036854775807)
    (h:eA C ops l ⟨(d,.msl hp.length sz 0 n)::fr,hp++[.flat e sz []]⟩ K):eA C ops (⟨some d,.call { callee:=.builtin .append,args:=#[x,y],argTypes:=#[t,tn] },ty,pos,after,none⟩::l) ⟨fr,hp⟩ K:=
  lD rfl (ok_zeros rfl hd hl htn hz hx hy hzc h0 hs0 hlen hlen' h)
end steps
section rds
variable {t e:TypeId}{x:Operand}{sz by':Nat}
theorem Gy(ho:o.op=.call { callee:=.builtin .cap,args:=#[x],argTypes:=#[t] })(hl:sel C.P t=some (e,sz,by'))(hx:ev x=.d .nilsl):RdOk C o ev hp (.d (.int .i64 0)):=
  RdOk.mk λst hhp hag g a w hs=>by
    have h:=hs.ev x;rw[hag x (by simp[ho,Op.operands,Call.operands]),hx]at h;obtain⟨inf,hu,hi,_,_⟩:=vF hl;obtain⟨ad,he⟩:=Ed (X:=g.X) h;refine⟨goInt 0,?_,.d _ _ (.int _ _)⟩;simp only[execOp,ho];simp[resolve,invoke,builtin,Builtin.cap_,run_underlying hu,he]
theorem Z5{lo hi:Option Operand}(ho:o.op=.slice t x lo hi none)(hl:sel C.P t=some (e,sz,by'))(hx:ev x=.d .nilsl)(hlo:Dh 0 (lo.map ev)=some 0)(hhi:Dh 0 (hi.map ev)=some 0):RdOk C o ev hp (.d .nilsl):=
  RdOk.mk λst hhp hag g a w hs=>by
    have h:=hs.ev x;rw[hag x (by simp[ho,Op.operands]),hx]at h
    have bound:∀(q:Option Operand),(∀y,q=some y->y∈o.op.operands)->Dh 0 (q.map ev)=some 0->(q.map a.eval=none/\(0:Nat)=0)\/∃k,q.map a.eval=some (.int k ((0:Nat):Int)):=by
      intro q hq hb
      cases q with
      |none=>exact .inl ⟨rfl,rfl⟩
      |some y=>
        have hy:=hs.ev y;rw[hag y (hq y rfl)]at hy;simp only[kP]at hb⊢;unfold Dh at hb;split at hb;rename_i e;cases e;rename_i k m e;rw[cC e]at hy;cases hb;exact .inr ⟨k,by rw[int_inv hy];rfl⟩;cases hb
    have hlo':=bound lo (λy hy=>by subst hy;simp[ho,Op.operands]) hlo;have hhi':=bound hi (λy hy=>by subst hy;simp[ho,Op.operands]) hhi;obtain⟨ad,he⟩:=Ed (X:=g.X) h;have:=Mq hl w ad 0 0 (lo.map a.eval) (hi.map a.eval) 0 0 hlo' hhi' (fL _) (fL _);refine⟨.slice ad 0 0,?_,.d _ _ (.nilsl _)⟩;simp only[execOp,ho,he,Option.map_none,Sem.run_bind,this,Result.andThen_ok,Sem.run_pure];simp
theorem w_litD{i:Nat}{parts:Array (Nat×Operand)}{n:Nat}{ds:List D}{z:Value}(xs:List Operand)(hi:hp[i]?=some .hole)(ho:o.op=.buildSlice t n parts)(hl:sel C.P t=some (e,sz,by'))(hz:(C.P.info? e).bind (·.zero)=some z)(hp':pJ parts xs)
    (hx:Ya (xs.map ev)=some ds) (hn:Nat.beq ds.length n=true) (hs:(ds.all λd=>Nat.beq d.cells.length sz)=true) (hsmall:Nat.ble (n*sz) 16777216=true):DOk C o ev hp (.msl i sz 0 n) [(i,.flat e sz ds)]:=
  DOk.mk λst hhp hag g a w hsim=>by
    have hmem:∀x∈xs,x∈o.op.operands:=by
      intro x hx;simp only[ho,Op.operands];obtain⟨i,hi⟩:=nS hx;have:(xs.zipIdx.map λx=>(x.2,x.1))[i]?=some (i,x):=by simp[hi]
      rw[<- hp']at this;simp only[Bv,zal96q];exact⟨(i,x),gH this,rfl⟩
    have hev:xs.map st.fr.ev=ds.map AV.d:=by
      rw[<- fj hx];exact Mg λx hx=>hag x (hmem x hx)
    obtain⟨vs,hr,row,_⟩:=wM (st:=st) sz by' xs ds z ho hl hz hp' hev (fC hn) (λd hd=>fC (zal30q.1 hs d hd)) (jY hsmall) hsim
    obtain⟨g',h1,h2⟩:=row.filled (ty:=e) hsim (Gq hi hhp) n (fC hn).symm;exact⟨_,_,g',hr,h1,h2⟩
end rds
def lk{α:Type}:List (Nat×α)->Nat->Option α
  |[],_=>none
  |(k,a)::r,t=>match Nat.beq k t with
    |true=>some a
    |false=>lk r t
theorem zy{α:Type}:∀{l:List (Nat×α)} {t:Nat} {a:α},lk l t=some a->(t,a)∈l
  |[],_,_,h=>by cases h
  |(k,b)::r,t,a,h=>by
    simp only[lk]at h;split at h;rename_i e;cases h;rw[fC e];simp;exact gg _ (zy h)
structure Tab where
  lay:List (Nat×Bool×Nat)
  fs:List (Nat×List (Nat×Bool×Nat))
  sel:List (Nat×Nat×Nat×Nat)
  str:List (Nat×Unit)
  boo:List (Nat×Unit)
  con:List (Nat×Unit)
structure TabOk (P:Program) (T:Tab):Prop where
  lay:∀{t:Nat}{x:Bool×Nat},lk T.lay t=some x->lay P t=some x
  fs:∀{t:Nat}{l:List (Nat×Bool×Nat)} {f:Nat} {x:Nat×Bool×Nat},lk T.fs t=some l->l[f]?=some x->fld P t f=some x.1/\X8 P t f=some x
  sel:∀{t:Nat}{x:Nat×Nat×Nat},lk T.sel t=some x->sel P t=some x
  str:∀{t:Nat}{x:Unit},lk T.str t=some x->P.underlying t=some .string
  boo:∀{t:Nat}{x:Unit},lk T.boo t=some x->P.underlying t=some .bool
  con:∀{t:Nat}{x:Unit},lk T.con t=some x->Et P t=true
def isStr(P:Program)(t:Nat):Bool:=match P.underlying t with
  |some .string=>true
  |_=>false
def isBoo(P:Program)(t:Nat):Bool:=match P.underlying t with
  |some .bool=>true
  |_=>false
def tabB(P:Program)(T:Tab):Bool:=
  T.lay.all (λe=>lay P e.1 == some e.2)&&T.fs.all (λe=>e.2.zipIdx.all λx=>fld P e.1 x.2 == some x.1.1&&X8 P e.1 x.2 == some x.1)&&T.sel.all (λe=>sel P e.1 == some e.2)&&
  T.str.all (λe=>isStr P e.1)&&T.boo.all (λe=>isBoo P e.1)&&T.con.all (λe=>Et P e.1)
theorem tabB_ok{P:Program}{T:Tab}(h:tabB P T=true):TabOk P T:=by
  simp only[tabB,pU,zal30q]at h;obtain⟨⟨⟨⟨⟨h1,h2⟩,h3⟩,h4⟩,h5⟩,h6⟩:=h;refine⟨λhl=>?_,fun {t l f x} hl hf=>?_,λhl=>?_,λhl=>?_,λhl=>?_,λhl=>?_⟩;simpa using h1 _ (zy hl);have := h2 _ (zy hl) (x, f) (by rw [List.mem_zipIdx_iff_getElem?]; simpa using hf);simpa using this;simpa using h3 _ (zy hl);have:=h4 _ (zy hl);simp only[isStr]at this;split at this;assumption;cases this;have:=h5 _ (zy hl);simp only[isBoo]at this;split at this;assumption;cases this;exact h6 _ (zy hl)
def nf:AV->Option AV
  |.d d=>some (.d d)
  |.msl i s o l=>some (.msl i s o l)
  |.mptr i s x o=>some (.mptr i s x o)
  |.mmap i=>some (.mmap i)
  |.yld i=>some (.yld i)
  |.mmapN i n=>some (.mmapN i n)
  |.agg cs=>some (.agg cs)
  |.tup vs=>some (.tup vs)
  |.fnc f c=>some (.fnc f c)
  |.ifc t v=>some (.ifc t v)
  |_=>none
theorem qq{v u:AV}(h:nf v=some u):v=u:=by cases v<;>first|(simp only[nf,lV]at h;exact h)|cases h
def yx(fr:Fr):List Nat->Option Fr
  |[]=>some []
  |k::ks=>match nf (fr.get k)with
    |some v=>match yx fr ks with
      |some r=>some ((k,v)::r)
      |none=>none
    |none=>none
theorem Ec{fr:Fr}:∀{ks:List Nat}{r:Fr},yx fr ks=some r->SubK fr ks r
  |[],r,h=>by cases h;exact .nil
  |k::ks,r,h=>by
    simp only[yx]at h;split at h;rename_i v hv;split at h;rename_i r' hr;cases h;exact .cons k v ks r' (qq hv) (Ec hr);cases h;cases h
def Zp:List AV->Option (List AV)
  |[]=>some []
  |c::r=>match nf c with
    |some v=>match Zp r with
      |some r'=>some (v::r')
      |none=>none
    |none=>none
theorem Va:∀{cs ds:List AV},Zp cs=some ds->cs=ds
  |[],_,h=>by cases h;rfl
  |c::r,ds,h=>by
    simp only[Zp]at h;split at h;rename_i v hv;split at h;rename_i r' hr;cases h;rw[qq hv,Va hr];cases h;cases h
def Q9:List Blk->Option (List Blk)
  |[]=>some []
  |b::r=>match Q9 r with
    |some r'=>match b with
      |.dead=>some (.dead::r')
      |.hole=>some (.hole::r')
      |.flat t s es=>some (.flat t s es::r')
      |.map k v es=>some (.map k v es::r')
      |.ob o=>some (.ob o::r')
      |.lp s pd ps a b n fr=>some (.lp s pd ps a b n fr::r')
      |.box t cs=>match Zp cs with
        |some cs'=>some (.box t cs'::r')
        |none=>none
    |none=>none
theorem Q8:∀{hp hp':List Blk},Q9 hp=some hp'->hp=hp'
  |[],_,h=>by cases h;rfl
  |b::r,hp',h=>by
    simp only[Q9]at h;split at h;rename_i r' hr;have e:=Q8 hr
    cases b with
    |box t cs=>
      simp only at h;split at h;rename_i cs' hc;cases h;rw[Va hc,e];cases h
    |_=>simp only[lV]at h;rw[<- h,e]
    cases h
theorem WN{C:Ctx}{c:Code}{Q:Exit->St->Prop}{fr fr':Fr}{hp hp':List Blk}(ks:List Nat)(h1:yx fr ks=some fr')(h2:Q9 hp=some hp')(h:TWp C c ⟨fr',hp'⟩ Q):TWp C c ⟨fr,hp⟩ Q:=
  cF ks (Ec h1) (Q8 h2) h
def y2(agg:Bool)(s:Nat)(hp:List Blk):AV->Option AV
  |.d (.ptr e off)=>match agg with
    |false=>match e.cells[off]? with
      |some d=>some (.d d)
      |none=>none
    |true=>match Nat.beq off 0,Nat.beq e.cells.length s,e.one with
      |true,true,false=>some (.d e)
      |_,_,_=>match Nat.ble (off+s) e.cells.length with
        |true=>some (.d (e.part off s))
        |false=>none
  |.mptr id s' i off=>match Nat.beq s' 0,Nat.beq i 0 with
    |true,true=>match hp[id]? with
      |some (.box _ cs)=>match agg with
        |false=>match cs[off]? with
          |some c=>nf c
          |none=>none
        |true=>match Nat.ble (off+s) cs.length with
          |true=>nf (bv ((cs.drop off).take s))
          |false=>none
      |_=>none
    |_,_=>none
  |_=>none
def X9(fo:Nat)(agg:Bool)(n:Nat)(u:AV):Option AV:=
  match u.isAgg with
  |true=>match agg with
    |false=>match u.cells[fo]? with
      |some c=>nf c
      |none=>none
    |true=>match Nat.ble (fo+n) u.cells.length with
      |true=>nf (bv ((u.cells.drop fo).take n))
      |false=>none
  |false=>none
def I5(op:BinOp)(isB:Option Unit):AV->AV->Option AV
  |.d (.int k m),.d (.int k' n)=>match decide (k=k')with
    |true=>match Ob op m n with
      |some b=>some (.d (.bool b))
      |none=>none
    |false=>none
  |.d (.str p),.d (.str q)=>match Ye op (decide (p=q))with
    |some b=>some (.d (.bool b))
    |none=>none
  |.d (.bool p),.d (.bool q)=>match isB with
    |some _=>match Oc op p q with
      |some b=>some (.d (.bool b))
      |none=>none
    |none=>none
  |_,_=>none
def Zm:AV->AV->AV->Option AV
  |.d (.bool b),u,v=>match b with
    |true=>nf u
    |false=>nf v
  |_,_,_=>none
def rdE(T:Tab)(op:Op)(ev:Operand->AV)(hp:List Blk):Option AV:=
  match op with
  |.move x=>nf (ev x)
  |.assign x=>nf (ev x)
  |.load t x=>match lk T.lay t with
    |some (b,s)=>y2 b s hp (ev x)
    |none=>none
  |.fieldAddr s x f=>match lk T.fs s with
    |some l=>match l[f]? with
      |some (fo,_,_)=>match ev x with
        |.d (.ptr e off)=>some (.d (.ptr e (off+fo)))
        |.mptr id sz i off=>some (.mptr id sz i (off+fo))
        |_=>none
      |none=>none
    |none=>none
  |.field s x f=>match lk T.fs s with
    |some l=>match l[f]? with
      |some (fo,b,n)=>X9 fo b n (ev x)
      |none=>none
    |none=>none
  |.binOp op t x y _=>I5 op (lk T.boo t) (ev x) (ev y)
  |.unOp .not _ x=>match ev x with
    |.d (.bool b)=>some (.d (.bool (!b)))
    |_=>none
  |.pick c x y=>Zm (ev c) (ev x) (ev y)
  |.extract x i=>match ev x with
    |.tup vs=>match vs[i]? with
      |some v=>nf v
      |none=>none
    |_=>none
  |.nilCheck x=>match (ev x).notNil with
    |true=>nf (ev x)
    |false=>none
  |.call { callee:=.builtin .len,args:=⟨[x]⟩,argTypes:=⟨[t]⟩ }=>match ev x with
    |.d (.str s)=>match lk T.str t with
      |some _=>some (.d (.int .i64 s.size))
      |none=>none
    |.msl _ _ _ n=>match lk T.sel t with
      |some _=>some (.d (.int .i64 n))
      |none=>none
    |_=>none
  |.makeInterface t x=>match lk T.con t with
    |some _=>match ev x with
      |.d d=>some (.d (.iface t d))
      |_=>none
    |none=>none
  |.typeAssert x _ t true=>match lk T.con t with
    |some _=>match ev x with
      |.d (.iface t' d)=>match Nat.beq t' t with
        |true=>some (.tup [.d d,.d (.bool true)])
        |false=>none
      |_=>none
    |none=>none
  |.makeFunc (.func F) ⟨[]⟩ caps=>match Ya (caps.toList.map ev)with
    |some ds=>some (.d (.clo F ds))
    |none=>none
  |_=>none
section rd
variable {C:Ctx}{T:Tab}{o:Oper}{ev:Operand->AV}{hp:List Blk}{v:AV}
theorem loadE_ok{t:TypeId}{x:Operand}{b:Bool}{s:Nat}(ho:o.op=.load t x)(hl:lay C.P t=some (b,s))(h:y2 b s hp (ev x)=some v):RdOk C o ev hp v:=by
  cases hx:ev x with
  |d d=>
    rw[hx]at h
    cases d with
    |ptr e off=>
      cases b with
      |false=>
        simp only[y2]at h;split at h;rename_i d hd;cases h;exact E6 e d off s ho hl hx hd;cases h
      |true=>
        simp only[y2]at h;split at h;rename_i h1 h2 h3;cases h;have h1:=fC h1;subst h1;exact qBO ho hl hx (fC h2) h3;split at h
        · rename_i hb;cases h;exact v6 e off s ho hl hx (jY hb)
        cases h
    |_=>simp[y2]at h
  |mptr id s' i off=>
    rw[hx]at h;simp only[y2]at h;split at h;rename_i h1 h2;have h1:=fC h1;have h2:=fC h2;subst h1 h2;split at h;rename_i bt cs hb
    cases b with
    |false=>
      simp only at h;split at h;rename_i c hc;rw[<- qq h];exact Qv id off s cs c ho hl hx hb hc;cases h
    |true=>
      simp only at h;split at h;rename_i hc;rw[<- qq h];exact H2 id off s cs ho hl hx hb (jY hc);cases h
    cases h;cases h
  |_=>rw[hx]at h;simp[y2]at h
theorem qBZ{s:TypeId}{x:Operand}{f fo n:Nat}{b:Bool}(ho:o.op=.field s x f)(hf:X8 C.P s f=some (fo,b,n))(h:X9 fo b n (ev x)=some v):RdOk C o ev hp v:=by
  simp only[X9]at h;split at h;rename_i ha
  cases b with
  |false=>
    simp only at h;split at h;rename_i c hc;rw[<- qq h];exact qAZ ho hf rfl ha hc;cases h
  |true=>
    simp only at h;split at h;rename_i hc;exact Xk ho hf rfl ha hc (qq h);cases h
  cases h
theorem cmpE_ok{op:BinOp}{t t':TypeId}{x y:Operand}{u:Option Unit}(hu:∀z,u=some z->C.P.underlying t=some .bool)(ho:o.op=.binOp op t x y t')(h:I5 op u (ev x) (ev y)=some v):RdOk C o ev hp v:=by
  cases hx:ev x with
  |d d=>
    rw[hx]at h
    cases hy:ev y with
    |d e=>
      rw[hy]at h
      cases d with
      |int k m=>
        cases e with
        |int k' n=>
          simp only[I5]at h;split at h;rename_i hk;have hk:=of_decide_eq_true hk;subst hk;split at h;rename_i b hb;cases h;exact rd_cmp k m n b ho hx hy hb;cases h;cases h
        |_=>simp[I5]at h
      |str p=>
        cases e with
        |str q=>
          simp only[I5]at h;split at h;rename_i b hb;cases h;exact cmp_str ho hx hy hb;cases h
        |_=>simp[I5]at h
      |bool p=>
        cases e with
        |bool q=>
          simp only[I5]at h;split at h;rename_i z;split at h;rename_i b hb;cases h;exact cmp_bool (hu _ rfl) ho hx hy hb;cases h;cases h
        |_=>simp[I5]at h
      |_=>simp[I5]at h
    |_=>rw[hy]at h;simp[I5]at h
  |_=>rw[hx]at h;simp[I5]at h
theorem pickE_ok{c x y:Operand}(ho:o.op=.pick c x y)(h:Zm (ev c) (ev x) (ev y)=some v):RdOk C o ev hp v:=by
  cases hc:ev c with
  |d d=>
    rw[hc]at h
    cases d with
    |bool b=>
      cases b with
      |true=>exact pick_T ho hc (qq h)
      |false=>exact pick_F ho hc (qq h)
    |_=>simp[Zm]at h
  |_=>rw[hc]at h;simp[Zm]at h
theorem rdE_ok(hT:TabOk C.P T)(h:rdE T o.op ev hp=some v):RdOk C o ev hp v:=by
  unfold rdE at h;split at h;rename_i x ho;rw[<- qq h];exact Cd (.inl ho);rename_i x ho;rw[<- qq h];exact Cd (.inr ho);rename_i t x ho;split at h;rename_i b s hl;exact loadE_ok ho (hT.lay hl) h;cases h;rename_i s x f ho;split at h;rename_i l hl;split at h;rename_i fo b n hf;split at h;rename_i e off hx;cases h;exact D4 e off fo ho (hT.fs hl hf).1 hx;rename_i id sz i off hx;cases h;exact Ce id sz i off fo ho (hT.fs hl hf).1 hx;cases h;cases h;cases h;rename_i s x f ho;split at h;rename_i l hl;split at h;rename_i fo b n hf;exact qBZ ho (hT.fs hl hf).2 h;cases h;cases h;rename_i op t x y t' ho;exact cmpE_ok (λz hz=>hT.boo hz) ho h;rename_i t x ho;split at h;rename_i b hx;cases h;exact not_b ho hx rfl;cases h;rename_i c x y ho;exact pickE_ok ho h;rename_i x i ho;split at h;rename_i vs hx;split at h;rename_i u hu;rw[<- qq h];exact Xl vs u ho hx hu;cases h;cases h;rename_i x ho;split at h;rename_i hn;rw[<- qq h];exact Qs _ ho rfl hn;cases h;rename_i x t ho;split at h;rename_i s hx;split at h;rename_i z hz;cases h;exact Xj s ho (hT.str hz) hx;cases h;rename_i i s f n hx;split at h;rename_i z hz;cases h;obtain⟨e,sz,by'⟩:=z;exact D1 _ sz by' n ho (hT.sel hz) hx rfl
  cases h;cases h;rename_i t x ho;split at h;rename_i z hz;split at h;rename_i d hx;cases h;exact Xi ho (hT.con hz) hx;cases h;cases h;rename_i x xt t ho;split at h;rename_i z hz;split at h;rename_i t' d hx;split at h;rename_i he;cases h;have he:=fC he;subst he;exact Cf ho (hT.con hz) hx;cases h;cases h;cases h;rename_i F caps ho;split at h;rename_i ds hx;cases h;exact Nd ho hx;cases h;cases h
end rd
def H8(ops:Array Oper)(gd:Option (Nat×Bool))(fr:Fr):Option Bool:=
  match gd with
  |none=>some true
  |some (i,want)=>match (ops[i]?).bind (·.dst)with
    |some t=>match fr.get t with
      |.d (.bool b)=>match b,want with
        |true,true=>some true
        |false,false=>some true
        |true,false=>some false
        |false,true=>some false
      |.und=>some false
      |_=>none
    |none=>none
def storeE(T:Tab)(t:TypeId)(hp:List Blk)(p v:AV):Option (List Blk):=
  match lk T.lay t with
  |some (_,s)=>match p with
    |.mptr id s' i off=>match Nat.beq s' 0,Nat.beq i 0 with
      |true,true=>match hp[id]? with
        |some (.box bt cs)=>match v.flat,Nat.beq v.cells.length s,Nat.ble (off+s) cs.length with
          |true,true,true=>some (hp.set id (.box bt (spl cs off v.cells)))
          |_,_,_=>none
        |_=>none
      |_,_=>none
    |_=>none
  |none=>none
def qE(T:Tab)(n:Nat)(ops:Array Oper)(o:Oper)(fr:Fr)(hp:List Blk):Option (Fr×List Blk):=
  match H8 ops o.guard fr with
  |some true=>match o.dst with
    |some d=>match Nat.blt d n with
      |true=>match rdE T o.op fr.ev hp with
        |some v=>some ((d,v)::fr,hp)
        |none=>none
      |false=>none
    |none=>match o.op with
      |.store t x y=>match storeE T t hp (fr.ev x) (fr.ev y)with
        |some hp'=>some (fr,hp')
        |none=>none
      |_=>none
  |some false=>match o.dst with
    |some d=>match Nat.blt d n with
      |true=>some ((d,.und)::fr,hp)
      |false=>none
    |none=>none
  |none=>none
theorem G2{d n:Nat}(h:Nat.blt d n=true):decide (d<n)=true:=by simpa[Nat.blt_eq]using h
theorem Xw{C:Ctx}{ops:Array Oper}{gd:Option (Nat×Bool)}{st:St}{g:Gh}{a:Act}{w:World}(hs:Sim C st g a w){b:Bool}(h:H8 ops gd st.fr=some b):gd=none/\b=true\/∃i want,gd=some (i,want)/\((yielded ops a.tmps i=some want/\b=true)\/(yielded ops a.tmps i≠some want/\b=false)):=by
  unfold H8 at h;split at h;cases h;exact .inl ⟨rfl,rfl⟩;rename_i i want;right;refine⟨i,want,rfl,?_⟩;split at h;rename_i t ht;split at h;rename_i c hc;have hy:=yh hs ht hc;split at h<;>cases h<;>simp[hy];rename_i hc;cases h;have hy:=Ew hs ht hc;simp[hy];cases h;cases h
theorem SA{C:Ctx}{T:Tab}{ops:Array Oper}{o:Oper}{l:List Oper}{K:St->Prop}{fr fr':Fr}{hp hp':List Blk}(hT:TabOk C.P T)(h:qE T C.n ops o fr hp=some (fr',hp'))(k:eA C ops l ⟨fr',hp'⟩ K):eA C ops (o::l) ⟨fr,hp⟩ K:=by
  intro g a w hs;unfold qE at h;split at h;rename_i hon
  have hrun:OpOk C o ⟨fr,hp⟩ (λst''=>eA C ops l st'' K)->wpList C.P ops (QN C K) (o::l) a w:=by
    intro hok;unfold wpList
    have hw:Region.wanted o (yielded ops a.tmps)=true:=by
      rcases Xw hs hon with⟨hg,_⟩|⟨i,want,hg,⟨hy,_⟩|⟨_,hc⟩⟩
      simp[Region.wanted,hg];simp[Region.wanted,hg,hy];cases hc
    rw[if_pos hw];exact .inl (Oper.wp_mono (λa w ⟨st',g',hK,hs'⟩=>hK g' a w hs') (hok g a w _ hs))
  split at h;rename_i d hd;split at h;rename_i hlt;split at h;rename_i v hv;cases h;exact hrun ((rdE_ok (hp:=hp) hT hv).ok (st:=⟨fr,hp⟩) (by rw[hd];exact G2 hlt) (by rw[hd];exact k));cases h;cases h;rename_i hd;split at h;rename_i t x y ho;split at h;rename_i hp' hst;cases h;unfold storeE at hst;split at hst;rename_i bb s hl;split at hst;rename_i id s' i off hx;split at hst;rename_i e1 e2;have e1:=fC e1;have e2:=fC e2;subst e1 e2;split at hst;rename_i bt cs hb;split at hst;rename_i f1 f2 f3;cases hst;exact hrun (Nk id off s bb cs _ ho hd (hT.lay hl) hx rfl f1 (fC f2) hb (jY f3) k);cases hst;cases hst;cases hst;cases hst;cases hst;cases h;cases h;rename_i hon
  have hw:¬Region.wanted o (yielded ops a.tmps)=true:=by
    rcases Xw hs hon with⟨_,hc⟩|⟨i,want,hg,⟨_,hc⟩|⟨hy,_⟩⟩
    cases hc;cases hc;simpa[Region.wanted,hg]using hy
  split at h;rename_i d hd;split at h;rename_i hlt;cases h;unfold wpList;rw[if_neg hw];refine k g _ w ?_;rw[hd];exact hs.put (of_decide_eq_true (G2 hlt)) .und;cases h;cases h;cases h
theorem SB{C:Ctx}{T:Tab}{ops:Array Oper}{o:Oper}{l:List Oper}{K:St->Prop}{fr0 fr:Fr}{hp0 hp:List Blk}{d:Nat}{e:Bool}(hT:TabOk C.P T)(h:qE T C.n ops o fr0 hp0=some ((d,.d (.bool e))::fr,hp))(k:∀b,e=b->eA C ops l ⟨(d,.d (.bool b))::fr,hp⟩ K):eA C ops (o::l) ⟨fr0,hp0⟩ K:=
  SA hT h (k e rfl)
theorem mD{ops:Array Oper}{o:Oper}{fr:Fr}{b:Bool}(h:H8 ops o.guard fr=some b):onA ops fr o=some b:=by
  unfold H8 at h;unfold onA;split at h;rename_i hg;rw[hg];exact h;rename_i i want hg;rw[hg];simp only;split at h;rename_i t ht;rw[ht];simp only;split at h;rename_i c hc;rw[hc];simp only;split at h<;>exact h;rename_i hc;rw[hc];exact h;cases h;cases h
def drE(T:Tab)(n:Nat)(ops:Array Oper)(o:Oper)(fr:Fr)(hp:List Blk):Option (Bool×Nat×AV):=
  match H8 ops o.guard fr with
  |some b=>match o.dst with
    |some d=>match Nat.blt d n with
      |true=>match b with
        |true=>match rdE T o.op fr.ev hp with
          |some v=>some (true,d,v)
          |none=>none
        |false=>some (false,d,.und)
      |false=>none
    |none=>none
  |none=>none
theorem DA{C:Ctx}{T:Tab}{ops:Array Oper}{o:Oper}{l:List Oper}{K:St->Prop}{fr:Fr}{hp:List Blk}{acc:List Rec}{on:Bool}{d:Nat}{v:AV}(rs:List Nat)(hT:TabOk C.P T)(h:drE T C.n ops o fr (Ib rs hp)=some (on,d,v))
    (k:TDr C ops K l ((d,v)::fr) hp (acc++[⟨on,d,v,bif on then rs else[],[]⟩])):TDr C ops K (o::l) fr hp acc:=by
  unfold drE at h;split at h;rename_i b hon;split at h;rename_i d' hd;split at h;rename_i hlt;split at h;split at h
  · rename_i u hv
    cases h;exact .step o l fr hp acc d v rs [] v (.inl ⟨hd,G2 hlt,rfl⟩) (mD hon) (λp hp=>by simp at hp) (rdE_ok hT hv).dok k
  cases h;cases h;exact .skip o l fr hp acc d _ (.inl ⟨hd,G2 hlt,rfl⟩) (mD hon) k;cases h;cases h;cases h
theorem uP{C:Ctx}{T:Tab}{ops:Array Oper}{o:Oper}{l:List Oper}{K:St->Prop}{fr:Fr}{hp:List Blk}{acc:List Rec}{d:Nat}{e:Bool}(rs:List Nat)(hT:TabOk C.P T)(h:drE T C.n ops o fr (Ib rs hp)=some (true,d,.d (.bool e)))
    (k:∀b,e=b->TDr C ops K l ((d,.d (.bool b))::fr) hp (acc++[⟨true,d,.d (.bool b),rs,[]⟩])):TDr C ops K (o::l) fr hp acc:=
  DA rs hT h (k e rfl)
theorem DX{C:Ctx}{ops:Array Oper}{op:Op}{ty:TypeId}{pos:String}{after:Array Edge}{gd:Option (Nat×Bool)}{l:List Oper}{K:St->Prop}{fr:Fr}{hp:List Blk}{acc:List Rec}{d:Nat}{v:AV}(rs:List Nat)(hd:decide (d<C.n)=true)(hon:H8 ops gd fr=some true)
    (hr:RdOk C ⟨some d,op,ty,pos,after,gd⟩ fr.ev (Ib rs hp) v) (k:TDr C ops K l ((d,v)::fr) hp (acc++[⟨true,d,v,rs,[]⟩])):TDr C ops K (⟨some d,op,ty,pos,after,gd⟩::l) fr hp acc:=
  .step _ l fr hp acc d v rs [] v (.inl ⟨rfl,hd,rfl⟩) (mD (o:=⟨some d,op,ty,pos,after,gd⟩) hon) (λp hp=>by simp at hp) hr.dok k
theorem SX{C:Ctx}{ops:Array Oper}{op:Op}{ty:TypeId}{pos:String}{after:Array Edge}{gd:Option (Nat×Bool)}{l:List Oper}{K:St->Prop}{fr:Fr}{hp:List Blk}{d:Nat}{v:AV}(hd:decide (d<C.n)=true)(hon:H8 ops gd fr=some true)
    (hr:RdOk C ⟨some d,op,ty,pos,after,gd⟩ fr.ev hp v) (k:eA C ops l ⟨(d,v)::fr,hp⟩ K):eA C ops (⟨some d,op,ty,pos,after,gd⟩::l) ⟨fr,hp⟩ K:=by
  intro g a w hs;unfold wpList
  have hw:Region.wanted ⟨some d,op,ty,pos,after,gd⟩ (yielded ops a.tmps)=true:=by
    rcases Xw hs hon with⟨hg,_⟩|⟨i,want,hg,⟨hy,_⟩|⟨_,hc⟩⟩
    simp[Region.wanted,hg];simp[Region.wanted,hg,hy];cases hc
  rw[if_pos hw];have hok:OpOk C ⟨some d,op,ty,pos,after,gd⟩ ⟨fr,hp⟩ (λst''=>eA C ops l st'' K):=hr.ok (st:=⟨fr,hp⟩) hd k;exact .inl (Oper.wp_mono (λa w ⟨st',g',hK,hs'⟩=>hK g' a w hs') (hok g a w _ hs))
def wkE:List D->List (Option Nat)->Option (List D)
  |[],_=>some []
  |d::r,[]=>some (d::r)
  |d::r,none::s=>match wkE r s with
    |some r'=>some (d::r')
    |none=>none
  |d::r,some n::s=>match wkE r s with
    |some r'=>match d with
      |.nilsl=>some (.sl n []::r')
      |_=>none
    |none=>none
theorem Wz:∀{ds:List D}{s:List (Option Nat)} {ds':List D},wkE ds s=some ds'->ds.length=ds'.length/\∀(i:Nat)(c c':D),ds[i]?=some c->ds'[i]?=some c'->DLe c c'/\c'.one=c.one
  |[],_,_,h=>by cases h;exact⟨rfl,λi c c' h=>by simp at h⟩
  |d::r,[],_,h=>by
    cases h;exact⟨rfl,λi c c' h h'=>by rw[h]at h';cases h';exact⟨.refl _,rfl⟩⟩
  |d::r,none::s,_,h=>by
    simp only[wkE]at h;split at h;rename_i r' hr;cases h;obtain⟨h1,h2⟩:=Wz hr;refine⟨by simp[h1],λi c c' hc hc'=>?_⟩
    cases i with
    |zero=>simp at hc hc';subst hc hc';exact⟨.refl _,rfl⟩
    |succ i=>exact h2 i c c' (by simpa using hc) (by simpa using hc')
    cases h
  |d::r,some n::s,_,h=>by
    simp only[wkE]at h;split at h;rename_i r' hr;obtain⟨h1,h2⟩:=Wz hr
    cases d with
    |nilsl=>
      cases h;refine⟨by simp[h1],λi c c' hc hc'=>?_⟩
      cases i with
      |zero=>simp at hc hc';subst hc hc';exact⟨.nil _,rfl⟩
      |succ i=>exact h2 i c c' (by simpa using hc) (by simpa using hc')
    |_=>cases h
    cases h
def wkV(s:List (Option Nat)):AV->Option AV
  |.d (.agg ds)=>match wkE ds s with
    |some ds'=>some (.d (.agg ds'))
    |none=>none
  |.d .nilsl=>match s with
    |[some n]=>some (.d (.sl n []))
    |_=>none
  |_=>none
theorem wkV_rep{w:World}{g:Gh}{s:List (Option Nat)}{v v':AV}{u:Value}(h:wkV s v=some v')(hr:ARep w g v u):ARep w g v' u:=by
  cases v with
  |d d=>
    cases d with
    |agg ds=>
      simp only[wkV]at h;split at h;rename_i ds' hw;cases h;obtain⟨h1,h2⟩:=Wz hw
      cases hr with
      |d _ _ hr=>
        cases hr with
        |agg _ vs hl ho hc=>
          refine .d _ _ (.agg ds' vs (by rw[<- h1];exact hl) (λc hc'=>?_) λi c u hi hu=>?_);obtain⟨i,hi⟩:=nS hc';have hlt:=(zal58q.1 hi).1;have hd:ds[i]?=some ds[i]:=by simp
          rw[(h2 i _ c hd hi).2];exact ho _ (by simp);have hlt:=(zal58q.1 hi).1;have hd:ds[i]?=some ds[i]:=by simp
          exact(h2 i _ c hd hi).1 _ _ _ (hc i _ u hd hu)
      cases h
    |nilsl=>
      simp only[wkV]at h;split at h;cases h
      cases hr with
      |d _ _ hr=>exact .d _ _ (DLe.nil _ _ _ _ hr)
      cases h
    |_=>cases h
  |_=>cases h
theorem Sim.wk{C:Ctx}{fr:Fr}{hp:List Blk}{g:Gh}{a:Act}{w:World}(h:Sim C ⟨fr,hp⟩ g a w){t:Nat}{s:List (Option Nat)}{v:AV}(hv:wkV s (fr.get t)=some v):Sim C ⟨(t,v)::fr,hp⟩ g a w:=by
  refine{ h with fr:=λu=>?_ };simp only[Fr.get];split;rename_i e;subst e;exact wkV_rep hv (h.fr t);exact h.fr u
theorem I6{C:Ctx}{fr:Fr}{hp:List Blk}{c:Code}{Q:Exit->St->Prop}(t:Nat)(s:List (Option Nat)){v:AV}(hv:wkV s (fr.get t)=some v)(h:TWp C c ⟨(t,v)::fr,hp⟩ Q):TWp C c ⟨fr,hp⟩ Q:=λg a w hs=>h g a w (Sim.wk hs hv)
theorem Mo{C:Ctx}{fr:Fr}{hp:List Blk}{ops:Array Oper}{l:List Oper}{K:St->Prop}(t:Nat)(s:List (Option Nat)){v:AV}(hv:wkV s (fr.get t)=some v)(h:eA C ops l ⟨(t,v)::fr,hp⟩ K):eA C ops l ⟨fr,hp⟩ K:=λg a w hs=>h g a w (Sim.wk hs hv)
def wkB:List AV->List (Option Nat)->Option (List AV)
  |[],_=>some []
  |d::r,[]=>some (d::r)
  |d::r,none::s=>match wkB r s with
    |some r'=>some (d::r')
    |none=>none
  |d::r,some n::s=>match wkB r s with
    |some r'=>match d with
      |.d .nilsl=>some (.d (.sl n [])::r')
      |_=>none
    |none=>none
theorem W0:∀{ds:List AV}{s:List (Option Nat)} {ds':List AV},wkB ds s=some ds'->ds'.length=ds.length/\∀(i:Nat)(c':AV),ds'[i]?=some c'->∃c,ds[i]?=some c/\∀(w:World)(g:Gh)(v:Value),ARep w g c v->ARep w g c' v
  |[],_,_,h=>by cases h;exact⟨rfl,λi c h=>by simp at h⟩
  |d::r,[],_,h=>by
    cases h;exact⟨rfl,λi c' h'=>⟨c',h',λ_ _ _ h=>h⟩⟩
  |d::r,none::s,_,h=>by
    simp only[wkB]at h;split at h;rename_i r' hr;cases h;obtain⟨h1,h2⟩:=W0 hr;refine⟨by simp[h1],λi c' hc'=>?_⟩
    cases i with
    |zero=>simp at hc';subst hc';exact⟨d,by simp,λ_ _ _ h=>h⟩
    |succ i=>obtain⟨c,hc,hh⟩:=h2 i c' (by simpa using hc');exact⟨c,by simpa using hc,hh⟩
    cases h
  |d::r,some n::s,_,h=>by
    simp only[wkB]at h;split at h;rename_i r' hr;obtain⟨h1,h2⟩:=W0 hr;split at h;cases h;refine⟨by simp[h1],λi c' hc'=>?_⟩
    cases i with
    |zero=>simp at hc';subst hc';exact⟨.d .nilsl,by simp,λ_ _ _ h=>by cases h with|d _ _ h=>exact .d _ _ (DLe.nil _ _ _ _ h)⟩
    |succ i=>obtain⟨c,hc,hh⟩:=h2 i c' (by simpa using hc');exact⟨c,by simpa using hc,hh⟩
    cases h;cases h
theorem Sim.wkb{C:Ctx}{fr:Fr}{hp:List Blk}{g:Gh}{a:Act}{w:World}(h:Sim C ⟨fr,hp⟩ g a w){id ty:Nat}{cs cs':List AV}{s:List (Option Nat)}(hb:hp[id]?=some (.box ty cs))(hv:wkB cs s=some cs'):Sim C ⟨fr,hp.set id (.box ty cs')⟩ g a w:=by
  have hlen:id<hp.length:=(zal58q.1 hb).1
  have hin:∀(i:Nat)(B:Blk),(hp.set id (.box ty cs'))[i]?=some B->∃B',hp[i]?=some B'/\(B≠.dead->B'≠.dead):=by
    intro i B hi;rw[hZ]at hi;split at hi;rename_i e;subst e;exact⟨_,hb,λ_ e=>by cases e⟩;exact⟨B,hi,λh=>h⟩
  refine{ h with hp:=λi B hi=>?_,lt:=?_,inj:=?_,kle:=?_ };simp only[hZ]at hi;split at hi;rename_i e;subst e;cases hi;obtain⟨b,cells,h1,h2,h3,h4,h5⟩:=h.hp _ _ hb;obtain⟨e1,e2⟩:=W0 hv;refine⟨b,cells,h1,h2,h3,by rw[e1];exact h4,λj c v hc hv=>?_⟩;obtain⟨c0,hc0,hm⟩:=e2 j c hc;exact hm _ _ _ (h5 j c0 v hc0 hv);exact h.hp i B hi;intro i b hp';have:=h.lt i b hp';simp only[zal79q];exact this;intro i j b Bi Bj hi hj di dj hpi hpj;obtain⟨Bi',hi',ei⟩:=hin i Bi hi;obtain⟨Bj',hj',ej⟩:=hin j Bj hj;exact h.inj i j b Bi' Bj' hi' hj' (ei di) (ej dj) hpi hpj;have:=h.kle;simp only[zal79q];exact this
theorem cL{C:Ctx}{fr:Fr}{hp:List Blk}{ops:Array Oper}{l:List Oper}{K:St->Prop}(id:Nat)(s:List (Option Nat)){ty:Nat}{cs cs':List AV}(hb:hp[id]?=some (.box ty cs))(hv:wkB cs s=some cs')(h:eA C ops l ⟨fr,hp.set id (.box ty cs')⟩ K):eA C ops l ⟨fr,hp⟩ K:=λg a w hs=>h g a w (Sim.wkb hs hb hv)
def aE{α:Type}(p:Prop)[Decidable p](k:Option α):Option α:=if p then k else none
def bC{α β:Type}(l:List α)(i:Int)(k:α->Option β):Option β:=if 0<=i then(match l[i.toNat]? with|some x=>k x|none=>none)else none
def aT{α β:Type}(m:Option β):Option (α ⊕ β):=m.map .inr
def dS{α β:Type}(m:Option (α ⊕ β))(k:α->Option β):Option β:=match m with
  |some (.inl a)=>k a
  |some (.inr b)=>some b
  |none=>none
def aD{α β:Type}(m:Option α)(k:α->Option β):Option β:=match m with
  |some a=>k a
  |none=>none
def sub{α:Type}(l:List α)(i j:Int):List α:=(l.drop i.toNat).take (j.toNat-i.toNat)
section
variable {α β γ:Type}
theorem GI{p:Prop}[Decidable p]{k:Option α}{r:α}(h:aE p k=some r):p/\k=some r:=by
  unfold aE at h;split at h;exact⟨by assumption,h⟩;cases h
theorem GV{l:List α}{i:Int}{k:α->Option β}{r:β}(h:bC l i k=some r):∃x,(0<=i/\l[i.toNat]?=some x)/\k x=some r:=by
  unfold bC at h;split at h;split at h
  · exact⟨_,⟨by assumption,by assumption⟩,h⟩
  cases h;cases h
theorem BI{m:Option α}{k:α->Option β}{r:β}(h:aD m k=some r):∃x,m=some x/\k x=some r:=by
  cases m with
  |none=>cases h
  |some a=>exact⟨a,rfl,h⟩
theorem II{m:Option β}{x:α ⊕ β}(h:aT m=some x):∃v,m=some v/\x=.inr v:=by
  cases m with
  |none=>cases h
  |some a=>cases h;exact⟨a,rfl,rfl⟩
theorem JT{p:Prop}[Decidable p]{a b:Option α}{c:α}(h:decide p=true)(hm:(if p then a else b)=some c):a=some c:=by rw[if_pos (of_decide_eq_true h)]at hm;exact hm
theorem JF{p:Prop}[Decidable p]{a b:Option α}{c:α}(h:decide p=false)(hm:(if p then a else b)=some c):b=some c:=by rw[if_neg (of_decide_eq_false h)]at hm;exact hm
theorem cv{p:Prop}[Decidable p]{a b:Option α}{c:α}(h:(!decide p)=true)(hm:(if p then b else a)=some c):a=some c:=by rw[if_neg (of_decide_eq_false (by simpa using h))]at hm;exact hm
theorem cw{p:Prop}[Decidable p]{a b:Option α}{c:α}(h:(!decide p)=false)(hm:(if p then b else a)=some c):b=some c:=by rw[if_pos (of_decide_eq_true (by simpa using h))]at hm;exact hm
theorem JA{p:Bool}{a b:Option α}{c:α}(h:p=true)(hm:(if p=true then a else b)=some c):a=some c:=by rw[if_pos h]at hm;exact hm
theorem JB{p:Bool}{a b:Option α}{c:α}(h:p=false)(hm:(if p=true then a else b)=some c):b=some c:=by rw[if_neg (by rw[h];simp)]at hm;exact hm
def pN{σ ρ:Type}(f:σ->Option (σ ⊕ ρ)):Nat->σ->Option ρ
  |0,_=>none
  |n+1,s=>match f s with
    |none=>none
    |some (.inl s')=>pN f n s'
    |some (.inr r)=>some r
def eO:Nat:=73786976294838206464
def bB{σ ρ:Type}(f:σ->Option (σ ⊕ ρ))(s:σ):Option ρ:=pN f eO s
theorem Il{σ ρ:Type}{f:σ->Option (σ ⊕ ρ)}:∀{n m:Nat}{s:σ}{r:ρ},pN f n s=some r->n<=m->pN f m s=some r
  |0,_,_,_,h,_=>by cases h
  |n+1,0,_,_,_,hm=>absurd hm (Nat.not_succ_le_zero n)
  |n+1,m+1,s,r,h,hm=>by
    simp only[pN]at h⊢;split at h;cases h;exact Il h (Nat.le_of_succ_le_succ hm);exact h
theorem zG{σ ρ:Type}{f:σ->Option (σ ⊕ ρ)}{n:Nat}{s:σ}{r:ρ}(h:pN f n s=some r)(hn:n<=eO):bB f s=some r:=Il h hn
end
theorem k0{ids:List Nat}(i:Nat)(h:i<0):ids[i]?=some i:=absurd h (oC i)
variable {C:Ctx}
theorem TWp.monoT{c:Code}{st:St}{n n':St->Prop}{Q:Exit->St->Prop}(h:TWp C c st (yI n Q))(hn:∀st,n st->n' st):TWp C c st (yI n' Q):=h.mono λe st hq=>by
  cases e with
  |normal=>exact hn st hq
  |_=>exact hq
theorem w_loop{c:Code}{Q:Exit->St->Prop}{σ ρ:Type}{f:σ->Option (σ ⊕ ρ)}{s0:σ}{o:ρ}(hm:bB f s0=some o){fr:Fr}{hp:List Blk}(var:σ->Fr)(chg:σ->List (Nat×Blk))(vk ik ids:List Nat){inv:Fr}{hp0:List Blk}(hnd:mX ids=true)(hk:∀i,i<C.k->ids[i]?=some i)
    (hI:yx fr ik=some inv) (hI':Fr.mapRef (toName (cE ids)) inv=inv) (hV:Fr.mapRef (toName (cE ids)) (Fr.keep vk fr)=var s0) (hH:ids.map (λi=>(hp.getD i .dead).mapRef (toName (cE ids)))=hp0) (hC:hp0=wr (chg s0) hp0)
    (round:∀s x,f s=some x->(∀v,x=.inr v->v=o)->TWp C c ⟨var s++inv,wr (chg s) hp0⟩ (yI (λst'=>∃s' ids',x=.inl s'/\mX ids'=true/\(∀i,i<C.k->ids'[i]?=some i)/\st'.canon (vk++ik) ids'=⟨var s'++inv,wr (chg s') hp0⟩) Q)):TWp C (.loop c) ⟨fr,hp⟩ Q:=by
  refine yG (α:=σ×Nat) (λx=>var x.1) (λx=>chg x.1) (λx=>pN f x.2 x.1=some o) (λx=>x.2) vk ik ids (s0,eO) (lQ hnd) hk hm (Ec hI) hI' hV hH hC ?_;rintro⟨s,n⟩ hs
  cases n with
  |zero=>cases hs
  |succ n=>
    simp only[pN]at hs
    cases hf:f s with
    |none=>rw[hf]at hs;cases hs
    |some x=>
      rw[hf]at hs;refine(round s x hf λv hv=>by subst hv;exact cC hs).monoT ?_;rintro st' ⟨s',ids',hx,h1,h2,h3⟩;subst hx;exact⟨(s',n),ids',lQ h1,h2,hs,Nat.lt_succ_self n,h3⟩
theorem cJ{x y:Code}{Q:Exit->St->Prop}{J ρ:Type}{m:Option (J ⊕ ρ)}{k:J->Option ρ}{o:ρ}(hm:dS m k=some o){fr:Fr}{hp:List Blk}(sets:J->Fr)(chg:J->List (Nat×Blk))(sk ks:List Nat){inv:Fr}(hI:yx fr ks=some inv)
    (h1:∀z,m=some z->(∀v,z=.inr v->v=o)->TWp C x ⟨fr,hp⟩ (yI (λst=>∃j ids,z=.inl j/\mX ids=true/\(∀i,i<C.k->ids[i]?=some i)/\st.canon (sk++ks) ids=⟨sets j++inv,wr (chg j) hp⟩) Q))
    (h2:∀j,k j=some o->TWp C y ⟨sets j++inv,wr (chg j) hp⟩ Q):TWp C (.seq x y) ⟨fr,hp⟩ Q:=by
  cases hz:m with
  |none=>rw[hz]at hm;cases hm
  |some z=>
    rw[hz]at hm;refine TQ ((h1 z hz λv hv=>by subst hv;exact cC hm).monoT ?_);rintro st ⟨j,ids,hj,hnd,hk,he⟩;subst hj;refine xj (sk++ks) ids (lQ hnd) hk ?_;rw[he];exact h2 j hm
theorem aL{x y:Code}{Q:Exit->St->Prop}{J ρ:Type}{m:Option J}{k:J->Option ρ}{o:ρ}(hm:aD m k=some o){fr:Fr}{hp:List Blk}(sets:J->Fr)(chg:J->List (Nat×Blk))(sk ks:List Nat){inv:Fr}(hI:yx fr ks=some inv)
    (h1:∀z,m=some z->TWp C x ⟨fr,hp⟩ (yI (λst=>∃j ids,z=j/\mX ids=true/\(∀i,i<C.k->ids[i]?=some i)/\st.canon (sk++ks) ids=⟨sets j++inv,wr (chg j) hp⟩) Q))
    (h2:∀j,k j=some o->TWp C y ⟨sets j++inv,wr (chg j) hp⟩ Q):TWp C (.seq x y) ⟨fr,hp⟩ Q:=by
  cases hz:m with
  |none=>rw[hz]at hm;cases hm
  |some z=>
    rw[hz]at hm;refine TQ ((h1 z hz).monoT ?_);rintro st ⟨j,ids,hj,hnd,hk,he⟩;subst hj;refine xj (sk++ks) ids (lQ hnd) hk ?_;rw[he];exact h2 z hm
theorem hO{x y:Code}{Q:Exit->St->Prop}{fr:Fr}{hp:List Blk}(sets:Fr)(sk ks:List Nat){inv:Fr}(hI:yx fr ks=some inv)
    (h1:TWp C x ⟨fr,hp⟩ (yI (λst=>∃ids,mX ids=true/\(∀i,i<C.k->ids[i]?=some i)/\st.canon (sk++ks) ids=⟨sets++inv,hp⟩) Q))
    (h2:TWp C y ⟨sets++inv,hp⟩ Q):TWp C (.seq x y) ⟨fr,hp⟩ Q:=by
  refine TQ (h1.monoT ?_);rintro st ⟨ids,hnd,hk,he⟩;refine xj (sk++ks) ids (lQ hnd) hk ?_;rw[he];exact h2
theorem bT{fr fr':Fr}{hp hp':List Blk}(h1:fr=fr')(h2:hp=hp'):(⟨fr,hp⟩:St)=⟨fr',hp'⟩:=by rw[h1,h2]
theorem aR{t:Nat}{v v':AV}{r r':Fr}(h1:v=v')(h2:r=r'):(t,v)::r=(t,v')::r':=by rw[h1,h2]
def lY{α:Type}(xss:List (List α))(i:Nat):List α:=(xss.take i).flatten
theorem xV{α:Type}(xss:List (List α)):lY xss 0=[]:=by simp[lY]
theorem mT{α:Type}{xss:List (List α)}{i:Nat}{x:List α}(h:xss[i]?=some x):lY xss (i+1)=lY xss i++x:=by unfold lY;rw[mF,h];simp
theorem Vz{α:Type}{xss:List (List α)}{i:Nat}(h:¬i<xss.length):lY xss i=xss.flatten:=by unfold lY;rw[bc (by omega)]
theorem dV{α:Type}(xss:List (List α))(i:Nat):(lY xss i).length<=xss.flatten.length:=by
  unfold lY;have h:=Bt i xss;have:xss.flatten.length=(xss.take i).flatten.length+(xss.drop i).flatten.length:=by rw[<- List.length_append,<- List.flatten_append,h]
  omega
section rd
variable {T:Tab}{o:Oper}{ev:Operand->AV}{hp:List Blk}{α:Type}{f:α->D}{xs ys:List α}
theorem eW{t e sz by':Nat}{a b:Operand}{k:IntKind}{i:Int}{x:α}(hT:TabOk C.P T)(ho:o.op=.indexAddr t a b)(hl:lk T.sel t=some (e,sz,by'))(ha:ev a=.d (.sl sz (xs.map f)))(hb:ev b=.d (.int k i))(h:0<=i/\xs[i.toNat]?=some x):RdOk C o ev hp (.d (.ptr (f x) 0)):=
  wl ho (hT.sel hl) ha hb (idx_int h.1 h.2)
theorem rH{t e sz by' n id:Nat}{a b:Operand}{k:IntKind}{i:Int}{x:α}(hT:TabOk C.P T)(ho:o.op=.indexAddr t a b)(hl:lk T.sel t=some (e,sz,by'))(ha:ev a=.msl id sz 0 n)(hb:ev b=.d (.int k i))(h:0<=i/\xs[i.toNat]?=some x)(hn:n=xs.length):RdOk C o ev hp (.mptr id sz i.toNat 0):=by
  have hlt:=(zal58q.1 h.2).1;exact qBS ho (hT.sel hl) ha hb ⟨h.1,by omega⟩ (fV _)
theorem x_ixa{t n s id:Nat}{a b:Operand}{k:IntKind}{i:Int}{x:α}(ho:o.op=.indexAddr t a b)(hl:Wn C.P t=some (n,s))(ha:ev a=.mptr id s 0 0)(hb:ev b=.d (.int k i))(h:0<=i/\xs[i.toNat]?=some x)(hn:i<(n:Int)):RdOk C o ev hp (.mptr id s i.toNat 0):=X5 ho hl ha hb ⟨h.1,hn⟩
theorem wQ{t s id sz idx off bt:Nat}{b:Bool}{a:Operand}{x:α}{v:AV}(hT:TabOk C.P T)(ho:o.op=.load t a)(hl:lk T.lay t=some (b,s))(ha:ev a=.mptr id sz idx off)(hb:hp[id]?=some (.flat bt sz (xs.map f)))(hx:xs[idx]?=some x)(hv:y2 b s [] (.d (.ptr (f x) off))=some v):RdOk C o ev hp v:=by
  have he:(xs.map f)[idx]?=some (f x):=el_map hx
  cases b with
  |false=>
    simp only[y2]at hv;split at hv;rename_i d hd;cases hv;exact qBP ho (hT.lay hl) ha hb he hd;cases hv
  |true=>
    simp only[y2]at hv;split at hv;rename_i h1 h2 h3;cases hv;have h1:=fC h1;subst h1;exact X2 ho (hT.lay hl) ha hb he (fC h2) h3;split at hv
    · rename_i hle;cases hv;exact qn id sz idx off s _ _ ho (hT.lay hl) ha hb he (jY hle)
    cases hv
theorem yD{t e sz sz' by':Nat}{a:Operand}(hT:TabOk C.P T)(ho:o.op=.call { callee:=.builtin .len,args:=#[a],argTypes:=#[t] })(hl:lk T.sel t=some (e,sz',by'))(ha:ev a=.d (.sl sz (xs.map f))):RdOk C o ev hp (.d (.int .i64 (xs.length:Int))):=
  Ii ho (hT.sel hl) ha (qF _)
theorem tL{op:BinOp}{t t':TypeId}{x y:Operand}{m n r:Int}(ho:o.op=.binOp op t x y t')(hx:ev x=.d (.int .i64 m))(hy:ev y=.d (.int .i64 n))(hr:Wp op m n=some r)(hb:bH r):RdOk C o ev hp (.d (.int .i64 r)):=gc ho hx hy hr hb
theorem x_cut{t e sz by':Nat}{a:Operand}{lo hi:Option Operand}{l r:Int}(hT:TabOk C.P T)(ho:o.op=.slice t a lo hi none)(hl:lk T.sel t=some (e,sz,by'))(ha:ev a=.d (.sl sz (xs.map f)))(hlo:Dh 0 (lo.map ev)=some l)(hhi:Dh xs.length (hi.map ev)=some r)(h:0<=l/\l<=r/\r<=xs.length):RdOk C o ev hp (.d (.sl sz ((sub xs l r).map f))):=by
  have h1:Dh 0 (lo.map ev)=some ((l.toNat:Nat):Int):=by rw[hlo,Int.toNat_of_nonneg h.1]
  have h2:Dh (xs.map f).length (hi.map ev)=some ((r.toNat:Nat):Int):=by rw[qF,hhi,Int.toNat_of_nonneg (by omega)]
  have:=rd_cut (hp:=hp) sz by' (xs.map f) l.toNat r.toNat ho (hT.sel hl) ha h1 h2 (by omega) (by rw[qF];omega)
  simpa[sub,G5,G6]using this
theorem nD{t e sz by' n:Nat}{parts:Array (Nat×Operand)}{z:Value}(l:List Operand)(hT:TabOk C.P T)(ho:o.op=.buildSlice t n parts)(hl:lk T.sel t=some (e,sz,by'))(hz:(C.P.info? e).bind (·.zero)=some z)(hp':pJ parts l){ds:List D}
    (hx:Ya (l.map ev)=some ds) (hn:Nat.beq ds.length n=true) (hs:(ds.all λd=>Nat.beq d.cells.length sz)=true) (hsmall:Nat.ble (n*sz) 16777216=true):RdOk C o ev hp (.d (.sl sz ds)):=rd_litF l ho (hT.sel hl) hz hp' hx hn hs hsmall
theorem x_make{t e sz by':Nat}{a b:Operand}{z:Value}{zd:D}{n:Int}(hT:TabOk C.P T)(ho:o.op=.makeSlice t a b)(hl:lk T.sel t=some (e,sz,by'))(hz:(C.P.info? e).bind (·.zero)=some z)(hzd:gF z=.d zd)(hzs:Nat.beq zd.cells.length sz=true)(ha:ev a=.d (.int .i64 n))(hb:ev b=.d (.int .i64 n))(hby:Nat.ble by' 100000=true)(hn:0<=n/\n<=1000000000){x:α}(hf:f x=zd):RdOk C o ev hp (.d (.sl sz ((List.replicate n.toNat x).map f))):=by
  obtain⟨m,rfl⟩:=zf hn.1;have h1:=jY hby;have h2:m<=1000000000:=by omega
  have h3:by'*m<=100000*1000000000:=Bs h1 h2
  have:=rd_make (hp:=hp) (n:=m) ho (hT.sel hl) hz hzd (fC hzs) ha hb (by omega) (by omega);rw[List.map_replicate,hf];exact this
end rd
theorem lX{o:Oper}{ev:Operand->AV}{hp:List Blk}{t:TypeId}{x y:Operand}{id off n s j:Nat}{k:IntKind}{i:Int}(ho:o.op=.indexAddr t x y)(hl:Wn C.P t=some (n,s))(hx:ev x=.mptr id 0 0 off)(hy:ev y=.d (.int k i))(h0:0<=i)(h1:i<n)(hj:off+i.toNat*s=j):RdOk C o ev hp (.mptr id 0 0 j):=
  hj ▸ D3 id 0 0 off n s k i ho hl hx hy h0 h1
def Nh{α β:Type}[DecidableEq α](fs:List (α×β))(k:α)(v:β):List (α×β):=match fs.findIdx? λx=>decide (x.1=k)with
  |some j=>fs.set j (k,v)
  |none=>fs++[(k,v)]
section pm
variable {α β:Type}[DecidableEq α]{dk:TypeDesc}{kf:α->D}
variable {o:Oper}{ev:Operand->AV}{hp:List Blk}{x y u:Operand}{t kt et kt' et':TypeId}{id:Nat}{zd:D}{z:Value}
theorem Y2(hk:KeyF dk kf)(f:β->D)(fs:List (α×β))(s:α)(z0:β)(ho:o.op=.lookup t x y false)(hl:Xz C.P t=some (kt,dk,et))(hz:(C.P.info? et).bind (·.zero)=some z)(hzd:gF z=.d (f z0))
    (hx:ev x=.mmap id) (hb:hp[id]?=some (.map kt' et' (eP kf f fs))) (hy:ev y=.d (kf s)) (hnd:(fs.map (·.1)).Nodup):RdOk C o ev hp (.d (f ((lF fs s).getD z0))):=by
  have:=Qt (C:=C) hk f fs s ho hl hz hzd hx hb hy hnd
  cases h:lF fs s with
  |none=>rw[h]at this;exact this
  |some b=>rw[h]at this;exact this
theorem s_putE{ops:Array Oper}{l:List Oper}{K:St->Prop}{fr:Fr}{ty:TypeId}{pos:String}{after:Array Edge}(hk:KeyF dk kf)(f:β->D){fs:List (α×β)}{s:α}{b:β}(hl:Xz C.P t=some (kt,dk,et))(hx:fr.ev x=.mmap id)(hb:hp[id]?=some (.map kt' et' (eP kf f fs)))(hy:fr.ev y=.d (kf s))(hu:fr.ev u=.d (f b))(hnd:(fs.map (·.1)).Nodup)
    (h:eA C ops l ⟨fr,hp.set id (.map kt' et' (eP kf f (Nh fs s b)))⟩ K):eA C ops (⟨none,.mapUpdate t x y u,ty,pos,after,none⟩::l) ⟨fr,hp⟩ K:=by
  cases e:fs.findIdx? λx=>decide (x.1=s)with
  |none=>
    have hn:lF fs s=none:=by
      unfold lF;rw[Br,Mj];rw[Mi]at e;intro x hx;simpa using e x hx
    refine s_put_pm hk f hl hx hb hy hu hn rfl ?_;simpa only[Nh,e]using h
  |some j=>
    rw[za]at e;obtain⟨hlt,hj,_⟩:=e
    have hj':fs[j]?=some (s,fs[j].2):=by
      rw[iE hlt,<- of_decide_eq_true hj]
    refine s_put_at (j:=j) (v0:=f fs[j].2) hl hx hb hy hu (bp hk) (yv hk hnd) (by simp[eP,hj']) rfl ?_;have e':(fs.findIdx? λx=>decide (x.1=s))=some j:=by rw[za];exact⟨hlt,hj,by assumption⟩
    simp only[Nh,e']at h;simpa[eP,List.map_set]using h
end pm
def qBC(P:Program)(t:TypeId):Option (List (Nat×Nat)):=match P.underlying t with
  |some (.array n e)=>(P.info? e).map λi=>(List.range n).map λk=>(k*i.size,i.size)
  |_=>none
theorem N1{p p':Nat->Option (Nat×Nat)}(hp:∀i x,p i=some x->p' i=some x):∀(parts:List (Nat×Value)) (cells c:Array Value),Instr.fill p cells parts=some c->Instr.fill p' cells parts=some c
  |[],cells,c,h=>h
  |(i,v)::r,cells,c,h=>by
    simp only[Instr.fill]at h⊢
    cases e:p i with
    |none=>rw[e]at h;cases h
    |some x=>
      rw[e]at h;rw[hp i x e];simp only at h⊢;split at h;cases h;rename_i hc;rw[if_neg hc];exact N1 hp r _ c h
theorem build_a{o:Oper}{ev:Operand->AV}{hp:List Blk}{t:TypeId}{parts:Array (Nat×Operand)}{z:Value}{zc cs:List AV}{pl:List (Nat×Nat)}{ds:List D}(ho:o.op=.build t parts)(hpl:qBC C.P t=some pl)(hz:(C.P.info? t).bind (·.zero)=some z)(hzf:(gF z).flat=true)(hzc:(gF z).cells=zc)
    (hf:Ix pl zc (parts.toList.map λp=>(p.1,ev p.2))=some cs) (hv:bv cs=.d (.agg ds)):RdOk C o ev hp (.d (.agg ds)):=
  RdOk.mk λst hhp hag g a w hs=>by
    rw[<- hv];subst hzc;have hz':=mN w g z;have hpz:=(hz'.pw hzf).1
    have hparts:Pw (λ(x:Nat×AV)(y:Nat×Value)=>x.1=y.1/\ARep w g x.2 y.2) (parts.toList.map λp=>(p.1,ev p.2)) (parts.map λp=>(p.1,a.eval p.2)).toList:=by
      refine⟨by simp,λi x y hx hy=>?_⟩;simp only[eR,zal140q,yC]at hx hy;obtain⟨p,hp,rfl⟩:=hx;obtain⟨q,hq,rfl⟩:=hy;rw[hp]at hq;cases hq;refine⟨rfl,?_⟩;have:=hs.ev p.2
      rw[hag p.2 (by
        simp only[ho,Op.operands];have:=gH hp
        first|exact Array.mem_map.2 ⟨p,zal10q.1 this,rfl⟩|(simp only[Bv,zal96q];exact⟨p,this,rfl⟩))]at this
      exact this
    unfold qBC at hpl;split at hpl;rename_i n e hu;obtain⟨inf,hinf,hpl⟩:=zal140q.1 hpl;obtain⟨cells',h1,h2⟩:=Cz pl.toArray _ _ _ _ z.cells hparts hpz (by simpa using hf);refine⟨.agg cells',?_,xT (by have:=h2.1;simpa using this) λi c v hc hv=>h2.2 i c v hc (by simpa using hv)⟩;obtain⟨infz,hinfz,hzz⟩:=zal137q.1 hz;have hzv:(zeroValue t).run C.P w=.ok z w:=by simp[zeroValue,typeInfo,hinfz,hzz]
    have hsz:(sizeOf e).run C.P w=.ok inf.size w:=by simp[sizeOf,typeInfo,hinf]
    have h1':Instr.fill (λi=>some (i*inf.size,inf.size)) z.cells (parts.map λp=>(p.1,a.eval p.2)).toList=some cells':=by
      refine N1 ?_ _ _ _ h1;intro i x hx;subst hpl;simp only[Dk,eR,zal140q]at hx;obtain⟨k,hk,rfl⟩:=hx;have:=(zal58q.1 hk).2;simp at this;rw[this]
    have hb:(Instr.build t (parts.map λp=>(p.1,a.eval p.2))).run C.P w=.ok (.agg cells') w:=by
      unfold Instr.build;rw[Sem.run_bind,hzv,Result.andThen_ok,Sem.run_bind,run_underlying hu,Result.andThen_ok];simp only;rw[Sem.run_bind,hsz,Result.andThen_ok];simp only[h1',Sem.run_pure]
    simp only[execOp,ho];simp only[Sem.run_bind];have hb':(Instr.build t (parts.map λx=>(x.1,a.eval x.2))).run C.P w=.ok (.agg cells') w:=hb;rw[hb'];rfl;cases hpl
theorem I7{s u:ByteArray}:s.data=u.data↔s=u:=⟨λh=>by cases s;cases u;congr 1,λh=>by rw[h]⟩
section st
variable {T:Tab}{ops:Array Oper}{l:List Oper}{K:St->Prop}{fr:Fr}{hp:List Blk}{d:Nat}{ty:TypeId}{pos:String}{after:Array Edge}{α:Type}{f:α->D}{xs ys:List α}
theorem gU{x:Operand}(N ety sz:Nat)(hd:decide (d<C.n)=true)(hN:Nat.beq hp.length N=true)(hx:fr.ev x=.d .nilsl)(h:eA C ops l ⟨(d,.msl N sz 0 ([]:List α).length)::fr,hp++[.flat ety sz (([]:List α).map f)]⟩ K):eA C ops (⟨some d,.assign x,ty,pos,after,none⟩::l) ⟨fr,hp⟩ K:=by
  have e:=fC hN;subst e;exact Qd ety sz hd hx h
def boxE:AV->Option (List AV)
  |.d (.agg ds)=>some (ds.map .d)
  |.d d=>some [.d d]
  |.agg cs=>match (AV.agg cs).flat with
    |true=>some cs
    |false=>none
  |.msl i s o l=>some [.msl i s o l]
  |.mptr i s o l=>some [.mptr i s o l]
  |.mmap i=>some [.mmap i]
  |.yld i=>some [.yld i]
  |.mmapN i n=>some [.mmapN i n]
  |_=>none
theorem G1{v:AV}{cs:List AV}(h:boxE v=some cs):v.flat=true/\v.cells=cs:=by
  cases v with
  |d d=>cases d<;>cases h<;>exact⟨rfl,rfl⟩
  |agg cs=>
    simp only[boxE]at h;split at h;rename_i hf;cases h;exact⟨hf,rfl⟩;cases h
  |msl=>cases h;exact⟨rfl,rfl⟩
  |mptr=>cases h;exact⟨rfl,rfl⟩
  |mmap=>cases h;exact⟨rfl,rfl⟩
  |yld=>cases h;exact⟨rfl,rfl⟩
  |mmapN=>cases h;exact⟨rfl,rfl⟩
  |_=>cases h
theorem cY{x:Operand}{t:TypeId}{cs:List AV}(N:Nat)(hd:decide (d<C.n)=true)(hN:Nat.beq hp.length N=true)(hx:boxE (fr.ev x)=some cs)(h:eA C ops l ⟨(d,.mptr N 0 0 0)::fr,hp++[.box t cs]⟩ K):eA C ops (⟨some d,.box t x,ty,pos,after,none⟩::l) ⟨fr,hp⟩ K:=by
  have e:=fC hN;subst e;exact s_box hd rfl (G1 hx).1 (G1 hx).2 h
theorem cS{t:TypeId}{z:Value}{cs:List AV}(N:Nat)(hd:decide (d<C.n)=true)(hN:Nat.beq hp.length N=true)(hz:(C.P.info? t).bind (·.zero)=some z)(hc:boxE (gF z)=some cs)(h:eA C ops l ⟨(d,.mptr N 0 0 0)::fr,hp++[.box t cs]⟩ K):eA C ops (⟨some d,.alloc t,ty,pos,after,none⟩::l) ⟨fr,hp⟩ K:=by
  have e:=fC hN;subst e;exact s_alloc hd hz (G1 hc).1 (G1 hc).2 h
theorem s_ala{t:TypeId}{z:Value}{zd:D}(N n:Nat)(hd:decide (d<C.n)=true)(hN:Nat.beq hp.length N=true)(hz:(C.P.info? t).bind (·.zero)=some z)(hzd:gF z=.d (.agg (List.replicate (n+1) zd)))(h1:zd.one=true){x:α}(hf:f x=zd)(h:eA C ops l ⟨(d,.mptr N 1 0 0)::fr,hp++[.flat t 1 ((List.replicate (n+1) x).map f)]⟩ K):eA C ops (⟨some d,.alloc t,ty,pos,after,none⟩::l) ⟨fr,hp⟩ K:=by
  have e:=fC hN;subst e;rw[List.map_replicate,hf]at h;exact Xb n hd hz hzd h1 h
theorem s_mkO{t e sz by':Nat}{a b:Operand}{z:Value}{zd:D}{n:Int}(N:Nat)(hT:TabOk C.P T)(hd:decide (d<C.n)=true)(hN:Nat.beq hp.length N=true)(hl:lk T.sel t=some (e,sz,by'))(hz:(C.P.info? e).bind (·.zero)=some z)(hzd:gF z=.d zd)(hzs:Nat.beq zd.cells.length sz=true)(ha:fr.ev a=.d (.int .i64 n))(hb:fr.ev b=.d (.int .i64 n))(hby:Nat.ble by' 100000=true)(hn:0<=n/\n<=1000000000){x:α}(hf:f x=zd)
    (h:eA C ops l ⟨(d,.msl N sz 0 (List.replicate n.toNat x).length)::fr,hp++[.flat e sz ((List.replicate n.toNat x).map f)]⟩ K):eA C ops (⟨some d,.makeSlice t a b,ty,pos,after,none⟩::l) ⟨fr,hp⟩ K:=by
  obtain⟨m,rfl⟩:=zf hn.1;have h1:=jY hby;have h2:m<=1000000000:=by omega
  have h3:by'*m<=100000*1000000000:=Bs h1 h2
  have e:=fC hN;subst e;rw[List.map_replicate,hf]at h;simp only[Int.toNat_natCast,List.length_replicate]at h;exact Qc (n:=m) hd (hT.sel hl) hz hzd (fC hzs) ha hb (by omega) (by omega) h
theorem vn{t e sz by' n:Nat}{parts:Array (Nat×Operand)}{z:Value}(N:Nat)(os:List Operand)(xs:List α)(hT:TabOk C.P T)(hd:decide (d<C.n)=true)(hN:Nat.beq hp.length N=true)(hl:lk T.sel t=some (e,sz,by'))(hz:(C.P.info? e).bind (·.zero)=some z)(hp':pJ parts os)
    (hx:Ya (os.map fr.ev)=some (xs.map f)) (hn:Nat.beq (xs.map f).length n=true) (hs:((xs.map f).all λd=>Nat.beq d.cells.length sz)=true) (hsmall:Nat.ble (n*sz) 16777216=true) (h:eA C ops l ⟨(d,.msl N sz 0 xs.length)::fr,hp++[.flat e sz (xs.map f)]⟩ K):eA C ops (⟨some d,.buildSlice t n parts,ty,pos,after,none⟩::l) ⟨fr,hp⟩ K:=by
  have e:=fC hN;subst e;have e2:=fC hn;rw[qF]at e2;rw[e2]at h;exact s_litD os hd (hT.sel hl) hz hp' hx hn hs hsmall h
theorem cG{t e sz by' n id:Nat}{x y:Operand}{u:AV}{z:Value}{fr':Fr}{hp1:List Blk}(ys:List α)(hT:TabOk C.P T)(hd:decide (d<C.n)=true)(hl:lk T.sel t=some (e,sz,by'))(hz:(C.P.info? e).bind (·.zero)=some z)(hzs:Nat.beq z.cells.size sz=true)(hby:Nat.ble by' 100000=true)(hx:fr.ev x=.msl id sz 0 n)(hb:hp[id]?=some (.flat e sz (xs.map f)))(hn:n=xs.length)(hmv:id<C.k->C.mv id=true)
    (hy:fr.ev y=u) (hu:SrcA hp sz (ys.map f) u) (hg:(xs++ys).length<=1000000000) (hfr:Fr.mapRef (purge id) fr=fr') (hhp:hp.map (Blk.mapRef (purge id))=hp1)
    (h:eA C ops l ⟨(d,.msl id sz 0 (xs++ys).length)::fr',hp1.set id (.flat e sz ((xs++ys).map f))⟩ K):eA C ops (⟨some d,.call { callee:=.builtin .append,args:=#[x,y],argTypes:=#[t,t] },ty,pos,after,none⟩::l) ⟨fr,hp⟩ K:=by
  have h1:=jY hby;have h3:(xs++ys).length*by'<=1000000000*100000:=Bs hg h1
  exact Hp (m:=(xs++ys).length) (ds:=ys.map f) (es':=(xs++ys).map f) hd (hT.sel hl) hz (fC hzs) hx hb (by rw[hn,qF]) hmv hy hu (by rw[mU]) (by simp) (by omega) (by omega) hfr hhp h
theorem E2{t s id sz idx off bt:Nat}{b:Bool}{a y:Operand}{x x':α}{v:D}(hT:TabOk C.P T)(hl:lk T.lay t=some (b,s))(ha:fr.ev a=.mptr id sz idx off)(hy:fr.ev y=.d v)(hs:Nat.beq v.cells.length s=true)(hb:hp[id]?=some (.flat bt sz (xs.map f)))(hx:xs[idx]?=some x)(hone:((!(f x).one)||v.one)=true)(hle:Nat.ble (off+s) (f x).cells.length=true)(hu:(f x).upd off v=f x')(h:eA C ops l ⟨fr,hp.set id (.flat bt sz ((xs.set idx x').map f))⟩ K):eA C ops (⟨none,.store t a y,ty,pos,after,none⟩::l) ⟨fr,hp⟩ K:=by
  rw[List.map_set]at h;refine Mp (e:=f x) (e':=f x') (hT.lay hl) ha hy (fC hs) hb (el_map hx) ?_ (jY hle) hu h;simp only[lC,lW]at hone;exact hone
theorem bh(t n':Nat){id sz n:Nat}(hv:Fr.get fr t=.msl id sz 0 n)(he:n=n')(h:eA C ops l ⟨(t,.msl id sz 0 n')::fr,hp⟩ K):eA C ops l ⟨fr,hp⟩ K:=s_eq t _ hv (by rw[he]) h
theorem cB{hp:List Blk}{sz:Nat}{ds:List D}:SrcA hp sz ds (.d (.sl sz ds)):=⟨rfl,rfl⟩
theorem cO{id sz ty:Nat}(h:hp[id]?=some (.flat ty sz (xs.map f))):Snap hp (.msl id sz 0 xs.length) (.sl sz (xs.map f)):=Kx h (by simp)
end st
theorem hJ{o:Oper}{ev:Operand->AV}{hp:List Blk}{f:Operand}{xs:Array Operand}{ts:Array TypeId}{F:FuncId}{ds rs:List D}(ho:o.op=.call { callee:=.value f,args:=xs,argTypes:=ts })(hf:ev f=.d (.fn F))(hx:xs.toList.map ev=ds.map .d)(hret:RetT C.P F ds rs):RdOk C o ev hp (.tup (rs.map .d)):=
  qBA (cs:=[]) ho hf rfl hx (by rw[lL];exact hret)
theorem qAC{c:Code}{Q:Exit->St->Prop}{fr fr':Fr}{hp hp':List Blk}(i:Nat)(hk:Nat.ble C.k i=true)(hks:((List.range C.k).all (eD hp))=true)(hal:eD hp i=true)(hf:Fr.mapRef (Gs i (hp.getD i .dead) (eD hp)) fr=fr')(hh:(hp.map (Blk.mapRef (Gs i (hp.getD i .dead) (eD hp)))).set i .dead=hp')(h:TWp C c ⟨fr',hp'⟩ Q):TWp C c ⟨fr,hp⟩ Q:=by
  subst hf hh;exact W5 i (jY hk) hal (λj hj=>zal30q.1 hks j (zal101q.2 hj)) h
theorem nH{c:Code}{Q:Exit->St->Prop}{fr fr':Fr}{hp hp':List Blk}(t i:Nat)(ks:List Nat)(hk:Nat.ble C.k i=true)(hks:((List.range C.k).all (eD hp))=true)(hal:eD hp i=true){sz n ty:Nat}{es:List D}(ht:fr.get t=.msl i sz 0 n)(hb:hp[i]?=some (.flat ty sz es))(hn:n=es.length)(hf:Fr.mapRef (Gs i (.flat ty sz es) (eD hp)) (Fr.keep ks fr)=fr')(hh:(hp.map (Blk.mapRef (Gs i (.flat ty sz es) (eD hp)))).set i .dead=hp')
    (h:TWp C c ⟨(t,.d (.sl sz es))::fr',hp'⟩ Q):TWp C c ⟨fr,hp⟩ Q:=by
  have hB:hp.getD i .dead=.flat ty sz es:=by rw[rM,hb];rfl
  intro g a w hs;obtain⟨g',hs'⟩:=hs.freeze i (jY hk) hal (λj hj=>zal30q.1 hks j (zal101q.2 hj));subst hf hh;refine h g' a w ?_;simp only[St.freeze,hB]at hs';refine{ hs' with fr:=λu=>?_ };have hu:=hs'.fr u;simp only[Fr.get];split;rename_i e;subst e;rw[Fr.get_mapRef,ht]at hu;simp only[AV.mapRef,Gs,if_true]at hu;rw[if_pos ⟨trivial,by omega⟩]at hu;subst hn;simpa using hu;rw[Fr.get_mapRef];rcases Fr.get_keep fr ks u with e|e
  rw[e,<- Fr.get_mapRef];exact hu;rw[e];exact .junk _
theorem OJ {α : Type} {a b : α} (h : some a = some b) : a = b := cC h
theorem SJ {α : Type} {a b : α} (h : some a = some b) : b = a := (cC h).symm
theorem Q {α : Sort _} {a : α} : a = a := rfl
theorem BE {α β : Type} {m : Option α} {k : α → Option β} {r : β} {C : Prop} (h : aD m k = some r) (f : ∀ x, m = some x → k x = some r → C) : C := (BI h).elim fun x h => f x h.1 h.2
theorem GE {α : Type} {p : Prop} [Decidable p] {k : Option α} {r : α} {C : Prop} (h : aE p k = some r) (f : p → k = some r → C) : C := f (GI h).1 (GI h).2
theorem VE {α β : Type} {l : List α} {i : Int} {k : α → Option β} {r : β} {C : Prop} (h : bC l i k = some r) (f : ∀ x, (0 ≤ i ∧ l[i.toNat]? = some x) → k x = some r → C) : C := (GV h).elim fun x h => f x h.1 h.2
theorem IE {α β : Type} {m : Option β} {x : α ⊕ β} {C : Prop} (h : aT m = some x) (f : ∀ v, m = some v → x = .inr v → C) : C := (II h).elim fun v h => f v h.1 h.2
theorem zQQ {α : Type _} {l : List α} {i : Nat} {a : α} : l[i]? = some a ↔ ∃ h : i < l.length, l[i] = a := zal58q
theorem gN {α : Type _} {l : List α} {i : Nat} (h : i < l.length) : l[i]? = some l[i] := iE h
theorem lG {α : Type _} {l : List α} {i : Nat} {a : α} (h : l[i]? = some a) : a ∈ l := gH h
theorem qv {α : Type _} {l : List α} {i : Nat} {a : α} : l.getD i a = l[i]?.getD a := rM
theorem kU {α : Type _} {a b : List α} : (a ++ b).length = a.length + b.length := pA
theorem zQO {α : Type _} {b : α} {β : Type _} {x : Option β} {f : β → α} : Option.map f x = some b ↔ ∃ a, x = some a ∧ f a = b := zal140q
theorem gm {α : Type _} {β : Type _} {f : α → β} {l : List α} {i : Nat} : (List.map f l)[i]? = Option.map f l[i]? := eR
theorem wP (a b : Bool) : ((a && b) = true) = (a = true ∧ b = true) := pU a b
theorem zQN {α : Type _} {a : α} {s t : List α} : a ∈ s ++ t ↔ a ∈ s ∨ a ∈ t := wE
theorem zQT {α : Type _} {p : α → Bool} {l : List α} : l.all p = true ↔ ∀ x, x ∈ l → p x = true := zal30q
theorem zQU {α : Type _} {p : α → Bool} {l : List α} : l.any p = true ↔ ∃ x, x ∈ l ∧ p x = true := List.any_eq_true
theorem mQ (n : Nat) : ¬ n < 0 := oC n
theorem zQB {α : Type _} {a b : α} {l : List α} : b ∈ a :: l ↔ b = a ∨ b ∈ l := zal91q
theorem vg {α β : Type _} {l : List α} (f : α → β) : (l.map f).length = l.length := qF f
theorem Ks (n : Nat) : n ≤ n := fL n
variable {C:Ctx}{st:St}{g:Gh}{a:Act}{w:World}{P:Program}
theorem V9{o:Oper}{t e:TypeId}{x y:Operand}(id sz by' n:Nat)(es ds:List D)(z:Value)(ho:o.op=.call { callee:=.builtin .append,args:=#[x,y],argTypes:=#[t,t] })(hl:sel P t=some (e,sz,by'))
    (hz:(P.info? e).bind (·.zero)=some z) (hzs:z.cells.size=sz) (hvx:ARep w g (.msl id sz 0 n) (a.eval x)) (hblk:BRep w g id (.flat e sz es)) (hn:n=es.length) (hsrc:Src w g.X sz ds (a.eval y))
    (hlen:(es.length+ds.length)*by'<=140737488355328) (hlen':es.length+ds.length<=9223372036854775807):
    ∃v w',(execOp a.eval o).run P w=.ok (.value v) w'/\
      ((ds = [] /\ v = a.eval x /\ w' = w) \/
       (∃b cells cells' cap,g.phi id=some b/\w.heap[b]?=some (.cells cells e (0,0))/\g.psi id=cells.size/\cells'.size=cells.size/\v=.slice (some ⟨b,0,none⟩) (es.length+ds.length) cap/\es.length+ds.length<=cap/\cap*sz<=cells.size/\w'=w.setRow b cells'/\RowOf w g.X sz (es++ds) cells')\/
       (∃cells' cap,v=.slice (some ⟨w.heap.size,0,none⟩) (es.length+ds.length) cap/\es.length+ds.length<=cap/\cap*sz<=cells'.size/\w'=w.drew.alloc (.cells cells' e)/\RowOf w g.X sz (es++ds) cells')):=by
    obtain⟨inf,hun,hi,hsz,hby⟩:=vF hl;obtain⟨i',hi',hzero⟩:=xX hz;cases hi.symm.trans hi'
    have zero:ds=[]->(∃ad cap,a.eval y=.slice ad 0 cap)->∃v w',(execOp a.eval o).run P w=.ok (.value v) w'/\(ds=[]/\v=a.eval x/\w'=w):=by
      intro hds ⟨ad,cap,hey⟩;subst hds
      have hexv:∃b cap',a.eval x=.slice b n cap'/\n<=cap':=by
        generalize a.eval x=vx at *
        cases hvx with
        |msl0=>exact⟨_,_,rfl,Ks _⟩
        |msl _ _ _ _ cap b h1 h2 h3=>exact⟨_,_,rfl,h2⟩
      obtain⟨b,cap',hex,hle⟩:=hexv;have hr:=ql hl w o.type b ad n cap' cap hle;rw[<- hex,<- hey]at hr;exact⟨_,_,iL ho hr,rfl,rfl,rfl⟩
    rcases hsrc with⟨ad,cap,hey,hds⟩|⟨ad,cap,news,hey,n1,n2,n3,n4,n5,n6⟩
    obtain⟨v,w',h1,h2⟩:=zero hds ⟨ad,cap,hey⟩;exact⟨v,w',h1,.inl h2⟩;by_cases hm:ds.length=0;obtain⟨v,w',h1,h2⟩:=zero (gh hm) ⟨some ad,cap,by rw[hm]at hey;exact hey⟩;exact⟨v,w',h1,.inl h2⟩;clear zero
    have hes:∀(i:Nat)(d:D),(es++ds)[i]?=some d->(i<es.length/\es[i]?=some d)\/(es.length<=i/\ds[i-es.length]?=some d):=by
      intro i d h;rw[jP]at h;split at h;exact .inl ⟨‹_›,h⟩;exact .inr ⟨by omega,h⟩
    have holds:∃olds:List Value,olds.length=es.length*sz/\(∀(b:Nat)(cells:Array Value),g.phi id=some b->w.heap[b]?=some (.cells cells e (0,0))->∀(j:Nat)(u:Value),olds[j]?=some u->cells[j]?=some u)/\
        (∀(i:Nat)(d:D),es[i]?=some d->d.cells.length=sz)/\(∀(i:Nat)(d:D)(j:Nat)(c:D),es[i]?=some d->d.cells[j]?=some c->c.one=true)/\
        ∀(i:Nat)(d:D)(j:Nat)(c:D),es[i]?=some d->d.cells[j]?=some c->∃v,olds[i*sz+j]?=some v/\DRep w g.X c v:=by
      rcases hblk with⟨he,hn'⟩|⟨b,cells,hp,hw,hpsi,hl',h0,h1,hr⟩
      subst he;exact⟨[],by simp,λ_ _ _ _ j u hu=>by simp at hu,λi d h=>by simp at h,λi d j c h=>by simp at h,λi d j c h=>by simp at h⟩;obtain ⟨olds, o1, o2, _, o4⟩ := Gc (w := w) (X := g.X) (fun m => cells[m]?) h0 h1 hr;refine⟨olds,o1,λb' cells' hp' hw' j u hu=>?_,h0,h1,o4⟩;cases hp.symm.trans hp';rw[hw]at hw';cases hw';exact o2 j u hu
    obtain⟨olds,o1,o2,o3,o4,o5⟩:=holds
    have hsizes:∀(i:Nat)(d:D),(es++ds)[i]?=some d->d.cells.length=sz:=λi d h=>by
      rcases hes i d h with⟨_,h⟩|⟨_,h⟩
      exact o3 i d h;exact n4 _ d h
    have hones:∀(i:Nat)(d:D)(j:Nat)(c:D),(es++ds)[i]?=some d->d.cells[j]?=some c->c.one=true:=λi d j c h hc=>by
      rcases hes i d h with⟨_,h⟩|⟨_,h⟩
      exact o4 i d j c h hc;exact n5 _ d j c h hc
    have hlap:(es.length+ds.length)*sz=es.length*sz+ds.length*sz:=nA _ _ _
    have hcells:∀f:Nat->Option Value,(∀m,m<es.length*sz->f m=olds[m]?)->(∀m,m<ds.length*sz->f (es.length*sz+m)=news[m]?)->
        ∀(i:Nat)(d:D)(j:Nat)(c:D),(es++ds)[i]?=some d->d.cells[j]?=some c->∃v,f (i*sz+j)=some v/\DRep w g.X c v:=by
      intro f f1 f2 i d j c h hc;have hj:j<sz:=by rw[<- hsizes i d h];exact(zQQ.1 hc).1
      rcases hes i d h with⟨hlt,h⟩|⟨hge,h⟩
      obtain⟨v,hv,hd⟩:=o5 i d j c h hc;exact⟨v,by rw[f1 _ (by rw[<- o1];exact(zQQ.1 hv).1)];exact hv,hd⟩;obtain⟨v,hv,hd⟩:=n6 _ d j c h hc;refine⟨v,?_,hd⟩;have hsub:i*sz=es.length*sz+(i-es.length)*sz:=by rw[<- Nat.add_mul];congr 1;omega
      rw[hsub,xB,f2 _ (by rw[<- n1];exact(zQQ.1 hv).1)];exact hv
    have grown:∀(zs:Array Value)(cap':Nat),es.length+ds.length<=cap'->zs.size=(cap'-(es.length+ds.length))*sz->
        cap'*sz<=(olds.toArray++news.toArray++zs).size/\RowOf w g.X sz (es++ds) (olds.toArray++news.toArray++zs):=by
      intro zs cap' hcap hzz
      have htot:(olds.toArray++news.toArray++zs).size=cap'*sz:=by
        simp only[zg,tK,o1,n1,hzz,<- Nat.add_mul]
        congr 1
        omega
      refine⟨Nat.le_of_eq htot.symm,?_,hsizes,hones,λi d j c h hc=>?_⟩;rw[htot,kU];exact tJ _ hcap;exact hcells (λm=>(olds.toArray++news.toArray++zs)[m]?) (λm hm=>by rw[xv,if_pos (by omega)]) (λm hm=>by rw[xv,if_neg (by omega),if_pos (by omega)];congr 1;omega) i d j c h hc
    have hzsz:∀k,(Builtin.zeroCells z.cells k).size=k*sz:=λk=>by rw[size_zeroCells,hzs]
    generalize hex:a.eval x=vx at hvx
    cases hvx with
    |msl0 _ _ _ ad0=>
      have hes0:es=[]:=gh hn.symm;have holds0:olds=[]:=gh (by rw[o1,hes0];simp);have hgr:=grown (Builtin.zeroCells z.cells (grownCap w ds.length 0 e-ds.length)) (grownCap w ds.length 0 e) (by rw[hes0];simpa using grownCap_ge w ds.length 0 e) (by rw[hzsz,hes0];simp);have hcap:es.length+ds.length<=grownCap w ds.length 0 e:=by rw[hes0];simpa using grownCap_ge w ds.length 0 e
      rw[hes0,holds0]at hgr;rw[hes0]at hlen hlen' hcap;simp only[jO,fV]at hlen hlen' hcap;have he:(#[]:Array Value)++news.toArray++Builtin.zeroCells z.cells (grownCap w ds.length 0 e-ds.length)=news.toArray++Builtin.zeroCells z.cells (grownCap w ds.length 0 e-ds.length):=by simp
      rw[show([]:List Value).toArray=#[]from rfl,he]at hgr
      have fin:∃cells' cap,(Value.slice (some ⟨w.heap.size,0,none⟩) ds.length (grownCap w ds.length 0 e))=.slice (some ⟨w.heap.size,0,none⟩) (es.length+ds.length) cap/\es.length+ds.length<=cap/\cap*sz<=cells'.size/\w.drew.alloc (.cells (news.toArray++Builtin.zeroCells z.cells (grownCap w ds.length 0 e-ds.length)) e)=w.drew.alloc (.cells cells' e)/\RowOf w g.X sz (es++ds) cells':=
        ⟨_,_,by rw[hes0];simp,by rw[hes0];simpa using hcap,hgr.1,rfl,by rw[hes0];exact hgr.2⟩
      cases ad0 with
      |none=>
        have hr:=run_append_nil (P:=P) w t o.type e inf z hun hi hzero ad ds.length cap news (by rw[n1,hsz]) n2 (by omega) (by omega) (by rw[hby];omega);rw[<- hex,<- hey]at hr;exact⟨_,_,iL ho hr,.inr (.inr fin)⟩
      |some b0=>
        have hr := run_append_grow (P := P) w t o.type e inf z hun hi hzero b0 0 0 [] (by simp) (fun j v hv => by simp at hv) ad ds.length cap news (by rw [n1, hsz]) n2 (by omega) (by omega)
          (by rw[hby,fV,nextslicecap_zero (by omega)];omega)
        rw[<- hex,<- hey]at hr;simp only[fV]at hr;rw[show([]:List Value).toArray=#[]from rfl,he]at hr;exact⟨_,_,iL ho hr,.inr (.inr fin)⟩
    |msl _ _ _ _ cap0 b hbp hc hpsz=>
      rw[fV]at hpsz;rw[Nat.zero_mul]at hex;rcases hblk with⟨_,hn'⟩|⟨b',cells,hp',hw,hpsi,hl',h0,h1,hr0⟩
      rw[hbp]at hn';cases hn';cases hbp.symm.trans hp';have hold2:=o2 b cells hbp hw;by_cases hroom:n+ds.length<=cap0
      have hfit:n*inf.size+news.length<=cells.size:=by
        rw[n1,hsz,<- Nat.add_mul,<- hpsi];exact jL (tJ _ hroom) hpsz
      have hr:=run_append_room (P:=P) w t o.type e inf hun hi b n cap0 cells hw ad ds.length cap news (by rw[n1,hsz]) n2 n3 hroom hfit;rw[<- hex,<- hey]at hr;have hfit':n*sz+news.length<=cells.size:=by rw[hsz]at hfit;exact hfit
      have hget:∀m,m<n*sz+news.length->(cells.toList.take (n*inf.size)++news++cells.toList.drop (n*inf.size+news.length)).toArray[m]?=if m<n*sz then cells[m]? else news[m-n*sz]?:=by
        intro m hm;simp only[Dk,jP,kU,kO,rG,qG,Kr,hsz];have hmin:min (n*sz) cells.size=n*sz:=by omega
        rw[hmin,if_pos hm];by_cases m1:m<n*sz;simp[m1];simp[m1]
      refine⟨_,_,iL ho hr,.inr (.inl ⟨b,cells,(cells.toList.take (n*inf.size)++news++cells.toList.drop (n*inf.size+news.length)).toArray,cap0,hbp,hw,hpsi,?_,by rw[hn],by omega,by rw[<- hpsi];exact hpsz,rfl,?_,hsizes,hones,?_⟩)⟩;simp only[tK,kU,kO,xZ,rG,hsz];omega;simp only[tK,kU,kO,xZ,rG,hsz];rw[hlap];rw[hn,n1]at hfit';rw[hn,n1];omega
      exact hcells (λm=>(cells.toList.take (n*inf.size)++news++cells.toList.drop (n*inf.size+news.length)).toArray[m]?) (λm hm=>by
          show(cells.toList.take (n*inf.size)++news++cells.toList.drop (n*inf.size+news.length)).toArray[m]?=_;rw[hget m (by rw[hn];omega),if_pos (by rw[hn];exact hm)];have hlt:m<olds.length:=by rw[o1];exact hm
          rw[gN hlt]
          exact hold2 m _ (gN hlt)) (λm hm=>by
          show(cells.toList.take (n*inf.size)++news++cells.toList.drop (n*inf.size+news.length)).toArray[_]?=_
          rw[hget _ (by rw[hn,n1];omega),if_neg (by rw[hn];omega)];congr 1;rw[hn];omega)
      have hr := run_append_grow (P := P) w t o.type e inf z hun hi hzero ⟨b, 0, none⟩ n cap0 olds (by rw [o1, hsz, hn]) (fun j v hv => by
          rw[uJ,cell_of_row w b _ cells e (0,0) hw];simpa using hold2 j v hv) ad ds.length cap news (by rw[n1,hsz]) n2 (by omega) (by omega)
        (by rw[hby];exact growslice_fits (by omega) (by rw[hn];exact hlen))
      rw[<- hex,<- hey]at hr;refine⟨_,_,iL ho hr,.inr (.inr ⟨_,_,by rw[hn],by simpa[hn]using grownCap_ge w (es.length+ds.length) cap0 e,?_,rfl,?_⟩)⟩;rw[hn];exact(grown _ _ (by simpa using grownCap_ge w (es.length+ds.length) cap0 e) (by rw[hzsz])).1;rw[hn];exact(grown _ _ (by simpa using grownCap_ge w (es.length+ds.length) cap0 e) (by rw[hzsz])).2
theorem Sim.kill(h:Sim C st g a w)(i:Nat):Sim C ⟨st.fr,st.hp.set i .dead⟩ g a w:=by
  refine{ h with hp:=λj B hj=>?_,lt:=λj b hp=>?_,inj:=λj j' b Bj Bj' h1 h2 d1 d2 p1 p2=>?_,kle:=by simpa using h.kle };rw[hZ]at hj;split at hj;split at hj
  · cases hj;trivial
  cases hj;exact h.hp j B hj;have:=h.lt j b hp;simpa using this;simp only[hZ]at h1 h2;split at h1;split at h1<;>cases h1;exact absurd rfl d1;split at h2;split at h2<;>cases h2;exact absurd rfl d2;exact h.inj j j' b Bj Bj' h1 h2 d1 d2 p1 p2
theorem Sim.dup(h:Sim C st g a w){i N:Nat}{B:Blk}(hik:C.k<=i)(hi:st.hp[i]?=some B)(hd:B≠.dead)(hN:st.hp[N]?=some .hole)(hB:∀g':Gh,g'.phi N=g.phi i->g'.psi N=g.psi i->g'.X=g.X->BRep w g i B->BRep w g' N B)(hne:i≠N):
    ∃g',Sim C ⟨st.fr,(st.hp.set i .dead).set N B⟩ g' a w/\Grow w g w g'/\g'.phi N=g.phi i/\g'.psi N=g.psi i/\g'.X=g.X:=by
  have hno:g.phi N=none:=h.hp N _ hN;have hNl:N<st.hp.length:=(zQQ.1 hN).1
  let g':Gh:={ phi:=upd g.phi N (g.phi i),psi:=upd g.psi N (g.psi i),X:=g.X }
  have hphi:∀j b,g'.phi j=some b->(j=N/\g.phi i=some b)\/(j≠N/\g.phi j=some b):=by
    intro j b hp;by_cases hj:j=N;subst hj;exact .inl ⟨rfl,by simpa[g',upd]using hp⟩;exact .inr ⟨hj,by simpa[g',upd,hj]using hp⟩
  have hg:Grow w g w g':=by
    refine⟨λj b hp=>?_,λj b hp=>?_,λ_ h=>h,λ_ _=>rfl⟩;have hj : j ≠ N := fun e => by subst e; rw [hno] at hp; cases hp
    simpa[g',upd,hj]using hp;have hj : j ≠ N := fun e => by subst e; rw [hno] at hp; cases hp
    simp[g',upd,hj]
  refine⟨g',{ h with fr:=λt=>(h.fr t).mono hg,hp:=λj Bj hj=>?_,lt:=λj b hp=>?_,inj:=λj j' b Bj Bj' h1 h2 d1 d2 p1 p2=>?_,own:=λj b hp hb=>?_,stay:=λj b hj hm hp=>?_,kle:=by simpa using h.kle },hg,by simp[g',upd],by simp[g',upd],rfl⟩;rw[hZ]at hj;split at hj;rename_i e;subst e;split at hj;cases hj;exact hB g' (by simp[g',upd]) (by simp[g',upd]) rfl (h.hp i B hi);cases hj;rename_i hjN;rw[hZ]at hj;split at hj;split at hj
  · cases hj;trivial
  cases hj;refine (h.hp j Bj hj).mono hg (fun hn => ?_) (fun _ _ => rfl);simpa[g',upd,show j≠N from λe=>hjN e.symm]using hn;simp only[zal79q];rcases hphi j b hp with⟨rfl,hp'⟩|⟨_,hp'⟩
  have:=h.lt i b hp';exact⟨this.1,hNl,this.2.2⟩;exact h.lt j b hp'
  have key:∀(j:Nat)(Bj:Blk),((st.hp.set i .dead).set N B)[j]?=some Bj->Bj≠.dead->j≠N->st.hp[j]?=some Bj/\j≠i:=by
    intro j Bj hj hdj hjN;rw[hZ,if_neg (λe=>hjN e.symm),hZ]at hj;split at hj;split at hj<;>cases hj;exact absurd rfl hdj;exact⟨hj,λe=>‹¬i=j› e.symm⟩
  rcases hphi j b p1 with⟨rfl,q1⟩|⟨n1,q1⟩<;>rcases hphi j' b p2 with⟨rfl,q2⟩|⟨n2,q2⟩
  rfl;obtain⟨k1,k2⟩:=key j' Bj' h2 d2 n2;exact absurd (h.inj j' i b Bj' B k1 hi d2 hd q2 q1) k2;obtain⟨k1,k2⟩:=key j Bj h1 d1 n1;exact absurd (h.inj j i b Bj B k1 hi d1 hd q1 q2) k2;exact h.inj j j' b Bj Bj' (key j Bj h1 d1 n1).1 (key j' Bj' h2 d2 n2).1 d1 d2 q1 q2;rcases hphi j b hp with⟨rfl,hp'⟩|⟨_,hp'⟩
  · have:=(h.own i b hp' hb).1;omega
  exact h.own j b hp' hb;have hst:=h.stay j b hj hm hp;have hjN:j≠N:=λe=>by subst e;rw[hno]at hst;cases hst.2
  simpa[g',upd,hjN]using hst
theorem SrcA.le{hp hp':List Blk}(hle:HpLe hp hp'){sz:Nat}{ds:List D}{u:AV}(h:SrcA hp sz ds u):SrcA hp' sz ds u:=by
  cases u with
  |d x=>cases x<;>exact h
  |msl id s off len=>obtain⟨h0,ty,es,h1,h2⟩:=h;exact⟨h0,ty,es,hle _ _ h1 (λe=>by cases e),h2⟩
  |_=>exact h.elim
theorem zj{α:Type}{f:α->D}{T:Tab}{o:Oper}{ev:Operand->AV}{hp:List Blk}{t e sz by' n i N:Nat}{x y:Operand}{u:AV}{z:Value}{xs:List α}(ys:List α)(hik:Nat.ble C.k i=true)(hN:hp[N]?=some .hole)(ho:o.op=.call { callee:=.builtin .append,args:=#[x,y],argTypes:=#[t,t] })
    (hT:TabOk C.P T) (hl:lk T.sel t=some (e,sz,by')) (hz:(C.P.info? e).bind (·.zero)=some z) (hzs:Nat.beq z.cells.size sz=true) (hby:Nat.ble by' 100000=true) (hx:ev x=.msl i sz 0 n) (hb:hp[i]?=some (.flat e sz (xs.map f))) (hn:n=xs.length)
    (hy:ev y=u) (hu:SrcA hp sz (ys.map f) u) (hg:(xs++ys).length<=1000000000):DOk C o ev hp (.msl N sz 0 (xs++ys).length) [(i,.dead),(N,.flat e sz ((xs++ys).map f))]:=
  DOk.mk λst hhp hag g a w hs=>by
    have hb':=hhp i _ hb (λe=>by cases e);have hN':=Gq hN hhp;have hne:i≠N:=λe=>by rw[e,hN']at hb';cases hb'
    have hvx:=hs.ev x;rw[hag x (by simp[ho,Op.operands,Call.operands]),hx]at hvx;have hvy:=hs.ev y;rw[hag y (by simp[ho,Op.operands,Call.operands]),hy]at hvy;have hsrc:=src_ok hs hvy (hu.le hhp);have h1:=jY hby;have h3:(xs++ys).length*by'<=1000000000*100000:=Bs hg h1
    rw[kU]at h3 hg;obtain⟨v,w',hr,hc⟩:=V9 (P:=C.P) i sz by' n (xs.map f) (ys.map f) z ho (hT.sel hl) hz (fC hzs) hvx (hs.hp i _ hb') (by simpa using hn) hsrc (by simp;omega) (by simp;omega)
    have hwr:wr [(i,.dead),(N,.flat e sz ((xs++ys).map f))] st.hp=(st.hp.set i .dead).set N (.flat e sz ((xs++ys).map f)):=rfl;rw[hwr,mU]
    have dupB:∀(es:List D)(g':Gh),g'.phi N=g.phi i->g'.psi N=g.psi i->g'.X=g.X->BRep w g i (.flat e sz es)->BRep w g' N (.flat e sz es):=by
      intro es g' e1 e2 e3 hB;unfold BRep at hB⊢;simp only[e1,e2,e3];exact hB
    rcases hc with⟨hds,rfl,rfl⟩|⟨b,cells,cells',cap,hp0,hw,hpsi,hcs,rfl,hcap,hcapsz,rfl,row⟩|⟨cells',cap,rfl,hcap,hcapsz,rfl,row⟩
    obtain ⟨g', h2, h4, e1, e2, e3⟩ := hs.dup (jY hik) hb' (fun e => by cases e) hN' (dupB _) hne;refine⟨_,_,g',hr,by rw[hds,lL];exact h2,?_⟩;have hys:ys.length=0:=by have:=congrArg List.length hds;simpa using this
    rw[kU,hys,vD,<- hn];generalize a.eval x=vx at hvx
    cases hvx with
    |msl0=>exact .msl0 _ _ _ _
    |msl _ _ _ _ cap b q1 q2 q3=>exact .msl _ _ _ _ cap b (by rw[e1];exact q1) q2 (by rw[e2];exact q3)
    obtain ⟨g', h2, h4, e1, e2, e3⟩ := hs.dup (jY hik) hb' (fun e => by cases e) hN' (dupB _) hne;have hX:∀b',g.X b'->b'≠b:=λb' hX e=>(hs.lt i b hp0).2.2 (e ▸ hX);have hNl:N<st.hp.length:=(zQQ.1 hN').1
    have hch := h2.change (i := N) (b := b) (B0 := .flat e sz (xs.map f)) (by simp [hNl]) (fun e => by cases e) (by rw [e1]; exact hp0) (w' := w.setRow b cells') (bg _ _ _) rfl rfl rfl (Ks _) (fun b' hb' => setRow_other w b b' _ hb')
      (B:=.flat e sz (xs.map f++ys.map f)) (.inr ⟨b,cells',by rw[e1];exact hp0,setRow_heap w b cells _ e (0,0) hw,by rw[e2,hpsi,hcs],row.le,row.h0,row.h1,λk d j c hk hc=>?_⟩)
    refine ⟨_, _, g', hr, by simpa [List.set_set] using hch, ?_⟩;have:=ARep.msl (w:=w.setRow b cells') (g:=g') N sz 0 ((xs.map f).length+(ys.map f).length) cap b (by rw[e1];exact hp0) hcap (by rw[e2,hpsi,fV];exact hcapsz);simpa using this;obtain⟨v,hv,hd⟩:=row.rep k d j c hk hc;exact⟨v,hv,hd.mono (by rw[e3];exact λ_ h=>h) λb' hb'=>setRow_other w b b' _ (hX b' (e3 ▸ hb'))⟩;have hk:=(hs.kill i).drew;have hN2:(st.hp.set i .dead)[N]?=some .hole:=by rw[hZ,if_neg hne];exact hN'
    have hno:g.phi N=none:=hs.hp N _ hN';have hf:=hk.fill (i:=N) (o:=.cells cells' e) (n:=cells'.size) (B:=.flat e sz (xs.map f++ys.map f)) hN2 (.inr ⟨w.heap.size,cells',by simp[Gh.new,upd],heap_alloc_new w.drew _,by simp[Gh.new,upd],row.le,row.h0,row.h1,λk d j c hk hc=>?_⟩);refine⟨_,_,_,hr,hf,?_⟩;have:=ARep.msl (w:=w.drew.alloc (.cells cells' e)) (g:=g.new N w.heap.size cells'.size) N sz 0 ((xs.map f).length+(ys.map f).length) cap w.heap.size (by simp[Gh.new,upd]) hcap (by simp only[Gh.new,upd,if_true,fV];exact hcapsz);simpa using this;obtain⟨v,hv,hd⟩:=row.rep k d j c hk hc;exact⟨v,hv,hd.mono (λ_ h=>h) λb' hb'=>iB w.drew _ b' (hs.Xlt b' hb')⟩
section ends
theorem EndsS.cellR{P:Program}{st:St}{a t id off s:Nat}{ty:TypeId}{cs:List AV}{T:Tab}(x:AV){d:D}(hT:TabOk P T)(hl:lk T.lay t=some (true,s))(ha:st.fr.get a=.mptr id 0 0 off)(hb:st.hp[id]?=some (.box ty cs))(hc:Nat.ble (off+s) cs.length=true)(hv:bv ((cs.drop off).take s)=x)(hs:Snap st.hp x d):EndsS P [.cell a t] d st:=
  EndsS.cell x (hT.lay hl) ha hb hc hv hs
end ends
theorem Oi{G:FuncId}(hc:cd P G=true)(args:Array Value)(w:World):(callFunc G args).run P w=.ok (.enter G args) w:=by
  unfold cd at hc
  cases hfn:P.funcs[G]? with
  |none=>simp[hfn]at hc
  |some fn=>
    simp only[hfn,wP,lW]at hc;have hb:fn.body.isNone=false:=by cases h:fn.body<;>simp_all
    unfold callFunc;simp only[Sem.run_bind,run_program,Result.andThen_ok,hfn];rw[if_neg (by rw[hc.1];exact gB),if_neg (by rw[hb];exact gB)];rfl
def Dg{α:Type}(m:α->α->Option Int)(x y:α):Bool:=decide ((m x y).getD 0<0)
structure SortOk {α:Type} (m:α->α->Option Int):Prop where
  tot:∀x y,∃r,m x y=some r
  irrefl:∀x,Dg m x x=false
  trans:∀x y z,Dg m x y=true->Dg m y z=true->Dg m x z=true
  ntrans:∀x y z,Dg m x y=false->Dg m y z=false->Dg m x z=false
  anti:∀x y,Dg m x y=false->Dg m y x=false->x=y
def X4{α:Type}(m:α->α->Option Int)(x:α):List α->List α
  |[]=>[x]
  |y::r=>bif Dg m y x then y::X4 m x r else x::y::r
def be{α:Type}(m:α->α->Option Int):List α->List α
  |[]=>[]
  |x::r=>X4 m x (be m r)
section sort
variable {α:Type}{m:α->α->Option Int}
theorem Ek(x:α):∀l,(X4 m x l).Perm (x::l)
  |[]=>.refl _
  |y::r=>by
    unfold X4;cases Dg m y x;exact .refl _;exact((Ek x r).cons y).trans (.swap x y r)
theorem gt:∀l:List α,(be m l).Perm l
  |[]=>.refl _
  |x::r=>(Ek x (be m r)).trans ((gt r).cons x)
theorem Fc(h : SortOk m)(x : α) : ∀ l, l.Pairwise (fun a b => Dg m b a = false) -> (X4 m x l).Pairwise (fun a b => Dg m b a = false)
  |[],_=>by simp[X4]
  |y::r,hp=>by
    rw[zal111q]at hp;unfold X4;cases hyx:Dg m y x;simp only[cond_false,zal111q];refine⟨λb hb=>?_,hp.1,hp.2⟩;rcases zQB.1 hb with rfl|hb
    exact hyx;exact h.ntrans b y x (hp.1 b hb) hyx;simp only[cond_true,zal111q];refine⟨λb hb=>?_,Fc h x r hp.2⟩;rcases zQB.1 ((Ek x r).mem_iff.1 hb)with rfl|hb
    cases hxy:Dg m b y
    · rfl
    have h3:=h.trans _ _ _ hxy hyx;rw[h.irrefl]at h3;cases h3;exact hp.1 b hb
theorem gr(h : SortOk m) : ∀ l, (be m l).Pairwise (fun a b => Dg m b a = false)
  |[]=>.nil
  |x::r=>Fc h x _ (gr h r)
theorem gu(l:List α):(be m l).length=l.length:=(gt l).length_eq
theorem O5(h:SortOk m)(l:List α):l.mergeSort (λx y=>!Dg m y x)=be m l:=by
  refine List.Perm.eq_of_pairwise (le:=λx y=>Dg m y x=false) (λa b _ _ h1 h2=>h.anti a b h2 h1) ?_ (gr h l) ((List.mergeSort_perm _ _).trans (gt l).symm);have:=List.pairwise_mergeSort (le:=λx y=>!Dg m y x) (λa b c h1 h2=>?_) (λa b=>?_) l;simpa using this;simp only[lW]at h1 h2⊢;exact h.ntrans c b a h2 h1;cases h1:Dg m b a
  · rfl
  cases h2:Dg m a b
  · rfl
  have h3:=h.trans _ _ _ h1 h2;rw[h.irrefl]at h3;cases h3
end sort
theorem set_same{α:Type}{l:List α}{i:Nat}{x:α}(h:l[i]?=some x):l.set i x=l:=by
  apply tH;intro j;by_cases e:i=j;subst e;rw[Dl (zQQ.1 h).1,h];rw[wF e]
theorem s_eqB{C:Ctx}{fr:Fr}{hp:List Blk}{ops:Array Oper}{l:List Oper}{K:St->Prop}(i:Nat){t:TypeId}{cs:List AV}(cs':List AV)(hb:hp[i]?=some (.box t cs))(he:cs=cs')(h:eA C ops l ⟨fr,hp.set i (.box t cs')⟩ K):eA C ops l ⟨fr,hp⟩ K:=by
  subst he;rwa [set_same hb]at h
theorem c_frzC{C:Ctx}{c:Code}{Q:Exit->St->Prop}{fr fr':Fr}{hp hp1:List Blk}(q j i:Nat)(ks:List Nat)(hk:Nat.ble C.k i=true)(hks:((List.range C.k).all (eD hp))=true)(hal:eD hp i=true){sz n ty tq:Nat}{es:List D}{cs cs1:List AV}(hq:hp[q]?=some (.box tq cs))(hc:cs[j]?=some (.msl i sz 0 n))(hb:hp[i]?=some (.flat ty sz es))(hn:n=es.length)
    (hf:Fr.mapRef (Gs i (.flat ty sz es) (eD hp)) (Fr.keep ks fr)=fr') (hh:((hp.set q (.box tq (cs.set j .junk))).map (Blk.mapRef (Gs i (.flat ty sz es) (eD hp)))).set i .dead=hp1) (h1:hp1[q]?=some (.box tq cs1))
    (h:TWp C c ⟨fr',hp1.set q (.box tq (cs1.set j (.d (.sl sz es))))⟩ Q):TWp C c ⟨fr,hp⟩ Q:=by
  have hB:hp.getD i .dead=.flat ty sz es:=by rw[qv,hb];rfl
  have hqi:i≠q:=λe=>by subst e;rw[hb]at hq;cases hq
  intro g a w hs;obtain⟨g',hs'⟩:=hs.freeze i (jY hk) hal (λj hj=>zQT.1 hks j (zal101q.2 hj));subst hf hh;refine h g' a w ?_;simp only[St.freeze,hB]at hs';have hql:q<hp.length:=(zQQ.1 hq).1;have hjl:j<cs.length:=(zQQ.1 hc).1;rw[wF hqi,gm,Dl hql]at h1;simp only[kP,Blk.mapRef,AV.mapRefs_eq,lV,Blk.box.injEq,true_and]at h1
  have e:(hp.map (Blk.mapRef (Gs i (.flat ty sz es) (eD hp)))).set i .dead=(((hp.set q (.box tq (cs.set j .junk))).map (Blk.mapRef (Gs i (.flat ty sz es) (eD hp)))).set i .dead).set q (.box tq (cs1.set j (.d (.sl sz es)))):=by
    apply tH;intro b;by_cases hbq:q=b;subst hbq;rw[wF hqi,Dl (by simpa using hql),gm,hq];simp only[kP,Blk.mapRef,AV.mapRefs_eq,lV,Blk.box.injEq,true_and];rw[<- h1];apply tH;intro u;by_cases huj:j=u;subst huj;rw[Dl (by simpa using hjl),gm,hc];simp only[kP,AV.mapRef,Gs,if_true];rw[if_pos ⟨trivial,by omega⟩];subst hn;simp;rw[wF huj,gm,gm,wF huj];rw[wF hbq];by_cases hbi:i=b;subst hbi;rw[Dl (by simpa using(zQQ.1 hb).1),Dl (by simpa using(zQQ.1 hb).1)];rw[wF hbi,wF hbi,gm,gm,wF hbq]
  rw[e]at hs';refine hs'.forget λt=>?_;rw[Fr.get_mapRef,Fr.get_mapRef];rcases Fr.get_keep fr ks t with e|e
  rw[e];exact .inl rfl;rw[e];exact .inr rfl
theorem Sim.handedM(hs:Sim C st g a w){ids:List Nat}(hnd:ids.Nodup)(mv:Nat->Bool):Out ⟨C.P,0,w,(uC ids st.hp).length,g.canon ids,mv⟩ (uC ids st.hp) (g.canon ids) w:=by
  have h:=hs.handed hnd;exact{ h with keep:=h.keep,own:=h.own,stay:=λi b hi _ hp=>h.stay i b hi rfl hp,kle:=h.kle }
def fw:AV->Option (FuncId×List AV)
  |.d (.fn F)=>some (F,[])
  |.d (.clo F cs)=>some (F,cs.map .d)
  |.fnc F cs=>some (F,cs)
  |_=>none
theorem C7{x:AV}{F:FuncId}{cs:List AV}{v:Value}(h:ARep w g x v)(hc:fw x=some (F,cs)):∃vs:Array Value,v=.func (.func F) #[] vs/\Pw (ARep w g) cs vs.toList:=by
  cases h with
  |d d v hd=>
    cases hd with
    |fn f=>cases hc;exact⟨#[],rfl,rfl,λi c v h=>by simp at h⟩
    |clo f ds vs hl h=>
      cases hc;refine⟨vs,rfl,by simpa using hl,λi c v hci hvi=>?_⟩;simp only[gm,zQO]at hci;obtain⟨d,hd,rfl⟩:=hci;exact .d _ _ (h i d v hd (by simpa using hvi))
    |_=>cases hc
  |fnc f cs vs hl h=>cases hc;exact⟨vs,rfl,by simpa using hl,λi c v hci hvi=>h i c v hci (by simpa using hvi)⟩
  |_=>cases hc
theorem ok_callM{o:Oper}{K:St->Prop}{f:Operand}{xs:Array Operand}{ts:Array TypeId}{F:FuncId}{c:AV}{cs:List AV}(ids:List Nat)(mv:Nat->Bool)(args:List AV)(r:AV)(hp':List Blk)(ho:o.op=.call { callee:=.value f,args:=xs,argTypes:=ts })(hd:ca C.n o.dst=true)
    (hf:st.fr.ev f=c) (hc:fw c=some (F,cs)) (hnd:ids.Nodup) (hal:(ids.all λj=>eD st.hp j)=true) (hmv:((List.range C.k).all λj=>!kv ids mv j||C.mv j)=true) (hx:((xs.toList.map st.fr.ev)++cs).map (AV.mapRef (toName (cE ids)))=args) (hret:Ret C.P F (uC ids st.hp) mv args r hp')
    (hK:K (St.put ⟨Fr.mapRef (lP (kv ids mv)) st.fr,uB ids (st.hp.map (Blk.mapRef (lP (kv ids mv)))) hp'⟩ o.dst (r.mapRef (fwd ids st.hp.length)))):OpOk C o st K:=by
  intro g a w Q hs;have hfv:=hs.ev f;rw[hf]at hfv;obtain⟨vs,hv,hvs⟩:=C7 hfv hc
  have hf':∀i j,cE ids i=some j->(g.canon ids).phi j=g.phi i/\(g.canon ids).psi j=g.psi i:=by
    intro i j hij;have:=fD ids i j hij;simp[Gh.canon,this]
  have hargs:Pw (ARep w (g.canon ids)) args (xs.map a.eval++vs).toList:=by
    rw[<- hx,He,mU];refine Pw.append ⟨by simp,λi x v hxi hvi=>?_⟩ ⟨by simpa using hvs.1,λi x v hxi hvi=>?_⟩;simp only[List.map_map,gm,zQO]at hxi;simp only[yC,gm,zQO]at hvi;obtain⟨y,hy,rfl⟩:=hxi;obtain⟨z,hz,rfl⟩:=hvi;rw[hy]at hz;cases hz;exact ARep.mapRef (w:=w) (g:=g) (g':=g.canon ids) (λd v hd=>hd) (ARep.toName hf' λ_ hb=>hb) (hs.ev y);simp only[gm,zQO]at hxi;obtain⟨d,hd',rfl⟩:=hxi;exact ARep.mapRef (w:=w) (g:=g) (g':=g.canon ids) (λd v hd=>hd) (ARep.toName hf' λ_ hb=>hb) (hvs.2 i d v hd' hvi)
  have hal':∀j∈ids,eD st.hp j=true:=λj hj=>zQT.1 hal j hj;have hlt:∀j∈ids,j<st.hp.length:=λj hj=>by obtain⟨B,hB,_⟩:=lT (hal' j hj);exact(zQQ.1 hB).1
  have hmv':∀j,j<C.k->kv ids mv j=true->C.mv j=true:=λj hj hm=>by
    have:=zQT.1 hmv j (zal101q.2 hj);simpa[hm]using this
  simp only[Oper.wp,lH ho hv hret.1,Oper.upon_enter];refine(hret.2 w (g.canon ids) _ (hs.handedM hnd mv) hargs).mono ?_;rintro e w' ⟨v,g',rfl,hout,hr⟩;refine⟨_,_,hK,(hs.backM mv hnd hal' hmv' hout).put' hd ?_⟩;refine ARep.mapRef (w:=w') (g:=g') (λd v hd=>hd.mono (λb hb=>?_) λ_ _=>rfl) (λx v hx hr=>hx.fwd hnd hlt hr) hr;by_cases hlt':b<w.heap.size;exact .inl (hout.Xold b hb hlt');exact .inr ⟨by omega,hb⟩
section
variable {ops:Array Oper}{l:List Oper}{K:St->Prop}{fr:Fr}{hp:List Blk}{d:Nat}{ty:TypeId}{pos:String}{after:Array Edge}
theorem dF{f : Operand}{xs : Array Operand}{ts : Array TypeId}{F : FuncId}{c : AV}{cs : List AV}(ids : List Nat)(mv : Nat -> Bool){args : List AV}{r r' : AV}{fr2 : Fr}{hh hp' hp2 : List Blk}(hd : decide (d < C.n) = true)(hf : fr.ev f = c)(hc : fw c = some (F, cs))(hnd : ids.Nodup)(hal : (ids.all fun j => eD hp j) = true)
    (hmv:((List.range C.k).all λj=>!kv ids mv j||C.mv j)=true) (hx:((xs.toList.map fr.ev)++cs).map (AV.mapRef (toName (cE ids)))=args) (hhd:uC ids hp=hh) (hret:Ret C.P F hh mv args r hp') (hr:r.mapRef (fwd ids hp.length)=r') (hfr:Fr.mapRef (lP (kv ids mv)) fr=fr2) (hb:uB ids (hp.map (Blk.mapRef (lP (kv ids mv)))) hp'=hp2)
    (h:eA C ops l ⟨(d,r')::fr2,hp2⟩ K):eA C ops (⟨some d,.call { callee:=.value f,args:=xs,argTypes:=ts },ty,pos,after,none⟩::l) ⟨fr,hp⟩ K:=by
  subst hr hb hhd hfr;exact lD rfl (ok_callM ids mv args r hp' rfl hd hf hc hnd hal hmv hx hret h)
end
end Go.TL
namespace Go.TL
open Go.Sort Go.Proofs
variable {C:Ctx}{st:St}{g:Gh}{a:Act}{w:World}{P:Program}
def D.val:D->Value
  |.bool b=>.bool b
  |.int k n=>.int k n
  |.str s=>.string s
  |_=>undef
def D.scal:D->Bool
  |.bool _|.int _ _|.str _=>true
  |_=>false
theorem scal_val{X:Nat->Prop}{c:D}{v:Value}(hc:c.scal=true)(h:DRep w X c v):v=c.val:=by
  cases h<;>first|rfl|cases hc
theorem Qa{X:Nat->Prop}{c:D}(hc:c.scal=true):DRep w X c c.val:=by
  cases c<;>first|cases hc|skip
  exact .bool _;exact .int _ _;exact .str _
theorem Qb{c:D}(hc:c.scal=true):c.one=true/\c.val.oneCell'=true:=by
  cases c<;>first|exact⟨rfl,rfl⟩|cases hc
theorem Sim.grow(h:Sim C st g a w)(n:Nat)(os:Array Obj):Sim C st g a (Sort.grow (Sort.ahead w n) os):=by
  have hheap:∀b,b<w.heap.size->(Sort.grow (Sort.ahead w n) os).heap[b]?=w.heap[b]?:=λb hb=>by
    show(w.heap++os)[b]?=_;rw[Hb,if_pos hb]
  have hsz:w.heap.size<=(Sort.grow (Sort.ahead w n) os).heap.size:=by show _<=(w.heap++os).size;simp
  have hg:Grow w g (Sort.grow (Sort.ahead w n) os) g:=⟨λ_ _ h=>h,λ_ _ _=>rfl,λ_ h=>h,λb hb=>hheap b (h.Xlt b hb)⟩
  exact { h with fr := fun t => (h.fr t).mono hg, hp := fun i B hi => (h.hp i B hi).mono hg id fun b hb => hheap b (h.lt i b hb).1,
                 lt:=λi b hb=>⟨F5 (h.lt i b hb).1 hsz,(h.lt i b hb).2⟩,Xlt:=λb hb=>F5 (h.Xlt b hb) hsz,
                 drawn:=jL h.drawn (Nat.le_add_right _ _),grown:=jL h.grown hsz,
                 keep:=λb hb hk=>by rw[hheap b (F5 hb h.grown)];exact h.keep b hb hk }
theorem Out.grown'{hp':List Blk}{mv:Nat->Bool}{g g':Gh}{w':World}(h:Out ⟨P,0,w,0,g,mv⟩ hp' g' w'):∃q os,w'=Sort.grow (w.drewN q) os:=by
  have hold:∀b,b<w.heap.size->w'.heap[b]?=w.heap[b]?:=λb hb=>h.keep b hb λi hi=>absurd hi (mQ i);have hsz:w.heap.size<=w'.heap.size:=h.grown;have hd:w.drawn<=w'.drawn:=h.drawn;have e1:w'.os=w.os:=h.os;have e2:w'.tape=w.tape:=h.tape;have e3:w'.output=w.output:=h.output;refine⟨w'.drawn-w.drawn,w'.heap.extract w.heap.size w'.heap.size,?_⟩
  have hh:w'.heap=w.heap++w'.heap.extract w.heap.size w'.heap.size:=by
    apply Array.ext_getElem?;intro i;rw[Hb];split;rename_i hi;exact hold i hi;rename_i hi;rw[Array.getElem?_extract];split;rw[Nat.add_sub_cancel' (Nat.le_of_not_lt hi)];rename_i hn;rw[Array.getElem?_eq_none_iff];omega
  cases w;cases w';simp only at e1 e2 e3 hh hd;subst e1 e2 e3;simp only[Sort.grow,World.drewN];rw[<- hh]
  congr 1
  omega
theorem Cs{α:Type}[Inhabited α](enc:α->List Value)(k:Nat)(w:World)(blk off n:Nat)(d:Array α)(os:Array Obj)(b:Nat)(hb:b≠blk)(hlt:b<w.heap.size):(sortWorldK enc k w blk off n d os).heap[b]?=w.heap[b]?:=by
  show(((Sort.ahead w n).heap.modify blk _)++os)[b]?=_;rw[Hb,if_pos (by simpa[Sort.ahead]using hlt),Y0,if_neg (λe=>hb e.symm)];rfl
theorem yj{α:Type}[Inhabited α](enc:α->Value)(off:Nat)(d:Array α)(c:Array Value):(putCells enc off d c).size=c.size:=by simp[putCells]
theorem Nz{α:Type}[Inhabited α](enc:α->Value)(off:Nat)(d:Array α)(c:Array Value)(k:Nat)(hk:k<c.size):(putCells enc off d c)[k]?=some (if off<=k/\k<off+d.size then enc d[k-off]! else c[k]):=by
  simp[putCells,hk]
theorem x7{d:D}(h:(d.cells.all D.scal)=true){j:Nat}{c:D}(hc:d.cells[j]?=some c):c.scal=true:=zQT.1 h c (lG hc)
theorem qAM{w:World}{X:Nat->Prop}{d:D}(h1:d.one=false)(hs:(d.cells.all D.scal)=true):DRep w X d (.agg (d.cells.map D.val).toArray):=by
  cases d<;>first|cases h1|skip
  rename_i cs;refine .agg cs _ (by simp[D.cells]) (λc hc=>(Qb (zQT.1 hs c hc)).1) λi c v hc hv=>?_;have hv':(cs.map D.val)[i]?=some v:=by simpa[D.cells]using hv
  rw[gm,hc]at hv';cases hv';exact Qa (x7 (d:=.agg cs) hs hc)
theorem Pw.two{α β:Type}{R:α->β->Prop}{a b:α}{x y:β}(h0:R a x)(h1:R b y):Pw R [a,b] [x,y]:=⟨rfl,λi u v hu hv=>by
  match i,hu,hv with
  |0,hu,hv=>simp at hu hv;subst hu hv;exact h0
  |1,hu,hv=>simp at hu hv;subst hu hv;exact h1
  |i+2,hu,hv=>simp at hu⟩
theorem Yf{α:Type}[Inhabited α]{f:α->D}{G:FuncId}{sz:Nat}{cs:List D}{cf:α->α->Int}(hag:∀x,(f x).one=false)(hsc:∀x,((f x).cells.all D.scal)=true)
    (hclo:∀x y,RetD P G ([f x,f y]++cs) (.int .i64 (cf x y))) {w:World} {X:Nat->Prop} {cb:Array Value} (hcb:Pw (DRep w X) cs cb.toList) {b size:Nat} (hX:∀b',X b'->b'≠b/\b'<w.heap.size) (hL:Laid w (iS X)) (hLb:∀x∈Zv,x.1≠b):
    CmpLays P G cb (λx=>(f x).cells.map D.val) sz cf b 0 size w:=by
  intro m os dk _ x y;obtain⟨mv,r,hp',hret,hsn⟩:=hclo x y;generalize hW:sortWorldK (λx=>(f x).cells.map D.val) sz w b 0 m dk os=W;have hold:∀b',X b'->W.heap[b']?=w.heap[b']?:=λb' hb'=>by rw[<- hW];exact Cs _ _ _ _ _ _ _ _ _ (hX b' hb').1 (hX b' hb').2
  have hWs:w.heap.size<=W.heap.size:=by
    rw[<- hW];show _<=(((Sort.ahead w m).heap.modify b _)++os).size;simp[Sort.ahead]
  have hLW:Laid W (iS X):=λx hx=>by
    obtain⟨⟨t,fz,e⟩,_⟩:=hL x hx;exact⟨⟨t,fz,by rw[<- hW,Cs _ _ _ _ _ _ _ _ _ (hLb x hx) (zal5q.1 e).1];exact e⟩,λi h=>by simp[iS]at h⟩
  have hout:Out ⟨P,0,W,0,iS X,mv⟩ [] (iS X) W:=
    { defers := rfl, size := rfl, fr := fun _ => .junk _, hp := fun i B h => by simp at h, lt := fun i b h => by simp [iS] at h, inj := fun i j b _ _ _ _ _ _ h => by simp [iS] at h, Xlt := fun b' hb' => F5 (hX b' hb').2 hWs, Xold := fun b h _ => h
      os:=rfl,tape:=rfl,output:=rfl,drawn:=Ks _,grown:=Ks _,keep:=λ_ _ _=>rfl,own:=λi b h=>by simp[iS]at h,stay:=λi b h=>absurd h (mQ i),kle:=gS _,laid:=hLW }
  have hargs:Pw (ARep W (iS X)) (([f x,f y]++cs).map AV.d) (#[Value.agg ((f x).cells.map D.val).toArray,.agg ((f y).cells.map D.val).toArray]++cb).toList:=by
    rw[mU,He];refine Pw.append (Pw.two (.d _ _ (qAM (hag x) (hsc x))) (.d _ _ (qAM (hag y) (hsc y)))) ⟨by simpa using hcb.1,λi u v hu hv=>?_⟩;simp only[gm,zQO]at hu;obtain⟨d,hd,rfl⟩:=hu;exact .d _ _ ((hcb.2 i d v hd hv).mono (λ_ h=>h) hold)
  have hc:=hret.2 W (iS X) _ hout hargs;refine hc.mono ?_;rintro e w' ⟨v,g',rfl,hout',hr⟩;obtain⟨q,os',hw'⟩:=Out.grown' hout';refine⟨?_,q,os',hw'⟩
  have:v=.int .i64 (cf x y):=by
    cases hsn with
    |d _=>cases hr with|d _ _ h=>cases h;rfl
  rw[this]
theorem qAX{α:Type}[Inhabited α]{f:α->D}{F G:FuncId}{sz:Nat}(e:TypeId){c:D}{cs:List D}{cf:α->α->Int}{S:Array α->List α}(mv:Nat->Bool)(xs:List α)
    (hcbF:cd P F=true) (hag:∀x,(f x).one=false) (hsz:∀x,(f x).cells.length=sz) (hsc:∀x,((f x).cells.all D.scal)=true)
    (hfn:Vy c=some (G,cs)) (hclo:∀x y,RetD P G ([f x,f y]++cs) (.int .i64 (cf x y)))
    (hlen:xs.length<4611686018427387904) (hS:(S xs.toArray).length=xs.length)
    (hnone:∀(p:Option Addr)(cap:Nat)(fv:Value)(w:World),Calls P F #[.slice p 0 cap,fv] w λe w'=>e=.returned (.tuple #[])/\w'=w)
    (hsort : ∀ (blk off cap : Nat) (cb : Array Value) (d : Array α) (w : World), CmpLays P G cb (fun x => (f x).cells.map D.val) sz cf blk off d.size w -> HoldsK (fun x => (f x).cells.map D.val) sz w blk off d -> blk < w.heap.size -> d.size < 4611686018427387904 ->
      Calls P F #[.slice (some ⟨blk,off,none⟩) d.size cap,.func (.func G) #[] cb] w λe w'=>e=.returned (.tuple #[])/\∃n os,w'=sortWorldK (λx=>(f x).cells.map D.val) sz w blk off n (S d).toArray os):
    Ret P F [.flat e sz (xs.map f)] mv [.msl 0 sz 0 xs.length,.d c] (.tup []) [.flat e sz ((S xs.toArray).map f)]:=by
  refine⟨hcbF,λw g vs hout hargs=>?_⟩
  obtain⟨v0,v1,rfl⟩:∃v0 v1,vs=#[v0,v1]:=by
    have hl:vs.size=2:=by have:=hargs.1;simpa using this.symm
    exact⟨vs[0],vs[1],by apply Array.ext;simp[hl];intro i h1 h2;match i,h2 with|0,_=>rfl|1,_=>rfl⟩
  have h0:=hargs.2 0 _ _ rfl rfl;have h1:=hargs.2 1 _ _ rfl rfl
  cases h1 with
  |d _ _ h1=>
  obtain⟨cb,rfl,hcb⟩:=Cw h1 hfn;have hB:=hout.hp 0 _ rfl;generalize hn:xs.length=n at h0
  cases h0 with
  |msl0 _ _ _ ad=>
    have hxs:xs=[]:=gh hn;subst hxs;have hS0:S (#[]:Array α)=[]:=gh hS;refine(hnone ad 0 _ w).mono ?_;rintro e w' ⟨rfl,rfl⟩;refine⟨_,g,rfl,?_,.tup [] #[] rfl λi c v h=>by simp at h⟩;simpa[hS0]using hout
  |msl _ _ _ _ cap b hb hc hpz=>
    rcases hB with⟨_,hn0⟩|⟨b',cells,hp0,hw,hpsi,hl,hh0,hh1,hr⟩
    rw[hb]at hn0;cases hn0;cases hb.symm.trans hp0;subst hn;rw[Nat.zero_mul];have hblt:=(hout.lt 0 b hb).1;have hXb:∀b',g.X b'->b'≠b/\b'<w.heap.size:=λb' hX=>⟨λe=>(hout.lt 0 b hb).2.2 (e ▸ hX),hout.Xlt b' hX⟩
    have hflat:∀(d:Array α)(i j:Nat),i<d.size->j<sz->(flatK (λx=>(f x).cells.map D.val) sz d)[i*sz+j]?=((f d[i]!).cells[j]?).map D.val:=by
      intro d i j hi hj;have hlt:i*sz+j<d.size*sz:=by have:=tJ sz (show i+1<=d.size from hi);rw[nA]at this;omega
      have h2:=get_flatK (λx=>(f x).cells.map D.val) sz d (i*sz+j) hlt;have hdiv:(i*sz+j)/sz=i:=by rw[Nat.mul_comm,Nat.mul_add_div (by omega),Nat.div_eq_of_lt hj,vD]
      have hmod:(i*sz+j)%sz=j:=by rw[Nat.mul_comm,Nat.mul_add_mod,Nat.mod_eq_of_lt hj]
      rw[hdiv,hmod]at h2;rw[getElem!_pos _ _ (by simpa using hlt)]at h2;rw[Bq (by simpa using hlt),h2];have hjl:j<(f d[i]!).cells.length:=by rw[hsz];exact hj
      rw[getElem!_pos _ _ (by simpa using hjl),gN hjl];simp
    have hH:HoldsK (λx=>(f x).cells.map D.val) sz w b 0 xs.toArray:=by
      intro j hj;have hj':j<xs.length*sz:=by simpa using hj
      have hsz0 : 0 < sz := by rcases F6 sz with h0 | h0; · subst h0; simp at hj'
                               · exact h0
      have hi:j/sz<xs.length:=by rw[Nat.div_lt_iff_lt_mul hsz0];exact hj'
      have hm:j%sz<sz:=Nat.mod_lt _ hsz0;have hdec:j/sz*sz+j%sz=j:=by rw[Nat.mul_comm];exact Nat.div_add_mod j sz
      have hjl:j%sz<(f xs[j/sz]).cells.length:=by rw[hsz];exact hm
      have hx:(xs.map f)[j/sz]?=some (f xs[j/sz]):=by simp[hi]
      obtain⟨v,hv,hd⟩:=hr (j/sz) _ (j%sz) _ hx (gN hjl);rw[hdec]at hv;have hfl:=hflat xs.toArray (j/sz) (j%sz) (by simpa using hi) hm;rw[hdec]at hfl;have hget:xs.toArray[j/sz]! = xs[j/sz]:=by rw[getElem!_pos _ _ (by simpa using hi)];simp
      rw[hget,gN hjl]at hfl
      have hfl':(flatK (λx=>(f x).cells.map D.val) sz xs.toArray)[j]! = ((f xs[j/sz]).cells[j%sz]).val:=by
        rw[getElem!_pos (flatK (λx=>(f x).cells.map D.val) sz xs.toArray) j hj];rw[Bq hj]at hfl;simpa using hfl
      rw[fV];refine⟨?_,by simp[World.frozen?,hw]⟩;rw[cell_of_row w b j cells e (0,0) hw,hv,hfl'];rw[scal_val (x7 (hsc _) (gN hjl)) hd];rfl
    have hcl:=Yf (P:=P) (sz:=sz) (size:=xs.toArray.size) hag hsc hclo hcb hXb (λx hx=>⟨(Sim.laidW hout x hx).1,λi h=>by simp[iS]at h⟩) (λx hx e=>(Sim.laidW hout x hx).2 0 (e ▸ hb));have hs:=hsort b 0 cap cb xs.toArray w hcl hH hblt (by simpa using hlen);refine(show Calls P F #[.slice (some ⟨b,0,none⟩) xs.length cap,.func (.func G) #[] cb] w _ from hs).mono ?_;rintro e' w' ⟨rfl,m,os,rfl⟩;refine⟨_,g,rfl,?_,.tup [] #[] rfl λi c v h=>by simp at h⟩;have hbw:(Sort.ahead w m).heap[b]?=some (.cells cells e (0,0)):=hw;have hahead:Out ⟨P,0,w,1,g,mv⟩ [.flat e sz (xs.map f)] g (Sort.ahead w m):=Sim.sameHeap hout rfl rfl rfl rfl (Nat.le_add_right _ _)
    have hwr:(putRowK (λx=>(f x).cells.map D.val) sz (Sort.ahead w m) b 0 (S xs.toArray).toArray).heap[b]?=some (.cells (putCells id 0 (flatK (λx=>(f x).cells.map D.val) sz (S xs.toArray).toArray) cells) e (0,0)):=by
      show((Sort.ahead w m).heap.modify b _)[b]?=_;rw[Y0,if_pos rfl,hbw];rfl
    have hoth:∀b',b'≠b->(putRowK (λx=>(f x).cells.map D.val) sz (Sort.ahead w m) b 0 (S xs.toArray).toArray).heap[b']?=(Sort.ahead w m).heap[b']?:=λb' hb'=>by
      show((Sort.ahead w m).heap.modify b _)[b']?=_;rw[Y0,if_neg (λe=>hb' e.symm)]
    have hch := Sim.change (i := 0) (b := b) (B0 := .flat e sz (xs.map f)) hahead rfl (fun e => by cases e) hb (w' := putRowK (fun x => (f x).cells.map D.val) sz (Sort.ahead w m) b 0 (S xs.toArray).toArray) (size_putRowK _ _ _ _ _ _) rfl rfl rfl (Ks _) hoth
      (B:=.flat e sz ((S xs.toArray).map f)) (.inr ⟨b,_,hb,hwr,?_,?_,λk d hk=>?_,λk d j c hk hc=>?_,λk d j c hk hc=>?_⟩)
    exact Sim.grow hch 0 os;rw[hpsi,yj];simp only[vg,yj,hS]at hl⊢;exact hl;simp only[gm,zQO]at hk;obtain⟨x,_,rfl⟩:=hk;exact hsz x;simp only[gm,zQO]at hk;obtain⟨x,_,rfl⟩:=hk;exact(Qb (x7 (hsc x) hc)).1;simp only[gm,zQO]at hk;obtain⟨x,hx,rfl⟩:=hk;have hk':=(zQQ.1 hx).1;have hj:j<sz:=by rw[<- hsz x];exact(zQQ.1 hc).1
    have hfl:=hflat (S xs.toArray).toArray k j (by simpa using hk') hj;have hget:(S xs.toArray).toArray[k]! = x:=by rw[getElem!_pos _ _ (by simpa using hk')];simpa using(zQQ.1 hx).2
    rw[hget,hc]at hfl;refine⟨c.val,?_,Qa (x7 (hsc x) hc)⟩;have hlt:k*sz+j<(flatK (λx=>(f x).cells.map D.val) sz (S xs.toArray).toArray).size:=(zal5q.1 hfl).1
    have hlc:k*sz+j<cells.size:=by
      simp only[size_flatK,tK,hS]at hlt;simp only[vg]at hl;omega
    rw[Nz id 0 _ cells (k*sz+j) hlc,if_pos ⟨gS _,by simpa using hlt⟩,Nat.sub_zero,getElem!_pos (flatK (λx=>(f x).cells.map D.val) sz (S xs.toArray).toArray) (k*sz+j) hlt];rw[Bq hlt]at hfl;simpa using hfl
variable {C:Ctx}{st:St}{g:Gh}{a:Act}{w:World}{P:Program}
theorem kB{k:Nat}{ids:List Nat}(h:((List.range k).all λi=>ids[i]? == some i)=true)(i:Nat)(hi:i<k):ids[i]?=some i:=by
  have:=zQT.1 h i (zal101q.2 hi);simpa using this
theorem Sim.upB(h:Sim C st g a w){i j:Nat}{t e sz:Nat}{cs:List AV}(hb:st.hp[i]?=some (.box t cs))(hc:cs[j]?=some (.d .nilsl)):Sim C ⟨st.fr,(st.hp.set i (.box t (cs.set j (.msl st.hp.length sz 0 0))))++[Blk.flat e sz []]⟩ g a w:=by
  have hi:=(zQQ.1 hb).1;have hv:=h.virt e sz
  have h2:Sim C ⟨st.fr,(st.hp++[Blk.flat e sz []]).set i (.box t (cs.set j (.msl st.hp.length sz 0 0)))⟩ g a w:=by
    have hrep:=h.hp i _ hb;obtain⟨b,cells,hp,hw,hps,hl,hr⟩:=hrep;refine{ hv with hp:=λk B hk=>?_,lt:=λk b hk=>by have:=hv.lt k b hk;simpa using this,inj:=λk k' b Bk Bk' h1 h2 d1 d2 p1 p2=>?_,kle:=by simpa using hv.kle };rw[hZ]at hk;split at hk;rename_i e1;subst e1;split at hk;cases hk;refine⟨b,cells,hp,hw,hps,by simpa using hl,λq c v hq hv'=>?_⟩;rw[hZ]at hq;split at hq;rename_i e2;subst e2;split at hq;cases hq;have:=hr _ _ v hc hv'
    cases this with
    |d _ _ hd=>cases hd with
      |nilsl ad=>exact .msl0 _ _ _ _
    cases hq;exact hr q c v hq hv';cases hk;exact hv.hp k B hk
    have key:∀(k:Nat)(Bk:Blk),((st.hp++[Blk.flat e sz []]).set i (.box t (cs.set j (.msl st.hp.length sz 0 0))))[k]?=some Bk->Bk≠.dead->∃B',(st.hp++[Blk.flat e sz []])[k]?=some B'/\B'≠.dead:=by
      intro k Bk hk hd;rw[hZ]at hk;split at hk;rename_i e1;subst e1;exact⟨.box t cs,by rw[jP,if_pos hi];exact hb,λe=>by cases e⟩;exact⟨Bk,hk,hd⟩
    obtain⟨B1,e1,d1'⟩:=key k Bk h1 d1;obtain⟨B2,e2,d2'⟩:=key k' Bk' h2 d2;exact hv.inj k k' b B1 B2 e1 e2 d1' d2' p1 p2
  rwa [List.set_append,if_pos hi]at h2
theorem jG{ops:Array Oper}{l:List Oper}{K:St->Prop}{fr:Fr}{hp:List Blk}{α:Type}{f:α->D}(i j N e sz:Nat){t:TypeId}{cs:List AV}(hN:Nat.beq hp.length N=true)(hb:hp[i]?=some (.box t cs))(hc:cs[j]?=some (.d .nilsl))
    (h:eA C ops l ⟨fr,(hp.set i (.box t (cs.set j (.msl N sz 0 ([]:List α).length))))++[Blk.flat e sz (([]:List α).map f)]⟩ K):eA C ops l ⟨fr,hp⟩ K:=by
  have e:=fC hN;subst e;exact λg a w hs=>h g a w (Sim.upB (st:=⟨fr,hp⟩) hs hb hc)
theorem c_upB{c:Code}{Q:Exit->St->Prop}{fr:Fr}{hp:List Blk}{α:Type}{f:α->D}(i j N e sz:Nat){t:TypeId}{cs:List AV}(hN:Nat.beq hp.length N=true)(hb:hp[i]?=some (.box t cs))(hc:cs[j]?=some (.d .nilsl))
    (h:TWp C c ⟨fr,(hp.set i (.box t (cs.set j (.msl N sz 0 ([]:List α).length))))++[Blk.flat e sz (([]:List α).map f)]⟩ Q):TWp C c ⟨fr,hp⟩ Q:=by
  have e:=fC hN;subst e;exact λg a w hs=>h g a w (Sim.upB (st:=⟨fr,hp⟩) hs hb hc)
theorem vj{T:Tab}{o:Oper}{ev:Operand->AV}{hp:List Blk}{t:TypeId}{x y:Operand}{id off s:Nat}{bb:Bool}{bt:TypeId}{cs cs':List AV}{v:AV}(hT:TabOk C.P T)(ho:o.op=.store t x y)(hd:o.dst=none)(hl:lk T.lay t=some (bb,s))(hx:ev x=.mptr id 0 0 off)(hy:ev y=v)(hf:v.flat=true)(hs:Nat.beq v.cells.length s=true)
    (hb:hp[id]?=some (.box bt cs)) (hc:Nat.ble (off+s) cs.length=true) (hv:spl cs off v.cells=cs'):DOk C o ev hp .junk [(id,.box bt cs')]:=
  Ou ho hd (hT.lay hl) hx hy hf (fC hs) hb (jY hc) hv
end Go.TL
set_option linter.unusedVariables false
set_option linter.unusedSimpArgs false
namespace Go.TL
open Go.Sort Go.Proofs
variable {C:Ctx}
theorem bV{l:List AV}{ds ds':List D}(h:Ya l=some ds)(e:ds=ds'):Ya l=some ds':=e ▸ h
theorem aZ{α:Type}{f:α->D}:([]:List D)=([]:List α).map f:=rfl
theorem aF{α:Type}{f:α->D}{x:α}{d:D}{xs:List α}{ds:List D}(h:f x=d)(t:ds=xs.map f):d::ds=(x::xs).map f:=by rw[nE,h,t]
theorem aS{α:Type}{f:α->D}{sz:Nat}{xs:List α}(h:∀x,(f x).cells.length=sz):((xs.map f).all λd=>Nat.beq d.cells.length sz)=true:=by
  rw[zQT];intro d hd;obtain⟨x,_,rfl⟩:=zal96q.1 hd;rw[h x];exact Nat.beq_refl sz
section rd
variable {T:Tab}{o:Oper}{ev:Operand->AV}{hp:List Blk}{α:Type}{f:α->D}{xs ys:List α}
theorem Ex{t e sz by':Nat}{a b:Operand}{k:IntKind}{i:Int}{x:α}{d:D}(hT:TabOk C.P T)(ho:o.op=.indexAddr t a b)(hl:lk T.sel t=some (e,sz,by'))(ha:ev a=.d (.sl sz (xs.map f)))(hb:ev b=.d (.int k i))(h:0<=i/\xs[i.toNat]?=some x)(hf:f x=d):RdOk C o ev hp (.d (.ptr d 0)):=
  hf ▸ eW hT ho hl ha hb h
theorem bY{t e sz by' n:Nat}{parts:Array (Nat×Operand)}{z:Value}(l:List Operand)(hT:TabOk C.P T)(ho:o.op=.buildSlice t n parts)(hl:lk T.sel t=some (e,sz,by'))(hz:(C.P.info? e).bind (·.zero)=some z)(hp':pJ parts l)
    (hx:Ya (l.map ev)=some (xs.map f)) (hn:Nat.beq (xs.map f).length n=true) (hs:((xs.map f).all λd=>Nat.beq d.cells.length sz)=true) (hsmall:Nat.ble (n*sz) 16777216=true):RdOk C o ev hp (.d (.sl sz (xs.map f))):=nD l hT ho hl hz hp' hx hn hs hsmall
end rd
variable {P:Program}{C:Ctx}{o:Oper}{ev:Operand->AV}{hp:List Blk}{t t':TypeId}{x y:Operand}
theorem yE{a b:ByteArray}(ho:o.op=.binOp .add t x y t')(hx:ev x=.d (.str a))(hy:ev y=.d (.str b))(hs:a.size+b.size<=9223372036854775807):RdOk C o ev hp (.d (.str (a++b))):=
  RdOk.mk λst hhp hag g a' w hs'=>by
    have h:=hs'.ev x;rw[hag x (by simp[ho,Op.operands]),hx]at h;have hi:=hs'.ev y;rw[hag y (by simp[ho,Op.operands]),hy]at hi;refine⟨.string (a++b),?_,.d _ _ (.str _)⟩
    have e:¬((a.size+b.size:Nat):Int) > IntKind.i64.max:=by
      have:IntKind.i64.max=9223372036854775807:=by decide
      omega
    simp only[execOp,ho,str_inv h,str_inv hi];simp[eqGuard,binOp,Op.stringOp,e];omega
def arK(op:BinOp)(k:IntKind)(m n:Int):Option Int:=match op with
  |.add=>some (k.wrap (m+n))
  |.sub=>some (k.wrap (m-n))
  |.mul=>some (k.wrap (m*n))
  |.quo=>if n=0 then none else some (k.wrap (m.tdiv n))
  |.rem=>if n=0 then none else some (m.tmod n)
  |.and=>some (k.wrap (BitVec.ofInt k.bits m &&& BitVec.ofInt k.bits n).toNat)
  |.or=>some (k.wrap (BitVec.ofInt k.bits m ||| BitVec.ofInt k.bits n).toNat)
  |.xor=>some (k.wrap (BitVec.ofInt k.bits m ^^^ BitVec.ofInt k.bits n).toNat)
  |_=>none
theorem qAI{k:IntKind}{m n:Int}(h:¬n=0):arK .quo k m n=some (k.wrap (m.tdiv n)):=if_neg h
theorem qAH{k:IntKind}{m n:Int}(h:¬n=0):arK .rem k m n=some (m.tmod n):=if_neg h
theorem Y5{op:BinOp}{k:IntKind}{m n r:Int}(ho:o.op=.binOp op t x y t')(hx:ev x=.d (.int k m))(hy:ev y=.d (.int k n))(hr:arK op k m n=some r):RdOk C o ev hp (.d (.int k r)):=
  RdOk.mk λst hhp hag g a w hs=>by
    have h:=hs.ev x;rw[hag x (by simp[ho,Op.operands]),hx]at h;have hi:=hs.ev y;rw[hag y (by simp[ho,Op.operands]),hy]at hi;refine⟨.int k r,?_,.d _ _ (.int k r)⟩;simp only[execOp,ho,int_inv h,int_inv hi]
    cases op<;>simp only[arK]at hr<;>first
      |(cases hr;simp[eqGuard,binOp,Op.intArith,Op.intBits];done)
      | (split at hr
         · cases hr
         rename_i hn;cases hr;simp[eqGuard,binOp,Op.intDiv,hn])
      |cases hr
theorem x_convK{s:TypeId}{k k':IntKind}{n:Int}{us:TypeDesc}(ho:o.op=.convert s t x)(hs:C.P.underlying s=some us)(ht:C.P.underlying t=some (.int k'))(hx:ev x=.d (.int k n)):RdOk C o ev hp (.d (.int k' (k'.wrap n))):=Xm k k' n us ho hs ht hx
theorem Y3{xt t':TypeId}{d:D}(ho:o.op=.typeAssert x xt t true)(hc:Et C.P t=true)(hx:ev x=.d (.iface t' d))(h:t'=t):RdOk C o ev hp (.tup [.d d,.d (.bool true)]):=by
  subst h;exact Cf ho hc hx
theorem Y4{xt t':TypeId}{d:D}{z:Value}{zd:D}(ho:o.op=.typeAssert x xt t true)(hc:Et C.P t=true)(hx:ev x=.d (.iface t' d))(h:¬t'=t)(hz:(C.P.info? t).bind (·.zero)=some z)(hzd:gF z=.d zd):RdOk C o ev hp (.tup [.d zd,.d (.bool false)]):=
  Qx ho hc hx (by cases e:Nat.beq t' t with|false=>rfl|true=>exact absurd (fC e) h) hz hzd
theorem Db{ids:List Nat}{n m i:Nat}(h:i<ids.length):back ids n i=back ids m i:=by
  unfold back;rw[gN h]
theorem wb{ids:List Nat}{i j:Nat}(h:cE ids i=some j):j<ids.length:=(zQQ.1 (fD ids i j h)).1
mutual
theorem It(ids:List Nat)(n m:Nat):∀v:AV,AV.mapRef (fwd ids n) (AV.mapRef (toName (cE ids)) v)=AV.mapRef (fwd ids m) (AV.mapRef (toName (cE ids)) v)
  |.junk=>rfl
  |.und=>rfl
  |.d x=>rfl
  |.msl i s o l=>by
    simp only[AV.mapRef,toName]
    cases h:cE ids i with
    |none=>rfl
    |some j=>simp only[AV.mapRef,fwd,Db (n:=n) (m:=m) (wb h)]
  |.mptr i s x o=>by
    simp only[AV.mapRef,toName]
    cases h:cE ids i with
    |none=>rfl
    |some j=>simp only[AV.mapRef,fwd,Db (n:=n) (m:=m) (wb h)]
  |.mmap i=>by
    simp only[AV.mapRef,toName]
    cases h:cE ids i with
    |none=>rfl
    |some j=>simp only[AV.mapRef,fwd,Db (n:=n) (m:=m) (wb h)]
  |.yld i=>by
    simp only[AV.mapRef,toName]
    cases h:cE ids i with
    |none=>rfl
    |some j=>simp only[AV.mapRef,fwd,Db (n:=n) (m:=m) (wb h)]
  |.mmapN i q=>by
    simp only[AV.mapRef,toName]
    cases h:cE ids i with
    |none=>rfl
    |some j=>simp only[AV.mapRef,fwd,Db (n:=n) (m:=m) (wb h)]
  |.agg cs=>by simp only[AV.mapRef,fg ids n m cs]
  |.tup cs=>by simp only[AV.mapRef,fg ids n m cs]
  |.fnc f cs=>by simp only[AV.mapRef,fg ids n m cs]
  |.ifc t c=>by simp only[AV.mapRef,It ids n m c]
theorem fg(ids:List Nat)(n m:Nat):∀cs:List AV,AV.mapRefs (fwd ids n) (AV.mapRefs (toName (cE ids)) cs)=AV.mapRefs (fwd ids m) (AV.mapRefs (toName (cE ids)) cs)
  |[]=>rfl
  |c::r=>by simp only[AV.mapRefs,It ids n m c,fg ids n m r]
end
theorem fwd_fr(ids:List Nat)(n m:Nat):∀fr:Fr,Fr.mapRef (fwd ids n) (Fr.mapRef (toName (cE ids)) fr)=Fr.mapRef (fwd ids m) (Fr.mapRef (toName (cE ids)) fr)
  |[]=>rfl
  |(t,v)::r=>by simp only[Fr.mapRef,It ids n m v,fwd_fr ids n m r]
theorem fwd_blk(ids:List Nat)(n m:Nat)(B:Blk):Blk.mapRef (fwd ids n) (Blk.mapRef (toName (cE ids)) B)=Blk.mapRef (fwd ids m) (Blk.mapRef (toName (cE ids)) B):=by
  cases B with
  |box ty cs=>simp only[Blk.mapRef,fg ids n m cs]
  |lp=>simp only[Blk.mapRef,fwd_fr ids n m]
  |_=>rfl
def Od(ids:List Nat)(hp:List Blk):Prop:=∀j∈ids,((hp.getD j .dead).mapRef (toName (cE ids))).mapRef (fwd ids 0)=hp.getD j .dead
theorem Vt{ids:List Nat}{hp st:List Blk}(hnd:ids.Nodup)(hal:∀j∈ids,eD hp j=true)(hle:HpLe hp st)(hcl:Od ids hp):uB ids st (uC ids st)=st:=by
  apply tH;intro j;have hlen:(uC ids st).length=ids.length:=by simp[uC]
  by_cases hj:j<st.length;unfold uB;rw[G9 (by simpa using hj),gm,Dj];rw[gN hj];simp only[kP,fV]
  cases hp':cE ids j with
  |none=>rfl
  |some i=>
    simp only;have hi:=fD ids j i hp';have hmem:j∈ids:=lG hi;obtain⟨B,hB,hd⟩:=lT (hal j hmem);have hB':=hle j B hB hd
    have e:(uC ids st).getD i .dead=B.mapRef (toName (cE ids)):=by
      unfold uC;rw[qv,gm,hi];simp[qv,hB']
    have hc:=hcl j hmem;rw[qv,hB]at hc;rw[e,fwd_blk ids st.length 0];have:st[j]=B:=by rw[gN hj]at hB';exact cC hB'
    rw[this];exact congrArg some hc
  rw[lB (by rw[cx,hlen];omega),lB (by omega)]
theorem hand_le{ids:List Nat}{hp st:List Blk}(hal:∀j∈ids,eD hp j=true)(hle:HpLe hp st):uC ids st=uC ids hp:=by
  unfold uC;apply Mg;intro j hj;obtain⟨B,hB,hd⟩:=lT (hal j hj);rw[qv,qv,hB,hle j B hB hd]
theorem bJ{f:Operand}{xs:Array Operand}{ts:Array TypeId}{F:FuncId}{c:AV}{cs:List AV}(ids:List Nat){args:List AV}{r:AV}{hh:List Blk}(hrr:r.isRef=false/\AV.mapRef (fwd ids 0) r=r/\(∀n,AV.mapRef (fwd ids n) r=AV.mapRef (fwd ids 0) r))(ho:o.op=.call { callee:=.value f,args:=xs,argTypes:=ts })
    (hf:ev f=c) (hc:fw c=some (F,cs)) (hnd:ids.Nodup) (hal:(ids.all λj=>eD hp j)=true) (hcl:Od ids hp) (hx:((xs.toList.map ev)++cs).map (AV.mapRef (toName (cE ids)))=args) (hhd:uC ids hp=hh) (hret:Ret C.P F hh (λ_=>false) args r hh):RdOk C o ev hp r:=by
  intro st hhp hag g a w hs Q K' hK;have hfv:=hs.ev f;rw[hag f (by simp[ho,Op.operands,Call.operands]),hf]at hfv;obtain⟨vs,hv,hvs⟩:=C7 hfv hc;have hal':∀j∈ids,eD hp j=true:=λj hj=>zQT.1 hal j hj
  have hals:∀j∈ids,eD st.hp j=true:=λj hj=>by
    obtain⟨B,hB,hd⟩:=lT (hal' j hj);have h1:=hal' j hj;unfold eD at h1⊢;rw[qv,hB]at h1;rw[qv,hhp j B hB hd];exact h1
  have he:=hand_le (st:=st.hp) hal' hhp
  have hf':∀i j,cE ids i=some j->(g.canon ids).phi j=g.phi i/\(g.canon ids).psi j=g.psi i:=by
    intro i j hij;have:=fD ids i j hij;simp[Gh.canon,this]
  have hargs:Pw (ARep w (g.canon ids)) args (xs.map a.eval++vs).toList:=by
    rw[<- hx,He,mU];refine Pw.append ⟨by simp,λi x v hxi hvi=>?_⟩ ⟨by simpa using hvs.1,λi x v hxi hvi=>?_⟩;simp only[List.map_map,gm,zQO]at hxi;simp only[yC,gm,zQO]at hvi;obtain⟨y,hy,rfl⟩:=hxi;obtain⟨z,hz,rfl⟩:=hvi;rw[hy]at hz;cases hz;have hy':st.fr.ev y=ev y:=hag y (by simp only[ho,Op.operands,Call.operands];exact zal9q.2 (.inr (zal10q.1 (lG hy))));have:=ARep.mapRef (w:=w) (g:=g) (g':=g.canon ids) (λd v hd=>hd) (ARep.toName hf' λ_ hb=>hb) (hs.ev y);rw[hy']at this;exact this;simp only[gm,zQO]at hxi;obtain⟨d,hd',rfl⟩:=hxi;exact ARep.mapRef (w:=w) (g:=g) (g':=g.canon ids) (λd v hd=>hd) (ARep.toName hf' λ_ hb=>hb) (hvs.2 i d v hd' hvi)
  simp only[Oper.wp,lH ho hv hret.1,Oper.upon_enter];have hh':uC ids st.hp=hh:=he.trans hhd;have hret2:=hret;rw[<- hh']at hret2;refine(hret2.2 w (g.canon ids) _ (hs.handed hnd) hargs).mono ?_;rintro e w' ⟨v,g',rfl,hout,hr⟩;have hb:=hs.back hnd hals hout;rw[Vt hnd hal' hhp hcl]at hb;refine hK v w' _ hb ?_;have hlt:∀j∈ids,j<st.hp.length:=λj hj=>by obtain⟨B,hB,_⟩:=lT (hals j hj);exact(zQQ.1 hB).1
  have:=ARep.mapRef (w:=w') (g:=g') (g':=g.back ids st.hp.length w.heap.size g') (F:=fwd ids st.hp.length) (λd v hd=>hd.mono (λb hb=>by
    by_cases hlt':b<w.heap.size;exact .inl (hout.Xold b hb hlt')
    exact .inr ⟨by omega,hb⟩) λ_ _=>rfl) (λx v hx hr=>hx.fwd hnd hlt hr) hr
  rw[hrr.2.2,hrr.2.1]at this;exact this
theorem aY{ids:List Nat}{hp:List Blk}(h:(ids.map λj=>((hp.getD j .dead).mapRef (toName (cE ids))).mapRef (fwd ids 0))=ids.map λj=>hp.getD j .dead):Od ids hp:=λj hj=>List.map_inj_left.1 h j hj
theorem x_neg{k:IntKind}{n:Int}(ho:o.op=.unOp .neg t x)(hx:ev x=.d (.int k n)):RdOk C o ev hp (.d (.int k (k.wrap (0-n)))):=
  RdOk.mk λst hhp hag g a w hs=>by
    have h:=hs.ev x;rw[hag x (by simp[ho,Op.operands]),hx]at h;exact⟨.int k (k.wrap (0-n)),by simp only[execOp,ho,int_inv h];simp[Op.unary,Op.intArith],.d _ _ (.int _ _)⟩
theorem x_ixv{e:TypeId}{n:Nat}{α:Type}{f:α->D}{xs:List α}{k:IntKind}{i:Int}{z:α}(ho:o.op=.index t x y)(hu:C.P.underlying t=some (.array n e))(hl:lay C.P e=some (false,1))(hx:ev x=.d (.agg (xs.map f)))(hy:ev y=.d (.int k i))(h:0<=i/\xs[i.toNat]?=some z)(hn:Nat.beq n xs.length=true):RdOk C o ev hp (.d (f z)):=
  RdOk.mk λst hhp hag g a w hs=>by
    have hv:=hs.ev x;rw[hag x (by simp[ho,Op.operands]),hx]at hv;have hi:=hs.ev y;rw[hag y (by simp[ho,Op.operands]),hy]at hi;generalize he:a.eval x=vx at *;have hlt:=(zQQ.1 h.2).1;have hn':=fC hn;obtain⟨h1,h2⟩:=xm hl w
    cases hv with
    |d _ _ hd=>
      cases hd with
      |agg cs vs hlen hone hrep=>
        have hsz:i.toNat<vs.size:=by rw[<- hlen,vg];exact hlt
        refine⟨vs[i.toNat],?_,.d _ _ (hrep i.toNat (f z) _ (by rw[gm,h.2];rfl) (Bq hsz))⟩;have hi2:i<(n:Int):=by omega
        simp only[execOp,ho,he,int_inv hi];simp[Instr.index,run_underlying hu,asIntOf,h.1,hi2,part,h1,h2,Bq hsz]
theorem s_frzO{ops:Array Oper}{l:List Oper}{K:St->Prop}{fr fr':Fr}{hp hp':List Blk}(t i:Nat)(ks:List Nat)(hk:Nat.ble C.k i=true)(hks:((List.range C.k).all (eD hp))=true)(hal:eD hp i=true){sz n ty:Nat}{es:List D}(ht:fr.get t=.msl i sz 0 n)(hb:hp[i]?=some (.flat ty sz es))(hn:n=es.length)(hf:Fr.mapRef (Gs i (.flat ty sz es) (eD hp)) (Fr.keep ks fr)=fr')(hh:(hp.map (Blk.mapRef (Gs i (.flat ty sz es) (eD hp)))).set i .dead=hp')
    (h:eA C ops l ⟨(t,.d (.sl sz es))::fr',hp'⟩ K):eA C ops l ⟨fr,hp⟩ K:=by
  have hB:hp.getD i .dead=.flat ty sz es:=by rw[qv,hb];rfl
  intro g a w hs;obtain⟨g',hs'⟩:=hs.freeze i (jY hk) hal (λj hj=>zQT.1 hks j (zal101q.2 hj));subst hf hh;refine h g' a w ?_;simp only[St.freeze,hB]at hs';refine{ hs' with fr:=λu=>?_ };have hu:=hs'.fr u;simp only[Fr.get];split;rename_i e;subst e;rw[Fr.get_mapRef,ht]at hu;simp only[AV.mapRef,Gs,if_true]at hu;rw[if_pos ⟨trivial,by omega⟩]at hu;subst hn;simpa using hu;rw[Fr.get_mapRef];rcases Fr.get_keep fr ks u with e|e
  rw[e,<- Fr.get_mapRef];exact hu;rw[e];exact .junk _
theorem qc{ops:Array Oper}{K:St->Prop}{l:List Oper}{fr:Fr}{hp:List Blk}{acc:List Rec}{o oq:Oper}(q dq:Nat)(h:eA C ops (o::l) ⟨fr,hp⟩ K)(h2:eA C ops (o::oq::l) ⟨(dq,.junk)::fr,hp⟩ K)(hq:ops.toList[q]?=some oq)(hdq:(acc.map Rec.d)[q]?=some dq)(hws:(acc.map tY)[q]?.map (·.2)=some [])(hE:C3 q ops.toList acc.length (acc.map Rec.d) (acc.map tY)=true):TDr C ops K (o::l) fr hp acc:=
  .tailq q o oq l fr hp acc dq hE hq hdq hws h h2
theorem qAY{P:Program}{F:FuncId}{i:Int}{s:ByteArray}(hcb:cd P F=true)(h:∀w,Calls P F #[.int .i64 i] w λe w'=>e=.returned (.string s)/\w'=w):RetN P F [.int .i64 i] (.str s):=by
  refine⟨λ_=>false,.d (.str s),[],⟨hcb,λw g vs hout hargs=>?_⟩,.d _,.d _ rfl,λB hB=>by simp at hB⟩
  obtain⟨v0,rfl⟩:∃v0,vs=#[v0]:=by
    have hl:vs.size=1:=by have:=hargs.1;simpa using this.symm
    exact⟨vs[0],by apply Array.ext;simp[hl];intro i h1 h2;match i,h2 with|0,_=>rfl⟩
  have h0:=hargs.2 0 _ _ rfl rfl;rw[int_inv h0];refine(h w).mono ?_;rintro e w' ⟨rfl,rfl⟩;exact⟨_,g,rfl,hout,.d _ _ (.str _)⟩
theorem run_cutS{t:TypeId}(hu:P.underlying t=some .string)(w:World)(s:ByteArray)(lo hi:Option Value)(l r:Nat)
    (hlo:(lo=none/\l=0)\/∃k,lo=some (.int k l)) (hhi:(hi=none/\r=s.size)\/∃k,hi=some (.int k r)) (h1:l<=r) (h2:r<=s.size):
    (Instr.sliceAt t (.string s) lo hi none).run P w=.ok (.string (s.extract l r)) w:=by
  have e1:(l:Int)<=r:=by omega
  have e2:(r:Int)<=s.size:=by omega
  rcases hlo with⟨rfl,rfl⟩|⟨k,rfl⟩<;>rcases hhi with⟨rfl,rfl⟩|⟨k',rfl⟩<;>
    simp[Instr.sliceAt,Instr.slice,run_underlying hu,Instr.sliceBounds,Instr.sliceBound,asIntOf,e1,e2,h1,h2]
theorem x_cutS{s:ByteArray}{lo hi:Option Operand}{l r:Int}(ho:o.op=.slice t x lo hi none)(hu:C.P.underlying t=some .string)(hx:ev x=.d (.str s))(hlo:Dh 0 (lo.map ev)=some l)(hhi:Dh s.size (hi.map ev)=some r)(h:0<=l/\l<=r/\r<=s.size):RdOk C o ev hp (.d (.str (s.extract l.toNat r.toNat))):=
  RdOk.mk λst hhp hag g a w hs=>by
    have hv:=hs.ev x;rw[hag x (by simp[ho,Op.operands]),hx]at hv;obtain⟨l,rfl⟩:=zf h.1;obtain⟨r,rfl⟩:=zf (show 0<=r by omega)
    have bound:∀(d n:Nat)(q:Option Operand),(∀y,q=some y->y∈o.op.operands)->Dh d (q.map ev)=some (n:Int)->(q.map a.eval=none/\n=d)\/∃k,q.map a.eval=some (.int k n):=by
      intro d n q hq hb
      cases q with
      |none=>simp[Dh]at hb;exact .inl ⟨rfl,by omega⟩
      |some y=>
        have hy:=hs.ev y;rw[hag y (hq y rfl)]at hy;simp only[kP]at hb⊢;unfold Dh at hb;split at hb;rename_i e;cases e;rename_i k m e;rw[cC e]at hy;cases hb;exact .inr ⟨k,by rw[int_inv hy]⟩;cases hb
    have hlo':=bound 0 l lo (λy hy=>by subst hy;simp[ho,Op.operands]) hlo;have hhi':=bound s.size r hi (λy hy=>by subst hy;simp[ho,Op.operands]) hhi;refine⟨.string (s.extract l r),?_,.d _ _ (.str _)⟩;have:=run_cutS hu w s _ _ l r hlo' hhi' (by omega) (by omega);simp only[execOp,ho,str_inv hv];simp[this]
end Go.TL
set_option linter.unusedVariables false
set_option linter.unusedSimpArgs false
set_option linter.unusedSectionVars false
namespace Go.TL
open Go.Sort Go.Proofs
variable {P:Program}{C:Ctx}{st:St}{g:Gh}{a:Act}{w:World}
section find
variable {kt:TypeId}{ks:List TypeDesc}{k:D}{es:List (D×D)}{ents:Array MapEntry}
end find
section look
variable {o:Oper}{ev:Operand->AV}{hp:List Blk}{x y:Operand}{t kt et kt' et':TypeId}{d:TypeDesc}{id:Nat}{es:List (D×D)}{k v zd:D}{z:Value}{ks:List TypeDesc}
end look
section upd
variable {o:Oper}{K:St->Prop}{x y u:Operand}{t kt et kt' et':TypeId}{d:TypeDesc}{id:Nat}{es:List (D×D)}{k v:D}{ks:List TypeDesc}
end upd
def keysOk{α β:Type}(ok:α->Bool)(fs:List (α×β))(s:α):Prop:=(fs.map (·.1)).Nodup/\(∀x∈fs,ok x.1=true)/\ok s=true
instance {α β:Type} [DecidableEq α] (ok:α->Bool) (fs:List (α×β)) (s:α):Decidable (keysOk ok fs s):=by unfold keysOk;infer_instance
section pm
variable {α β:Type}[DecidableEq α]{dk:TypeDesc}{kf:α->D}{ok:α->Bool}{ks:List TypeDesc}
variable {o:Oper}{ev:Operand->AV}{hp:List Blk}{x y u:Operand}{t kt et kt' et':TypeId}{id:Nat}{zd:D}{z:Value}
end pm
variable {P:Program}{C:Ctx}{st:St}{g:Gh}{a:Act}{w:World}
theorem Sim.virtM(h:Sim C st g a w)(kt vt:Nat):Sim C ⟨st.fr,st.hp++[.map kt vt []]⟩ g a w:=by
  refine{ h with hp:=?_,lt:=?_,inj:=?_,kle:=?_ };intro i B hi;simp only[jP]at hi;split at hi;exact h.hp i B hi;rename_i hge
  have:i=st.hp.length:=by
    rcases gM (i-st.hp.length) 1 with h1|h1
    omega;rw[lB (by simpa using h1)]at hi;cases hi
  subst this;simp at hi;subst hi;exact .inl ⟨rfl,h.phi_none (Ks _)⟩;intro i b hp;have:=h.lt i b hp;simp only[kU,jF,jO];exact⟨this.1,by omega,this.2.2⟩;intro i j b Bi Bj hBi hBj hdi hdj hi hj;have l1:=(h.lt _ _ hi).2.1;have l2:=(h.lt _ _ hj).2.1;rw[jP,if_pos l1]at hBi;rw[jP,if_pos l2]at hBj;exact h.inj i j b Bi Bj hBi hBj hdi hdj hi hj;have:=h.kle;simp only[kU,jF,jO];omega
theorem Sim.recell(h:Sim C st g a w){i j:Nat}{t:TypeId}{cs:List AV}{y:AV}(hb:st.hp[i]?=some (.box t cs))
    (hy:∀v,(∀x,cs[j]?=some x->ARep w g x v)->(∃b cells,g.phi i=some b/\w.heap[b]?=some (.cells cells t (0,0))/\cells[j]?=some v)->ARep w g y v):Sim C ⟨st.fr,st.hp.set i (.box t (cs.set j y))⟩ g a w:=by
  have hi:=(zQQ.1 hb).1;obtain⟨b,cells,hp,hw,hps,hl,hr⟩:=h.hp i _ hb;refine{ h with hp:=λk B hk=>?_,lt:=λk b hk=>by have:=h.lt k b hk;simpa using this,inj:=λk k' b Bk Bk' h1 h2 d1 d2 p1 p2=>?_,kle:=by simpa using h.kle };by_cases e1:i=k
  · subst e1
    rw[hZ,if_pos rfl]at hk
    have hk:B=.box t (cs.set j y):=by
      simp only[hi,if_true,lV]at hk;exact hk.symm
    subst hk;refine⟨b,cells,hp,hw,hps,by simpa using hl,λq c v hq hv'=>?_⟩;by_cases e2:j=q;subst e2;rw[hZ,if_pos rfl]at hq;split at hq;cases hq;exact hy v (λx hx=>hr _ x v hx hv') ⟨b,cells,hp,hw,hv'⟩;cases hq;rw[wF e2]at hq;exact hr q c v hq hv'
  rw[wF e1]at hk;exact h.hp k B hk
  have key:∀(k:Nat)(Bk:Blk),(st.hp.set i (.box t (cs.set j y)))[k]?=some Bk->Bk≠.dead->∃B',st.hp[k]?=some B'/\B'≠.dead:=by
    intro k Bk hk hd;rw[hZ]at hk;split at hk;rename_i e1;subst e1;exact⟨.box t cs,hb,λe=>by cases e⟩;exact⟨Bk,hk,hd⟩
  obtain⟨B1,e1,d1'⟩:=key k Bk h1 d1;obtain⟨B2,e2,d2'⟩:=key k' Bk' h2 d2;exact h.inj k k' b B1 B2 e1 e2 d1' d2' p1 p2
theorem Sim.upM(h:Sim C st g a w){i j:Nat}{t kt vt:Nat}{cs:List AV}(hb:st.hp[i]?=some (.box t cs))(hc:cs[j]?=some (.d .nilmap)):Sim C ⟨st.fr,(st.hp.set i (.box t (cs.set j (.mmapN st.hp.length 0))))++[Blk.map kt vt []]⟩ g a w:=by
  have hi:=(zQQ.1 hb).1;have hb':(st.hp++[Blk.map kt vt []])[i]?=some (.box t cs):=by rw[jP,if_pos hi];exact hb
  have h2:=Sim.recell (h.virtM kt vt) (i:=i) (j:=j) (y:=.mmapN st.hp.length 0) hb' λv hv _=>by
    cases hv _ hc with
    |d _ _ hd=>cases hd with
      |nilmap=>exact .mmapN0 _
  simp only[List.set_append,if_pos hi]at h2;exact h2
section
variable {ops:Array Oper}{l:List Oper}{K:St->Prop}{fr:Fr}{hp:List Blk}{c:Code}{Q:Exit->St->Prop}{α β:Type}
theorem s_upM{kf:α->D}{f:β->D}(i j N kt vt:Nat){t:TypeId}{cs:List AV}(hN:Nat.beq hp.length N=true)(hb:hp[i]?=some (.box t cs))(hc:cs[j]?=some (.d .nilmap))
    (h:eA C ops l ⟨fr,(hp.set i (.box t (cs.set j (.mmapN N ([]:List (α×β)).length))))++[Blk.map kt vt (eP kf f ([]:List (α×β)))]⟩ K):eA C ops l ⟨fr,hp⟩ K:=by
  have e:=fC hN;subst e;exact λg a w hs=>h g a w (Sim.upM (st:=⟨fr,hp⟩) hs hb hc)
end
section
variable {o:Oper}{ev:Operand->AV}{hp:List Blk}{x y:Operand}{t t' k e:TypeId}
end
inductive ArgW:AV->AV->Prop
  |refl (x:AV):ArgW x x
  |nil (i sz:Nat):ArgW (.d .nilsl) (.msl i sz 0 0)
  |nilD (sz:Nat):ArgW (.d .nilsl) (.d (.sl sz []))
inductive ArgsW:List AV->List AV->Prop
  |nil:ArgsW [] []
  |cons {x y:AV} {xs ys:List AV} (h:ArgW x y) (hr:ArgsW xs ys):ArgsW (x::xs) (y::ys)
theorem ArgW.rep{x y:AV}(h:ArgW x y){v:Value}(hv:ARep w g x v):ARep w g y v:=by
  cases h with
  |refl=>exact hv
  |nil i sz=>cases hv with
    |d _ _ hd=>cases hd with
      |nilsl ad=>exact .msl0 _ _ _ _
  |nilD sz=>cases hv with
    |d _ _ hd=>cases hd with
      |nilsl ad=>exact .d _ _ (.sl0 _ _ _)
theorem ArgsW.rep:∀{xs ys:List AV},ArgsW xs ys->∀{vs:List Value},Pw (ARep w g) xs vs->Pw (ARep w g) ys vs
  |[],[],.nil,vs,h=>h
  |x::xs,y::ys,.cons hx hr,vs,h=>by
    cases vs with
    |nil=>have:=h.1;simp at this
    |cons v vs=>
      have h1:Pw (ARep w g) xs vs:=⟨by simpa using h.1,λi a b ha hb=>h.2 (i+1) a b (by simpa using ha) (by simpa using hb)⟩;have h2:=ArgsW.rep hr h1;refine⟨by simp[h2.1],λi a b ha hb=>?_⟩
      cases i with
      |zero=>simp at ha hb;subst ha hb;exact hx.rep (h.2 0 x v rfl rfl)
      |succ i=>exact h2.2 i a b (by simpa using ha) (by simpa using hb)
theorem Ret.argsW{F:FuncId}{hp hp':List Blk}{mv:Nat->Bool}{xs ys:List AV}{r:AV}(h:Ret P F hp mv ys r hp')(hw:ArgsW xs ys):Ret P F hp mv xs r hp':=
  ⟨h.1,λw g vs ho ha=>h.2 w g vs ho (hw.rep ha)⟩
theorem s_callMW{ops : Array Oper}{l : List Oper}{K : St -> Prop}{fr : Fr}{hp : List Blk}{d : Nat}{ty : TypeId}{pos : String}{after : Array Edge}{f : Operand}{xs : Array Operand}{ts : Array TypeId}{F : FuncId}{c : AV}{cs : List AV}(ids : List Nat)(mv : Nat -> Bool){args0 args : List AV}{r r' : AV}{fr2 : Fr}{hh hp' hp2 : List Blk}(hd : decide (d < C.n) = true)(hf : fr.ev f = c)(hc : fw c = some (F, cs))(hnd : ids.Nodup)(hal : (ids.all fun j => eD hp j) = true)
    (hmv:((List.range C.k).all λj=>!kv ids mv j||C.mv j)=true) (hx:((xs.toList.map fr.ev)++cs).map (AV.mapRef (toName (cE ids)))=args0) (hhd:uC ids hp=hh) (hret:Ret C.P F hh mv args r hp') (hw:ArgsW args0 args) (hr:r.mapRef (fwd ids hp.length)=r') (hfr:Fr.mapRef (lP (kv ids mv)) fr=fr2) (hb:uB ids (hp.map (Blk.mapRef (lP (kv ids mv)))) hp'=hp2)
    (h:eA C ops l ⟨(d,r')::fr2,hp2⟩ K):eA C ops (⟨some d,.call { callee:=.value f,args:=xs,argTypes:=ts },ty,pos,after,none⟩::l) ⟨fr,hp⟩ K:=
  dF ids mv hd hf hc hnd hal hmv hx hhd (hret.argsW hw) hr hfr hb h
def Iz:List AV->Option (List D)
  |[]=>some []
  |.d d::r=>match d.one,Iz r with
    |true,some ds=>some (d::ds)
    |_,_=>none
  |.msl _ sz _ 0::r=>match Iz r with
    |some ds=>some (.sl sz []::ds)
    |none=>none
  |_=>none
theorem Bc:∀{cs:List AV}{ds:List D},Iz cs=some ds->cs.length=ds.length/\(∀d∈ds,d.one=true)/\∀(i:Nat)(d:D)(c:AV)(v:Value),cs[i]?=some c->ds[i]?=some d->ARep w g c v->DRep w g.X d v
  |[],ds,h=>by cases h;exact⟨rfl,(λd h=>by cases h),λi d c v h=>by simp at h⟩
  |c0::r,ds,h=>by
    unfold Iz at h;split at h;cases ‹_=[]›;rename_i e;cases e;split at h;rename_i d ds' h1 h2;cases h;have ih:=Bc h2;refine⟨by simp[ih.1],λx hx=>?_,λi x c v hc hd hr=>?_⟩;rcases zQB.1 hx with rfl|hx
    · exact h1
    exact ih.2.1 x hx
    cases i with
    |zero=>simp at hc hd;subst hc hd;cases hr with|d _ _ h=>exact h
    |succ i=>exact ih.2.2 i x c v (by simpa using hc) (by simpa using hd) hr
    cases h;rename_i e;cases e;split at h;rename_i ds' h2;cases h;have ih:=Bc h2;refine⟨by simp[ih.1],λx hx=>?_,λi x c v hc hd hr=>?_⟩;rcases zQB.1 hx with rfl|hx
    · rfl
    exact ih.2.1 x hx
    cases i with
    |zero=>
      simp at hc hd;subst hc hd
      cases hr with
      |msl0=>exact .sl0 _ _ _
      |msl _ _ _ _ cap=>exact .sl0 _ _ _
    |succ i=>exact ih.2.2 i x c v (by simpa using hc) (by simpa using hd) hr
    cases h;cases h
theorem s_aggE{ops:Array Oper}{l:List Oper}{K:St->Prop}{fr:Fr}{hp:List Blk}{cs:List AV}{ds:List D}(k:Nat)(hk:fr.get k=.agg cs)(hd:Iz cs=some ds)(h:eA C ops l ⟨(k,.d (.agg ds))::fr,hp⟩ K):eA C ops l ⟨fr,hp⟩ K:=by
  intro g a w hs;refine h g a w { hs with fr:=λu=>?_ };simp only[Fr.get];split;rename_i e;subst e;have hu:=hs.fr k;simp only at hu;rw[hk]at hu;generalize a.tmps.getD k undef=v at *
  cases hu with
  |agg _ vs hl hr=>
    have e:=Bc (w:=w) (g:=g) hd
    exact .d _ _ (.agg _ _ (by rw[<- e.1];exact hl) e.2.1 λi d v hi hv=>by
      have hlt:i<cs.length:=by rw[e.1];exact(zQQ.1 hi).1
      exact e.2.2 i d cs[i] v (gN hlt) hi (hr i cs[i] v (gN hlt) hv))
  exact hs.fr u
variable {P:Program}{C:Ctx}{st:St}{g:Gh}{a:Act}{w:World}
section
variable {o:Oper}{ev:Operand->AV}{hp:List Blk}{t t' e arr:TypeId}{x y:Operand}
theorem Ku{s:ByteArray}{k:IntKind}{i:Int}{b:UInt8}(ho:o.op=.index t x y)(hu:C.P.underlying t=some .string)(hx:ev x=.d (.str s))(hy:ev y=.d (.int k i))(h:0<=i/\s.data.toList[i.toNat]?=some b):RdOk C o ev hp (.d (.int .u8 (b.toNat:Int))):=
  RdOk.mk λst hhp hag g a w hs=>by
    have hv:=hs.ev x;rw[hag x (by simp[ho,Op.operands]),hx]at hv;have hi:=hs.ev y;rw[hag y (by simp[ho,Op.operands]),hy]at hi
    have hxv:a.eval x=.string s:=by
      generalize a.eval x=v at *;cases hv with|d _ _ h=>cases h;rfl
    have hsb:s[i.toNat]?=some b:=by
      have h2:=h.2;rw[zQQ]at h2;obtain⟨hlt,h2⟩:=h2;have hlt':i.toNat<s.size:=hlt;rw[getElem?_pos s i.toNat hlt'];exact congrArg some h2
    refine⟨.int .u8 b.toNat,?_,.d _ _ (.int _ _)⟩;have h0:=h.1;simp only[execOp,ho,hxv,int_inv hi];simp[Instr.index,run_underlying hu,asIntOf,h0,hsb]
theorem x_bstr{xs:List Int}(ho:o.op=.convert t t' x)(hs:C.P.underlying t=some (.slice e))(he:C.P.underlying e=some (.int .u8))(hd:C.P.underlying t'=some .string)(hx:ev x=.d (.sl 1 (xs.map (D.int .u8)))):RdOk C o ev hp (.d (.str (strOfNums xs))):=
  RdOk.mk λst hhp hag g a w hsim=>by
    have hv:=hsim.ev x;rw[hag x (by simp[ho,Op.operands]),hx]at hv;generalize hev:a.eval x=v at *
    have key:∀(ad:Option Addr)(cap:Nat),v=.slice ad xs.length cap->(Conv.bytesToString v).run C.P w=.ok (.string (strOfNums xs)) w->(execOp a.eval o).run C.P w=.ok (.value (.string (strOfNums xs))) w:=by
      intro ad cap hv h;simp only[execOp,ho,hev,Sem.run_bind];rw[hv,run_convert_bytes_string w t t' e ad xs.length cap hs he hd,<- hv,h];rfl
    refine⟨.string (strOfNums xs),?_,.d _ _ (.str _)⟩
    cases hv with
    |d _ _ h=>
      generalize hes:xs.map (D.int .u8)=es at h
      cases h with
      |sl0 _ ad cap=>
        have hx0:xs=[]:=by simpa using hes
        subst hx0;refine key ad cap rfl ?_
        cases ad with
        |none=>simp[Conv.bytesToString];rfl
        |some ad=>
          rw[run_bytesToString w ad 0 cap [] (run_loadCells_list (P:=C.P) w ad [] (λj v h=>by simp at h)),foldl_push_bytes];rfl
      |sl _ _ ad cap val hX hc hsz h1 hv hr=>
        subst hes;simp only[vg]at *;refine key (some ad) cap rfl ?_
        have hl:(loadCells ad xs.length).run C.P w=.ok (xs.map (Value.int .u8)).toArray w:=by
          have:=run_loadCells_list (P:=C.P) w ad (xs.map (Value.int .u8)) (λj v hj=>by
            simp only[gm,zQO]at hj;obtain⟨n,hn,rfl⟩:=hj;have h3:=hv j (D.int .u8 n) 0 (D.int .u8 n) (by simp[hn]) rfl;have h4:=hr j (D.int .u8 n) 0 (D.int .u8 n) (by simp[hn]) rfl;rw[Nat.mul_one,vD]at h3;rw[h3];generalize val j 0=u at h4;cases h4
            rfl)
          simpa using this
        rw[run_bytesToString w ad xs.length cap xs hl,foldl_push_bytes];simp[strOfNums,ByteArray.empty,ByteArray.emptyWithCapacity];rfl
end
section
variable {o:Oper}{ev:Operand->AV}{hp:List Blk}{x:Operand}
theorem x_cutA{α:Type}{f:α->D}{xs:List α}{t e:TypeId}{n:Nat}{lo hi:Option Operand}{l r:Int}(ho:o.op=.slice t x lo hi none)(hu:C.P.underlying t=some (.array n e))(hl:lay C.P e=some (false,1))(hx:ev x=.d (.ptr (.agg (xs.map f)) 0))(hn:Nat.beq n xs.length=true)(hlo:Dh 0 (lo.map ev)=some l)(hhi:Dh n (hi.map ev)=some r)(h:0<=l/\l<=r/\r<=n):RdOk C o ev hp (.d (.sl 1 ((sub xs l r).map f))):=
  RdOk.mk λst hhp hag g a w hs=>by
    have hv:=hs.ev x;rw[hag x (by simp[ho,Op.operands]),hx]at hv;have hn':=fC hn;obtain⟨l,rfl⟩:=zf h.1;obtain⟨r,rfl⟩:=zf (show 0<=r by omega)
    have bound:∀(d m:Nat)(q:Option Operand),(∀y,q=some y->y∈o.op.operands)->Dh d (q.map ev)=some (m:Int)->(q.map a.eval=none/\m=d)\/∃k,q.map a.eval=some (.int k m):=by
      intro d m q hq hb
      cases q with
      |none=>simp[Dh]at hb;exact .inl ⟨rfl,by omega⟩
      |some y=>
        have hy:=hs.ev y;rw[hag y (hq y rfl)]at hy;simp only[kP]at hb⊢;unfold Dh at hb;split at hb;rename_i e;cases e;rename_i k m' e;rw[cC e]at hy;cases hb;exact .inr ⟨k,by rw[int_inv hy]⟩;cases hb
    have hlo':=bound 0 l lo (λy hy=>by subst hy;simp[ho,Op.operands]) hlo;have hhi':=bound n r hi (λy hy=>by subst hy;simp[ho,Op.operands]) hhi;have h1:l<=r:=by omega
    have h2:r<=n:=by omega
    obtain⟨q1,q2⟩:=xm hl w;generalize hev:a.eval x=vx at *
    cases hv with
    |d _ _ hd=>
      cases hd with
      |ptr _ _ ad val hX h1' hv hr=>
        have hrun:(execOp a.eval o).run C.P w=.ok (.value (.slice (some (if n=l then ad else ad.add (l*1))) (r-l) (n-l))) w:=by
          simp only[execOp,ho,hev];have e1:(l:Int)<=r:=by omega
          have e2:(r:Int)<=n:=by omega
          rcases hlo' with⟨hlo',rfl⟩|⟨k,hlo'⟩<;>rcases hhi' with⟨hhi',rfl⟩|⟨k',hhi'⟩<;>rw[hlo',hhi']<;>
            simp[Instr.sliceAt,run_underlying hu,Instr.sureAddr,Instr.sliceBounds,Instr.sliceBound,asIntOf,q2,h1,h2,e1,e2]
        have hsub:sub xs (l:Int) (r:Int)=(xs.drop l).take (r-l):=rfl;refine⟨_,hrun,.d _ _ ?_⟩;rw[hsub,G5,G6];have hlen:(((xs.map f).drop l).take (r-l)).length=r-l:=by simp;omega
        by_cases he:((xs.map f).drop l).take (r-l)=[];have h0 : r - l = 0 := by rw [<- hlen, he]; rfl
        rw[he,h0];exact .sl0 _ _ _;have hpos : 0 < r - l := by rw [<- hlen]; exact zal77q.2 he
        have hds:∀(i:Nat)(e:D),(((xs.map f).drop l).take (r-l))[i]?=some e->(xs.map f)[l+i]?=some e:=by
          intro i e he;rw[qG]at he;split at he
          rwa [pB]at he
          cases he
        have hone:∀d∈xs.map f,d.one=true:=h1'
        have hcell:∀{d:D},d∈xs.map f->d.cells=[d]:=fun {d} hd=>by
          have:=hone d hd;cases d<;>first|rfl|cases this
        rw[if_neg (by omega)]
        have := DRep.sl (w := w) (X := g.X) 1 (((xs.map f).drop l).take (r - l)) (ad.add (l * 1)) (n - l) (fun i j => val (l + i)) (by rw [xW]; exact hX) (by rw [hlen]; omega)
          (λi e he=>by rw[hcell (lG (hds i e he))];rfl) (λi e j c he hc=>by
            rw[hcell (lG (hds i e he))]at hc
            cases j with
            |zero=>cases hc;exact hone _ (lG (hds i _ he))
            |succ j=>cases hc)
          (λi e j c he hc=>by
            rw[hcell (lG (hds i e he))]at hc
            cases j with
            | zero =>
              cases hc;have:=hv (l+i) _ (by rw[fV];exact hds i _ he);rw[xb,show l*1+(i*1+0)=l+i by omega];exact this
            |succ j=>cases hc) (λi e j c he hc=>by
            rw[hcell (lG (hds i e he))]at hc
            cases j with
            | zero =>
              cases hc;exact hr (l+i) _ (by rw[fV];exact hds i _ he)
            |succ j=>cases hc)
        rw[hlen]at this;exact this
end
theorem K6{o:Oper}{ev:Operand->AV}{hp:List Blk}{f:Operand}{xs:Array Operand}{ts:Array TypeId}{F:FuncId}{mv:Nat->Bool}{ds rs:List D}(ho:o.op=.call { callee:=.value f,args:=xs,argTypes:=ts })(hf:ev f=.d (.fn F))(hx:y7 hp (xs.toList.map ev) ds)(hret:Ret C.P F [] mv (ds.map .d) (.tup (rs.map .d)) [])(hm:rs.all D.mem0=true):RdOk C o ev hp (.tup (rs.map .d)):=by
  intro st hhp hag g a w hs Q K' hK;have hfv:=hs.ev f;rw[hag f (by simp[ho,Op.operands,Call.operands]),hf]at hfv
  have hx':y7 st.hp (xs.toList.map st.fr.ev) ds:=by
    refine⟨by have:=hx.1;simpa using this,λi x d hxi hd=>?_⟩;simp only[gm,zQO]at hxi;obtain⟨y,hy,rfl⟩:=hxi;rw[hag y (by simp only[ho,Op.operands,Call.operands];exact zal9q.2 (.inr (zal10q.1 (lG hy))))];exact(hx.2 i (ev y) d (by simp[hy]) hd).le hhp
  have hargs:=Wo hs hx' (Y:=λb=>b<w.heap.size) hs.Xlt λi b hp=>(hs.lt i b hp).1;simp only[Oper.wp,lH ho (N0 hfv) hret.1,Oper.upon_enter,Y1];refine(hret.2 w (iS λb=>b<w.heap.size) _ (qBG hs mv λ_ h=>h) hargs).mono ?_;rintro e w' ⟨v,g',rfl,hout,hr⟩;have hold:∀b,b<w.heap.size->w'.heap[b]?=w.heap[b]?:=λb hb=>hout.keep b hb λi hi=>absurd hi (mQ i);have hsz:=hout.grown;simp only at hsz;have hgr:Grow w g w' g:=⟨λ_ _ h=>h,λ_ _ _=>rfl,λ_ h=>h,λb hb=>hold b (hs.Xlt b hb)⟩;refine hK v w' g ?_ ?_
  exact { defers := hs.defers, size := hs.size, fr := fun t => (hs.fr t).mono hgr, hp := fun i B hB => (hs.hp i B hB).mono hgr id fun b hb => hold b (hs.lt i b hb).1, lt := fun i b hp => by have := hs.lt i b hp; exact ⟨by omega, this.2.1, this.2.2⟩, inj := hs.inj, Xlt := fun b hb => by have := hs.Xlt b hb; omega, Xold := hs.Xold
          os:=hout.os.trans hs.os,tape:=hout.tape.trans hs.tape,output:=hout.output.trans hs.output,drawn:=jL hs.drawn hout.drawn,grown:=jL hs.grown hsz,keep:=λb hb hk=>by rw[hold b (by have:=hs.grown;omega)];exact hs.keep b hb hk,own:=hs.own,stay:=hs.stay,kle:=hs.kle,laid:=hs.laid }
  cases hr with
  |tup _ us hl hr=>
    refine .tup _ us hl λi c u hci hu=>?_;have h1:=hr i c u hci hu;simp only[gm,zQO]at hci;obtain⟨d,hd,rfl⟩:=hci;have hdm:D.mem0 d=true:=zQT.1 hm d (lG hd)
    cases h1 with
    |d _ _ h=>exact .d _ _ (h.any hdm)
end Go.TL
