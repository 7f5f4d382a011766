/- A part of the proof. No condition. -/
import Derived.Test.YtjmpojlgegloeaaGreatDoorQa
set_option linter.unusedSimpArgs false
set_option linter.unusedVariables false

namespace Go.TL
variable {C:Ctx}{ops:Array Oper}{l:List Oper}{K:St->Prop}{fr:Fr}{hp:List Blk}{P:Program}{w:World}{g:Gh}
section drawn
variable {acc:List Rec}{d:Nat}{op:Op}{ty:TypeId}{pos:String}{after:Array Edge}{gd:Option (Nat×Bool)}
theorem DT(h:bO C ops l ⟨fr,hp⟩ K)(hE:xd ops.toList acc.length (acc.map Rec.d) (acc.map pA)=true):TDr C ops K l fr hp acc:=.tail l fr hp acc hE h
end drawn
def gi(P:Program)(t:TypeId):Option (List (Nat×Nat)):=
  match P.underlying t with
  |some (.struct fs)=>fs.toList.mapM λf=>(P.info? f.type).map λi=>(f.offset,i.size)
  |_=>none
def Gq(pl:List (Nat×Nat)):List AV->List (Nat×AV)->Option (List AV)
  |cs,[]=>some cs
  |cs,(i,v)::r=>
    match pl[i]? with
    |some (off,s)=>bif v.flat&&v.cells.length == s&&Nat.ble (off+s) cs.length then Gq pl (spl cs off v.cells) r else none
    |none=>none
theorem Gp(pl : Array (Nat × Nat)) : ∀ (parts : List (Nat × AV)) (vals : List (Nat × Value)) (cs cs' : List AV) (cells : Array Value), Pw (fun (x : Nat × AV) (y : Nat × Value) => x.1 = y.1 /\ ARep w g x.2 y.2) parts vals ->
    Pw (ARep w g) cs cells.toList->Gq pl.toList cs parts=some cs'->∃cells',Instr.fill (pl[·]?) cells vals=some cells'/\Pw (ARep w g) cs' cells'.toList
  |[],vals,cs,cs',cells,hp,hc,h=>by
    have:vals=[]:=by have:=hp.1;simpa using this.symm
    subst this;cases h;exact⟨cells,rfl,hc⟩
  |(i,v)::r,[],cs,cs',cells,hp,hc,h=>by have:=hp.1;simp at this
  |(i,v)::r,(j,u)::vals,cs,cs',cells,hp,hc,h=>by
    obtain⟨he,hvu⟩:=hp.2 0 _ _ rfl rfl;simp only at he hvu;subst he;simp only[Gq]at h;split at h;rename_i off s hpl
    cases hb:(v.flat&&v.cells.length == s&&Nat.ble (off+s) cs.length)with
    |false=>rw[hb]at h;cases h
    |true=>
      rw[hb]at h;simp only[lH,beq_iff_eq,Nat.ble_eq]at hb;obtain⟨⟨hf,hs⟩,hle⟩:=hb;have hpv:=(hvu.pw hf).1;have hus:u.cells.size=s:=by have:=hpv.1;simp at this;omega
      have hcl:=hc.1;simp only[mQ]at hcl;have hfo:=Jp cells u.cells off (by omega)
      obtain ⟨cells', h1, h2⟩ := Gp pl r vals (spl cs off v.cells) cs' (u.cells.zipIdx.foldl (fun cs (c, j) => cs.setIfInBounds (off + j) c) cells)
        ⟨by have:=hp.1;simpa using this,λi x y hx hy=>hp.2 (i+1) x y (by simpa using hx) (by simpa using hy)⟩ (by rw[hfo];exact hc.spl off hpv) h
      refine⟨cells',?_,h2⟩;have hpl':pl[i]?=some (off,s):=by simpa using hpl
      simp only[Instr.fill,hpl'];rw[if_neg (by simp[hus];omega)];exact h1
    cases h
theorem run_plc{fs:List Field}{pl:List (Nat×Nat)}(w:World)(h:fs.mapM (λf=>(P.info? f.type).map λi=>(f.offset,i.size))=some pl):(fs.mapM (m:=Sem) λf=>do pure (f.offset,<- sizeOf f.type)).run P w=.ok pl w:=by
  induction fs generalizing pl with
  |nil=>simp at h;subst h;simp
  |cons f r ih=>
    rw[xl]at h;simp only[bind,zal115q,pure,mE,bZ]at h;obtain⟨p,⟨i,hi,rfl⟩,pl',hpl,rfl⟩:=h;have hf:(do pure (f.offset,<- sizeOf f.type):Sem (Nat×Nat)).run P w=.ok (f.offset,i.size) w:=by simp[sizeOf,typeInfo,hi]
    rw[xl,Sem.run_bind,hf,Result.andThen_ok,Sem.run_bind,ih hpl,Result.andThen_ok,Sem.run_pure]
theorem jD{o:Oper}{ev:Operand->AV}{t:TypeId}{parts:Array (Nat×Operand)}{z:Value}{zc cs:List AV}{pl:List (Nat×Nat)}{v:AV}(ho:o.op=.build t parts)(hpl:gi C.P t=some pl)(hz:(C.P.info? t).bind (·.zero)=some z)(hzf:(dV z).flat=true)(hzc:(dV z).cells=zc)
    (hf:Gq pl zc (parts.toList.map λp=>(p.1,ev p.2))=some cs) (hv:wK cs=v):RdOk C o ev hp v:=
  RdOk.mk λst hhp hag g a w hs=>by
    subst hv hzc;have hz':=jF w g z;have hpz:=(hz'.pw hzf).1
    have hparts:Pw (λ(x:Nat×AV)(y:Nat×Value)=>x.1=y.1/\ARep w g x.2 y.2) (parts.toList.map λp=>(p.1,ev p.2)) (parts.map λp=>(p.1,a.eval p.2)).toList:=by
      refine⟨by simp,λi x y hx hy=>?_⟩;simp only[cM,bZ,sD]at hx hy;obtain⟨p,hp,rfl⟩:=hx;obtain⟨q,hq,rfl⟩:=hy;rw[hp]at hq;cases hq;refine⟨rfl,?_⟩;have:=hs.ev p.2
      rw[hag p.2 (by
        simp only[ho,Op.operands];have:=dR hp
        first|exact Array.mem_map.2 ⟨p,zal10q.1 this,rfl⟩|(simp only[List.mem_toArray,zal76q];exact⟨p,this,rfl⟩))]at this
      exact this
    unfold gi at hpl;split at hpl;rename_i fs hu;obtain⟨cells',h1,h2⟩:=Gp pl.toArray _ _ _ _ z.cells hparts hpz (by simpa using hf);refine⟨.agg cells',?_,zD (by have:=h2.1;simpa using this) λi c v hc hv=>h2.2 i c v hc (by simpa using hv)⟩;obtain⟨inf,hinf,hzz⟩:=zal115q.1 hz;have hm:=run_plc (P:=C.P) w hpl
    have hma:(fs.mapM (m:=Sem) λf=>do pure (f.offset,<- sizeOf f.type)).run C.P w=.ok pl.toArray w:=by
      rw[Array.mapM_eq_mapM_toList,Sem.run_map,hm];rfl
    have h1':Instr.fill (λx=>pl.toArray[x]?) z.cells (parts.map λp=>(p.1,a.eval p.2)).toList=some cells':=h1;have hzv:(zeroValue t).run C.P w=.ok z w:=by simp[zeroValue,typeInfo,hinf,hzz]
    have hb:(Instr.build t (parts.map λp=>(p.1,a.eval p.2))).run C.P w=.ok (.agg cells') w:=by
      unfold Instr.build;rw[Sem.run_bind,hzv,Result.andThen_ok,Sem.run_bind,run_underlying hu,Result.andThen_ok];simp only;rw[Sem.run_bind,hma,Result.andThen_ok];simp only[h1',Sem.run_pure]
    simp only[execOp,ho];simp only[Sem.run_bind];have hb':(Instr.build t (parts.map λx=>(x.1,a.eval x.2))).run C.P w=.ok (.agg cells') w:=hb;rw[hb'];rfl;cases hpl
def uK(P:Program):Nat->TypeId->Option (List TypeDesc)
  |0,_=>none
  |n+1,t=>
    match P.underlying t with
    |some .bool=>some [.bool]
    |some (.int k)=>some [.int k]
    |some .string=>some [.string]
    |some (.struct fs)=>
      match fs.toList.mapM λf=>uK P n f.type with
      | some kss => bif sF P fs.toList 0 (P.cellsOf t) && (kss.map List.length == fs.toList.map fun f => P.cellsOf f.type) && fs.all (·.name != "_") then some kss.flatten else none
      |none=>none
    |_=>none
def F4:TypeDesc->Lit->Prop
  |.bool,.bool _=>True
  |.int k,.int k' n=>k'=k/\k.min<=n/\n<=k.max
  |.string,.string bs=>bs.length<=maxLen
  |_,_=>False
def gM:Lit->Value
  |.bool b=>.bool b
  |.int k n=>.int k n
  |.string bs=>.string ⟨bs.toArray⟩
  |_=>undef
def F5:D->Option Lit
  |.bool b=>some (.bool b)
  |.int k n=>some (.int k n)
  |.str s=>some (.string s.data.toList)
  |_=>none
def pE:List D->Option (List Lit)
  |[]=>some []
  |d::r=>match F5 d,pE r with
    |some x,some xs=>some (x::xs)
    |_,_=>none
def lJ:List TypeDesc->List Lit->Prop
  |[],[]=>True
  |k::ks,x::xs=>F4 k x/\lJ ks xs
  |_,_=>False
theorem kq{X:Nat->Prop}:∀(cs:List D)(L:List Lit)(vs:List Value),pE cs=some L->Pw (DRep w X) cs vs->vs=L.map gM
  |[],L,vs,h,hp=>by
    cases h;have:=hp.1;simpa using this.symm
  |d::r,L,[],h,hp=>by have:=hp.1;simp at this
  |d::r,L,v::vs,h,hp=>by
    simp only[pE]at h;split at h;rename_i x xs hx hxs;cases h;rw[fX,kq r xs vs hxs ⟨by have:=hp.1;simpa using this,λi x y hx hy=>hp.2 (i+1) x y (by simpa using hx) (by simpa using hy)⟩];have hd:=hp.2 0 d v rfl rfl
    congr 1
    cases d<;>simp only[F5]at hx<;>cases hx<;>cases hd<;>simp[gM];cases h
theorem qJ:∀{ks:List TypeDesc}{L:List Lit},lJ ks L->L.length=ks.length
  |[],[],_=>rfl
  |k::ks,x::xs,h=>by simp[qJ h.2]
  |[],_::_,h=>h.elim
  |_::_,[],h=>h.elim
theorem vT:∀{ks ks':List TypeDesc}{L:List Lit},lJ (ks++ks') L->lJ ks (L.take ks.length)/\lJ ks' (L.drop ks.length)
  |[],_,_,h=>⟨trivial,h⟩
  |_::_,_,_::_,h=>⟨⟨h.1,(vT h.2).1⟩,(vT h.2).2⟩
  |_::_,_,[],h=>h.elim
theorem bm(n m:Nat)(IH:∀(t:TypeId)(ks:List TypeDesc)(L:List Lit),uK P n t=some ks->lJ ks L->P.keyLits n t (L.map gM)=some L)(A:List Value)(tot:Nat):
    ∀ (fs : List Field) (kss : List (List TypeDesc)) (L : List Lit) (o : Nat), fs.mapM (fun f => uK P n f.type) = some kss -> kss.map List.length = (fs.map fun f => P.cellsOf f.type) -> sF P fs o tot = true -> lJ kss.flatten L -> A.drop o = L.map gM ->
      ∃Ls,fs.mapM (λf=>P.keyLits n f.type ((A.drop f.offset).take (P.cellsOf f.type)))=some Ls/\Ls.flatten=L
  |[],kss,L,o,hk,_,ht,hL,hA=>by
    simp at hk;subst hk
    cases L with
    |nil=>exact⟨[],by simp,rfl⟩
    |cons x r=>exact hL.elim
  |f::fs,kss,L,o,hk,hlen,ht,hL,hA=>by
    rw[xl]at hk;simp only[bind,zal115q,pure,mE]at hk;obtain⟨k1,hk1,kr,hkr,rfl⟩:=hk;simp only[fX,cR]at hlen;simp only[sF,lH,beq_iff_eq]at ht;simp only[List.flatten_cons]at hL;obtain⟨h1,h2⟩:=vT hL;obtain⟨Ls,e1,e2⟩:=bm n m IH A tot fs kr (L.drop k1.length) (o+P.cellsOf f.type) hkr hlen.2 ht.2 h2 (by rw[<- List.drop_drop,hA,<- hlen.1,C5]);refine⟨L.take k1.length::Ls,?_,by rw[List.flatten_cons,e2,Hf]⟩;rw[xl];have:(A.drop f.offset).take (P.cellsOf f.type)=(L.take k1.length).map gM:=by rw[ht.1,hA,<- hlen.1,xk]
    rw[this,IH f.type k1 _ hk1 h1,e1];rfl
theorem vU:∀(n:Nat)(t:TypeId)(ks:List TypeDesc)(L:List Lit),uK P n t=some ks->lJ ks L->P.keyLits n t (L.map gM)=some L
  |0,_,_,_,h,_=>by cases h
  |n+1,t,ks,L,h,hL=>by
    unfold uK at h;unfold Program.keyLits;split at h
    · rename_i hu
      cases h
      match L,hL with
      |[x],hL=>cases x<;>first|exact hL.1.elim|(simp only[hu,fX,uY,gM])
      |[],hL=>exact hL.elim
      |_::_::_,hL=>exact hL.2.elim
    · rename_i k hu
      cases h
      match L,hL with
      |[x],hL=>
        cases x<;>first|exact hL.1.elim|skip
        rename_i k' m;obtain⟨⟨rfl,h1,h2⟩,_⟩:=hL;simp only[hu,fX,uY,gM];rw[if_pos (by simp[Lit.wf,h1,h2])]
      |[],hL=>exact hL.elim
      |_::_::_,hL=>exact hL.2.elim
    · rename_i hu
      cases h
      match L,hL with
      |[x],hL=>
        cases x<;>first|exact hL.1.elim|skip
        rename_i bs;have:bs.length<=maxLen:=hL.1;simp only[hu,fX,uY,gM];rw[if_pos (by simpa[ByteArray.size]using this)]
      |[],hL=>exact hL.elim
      |_::_::_,hL=>exact hL.2.elim
    rename_i fs hu;split at h;rename_i kss hk
    cases hb : (sF P fs.toList 0 (P.cellsOf t) && (kss.map List.length == fs.toList.map fun f => P.cellsOf f.type) && fs.all (·.name != "_")) with
    |false=>rw[hb]at h;cases h
    |true=>
      rw[hb]at h;cases h;simp only[lH,beq_iff_eq]at hb;obtain⟨Ls,e1,e2⟩:=bm n n (vU n) (L.map gM) (P.cellsOf t) fs.toList kss L 0 hk hb.1.2 hb.1.1 hL (by simp)
      have hlen:(L.map gM).length=P.cellsOf t:=by
        rw[lQ,qJ hL]
        have:∀(fs:List Field)(kss:List (List TypeDesc)) (o:Nat),kss.map List.length=(fs.map λf=>P.cellsOf f.type)->sF P fs o (P.cellsOf t)=true->o+kss.flatten.length=P.cellsOf t:=by
          intro fs
          induction fs with
          | nil => intro kss o h1 h2; have : kss = [] := by simpa using h1
                   subst this;simpa[sF]using h2
          |cons f r ih=>
            intro kss o h1 h2
            match kss,h1 with
            |k::kr,h1=>
              simp only[fX,cR]at h1;simp only[sF,lH,beq_iff_eq]at h2;have:=ih kr _ h1.2 h2.2;simp only[List.flatten_cons,kI];omega
            |[],h1=>simp at h1
        have:=this fs.toList kss 0 hb.1.2 hb.1.1;omega
      simp only[hu];rw[if_pos ⟨hlen,hb.2⟩,e1];simp[e2]
    cases h;cases h
theorem eq_agg{o:Oper}{ev:Operand->AV}{x y:Operand}{t t':TypeId}{cs ds:List D}{L M:List Lit}{ks:List TypeDesc}{b:Bool}(ho:o.op=.binOp .eql t x y t'\/o.op=.binOp .neq t x y t')(hx:ev x=.d (.agg cs))(hy:ev y=.d (.agg ds))
    (hk:uK C.P 30 t=some ks) (hkt:(C.P.keyTypeAt 30 t&&!C.P.eqGuardType C.P.depth t&&(match C.P.underlying t with|some (.struct _)=>true|_=>false)&&ks.length == C.P.cellsOf t)=true) (hL:pE cs=some L) (hM:pE ds=some M) (h1:lJ ks L) (h2:lJ ks M)
    (hb:L=M↔b=true):RdOk C o ev hp (.d (.bool (match o.op with|.binOp .neq _ _ _ _=>!b|_=>b))):=
  RdOk.mk λst hhp hag g a w hs=>by
    simp only[lH,rB,beq_iff_eq]at hkt;obtain⟨⟨⟨hkt,hgd⟩,hst⟩,hkl⟩:=hkt
    have open':∀(z:Operand)(cs:List D)(L:List Lit),z∈o.op.operands->ev z=.d (.agg cs)->pE cs=some L->a.eval z=.agg (L.map gM).toArray:=by
      intro z cs L hz he hl;have h:=hs.ev z;rw[hag z hz,he]at h;generalize a.eval z=v at *
      cases h with
      |d _ _ h=>
        cases h with
        |agg _ vs hlen _ h=>
          have:=kq cs L vs.toList hl ⟨by simpa using hlen,λi x y hx hy=>h i x y hx (by simpa using hy)⟩;rw[<- this]
    have hxm:x∈o.op.operands:=by rcases ho with ho|ho<;>simp[ho,Op.operands]
    have hym:y∈o.op.operands:=by rcases ho with ho|ho<;>simp[ho,Op.operands]
    have e1:=open' x cs L hxm hx hL;have e2:=open' y ds M hym hy hM
    have formed:∀N:List Lit,lJ ks N->Value.formed C.P t (.agg (N.map gM).toArray)=true:=λN hN=>by
      have:=qJ hN;split at hst;rename_i hu;simp[Value.formed,hu];omega;cases hst
    obtain⟨r,hr,hiff⟩:=run_equalIn_deep (P:=C.P) (10000-30) 30 t hkt w 30 30 _ _ L M (formed L h1) (formed M h2) (by simpa[Value.cells]using vU 30 t ks L hk h1) (by simpa[Value.cells]using vU 30 t ks M hk h2);have hrb:r=b:=by cases r<;>cases b<;>simp_all
    subst hrb;have heq:(Op.equal t (.agg (L.map gM).toArray) (.agg (M.map gM).toArray)).run C.P w=.ok r w:=hr;rcases ho with ho|ho
    refine⟨.bool r,?_,?_⟩
    · simp only[execOp,ho,e1,e2]
      simp[eqGuard,binOp,hgd,heq]
    simp only[ho];exact .d _ _ (.bool _);refine⟨.bool (!r),?_,?_⟩
    · simp only[execOp,ho,e1,e2]
      simp[eqGuard,binOp,hgd,heq]
    simp only[ho];exact .d _ _ (.bool _)
theorem Ip{o:Oper}{ev:Operand->AV}{x y:Operand}{t t':TypeId}{cs ds:List D}{L M:List Lit}{ks:List TypeDesc}{b:Bool}(ho:o.op=.binOp .eql t x y t')(hx:ev x=.d (.agg cs))(hy:ev y=.d (.agg ds))
    (hk:uK C.P 30 t=some ks) (hkt:(C.P.keyTypeAt 30 t&&!C.P.eqGuardType C.P.depth t&&(match C.P.underlying t with|some (.struct _)=>true|_=>false)&&ks.length == C.P.cellsOf t)=true) (hL:pE cs=some L) (hM:pE ds=some M) (h1:lJ ks L) (h2:lJ ks M)
    (hb:L=M↔b=true):RdOk C o ev hp (.d (.bool b)):=by
  have:=eq_agg (hp:=hp) (.inl ho) hx hy hk hkt hL hM h1 h2 hb;simpa only[ho]using this
theorem eq_not{o:Oper}{ev:Operand->AV}{x y:Operand}{t t':TypeId}{cs ds:List D}{L M:List Lit}{ks:List TypeDesc}{b:Bool}(ho:o.op=.binOp .neq t x y t')(hx:ev x=.d (.agg cs))(hy:ev y=.d (.agg ds))
    (hk:uK C.P 30 t=some ks) (hkt:(C.P.keyTypeAt 30 t&&!C.P.eqGuardType C.P.depth t&&(match C.P.underlying t with|some (.struct _)=>true|_=>false)&&ks.length == C.P.cellsOf t)=true) (hL:pE cs=some L) (hM:pE ds=some M) (h1:lJ ks L) (h2:lJ ks M)
    (hb:L=M↔b=true):RdOk C o ev hp (.d (.bool (!b))):=by
  have:=eq_agg (hp:=hp) (.inr ho) hx hy hk hkt hL hM h1 h2 hb;simpa only[ho]using this
theorem bR{o:Oper}{ev:Operand->AV}{t:TypeId}{parts:Array (Nat×Operand)}{z:Value}{zc cs:List AV}{pl:List (Nat×Nat)}{ds:List D}(ho:o.op=.build t parts)(hpl:gi C.P t=some pl)(hz:(C.P.info? t).bind (·.zero)=some z)(hzf:(dV z).flat=true)(hzc:(dV z).cells=zc)
    (hf:Gq pl zc (parts.toList.map λp=>(p.1,ev p.2))=some cs) (hv:wK cs=.d (.agg ds)):RdOk C o ev hp (.d (.agg ds)):=jD ho hpl hz hzf hzc hf hv
theorem eB{F:FuncId}{fn:Func}{c:Code}{hp hp':List Blk}{mv:Nat->Bool}{args:List AV}{r:AV}{n:Nat}{rs:List ResultVar}(hcb:kD P F=true)(hf:P.funcs[F]?=some fn)(hb:fn.body=some c)(hn:fn.ntmps=n)(hrs:fn.results.toList=rs)(hle:Nat.ble args.length n=true)
    (h:∀w g,TWp ⟨P,n,w,hp.length,g,mv⟩ c ⟨oO args,hp⟩ (G7 P hp.length rs r hp')):Ret P F hp mv args r hp':=by
  subst hn hrs;exact Fk hcb hf hb (dK hle) h
theorem Df{c:Operand}{x y:Code}{Q:Exit->St->Prop}{b:Bool}(hc:fr.ev c=.d (.bool b))(k:Bool)(hk:b=k)(h:TWp C (bif k then x else y) ⟨fr,hp⟩ Q):TWp C (.cond c x y) ⟨fr,hp⟩ Q:=by
  subst hk;exact TC b hc (λe=>by subst e;exact h) (λe=>by subst e;exact h)
theorem oZ(t:Nat){v:AV}(v':AV)(hv:Fr.get fr t=v)(he:v=v')(h:bO C ops l ⟨(t,v')::fr,hp⟩ K):bO C ops l ⟨fr,hp⟩ K:=by
  subst he;intro g a w hs;refine h g a w { hs with fr:=λt'=>?_ };have:=hs.fr t';simp only[Fr.get];split;rename_i e;subst e;rw[<- hv];exact this;exact this
theorem Ce{id sz n:Nat}{ty:TypeId}{es:List D}(h:hp[id]?=some (.flat ty sz es))(hn:n=es.length):Snap hp (.msl id sz 0 n) (.sl sz es):=
  (Snap.msl id sz 0 n ty es h (by omega)).same (by subst hn;simp)
inductive SnapsO (hp:List Blk):List AV->List D->Prop
  |nil:SnapsO hp [] []
  |cons {x:AV} {d:D} {xs:List AV} {ds:List D} (h:Snap hp x d) (h1:d.one=true) (hr:SnapsO hp xs ds):SnapsO hp (x::xs) (d::ds)
theorem fP{cs:List AV}{ds:List D}(h:SnapsO hp cs ds):Snap hp (.agg cs) (.agg ds):=by
  have key:cs.length=ds.length/\(∀d∈ds,d.one=true)/\∀(i:Nat)(c:AV)(d:D),cs[i]?=some c->ds[i]?=some d->Snap hp c d:=by
    induction h with
    |nil=>exact⟨rfl,λd hd=>by simp at hd,λi c d hc=>by simp at hc⟩
    |cons h h1 _ ih=>
      refine⟨by simp[ih.1],λd hd=>?_,λi c d hc hd=>?_⟩;simp only[zal72q]at hd;rcases hd with rfl|hd
      exact h1;exact ih.2.1 d hd
      cases i with
      |zero=>simp at hc hd;subst hc hd;exact h
      |succ i=>exact ih.2.2 i c d (by simpa using hc) (by simpa using hd)
  exact .agg cs ds key.1 key.2.1 key.2.2
def evD:List AV->Option (List D)
  |[]=>some []
  |.d x::r=>match evD r with|some xs=>some (x::xs)|none=>none
  |_=>none
theorem yF:∀{cs:List AV}{ds:List D},evD cs=some ds->cs=ds.map .d
  |[],ds,h=>by cases h;rfl
  |c::r,ds,h=>by
    cases c with
    |d x=>
      simp only[evD]at h;split at h;rename_i xs hx;cases h;rw[yF hx];rfl;cases h
    |_=>simp[evD]at h
theorem s_litD{d:Nat}{ty:TypeId}{pos:String}{after:Array Edge}{t e:TypeId}{parts:Array (Nat×Operand)}{n sz by':Nat}{ds:List D}{z:Value}(xs:List Operand)(hd:decide (d<C.n)=true)(hl:sel C.P t=some (e,sz,by'))(hz:(C.P.info? e).bind (·.zero)=some z)(hp':oG parts xs)(hx:evD (xs.map fr.ev)=some ds)(hn:Nat.beq ds.length n=true)
    (hs:(ds.all λd=>Nat.beq d.cells.length sz)=true) (hsmall:Nat.ble (n*sz) 16777216=true) (h:bO C ops l ⟨(d,.msl hp.length sz 0 n)::fr,hp++[.flat e sz ds]⟩ K):bO C ops (⟨some d,.buildSlice t n parts,ty,pos,after,none⟩::l) ⟨fr,hp⟩ K:=
  s_lit xs hd hl hz hp' (yF hx) (dO hn) (λd hd=>dO (zal27q.1 hs d hd)) (dK hsmall) h
theorem RetN.mk{F:FuncId}{ds:List D}{d:D}{r:AV}{hp':List Blk}(h:Ret P F [] (λ_=>false) (ds.map .d) r hp')(hs:Snap hp' r d)(hm:AMem0 r)(hb:∀B∈hp',Bl B):RetN P F ds d:=⟨_,r,hp',h,hs,hm,hb⟩
theorem RetN.flat{F:FuncId}{ds:List D}{sz n:Nat}{ty:TypeId}{es:List D}(h:Ret P F [] (λ_=>false) (ds.map .d) (.msl 0 sz 0 n) [.flat ty sz es])(hn:n=es.length)(hm:∀e∈es,D.mem0 e=true):RetN P F ds (.sl sz es):=
  .mk h (Ce rfl hn) (.msl _ _ _ _) λB hB=>by simp only[zal82q]at hB;subst hB;exact hm
theorem RetN.lit{F:FuncId}{ds:List D}{d:D}(h:Ret P F [] (λ_=>false) (ds.map .d) (.d d) [])(hm:D.mem0 d=true):RetN P F ds d:=.mk h (.d d) (.d d hm) λB hB=>by simp at hB
theorem Jn{α:Type}{f:α->D}{xs:List α}{i:Nat}{x:α}(h:xs[i]?=some x):(0:Int)<=(i:Int)/\(xs.map f)[((i:Int)).toNat]?=some (f x):=⟨by omega,by simp[h]⟩
theorem Ir{α:Type}{f:α->D}{xs:List α}{i:Nat}{x:α}(h:xs[i]?=some x):(xs.map f)[i]?=some (f x):=by simp[h]
variable {C:Ctx}{st:St}{g:Gh}{a:Act}{w:World}{P:Program}
theorem tD{o:Oper}{ev:Operand->AV}{hp:List Blk}{F:FuncId}{caps:Array Operand}(ho:o.op=.makeFunc (.func F) #[] caps):RdOk C o ev hp (.fnc F (caps.toList.map ev)):=
  RdOk.mk λst hhp hag g a w hs=>by
    refine⟨.func (.func F) #[] (caps.map a.eval),by simp[execOp,ho,Instr.makeFunc],.fnc _ _ _ (by simp) λi c v hc hv=>?_⟩;simp only[cM,bZ]at hc;simp only[Array.getElem?_map,bZ]at hv;obtain⟨y,hy,rfl⟩:=hc;obtain⟨z,hz,rfl⟩:=hv;have e:y=z:=by rw[<- Array.getElem?_toList,hy]at hz;exact aS hz
    subst e;have h:=hs.ev y;rw[hag y (by simp only[ho,Op.operands];exact zal9q.2 (.inr (zal10q.1 (dR hy))))]at h;exact h
def sV:D->Option (FuncId×List D)
  |.fn F=>some (F,[])
  |.clo F cs=>some (F,cs)
  |_=>none
theorem fh{c:D}{F:FuncId}{cs:List D}{X:Nat->Prop}{v:Value}(h:DRep w X c v)(hc:sV c=some (F,cs)):∃vs:Array Value,v=.func (.func F) #[] vs/\Pw (DRep w X) cs vs.toList:=by
  cases h with
  |fn f=>cases hc;exact⟨#[],rfl,rfl,λi x y h=>by simp at h⟩
  |clo f cs vs hl h=>cases hc;exact⟨vs,rfl,by simpa using hl,λi x y hx hy=>h i x y hx (by simpa using hy)⟩
  |_=>cases hc
theorem Out.frozen{hp':List Blk}{g':Gh}{w':World}{mv:Nat->Bool}(hs:Sim C st g a w)(hout:Out ⟨C.P,0,w,0,dF g.X,mv⟩ hp' g' w'):
    ∃g2,Sim C st g2 a w'/\∀(r:AV)(d:D)(v:Value),ARep w' g' r v->Snap hp' r d->ARep w' g2 (.d d) v:=by
  have hX:∀b,g'.X b->b<w.heap.size->g.X b:=λb hb hlt=>hout.Xold b hb hlt;have hold:∀b,b<w.heap.size->w'.heap[b]?=w.heap[b]?:=λb hb=>hout.keep b hb λi hi=>absurd hi (iO i);have hsz:=hout.grown;simp only at hsz
  let g2:Gh:={ g with X:=λb=>g.X b\/(w.heap.size<=b/\b<w'.heap.size) }
  have hgr:Grow w g w' g2:=⟨λ_ _ h=>h,λ_ _ _=>rfl,λ_ h=>.inl h,λb hb=>hold b (hs.Xlt b hb)⟩;refine⟨g2,?_,λr d v hr hsn=>(.d _ _ (oV (st:=⟨[],hp'⟩) hout.hp hsn (Y:=g2.X) (λb hb=>?_) (λi b hp=>?_) hr))⟩
  refine { defers := hs.defers, size := hs.size, fr := fun t => (hs.fr t).mono hgr, hp := fun i B hB => (hs.hp i B hB).mono hgr id fun b hb => hold b (hs.lt i b hb).1, lt := ?_, inj := hs.inj, Xlt := ?_, Xold := ?_
           os:=hout.os.trans hs.os,tape:=hout.tape.trans hs.tape,output:=hout.output.trans hs.output,drawn:=dQ hs.drawn hout.drawn,grown:=dQ hs.grown hsz,keep:=?_,own:=hs.own,stay:=hs.stay,kle:=hs.kle,laid:=hs.laid }
  · intro i b hp
    have:=hs.lt i b hp;refine⟨by omega,this.2.1,λhX=>?_⟩;rcases hX with hX|⟨hX,_⟩
    exact this.2.2 hX;omega
  intro b hb;rcases hb with hb|⟨_,hb⟩
  have:=hs.Xlt b hb;omega;exact hb;intro b hb hlt;rcases hb with hb|⟨hge,_⟩
  exact hs.Xold b hb hlt;have:=hs.grown;omega;intro b hb hk;rw[hold b (by have:=hs.grown;omega)];exact hs.keep b hb hk;by_cases hlt:b<w.heap.size
  · exact .inl (hX b hb hlt)
  exact .inr ⟨by omega,hout.Xlt b hb⟩;refine .inr ⟨?_,(hout.lt i b hp).1⟩;rcases dB b w.heap.size with hlt|hge
  exact absurd (hout.own i b hp hlt).1 (iO _);exact hge
inductive SnapT (hp:List Blk):AV->List D->Prop
  |mk (xs:List AV) (ds:List D) (h:wP hp xs ds):SnapT hp (.tup xs) ds
def RetT(P:Program)(F:FuncId)(ds:List D)(rs:List D):Prop:=∃mv r hp',Ret P F [] mv (ds.map .d) r hp'/\SnapT hp' r rs
theorem dargs{ev:Operand->AV}{xs:Array Operand}{ds cs:List D}{vs:Array Value}(hs:Sim C st g a w)(hag:∀y∈xs,st.fr.ev y=ev y)(hx:xs.toList.map ev=ds.map .d)(hc:Pw (DRep w g.X) cs vs.toList):
    Pw (ARep w (dF g.X)) ((ds++cs).map .d) (xs.map a.eval++vs).toList:=by
  rw[mU,xu];refine Pw.append ?_ ?_;refine ⟨by have := congrArg List.length hx; simpa using this.symm, fun i x v hxi hv => ?_⟩;simp only[sD,cM,bZ]at hv;obtain⟨y,hy,rfl⟩:=hv;have h1:(xs.toList.map ev)[i]?=some (ev y):=by simp[hy]
  rw[hx,hxi]at h1;cases h1;have h2:=hs.ev y;rw[hag y (zal10q.1 (dR hy))]at h2;simp only[cM,bZ]at hxi;obtain⟨d,_,hd⟩:=hxi;rw[<- hd]at h2⊢;cases h2 with|d _ _ h=>exact .d _ _ h
  refine ⟨by simpa using hc.1, fun i x v hxi hv => ?_⟩;simp only[cM,bZ]at hxi;obtain⟨d,hd,rfl⟩:=hxi;exact .d _ _ (hc.2 i d v hd hv)
section calls
variable {o:Oper}{ev:Operand->AV}{hp:List Blk}{f:Operand}{xs:Array Operand}{ts:Array TypeId}{F:FuncId}
theorem pB{c:D}{cs ds:List D}{d:D}(ho:o.op=.call { callee:=.value f,args:=xs,argTypes:=ts })(hf:ev f=.d c)(hc:sV c=some (F,cs))(hx:xs.toList.map ev=ds.map .d)(hret:RetD C.P F (ds++cs) d):RdOk C o ev hp (.d d):=by
  obtain⟨mv,r,hp',hret,hsn⟩:=hret;intro st hhp hag g a w hs Q K' hK;have hfv:=hs.ev f;rw[hag f (by simp[ho,Op.operands,Call.operands]),hf]at hfv
  obtain⟨vs,hv,hvs⟩:∃vs:Array Value,a.eval f=.func (.func F) #[] vs/\Pw (DRep w g.X) cs vs.toList:=by
    cases hfv with|d _ _ h=>exact fh h hc
  have hargs:=dargs hs (λy hy=>hag y (by simp only[ho,Op.operands,Call.operands];exact zal9q.2 (.inr hy))) hx hvs;simp only[Oper.wp,eH ho hv hret.1,Oper.upon_enter];refine(hret.2 w (dF g.X) _ (D2 hs mv hs.Xlt) hargs).mono ?_;rintro e w' ⟨v,g',rfl,hout,hr⟩;obtain⟨g2,h1,h2⟩:=Out.frozen hs hout;exact hK v w' g2 h1 (h2 _ _ _ hr hsn)
theorem kh{c:D}{cs ds rs:List D}(ho:o.op=.call { callee:=.value f,args:=xs,argTypes:=ts })(hf:ev f=.d c)(hc:sV c=some (F,cs))(hx:xs.toList.map ev=ds.map .d)(hret:RetT C.P F (ds++cs) rs):RdOk C o ev hp (.tup (rs.map .d)):=by
  obtain⟨mv,r,hp',hret,hsn⟩:=hret;intro st hhp hag g a w hs Q K' hK;have hfv:=hs.ev f;rw[hag f (by simp[ho,Op.operands,Call.operands]),hf]at hfv
  obtain⟨vs,hv,hvs⟩:∃vs:Array Value,a.eval f=.func (.func F) #[] vs/\Pw (DRep w g.X) cs vs.toList:=by
    cases hfv with|d _ _ h=>exact fh h hc
  have hargs:=dargs hs (λy hy=>hag y (by simp only[ho,Op.operands,Call.operands];exact zal9q.2 (.inr hy))) hx hvs;simp only[Oper.wp,eH ho hv hret.1,Oper.upon_enter];refine(hret.2 w (dF g.X) _ (D2 hs mv hs.Xlt) hargs).mono ?_;rintro e w' ⟨v,g',rfl,hout,hr⟩
  cases hsn with
  |mk ys ds' hsn=>
    cases hr with
    |tup _ us hl hr=>
      obtain⟨g2,h1,h2⟩:=Out.frozen hs hout;refine hK _ w' g2 h1 (.tup _ us (by rw[lQ,<- hsn.1];exact hl) λi c u hci hu=>?_);simp only[cM,bZ]at hci;obtain⟨d,hd,rfl⟩:=hci;have hi:i<ys.length:=by rw[hsn.1];exact(zal44q.1 hd).1
      exact h2 _ _ _ (hr i ys[i] u (by simp[hi]) hu) (hsn.2 i ys[i] d (by simp[hi]) hd)
end calls
def Gv(P:Program)(t:TypeId):Bool:=
  match P.underlying t with
  |some (.interface _)=>false
  |some _=>true
  |none=>false
theorem Gu{t:TypeId}(h:Gv P t=true):∃u,P.underlying t=some u/\∀ms,u≠.interface ms:=by
  unfold Gv at h;split at h;cases h;rename_i u hne hu;exact⟨u,hu,λms e=>hne ms e⟩;cases h
section ifc
variable {o:Oper}{ev:Operand->AV}{hp:List Blk}{x y:Operand}{t:TypeId}
theorem Hw{d:D}(ho:o.op=.makeInterface t x)(hc:Gv C.P t=true)(hx:ev x=.d d):RdOk C o ev hp (.d (.iface t d)):=
  RdOk.mk λst hhp hag g a w hs=>by
    have h:=hs.ev x;rw[hag x (by simp[ho,Op.operands]),hx]at h;obtain⟨u,hu,hne⟩:=Gu hc;refine⟨.iface t (a.eval x),?_,.d _ _ (.iface _ _ _ (by cases h with|d _ _ h=>exact h))⟩;simp only[execOp,ho];cases u<;>first|(exfalso;exact hne _ rfl)|simp[Instr.makeInterface,run_underlying hu]
theorem ek{xt:TypeId}{d:D}(ho:o.op=.typeAssert x xt t true)(hc:Gv C.P t=true)(hx:ev x=.d (.iface t d)):RdOk C o ev hp (.tup [.d d,.d (.bool true)]):=
  RdOk.mk λst hhp hag g a w hs=>by
    have h:=hs.ev x;rw[hag x (by simp[ho,Op.operands]),hx]at h;generalize he:a.eval x=vx at *;obtain⟨u,hu,hne⟩:=Gu hc
    cases h with
    |d _ _ h=>
      cases h with
      |iface _ _ v h=>
        refine⟨.tuple #[v,.bool true],?_,.tup _ _ rfl λi c v hc hv=>?_⟩
        · simp only[execOp,ho,he]
          cases u<;>first|(exfalso;exact hne _ rfl)|simp[Instr.typeAssert,run_underlying hu]
        match i,hc,hv with
        |0,hc,hv=>simp at hc hv;subst hc hv;exact .d _ _ h
        |1,hc,hv=>simp at hc hv;subst hc hv;exact .d _ _ (.bool true)
        |i+2,hc,_=>simp at hc
theorem qH{t:TypeId}{z:Value}(hz:(P.info? t).bind (·.zero)=some z)(w:World):(zeroValue t).run P w=.ok z w:=by
  obtain⟨i,hi,hzi⟩:=nB hz;simp[zeroValue,typeInfo,hi,hzi]
theorem Kg{t e:TypeId}(hu:P.underlying t=some (.slice e))(b:Option Addr)(n cap:Nat)(w:World):(binOp .eql t (.slice b n cap) (.slice none 0 0)).run P w=.ok (.bool b.isNone) w:=by
  have h:(Op.equalIn (9999+1) t (.slice b n cap) (.slice none 0 0)).run P w=.ok b.isNone w:=by
    unfold Op.equalIn;cases b<;>simp[run_underlying hu]
  have h':(Op.equal t (.slice b n cap) (.slice none 0 0)).run P w=.ok b.isNone w:=h;simp[binOp,h']
theorem guard_sl{op:BinOp}{t:TypeId}{b b':Option Addr}{n n' cap cap':Nat}(w:World):(eqGuard op t x y (.slice b n cap) (.slice b' n' cap')).run P w=.ok () w:=by
  unfold eqGuard;cases op<;>simp
theorem eqNil{o:Oper}{K:St->Prop}{t t' e:TypeId}{x y:Operand}{d:D}{n:Nat}(ho:o.op=.binOp .eql t x y t')(hd:kZ C.n o.dst=true)(hu:C.P.underlying t=some (.slice e))(hx:st.fr.ev x=.d d)(hn:(AV.d d).slLen=some n)(hy:st.fr.ev y=.d .nilsl)(hy':y=.const (.slice none 0 0))
    (h:∀b:Bool,(b=true->n=0)->K (st.put o.dst (.d (.bool b)))):OpOk C o st K:=by
  subst hy';intro g a w Q hs;have hv:=hs.ev x;rw[hx]at hv
  obtain⟨b,len,cap,hv,hb⟩:∃b len cap,a.eval x=.slice b len cap/\(b.isNone=true->n=0):=by
    generalize a.eval x=v at *
    cases hv with
    |d _ _ h=>
      cases h with
      |nilsl ad=>exact⟨_,_,_,rfl,λ_=>by simpa[AV.slLen]using hn.symm⟩
      |sl0=>exact⟨_,_,_,rfl,λ_=>by simpa[AV.slLen]using hn.symm⟩
      |sl=>exact⟨_,_,_,rfl,λh=>by cases h⟩
      |_=>cases hn
  have hr:(execOp a.eval o).run C.P w=.ok (.value (.bool b.isNone)) w:=by
    have he:a.eval (.const (.slice none 0 0))=.slice none 0 0:=rfl;simp only[execOp,ho,hv,he,Sem.run_bind,guard_sl,Result.andThen_ok,Kg hu];rfl
  simp only[Oper.wp,hr,Oper.upon_value];exact⟨_,g,h _ hb,hs.put' hd (.d _ _ (.bool _))⟩
theorem Dp{o:Oper}{ev:Operand->AV}{hp:List Blk}{x y:Operand}{ts:Array TypeId}{k:IntKind}{m n r:Int}(ho:o.op=.call { callee:=.builtin .min,args:=#[x,y],argTypes:=ts })(hx:ev x=.d (.int k m))(hy:ev y=.d (.int k n))(hr:min m n=r):RdOk C o ev hp (.d (.int k r)):=
  RdOk.mk λst hhp hag g a w hs=>by
    have h:=hs.ev x;rw[hag x (by simp[ho,Op.operands,Call.operands]),hx]at h;have hi:=hs.ev y;rw[hag y (by simp[ho,Op.operands,Call.operands]),hy]at hi;refine⟨.int k r,?_,.d _ _ (.int k r)⟩;subst hr;simp only[execOp,ho];simp[resolve,invoke,builtin,int_inv h,int_inv hi,run_min_int2];simp only[Int.min_def];split<;>split<;>first|rfl|omega
theorem Dq{o:Oper}{ev:Operand->AV}{hp:List Blk}{x y:Operand}{ts:Array TypeId}{k:IntKind}{m n r:Int}(ho:o.op=.call { callee:=.builtin .max,args:=#[x,y],argTypes:=ts })(hx:ev x=.d (.int k m))(hy:ev y=.d (.int k n))(hr:max m n=r):RdOk C o ev hp (.d (.int k r)):=
  RdOk.mk λst hhp hag g a w hs=>by
    have h:=hs.ev x;rw[hag x (by simp[ho,Op.operands,Call.operands]),hx]at h;have hi:=hs.ev y;rw[hag y (by simp[ho,Op.operands,Call.operands]),hy]at hi;refine⟨.int k r,?_,.d _ _ (.int k r)⟩;subst hr;simp only[execOp,ho];simp[resolve,invoke,builtin,int_inv h,int_inv hi,run_max_int2];simp only[Int.max_def];split<;>split<;>first|rfl|omega
end ifc
def In(P:Program)(s:TypeId)(f:Nat):Option (Nat×Bool×Nat):=
  match P.underlying s with
  |some (.struct fs)=>match fs[f]? with
    |some fl=>match lay P fl.type with
      |some (b,n)=>some (fl.offset,b,n)
      |none=>none
    |none=>none
  |_=>none
theorem Km{o:Oper}{ev:Operand->AV}{hp:List Blk}{s:TypeId}{x:Operand}{f fo n:Nat}{u v:AV}(ho:o.op=.field s x f)(hf:In C.P s f=some (fo,false,n))(hx:ev x=u)(hagg:u.isAgg=true)(hv:u.cells[fo]?=some v):RdOk C o ev hp v:=by
  unfold In at hf;split at hf;rename_i fs hu;split at hf;rename_i fl hfl;split at hf;rename_i b n' hl;cases hf;exact Fs _ _ false _ u v fs fl ho hu hfl rfl rfl hl hx hagg (by simpa using hv);cases hf;cases hf;cases hf
theorem H0{o:Oper}{ev:Operand->AV}{hp:List Blk}{s:TypeId}{x:Operand}{f fo n:Nat}{u v:AV}(ho:o.op=.field s x f)(hf:In C.P s f=some (fo,true,n))(hx:ev x=u)(hagg:u.isAgg=true)(hle:Nat.ble (fo+n) u.cells.length=true)(hv:wK ((u.cells.drop fo).take n)=v):RdOk C o ev hp v:=by
  unfold In at hf;split at hf;rename_i fs hu;split at hf;rename_i fl hfl;split at hf;rename_i b n' hl;cases hf;exact Fs _ _ true _ u v fs fl ho hu hfl rfl rfl hl hx hagg ⟨dK hle,hv.symm⟩;cases hf;cases hf;cases hf
def Blk.isLp:Blk->Bool
  |.lp ..=>true
  |.mapv ..=>true
  |_=>false
def Blk.alive:Blk->Bool
  |.dead=>false
  |_=>true
def gj(i:Nat)(B:Blk)(al:Nat->Bool):AV->AV
  |.mptr j s x o=>if j=i then(match B with
      |.box _ cs=>if s=0/\x=0 then(match K6 cs with|some ds=>.d (.ptr (.agg ds) o)|none=>.junk)else .junk
      |.flat _ sz es=>if s=sz then(match es[x]? with|some e=>.d (.ptr e o)|none=>.junk)else .junk
      |_=>.junk)else if al j then .mptr j s x o else .junk
  |.msl j s o l=>if j=i then(match B with
      |.flat _ sz es=>if s=sz/\o+l<=es.length then .d (.sl sz ((es.drop o).take l))else .junk
      |_=>.junk)else if al j then .msl j s o l else .junk
  |.mmap j=>if j=i then .junk else if al j then .mmap j else .junk
  |.yld j=>if j=i then .junk else if al j then .yld j else .junk
  |.mmapN j n=>if j=i then .junk else if al j then .mmapN j n else .junk
  |v=>v
def cF(hp:List Blk)(j:Nat):Bool:=(hp.getD j .dead).alive
def St.freeze(i:Nat)(st:St):St:=
  ⟨Fr.mapRef (gj i (st.hp.getD i .dead) (cF st.hp)) st.fr,(st.hp.map (Blk.mapRef (gj i (st.hp.getD i .dead) (cF st.hp)))).set i .dead⟩
theorem gN{hp:List Blk}{j:Nat}(h:cF hp j=true):∃B,hp[j]?=some B/\B≠.dead:=by
  unfold cF at h
  cases hB:hp[j]? with
  |none=>rw[mV,hB]at h;cases h
  |some B=>exact⟨B,rfl,λe=>by subst e;rw[mV,hB]at h;cases h⟩
theorem Sim.freezeX(h:Sim C st g a w)(i:Nat)(hk:C.k<=i)(hal:cF st.hp i=true)(hks:∀j,j<C.k->cF st.hp j=true):∃g',Sim C (st.freeze i) g' a w/\(∀b,g.phi i=some b->g'.X b)/\∀b,g.X b->g'.X b:=by
  obtain⟨B,hB,hBd⟩:=gN hal;have hgB:st.hp.getD i .dead=B:=by rw[mV,hB];rfl
  have hil:i<st.hp.length:=(zal44q.1 hB).1
  let g':Gh:={ phi:=λj=>if g.phi j=g.phi i then none else g.phi j,psi:=g.psi,X:=λb=>g.X b\/g.phi i=some b }
  have hphi:∀j b,g'.phi j=some b->g.phi j=some b/\g.phi i≠some b:=by
    intro j b hp;simp only[g']at hp;split at hp;cases hp;rename_i hne;exact⟨hp,λe=>hne (hp.trans e.symm)⟩
  have keep:∀j b,cF st.hp j=true->j≠i->g.phi j=some b->g'.phi j=some b:=by
    intro j b ha hne hp;obtain⟨Bj,hBj,hBjd⟩:=gN ha;simp only[g'];rw[if_neg];exact hp;intro e;exact hne (h.inj j i b Bj B hBj hB hBjd hBd hp (e ▸ hp))
  have hX:∀b,g.X b->g'.X b:=λb hb=>.inl hb;have hD:∀(d:D)(v:Value),DRep w g.X d v->DRep w g'.X d v:=λd v hd=>hd.mono hX λ_ _=>rfl
  let g1:Gh:={ phi:=λj=>if j=i then g.phi i else none,psi:=g.psi,X:=g.X }
  let hp1:List Blk:=(List.replicate st.hp.length Blk.dead).set i B
  have hp1i:hp1[i]?=some B:=by simp[hp1,hil]
  have hY:∀j b,g1.phi j=some b->g'.X b:=by
    intro j b hp;simp only[g1]at hp;split at hp;exact .inr hp;cases hp
  have hrep:(∀ty cs,B=.box ty cs->∃ds,K6 cs=some ds)/\B.isLp=false->∀(j:Nat)(Bj:Blk),hp1[j]?=some Bj->BRep w g1 j Bj:=by
    intro ⟨hdat,hnl⟩ j Bj hj;by_cases hji:j=i;subst hji;rw[hp1i]at hj;cases hj;have h0:=h.hp j B hB
    cases B with
    |dead=>trivial
    |hole=>
      have h0:g.phi j=none:=h0;show g1.phi j=none;simpa[g1]using h0
    |flat ty sz es=>
      rcases h0 with⟨he,hp⟩|⟨b,cells,hp,hw,hs,hl,h0,h1,hr⟩
      exact .inl ⟨he,by simpa[g1]using hp⟩;exact .inr ⟨b,cells,by simpa[g1]using hp,hw,hs,hl,h0,h1,hr⟩
    |box ty cs=>
      obtain⟨b,cells,hp,hw,hs,hl,hr⟩:=h0;obtain⟨ds,hds⟩:=hdat ty cs rfl;obtain⟨rfl,_⟩:=zQ cs ds hds;refine⟨b,cells,by simpa[g1]using hp,hw,hs,hl,λjj c v hc hv=>?_⟩;have:=hr jj c v hc hv;simp only[cM,bZ]at hc;obtain⟨d,_,rfl⟩:=hc;cases this with|d _ _ hd=>exact .d _ _ hd
    |map kt vt es=>
      rcases h0 with⟨he,hp⟩|⟨b,ents,clock,hp,hw,hs,hr⟩
      exact .inl ⟨he,by simpa[g1]using hp⟩;exact .inr ⟨b,ents,clock,by simpa[g1]using hp,hw,hs,hr⟩
    |ob q=>obtain⟨b,hp,hw⟩:=h0;exact⟨b,by simpa[g1]using hp,hw⟩
    |lp=>cases hnl
    |mapv=>cases hnl
    simp only[hp1]at hj;rw[tL (λe=>hji e.symm),xo]at hj;split at hj;cases hj;trivial;cases hj
  have hF:∀(x:AV)(v:Value),ARep w g x v->x.isRef=true->ARep w g' (gj i (st.hp.getD i .dead) (cF st.hp) x) v:=by
    intro x v hx hr;rw[hgB]
    cases hx with
    |msl0 j s o ad=>
      simp only[gj];split
      cases B with
      |flat ty sz es=>
        simp only;split;simp only[List.take_zero];exact .d _ _ (.sl0 _ _ _);exact .junk _
      |_=>exact .junk _
      split
      · exact .msl0 _ _ _ _
      exact .junk _
    |msl j s o l cap b hb hc hp=>
      simp only[gj];split;rename_i hji;subst hji
      cases B with
      |flat ty sz es=>
        simp only;split;rename_i hh;obtain⟨rfl,hle⟩:=hh;exact .d _ _ (oV (st:=⟨[],hp1⟩) (g:=g1) (hrep ⟨λ_ _ e=>(by cases e),rfl⟩) (Snap.msl j s o l ty es hp1i hle) hX hY (.msl j s o l cap b (by simpa[g1]using hb) hc hp));exact .junk _
      |_=>exact .junk _
      rename_i hne;split;rename_i hal';exact .msl _ _ _ _ _ b (keep j b hal' hne hb) hc hp;exact .junk _
    |mptr j s x o b hb=>
      simp only[gj];split;rename_i hji;subst hji
      cases B with
      |flat ty sz es=>
        simp only;split;rename_i hs;subst hs;split;rename_i e he;exact .d _ _ (oV (st:=⟨[],hp1⟩) (g:=g1) (hrep ⟨λ_ _ e=>(by cases e),rfl⟩) (Snap.mptrF j s x o ty es e hp1i he) hX hY (.mptr j s x o b (by simpa[g1]using hb)));exact .junk _;exact .junk _
      |box ty cs=>
        simp only;split;rename_i hh;obtain⟨rfl,rfl⟩:=hh;split;rename_i ds hds;obtain⟨hcs,h1⟩:=zQ cs ds hds
        exact .d _ _ (oV (st:=⟨[],hp1⟩) (g:=g1) (hrep ⟨λ_ _ e=>(by cases e;exact⟨ds,hds⟩),rfl⟩) (Snap.mptrB j o ty cs ds hp1i (by rw[hcs];simp) h1 (λi c d hc hd=>by
          rw[hcs]at hc;simp only[cM,hd,gO,mE]at hc
          subst hc;exact .d d)) hX hY (.mptr j 0 0 o b (by simpa[g1]using hb)))
        exact .junk _;exact .junk _
      |_=>exact .junk _
      rename_i hne;split;rename_i hal';exact .mptr _ _ _ _ b (keep j b hal' hne hb);exact .junk _
    |mmap j b hb=>
      simp only[gj];split;exact .junk _;rename_i hne;split;rename_i hal';exact .mmap _ b (keep j b hal' hne hb);exact .junk _
    |yld j b hb=>
      simp only[gj];split;exact .junk _;rename_i hne;split;rename_i hal';exact .yld _ b (keep j b hal' hne hb);exact .junk _
    |mmapN0 j=>
      simp only[gj];split;exact .junk _;split
      · exact .mmapN0 _
      exact .junk _
    |mmapN j n b hb=>
      simp only[gj];split;exact .junk _;rename_i hne;split;rename_i hal';exact .mmapN _ _ b (keep j b hal' hne hb);exact .junk _
    |_=>cases hr
  have inv:∀(j:Nat)(Bj:Blk),(st.freeze i).hp[j]?=some Bj->Bj≠.dead->j≠i/\∃B',st.hp[j]?=some B'/\B'≠.dead/\Bj=B'.mapRef (gj i (st.hp.getD i .dead) (cF st.hp)):=by
    intro j Bj hj hd;simp only[St.freeze]at hj;rw[cG]at hj;split at hj;split at hj
    · cases hj;exact absurd rfl hd
    cases hj;rename_i hne;simp only[cM,bZ]at hj;obtain⟨B',hB',rfl⟩:=hj;exact⟨λe=>hne e.symm,B',hB',λe=>by subst e;exact hd rfl,rfl⟩
  refine⟨g',{ defers:=h.defers,size:=h.size,fr:=λt=>?_,hp:=?_,lt:=?_,inj:=?_,Xlt:=?_,Xold:=?_,os:=h.os,tape:=h.tape,output:=h.output,drawn:=h.drawn,grown:=h.grown,keep:=h.keep,own:=?_,stay:=?_,kle:=?_,laid:=h.laid },λ_ hb=>.inr hb,hX⟩;simp only[St.freeze,Fr.get_mapRef];exact(h.fr t).mapRef hD hF
  · intro j Bj hj
    by_cases hd:Bj=.dead;subst hd;trivial;obtain⟨hne,B',hB',hd',rfl⟩:=inv j Bj hj hd
    have hal':cF st.hp j=true:=by
      unfold cF;rw[mV,hB'];cases B'<;>first|rfl|exact absurd rfl hd'
    refine BRep.mapRef (i:=j) (g:=g) (g':=g') ?_ rfl hX hF (h.hp j B' hB')
    cases hp:g.phi j with
    |none=>simp only[g'];split<;>first|rfl|exact hp
    |some b=>exact keep j b hal' hne hp
  intro j b hp;obtain⟨h1,h2⟩:=hphi j b hp;have:=h.lt j b h1;refine⟨this.1,by simpa[St.freeze]using this.2.1,λhx=>?_⟩;rcases hx with hx|hx
  exact this.2.2 hx;exact h2 hx;intro j j' b Bj Bj' hBj hBj' hdj hdj' hj hj';obtain⟨_,B1,e1,d1,_⟩:=inv j Bj hBj hdj;obtain⟨_,B2,e2,d2,_⟩:=inv j' Bj' hBj' hdj';exact h.inj j j' b B1 B2 e1 e2 d1 d2 (hphi j b hj).1 (hphi j' b hj').1;intro b hb;rcases hb with hb|hb
  exact h.Xlt b hb;exact(h.lt i b hb).1;intro b hb hlt;rcases hb with hb|hb
  exact h.Xold b hb hlt;have:=(h.own i b hb hlt).1;omega;intro j b hp hb;exact h.own j b (hphi j b hp).1 hb;intro j b hj hm hp;have hst:=h.stay j b hj hm hp;exact⟨hst.1,keep j b (hks j hj) (by omega) hst.2⟩;have:=h.kle;simpa[St.freeze]using this
theorem Sim.freeze(h:Sim C st g a w)(i:Nat)(hk:C.k<=i)(hal:cF st.hp i=true)(hks:∀j,j<C.k->cF st.hp j=true):∃g',Sim C (st.freeze i) g' a w:=
  let ⟨g',h,_⟩:=h.freezeX i hk hal hks
  ⟨g',h⟩
theorem ya{c:Code}{Q:Exit->St->Prop}{fr:Fr}{hp:List Blk}(i:Nat)(hk:C.k<=i)(hal:cF hp i=true)(hks:∀j,j<C.k->cF hp j=true)(h:TWp C c (St.freeze i ⟨fr,hp⟩) Q):TWp C c ⟨fr,hp⟩ Q:=λ_ a w hs=>by
  obtain⟨g',hs'⟩:=hs.freeze i hk hal hks;exact h g' a w hs'
variable {C:Ctx}{st:St}{g:Gh}{a:Act}{w:World}{P:Program}
def back(ids:List Nat)(n:Nat)(i:Nat):Nat:=
  match ids[i]? with
  |some j=>j
  |none=>n+(i-ids.length)
def fwd(ids:List Nat)(n:Nat):AV->AV
  |.msl i s o l=>.msl (back ids n i) s o l
  |.mptr i s x o=>.mptr (back ids n i) s x o
  |.mmap i=>.mmap (back ids n i)
  |.yld i=>.yld (back ids n i)
  |.mmapN i m=>.mmapN (back ids n i) m
  |v=>v
def nA(ids:List Nat)(hp hp':List Blk):List Blk:=
  (hp.zipIdx.map λp=>match aR ids p.2 with
    |some i=>(hp'.getD i .dead).mapRef (fwd ids hp.length)
    |none=>p.1)++(hp'.drop ids.length).map (Blk.mapRef (fwd ids hp.length))
def Gh.back(g:Gh)(ids:List Nat)(n B:Nat)(g':Gh):Gh:=
  { phi := fun j => match aR ids j with
      |some i=>g'.phi i
      |none=>if j<n then g.phi j else g'.phi (ids.length+(j-n))
    psi:=λj=>match aR ids j with
      |some i=>g'.psi i
      |none=>if j<n then g.psi j else g'.psi (ids.length+(j-n))
    X:=λb=>g.X b\/(B<=b/\g'.X b) }
theorem cg:∀{ids:List Nat},ids.Nodup->∀{i j:Nat},ids[i]?=some j->aR ids j=some i
  |[],_,i,j,h=>by simp at h
  |x::r,hn,i,j,h=>by
    simp only[zal83q]at hn
    cases i with
    |zero=>simp at h;subst h;simp[aR]
    |succ i=>
      simp at h;have hne:x≠j:=λe=>by subst e;exact hn.1 (dR h)
      simp[aR,hne,cg hn.2 h]
theorem vO{ids:List Nat}{j:Nat}(h:aR ids j=none):∀i:Nat,ids[i]?≠some j:=by
  induction ids with
  |nil=>intro i h;simp at h
  |cons x r ih=>
    simp only[aR]at h;split at h;cases h;rename_i hne;simp only[yS]at h;intro i hi
    cases i with
    |zero=>simp at hi;exact hne hi
    |succ i=>simp at hi;exact ih h i hi
section back
variable {ids:List Nat}{n B:Nat}{g':Gh}
theorem Ix(hnd:ids.Nodup)(hlt:∀j∈ids,j<n)(i:Nat):(i<ids.length/\aR ids (back ids n i)=some i)\/(ids.length<=i/\back ids n i=n+(i-ids.length)/\aR ids (back ids n i)=none):=by
  unfold TL.back
  cases h:ids[i]? with
  |some j=>exact .inl ⟨(zal44q.1 h).1,cg hnd h⟩
  |none=>
    have hi:=List.getElem?_eq_none_iff.1 h;refine .inr ⟨hi,rfl,?_⟩
    cases hp:aR ids (n+(i-ids.length))with
    |none=>rfl
    |some k=>have:=hlt _ (dR (cE ids _ _ hp));omega
theorem uR(hnd:ids.Nodup)(hlt:∀j∈ids,j<n)(i:Nat):(g.back ids n B g').phi (back ids n i)=g'.phi i/\(g.back ids n B g').psi (back ids n i)=g'.psi i:=by
  rcases Ix hnd hlt i with⟨_,h⟩|⟨hi,he,h⟩
  simp[Gh.back,h];simp only[Gh.back,h];rw[he,if_neg (by omega),if_neg (by omega)];constructor<;>congr 1<;>omega
theorem ARep.fwd{w':World}(hnd:ids.Nodup)(hlt:∀j∈ids,j<n){x:AV}{v:Value}(h:ARep w' g' x v)(hr:x.isRef=true):ARep w' (g.back ids n B g') (TL.fwd ids n x) v:=by
  cases h with
  |msl0=>exact .msl0 _ _ _ _
  |msl id sz off len cap b hb hc hp=>exact .msl _ _ _ _ _ b ((uR hnd hlt id).1.trans hb) hc (by rw[(uR hnd hlt id).2];exact hp)
  |mptr id sz idx off b hb=>exact .mptr _ _ _ _ b ((uR hnd hlt id).1.trans hb)
  |mmap id b hb=>exact .mmap _ b ((uR hnd hlt id).1.trans hb)
  |yld id b hb=>exact .yld _ b ((uR hnd hlt id).1.trans hb)
  |mmapN0=>exact .mmapN0 _
  |mmapN id n b hb=>exact .mmapN _ _ b ((uR hnd hlt id).1.trans hb)
  |_=>cases hr
end back
theorem za{ids:List Nat}{hp hp':List Blk}{j:Nat}{B:Blk}(h:(nA ids hp hp')[j]?=some B):
    (∃i,aR ids j=some i/\j<hp.length/\B=(hp'.getD i .dead).mapRef (fwd ids hp.length))\/(aR ids j=none/\j<hp.length/\hp[j]?=some B)\/
      (hp.length<=j/\∃B',hp'[ids.length+(j-hp.length)]?=some B'/\B=B'.mapRef (fwd ids hp.length)):=by
  unfold nA at h;rw[eW]at h;split at h;rename_i hlt;simp only[lQ,List.length_zipIdx]at hlt;simp only[cM,gn,Option.map_map,bZ,Function.comp_def,eL]at h;obtain⟨B0,hB0,e⟩:=h;split at e;rename_i i hi;exact .inl ⟨i,hi,hlt,e.symm⟩;rename_i hi;exact .inr (.inl ⟨hi,hlt,by rw[hB0,e]⟩);rename_i hge;simp only[lQ,List.length_zipIdx]at hge h;simp only[cM,lG,bZ]at h;obtain⟨B',hB',e⟩:=h;exact .inr (.inr ⟨by omega,B',hB',e.symm⟩)
theorem tU{ids:List Nat}{hp hp':List Blk}:(nA ids hp hp').length=hp.length+(hp'.length-ids.length):=by simp[nA]
def mO(ids:List Nat)(hp:List Blk):List Blk:=ids.map λi=>(hp.getD i .dead).mapRef (toName (aR ids))
theorem Sim.handed(hs:Sim C st g a w){ids:List Nat}(hnd:ids.Nodup):Out ⟨C.P,0,w,(mO ids st.hp).length,g.canon ids,λ_=>false⟩ (mO ids st.hp) (g.canon ids) w:=by
  have hc:=hs.canon
  have hphi:∀i b,(g.canon ids).phi i=some b->∃j,ids[i]?=some j/\g.phi j=some b:=by
    intro i b hp;simp only[Gh.canon,zal115q]at hp;exact hp
  have hf:∀i j,aR ids i=some j->(g.canon ids).phi j=g.phi i/\(g.canon ids).psi j=g.psi i:=by
    intro i j hij;have:=cE ids i j hij;simp[Gh.canon,this]
  refine{ defers:=rfl,size:=rfl,fr:=λ_=>.junk _,hp:=?_,lt:=?_,inj:=?_,Xlt:=hs.Xlt,Xold:=λb h _=>h,os:=rfl,tape:=rfl,output:=rfl,drawn:=cT _,grown:=cT _,keep:=λ_ _ _=>rfl,own:=?_,stay:=?_,kle:=?_,laid:=λx hx=>⟨(hs.laidW x hx).1,λi hp=>by obtain⟨j,_,h⟩:=hphi i x.1 hp;exact(hs.laidW x hx).2 j h⟩ };intro i B hi;simp only[mO,cM,bZ]at hi;obtain⟨j,hj,rfl⟩:=hi
  cases hB:st.hp[j]? with
  |none=>simp[List.getD,hB,Blk.mapRef,BRep]
  |some B=>
    rw[mV,hB];exact BRep.mapRef (i:=j) (g:=g) (g':=g.canon ids) (by simp[Gh.canon,hj]) (by simp[Gh.canon,hj]) (λ_ hb=>hb) (ARep.toName hf λ_ hb=>hb) (hs.hp j B hB)
  intro i b hp;obtain⟨j,hj,hp'⟩:=hphi i b hp;have:=hs.lt j b hp';exact⟨this.1,by simpa[mO]using(zal44q.1 hj).1,this.2.2⟩;intro i j b Bi Bj hBi hBj hdi hdj hi hj;obtain⟨i',hi',hpi⟩:=hphi i b hi;obtain⟨j',hj',hpj⟩:=hphi j b hj
  have inv:∀(m m':Nat)(Bm:Blk),ids[m]?=some m'->(mO ids st.hp)[m]?=some Bm->Bm≠.dead->∃B',st.hp[m']?=some B'/\B'≠.dead:=by
    intro m m' Bm hm hB hd;simp only[mO,cM,hm,gO,mE]at hB
    cases hh:st.hp[m']? with
    |none=>rw[mV,hh]at hB;subst hB;exact absurd rfl hd
    |some B'=>
      refine⟨B',rfl,λe=>?_⟩;subst e;rw[mV,hh]at hB;subst hB;exact hd rfl
  obtain⟨B1,e1,d1⟩:=inv i i' Bi hi' hBi hdi;obtain⟨B2,e2,d2⟩:=inv j j' Bj hj' hBj hdj;have e:=hs.inj i' j' b B1 B2 e1 e2 d1 d2 hpi hpj;subst e;exact rZ hnd hi' hj';intro i b hp _;obtain⟨j,hj,_⟩:=hphi i b hp;exact⟨by simpa[mO]using(zal44q.1 hj).1,hp⟩;intro i b _ _ hp;exact⟨rfl,hp⟩;exact cT _
def tR(ids:List Nat)(mv:Nat->Bool)(j:Nat):Bool:=match aR ids j with
  |some i=>mv i
  |none=>false
def fI(S:Nat->Bool):AV->AV
  |.msl j s o l=>bif S j then .junk else .msl j s o l
  |.mptr j s x o=>bif S j then .junk else .mptr j s x o
  |.mmap j=>bif S j then .junk else .mmap j
  |.yld j=>bif S j then .junk else .yld j
  |.mmapN j n=>bif S j then .junk else .mmapN j n
  |v=>v
theorem Sim.backM(hs:Sim C st g a w){ids:List Nat}(mv:Nat->Bool)(hnd:ids.Nodup)(hal:∀j∈ids,cF st.hp j=true)(hmv:∀j,j<C.k->tR ids mv j=true->C.mv j=true){hp':List Blk}{g':Gh}{w':World}(ho:Out ⟨C.P,0,w,(mO ids st.hp).length,g.canon ids,mv⟩ hp' g' w'):
    Sim C ⟨Fr.mapRef (fI (tR ids mv)) st.fr,nA ids (st.hp.map (Blk.mapRef (fI (tR ids mv)))) hp'⟩ (g.back ids st.hp.length w.heap.size g') a w':=by
  have hlen:(mO ids st.hp).length=ids.length:=by simp[mO]
  have hlt:∀j∈ids,j<st.hp.length:=λj hj=>by obtain⟨B,hB,_⟩:=gN (hal j hj);exact(zal44q.1 hB).1
  have hcan:∀i b,(g.canon ids).phi i=some b->∃j:Nat,ids[i]?=some j/\g.phi j=some b:=by
    intro i b hp;simp only[Gh.canon,zal115q]at hp;exact hp
  have hcan':∀i j:Nat,ids[i]?=some j->(g.canon ids).phi i=g.phi j/\(g.canon ids).psi i=g.psi j:=by
    intro i j hij;simp[Gh.canon,hij]
  have hklen:=ho.kle;simp only[hlen]at hklen;have hsz:=ho.grown;simp only at hsz
  have hstay:∀i j b:Nat,ids[i]?=some j->mv i=false->g.phi j=some b->g'.psi i=g.psi j/\g'.phi i=some b:=by
    intro i j b hij hm hp;have h1:=hcan' i j hij;have:=ho.stay i b (by simp only[hlen];exact(zal44q.1 hij).1) hm (by rw[h1.1];exact hp);simp only at this;rw[h1.2]at this;exact this
  have hold:∀b,b<w.heap.size->(∀i j:Nat,ids[i]?=some j->g.phi j≠some b)->w'.heap[b]?=w.heap[b]?:=by
    intro b hb hne;refine ho.keep b hb λi hi hp=>?_;obtain⟨j,hj,hp'⟩:=hcan i b hp;exact hne i j hj hp'
  have hold':∀j b (B:Blk),st.hp[j]?=some B->B≠.dead->aR ids j=none->g.phi j=some b->w'.heap[b]?=w.heap[b]?:=by
    intro j b B hB hd hp hb;refine hold b (hs.lt j b hb).1 λi j' hij hp'=>?_;obtain⟨B',hB',hd'⟩:=gN (hal j' (dR hij));have:=hs.inj j j' b B B' hB hB' hd hd' hb hp';subst this;exact vO hp i hij
  have hbelow:∀i b,g'.phi i=some b->b<w.heap.size->∃i' j:Nat,ids[i']?=some j/\g.phi j=some b:=by
    intro i b hp hb;obtain⟨_,h⟩:=ho.own i b hp hb;obtain⟨j,hj,hp'⟩:=hcan i b h;exact⟨i,j,hj,hp'⟩
  have hX:∀b,g'.X b->(g.back ids st.hp.length w.heap.size g').X b:=by
    intro b hb;by_cases hlt':b<w.heap.size;exact .inl (ho.Xold b hb hlt');exact .inr ⟨by omega,hb⟩
  let g1:Gh:={ g with phi:=λj=>if tR ids mv j=true then none else g.phi j }
  have hg1:∀j b,g1.phi j=some b->tR ids mv j=false/\g.phi j=some b:=by
    intro j b hp;simp only[g1]at hp;split at hp;cases hp;rename_i hne;exact⟨by simpa using hne,hp⟩
  have hF1:∀(x:AV)(v:Value),ARep w g x v->x.isRef=true->ARep w g1 (fI (tR ids mv) x) v:=by
    intro x v hx hr
    cases hx with
    |msl0 id sz off ad=>
      simp only[fI];cases tR ids mv id;exact .msl0 _ _ _ _;exact .junk _
    |msl id sz off len cap b hb hc hp=>
      simp only[fI];cases hm:tR ids mv id;exact .msl _ _ _ _ cap b (by simp[g1,hm,hb]) hc hp;exact .junk _
    |mptr id sz idx off b hb=>
      simp only[fI];cases hm:tR ids mv id;exact .mptr _ _ _ _ b (by simp[g1,hm,hb]);exact .junk _
    |mmap id b hb=>
      simp only[fI];cases hm:tR ids mv id;exact .mmap _ b (by simp[g1,hm,hb]);exact .junk _
    |yld id b hb=>
      simp only[fI];cases hm:tR ids mv id;exact .yld _ b (by simp[g1,hm,hb]);exact .junk _
    |mmapN0 id=>
      simp only[fI];cases tR ids mv id;exact .mmapN0 _;exact .junk _
    |mmapN id n b hb=>
      simp only[fI];cases hm:tR ids mv id;exact .mmapN _ _ b (by simp[g1,hm,hb]);exact .junk _
    |_=>cases hr
  have hfr1:∀t,ARep w g1 ((Fr.mapRef (fI (tR ids mv)) st.fr).get t) (a.tmps.getD t undef):=λt=>by
    rw[Fr.get_mapRef];exact ARep.mapRef (w:=w) (g:=g) (g':=g1) (λd v hd=>hd) hF1 (hs.fr t)
  have hgr:Grow w g1 w' (g.back ids st.hp.length w.heap.size g'):=by
    refine⟨λj b hp=>?_,λj b hp=>?_,λb hb=>.inl hb,λb hb=>?_⟩;obtain⟨hm,hp⟩:=hg1 j b hp;simp only[Gh.back]
    cases hpl:aR ids j with
    |some i=>exact(hstay i j b (cE ids _ _ hpl) (by simpa[tR,hpl]using hm) hp).2
    |none=>simp only;rw[if_pos (hs.lt j b hp).2.1];exact hp
    obtain⟨hm,hp⟩:=hg1 j b hp;simp only[Gh.back]
    cases hpl:aR ids j with
    |some i=>exact(hstay i j b (cE ids _ _ hpl) (by simpa[tR,hpl]using hm) hp).1
    |none=>simp only;rw[if_pos (hs.lt j b hp).2.1]
    exact hold b (hs.Xlt b hb) λi j _ hp=>(hs.lt j b hp).2.2 hb
  have hphi:∀j b,(g.back ids st.hp.length w.heap.size g').phi j=some b->(∃i,aR ids j=some i/\g'.phi i=some b)\/(aR ids j=none/\j<st.hp.length/\g.phi j=some b)\/(st.hp.length<=j/\g'.phi (ids.length+(j-st.hp.length))=some b):=by
    intro j b hp;simp only[Gh.back]at hp
    cases hpl:aR ids j with
    |some i=>rw[hpl]at hp;exact .inl ⟨i,rfl,hp⟩
    |none=>
      rw[hpl]at hp;simp only at hp;split at hp;rename_i hj;exact .inr (.inl ⟨rfl,hj,hp⟩);rename_i hj;exact .inr (.inr ⟨by omega,hp⟩)
  have hql:(st.hp.map (Blk.mapRef (fI (tR ids mv)))).length=st.hp.length:=lQ _
  have hget:∀{j:Nat}{B:Blk},(st.hp.map (Blk.mapRef (fI (tR ids mv))))[j]?=some B->∃B0,st.hp[j]?=some B0/\B=B0.mapRef (fI (tR ids mv)):=by
    intro j B h;simp only[cM,bZ]at h;obtain⟨B0,h1,h2⟩:=h;exact⟨B0,h1,h2.symm⟩
  refine{ defers:=hs.defers,size:=hs.size,fr:=λt=>(hfr1 t).mono hgr,hp:=?_,lt:=?_,inj:=?_,Xlt:=?_,Xold:=?_,os:=ho.os.trans hs.os,tape:=ho.tape.trans hs.tape,output:=ho.output.trans hs.output,drawn:=dQ hs.drawn ho.drawn,grown:=dQ hs.grown hsz,keep:=?_,own:=?_,stay:=?_,kle:=?_,laid:=hs.laid };intro j B hj;have hF:∀x v,ARep w' g' x v->x.isRef=true->ARep w' (g.back ids st.hp.length w.heap.size g') (fwd ids st.hp.length x) v:=λx v hx hr=>hx.fwd hnd hlt hr;rcases za hj with⟨i,hpl,hjl,rfl⟩|⟨hpl,hjl,hB⟩|⟨hjl,B',hB',rfl⟩
  rw[hql];have hi:i<ids.length:=(zal44q.1 (cE ids _ _ hpl)).1;have hB':hp'[i]?=some (hp'.getD i .dead):=by rw[mV,eE (by omega)];rfl
  exact BRep.mapRef (i:=i) (g:=g') (by simp[Gh.back,hpl]) (by simp[Gh.back,hpl]) hX hF (ho.hp i _ hB');obtain⟨B0,hB0,rfl⟩:=hget hB;rw[hql]at hjl;by_cases hd:B0=.dead;subst hd;trivial;have hm : tR ids mv j = false := by simp [tR, hpl]
  have h1:BRep w g1 j (B0.mapRef (fI (tR ids mv))):=BRep.mapRef (i:=j) (g:=g) (g':=g1) (by simp[g1,hm]) rfl (λ_ hb=>hb) hF1 (hs.hp j B0 hB0);refine h1.mono hgr (λhn=>?_) λb hb=>hold' j b B0 hB0 hd hpl (hg1 j b hb).2;simp only[g1,hm]at hn;simpa[Gh.back,hpl,hjl]using hn;rw[hql]at hjl hB'⊢
  have hpl:aR ids j=none:=by
    cases hp:aR ids j with
    |none=>rfl
    |some k=>have:=hlt _ (dR (cE ids _ _ hp));omega
  exact BRep.mapRef (i:=ids.length+(j-st.hp.length)) (g:=g') (by simp[Gh.back,hpl,show ¬j<st.hp.length by omega]) (by simp[Gh.back,hpl,show ¬j<st.hp.length by omega]) hX hF (ho.hp _ B' hB');intro j b hp;rw[tU,hql]
  have own':∀i,g'.phi i=some b->¬(g.back ids st.hp.length w.heap.size g').X b:=by
    intro i hi hx;rcases hx with hx|⟨_,hx⟩
    obtain⟨i',j',_,hp'⟩:=hbelow i b hi (hs.Xlt b hx);exact(hs.lt j' b hp').2.2 hx;exact(ho.lt i b hi).2.2 hx
  rcases hphi j b hp with⟨i,hpl,hp'⟩|⟨hpl,hjl,hp'⟩|⟨hjl,hp'⟩
  have:=hlt _ (dR (cE ids _ _ hpl));exact⟨(ho.lt i b hp').1,by omega,own' i hp'⟩;have:=hs.lt j b hp';refine⟨by omega,by omega,λhx=>?_⟩;rcases hx with hx|⟨hx,_⟩
  exact this.2.2 hx;omega;have:=(ho.lt _ b hp').2.1;simp only at this;exact⟨(ho.lt _ b hp').1,by omega,own' _ hp'⟩;intro j j' b Bj Bj' hBj hBj' hdj hdj' hj hj'
  have look:∀(j:Nat)(Bj:Blk),(nA ids (st.hp.map (Blk.mapRef (fI (tR ids mv)))) hp')[j]?=some Bj->Bj≠.dead->(g.back ids st.hp.length w.heap.size g').phi j=some b->
      (∃i B,hp'[i]?=some B/\B≠.dead/\g'.phi i=some b/\TL.back ids st.hp.length i=j)\/(aR ids j=none/\∃B,st.hp[j]?=some B/\B≠.dead/\g.phi j=some b):=by
    intro j Bj hBj hd hp;rcases za hBj with⟨i,hpl,hjl,rfl⟩|⟨hpl,hjl,hB⟩|⟨hjl,B',hB',rfl⟩
    left;have hij:=cE ids _ _ hpl;have hi:i<ids.length:=(zal44q.1 hij).1;refine⟨i,hp'.getD i .dead,by rw[mV,eE (by omega)];rfl,λe=>by rw[e]at hd;exact hd rfl,by simpa[Gh.back,hpl]using hp,by simp[TL.back,hij]⟩;right;obtain⟨B0,hB0,rfl⟩:=hget hB;rw[hql]at hjl;exact⟨hpl,B0,hB0,λe=>by subst e;exact hd rfl,by simpa[Gh.back,hpl,hjl]using hp⟩;left;rw[hql]at hjl hB'
    have hpl:aR ids j=none:=by
      cases hp:aR ids j with
      |none=>rfl
      |some k=>have:=hlt _ (dR (cE ids _ _ hp));omega
    refine⟨ids.length+(j-st.hp.length),B',hB',λe=>by subst e;exact hd rfl,by simpa[Gh.back,hpl,show ¬j<st.hp.length by omega]using hp,?_⟩;simp only[TL.back];rw[iS (by omega)];simp only;omega
  have cross:∀(i j:Nat)(B:Blk),g'.phi i=some b->aR ids j=none->st.hp[j]?=some B->B≠.dead->g.phi j=some b->False:=by
    intro i j B hi hpl hB hd hj;obtain⟨i',j',hij,hp'⟩:=hbelow i b hi (hs.lt j b hj).1;obtain⟨B',hB',hd'⟩:=gN (hal j' (dR hij));have:=hs.inj j j' b B B' hB hB' hd hd' hj hp';subst this;exact vO hpl i' hij
  rcases look j Bj hBj hdj hj with⟨i,B,hB,hd,hi,rfl⟩|⟨hpl,B,hB,hd,hi⟩<;>rcases look j' Bj' hBj' hdj' hj' with⟨i',B',hB',hd',hi',rfl⟩|⟨hpl',B',hB',hd',hi'⟩
  rw[ho.inj i i' b B B' hB hB' hd hd' hi hi'];exact(cross i _ B' hi hpl' hB' hd' hi').elim;exact(cross i' _ B hi' hpl hB hd hi).elim;exact hs.inj _ _ b B B' hB hB' hd hd' hi hi';intro b hb;rcases hb with hb|⟨_,hb⟩
  have:=hs.Xlt b hb;omega;exact ho.Xlt b hb;intro b hb hlt';rcases hb with hb|⟨hge,_⟩
  exact hs.Xold b hb hlt';have:=hs.grown;omega;intro b hb hk;rw[hold b (by have:=hs.grown;omega) λi j _ hp=>?_];exact hs.keep b hb hk;obtain⟨hm,h0⟩:=hs.own j b hp hb;exact hk j hm h0;intro j b hp hb;have hbw:b<w.heap.size:=by have:=hs.grown;omega
  rcases hphi j b hp with⟨i,hpl,hp'⟩|⟨_,_,hp'⟩|⟨hjl,hp'⟩
  obtain⟨_,h⟩:=ho.own i b hp' hbw;obtain⟨j',hj',hp2⟩:=hcan i b h;rw[cE ids _ _ hpl]at hj';cases hj';exact hs.own j b hp2 hb;exact hs.own j b hp' hb;have:=(ho.own _ b hp' hbw).1;simp only[hlen]at this;omega;intro j b hj hm hp;have h1:=hs.stay j b hj hm hp;have hjl:=hs.kle
  cases hpl:aR ids j with
  |some i=>
    have hmi:mv i=false:=by
      cases h:mv i with
      |false=>rfl
      |true=>have:=hmv j hj (by simp[tR,hpl,h]);rw[hm]at this;cases this
    have:=hstay i j b (cE ids _ _ hpl) hmi h1.2;simp only[Gh.back,hpl];exact⟨this.1.trans h1.1,this.2⟩
  |none=>
    simp only[Gh.back,hpl];rw[if_pos (by omega),if_pos (by omega)];exact h1
  rw[tU,hql];have:=hs.kle;omega
mutual
theorem AV.mapRef_self{F:AV->AV}(hF:∀x,x.isRef=true->F x=x):∀v:AV,AV.mapRef F v=v
  |.junk|.und|.d _=>rfl
  |.msl ..|.mptr ..|.mmap _|.yld _|.mmapN ..=>hF _ rfl
  |.agg cs|.tup cs|.fnc _ cs=>by simp only[AV.mapRef,AV.mapRefs_self hF cs]
  |.ifc _ c=>by simp only[AV.mapRef,AV.mapRef_self hF c]
theorem AV.mapRefs_self{F:AV->AV}(hF:∀x,x.isRef=true->F x=x):∀cs:List AV,AV.mapRefs F cs=cs
  |[]=>rfl
  |c::r=>by simp only[AV.mapRefs,AV.mapRef_self hF c,AV.mapRefs_self hF r]
end
theorem Fr.mapRef_self{F:AV->AV}(hF:∀x,x.isRef=true->F x=x):∀fr:Fr,Fr.mapRef F fr=fr
  |[]=>rfl
  |(t,v)::r=>by simp only[Fr.mapRef,AV.mapRef_self hF v,Fr.mapRef_self hF r]
theorem Sim.back(hs : Sim C st g a w){ids : List Nat}(hnd : ids.Nodup)(hal : ∀ j ∈ ids, cF st.hp j = true){hp' : List Blk}{g' : Gh}{w' : World}(ho : Out ⟨C.P, 0, w, (mO ids st.hp).length, g.canon ids, fun _ => false⟩ hp' g' w') :
    Sim C ⟨st.fr,nA ids st.hp hp'⟩ (g.back ids st.hp.length w.heap.size g') a w':=by
  have hz:∀j,tR ids (λ_=>false) j=false:=λj=>by unfold tR;split<;>rfl
  have hF:∀x,x.isRef=true->fI (tR ids λ_=>false) x=x:=λx hx=>by
    cases x with
    |msl|mptr|mmap|yld|mmapN=>simp[fI,hz]
    |_=>cases hx
  have h:=hs.backM (λ_=>false) hnd hal (λj _ hm=>by rw[hz]at hm;cases hm) ho;have e1:Fr.mapRef (fI (tR ids λ_=>false)) st.fr=st.fr:=Fr.mapRef_self hF _
  have e2:st.hp.map (Blk.mapRef (fI (tR ids λ_=>false)))=st.hp:=by
    conv=>rhs;rw[<- List.map_id st.hp]
    refine C6 λB _=>?_
    cases B with
    |box ty cs=>simp only[Blk.mapRef,AV.mapRefs_self hF cs,id]
    |mapv kt vt es=>simp only[Blk.mapRef,AV.mapRef_self hF,id];simp
    |lp=>simp only[Blk.mapRef,Fr.mapRef_self hF,id]
    |_=>rfl
  rw[e1,e2]at h;exact h
theorem ok_callW{o:Oper}{K:St->Prop}{f:Operand}{xs:Array Operand}{ts:Array TypeId}{F:FuncId}{c:D}{cs:List D}(ids:List Nat)(args:List AV)(r:AV)(hp':List Blk)(ho:o.op=.call { callee:=.value f,args:=xs,argTypes:=ts })(hd:kZ C.n o.dst=true)
    (hf:st.fr.ev f=.d c) (hc:sV c=some (F,cs)) (hnd:ids.Nodup) (hal:(ids.all λj=>cF st.hp j)=true) (hx:(xs.toList.map λx=>(st.fr.ev x).mapRef (toName (aR ids)))++cs.map .d=args) (hret:Ret C.P F (mO ids st.hp) (λ_=>false) args r hp')
    (hK:K (St.put ⟨st.fr,nA ids st.hp hp'⟩ o.dst (r.mapRef (fwd ids st.hp.length)))):OpOk C o st K:=by
  intro g a w Q hs;have hfv:=hs.ev f;rw[hf]at hfv
  obtain⟨vs,hv,hvs⟩:∃vs:Array Value,a.eval f=.func (.func F) #[] vs/\Pw (DRep w g.X) cs vs.toList:=by
    cases hfv with|d _ _ h=>exact fh h hc
  have hf':∀i j,aR ids i=some j->(g.canon ids).phi j=g.phi i/\(g.canon ids).psi j=g.psi i:=by
    intro i j hij;have:=cE ids i j hij;simp[Gh.canon,this]
  have hargs:Pw (ARep w (g.canon ids)) args (xs.map a.eval++vs).toList:=by
    rw[<- hx,xu];refine Pw.append ⟨by simp,λi x v hxi hvi=>?_⟩ ⟨by simpa using hvs.1,λi x v hxi hvi=>?_⟩;simp only[cM,bZ]at hxi;simp only[sD,cM,bZ]at hvi;obtain⟨y,hy,rfl⟩:=hxi;obtain⟨z,hz,rfl⟩:=hvi;rw[hy]at hz;cases hz;exact ARep.mapRef (w:=w) (g:=g) (g':=g.canon ids) (λd v hd=>hd) (ARep.toName hf' λ_ hb=>hb) (hs.ev y);simp only[cM,bZ]at hxi;obtain⟨d,hd',rfl⟩:=hxi;exact .d _ _ (hvs.2 i d v hd' hvi)
  have hal':∀j∈ids,cF st.hp j=true:=λj hj=>zal27q.1 hal j hj;have hlt:∀j∈ids,j<st.hp.length:=λj hj=>by obtain⟨B,hB,_⟩:=gN (hal' j hj);exact(zal44q.1 hB).1
  simp only[Oper.wp,eH ho hv hret.1,Oper.upon_enter];refine(hret.2 w (g.canon ids) _ (hs.handed hnd) hargs).mono ?_;rintro e w' ⟨v,g',rfl,hout,hr⟩;refine⟨_,_,hK,(hs.back hnd hal' hout).put' hd ?_⟩;refine ARep.mapRef (w:=w') (g:=g') (λd v hd=>hd.mono (λb hb=>?_) λ_ _=>rfl) (λx v hx hr=>hx.fwd hnd hlt hr) hr;by_cases hlt':b<w.heap.size;exact .inl (hout.Xold b hb hlt');exact .inr ⟨by omega,hb⟩
variable {C:Ctx}{st:St}{g:Gh}{a:Act}{w:World}{P:Program}
theorem DOk.mk{o:Oper}{ev:Operand->AV}{hpn:List Blk}{x:AV}{ws:List (Nat×Blk)}(h:∀st:St,HpLe hpn st.hp->(∀y∈o.op.operands,st.fr.ev y=ev y)->∀g a w,Sim C st g a w->∃v w' g',(execOp a.eval o).run C.P w=.ok (.value v) w'/\Sim C ⟨st.fr,wr ws st.hp⟩ g' a w'/\ARep w' g' x v):DOk C o ev hpn x ws:=by
  intro st h1 _ _ h2 g a w hs Q K' hK;obtain⟨v,w',g',hr,hs',hx⟩:=h st h1 h2 g a w hs;simp only[Oper.wp,hr,Oper.upon_value];exact hK v w' g' hs' hx
theorem DOk.mkS{o:Oper}{ev:Operand->AV}{hpn:List Blk}{ws:List (Nat×Blk)}(_hd:o.dst=none)(h:∀st:St,HpLe hpn st.hp->(∀y∈o.op.operands,st.fr.ev y=ev y)->∀g a w,Sim C st g a w->∃w' g',(execOp a.eval o).run C.P w=.ok .skip w'/\Sim C ⟨st.fr,wr ws st.hp⟩ g' a w'):DOk C o ev hpn .junk ws:=by
  intro st h1 _ _ h2 g a w hs Q K' hK;obtain⟨w',g',hr,hs'⟩:=h st h1 h2 g a w hs;simp only[Oper.wp,hr,Oper.upon_skip];exact hK undef w' g' hs' (.junk _)
theorem RdOk.mkW{o:Oper}{ev:Operand->AV}{hp:List Blk}{x:AV}(h:∀st:St,HpLe hp st.hp->(∀y∈o.op.operands,st.fr.ev y=ev y)->∀g a w,Sim C st g a w->∃v w' g',(execOp a.eval o).run C.P w=.ok (.value v) w'/\Sim C st g' a w'/\ARep w' g' x v):RdOk C o ev hp x:=by
  intro st h1 h2 g a w hs Q K' hK;obtain⟨v,w',g',hr,hs',hx⟩:=h st h1 h2 g a w hs;simp only[Oper.wp,hr,Oper.upon_value];exact hK v w' g' hs' hx
theorem RowOf.frozen{ty:TypeId}{sz:Nat}{es:List D}{vs:Array Value}(hs:Sim C st g a w)(r:RowOf w g.X sz es vs):∃g',Sim C st g' a (w.alloc (.cells vs ty))/\∀n,n=es.length->ARep (w.alloc (.cells vs ty)) g' (.d (.sl sz es)) (.slice (some ⟨w.heap.size,0,none⟩) n n):=by
  obtain⟨hs',hg⟩:=hs.allocX (.cells vs ty);refine⟨_,hs',λn hn=>.d _ _ ?_⟩;subst hn
  let g1:Gh:={ phi:=λj=>if j=0 then some w.heap.size else none,psi:=λ_=>vs.size,X:=g.X }
  have hrep:∀(j:Nat)(B:Blk),[Blk.flat ty sz es][j]?=some B->BRep (w.alloc (.cells vs ty)) g1 j B:=by
    intro j B hj
    match j,hj with
    |0,hj=>
      cases hj;refine .inr ⟨w.heap.size,vs,by simp[g1],heap_alloc_new w _,rfl,r.le,r.h0,r.h1,λi e j c he hc=>?_⟩;obtain⟨v,hv,hd⟩:=r.rep i e j c he hc;exact⟨v,hv,hd.mono (λ_ h=>h) λb hb=>dU w _ b (hs.Xlt b hb)⟩
    |j+1,hj=>simp at hj
  refine oV (st:=⟨[],[.flat ty sz es]⟩) (g:=g1) hrep ((Snap.msl 0 sz 0 es.length ty es rfl (by omega)).same (by simp)) (λb hb=>.inl hb) (λj b hp=>?_) (v:=.slice (some ⟨w.heap.size,0,none⟩) es.length es.length) ?_;simp only[g1]at hp;split at hp;cases hp;exact .inr rfl;cases hp;have := ARep.msl (w := w.alloc (.cells vs ty)) (g := g1) 0 sz 0 es.length es.length w.heap.size (by simp [g1]) (cT _) (by simp only [eL, g1]; exact r.le);simpa using this
section made
variable {o:Oper}{ev:Operand->AV}{hp:List Blk}{x y:Operand}{t e:TypeId}{sz by':Nat}{z:Value}
theorem rd_litF{parts:Array (Nat×Operand)}{n:Nat}{ds:List D}(xs:List Operand)(ho:o.op=.buildSlice t n parts)(hl:sel C.P t=some (e,sz,by'))(hz:(C.P.info? e).bind (·.zero)=some z)(hp':oG parts xs)
    (hx:evD (xs.map ev)=some ds) (hn:Nat.beq ds.length n=true) (hs:(ds.all λd=>Nat.beq d.cells.length sz)=true) (hsmall:Nat.ble (n*sz) 16777216=true):RdOk C o ev hp (.d (.sl sz ds)):=
  RdOk.mkW λst hhp hag g a w hsim=>by
    have hmem:∀x∈xs,x∈o.op.operands:=by
      intro x hx;simp only[ho,Op.operands];obtain⟨i,hi⟩:=iL hx;have:(xs.zipIdx.map λx=>(x.2,x.1))[i]?=some (i,x):=by simp[hi]
      rw[<- hp']at this;simp only[List.mem_toArray,zal76q];exact⟨(i,x),dR this,rfl⟩
    have hev:xs.map st.fr.ev=ds.map AV.d:=by
      rw[<- yF hx];exact C6 λx hx=>hag x (hmem x hx)
    obtain⟨vs,hr,row,_⟩:=wN (st:=st) sz by' xs ds z ho hl hz hp' hev (dO hn) (λd hd=>dO (zal27q.1 hs d hd)) (dK hsmall) hsim
    obtain⟨g',h1,h2⟩:=row.frozen (ty:=e) hsim;exact⟨_,_,g',hr,h1,h2 n (dO hn).symm⟩
theorem zH{hpn hp':List Blk}{i:Nat}(h:hpn[i]?=some .hole)(hle:HpLe hpn hp'):hp'[i]?=some .hole:=hle i _ h λe=>by cases e
theorem lL{i:Nat}{cs:List AV}(hi:hp[i]?=some .hole)(ho:o.op=.alloc t)(hz:(C.P.info? t).bind (·.zero)=some z)(hf:(dV z).flat=true)(hc:(dV z).cells=cs):DOk C o ev hp (.mptr i 0 0 0) [(i,.box t cs)]:=
  DOk.mk λst hhp hag g a w hs=>by
    subst hc;obtain⟨inf,hinf,hz'⟩:=nB hz;have hpw:=((jF w g z).pw hf).1;have hno:g.phi i=none:=hs.hp i _ (zH hi hhp);have hg:=hs.grow_at (.cells z.cells t) z.cells.size hno;refine⟨.pointer (some ⟨w.heap.size,0,none⟩),w.alloc (.cells z.cells t),_,by simp[execOp,ho,Instr.alloc,zeroValue,typeInfo,hinf,hz',newVar,newRow],hs.fill (n:=z.cells.size) (zH hi hhp) ?_,.mptr _ 0 0 0 w.heap.size (by simp[Gh.new,upd])⟩;exact⟨w.heap.size,z.cells,by simp[Gh.new,upd],heap_alloc_new w _,by simp[Gh.new,upd],by simpa using hpw.1,λj c v hc hv=>(hpw.2 j c v hc (by simpa using hv)).mono hg⟩
theorem E0{id off s:Nat}{bb:Bool}{bt:TypeId}{cs cs':List AV}{v:AV}(ho:o.op=.store t x y)(hd:o.dst=none)(hl:lay C.P t=some (bb,s))(hx:ev x=.mptr id 0 0 off)(hy:ev y=v)(hf:v.flat=true)(hs:v.cells.length=s)
    (hb:hp[id]?=some (.box bt cs)) (hc:off+s<=cs.length) (hv:spl cs off v.cells=cs'):DOk C o ev hp .junk [(id,.box bt cs')]:=
  DOk.mkS hd λst hhp hag g a w hsim=>by
    subst hv;obtain⟨w',h1,h2⟩:=yH (st:=st) id off s bb cs v ho hd hl (by rw[hag x (by simp[ho,Op.operands]),hx]) (by rw[hag y (by simp[ho,Op.operands]),hy]) hf hs (hhp id _ hb λe=>by cases e) hc hsim;rw[hd]at h2;exact⟨w',g,h1,h2⟩
theorem De{id idx off s:Nat}{bb:Bool}{bt:TypeId}{es:List D}{d v d':D}(ho:o.op=.store t x y)(hd:o.dst=none)(hl:lay C.P t=some (bb,s))(hx:ev x=.mptr id sz idx off)(hy:ev y=.d v)(hs:v.cells.length=s)
    (hb:hp[id]?=some (.flat bt sz es)) (he:es[idx]?=some d) (hone:d.one=false\/v.one=true) (hc:off+s<=d.cells.length) (hv:d.upd off v=d'):DOk C o ev hp .junk [(id,.flat bt sz (es.set idx d'))]:=
  DOk.mkS hd λst hhp hag g a w hsim=>by
    subst hv;obtain⟨w',h1,h2⟩:=wM (st:=st) id sz idx off s bb es d v ho hd hl (by rw[hag x (by simp[ho,Op.operands]),hx]) (by rw[hag y (by simp[ho,Op.operands]),hy]) hs (hhp id _ hb λe=>by cases e) he hone hc hsim;rw[hd]at h2;exact⟨w',g,h1,h2⟩
end made
section steps
variable {ops:Array Oper}{l:List Oper}{K:St->Prop}{fr:Fr}{hp:List Blk}{acc:List Rec}{d:Nat}{op:Op}{ty:TypeId}{pos:String}{after:Array Edge}{gd:Option (Nat×Bool)}
theorem tV(rs : List Nat)(ws : List (Nat × Blk))(v : AV)(hd : decide (d < C.n) = true)(hon : onA ops fr ⟨some d, op, ty, pos, after, gd⟩ = some true)(hw : (ws.all fun p => rs.contains p.1 && decide (p.1 < hp.length)) = true)(hr : DOk C ⟨some d, op, ty, pos, after, gd⟩ fr.ev (y4 rs hp) v ws)
    (h:TDr C ops K l ((d,v)::fr) (wr ws hp) (acc++[⟨true,d,v,rs,ws⟩])):TDr C ops K (⟨some d,op,ty,pos,after,gd⟩::l) fr hp acc:=
  .step _ l fr hp acc d v rs ws v (.inl ⟨rfl,hd,rfl⟩) hon (λp hp=>by have:=zal27q.1 hw p hp;simp at this;exact⟨this.2,.inr this.1⟩) hr h
theorem qT(d : Nat)(rs : List Nat)(ws : List (Nat × Blk))(hon : onA ops fr ⟨none, op, ty, pos, after, gd⟩ = some true)(hw : (ws.all fun p => rs.contains p.1 && decide (p.1 < hp.length)) = true)(hr : DOk C ⟨none, op, ty, pos, after, gd⟩ fr.ev (y4 rs hp) .junk ws)
    (h:TDr C ops K l ((d,.junk)::fr) (wr ws hp) (acc++[⟨true,d,.junk,rs,ws⟩])):TDr C ops K (⟨none,op,ty,pos,after,gd⟩::l) fr hp acc:=
  .step _ l fr hp acc d .junk rs ws .junk (.inr ⟨rfl,rfl⟩) hon (λp hp=>by have:=zal27q.1 hw p hp;simp at this;exact⟨this.2,.inr this.1⟩) hr h
theorem fN{c:Code}{Q:Exit->St->Prop}(h:TWp C c ⟨fr,hp++[.hole]⟩ Q):TWp C c ⟨fr,hp⟩ Q:=λg a w hs=>h g a w (Sim.hole (st:=⟨fr,hp⟩) hs)
theorem vL{f : Operand}{xs : Array Operand}{ts : Array TypeId}{F : FuncId}{c : D}{cs : List D}(ids : List Nat){args : List AV}{r r' : AV}{hh hp' hp2 : List Blk}(hd : decide (d < C.n) = true)(hf : fr.ev f = .d c)(hc : sV c = some (F, cs))(hnd : ids.Nodup)(hal : (ids.all fun j => cF hp j) = true)
    (hx:(xs.toList.map λx=>(fr.ev x).mapRef (toName (aR ids)))++cs.map .d=args) (hhd:mO ids hp=hh) (hret:Ret C.P F hh (λ_=>false) args r hp') (hr:r.mapRef (fwd ids hp.length)=r') (hb:nA ids hp hp'=hp2)
    (h:bO C ops l ⟨(d,r')::fr,hp2⟩ K):bO C ops (⟨some d,.call { callee:=.value f,args:=xs,argTypes:=ts },ty,pos,after,none⟩::l) ⟨fr,hp⟩ K:=by
  subst hr hb hhd;exact cU rfl (ok_callW ids args r hp' rfl hd hf hc hnd hal hx hret h)
theorem tB{t t' e:TypeId}{x:Operand}{dd:D}{n:Nat}(hd:decide (d<C.n)=true)(hu:C.P.underlying t=some (.slice e))(hx:fr.ev x=.d dd)(hn:(AV.d dd).slLen=some n)
    (h:∀b:Bool,(b=true->n=0)->bO C ops l ⟨(d,.d (.bool b))::fr,hp⟩ K):bO C ops (⟨some d,.binOp .eql t x (.const (.slice none 0 0)) t',ty,pos,after,none⟩::l) ⟨fr,hp⟩ K:=
  cU rfl (eqNil rfl hd hu hx hn rfl rfl h)
end steps
def En(op:BinOp)(p q:Bool):Option Bool:=
  match op with
  |.eql=>some (p == q)
  |.neq=>some (!(p == q))
  |_=>none
theorem Hr{t:TypeId}(hu:P.underlying t=some .bool)(p q:Bool)(w:World):(Op.equal t (.bool p) (.bool q)).run P w=.ok (p == q) w:=by
  have h:(Op.equalIn (9999+1) t (.bool p) (.bool q)).run P w=.ok (p == q) w:=by
    unfold Op.equalIn;simp[run_underlying hu]
  exact h
theorem cmp_bool{o:Oper}{ev:Operand->AV}{hp:List Blk}{op:BinOp}{t t':TypeId}{x y:Operand}{p q r:Bool}(hu:C.P.underlying t=some .bool)(ho:o.op=.binOp op t x y t')(hx:ev x=.d (.bool p))(hy:ev y=.d (.bool q))(hr:En op p q=some r):RdOk C o ev hp (.d (.bool r)):=
  RdOk.mk λst hhp hag g a w hs=>by
    have h:=hs.ev x;rw[hag x (by simp[ho,Op.operands]),hx]at h;have hi:=hs.ev y;rw[hag y (by simp[ho,Op.operands]),hy]at hi;refine⟨.bool r,?_,.d _ _ (.bool r)⟩
    have hg:(eqGuard op t x y (.bool p) (.bool q)).run C.P w=.ok () w:=by
      unfold eqGuard;cases op<;>simp
    simp only[execOp,ho,bool_inv h,bool_inv hi,Sem.run_bind,hg,Result.andThen_ok];cases op<;>simp only[En]at hr<;>cases hr<;>simp[binOp,Hr hu]
theorem Dr{o:Oper}{ev:Operand->AV}{hp:List Blk}{F:FuncId}{caps:Array Operand}{ds:List D}(ho:o.op=.makeFunc (.func F) #[] caps)(hx:evD (caps.toList.map ev)=some ds):RdOk C o ev hp (.d (.clo F ds)):=
  RdOk.mk λst hhp hag g a w hs=>by
    refine⟨.func (.func F) #[] (caps.map a.eval),by simp[execOp,ho,Instr.makeFunc],.d _ _ (.clo _ _ _ ?_ λi c v hc hv=>?_)⟩;have:=congrArg List.length (yF hx);simpa using this.symm;simp only[Array.getElem?_map,bZ]at hv;obtain⟨z,hz,rfl⟩:=hv;have h1:(caps.toList.map ev)[i]?=some (.d c):=by rw[yF hx];simp[hc]
    simp only[cM,bZ]at h1;obtain⟨y,hy,hyc⟩:=h1;have e:y=z:=by rw[<- Array.getElem?_toList,hy]at hz;exact aS hz
    subst e;have h:=hs.ev y;rw[hag y (by simp only[ho,Op.operands];exact zal9q.2 (.inr (zal10q.1 (dR hy)))),hyc]at h;cases h with|d _ _ h=>exact h
def DLe(d d':D):Prop:=∀(w:World)(X:Nat->Prop)(v:Value),DRep w X d v->DRep w X d' v
theorem DLe.refl(d:D):DLe d d:=λ_ _ _ h=>h
theorem DLe.nil(sz:Nat):DLe .nilsl (.sl sz []):=λ_ _ _ h=>by cases h;exact .sl0 _ _ _
inductive DLes:List D->List D->Prop
  |nil:DLes [] []
  |cons {d d':D} {ds ds':List D} (h:DLe d d') (h1:d'.one=true) (hr:DLes ds ds'):DLes (d::ds) (d'::ds')
theorem DLe.agg{ds ds':List D}(h:DLes ds ds'):DLe (.agg ds) (.agg ds'):=by
  have key:ds.length=ds'.length/\(∀d∈ds',d.one=true)/\∀(i:Nat)(c c':D),ds[i]?=some c->ds'[i]?=some c'->DLe c c':=by
    induction h with
    |nil=>exact⟨rfl,λd hd=>by simp at hd,λi c c' h=>by simp at h⟩
    |cons h h1 _ ih=>
      refine⟨by simp[ih.1],λd hd=>?_,λi c c' hc hc'=>?_⟩;rcases zal72q.1 hd with rfl|hd
      · exact h1
      exact ih.2.1 d hd
      cases i with
      |zero=>simp at hc hc';subst hc hc';exact h
      |succ i=>exact ih.2.2 i c c' (by simpa using hc) (by simpa using hc')
  intro w X v hv
  cases hv with
  |agg _ vs hl _ hr=>
    refine .agg _ vs (key.1 ▸ hl) key.2.1 λi c v hc hv=>?_;have hi:i<ds.length:=by rw[key.1];exact(zal44q.1 hc).1
    exact key.2.2 i ds[i] c (by simp[hi]) hc w X v (hr i ds[i] v (by simp[hi]) hv)
section weak
variable {ops:Array Oper}{l:List Oper}{K:St->Prop}{fr:Fr}{hp:List Blk}
end weak
theorem bu{c:Code}{Q:Exit->St->Prop}{α:Type}{fr:Fr}{hp:List Blk}(var:α->Fr)(chg:α->List (Nat×Blk))(ok:α->Prop)(m:α->Nat)(vk ik ids:List Nat)(x0:α){inv:Fr}{hp0:List Blk}(hnd:ids.Nodup)(hk:∀i,i<C.k->ids[i]?=some i)(h0:ok x0)
    (hI:SubK fr ik inv) (hI':Fr.mapRef (toName (aR ids)) inv=inv) (hV:Fr.mapRef (toName (aR ids)) (Fr.keep vk fr)=var x0) (hH:ids.map (λi=>(hp.getD i .dead).mapRef (toName (aR ids)))=hp0) (hC:hp0=wr (chg x0) hp0)
    (round:∀x,ok x->TWp C c ⟨var x++inv,wr (chg x) hp0⟩ (lT (λst'=>∃y ids',ids'.Nodup/\(∀i,i<C.k->ids'[i]?=some i)/\ok y/\m y<m x/\st'.canon (vk++ik) ids'=⟨var y++inv,wr (chg y) hp0⟩) Q)):TWp C (.loop c) ⟨fr,hp⟩ Q:=by
  refine J4 (λx=>(⟨var x++inv,wr (chg x) hp0⟩:St)) ok m (vk++ik) ids x0 hnd hk h0 ?_ round;simp only[St.canon]
  have e1:Fr.keep (vk++ik) fr=Fr.keep vk fr++inv:=by
    rw[hI.keep];simp[Fr.keep]
  have e2:∀(F:AV->AV)(a b:Fr),Fr.mapRef F (a++b)=Fr.mapRef F a++Fr.mapRef F b:=by
    intro F a b
    induction a with
    |nil=>rfl
    |cons x r ih=>obtain⟨t,v⟩:=x;simp[Fr.mapRef,ih]
  rw[e1,e2,hI',hV,hH]
  congr 1
variable {P:Program}{st:St}
theorem aP{b c:Bool}(h:b=c):AV.d (.bool b)=.d (.bool c):=h ▸ rfl
theorem z7{C:Ctx}{hp:List Blk}{o:Oper}{ev:Operand->AV}{op:BinOp}{t t':TypeId}{x y:Operand}{m n r' r:Int}(ho:o.op=.binOp op t x y t')(hx:ev x=.d (.int .i64 m))(hy:ev y=.d (.int .i64 n))(hr:G9 op m n=some r')(e:r'=r)(hb:-9223372036854775808<=r/\r<=9223372036854775807):RdOk C o ev hp (.d (.int .i64 r)):=
  ge ho hx hy (e ▸ hr) hb
theorem idx_int{α:Type}{f:α->D}{xs:List α}{v:Int}{x:α}(h0:0<=v)(h:xs[v.toNat]?=some x):0<=v/\(xs.map f)[v.toNat]?=some (f x):=⟨h0,by simp[h]⟩
section
variable {cs r r':List AV}
end
def bD(n:Int):Prop:=-9223372036854775808<=n/\n<=9223372036854775807
instance (n:Int):Decidable (bD n):=inferInstanceAs (Decidable (_/\_))
theorem RetN.unit{F:FuncId}{ds:List D}{d:D}(h:Ret P F [] (λ_=>false) (ds.map .d) (.d d) [])(hm:D.mem0 d=true):RetN P F ds d:=.lit h hm
theorem RetD.of{F:FuncId}{ds:List D}{d:D}{mv:Nat->Bool}(h:Ret P F [] mv (ds.map .d) (.d d) []):RetD P F ds d:=⟨mv,_,_,h,.d d⟩
theorem RetT.of{F:FuncId}{ds rs:List D}{mv:Nat->Bool}(h:Ret P F [] mv (ds.map .d) (.tup (rs.map .d)) []):RetT P F ds rs:=⟨mv,_,_,h,.mk _ _ (hZ rfl)⟩
variable {C:Ctx}{st:St}{g:Gh}{a:Act}{w:World}{P:Program}
def EndsS(P:Program)(rs:List ResultVar)(d:D)(st:St):Prop:=∃x d0,ResOk P st rs x/\Snap st.hp x d0/\DLe d0 d
theorem EndsS.one{rs:List ResultVar}{d d0:D}(x:AV)(h:ef st.fr rs=some x)(hs:Snap st.hp x d0)(hd:DLe d0 d):EndsS P rs d st:=⟨x,d0,res h,hs,hd⟩
theorem EndsS.cell{a t id off s:Nat}{ty:TypeId}{cs:List AV}(x:AV){d:D}(hl:lay P t=some (true,s))(ha:st.fr.get a=.mptr id 0 0 off)(hb:st.hp[id]?=some (.box ty cs))(hc:Nat.ble (off+s) cs.length=true)(hv:wK ((cs.drop off).take s)=x)(hs:Snap st.hp x d):EndsS P [.cell a t] d st:=
  ⟨_,d,.mk _ (.cons (.agg hl ha hb hc hv) .nil) rfl,hs,.refl _⟩
def bodyQS(P:Program)(rs:List ResultVar)(d:D):Exit->St->Prop
  |.normal,st|.ret,st=>EndsS P rs d st
  |_,_=>False
theorem Sim.endS{mv:Nat->Bool}{w0:World}{g0:Gh}{n:Nat}(hs:Sim ⟨P,n,w0,0,g0,mv⟩ st g a w)(h0:g0.df=[]):∃g',Out ⟨P,0,w0,0,g0,mv⟩ [] g' w/\∀(x:AV)(d:D)(v:Value),ARep w g x v->Snap st.hp x d->ARep w g' (.d d) v:=by
  let g':Gh:={ phi:=λ_=>none,psi:=λ_=>0,X:=λb=>g.X b\/∃i,g.phi i=some b }
  refine⟨g',?_,λx d v hx hsn=>.d _ _ (oV (st:=st) hs.hp hsn (Y:=g'.X) (λb hb=>.inl hb) (λi b hp=>.inr ⟨i,hp⟩) hx)⟩
  refine { defers := h0.symm, size := rfl, fr := fun _ => .junk _, hp := fun i B h => by simp at h, lt := fun i b h => by simp [g'] at h, inj := fun i j b _ _ _ _ _ _ h => by simp [g'] at h, Xlt := ?_, Xold := ?_
           os:=hs.os,tape:=hs.tape,output:=hs.output,drawn:=hs.drawn,grown:=hs.grown,keep:=hs.keep,own:=λi b h=>by simp[g']at h,stay:=λi b h=>absurd h (iO i),kle:=cN _,laid:=hs.laid }
  intro b hb;rcases hb with hb|⟨i,hb⟩
  exact hs.Xlt b hb;exact(hs.lt i b hb).1;intro b hb hlt;rcases hb with hb|⟨i,hb⟩
  exact hs.Xold b hb hlt;exact absurd (hs.own i b hb hlt).1 (iO i)
theorem aJ{F:FuncId}{fn:Func}{c:Code}{mv:Nat->Bool}{args:List AV}{d:D}{n:Nat}{rs:List ResultVar}(hcb:kD P F=true)(hf:P.funcs[F]?=some fn)(hb:fn.body=some c)(hn:fn.ntmps=n)(hrs:fn.results.toList=rs)(hle:Nat.ble args.length n=true)
    (h:∀w g,TWp ⟨P,n,w,0,g,mv⟩ c ⟨oO args,[]⟩ (bodyQS P rs d)):Ret P F [] mv args (.d d) []:=by
  subst hn hrs;have hn:=dK hle;refine⟨hcb,?_⟩;intro w g vs hout hargs;have hlen:vs.size=args.length:=by have:=hargs.1;simpa using this.symm
  have hsim:Sim ⟨P,fn.ntmps,w,0,g,mv⟩ ⟨oO args,[]⟩ g { tmps:=vs++Array.replicate (fn.ntmps-vs.size) undef,defers:=[] } w:=by
    refine Out.sim (C:=⟨P,fn.ntmps,w,0,g,mv⟩) hout hout.defers ?_ λt=>?_;simp only[vA,Da];omega;unfold oO;rw[uN,if_pos (cN _),yU];by_cases ht:t<args.length;have h1:args[t]?=some args[t]:=eE ht;have h2:vs.toList[t]?=some (vs.toList[t]'(by simpa[hlen]using ht)):=eE _;have h3:=hargs.2 t _ _ h1 h2;rw[h1]
    have h4:(vs++Array.replicate (fn.ntmps-vs.size) undef).getD t undef=vs.toList[t]'(by simpa[hlen]using ht):=by
      rw[ql,cx,if_pos (by omega)];simp[show t<vs.size by omega]
    rw[h4];exact h3;rw [iS (by omega)];exact .junk _
  refine calls_of_wp hf hb (Go.wp_mono (h w g g _ w hsim) ?_);intro e a' w' hq;obtain⟨st',g',hQ,hs'⟩:=hq
  have fin:EndsS P fn.results.toList d st'->a'.defers=[]/\∃v,(results fn a'.tmps).run P w'=.ok v w'/\∃v' g',Ending.returned v=.returned v'/\Out ⟨P,0,w,0,g,mv⟩ [] g' w'/\ARep w' g' (.d d) v':=by
    rintro⟨x,d0,hx,hsn,hd⟩;obtain⟨v,hv,hrep⟩:=lU (P:=P) hs' hx;obtain⟨g2,h1,h2⟩:=hs'.endS hout.defers.symm;have h3:=h2 _ _ _ hrep hsn;exact⟨hs'.defers.trans hout.defers.symm,v,hv,v,g2,rfl,h1,by cases h3 with|d _ _ q=>exact .d _ _ (hd _ _ _ q)⟩
  cases e with
  |normal=>exact fin hQ
  |ret=>exact fin hQ
  |_=>exact hQ.elim
inductive DLa:List D->List D->Prop
  |nil:DLa [] []
  |cons {d d':D} {ds ds':List D} (h:DLe d d') (hr:DLa ds ds'):DLa (d::ds) (d'::ds')
theorem DLa.key{ds ds':List D}(h:DLa ds ds'):ds.length=ds'.length/\∀(i:Nat)(c c':D),ds[i]?=some c->ds'[i]?=some c'->DLe c c':=by
  induction h with
  |nil=>exact⟨rfl,λi c c' h=>by simp at h⟩
  |cons h _ ih=>
    refine⟨by simp[ih.1],λi c c' hc hc'=>?_⟩
    cases i with
    |zero=>simp at hc hc';subst hc hc';exact h
    |succ i=>exact ih.2 i c c' (by simpa using hc) (by simpa using hc')
theorem Ret.args{F:FuncId}{hp hp':List Blk}{mv:Nat->Bool}{ds ds':List D}{r:AV}(h:Ret P F hp mv (ds'.map .d) r hp')(hd:DLa ds ds'):Ret P F hp mv (ds.map .d) r hp':=by
  refine⟨h.1,λw g vs ho ha=>h.2 w g vs ho ⟨by have:=ha.1;simpa[hd.key.1]using this,λi x v hx hv=>?_⟩⟩;simp only[cM,bZ]at hx;obtain⟨c',hc',rfl⟩:=hx;have hi:i<ds.length:=by rw[hd.key.1];exact(zal44q.1 hc').1
  have:=ha.2 i (.d ds[i]) v (by simp[hi]) hv;cases this with|d _ _ hr=>exact .d _ _ (hd.key.2 i ds[i] c' (by simp[hi]) hc' _ _ _ hr)
theorem RetN.args{F:FuncId}{ds ds':List D}{d:D}(h:RetN P F ds' d)(hd:DLa ds ds'):RetN P F ds d:=by
  obtain⟨mv,r,hp',h1,h2⟩:=h;exact⟨mv,r,hp',h1.args hd,h2⟩
inductive SnapsW (hp:List Blk):List AV->List D->Prop
  |nil:SnapsW hp [] []
  |cons {x:AV} {d0 d:D} {xs:List AV} {ds:List D} (h:Snap hp x d0) (hd:DLe d0 d) (hr:SnapsW hp xs ds):SnapsW hp (x::xs) (d::ds)
theorem SnapsW.key{hp:List Blk}{xs:List AV}{ds:List D}(h:SnapsW hp xs ds):xs.length=ds.length/\∀(i:Nat)(x:AV)(d:D),xs[i]?=some x->ds[i]?=some d->∃d0,Snap hp x d0/\DLe d0 d:=by
  induction h with
  |nil=>exact⟨rfl,λi x d h=>by simp at h⟩
  |cons h hd _ ih=>
    refine⟨by simp[ih.1],λi x d hx hd'=>?_⟩
    cases i with
    |zero=>simp at hx hd';subst hx hd';exact⟨_,h,hd⟩
    |succ i=>exact ih.2 i x d (by simpa using hx) (by simpa using hd')
def EndsT(P:Program)(rs:List ResultVar)(ds:List D)(st:St):Prop:=∃xs,ResOk P st rs (.tup xs)/\SnapsW st.hp xs ds
def bodyQT(P:Program)(rs:List ResultVar)(ds:List D):Exit->St->Prop
  |.normal,st|.ret,st=>EndsT P rs ds st
  |_,_=>False
theorem EndsT.two{rs:List ResultVar}{x y:AV}{a b a0 b0:D}(h:ef st.fr rs=some (.tup [x,y]))(h1:Snap st.hp x a0)(d1:DLe a0 a)(h2:Snap st.hp y b0)(d2:DLe b0 b):EndsT P rs [a,b] st:=
  ⟨_,res h,.cons h1 d1 (.cons h2 d2 .nil)⟩
theorem fD{F:FuncId}{fn:Func}{c:Code}{mv:Nat->Bool}{args:List AV}{ds:List D}{n:Nat}{rs:List ResultVar}(hcb:kD P F=true)(hf:P.funcs[F]?=some fn)(hb:fn.body=some c)(hn:fn.ntmps=n)(hrs:fn.results.toList=rs)(hle:Nat.ble args.length n=true)
    (h:∀w g,TWp ⟨P,n,w,0,g,mv⟩ c ⟨oO args,[]⟩ (bodyQT P rs ds)):Ret P F [] mv args (.tup (ds.map .d)) []:=by
  subst hn hrs;have hn:=dK hle;refine⟨hcb,?_⟩;intro w g vs hout hargs;have hlen:vs.size=args.length:=by have:=hargs.1;simpa using this.symm
  have hsim:Sim ⟨P,fn.ntmps,w,0,g,mv⟩ ⟨oO args,[]⟩ g { tmps:=vs++Array.replicate (fn.ntmps-vs.size) undef,defers:=[] } w:=by
    refine Out.sim (C:=⟨P,fn.ntmps,w,0,g,mv⟩) hout hout.defers ?_ λt=>?_;simp only[vA,Da];omega;unfold oO;rw[uN,if_pos (cN _),yU];by_cases ht:t<args.length;have h1:args[t]?=some args[t]:=eE ht;have h2:vs.toList[t]?=some (vs.toList[t]'(by simpa[hlen]using ht)):=eE _;have h3:=hargs.2 t _ _ h1 h2;rw[h1]
    have h4:(vs++Array.replicate (fn.ntmps-vs.size) undef).getD t undef=vs.toList[t]'(by simpa[hlen]using ht):=by
      rw[ql,cx,if_pos (by omega)];simp[show t<vs.size by omega]
    rw[h4];exact h3;rw [iS (by omega)];exact .junk _
  refine calls_of_wp hf hb (Go.wp_mono (h w g g _ w hsim) ?_);intro e a' w' hq;obtain⟨st',g',hQ,hs'⟩:=hq
  have fin:EndsT P fn.results.toList ds st'->a'.defers=[]/\∃v,(results fn a'.tmps).run P w'=.ok v w'/\∃v' g',Ending.returned v=.returned v'/\Out ⟨P,0,w,0,g,mv⟩ [] g' w'/\ARep w' g' (.tup (ds.map .d)) v':=by
    rintro⟨xs,hx,hsn⟩;obtain⟨v,hv,hrep⟩:=lU (P:=P) hs' hx;obtain⟨g2,h1,h2⟩:=hs'.endS hout.defers.symm;refine⟨hs'.defers.trans hout.defers.symm,v,hv,v,g2,rfl,h1,?_⟩;have hkey:=hsn.key
    have key:xs.length=ds.length/\∀(i:Nat)(x:AV)(d:D)(u:Value),xs[i]?=some x->ds[i]?=some d->ARep w' g' x u->ARep w' g2 (.d d) u:=by
      refine⟨hkey.1,λi x d u hx hd hu=>?_⟩;obtain⟨d0,q1,q2⟩:=hkey.2 i x d hx hd;have:=h2 _ _ _ hu q1;cases this with|d _ _ q=>exact .d _ _ (q2 _ _ _ q)
    cases hrep with
    |tup _ us hl hr=>
      refine .tup _ us (by rw[lQ,<- key.1];exact hl) λi c u hci hu=>?_;simp only[cM,bZ]at hci;obtain⟨d,hd,rfl⟩:=hci;have hi:i<xs.length:=by rw[key.1];exact(zal44q.1 hd).1
      exact key.2 i xs[i] d u (by simp[hi]) hd (hr i xs[i] u (by simp[hi]) hu)
  cases e with
  |normal=>exact fin hQ
  |ret=>exact fin hQ
  |_=>exact hQ.elim
end Go.TL
set_option linter.unusedVariables false
set_option linter.unusedSimpArgs false
namespace Go.TL
variable {C:Ctx}{st:St}{g:Gh}{a:Act}{w:World}{P:Program}
def fV(d:TypeDesc):D->Bool
  |.bool _=>match d with|.bool=>true|_=>false
  |.int k _=>match d with|.int k'=>k == k'|_=>false
  |.str _=>match d with|.string=>true|_=>false
  |_=>false
def lK:D->Value
  |.bool b=>.bool b
  |.int k n=>.int k n
  |.str s=>.string s
  |_=>undef
theorem yD{d:TypeDesc}{k:D}(hk:fV d k=true):MapKept.IsKey d (lK k):=by
  cases k with
  |bool b=>cases d<;>first|trivial|(simp[fV]at hk)
  |int i n=>
    cases d<;>simp[fV]at hk;exact hk
  |str s=>cases d<;>first|trivial|(simp[fV]at hk)
  |_=>simp[fV]at hk
theorem nN{d:TypeDesc}{k:D}(hk:fV d k=true){X:Nat->Prop}{v:Value}(h:DRep w X k v):v=lK k/\MapKept.IsKey d v:=by
  have e:v=lK k:=by
    cases k with
    |bool b=>cases h;rfl
    |int k n=>cases h;rfl
    |str s=>cases h;rfl
    |_=>simp[fV]at hk
  exact⟨e,e ▸ yD hk⟩
theorem ez{d:TypeDesc}{k k':D}(hk:fV d k=true)(hk':fV d k'=true)(h:lK k=lK k'):k=k':=by
  cases k with
  |bool b=>cases k'<;>first|(simp[fV]at hk';done)|(simp[lK]at h;done)|(simp only[lK,Value.bool.injEq]at h;rw[h])
  |int i n=>cases k'<;>first|(simp[fV]at hk';done)|(simp[lK]at h;done)|(simp only[lK,Value.int.injEq]at h;rw[h.1,h.2])
  |str s=>cases k'<;>first|(simp[fV]at hk';done)|(simp[lK]at h;done)|(simp only[lK,Value.string.injEq]at h;rw[h])
  |_=>simp[fV]at hk
def rU(w:World)(X:Nat->Prop)(es:List (D×D))(ents:Array MapEntry):Prop:=
  ents.size=es.length/\∀(k:Nat)(e:D×D)(m:MapEntry),es[k]?=some e->ents[k]?=some m->DRep w X e.1 m.key/\DRep w X e.2 m.val
section find
variable {X:Nat->Prop}{d:TypeDesc}{k:D}{es:List (D×D)}{ents:Array MapEntry}
theorem Gl(hE:rU w X es ents)(hks:∀e∈es,fV d e.1=true):∀x∈ents.toList,MapKept.IsKey d x.key:=by
  intro x hx;obtain⟨i,hi⟩:=iL hx;have hi':ents[i]?=some x:=by simpa using hi
  have hlt:i<es.length:=by rw[<- hE.1];exact(zal5q.1 hi').1
  exact(nN (hks es[i] (fM hlt)) (hE.2 i es[i] x (by simp[hlt]) hi').1).2
theorem xb(hE:rU w X es ents)(hks:∀e∈es,fV d e.1=true)(hk:fV d k=true)(hne:∀e∈es,e.1≠k):Instr.findNow d (lK k) ents.toList 0=some none:=by
  have hkk:MapKept.IsKey d (lK k):=yD hk;rcases MapKept.findNow_spec hkk ents.toList 0 (Gl hE hks)with⟨h1,_⟩|⟨j,e,_,h2,h3⟩
  exact h1;exfalso;have hj:ents[j]?=some e:=by simpa using h2
  have hlt:j<es.length:=by rw[<- hE.1];exact(zal5q.1 hj).1
  have hmem:=fM hlt;have:=(nN (hks es[j] hmem) (hE.2 j es[j] e (by simp[hlt]) hj).1).1;exact hne _ hmem (ez (hks _ hmem) hk (by rw[<- this,h3]))
theorem find_yes(hE:rU w X es ents)(hks:∀e∈es,fV d e.1=true)(hnd:(es.map (·.1)).Nodup){j:Nat}{v:D}(hj:es[j]?=some (k,v)):∃e,ents[j]?=some e/\e.key=lK k/\DRep w X v e.val/\Instr.findNow d (lK k) ents.toList 0=some (some (j,e.val)):=by
  have hjl:=(zal44q.1 hj).1;have hk:fV d k=true:=hks (k,v) (dR hj);have hkk:MapKept.IsKey d (lK k):=yD hk;have hjs:j<ents.size:=by rw[hE.1];exact hjl
  have he:ents[j]?=some ents[j]:=by simp[hjs]
  have hr:=hE.2 j (k,v) ents[j] hj he;have hkey:=(nN hk hr.1).1;rcases MapKept.findNow_spec hkk ents.toList 0 (Gl hE hks)with⟨_,h2⟩|⟨j',e',h1,h2,h3⟩
  exact absurd hkey (h2 ents[j] (by simp));have hj' : ents[j']? = some e' := by simpa using h2
  have hlt:j'<es.length:=by rw[<- hE.1];exact(zal5q.1 hj').1
  have hmem:=fM hlt;have h4:=(nN (hks es[j'] hmem) (hE.2 j' es[j'] e' (by simp[hlt]) hj').1).1;have h5:es[j'].1=k:=ez (hks _ hmem) hk (by rw[<- h4,h3]);have h6:j'=j:=nodup_at (x:=k) hnd (by simp[hlt,h5]) (by simp[hj]);subst h6;rw[he]at hj';cases hj';exact⟨_,he,hkey,hr.2,by simpa using h1⟩
where
  nodup_at {α:Type} {l:List α} (hn:l.Nodup) {i j:Nat} {x:α} (hi:l[i]?=some x) (hj:l[j]?=some x):i=j:=by
    obtain⟨h1,h1'⟩:=zal44q.1 hi;obtain⟨h2,h2'⟩:=zal44q.1 hj;exact(List.getElem_inj hn).1 (h1'.trans h2'.symm)
end find
theorem er{id:Nat}{v:Value}(h:ARep w g (.mmap id) v):∃b,g.phi id=some b/\v=.map (some b):=by
  cases h with
  |mmap _ b hb=>exact⟨b,hb,rfl⟩
def uT(P:Program)(t:TypeId):Option (TypeId×TypeDesc×TypeId):=
  match P.underlying t with
  |some (.map k e)=>match P.underlying k with
    |some d=>some (k,d,e)
    |none=>none
  |_=>none
theorem jR{t k e:TypeId}{d:TypeDesc}(h:uT P t=some (k,d,e)):P.underlying t=some (.map k e)/\P.underlying k=some d:=by
  unfold uT at h;split at h;rename_i k' e' hu;split at h;rename_i d' hd;cases h;exact⟨hu,hd⟩;cases h;cases h
section look
variable {o:Oper}{ev:Operand->AV}{hp:List Blk}{x y:Operand}{t kt et kt' et':TypeId}{d:TypeDesc}{id:Nat}{es:List (D×D)}{k v zd:D}{z:Value}
theorem oN(hs:Sim C st g a w)(hl:uT C.P t=some (kt,d,et))(hx:st.fr.ev x=.mmap id)(hb:st.hp[id]?=some (.map kt' et' es))(hy:st.fr.ev y=.d k)(hk:fV d k=true):
    ∃b ents clock,g.phi id=some b/\a.eval x=.map (some b)/\w.heap[b]?=some (.map ents clock)/\rU w g.X es ents/\a.eval y=lK k/\MapKept.IsKey d (lK k):=by
  have h1:=hs.ev x;rw[hx]at h1;obtain⟨b,hp,he⟩:=er h1;rcases hs.hp id _ hb with⟨_,hp'⟩|⟨b',ents,clock,hp',hw,hsz,hr⟩<;>cases hp.symm.trans hp'
  have h2:=hs.ev y;rw[hy]at h2;have h3:DRep w g.X k (a.eval y):=by cases h2 with|d _ _ h=>exact h
  obtain⟨h4,h5⟩:=nN hk h3;exact⟨b,ents,clock,hp,he,hw,⟨hsz,hr⟩,h4,h4 ▸ h5⟩
theorem Fm{j:Nat}(ho:o.op=.lookup t x y true)(hl:uT C.P t=some (kt,d,et))(hx:ev x=.mmap id)(hb:hp[id]?=some (.map kt' et' es))(hy:ev y=.d k)(hks:∀e∈es,fV d e.1=true)(hnd:(es.map (·.1)).Nodup)(hj:es[j]?=some (k,v)):RdOk C o ev hp (.tup [.d v,.d (.bool true)]):=
  RdOk.mk λst hhp hag g a w hs=>by
    have hk:fV d k=true:=hks (k,v) (dR hj);obtain⟨b,ents,clock,hp',hex,hw,hE,hey,hkk⟩:=oN hs hl (by rw[hag x (by simp[ho,Op.operands]),hx]) (hhp id _ hb λe=>by cases e) (by rw[hag y (by simp[ho,Op.operands]),hy]) hk;obtain⟨e,_,_,hv,hf⟩:=find_yes hE hks hnd hj;obtain⟨hu,hd⟩:=jR hl;refine⟨.tuple #[e.val,.bool true],?_,.tup _ _ rfl λi c v hc hv'=>?_⟩;simp only[execOp,ho,hex,hey];simp[Instr.lookup,run_underlying hu,MapKept.run_getObj_map hw,MapKept.run_checkKey hd hkk,MapKept.run_findKey hd hf,Result.andThen]
    match i,hc,hv' with
    |0,hc,hv'=>simp at hc hv';subst hc hv';exact .d _ _ hv
    |1,hc,hv'=>simp at hc hv';subst hc hv';exact .d _ _ (.bool true)
    |i+2,hc,_=>simp at hc
theorem Hy(ho:o.op=.lookup t x y true)(hl:uT C.P t=some (kt,d,et))(hz:(C.P.info? et).bind (·.zero)=some z)(hzd:dV z=.d zd)(hx:ev x=.mmap id)(hb:hp[id]?=some (.map kt' et' es))(hy:ev y=.d k)(hk:fV d k=true)(hks:∀e∈es,fV d e.1=true)(hne:∀e∈es,e.1≠k):RdOk C o ev hp (.tup [.d zd,.d (.bool false)]):=
  RdOk.mk λst hhp hag g a w hs=>by
    obtain⟨b,ents,clock,hp',hex,hw,hE,hey,hkk⟩:=oN hs hl (by rw[hag x (by simp[ho,Op.operands]),hx]) (hhp id _ hb λe=>by cases e) (by rw[hag y (by simp[ho,Op.operands]),hy]) hk;have hf:=xb hE hks hk hne;obtain⟨hu,hd⟩:=jR hl;refine⟨.tuple #[z,.bool false],?_,.tup _ _ rfl λi c v hc hv'=>?_⟩;simp only[execOp,ho,hex,hey];simp[Instr.lookup,run_underlying hu,MapKept.run_getObj_map hw,MapKept.run_checkKey hd hkk,MapKept.run_findKey hd hf,qH hz,Result.andThen]
    match i,hc,hv' with
    |0,hc,hv'=>simp at hc hv';subst hc hv';rw[<- hzd];exact jF w g _
    |1,hc,hv'=>simp at hc hv';subst hc hv';exact .d _ _ (.bool false)
    |i+2,hc,_=>simp at hc
end look
section upd
variable {o:Oper}{K:St->Prop}{x y u:Operand}{t tk kt et kt' et':TypeId}{d:TypeDesc}{id:Nat}{es:List (D×D)}{k v:D}
theorem H9(ho:o.op=.makeMap t none)(hd:kZ C.n o.dst=true)(kt et:TypeId)(hK:K (St.put ⟨st.fr,st.hp++[.map kt et []]⟩ o.dst (.mmap st.hp.length))):OpOk C o st K:=
  OpOk.change λg a w hs=>by
    refine⟨.map (some w.heap.size),w.alloc (.map #[] 0),?_,_,_,hK,(hs.alloc (n:=0) (B:=.map kt et []) (.inr ⟨w.heap.size,#[],0,by simp[Gh.new,upd],heap_alloc_new w _,rfl,λk e m he=>by simp at he⟩)).put' hd (.mmap _ w.heap.size (by simp[Gh.new,upd]))⟩;simp only[execOp,ho];simp[Instr.makeMap,newObj,Sem.run,Result.andThen]
theorem qA(hs:Sim C st g a w){b:Nat}{ents ents':Array MapEntry}{clock clock':Nat}{es':List (D×D)}(hp:g.phi id=some b)(hb:st.hp[id]?=some (.map kt' et' es))(hw:w.heap[b]?=some (.map ents clock))(hE:rU w g.X es' ents'):
    Sim C ⟨st.fr,st.hp.set id (.map kt' et' es')⟩ g a { w with heap:=w.heap.setIfInBounds b (.map ents' clock') }:=by
  have hX:∀b',g.X b'->b'≠b:=λb' hX e=>(hs.lt id b hp).2.2 (e ▸ hX);have hold:=(MapKept.heap_set (o':=.map ents' clock') hw).2;refine hs.change (w':={ w with heap:=w.heap.setIfInBounds b (.map ents' clock') }) hb (λe=>by cases e) hp (by simp) rfl rfl rfl (cT _) hold (.inr ⟨b,ents',clock',hp,(MapKept.heap_set hw).1,hE.1,λj e m he hm=>?_⟩);exact⟨(hE.2 j e m he hm).1.mono (λ_ h=>h) λb' hb'=>hold b' (hX b' hb'),(hE.2 j e m he hm).2.mono (λ_ h=>h) λb' hb'=>hold b' (hX b' hb')⟩
theorem H7(ho:o.op=.mapUpdate t x y u)(hd:o.dst=none)(hl:uT C.P t=some (kt,d,et))(hx:st.fr.ev x=.mmap id)(hb:st.hp[id]?=some (.map kt' et' es))(hy:st.fr.ev y=.d k)(hu:st.fr.ev u=.d v)(hk:fV d k=true)(hks:∀e∈es,fV d e.1=true)(hne:∀e∈es,e.1≠k)
    (hK:K ⟨st.fr,st.hp.set id (.map kt' et' (es++[(k,v)]))⟩):OpOk C o st K:=
  OpOk.skip λg a w hs=>by
    obtain⟨b,ents,clock,hp,hex,hw,hE,hey,hkk⟩:=oN hs hl hx hb hy hk;have hf:=xb hE hks hk hne;obtain⟨hu',hd'⟩:=jR hl;have hv:=hs.ev u;rw[hu]at hv;have hv':DRep w g.X v (a.eval u):=by cases hv with|d _ _ h=>exact h
    have hkd:=hs.ev y;rw[hy,hey]at hkd;have hkd':DRep w g.X k (lK k):=by cases hkd with|d _ _ h=>exact h
    refine⟨{ w with heap:=w.heap.setIfInBounds b (.map (ents.push { key:=lK k,val:=a.eval u,born:=clock }) (clock+1)) },?_,_,g,hK,?_⟩;simp only[execOp,ho,hex,hey];simp[Instr.mapUpdate,run_underlying hu',MapKept.run_getObj_map hw,MapKept.run_checkKey hd' hkk,MapKept.run_findKey hd' hf,MapKept.run_setObj_map _ hw,Result.andThen];rw[hd];refine qA hs hp hb hw ⟨by simp[hE.1],λj e m he hm=>?_⟩;rw[eW]at he;rw[Array.getElem?_push]at hm;split at he;rename_i hlt;rw[if_neg (by rw[hE.1];omega)]at hm;exact hE.2 j e m he hm;rename_i hge
    have hj:j=es.length:=by
      rcases dB (j-es.length) 1 with h1|h1
      omega;rw[iS (by simpa using h1)]at he;cases he
    subst hj;rw[if_pos hE.1.symm]at hm;simp at he hm;subst he hm;exact⟨hkd',hv'⟩
theorem Ko{j:Nat}{v0:D}(ho:o.op=.mapUpdate t x y u)(hd:o.dst=none)(hl:uT C.P t=some (kt,d,et))(hx:st.fr.ev x=.mmap id)(hb:st.hp[id]?=some (.map kt' et' es))(hy:st.fr.ev y=.d k)(hu:st.fr.ev u=.d v)(hks:∀e∈es,fV d e.1=true)(hnd:(es.map (·.1)).Nodup)(hj:es[j]?=some (k,v0))
    (hK:K ⟨st.fr,st.hp.set id (.map kt' et' (es.set j (k,v)))⟩):OpOk C o st K:=
  OpOk.skip λg a w hs=>by
    have hk:fV d k=true:=hks (k,v0) (dR hj);obtain⟨b,ents,clock,hp,hex,hw,hE,hey,hkk⟩:=oN hs hl hx hb hy hk;obtain⟨e0,he0,hek,_,hf⟩:=find_yes hE hks hnd hj;obtain⟨hu',hd'⟩:=jR hl;have hv:=hs.ev u;rw[hu]at hv;have hv':DRep w g.X v (a.eval u):=by cases hv with|d _ _ h=>exact h
    have hkd:=hs.ev y;rw[hy,hey]at hkd;have hkd':DRep w g.X k (lK k):=by cases hkd with|d _ _ h=>exact h
    have hst:(Instr.keyThatStays e0.key (lK k)).run C.P w=.ok (lK k) w:=by rw[hek];exact MapKept.run_keyThatStays hkk
    refine⟨{ w with heap:=w.heap.setIfInBounds b (.map (ents.modify j λe=>{ e with key:=lK k,val:=a.eval u }) clock) },?_,_,g,hK,?_⟩;simp only[execOp,ho,hex,hey];simp[Instr.mapUpdate,run_underlying hu',MapKept.run_getObj_map hw,MapKept.run_checkKey hd' hkk,MapKept.run_findKey hd' hf,he0,hst,MapKept.run_setObj_map _ hw,Result.andThen];rw[hd];refine qA hs hp hb hw ⟨by simp[hE.1],λi e m he hm=>?_⟩;rw[cG]at he;rw[qk]at hm;split at he;rename_i hij;subst hij;rw[if_pos rfl,he0]at hm;split at he;cases he;simp at hm;subst hm;exact⟨hkd',hv'⟩;cases he;rename_i hij;rw[if_neg hij]at hm;exact hE.2 i e m he hm
theorem Kq{j:Nat}{v0:D}(ho:o.op=.call { callee:=.builtin .delete,args:=#[x,y],argTypes:=#[t,tk] })(hd:kZ C.n o.dst=true)(hl:uT C.P t=some (kt,d,et))(hx:st.fr.ev x=.mmap id)(hb:st.hp[id]?=some (.map kt' et' es))(hy:st.fr.ev y=.d k)(hks:∀e∈es,fV d e.1=true)(hnd:(es.map (·.1)).Nodup)(hj:es[j]?=some (k,v0))
    (hK:K (St.put ⟨st.fr,st.hp.set id (.map kt' et' (es.eraseIdx j))⟩ o.dst (.tup []))):OpOk C o st K:=
  OpOk.change λg a w hs=>by
    have hk:fV d k=true:=hks (k,v0) (dR hj);obtain⟨b,ents,clock,hp,hex,hw,hE,hey,hkk⟩:=oN hs hl hx hb hy hk;obtain⟨e0,he0,hek,_,hf⟩:=find_yes hE hks hnd hj;obtain⟨hu',hd'⟩:=jR hl;refine⟨.tuple #[],{ w with heap:=w.heap.setIfInBounds b (.map (ents.eraseIdxIfInBounds j) clock) },?_,_,g,hK,?_⟩;simp only[execOp,ho];simp[resolve,invoke,builtin,Builtin.delete_,hex,hey,run_underlying hu',MapKept.run_getObj_map hw,MapKept.run_checkKey hd' hkk,MapKept.run_findKey hd' hf,MapKept.run_setObj_map _ hw,Result.andThen];have hjs:j<ents.size:=(zal5q.1 he0).1;have hjl:j<es.length:=(zal44q.1 hj).1;refine(qA hs hp hb hw ⟨?_,λi e m he hm=>?_⟩).put' hd (.tup [] #[] rfl λi c v hc=>by simp at hc);simp[Array.eraseIdxIfInBounds,hjs,hE.1,List.length_eraseIdx,hjl];rw[List.getElem?_eraseIdx]at he
    have hm':(ents.toList.eraseIdx j)[i]?=some m:=by
      simp only[Array.eraseIdxIfInBounds,hjs,dif_pos]at hm;rw[<- Array.getElem?_toList]at hm;simpa using hm
    rw[List.getElem?_eraseIdx]at hm';split at he;rename_i hlt;rw[if_pos hlt]at hm';exact hE.2 i e m he (by simpa using hm');rename_i hge;rw[if_neg hge]at hm';exact hE.2 (i+1) e m he (by simpa using hm')
end upd
section steps
variable {ops:Array Oper}{l:List Oper}{K:St->Prop}{fr:Fr}{hp:List Blk}{dd:Nat}{ty:TypeId}{pos:String}{after:Array Edge}{x y u:Operand}{t tk kt et kt' et':TypeId}{d:TypeDesc}{id:Nat}{es es':List (D×D)}{k v:D}
theorem lE(kt et:TypeId)(hd:decide (dd<C.n)=true)(h:bO C ops l ⟨(dd,.mmap hp.length)::fr,hp++[.map kt et []]⟩ K):bO C ops (⟨some dd,.makeMap t none,ty,pos,after,none⟩::l) ⟨fr,hp⟩ K:=
  cU rfl (H9 rfl hd kt et h)
theorem Kc(hl:uT C.P t=some (kt,d,et))(hx:fr.ev x=.mmap id)(hb:hp[id]?=some (.map kt' et' es))(hy:fr.ev y=.d k)(hu:fr.ev u=.d v)(hk:fV d k=true)(hks:∀e∈es,fV d e.1=true)(hne:∀e∈es,e.1≠k)(he:es++[(k,v)]=es')
    (h:bO C ops l ⟨fr,hp.set id (.map kt' et' es')⟩ K):bO C ops (⟨none,.mapUpdate t x y u,ty,pos,after,none⟩::l) ⟨fr,hp⟩ K:=by
  subst he;exact cU rfl (H7 rfl rfl hl hx hb hy hu hk hks hne h)
theorem s_put_at{j:Nat}{v0:D}(hl:uT C.P t=some (kt,d,et))(hx:fr.ev x=.mmap id)(hb:hp[id]?=some (.map kt' et' es))(hy:fr.ev y=.d k)(hu:fr.ev u=.d v)(hks:∀e∈es,fV d e.1=true)(hnd:(es.map (·.1)).Nodup)(hj:es[j]?=some (k,v0))(he:es.set j (k,v)=es')
    (h:bO C ops l ⟨fr,hp.set id (.map kt' et' es')⟩ K):bO C ops (⟨none,.mapUpdate t x y u,ty,pos,after,none⟩::l) ⟨fr,hp⟩ K:=by
  subst he;exact cU rfl (Ko rfl rfl hl hx hb hy hu hks hnd hj h)
end steps
section
variable {C:Ctx}{ops:Array Oper}{l:List Oper}{K:St->Prop}{fr:Fr}{hp:List Blk}{ty:TypeId}{pos:String}{after:Array Edge}{x y u:Operand}{t tk kt et kt' et':TypeId}{id:Nat}
end
theorem Iw(s u:ByteArray):(s.toList == u.toList)=decide (s=u):=by
  rw[ByteArray.toList_eq,ByteArray.toList_eq,gv];simp only[beq_iff_eq,decide_eq_true_eq];constructor;intro h;cases s;cases u
  congr 1
  exact Array.toList_inj.1 h;intro h;rw[h]
def It(op:BinOp)(e:Bool):Option Bool:=
  match op with
  |.eql=>some e
  |.neq=>some (!e)
  |_=>none
theorem cmp_str{C:Ctx}{o:Oper}{ev:Operand->AV}{hp:List Blk}{op:BinOp}{t t':TypeId}{x y:Operand}{p q:ByteArray}{r:Bool}(ho:o.op=.binOp op t x y t')(hx:ev x=.d (.str p))(hy:ev y=.d (.str q))(hr:It op (decide (p=q))=some r):RdOk C o ev hp (.d (.bool r)):=
  RdOk.mk λst hhp hag g a w hs=>by
    have h:=hs.ev x;rw[hag x (by simp[ho,Op.operands]),hx]at h;have hi:=hs.ev y;rw[hag y (by simp[ho,Op.operands]),hy]at hi;refine⟨.bool r,?_,.d _ _ (.bool r)⟩
    have hg:(eqGuard op t x y (.string p) (.string q)).run C.P w=.ok () w:=by
      unfold eqGuard;cases op<;>simp
    simp only[execOp,ho,str_inv h,str_inv hi,Sem.run_bind,hg,Result.andThen_ok];cases op<;>simp only[It]at hr<;>cases hr<;>simp[binOp,Op.stringOp,Iw]
end Go.TL
set_option linter.unusedVariables false
set_option linter.unusedSimpArgs false
set_option linter.unusedSectionVars false
namespace Go.TL
variable {C:Ctx}{st:St}{g:Gh}{a:Act}{w:World}{P:Program}
theorem s_del0{ops:Array Oper}{l:List Oper}{K:St->Prop}{fr:Fr}{hp:List Blk}{ty:TypeId}{pos:String}{after:Array Edge}{x y:Operand}{t tk kt et kt' et':TypeId}{d:TypeDesc}{id:Nat}{es es':List (D×D)}{k:D}{j:Nat}{v0:D}(hl:uT C.P t=some (kt,d,et))(hx:fr.ev x=.mmap id)(hb:hp[id]?=some (.map kt' et' es))(hy:fr.ev y=.d k)(hks:∀e∈es,fV d e.1=true)(hnd:(es.map (·.1)).Nodup)(hj:es[j]?=some (k,v0))(he:es.eraseIdx j=es')
    (h:bO C ops l ⟨fr,hp.set id (.map kt' et' es')⟩ K):bO C ops (⟨none,.call { callee:=.builtin .delete,args:=#[x,y],argTypes:=#[t,tk] },ty,pos,after,none⟩::l) ⟨fr,hp⟩ K:=by
  subst he;exact cU rfl (Kq rfl rfl hl hx hb hy hks hnd hj h)
section look0
variable {o:Oper}{ev:Operand->AV}{hp:List Blk}{x y:Operand}{t kt et kt' et':TypeId}{d:TypeDesc}{id:Nat}{es:List (D×D)}{k v zd:D}{z:Value}
theorem Dt{j:Nat}(ho:o.op=.lookup t x y false)(hl:uT C.P t=some (kt,d,et))(hx:ev x=.mmap id)(hb:hp[id]?=some (.map kt' et' es))(hy:ev y=.d k)(hks:∀e∈es,fV d e.1=true)(hnd:(es.map (·.1)).Nodup)(hj:es[j]?=some (k,v)):RdOk C o ev hp (.d v):=
  RdOk.mk λst hhp hag g a w hs=>by
    have hk:fV d k=true:=hks (k,v) (dR hj);obtain⟨b,ents,clock,hp',hex,hw,hE,hey,hkk⟩:=oN hs hl (by rw[hag x (by simp[ho,Op.operands]),hx]) (hhp id _ hb λe=>by cases e) (by rw[hag y (by simp[ho,Op.operands]),hy]) hk;obtain⟨e,_,_,hv,hf⟩:=find_yes hE hks hnd hj;obtain⟨hu,hd⟩:=jR hl;refine⟨e.val,?_,.d _ _ hv⟩;simp only[execOp,ho,hex,hey];simp[Instr.lookup,run_underlying hu,MapKept.run_getObj_map hw,MapKept.run_checkKey hd hkk,MapKept.run_findKey hd hf,Result.andThen]
theorem Fp(ho:o.op=.lookup t x y false)(hl:uT C.P t=some (kt,d,et))(hz:(C.P.info? et).bind (·.zero)=some z)(hzd:dV z=.d zd)(hx:ev x=.mmap id)(hb:hp[id]?=some (.map kt' et' es))(hy:ev y=.d k)(hk:fV d k=true)(hks:∀e∈es,fV d e.1=true)(hne:∀e∈es,e.1≠k):RdOk C o ev hp (.d zd):=
  RdOk.mk λst hhp hag g a w hs=>by
    obtain⟨b,ents,clock,hp',hex,hw,hE,hey,hkk⟩:=oN hs hl (by rw[hag x (by simp[ho,Op.operands]),hx]) (hhp id _ hb λe=>by cases e) (by rw[hag y (by simp[ho,Op.operands]),hy]) hk;have hf:=xb hE hks hk hne;obtain⟨hu,hd⟩:=jR hl;refine⟨z,?_,by rw[<- hzd];exact jF w g _⟩;simp only[execOp,ho,hex,hey];simp[Instr.lookup,run_underlying hu,MapKept.run_getObj_map hw,MapKept.run_checkKey hd hkk,MapKept.run_findKey hd hf,qH hz,Result.andThen]
end look0
structure KeyF (d:TypeDesc) {α:Type} (kf:α->D):Prop where
  key:∀a,fV d (kf a)=true
  inj:∀a b,kf a=kf b->a=b
theorem yC:KeyF .string D.str:=⟨λ_=>rfl,λa b h=>by cases h;rfl⟩
theorem fT(k:IntKind):KeyF (.int k) (D.int k):=⟨λ_=>by simp[fV],λa b h=>by cases h;rfl⟩
def aV{α β:Type}(kf:α->D)(f:β->D)(fs:List (α×β)):List (D×D):=fs.map λx=>(kf x.1,f x.2)
def bH{α β:Type}[DecidableEq α](fs:List (α×β))(s:α):Option β:=(fs.find? λx=>decide (x.1=s)).map (·.2)
section pm
variable {α β:Type}[DecidableEq α]{kf:α->D}{f:β->D}{fs:List (α×β)}{s:α}{b:β}{dk:TypeDesc}
theorem kH(h:bH fs s=none):∀x∈fs,x.1≠s:=by
  intro x hx e;unfold bH at h;simp only[yS,xp]at h;have:=h x hx;simp[e]at this
theorem tI(h:bH fs s=some b):∃j:Nat,fs[j]?=some (s,b):=by
  unfold bH at h;simp only[bZ]at h;obtain⟨x,hx,rfl⟩:=h;have h1:=List.find?_some hx;simp at h1;subst h1;obtain⟨j,hj⟩:=iL (List.mem_of_find?_eq_some hx);exact⟨j,hj⟩
theorem kG(hk:KeyF dk kf):∀e∈aV kf f fs,fV dk e.1=true:=λe he=>by
  unfold aV at he;simp only[zal76q]at he;obtain⟨x,_,rfl⟩:=he;exact hk.key _
theorem qI(hk:KeyF dk kf)(h:(fs.map (·.1)).Nodup):((aV kf f fs).map (·.1)).Nodup:=by
  have:(aV kf f fs).map (·.1)=(fs.map (·.1)).map kf:=by simp[aV]
  rw[this];exact h.map _ λa b hab e=>hab (hk.inj _ _ e)
theorem vP(hk:KeyF dk kf)(h:∀x∈fs,x.1≠s):∀e∈aV kf f fs,e.1≠kf s:=λe he=>by
  unfold aV at he;simp only[zal76q]at he;obtain⟨x,hx,rfl⟩:=he;exact λq=>h x hx (hk.inj _ _ q)
variable {o:Oper}{ev:Operand->AV}{hp:List Blk}{x y u:Operand}{t kt et kt' et':TypeId}{id:Nat}{zd:D}{z:Value}
theorem Hx(hk:KeyF dk kf)(f:β->D)(fs:List (α×β))(s:α)(ho:o.op=.lookup t x y true)(hl:uT C.P t=some (kt,dk,et))(hz:(C.P.info? et).bind (·.zero)=some z)(hzd:dV z=.d zd)
    (hx:ev x=.mmap id) (hb:hp[id]?=some (.map kt' et' (aV kf f fs))) (hy:ev y=.d (kf s)) (hnd:(fs.map (·.1)).Nodup):RdOk C o ev hp (.tup [.d (match bH fs s with|some b=>f b|none=>zd),.d (.bool (bH fs s).isSome)]):=by
  cases h:bH fs s with
  |none=>exact Hy ho hl hz hzd hx hb hy (hk.key _) (kG hk) (vP hk (kH h))
  |some b=>
    obtain⟨j,hj⟩:=tI h;exact Fm (j:=j) ho hl hx hb hy (kG hk) (qI hk hnd) (by simp[aV,hj])
theorem qv(hk:KeyF dk kf)(f:β->D)(fs:List (α×β))(s:α)(ho:o.op=.lookup t x y false)(hl:uT C.P t=some (kt,dk,et))(hz:(C.P.info? et).bind (·.zero)=some z)(hzd:dV z=.d zd)
    (hx:ev x=.mmap id) (hb:hp[id]?=some (.map kt' et' (aV kf f fs))) (hy:ev y=.d (kf s)) (hnd:(fs.map (·.1)).Nodup):RdOk C o ev hp (.d (match bH fs s with|some b=>f b|none=>zd)):=by
  cases h:bH fs s with
  |none=>exact Fp ho hl hz hzd hx hb hy (hk.key _) (kG hk) (vP hk (kH h))
  |some b=>
    obtain⟨j,hj⟩:=tI h;exact Dt (j:=j) ho hl hx hb hy (kG hk) (qI hk hnd) (by simp[aV,hj])
variable {ops:Array Oper}{l:List Oper}{K:St->Prop}{fr:Fr}{ty:TypeId}{pos:String}{after:Array Edge}
theorem s_put_pm(hk:KeyF dk kf)(f:β->D){fs:List (α×β)}{s:α}{b:β}{es':List (D×D)}(hl:uT C.P t=some (kt,dk,et))(hx:fr.ev x=.mmap id)(hb:hp[id]?=some (.map kt' et' (aV kf f fs)))(hy:fr.ev y=.d (kf s))(hu:fr.ev u=.d (f b))(hn:bH fs s=none)(he:aV kf f (fs++[(s,b)])=es')
    (h:bO C ops l ⟨fr,hp.set id (.map kt' et' es')⟩ K):bO C ops (⟨none,.mapUpdate t x y u,ty,pos,after,none⟩::l) ⟨fr,hp⟩ K:=
  Kc hl hx hb hy hu (hk.key _) (kG hk) (vP hk (kH hn)) (by rw[<- he];simp[aV]) h
end pm
section arr
variable {o:Oper}{K:St->Prop}{t:TypeId}
end arr
variable {C:Ctx}{st:St}{g:Gh}{a:Act}{w:World}{P:Program}{o:Oper}{K:St->Prop}{ev:Operand->AV}{hp:List Blk}
theorem km{X:Nat->Prop}{v:Value}(h:ARep w g (.d .nilsl) v):∃ad,v=.slice ad 0 0:=by
  cases h with|d _ _ h=>cases h;exact⟨_,rfl⟩
theorem Kd(w:World)(t tn ty e:TypeId)(i:TypeInfo)(z:Value)(k kn:IntKind)(ht:P.underlying t=some (.slice e))(htn:P.underlying tn=some (.int kn))(hi:P.info? e=some i)(hz:i.zero=some z)
    (n:Nat) (ad:Option Addr) (h0:0<n) (hs:0<i.size) (h63:(n:Int)<=9223372036854775807) (h48:n*i.bytes<=281474976710656):
    (Builtin.append_ #[t,tn] ty #[.slice ad 0 0,.int k n]).run P w=
      .ok (.slice (some ⟨w.heap.size,0,none⟩) n (grownCap w n 0 e)) (w.drew.alloc (.cells (Builtin.zeroCells z.cells n++Builtin.zeroCells z.cells (grownCap w n 0 e-n)) e)):=by
  cases ad with
  |none=>exact Lib.run_append_nil_zeros w t tn ty e i z k kn ht htn hi hz n h0 hs h63 h48
  |some b=>
    have hn:n≠0:=by omega
    have hw:IntKind.i64.wrap (n:Int)=n:=by rw[IntKind.wrap_i64];omega
    have h63':¬(9223372036854775807<(n:Int)):=by omega
    have h48':¬(281474976710656<Builtin.nextslicecap n 0*i.bytes):=by rw[nextslicecap_zero h0];omega
    have h48i:¬(281474976710656<(n:Int)*(i.bytes:Int)):=by
      rw[<- Int.natCast_mul];omega
    have hneg:¬((n:Int)<0):=by omega
    have hns:¬(n*i.size=0):=Nat.mul_ne_zero hn (by omega);have hf:=run_firstCells_some (P:=P) w.drew i.size 0 b 0 0 [] (by simp) (λj v h=>by simp at h);simp[Builtin.append_,run_underlying ht,run_underlying htn,sizeOf,typeInfo,zeroValue,hi,hz,asInt,asIntOf,hw,hn,hneg,hns,h63',h48',h48i,Question.forced,hf,newRow,grownCap]
theorem ok_zeros{t tn e:TypeId}{x y:Operand}{sz by' n:Nat}{z:Value}{k kn:IntKind}(ho:o.op=.call { callee:=.builtin .append,args:=#[x,y],argTypes:=#[t,tn] })(hd:kZ C.n o.dst=true)(hl:sel C.P t=some (e,sz,by'))(htn:C.P.underlying tn=some (.int kn))
    (hz:(C.P.info? e).bind (·.zero)=some z) (hx:st.fr.ev x=.d .nilsl) (hy:st.fr.ev y=.d (.int k n)) (hzc:z.cells.size=sz) (h0:0<n) (hs0:0<sz) (hlen:n*by'<=281474976710656) (hlen':n<=9223372036854775807)
    (hK:K (St.put ⟨st.fr,st.hp++[.flat e sz []]⟩ o.dst (.msl st.hp.length sz 0 n))):OpOk C o st K:=
  OpOk.change λg a w hsim=>by
    obtain⟨inf,hun,hi,hsz,hby⟩:=lM hl;obtain⟨i',hi',hzero⟩:=nB hz;cases hi.symm.trans hi';have hvx:=hsim.ev x;rw[hx]at hvx;obtain⟨ad,hex⟩:=km (X:=g.X) hvx;have hvy:=hsim.ev y;rw[hy]at hvy;have hey:=int_inv hvy;have hr:=Kd (P:=C.P) w t tn o.type e inf z k kn hun htn hi hzero n ad h0 (by omega) (by omega) (by rw[hby];exact hlen);rw[<- hex,<- hey]at hr;have hcap:n<=grownCap w n 0 e:=grownCap_ge w n 0 e;obtain⟨h1,_⟩:=eq (ty:=e) (sz:=sz) (es:=[]) (vs:=Builtin.zeroCells z.cells n++Builtin.zeroCells z.cells (grownCap w n 0 e-n)) hsim.drew (by simp) (λi e h=>by simp at h) (λi e j c h=>by simp at h) (λi e j c h=>by simp at h)
    have h3:ARep (w.drew.alloc (.cells (Builtin.zeroCells z.cells n++Builtin.zeroCells z.cells (grownCap w n 0 e-n)) e)) (g.new st.hp.length w.heap.size (Builtin.zeroCells z.cells n++Builtin.zeroCells z.cells (grownCap w n 0 e-n)).size) (.msl st.hp.length sz 0 n) (.slice (some ⟨w.heap.size,0,none⟩) n (grownCap w n 0 e)):=by
      have:=ARep.msl (w:=w.drew.alloc (.cells (Builtin.zeroCells z.cells n++Builtin.zeroCells z.cells (grownCap w n 0 e-n)) e)) (g:=g.new st.hp.length w.heap.size (Builtin.zeroCells z.cells n++Builtin.zeroCells z.cells (grownCap w n 0 e-n)).size) st.hp.length sz 0 n (grownCap w n 0 e) w.heap.size (by simp[Gh.new,upd]) hcap (by
        simp only[Gh.new,upd,if_true,vA,size_zeroCells,hzc,eL,<- Nat.add_mul];rw[show n+(grownCap w n 0 e-n)=grownCap w n 0 e by omega]
        exact cT _)
      simpa using this
    refine⟨_,_,?_,_,_,hK,h1.put' hd h3⟩;simp only[execOp,ho];simp[resolve,invoke,builtin,hr]
section steps
variable {ops:Array Oper}{l:List Oper}{fr:Fr}{d:Nat}{ty:TypeId}{pos:String}{after:Array Edge}{t tn e:TypeId}{x y:Operand}{sz by' n:Nat}{z:Value}{k kn:IntKind}
theorem s_zeros(hd:decide (d<C.n)=true)(hl:sel C.P t=some (e,sz,by'))(htn:C.P.underlying tn=some (.int kn))(hz:(C.P.info? e).bind (·.zero)=some z)(hx:fr.ev x=.d .nilsl)(hy:fr.ev y=.d (.int k n))(hzc:z.cells.size=sz)(h0:0<n)(hs0:0<sz)(hlen:n*by'<=281474976710656)(hlen':n<=9223372036854775807)
    (h:bO C ops l ⟨(d,.msl hp.length sz 0 n)::fr,hp++[.flat e sz []]⟩ K):bO C ops (⟨some d,.call { callee:=.builtin .append,args:=#[x,y],argTypes:=#[t,tn] },ty,pos,after,none⟩::l) ⟨fr,hp⟩ K:=
  cU rfl (ok_zeros rfl hd hl htn hz hx hy hzc h0 hs0 hlen hlen' h)
end steps
section rds
variable {t e:TypeId}{x:Operand}{sz by':Nat}
theorem Jw(ho:o.op=.call { callee:=.builtin .cap,args:=#[x],argTypes:=#[t] })(hl:sel C.P t=some (e,sz,by'))(hx:ev x=.d .nilsl):RdOk C o ev hp (.d (.int .i64 0)):=
  RdOk.mk λst hhp hag g a w hs=>by
    have h:=hs.ev x;rw[hag x (by simp[ho,Op.operands,Call.operands]),hx]at h;obtain⟨inf,hu,hi,_,_⟩:=lM hl;obtain⟨ad,he⟩:=km (X:=g.X) h;refine⟨goInt 0,?_,.d _ _ (.int _ _)⟩;simp only[execOp,ho];simp[resolve,invoke,builtin,Builtin.cap_,run_underlying hu,he]
theorem cut_nil{lo hi:Option Operand}(ho:o.op=.slice t x lo hi none)(hl:sel C.P t=some (e,sz,by'))(hx:ev x=.d .nilsl)(hlo:Bp 0 (lo.map ev)=some 0)(hhi:Bp 0 (hi.map ev)=some 0):RdOk C o ev hp (.d .nilsl):=
  RdOk.mk λst hhp hag g a w hs=>by
    have h:=hs.ev x;rw[hag x (by simp[ho,Op.operands]),hx]at h
    have bound:∀(q:Option Operand),(∀y,q=some y->y∈o.op.operands)->Bp 0 (q.map ev)=some 0->(q.map a.eval=none/\(0:Nat)=0)\/∃k,q.map a.eval=some (.int k ((0:Nat):Int)):=by
      intro q hq hb
      cases q with
      |none=>exact .inl ⟨rfl,rfl⟩
      |some y=>
        have hy:=hs.ev y;rw[hag y (hq y rfl)]at hy;simp only[gO]at hb⊢;unfold Bp at hb;split at hb;rename_i e;cases e;rename_i k m e;rw[aS e]at hy;cases hb;exact .inr ⟨k,by rw[int_inv hy];rfl⟩;cases hb
    have hlo':=bound lo (λy hy=>by subst hy;simp[ho,Op.operands]) hlo;have hhi':=bound hi (λy hy=>by subst hy;simp[ho,Op.operands]) hhi;obtain⟨ad,he⟩:=km (X:=g.X) h;have:=Dm hl w ad 0 0 (lo.map a.eval) (hi.map a.eval) 0 0 hlo' hhi' (cT _) (cT _);refine⟨.slice ad 0 0,?_,.d _ _ (.nilsl _)⟩;simp only[execOp,ho,he,Option.map_none,Sem.run_bind,this,Result.andThen_ok,Sem.run_pure];simp
end rds
def lk{α:Type}:List (Nat×α)->Nat->Option α
  |[],_=>none
  |(k,a)::r,t=>match Nat.beq k t with
    |true=>some a
    |false=>lk r t
theorem cl{α:Type}:∀{l:List (Nat×α)} {t:Nat} {a:α},lk l t=some a->(t,a)∈l
  |[],_,_,h=>by cases h
  |(k,b)::r,t,a,h=>by
    simp only[lk]at h;split at h;rename_i e;cases h;rw[dO e];simp;exact xC _ (cl h)
structure Tab where
  lay:List (Nat×Bool×Nat)
  fs:List (Nat×List (Nat×Bool×Nat))
  sel:List (Nat×Nat×Nat×Nat)
  str:List (Nat×Unit)
  boo:List (Nat×Unit)
  con:List (Nat×Unit)
structure TabOk (P:Program) (T:Tab):Prop where
  lay:∀{t:Nat}{x:Bool×Nat},lk T.lay t=some x->lay P t=some x
  fs:∀{t:Nat}{l:List (Nat×Bool×Nat)} {f:Nat} {x:Nat×Bool×Nat},lk T.fs t=some l->l[f]?=some x->fld P t f=some x.1/\In P t f=some x
  sel:∀{t:Nat}{x:Nat×Nat×Nat},lk T.sel t=some x->sel P t=some x
  str:∀{t:Nat}{x:Unit},lk T.str t=some x->P.underlying t=some .string
  boo:∀{t:Nat}{x:Unit},lk T.boo t=some x->P.underlying t=some .bool
  con:∀{t:Nat}{x:Unit},lk T.con t=some x->Gv P t=true
def isStr(P:Program)(t:Nat):Bool:=match P.underlying t with
  |some .string=>true
  |_=>false
def isBoo(P:Program)(t:Nat):Bool:=match P.underlying t with
  |some .bool=>true
  |_=>false
def tabB(P:Program)(T:Tab):Bool:=
  T.lay.all (λe=>lay P e.1 == some e.2)&&T.fs.all (λe=>e.2.zipIdx.all λx=>fld P e.1 x.2 == some x.1.1&&In P e.1 x.2 == some x.1)&&T.sel.all (λe=>sel P e.1 == some e.2)&&
  T.str.all (λe=>isStr P e.1)&&T.boo.all (λe=>isBoo P e.1)&&T.con.all (λe=>Gv P e.1)
theorem tabB_ok{P:Program}{T:Tab}(h:tabB P T=true):TabOk P T:=by
  simp only[tabB,lH,zal27q]at h;obtain⟨⟨⟨⟨⟨h1,h2⟩,h3⟩,h4⟩,h5⟩,h6⟩:=h;refine⟨λhl=>?_,fun {t l f x} hl hf=>?_,λhl=>?_,λhl=>?_,λhl=>?_,λhl=>?_⟩;simpa using h1 _ (cl hl);have := h2 _ (cl hl) (x, f) (by rw [List.mem_zipIdx_iff_getElem?]; simpa using hf);simpa using this;simpa using h3 _ (cl hl);have:=h4 _ (cl hl);simp only[isStr]at this;split at this;assumption;cases this;have:=h5 _ (cl hl);simp only[isBoo]at this;split at this;assumption;cases this;exact h6 _ (cl hl)
def nf:AV->Option AV
  |.d d=>some (.d d)
  |.msl i s o l=>some (.msl i s o l)
  |.mptr i s x o=>some (.mptr i s x o)
  |.mmap i=>some (.mmap i)
  |.yld i=>some (.yld i)
  |.mmapN i n=>some (.mmapN i n)
  |.agg cs=>some (.agg cs)
  |.tup vs=>some (.tup vs)
  |.fnc f c=>some (.fnc f c)
  |.ifc t v=>some (.ifc t v)
  |_=>none
theorem wJ{v u:AV}(h:nf v=some u):v=u:=by cases v<;>first|(simp only[nf,mE]at h;exact h)|cases h
def xU(fr:Fr):List Nat->Option Fr
  |[]=>some []
  |k::ks=>match nf (fr.get k)with
    |some v=>match xU fr ks with
      |some r=>some ((k,v)::r)
      |none=>none
    |none=>none
theorem zC{fr:Fr}:∀{ks:List Nat}{r:Fr},xU fr ks=some r->SubK fr ks r
  |[],r,h=>by cases h;exact .nil
  |k::ks,r,h=>by
    simp only[xU]at h;split at h;rename_i v hv;split at h;rename_i r' hr;cases h;exact .cons k v ks r' (wJ hv) (zC hr);cases h;cases h
def Jf:List AV->Option (List AV)
  |[]=>some []
  |c::r=>match nf c with
    |some v=>match Jf r with
      |some r'=>some (v::r')
      |none=>none
    |none=>none
theorem F0:∀{cs ds:List AV},Jf cs=some ds->cs=ds
  |[],_,h=>by cases h;rfl
  |c::r,ds,h=>by
    simp only[Jf]at h;split at h;rename_i v hv;split at h;rename_i r' hr;cases h;rw[wJ hv,F0 hr];cases h;cases h
def Fz:List Blk->Option (List Blk)
  |[]=>some []
  |b::r=>match Fz r with
    |some r'=>match b with
      |.dead=>some (.dead::r')
      |.hole=>some (.hole::r')
      |.flat t s es=>some (.flat t s es::r')
      |.map k v es=>some (.map k v es::r')
      |.ob o=>some (.ob o::r')
      |.mapv k v es=>some (.mapv k v es::r')
      |.lp s pd ps a b n fr=>some (.lp s pd ps a b n fr::r')
      |.box t cs=>match Jf cs with
        |some cs'=>some (.box t cs'::r')
        |none=>none
    |none=>none
theorem Fy:∀{hp hp':List Blk},Fz hp=some hp'->hp=hp'
  |[],_,h=>by cases h;rfl
  |b::r,hp',h=>by
    simp only[Fz]at h;split at h;rename_i r' hr;have e:=Fy hr
    cases b with
    |box t cs=>
      simp only at h;split at h;rename_i cs' hc;cases h;rw[F0 hc,e];cases h
    |_=>simp only[mE]at h;rw[<- h,e]
    cases h
theorem WN{C:Ctx}{c:Code}{Q:Exit->St->Prop}{fr fr':Fr}{hp hp':List Blk}(ks:List Nat)(h1:xU fr ks=some fr')(h2:Fz hp=some hp')(h:TWp C c ⟨fr',hp'⟩ Q):TWp C c ⟨fr,hp⟩ Q:=
  cV ks (zC h1) (Fy h2) h
def bl(agg:Bool)(s:Nat)(hp:List Blk):AV->Option AV
  |.d (.ptr e off)=>match agg with
    |false=>match e.cells[off]? with
      |some d=>some (.d d)
      |none=>none
    |true=>match Nat.beq off 0,Nat.beq e.cells.length s,e.one with
      |true,true,false=>some (.d e)
      |_,_,_=>match Nat.ble (off+s) e.cells.length with
        |true=>some (.d (e.part off s))
        |false=>none
  |.mptr id s' i off=>match Nat.beq s' 0,Nat.beq i 0 with
    |true,true=>match hp[id]? with
      |some (.box _ cs)=>match agg with
        |false=>match cs[off]? with
          |some c=>nf c
          |none=>none
        |true=>match Nat.ble (off+s) cs.length with
          |true=>nf (wK ((cs.drop off).take s))
          |false=>none
      |_=>none
    |_,_=>none
  |_=>none
def Io(fo:Nat)(agg:Bool)(n:Nat)(u:AV):Option AV:=
  match u.isAgg with
  |true=>match agg with
    |false=>match u.cells[fo]? with
      |some c=>nf c
      |none=>none
    |true=>match Nat.ble (fo+n) u.cells.length with
      |true=>nf (wK ((u.cells.drop fo).take n))
      |false=>none
  |false=>none
def zo(op:BinOp)(isB:Option Unit):AV->AV->Option AV
  |.d (.int k m),.d (.int k' n)=>match decide (k=k')with
    |true=>match Em op m n with
      |some b=>some (.d (.bool b))
      |none=>none
    |false=>none
  |.d (.str p),.d (.str q)=>match It op (decide (p=q))with
    |some b=>some (.d (.bool b))
    |none=>none
  |.d (.bool p),.d (.bool q)=>match isB with
    |some _=>match En op p q with
      |some b=>some (.d (.bool b))
      |none=>none
    |none=>none
  |_,_=>none
def Jc:AV->AV->AV->Option AV
  |.d (.bool b),u,v=>match b with
    |true=>nf u
    |false=>nf v
  |_,_,_=>none
def rdE(T:Tab)(op:Op)(ev:Operand->AV)(hp:List Blk):Option AV:=
  match op with
  |.move x=>nf (ev x)
  |.assign x=>nf (ev x)
  |.load t x=>match lk T.lay t with
    |some (b,s)=>bl b s hp (ev x)
    |none=>none
  |.fieldAddr s x f=>match lk T.fs s with
    |some l=>match l[f]? with
      |some (fo,_,_)=>match ev x with
        |.d (.ptr e off)=>some (.d (.ptr e (off+fo)))
        |.mptr id sz i off=>some (.mptr id sz i (off+fo))
        |_=>none
      |none=>none
    |none=>none
  |.field s x f=>match lk T.fs s with
    |some l=>match l[f]? with
      |some (fo,b,n)=>Io fo b n (ev x)
      |none=>none
    |none=>none
  |.binOp op t x y _=>zo op (lk T.boo t) (ev x) (ev y)
  |.unOp .not _ x=>match ev x with
    |.d (.bool b)=>some (.d (.bool (!b)))
    |_=>none
  |.pick c x y=>Jc (ev c) (ev x) (ev y)
  |.extract x i=>match ev x with
    |.tup vs=>match vs[i]? with
      |some v=>nf v
      |none=>none
    |_=>none
  |.nilCheck x=>match (ev x).notNil with
    |true=>nf (ev x)
    |false=>none
  |.call { callee:=.builtin .len,args:=⟨[x]⟩,argTypes:=⟨[t]⟩ }=>match ev x with
    |.d (.str s)=>match lk T.str t with
      |some _=>some (.d (.int .i64 s.size))
      |none=>none
    |.msl _ _ _ n=>match lk T.sel t with
      |some _=>some (.d (.int .i64 n))
      |none=>none
    |_=>none
  |.makeInterface t x=>match lk T.con t with
    |some _=>match ev x with
      |.d d=>some (.d (.iface t d))
      |_=>none
    |none=>none
  |.typeAssert x _ t true=>match lk T.con t with
    |some _=>match ev x with
      |.d (.iface t' d)=>match Nat.beq t' t with
        |true=>some (.tup [.d d,.d (.bool true)])
        |false=>none
      |_=>none
    |none=>none
  |.makeFunc (.func F) ⟨[]⟩ caps=>match evD (caps.toList.map ev)with
    |some ds=>some (.d (.clo F ds))
    |none=>none
  |_=>none
section rd
variable {C:Ctx}{T:Tab}{o:Oper}{ev:Operand->AV}{hp:List Blk}{v:AV}
theorem loadE_ok{t:TypeId}{x:Operand}{b:Bool}{s:Nat}(ho:o.op=.load t x)(hl:lay C.P t=some (b,s))(h:bl b s hp (ev x)=some v):RdOk C o ev hp v:=by
  cases hx:ev x with
  |d d=>
    rw[hx]at h
    cases d with
    |ptr e off=>
      cases b with
      |false=>
        simp only[bl]at h;split at h;rename_i d hd;cases h;exact qw e d off s ho hl hx hd;cases h
      |true=>
        simp only[bl]at h;split at h;rename_i h1 h2 h3;cases h;have h1:=dO h1;subst h1;exact Ku ho hl hx (dO h2) h3;split at h
        · rename_i hb;cases h;exact xM e off s ho hl hx (dK hb)
        cases h
    |_=>simp[bl]at h
  |mptr id s' i off=>
    rw[hx]at h;simp only[bl]at h;split at h;rename_i h1 h2;have h1:=dO h1;have h2:=dO h2;subst h1 h2;split at h;rename_i bt cs hb
    cases b with
    |false=>
      simp only at h;split at h;rename_i c hc;rw[<- wJ h];exact Fq id off s cs c ho hl hx hb hc;cases h
    |true=>
      simp only at h;split at h;rename_i hc;rw[<- wJ h];exact yo id off s cs ho hl hx hb (dK hc);cases h
    cases h;cases h
  |_=>rw[hx]at h;simp[bl]at h
theorem K0{s:TypeId}{x:Operand}{f fo n:Nat}{b:Bool}(ho:o.op=.field s x f)(hf:In C.P s f=some (fo,b,n))(h:Io fo b n (ev x)=some v):RdOk C o ev hp v:=by
  simp only[Io]at h;split at h;rename_i ha
  cases b with
  |false=>
    simp only at h;split at h;rename_i c hc;rw[<- wJ h];exact Km ho hf rfl ha hc;cases h
  |true=>
    simp only at h;split at h;rename_i hc;exact H0 ho hf rfl ha hc (wJ h);cases h
  cases h
theorem cmpE_ok{op:BinOp}{t t':TypeId}{x y:Operand}{u:Option Unit}(hu:∀z,u=some z->C.P.underlying t=some .bool)(ho:o.op=.binOp op t x y t')(h:zo op u (ev x) (ev y)=some v):RdOk C o ev hp v:=by
  cases hx:ev x with
  |d d=>
    rw[hx]at h
    cases hy:ev y with
    |d e=>
      rw[hy]at h
      cases d with
      |int k m=>
        cases e with
        |int k' n=>
          simp only[zo]at h;split at h;rename_i hk;have hk:=of_decide_eq_true hk;subst hk;split at h;rename_i b hb;cases h;exact rd_cmp k m n b ho hx hy hb;cases h;cases h
        |_=>simp[zo]at h
      |str p=>
        cases e with
        |str q=>
          simp only[zo]at h;split at h;rename_i b hb;cases h;exact cmp_str ho hx hy hb;cases h
        |_=>simp[zo]at h
      |bool p=>
        cases e with
        |bool q=>
          simp only[zo]at h;split at h;rename_i z;split at h;rename_i b hb;cases h;exact cmp_bool (hu _ rfl) ho hx hy hb;cases h;cases h
        |_=>simp[zo]at h
      |_=>simp[zo]at h
    |_=>rw[hy]at h;simp[zo]at h
  |_=>rw[hx]at h;simp[zo]at h
theorem pickE_ok{c x y:Operand}(ho:o.op=.pick c x y)(h:Jc (ev c) (ev x) (ev y)=some v):RdOk C o ev hp v:=by
  cases hc:ev c with
  |d d=>
    rw[hc]at h
    cases d with
    |bool b=>
      cases b with
      |true=>exact pick_T ho hc (wJ h)
      |false=>exact pick_F ho hc (wJ h)
    |_=>simp[Jc]at h
  |_=>rw[hc]at h;simp[Jc]at h
theorem rdE_ok(hT:TabOk C.P T)(h:rdE T o.op ev hp=some v):RdOk C o ev hp v:=by
  unfold rdE at h;split at h;rename_i x ho;rw[<- wJ h];exact eg (.inl ho);rename_i x ho;rw[<- wJ h];exact eg (.inr ho);rename_i t x ho;split at h;rename_i b s hl;exact loadE_ok ho (hT.lay hl) h;cases h;rename_i s x f ho;split at h;rename_i l hl;split at h;rename_i fo b n hf;split at h;rename_i e off hx;cases h;exact kg e off fo ho (hT.fs hl hf).1 hx;rename_i id sz i off hx;cases h;exact eh id sz i off fo ho (hT.fs hl hf).1 hx;cases h;cases h;cases h;rename_i s x f ho;split at h;rename_i l hl;split at h;rename_i fo b n hf;exact K0 ho (hT.fs hl hf).2 h;cases h;cases h;rename_i op t x y t' ho;exact cmpE_ok (λz hz=>hT.boo hz) ho h;rename_i t x ho;split at h;rename_i b hx;cases h;exact not_b ho hx rfl;cases h;rename_i c x y ho;exact pickE_ok ho h;rename_i x i ho;split at h;rename_i vs hx;split at h;rename_i u hu;rw[<- wJ h];exact H1 vs u ho hx hu;cases h;cases h;rename_i x ho;split at h;rename_i hn;rw[<- wJ h];exact Fl _ ho rfl hn;cases h;rename_i x t ho;split at h;rename_i s hx;split at h;rename_i z hz;cases h;exact Hz s ho (hT.str hz) hx;cases h;rename_i i s f n hx;split at h;rename_i z hz;cases h;obtain⟨e,sz,by'⟩:=z;exact kd _ sz by' n ho (hT.sel hz) hx rfl
  cases h;cases h;rename_i t x ho;split at h;rename_i z hz;split at h;rename_i d hx;cases h;exact Hw ho (hT.con hz) hx;cases h;cases h;rename_i x xt t ho;split at h;rename_i z hz;split at h;rename_i t' d hx;split at h;rename_i he;cases h;have he:=dO he;subst he;exact ek ho (hT.con hz) hx;cases h;cases h;cases h;rename_i F caps ho;split at h;rename_i ds hx;cases h;exact Dr ho hx;cases h;cases h
end rd
def wy(ops:Array Oper)(gd:Option (Nat×Bool))(fr:Fr):Option Bool:=
  match gd with
  |none=>some true
  |some (i,want)=>match (ops[i]?).bind (·.dst)with
    |some t=>match fr.get t with
      |.d (.bool b)=>match b,want with
        |true,true=>some true
        |false,false=>some true
        |true,false=>some false
        |false,true=>some false
      |.und=>some false
      |_=>none
    |none=>none
def storeE(T:Tab)(t:TypeId)(hp:List Blk)(p v:AV):Option (List Blk):=
  match lk T.lay t with
  |some (_,s)=>match p with
    |.mptr id s' i off=>match Nat.beq s' 0,Nat.beq i 0 with
      |true,true=>match hp[id]? with
        |some (.box bt cs)=>match v.flat,Nat.beq v.cells.length s,Nat.ble (off+s) cs.length with
          |true,true,true=>some (hp.set id (.box bt (spl cs off v.cells)))
          |_,_,_=>none
        |_=>none
      |_,_=>none
    |_=>none
  |none=>none
def stE(T:Tab)(n:Nat)(ops:Array Oper)(o:Oper)(fr:Fr)(hp:List Blk):Option (Fr×List Blk):=
  match wy ops o.guard fr with
  |some true=>match o.dst with
    |some d=>match Nat.blt d n with
      |true=>match rdE T o.op fr.ev hp with
        |some v=>some ((d,v)::fr,hp)
        |none=>none
      |false=>none
    |none=>match o.op with
      |.store t x y=>match storeE T t hp (fr.ev x) (fr.ev y)with
        |some hp'=>some (fr,hp')
        |none=>none
      |_=>none
  |some false=>match o.dst with
    |some d=>match Nat.blt d n with
      |true=>some ((d,.und)::fr,hp)
      |false=>none
    |none=>none
  |none=>none
theorem xf{d n:Nat}(h:Nat.blt d n=true):decide (d<n)=true:=by simpa[uW]using h
theorem D3{C:Ctx}{ops:Array Oper}{gd:Option (Nat×Bool)}{st:St}{g:Gh}{a:Act}{w:World}(hs:Sim C st g a w){b:Bool}(h:wy ops gd st.fr=some b):gd=none/\b=true\/∃i want,gd=some (i,want)/\((yielded ops a.tmps i=some want/\b=true)\/(yielded ops a.tmps i≠some want/\b=false)):=by
  unfold wy at h;split at h;cases h;exact .inl ⟨rfl,rfl⟩;rename_i i want;right;refine⟨i,want,rfl,?_⟩;split at h;rename_i t ht;split at h;rename_i c hc;have hy:=be hs ht hc;split at h<;>cases h<;>simp[hy];rename_i hc;cases h;have hy:=qo hs ht hc;simp[hy];cases h;cases h
theorem SA{C:Ctx}{T:Tab}{ops:Array Oper}{o:Oper}{l:List Oper}{K:St->Prop}{fr fr':Fr}{hp hp':List Blk}(hT:TabOk C.P T)(h:stE T C.n ops o fr hp=some (fr',hp'))(k:bO C ops l ⟨fr',hp'⟩ K):bO C ops (o::l) ⟨fr,hp⟩ K:=by
  intro g a w hs;unfold stE at h;split at h;rename_i hon
  have hrun:OpOk C o ⟨fr,hp⟩ (λst''=>bO C ops l st'' K)->wpList C.P ops (QN C K) (o::l) a w:=by
    intro hok;unfold wpList
    have hw:Region.wanted o (yielded ops a.tmps)=true:=by
      rcases D3 hs hon with⟨hg,_⟩|⟨i,want,hg,⟨hy,_⟩|⟨_,hc⟩⟩
      simp[Region.wanted,hg];simp[Region.wanted,hg,hy];cases hc
    rw[if_pos hw];exact .inl (Oper.wp_mono (λa w ⟨st',g',hK,hs'⟩=>hK g' a w hs') (hok g a w _ hs))
  split at h;rename_i d hd;split at h;rename_i hlt;split at h;rename_i v hv;cases h;exact hrun ((rdE_ok (hp:=hp) hT hv).ok (st:=⟨fr,hp⟩) (by rw[hd];exact xf hlt) (by rw[hd];exact k));cases h;cases h;rename_i hd;split at h;rename_i t x y ho;split at h;rename_i hp' hst;cases h;unfold storeE at hst;split at hst;rename_i bb s hl;split at hst;rename_i id s' i off hx;split at hst;rename_i e1 e2;have e1:=dO e1;have e2:=dO e2;subst e1 e2;split at hst;rename_i bt cs hb;split at hst;rename_i f1 f2 f3;cases hst;exact hrun (D4 id off s bb cs _ ho hd (hT.lay hl) hx rfl f1 (dO f2) hb (dK f3) k);cases hst;cases hst;cases hst;cases hst;cases hst;cases h;cases h;rename_i hon
  have hw:¬Region.wanted o (yielded ops a.tmps)=true:=by
    rcases D3 hs hon with⟨_,hc⟩|⟨i,want,hg,⟨_,hc⟩|⟨hy,_⟩⟩
    cases hc;cases hc;simpa[Region.wanted,hg]using hy
  split at h;rename_i d hd;split at h;rename_i hlt;cases h;unfold wpList;rw[if_neg hw];refine k g _ w ?_;rw[hd];exact hs.put (of_decide_eq_true (xf hlt)) .und;cases h;cases h;cases h
theorem SB{C:Ctx}{T:Tab}{ops:Array Oper}{o:Oper}{l:List Oper}{K:St->Prop}{fr0 fr:Fr}{hp0 hp:List Blk}{d:Nat}{e:Bool}(hT:TabOk C.P T)(h:stE T C.n ops o fr0 hp0=some ((d,.d (.bool e))::fr,hp))(k:∀b,e=b->bO C ops l ⟨(d,.d (.bool b))::fr,hp⟩ K):bO C ops (o::l) ⟨fr0,hp0⟩ K:=
  SA hT h (k e rfl)
theorem dZ{ops:Array Oper}{o:Oper}{fr:Fr}{b:Bool}(h:wy ops o.guard fr=some b):onA ops fr o=some b:=by
  unfold wy at h;unfold onA;split at h;rename_i hg;rw[hg];exact h;rename_i i want hg;rw[hg];simp only;split at h;rename_i t ht;rw[ht];simp only;split at h;rename_i c hc;rw[hc];simp only;split at h<;>exact h;rename_i hc;rw[hc];exact h;cases h;cases h
def drE(T:Tab)(n:Nat)(ops:Array Oper)(o:Oper)(fr:Fr)(hp:List Blk):Option (Bool×Nat×AV):=
  match wy ops o.guard fr with
  |some b=>match o.dst with
    |some d=>match Nat.blt d n with
      |true=>match b with
        |true=>match rdE T o.op fr.ev hp with
          |some v=>some (true,d,v)
          |none=>none
        |false=>some (false,d,.und)
      |false=>none
    |none=>none
  |none=>none
theorem DA{C:Ctx}{T:Tab}{ops:Array Oper}{o:Oper}{l:List Oper}{K:St->Prop}{fr:Fr}{hp:List Blk}{acc:List Rec}{on:Bool}{d:Nat}{v:AV}(rs:List Nat)(hT:TabOk C.P T)(h:drE T C.n ops o fr (y4 rs hp)=some (on,d,v))
    (k:TDr C ops K l ((d,v)::fr) hp (acc++[⟨on,d,v,bif on then rs else[],[]⟩])):TDr C ops K (o::l) fr hp acc:=by
  unfold drE at h;split at h;rename_i b hon;split at h;rename_i d' hd;split at h;rename_i hlt;split at h;split at h
  · rename_i u hv
    cases h;exact .step o l fr hp acc d v rs [] v (.inl ⟨hd,xf hlt,rfl⟩) (dZ hon) (λp hp=>by simp at hp) (rdE_ok hT hv).dok k
  cases h;cases h;exact .skip o l fr hp acc d _ (.inl ⟨hd,xf hlt,rfl⟩) (dZ hon) k;cases h;cases h;cases h
theorem bn{C:Ctx}{T:Tab}{ops:Array Oper}{o:Oper}{l:List Oper}{K:St->Prop}{fr:Fr}{hp:List Blk}{acc:List Rec}{d:Nat}{e:Bool}(rs:List Nat)(hT:TabOk C.P T)(h:drE T C.n ops o fr (y4 rs hp)=some (true,d,.d (.bool e)))
    (k:∀b,e=b->TDr C ops K l ((d,.d (.bool b))::fr) hp (acc++[⟨true,d,.d (.bool b),rs,[]⟩])):TDr C ops K (o::l) fr hp acc:=
  DA rs hT h (k e rfl)
theorem DX{C:Ctx}{ops:Array Oper}{op:Op}{ty:TypeId}{pos:String}{after:Array Edge}{gd:Option (Nat×Bool)}{l:List Oper}{K:St->Prop}{fr:Fr}{hp:List Blk}{acc:List Rec}{d:Nat}{v:AV}(rs:List Nat)(hd:decide (d<C.n)=true)(hon:wy ops gd fr=some true)
    (hr:RdOk C ⟨some d,op,ty,pos,after,gd⟩ fr.ev (y4 rs hp) v) (k:TDr C ops K l ((d,v)::fr) hp (acc++[⟨true,d,v,rs,[]⟩])):TDr C ops K (⟨some d,op,ty,pos,after,gd⟩::l) fr hp acc:=
  .step _ l fr hp acc d v rs [] v (.inl ⟨rfl,hd,rfl⟩) (dZ (o:=⟨some d,op,ty,pos,after,gd⟩) hon) (λp hp=>by simp at hp) hr.dok k
theorem SX{C:Ctx}{ops:Array Oper}{op:Op}{ty:TypeId}{pos:String}{after:Array Edge}{gd:Option (Nat×Bool)}{l:List Oper}{K:St->Prop}{fr:Fr}{hp:List Blk}{d:Nat}{v:AV}(hd:decide (d<C.n)=true)(hon:wy ops gd fr=some true)
    (hr:RdOk C ⟨some d,op,ty,pos,after,gd⟩ fr.ev hp v) (k:bO C ops l ⟨(d,v)::fr,hp⟩ K):bO C ops (⟨some d,op,ty,pos,after,gd⟩::l) ⟨fr,hp⟩ K:=by
  intro g a w hs;unfold wpList
  have hw:Region.wanted ⟨some d,op,ty,pos,after,gd⟩ (yielded ops a.tmps)=true:=by
    rcases D3 hs hon with⟨hg,_⟩|⟨i,want,hg,⟨hy,_⟩|⟨_,hc⟩⟩
    simp[Region.wanted,hg];simp[Region.wanted,hg,hy];cases hc
  rw[if_pos hw];have hok:OpOk C ⟨some d,op,ty,pos,after,gd⟩ ⟨fr,hp⟩ (λst''=>bO C ops l st'' K):=hr.ok (st:=⟨fr,hp⟩) hd k;exact .inl (Oper.wp_mono (λa w ⟨st',g',hK,hs'⟩=>hK g' a w hs') (hok g a w _ hs))
def wkE:List D->List (Option Nat)->Option (List D)
  |[],_=>some []
  |d::r,[]=>some (d::r)
  |d::r,none::s=>match wkE r s with
    |some r'=>some (d::r')
    |none=>none
  |d::r,some n::s=>match wkE r s with
    |some r'=>match d with
      |.nilsl=>some (.sl n []::r')
      |_=>none
    |none=>none
theorem Dd:∀{ds:List D}{s:List (Option Nat)} {ds':List D},wkE ds s=some ds'->ds.length=ds'.length/\∀(i:Nat)(c c':D),ds[i]?=some c->ds'[i]?=some c'->DLe c c'/\c'.one=c.one
  |[],_,_,h=>by cases h;exact⟨rfl,λi c c' h=>by simp at h⟩
  |d::r,[],_,h=>by
    cases h;exact⟨rfl,λi c c' h h'=>by rw[h]at h';cases h';exact⟨.refl _,rfl⟩⟩
  |d::r,none::s,_,h=>by
    simp only[wkE]at h;split at h;rename_i r' hr;cases h;obtain⟨h1,h2⟩:=Dd hr;refine⟨by simp[h1],λi c c' hc hc'=>?_⟩
    cases i with
    |zero=>simp at hc hc';subst hc hc';exact⟨.refl _,rfl⟩
    |succ i=>exact h2 i c c' (by simpa using hc) (by simpa using hc')
    cases h
  |d::r,some n::s,_,h=>by
    simp only[wkE]at h;split at h;rename_i r' hr;obtain⟨h1,h2⟩:=Dd hr
    cases d with
    |nilsl=>
      cases h;refine⟨by simp[h1],λi c c' hc hc'=>?_⟩
      cases i with
      |zero=>simp at hc hc';subst hc hc';exact⟨.nil _,rfl⟩
      |succ i=>exact h2 i c c' (by simpa using hc) (by simpa using hc')
    |_=>cases h
    cases h
def wkV(s:List (Option Nat)):AV->Option AV
  |.d (.agg ds)=>match wkE ds s with
    |some ds'=>some (.d (.agg ds'))
    |none=>none
  |.d .nilsl=>match s with
    |[some n]=>some (.d (.sl n []))
    |_=>none
  |_=>none
theorem wkV_rep{w:World}{g:Gh}{s:List (Option Nat)}{v v':AV}{u:Value}(h:wkV s v=some v')(hr:ARep w g v u):ARep w g v' u:=by
  cases v with
  |d d=>
    cases d with
    |agg ds=>
      simp only[wkV]at h;split at h;rename_i ds' hw;cases h;obtain⟨h1,h2⟩:=Dd hw
      cases hr with
      |d _ _ hr=>
        cases hr with
        |agg _ vs hl ho hc=>
          refine .d _ _ (.agg ds' vs (by rw[<- h1];exact hl) (λc hc'=>?_) λi c u hi hu=>?_);obtain⟨i,hi⟩:=iL hc';have hlt:=(zal44q.1 hi).1;have hd:ds[i]?=some ds[i]:=by simp
          rw[(h2 i _ c hd hi).2];exact ho _ (by simp);have hlt:=(zal44q.1 hi).1;have hd:ds[i]?=some ds[i]:=by simp
          exact(h2 i _ c hd hi).1 _ _ _ (hc i _ u hd hu)
      cases h
    |nilsl=>
      simp only[wkV]at h;split at h;cases h
      cases hr with
      |d _ _ hr=>exact .d _ _ (DLe.nil _ _ _ _ hr)
      cases h
    |_=>cases h
  |_=>cases h
theorem Sim.wk{C:Ctx}{fr:Fr}{hp:List Blk}{g:Gh}{a:Act}{w:World}(h:Sim C ⟨fr,hp⟩ g a w){t:Nat}{s:List (Option Nat)}{v:AV}(hv:wkV s (fr.get t)=some v):Sim C ⟨(t,v)::fr,hp⟩ g a w:=by
  refine{ h with fr:=λu=>?_ };simp only[Fr.get];split;rename_i e;subst e;exact wkV_rep hv (h.fr t);exact h.fr u
theorem sW{C:Ctx}{fr:Fr}{hp:List Blk}{c:Code}{Q:Exit->St->Prop}(t:Nat)(s:List (Option Nat)){v:AV}(hv:wkV s (fr.get t)=some v)(h:TWp C c ⟨(t,v)::fr,hp⟩ Q):TWp C c ⟨fr,hp⟩ Q:=λg a w hs=>h g a w (Sim.wk hs hv)
theorem Kb{C:Ctx}{fr:Fr}{hp:List Blk}{ops:Array Oper}{l:List Oper}{K:St->Prop}(t:Nat)(s:List (Option Nat)){v:AV}(hv:wkV s (fr.get t)=some v)(h:bO C ops l ⟨(t,v)::fr,hp⟩ K):bO C ops l ⟨fr,hp⟩ K:=λg a w hs=>h g a w (Sim.wk hs hv)
def wkB:List AV->List (Option Nat)->Option (List AV)
  |[],_=>some []
  |d::r,[]=>some (d::r)
  |d::r,none::s=>match wkB r s with
    |some r'=>some (d::r')
    |none=>none
  |d::r,some n::s=>match wkB r s with
    |some r'=>match d with
      |.d .nilsl=>some (.d (.sl n [])::r')
      |_=>none
    |none=>none
theorem Hk:∀{ds:List AV}{s:List (Option Nat)} {ds':List AV},wkB ds s=some ds'->ds'.length=ds.length/\∀(i:Nat)(c':AV),ds'[i]?=some c'->∃c,ds[i]?=some c/\∀(w:World)(g:Gh)(v:Value),ARep w g c v->ARep w g c' v
  |[],_,_,h=>by cases h;exact⟨rfl,λi c h=>by simp at h⟩
  |d::r,[],_,h=>by
    cases h;exact⟨rfl,λi c' h'=>⟨c',h',λ_ _ _ h=>h⟩⟩
  |d::r,none::s,_,h=>by
    simp only[wkB]at h;split at h;rename_i r' hr;cases h;obtain⟨h1,h2⟩:=Hk hr;refine⟨by simp[h1],λi c' hc'=>?_⟩
    cases i with
    |zero=>simp at hc';subst hc';exact⟨d,by simp,λ_ _ _ h=>h⟩
    |succ i=>obtain⟨c,hc,hh⟩:=h2 i c' (by simpa using hc');exact⟨c,by simpa using hc,hh⟩
    cases h
  |d::r,some n::s,_,h=>by
    simp only[wkB]at h;split at h;rename_i r' hr;obtain⟨h1,h2⟩:=Hk hr;split at h;cases h;refine⟨by simp[h1],λi c' hc'=>?_⟩
    cases i with
    |zero=>simp at hc';subst hc';exact⟨.d .nilsl,by simp,λ_ _ _ h=>by cases h with|d _ _ h=>exact .d _ _ (DLe.nil _ _ _ _ h)⟩
    |succ i=>obtain⟨c,hc,hh⟩:=h2 i c' (by simpa using hc');exact⟨c,by simpa using hc,hh⟩
    cases h;cases h
theorem Sim.wkb{C:Ctx}{fr:Fr}{hp:List Blk}{g:Gh}{a:Act}{w:World}(h:Sim C ⟨fr,hp⟩ g a w){id ty:Nat}{cs cs':List AV}{s:List (Option Nat)}(hb:hp[id]?=some (.box ty cs))(hv:wkB cs s=some cs'):Sim C ⟨fr,hp.set id (.box ty cs')⟩ g a w:=by
  have hlen:id<hp.length:=(zal44q.1 hb).1
  have hin:∀(i:Nat)(B:Blk),(hp.set id (.box ty cs'))[i]?=some B->∃B',hp[i]?=some B'/\(B≠.dead->B'≠.dead):=by
    intro i B hi;rw[cG]at hi;split at hi;rename_i e;subst e;exact⟨_,hb,λ_ e=>by cases e⟩;exact⟨B,hi,λh=>h⟩
  refine{ h with hp:=λi B hi=>?_,lt:=?_,inj:=?_,kle:=?_ };simp only[cG]at hi;split at hi;rename_i e;subst e;cases hi;obtain⟨b,cells,h1,h2,h3,h4,h5⟩:=h.hp _ _ hb;obtain⟨e1,e2⟩:=Hk hv;refine⟨b,cells,h1,h2,h3,by rw[e1];exact h4,λj c v hc hv=>?_⟩;obtain⟨c0,hc0,hm⟩:=e2 j c hc;exact hm _ _ _ (h5 j c0 v hc0 hv);exact h.hp i B hi;intro i b hp';have:=h.lt i b hp';simp only[zal60q];exact this;intro i j b Bi Bj hi hj di dj hpi hpj;obtain⟨Bi',hi',ei⟩:=hin i Bi hi;obtain⟨Bj',hj',ej⟩:=hin j Bj hj;exact h.inj i j b Bi' Bj' hi' hj' (ei di) (ej dj) hpi hpj;have:=h.kle;simp only[zal60q];exact this
theorem eZ{C:Ctx}{fr:Fr}{hp:List Blk}{ops:Array Oper}{l:List Oper}{K:St->Prop}(id:Nat)(s:List (Option Nat)){ty:Nat}{cs cs':List AV}(hb:hp[id]?=some (.box ty cs))(hv:wkB cs s=some cs')(h:bO C ops l ⟨fr,hp.set id (.box ty cs')⟩ K):bO C ops l ⟨fr,hp⟩ K:=λg a w hs=>h g a w (Sim.wkb hs hb hv)
def aD{α:Type}(p:Prop)[Decidable p](k:Option α):Option α:=if p then k else none
def bE{α β:Type}(l:List α)(i:Int)(k:α->Option β):Option β:=if 0<=i then(match l[i.toNat]? with|some x=>k x|none=>none)else none
def aT{α β:Type}(m:Option β):Option (α ⊕ β):=m.map .inr
def dE{α β:Type}(m:Option (α ⊕ β))(k:α->Option β):Option β:=match m with
  |some (.inl a)=>k a
  |some (.inr b)=>some b
  |none=>none
def aE{α β:Type}(m:Option α)(k:α->Option β):Option β:=match m with
  |some a=>k a
  |none=>none
def sub{α:Type}(l:List α)(i j:Int):List α:=(l.drop i.toNat).take (j.toNat-i.toNat)
section
variable {α β γ:Type}
theorem GI{p:Prop}[Decidable p]{k:Option α}{r:α}(h:aD p k=some r):p/\k=some r:=by
  unfold aD at h;split at h;exact⟨by assumption,h⟩;cases h
theorem GV{l:List α}{i:Int}{k:α->Option β}{r:β}(h:bE l i k=some r):∃x,(0<=i/\l[i.toNat]?=some x)/\k x=some r:=by
  unfold bE at h;split at h;split at h
  · exact⟨_,⟨by assumption,by assumption⟩,h⟩
  cases h;cases h
theorem BI{m:Option α}{k:α->Option β}{r:β}(h:aE m k=some r):∃x,m=some x/\k x=some r:=by
  cases m with
  |none=>cases h
  |some a=>exact⟨a,rfl,h⟩
theorem II{m:Option β}{x:α ⊕ β}(h:aT m=some x):∃v,m=some v/\x=.inr v:=by
  cases m with
  |none=>cases h
  |some a=>cases h;exact⟨a,rfl,rfl⟩
theorem JT{p:Prop}[Decidable p]{a b:Option α}{c:α}(h:decide p=true)(hm:(if p then a else b)=some c):a=some c:=by rw[if_pos (of_decide_eq_true h)]at hm;exact hm
theorem JF{p:Prop}[Decidable p]{a b:Option α}{c:α}(h:decide p=false)(hm:(if p then a else b)=some c):b=some c:=by rw[if_neg (of_decide_eq_false h)]at hm;exact hm
theorem sO{p:Prop}[Decidable p]{a b:Option α}{c:α}(h:(!decide p)=true)(hm:(if p then b else a)=some c):a=some c:=by rw[if_neg (of_decide_eq_false (by simpa using h))]at hm;exact hm
theorem sP{p:Prop}[Decidable p]{a b:Option α}{c:α}(h:(!decide p)=false)(hm:(if p then b else a)=some c):b=some c:=by rw[if_pos (of_decide_eq_true (by simpa using h))]at hm;exact hm
theorem JA{p:Bool}{a b:Option α}{c:α}(h:p=true)(hm:(if p=true then a else b)=some c):a=some c:=by rw[if_pos h]at hm;exact hm
theorem JB{p:Bool}{a b:Option α}{c:α}(h:p=false)(hm:(if p=true then a else b)=some c):b=some c:=by rw[if_neg (by rw[h];simp)]at hm;exact hm
def zX{ρ:Type}[DecidableEq ρ](l:List α)(a b:Option ρ):Option ρ:=match l with
  |[]=>match a,b with
    |some x,some y=>if x=y then some x else none
    |_,_=>none
  |_=>b
theorem vb{ρ:Type}[DecidableEq ρ]{l:List α}{f:α->D}{a b:Option ρ}{o:ρ}(h:(l.map f).length=0)(hm:zX l a b=some o):l=[]/\a=some o:=by
  cases l with
  |nil=>
    refine⟨rfl,?_⟩;simp only[zX]at hm;split at hm;split at hm
    · exact hm
    cases hm;cases hm
  |cons x r=>simp at h
theorem vd{ρ:Type}[DecidableEq ρ]{l:List α}{a b:Option ρ}{o:ρ}(hm:zX l a b=some o):b=some o:=by
  cases l with
  |nil=>
    simp only[zX]at hm;split at hm;split at hm
    · rename_i e;subst e;exact hm
    cases hm;cases hm
  |cons x r=>exact hm
def mS{σ ρ:Type}(f:σ->Option (σ ⊕ ρ)):Nat->σ->Option ρ
  |0,_=>none
  |n+1,s=>match f s with
    |none=>none
    |some (.inl s')=>mS f n s'
    |some (.inr r)=>some r
def lN:Nat:=73786976294838206464
def bQ{σ ρ:Type}(f:σ->Option (σ ⊕ ρ))(s:σ):Option ρ:=mS f lN s
theorem y6{σ ρ:Type}{f:σ->Option (σ ⊕ ρ)}:∀{n m:Nat}{s:σ}{r:ρ},mS f n s=some r->n<=m->mS f m s=some r
  |0,_,_,_,h,_=>by cases h
  |n+1,0,_,_,_,hm=>absurd hm (Nat.not_succ_le_zero n)
  |n+1,m+1,s,r,h,hm=>by
    simp only[mS]at h⊢;split at h;cases h;exact y6 h (Nat.le_of_succ_le_succ hm);exact h
theorem xW{σ ρ:Type}{f:σ->Option (σ ⊕ ρ)}{n:Nat}{s:σ}{r:ρ}(h:mS f n s=some r)(hn:n<=lN):bQ f s=some r:=y6 h hn
end
theorem k0{ids:List Nat}(i:Nat)(h:i<0):ids[i]?=some i:=absurd h (iO i)
variable {C:Ctx}
theorem TWp.monoT{c:Code}{st:St}{n n':St->Prop}{Q:Exit->St->Prop}(h:TWp C c st (lT n Q))(hn:∀st,n st->n' st):TWp C c st (lT n' Q):=h.mono λe st hq=>by
  cases e with
  |normal=>exact hn st hq
  |_=>exact hq
theorem w_loop{c:Code}{Q:Exit->St->Prop}{σ ρ:Type}{f:σ->Option (σ ⊕ ρ)}{s0:σ}{o:ρ}(hm:bQ f s0=some o){fr:Fr}{hp:List Blk}(var:σ->Fr)(chg:σ->List (Nat×Blk))(vk ik ids:List Nat){inv:Fr}{hp0:List Blk}(hnd:gL ids=true)(hk:∀i,i<C.k->ids[i]?=some i)
    (hI:xU fr ik=some inv) (hI':Fr.mapRef (toName (aR ids)) inv=inv) (hV:Fr.mapRef (toName (aR ids)) (Fr.keep vk fr)=var s0) (hH:ids.map (λi=>(hp.getD i .dead).mapRef (toName (aR ids)))=hp0) (hC:hp0=wr (chg s0) hp0)
    (round:∀s x,f s=some x->(∀v,x=.inr v->v=o)->TWp C c ⟨var s++inv,wr (chg s) hp0⟩ (lT (λst'=>∃s' ids',x=.inl s'/\gL ids'=true/\(∀i,i<C.k->ids'[i]?=some i)/\st'.canon (vk++ik) ids'=⟨var s'++inv,wr (chg s') hp0⟩) Q)):TWp C (.loop c) ⟨fr,hp⟩ Q:=by
  refine bu (α:=σ×Nat) (λx=>var x.1) (λx=>chg x.1) (λx=>mS f x.2 x.1=some o) (λx=>x.2) vk ik ids (s0,lN) (eT hnd) hk hm (zC hI) hI' hV hH hC ?_;rintro⟨s,n⟩ hs
  cases n with
  |zero=>cases hs
  |succ n=>
    simp only[mS]at hs
    cases hf:f s with
    |none=>rw[hf]at hs;cases hs
    |some x=>
      rw[hf]at hs;refine(round s x hf λv hv=>by subst hv;exact aS hs).monoT ?_;rintro st' ⟨s',ids',hx,h1,h2,h3⟩;subst hx;exact⟨(s',n),ids',eT h1,h2,hs,Nat.lt_succ_self n,h3⟩
theorem cH{x y:Code}{Q:Exit->St->Prop}{J ρ:Type}{m:Option (J ⊕ ρ)}{k:J->Option ρ}{o:ρ}(hm:dE m k=some o){fr:Fr}{hp:List Blk}(sets:J->Fr)(chg:J->List (Nat×Blk))(sk ks:List Nat){inv:Fr}(hI:xU fr ks=some inv)
    (h1:∀z,m=some z->(∀v,z=.inr v->v=o)->TWp C x ⟨fr,hp⟩ (lT (λst=>∃j ids,z=.inl j/\gL ids=true/\(∀i,i<C.k->ids[i]?=some i)/\st.canon (sk++ks) ids=⟨sets j++inv,wr (chg j) hp⟩) Q))
    (h2:∀j,k j=some o->TWp C y ⟨sets j++inv,wr (chg j) hp⟩ Q):TWp C (.seq x y) ⟨fr,hp⟩ Q:=by
  cases hz:m with
  |none=>rw[hz]at hm;cases hm
  |some z=>
    rw[hz]at hm;refine TQ ((h1 z hz λv hv=>by subst hv;exact aS hm).monoT ?_);rintro st ⟨j,ids,hj,hnd,hk,he⟩;subst hj;refine uA (sk++ks) ids (eT hnd) hk ?_;rw[he];exact h2 j hm
theorem aN{x y:Code}{Q:Exit->St->Prop}{J ρ:Type}{m:Option J}{k:J->Option ρ}{o:ρ}(hm:aE m k=some o){fr:Fr}{hp:List Blk}(sets:J->Fr)(chg:J->List (Nat×Blk))(sk ks:List Nat){inv:Fr}(hI:xU fr ks=some inv)
    (h1:∀z,m=some z->TWp C x ⟨fr,hp⟩ (lT (λst=>∃j ids,z=j/\gL ids=true/\(∀i,i<C.k->ids[i]?=some i)/\st.canon (sk++ks) ids=⟨sets j++inv,wr (chg j) hp⟩) Q))
    (h2:∀j,k j=some o->TWp C y ⟨sets j++inv,wr (chg j) hp⟩ Q):TWp C (.seq x y) ⟨fr,hp⟩ Q:=by
  cases hz:m with
  |none=>rw[hz]at hm;cases hm
  |some z=>
    rw[hz]at hm;refine TQ ((h1 z hz).monoT ?_);rintro st ⟨j,ids,hj,hnd,hk,he⟩;subst hj;refine uA (sk++ks) ids (eT hnd) hk ?_;rw[he];exact h2 z hm
theorem fC{x y:Code}{Q:Exit->St->Prop}{fr:Fr}{hp:List Blk}(sets:Fr)(sk ks:List Nat){inv:Fr}(hI:xU fr ks=some inv)
    (h1:TWp C x ⟨fr,hp⟩ (lT (λst=>∃ids,gL ids=true/\(∀i,i<C.k->ids[i]?=some i)/\st.canon (sk++ks) ids=⟨sets++inv,hp⟩) Q))
    (h2:TWp C y ⟨sets++inv,hp⟩ Q):TWp C (.seq x y) ⟨fr,hp⟩ Q:=by
  refine TQ (h1.monoT ?_);rintro st ⟨ids,hnd,hk,he⟩;refine uA (sk++ks) ids (eT hnd) hk ?_;rw[he];exact h2
theorem bT{fr fr':Fr}{hp hp':List Blk}(h1:fr=fr')(h2:hp=hp'):(⟨fr,hp⟩:St)=⟨fr',hp'⟩:=by rw[h1,h2]
theorem aO{t:Nat}{v v':AV}{r r':Fr}(h1:v=v')(h2:r=r'):(t,v)::r=(t,v')::r':=by rw[h1,h2]
def mD{α:Type}(xss:List (List α))(i:Nat):List α:=(xss.take i).flatten
theorem qd{α:Type}(xss:List (List α)):mD xss 0=[]:=by simp[mD]
theorem Co{α:Type}{xss:List (List α)}{i:Nat}{x:List α}(h:xss[i]?=some x):mD xss (i+1)=mD xss i++x:=by unfold mD;rw[gm,h];simp
theorem flat_all{α:Type}{xss:List (List α)}{i:Nat}(h:¬i<xss.length):mD xss i=xss.flatten:=by unfold mD;rw[C3 (by omega)]
theorem Ec{α:Type}(xss:List (List α))(i:Nat):(mD xss i).length<=xss.flatten.length:=by
  unfold mD;have h:=Hf i xss;have:xss.flatten.length=(xss.take i).flatten.length+(xss.drop i).flatten.length:=by rw[<- List.length_append,<- List.flatten_append,h]
  omega
section rd
variable {T:Tab}{o:Oper}{ev:Operand->AV}{hp:List Blk}{α:Type}{f:α->D}{xs ys:List α}
theorem jQ{t e sz by':Nat}{a b:Operand}{k:IntKind}{i:Int}{x:α}(hT:TabOk C.P T)(ho:o.op=.indexAddr t a b)(hl:lk T.sel t=some (e,sz,by'))(ha:ev a=.d (.sl sz (xs.map f)))(hb:ev b=.d (.int k i))(h:0<=i/\xs[i.toNat]?=some x):RdOk C o ev hp (.d (.ptr (f x) 0)):=
  y8 ho (hT.sel hl) ha hb (idx_int h.1 h.2)
theorem eF{t e sz by' n id:Nat}{a b:Operand}{k:IntKind}{i:Int}{x:α}(hT:TabOk C.P T)(ho:o.op=.indexAddr t a b)(hl:lk T.sel t=some (e,sz,by'))(ha:ev a=.msl id sz 0 n)(hb:ev b=.d (.int k i))(h:0<=i/\xs[i.toNat]?=some x)(hn:n=xs.length):RdOk C o ev hp (.mptr id sz i.toNat 0):=by
  have hlt:=(zal44q.1 h.2).1;exact Cm ho (hT.sel hl) ha hb ⟨h.1,by omega⟩ (eL _)
theorem gV{t s id sz idx off bt:Nat}{b:Bool}{a:Operand}{x:α}{v:AV}(hT:TabOk C.P T)(ho:o.op=.load t a)(hl:lk T.lay t=some (b,s))(ha:ev a=.mptr id sz idx off)(hb:hp[id]?=some (.flat bt sz (xs.map f)))(hx:xs[idx]?=some x)(hv:bl b s [] (.d (.ptr (f x) off))=some v):RdOk C o ev hp v:=by
  have he:(xs.map f)[idx]?=some (f x):=Ir hx
  cases b with
  |false=>
    simp only[bl]at hv;split at hv;rename_i d hd;cases hv;exact Kv ho (hT.lay hl) ha hb he hd;cases hv
  |true=>
    simp only[bl]at hv;split at hv;rename_i h1 h2 h3;cases hv;have h1:=dO h1;subst h1;exact Ig ho (hT.lay hl) ha hb he (dO h2) h3;split at hv
    · rename_i hle;cases hv;exact wI id sz idx off s _ _ ho (hT.lay hl) ha hb he (dK hle)
    cases hv
theorem oT{t e sz sz' by':Nat}{a:Operand}(hT:TabOk C.P T)(ho:o.op=.call { callee:=.builtin .len,args:=#[a],argTypes:=#[t] })(hl:lk T.sel t=some (e,sz',by'))(ha:ev a=.d (.sl sz (xs.map f))):RdOk C o ev hp (.d (.int .i64 (xs.length:Int))):=
  Jl ho (hT.sel hl) ha (lQ _)
theorem mG{op:BinOp}{t t':TypeId}{x y:Operand}{m n r:Int}(ho:o.op=.binOp op t x y t')(hx:ev x=.d (.int .i64 m))(hy:ev y=.d (.int .i64 n))(hr:G9 op m n=some r)(hb:bD r):RdOk C o ev hp (.d (.int .i64 r)):=ge ho hx hy hr hb
theorem wB{t e sz by':Nat}{a:Operand}{lo hi:Option Operand}{l r:Int}(hT:TabOk C.P T)(ho:o.op=.slice t a lo hi none)(hl:lk T.sel t=some (e,sz,by'))(ha:ev a=.d (.sl sz (xs.map f)))(hlo:Bp 0 (lo.map ev)=some l)(hhi:Bp xs.length (hi.map ev)=some r)(h:0<=l/\l<=r/\r<=xs.length):RdOk C o ev hp (.d (.sl sz ((sub xs l r).map f))):=by
  have h1:Bp 0 (lo.map ev)=some ((l.toNat:Nat):Int):=by rw[hlo,C7 h.1]
  have h2:Bp (xs.map f).length (hi.map ev)=some ((r.toNat:Nat):Int):=by rw[lQ,hhi,C7 (by omega)]
  have:=rd_cut (hp:=hp) sz by' (xs.map f) l.toNat r.toNat ho (hT.sel hl) ha h1 h2 (by omega) (by rw[lQ];omega)
  simpa[sub,xk,C5]using this
theorem pO{t e sz by' n:Nat}{parts:Array (Nat×Operand)}{z:Value}(l:List Operand)(hT:TabOk C.P T)(ho:o.op=.buildSlice t n parts)(hl:lk T.sel t=some (e,sz,by'))(hz:(C.P.info? e).bind (·.zero)=some z)(hp':oG parts l){ds:List D}
    (hx:evD (l.map ev)=some ds) (hn:Nat.beq ds.length n=true) (hs:(ds.all λd=>Nat.beq d.cells.length sz)=true) (hsmall:Nat.ble (n*sz) 16777216=true):RdOk C o ev hp (.d (.sl sz ds)):=rd_litF l ho (hT.sel hl) hz hp' hx hn hs hsmall
end rd
def lP{α β:Type}[DecidableEq α](fs:List (α×β))(k:α)(v:β):List (α×β):=match fs.findIdx? λx=>decide (x.1=k)with
  |some j=>fs.set j (k,v)
  |none=>fs++[(k,v)]
section pm
variable {α β:Type}[DecidableEq α]{dk:TypeDesc}{kf:α->D}
variable {o:Oper}{ev:Operand->AV}{hp:List Blk}{x y u:Operand}{t kt et kt' et':TypeId}{id:Nat}{zd:D}{z:Value}
theorem x_look(hk:KeyF dk kf)(f:β->D)(fs:List (α×β))(s:α)(z0:β)(ho:o.op=.lookup t x y true)(hl:uT C.P t=some (kt,dk,et))(hz:(C.P.info? et).bind (·.zero)=some z)(hzd:dV z=.d (f z0))
    (hx:ev x=.mmap id) (hb:hp[id]?=some (.map kt' et' (aV kf f fs))) (hy:ev y=.d (kf s)) (hnd:(fs.map (·.1)).Nodup):RdOk C o ev hp (.tup [.d (f ((bH fs s).getD z0)),.d (.bool (bH fs s).isSome)]):=by
  have:=Hx (C:=C) hk f fs s ho hl hz hzd hx hb hy hnd
  cases h:bH fs s with
  |none=>rw[h]at this;exact this
  |some b=>rw[h]at this;exact this
theorem vD(hk:KeyF dk kf)(f:β->D)(fs:List (α×β))(s:α)(z0:β)(ho:o.op=.lookup t x y false)(hl:uT C.P t=some (kt,dk,et))(hz:(C.P.info? et).bind (·.zero)=some z)(hzd:dV z=.d (f z0))
    (hx:ev x=.mmap id) (hb:hp[id]?=some (.map kt' et' (aV kf f fs))) (hy:ev y=.d (kf s)) (hnd:(fs.map (·.1)).Nodup):RdOk C o ev hp (.d (f ((bH fs s).getD z0))):=by
  have:=qv (C:=C) hk f fs s ho hl hz hzd hx hb hy hnd
  cases h:bH fs s with
  |none=>rw[h]at this;exact this
  |some b=>rw[h]at this;exact this
theorem bz{ops:Array Oper}{l:List Oper}{K:St->Prop}{fr:Fr}{ty:TypeId}{pos:String}{after:Array Edge}(hk:KeyF dk kf)(f:β->D){fs:List (α×β)}{s:α}{b:β}(hl:uT C.P t=some (kt,dk,et))(hx:fr.ev x=.mmap id)(hb:hp[id]?=some (.map kt' et' (aV kf f fs)))(hy:fr.ev y=.d (kf s))(hu:fr.ev u=.d (f b))(hnd:(fs.map (·.1)).Nodup)
    (h:bO C ops l ⟨fr,hp.set id (.map kt' et' (aV kf f (lP fs s b)))⟩ K):bO C ops (⟨none,.mapUpdate t x y u,ty,pos,after,none⟩::l) ⟨fr,hp⟩ K:=by
  cases e:fs.findIdx? λx=>decide (x.1=s)with
  |none=>
    have hn:bH fs s=none:=by
      unfold bH;rw[yS,xp];rw[zal35q]at e;intro x hx;simpa using e x hx
    refine s_put_pm hk f hl hx hb hy hu hn rfl ?_;simpa only[lP,e]using h
  |some j=>
    rw[zal36q]at e;obtain⟨hlt,hj,_⟩:=e
    have hj':fs[j]?=some (s,fs[j].2):=by
      rw[eE hlt,<- of_decide_eq_true hj]
    refine s_put_at (j:=j) (v0:=f fs[j].2) hl hx hb hy hu (kG hk) (qI hk hnd) (by simp[aV,hj']) rfl ?_;have e':(fs.findIdx? λx=>decide (x.1=s))=some j:=by rw[zal36q];exact⟨hlt,hj,by assumption⟩
    simp only[lP,e']at h;simpa[aV,sC]using h
def Gs{α β:Type}[DecidableEq α](fs:List (α×β))(k:α):List (α×β):=match fs.findIdx? λx=>decide (x.1=k)with
  |some j=>fs.eraseIdx j
  |none=>fs
theorem s_delE{ops:Array Oper}{l:List Oper}{K:St->Prop}{fr:Fr}{ty:TypeId}{tk:TypeId}{pos:String}{after:Array Edge}(hk:KeyF dk kf)(f:β->D){fs:List (α×β)}{s:α}(hl:uT C.P t=some (kt,dk,et))(hx:fr.ev x=.mmap id)(hb:hp[id]?=some (.map kt' et' (aV kf f fs)))(hy:fr.ev y=.d (kf s))(hg:(fs.map (·.1)).Nodup/\(bH fs s).isSome=true)
    (h:bO C ops l ⟨fr,hp.set id (.map kt' et' (aV kf f (Gs fs s)))⟩ K):bO C ops (⟨none,.call { callee:=.builtin .delete,args:=#[x,y],argTypes:=#[t,tk] },ty,pos,after,none⟩::l) ⟨fr,hp⟩ K:=by
  cases e:fs.findIdx? λx=>decide (x.1=s)with
  |none=>
    have hn:bH fs s=none:=by
      unfold bH;rw[yS,xp];rw[zal35q]at e;intro x hx;simpa using e x hx
    rw[hn]at hg;exact absurd hg.2 (by simp)
  |some j=>
    have e':=e;rw[zal36q]at e;obtain⟨hlt,hj,_⟩:=e
    have hj':fs[j]?=some (s,fs[j].2):=by
      rw[eE hlt,<- of_decide_eq_true hj]
    refine s_del0 (j:=j) (v0:=f fs[j].2) hl hx hb hy (kG hk) (qI hk hg.1) (by simp[aV,hj']) rfl ?_;simp only[Gs,e']at h;simpa[aV,List.eraseIdx_eq_take_drop_succ,xk,C5]using h
end pm
theorem vZ{s u:ByteArray}:s.data=u.data↔s=u:=⟨λh=>by cases s;cases u;congr 1,λh=>by rw[h]⟩
theorem Cx{s:ByteArray}(h:s.size<=maxLen):s.data.toList.length<=maxLen:=by simpa using h
section st
variable {T:Tab}{ops:Array Oper}{l:List Oper}{K:St->Prop}{fr:Fr}{hp:List Blk}{d:Nat}{ty:TypeId}{pos:String}{after:Array Edge}{α:Type}{f:α->D}{xs ys:List α}
theorem iC{x:Operand}(N ety sz:Nat)(hd:decide (d<C.n)=true)(hN:Nat.beq hp.length N=true)(hx:fr.ev x=.d .nilsl)(h:bO C ops l ⟨(d,.msl N sz 0 ([]:List α).length)::fr,hp++[.flat ety sz (([]:List α).map f)]⟩ K):bO C ops (⟨some d,.assign x,ty,pos,after,none⟩::l) ⟨fr,hp⟩ K:=by
  have e:=dO hN;subst e;exact Fe ety sz hd hx h
def boxE:AV->Option (List AV)
  |.d (.agg ds)=>some (ds.map .d)
  |.d d=>some [.d d]
  |.agg cs=>match (AV.agg cs).flat with
    |true=>some cs
    |false=>none
  |.msl i s o l=>some [.msl i s o l]
  |.mptr i s o l=>some [.mptr i s o l]
  |.mmap i=>some [.mmap i]
  |.yld i=>some [.yld i]
  |.mmapN i n=>some [.mmapN i n]
  |_=>none
theorem xe{v:AV}{cs:List AV}(h:boxE v=some cs):v.flat=true/\v.cells=cs:=by
  cases v with
  |d d=>cases d<;>cases h<;>exact⟨rfl,rfl⟩
  |agg cs=>
    simp only[boxE]at h;split at h;rename_i hf;cases h;exact⟨hf,rfl⟩;cases h
  |msl=>cases h;exact⟨rfl,rfl⟩
  |mptr=>cases h;exact⟨rfl,rfl⟩
  |mmap=>cases h;exact⟨rfl,rfl⟩
  |yld=>cases h;exact⟨rfl,rfl⟩
  |mmapN=>cases h;exact⟨rfl,rfl⟩
  |_=>cases h
theorem bU{x:Operand}{t:TypeId}{cs:List AV}(N:Nat)(hd:decide (d<C.n)=true)(hN:Nat.beq hp.length N=true)(hx:boxE (fr.ev x)=some cs)(h:bO C ops l ⟨(d,.mptr N 0 0 0)::fr,hp++[.box t cs]⟩ K):bO C ops (⟨some d,.box t x,ty,pos,after,none⟩::l) ⟨fr,hp⟩ K:=by
  have e:=dO hN;subst e;exact s_box hd rfl (xe hx).1 (xe hx).2 h
theorem cK{t:TypeId}{z:Value}{cs:List AV}(N:Nat)(hd:decide (d<C.n)=true)(hN:Nat.beq hp.length N=true)(hz:(C.P.info? t).bind (·.zero)=some z)(hc:boxE (dV z)=some cs)(h:bO C ops l ⟨(d,.mptr N 0 0 0)::fr,hp++[.box t cs]⟩ K):bO C ops (⟨some d,.alloc t,ty,pos,after,none⟩::l) ⟨fr,hp⟩ K:=by
  have e:=dO hN;subst e;exact s_alloc hd hz (xe hc).1 (xe hc).2 h
theorem s_mkO{t e sz by':Nat}{a b:Operand}{z:Value}{zd:D}{n:Int}(N:Nat)(hT:TabOk C.P T)(hd:decide (d<C.n)=true)(hN:Nat.beq hp.length N=true)(hl:lk T.sel t=some (e,sz,by'))(hz:(C.P.info? e).bind (·.zero)=some z)(hzd:dV z=.d zd)(hzs:Nat.beq zd.cells.length sz=true)(ha:fr.ev a=.d (.int .i64 n))(hb:fr.ev b=.d (.int .i64 n))(hby:Nat.ble by' 100000=true)(hn:0<=n/\n<=1000000000){x:α}(hf:f x=zd)
    (h:bO C ops l ⟨(d,.msl N sz 0 (List.replicate n.toNat x).length)::fr,hp++[.flat e sz ((List.replicate n.toNat x).map f)]⟩ K):bO C ops (⟨some d,.makeSlice t a b,ty,pos,after,none⟩::l) ⟨fr,hp⟩ K:=by
  obtain⟨m,rfl⟩:=xq hn.1;have h1:=dK hby;have h2:m<=1000000000:=by omega
  have h3:by'*m<=100000*1000000000:=vB h1 h2
  have e:=dO hN;subst e;rw[List.map_replicate,hf]at h;simp only[gt,List.length_replicate]at h;exact qu (n:=m) hd (hT.sel hl) hz hzd (dO hzs) ha hb (by omega) (by omega) h
theorem xI{t e sz by' n:Nat}{parts:Array (Nat×Operand)}{z:Value}(N:Nat)(os:List Operand)(xs:List α)(hT:TabOk C.P T)(hd:decide (d<C.n)=true)(hN:Nat.beq hp.length N=true)(hl:lk T.sel t=some (e,sz,by'))(hz:(C.P.info? e).bind (·.zero)=some z)(hp':oG parts os)
    (hx:evD (os.map fr.ev)=some (xs.map f)) (hn:Nat.beq (xs.map f).length n=true) (hs:((xs.map f).all λd=>Nat.beq d.cells.length sz)=true) (hsmall:Nat.ble (n*sz) 16777216=true) (h:bO C ops l ⟨(d,.msl N sz 0 xs.length)::fr,hp++[.flat e sz (xs.map f)]⟩ K):bO C ops (⟨some d,.buildSlice t n parts,ty,pos,after,none⟩::l) ⟨fr,hp⟩ K:=by
  have e:=dO hN;subst e;have e2:=dO hn;rw[lQ]at e2;rw[e2]at h;exact s_litD os hd (hT.sel hl) hz hp' hx hn hs hsmall h
theorem fJ{t e sz by' n id:Nat}{x y:Operand}{u:AV}{z:Value}{fr':Fr}{hp1:List Blk}(ys:List α)(hT:TabOk C.P T)(hd:decide (d<C.n)=true)(hl:lk T.sel t=some (e,sz,by'))(hz:(C.P.info? e).bind (·.zero)=some z)(hzs:Nat.beq z.cells.size sz=true)(hby:Nat.ble by' 100000=true)(hx:fr.ev x=.msl id sz 0 n)(hb:hp[id]?=some (.flat e sz (xs.map f)))(hn:n=xs.length)(hmv:id<C.k->C.mv id=true)
    (hy:fr.ev y=u) (hu:SrcA hp sz (ys.map f) u) (hg:(xs++ys).length<=1000000000) (hfr:Fr.mapRef (purge id) fr=fr') (hhp:hp.map (Blk.mapRef (purge id))=hp1)
    (h:bO C ops l ⟨(d,.msl id sz 0 (xs++ys).length)::fr',hp1.set id (.flat e sz ((xs++ys).map f))⟩ K):bO C ops (⟨some d,.call { callee:=.builtin .append,args:=#[x,y],argTypes:=#[t,t] },ty,pos,after,none⟩::l) ⟨fr,hp⟩ K:=by
  have h1:=dK hby;have h3:(xs++ys).length*by'<=1000000000*100000:=vB hg h1
  exact Ff (m:=(xs++ys).length) (ds:=ys.map f) (es':=(xs++ys).map f) hd (hT.sel hl) hz (dO hzs) hx hb (by rw[hn,lQ]) hmv hy hu (by rw[mU]) (by simp) (by omega) (by omega) hfr hhp h
theorem wH{t s id sz idx off bt:Nat}{b:Bool}{a y:Operand}{x x':α}{v:D}(hT:TabOk C.P T)(hl:lk T.lay t=some (b,s))(ha:fr.ev a=.mptr id sz idx off)(hy:fr.ev y=.d v)(hs:Nat.beq v.cells.length s=true)(hb:hp[id]?=some (.flat bt sz (xs.map f)))(hx:xs[idx]?=some x)(hone:((!(f x).one)||v.one)=true)(hle:Nat.ble (off+s) (f x).cells.length=true)(hu:(f x).upd off v=f x')(h:bO C ops l ⟨fr,hp.set id (.flat bt sz ((xs.set idx x').map f))⟩ K):bO C ops (⟨none,.store t a y,ty,pos,after,none⟩::l) ⟨fr,hp⟩ K:=by
  rw[sC]at h;refine Dk (e:=f x) (e':=f x') (hT.lay hl) ha hy (dO hs) hb (Ir hx) ?_ (dK hle) hu h;simp only[mX,rB]at hone;exact hone
theorem cD(t n':Nat){id sz n:Nat}(hv:Fr.get fr t=.msl id sz 0 n)(he:n=n')(h:bO C ops l ⟨(t,.msl id sz 0 n')::fr,hp⟩ K):bO C ops l ⟨fr,hp⟩ K:=oZ t _ hv (by rw[he]) h
theorem eC{hp:List Blk}{sz:Nat}{ds:List D}:SrcA hp sz ds (.d (.sl sz ds)):=⟨rfl,rfl⟩
theorem aW{id sz ty:Nat}(h:hp[id]?=some (.flat ty sz (xs.map f))):Snap hp (.msl id sz 0 xs.length) (.sl sz (xs.map f)):=Ce h (by simp)
end st
theorem RetT.args{P:Program}{F:FuncId}{ds ds' rs:List D}(h:RetT P F ds' rs)(hd:DLa ds ds'):RetT P F ds rs:=by
  obtain⟨mv,r,hp',h1,h2⟩:=h;exact⟨mv,r,hp',h1.args hd,h2⟩
theorem dX{o:Oper}{ev:Operand->AV}{hp:List Blk}{f:Operand}{xs:Array Operand}{ts:Array TypeId}{F:FuncId}{ds rs:List D}(ho:o.op=.call { callee:=.value f,args:=xs,argTypes:=ts })(hf:ev f=.d (.fn F))(hx:xs.toList.map ev=ds.map .d)(hret:RetT C.P F ds rs):RdOk C o ev hp (.tup (rs.map .d)):=
  kh (cs:=[]) ho hf rfl hx (by rw[mW];exact hret)
theorem vn{c:Code}{Q:Exit->St->Prop}{fr fr':Fr}{hp hp':List Blk}(i:Nat)(hk:Nat.ble C.k i=true)(hks:((List.range C.k).all (cF hp))=true)(hal:cF hp i=true)(hf:Fr.mapRef (gj i (hp.getD i .dead) (cF hp)) fr=fr')(hh:(hp.map (Blk.mapRef (gj i (hp.getD i .dead) (cF hp)))).set i .dead=hp')(h:TWp C c ⟨fr',hp'⟩ Q):TWp C c ⟨fr,hp⟩ Q:=by
  subst hf hh;exact ya i (dK hk) hal (λj hj=>zal27q.1 hks j (zal81q.2 hj)) h
theorem Er{c:Code}{Q:Exit->St->Prop}{fr fr':Fr}{hp hp':List Blk}(t i:Nat)(ks:List Nat)(hk:Nat.ble C.k i=true)(hks:((List.range C.k).all (cF hp))=true)(hal:cF hp i=true){sz n ty:Nat}{es:List D}(ht:fr.get t=.msl i sz 0 n)(hb:hp[i]?=some (.flat ty sz es))(hn:n=es.length)(hf:Fr.mapRef (gj i (.flat ty sz es) (cF hp)) (Fr.keep ks fr)=fr')(hh:(hp.map (Blk.mapRef (gj i (.flat ty sz es) (cF hp)))).set i .dead=hp')
    (h:TWp C c ⟨(t,.d (.sl sz es))::fr',hp'⟩ Q):TWp C c ⟨fr,hp⟩ Q:=by
  have hB:hp.getD i .dead=.flat ty sz es:=by rw[mV,hb];rfl
  intro g a w hs;obtain⟨g',hs'⟩:=hs.freeze i (dK hk) hal (λj hj=>zal27q.1 hks j (zal81q.2 hj));subst hf hh;refine h g' a w ?_;simp only[St.freeze,hB]at hs';refine{ hs' with fr:=λu=>?_ };have hu:=hs'.fr u;simp only[Fr.get];split;rename_i e;subst e;rw[Fr.get_mapRef,ht]at hu;simp only[AV.mapRef,gj,if_true]at hu;rw[if_pos ⟨trivial,by omega⟩]at hu;subst hn;simpa using hu;rw[Fr.get_mapRef];rcases Fr.get_keep fr ks u with e|e
  rw[e,<- Fr.get_mapRef];exact hu;rw[e];exact .junk _
theorem w_callB{C:Ctx}{o:Oper}{ev:Operand->AV}{hp:List Blk}{i:Nat}{f:Operand}{xs:Array Operand}{ts:Array TypeId}{F:FuncId}{mv:Nat->Bool}{ds:List D}{r r':AV}{B:Blk}(hi:hp[i]?=some .hole)(ho:o.op=.call { callee:=.value f,args:=xs,argTypes:=ts })
    (hf:ev f=.d (.fn F)) (hx:xs.toList.map ev=ds.map .d) (hret:Ret C.P F [] mv (ds.map .d) r [B]) (hm:Bl B) (hrr:(r=.mmap 0/\r'=.mmap i)\/∃sz n,r=.msl 0 sz 0 n/\r'=.msl i sz 0 n) (hBB:B.mapRef (λ_=>.junk)=B):DOk C o ev hp r' [(i,B)]:=by
  intro st hhp hlen _ hag g a w hs Q K' hK;have hih:=zH hi hhp;have hno:g.phi i=none:=hs.hp i _ hih;have hil:i<st.hp.length:=(zal44q.1 hih).1;have hfv:=hs.ev f;rw[hag f (by simp[ho,Op.operands,Call.operands]),hf]at hfv
  have hargs:Pw (ARep w (dF g.X)) (ds.map .d) (xs.map a.eval).toList:=by
    have:=dargs (cs:=[]) (vs:=#[]) hs (λy hy=>hag y (by simp only[ho,Op.operands,Call.operands];exact zal9q.2 (.inr hy))) hx ⟨rfl,λi x y h=>by simp at h⟩;simpa using this
  simp only[Oper.wp,eH ho (co hfv) hret.1,Oper.upon_enter,xr];refine(hret.2 w (dF g.X) _ (D2 hs mv hs.Xlt) hargs).mono ?_;rintro e w' ⟨v,g',rfl,hout,hr⟩;have hold:∀b,b<w.heap.size->w'.heap[b]?=w.heap[b]?:=λb hb=>hout.keep b hb λi hi=>absurd hi (iO i);have hsz:=hout.grown;simp only at hsz
  have hnew:∀j b,g'.phi j=some b->w.heap.size<=b:=by
    intro j b hp;rcases dB b w.heap.size with hlt|hge
    exact absurd (hout.own j b hp hlt).1 (iO _);exact hge
  let g2:Gh:={ phi:=upd g.phi i (g'.phi 0),psi:=upd g.psi i (g'.psi 0),X:=g.X }
  have hgr:Grow w g w' g2:=by
    refine⟨λj b hp=>?_,λj b hp=>?_,λ_ h=>h,λb hb=>hold b (hs.Xlt b hb)⟩;have hj : j ≠ i := fun e => by subst e; rw [hno] at hp; cases hp
    simpa[g2,upd,hj]using hp;have hj : j ≠ i := fun e => by subst e; rw [hno] at hp; cases hp
    simp[g2,upd,hj]
  have hphi:∀j b,g2.phi j=some b->(j=i/\g'.phi 0=some b)\/(j≠i/\g.phi j=some b):=by
    intro j b hp;by_cases hj:j=i;subst hj;exact .inl ⟨rfl,by simpa[g2,upd]using hp⟩;exact .inr ⟨hj,by simpa[g2,upd,hj]using hp⟩
  have hB:BRep w' g2 i B:=by
    have h1:=BRep.any (Y:=λ_=>False) (hout.hp 0 B rfl) hm;have h2:=BRep.mapRef (g':=g2) (F:=λ_=>.junk) (j:=i) (by simp[g2,upd]) (by simp[g2,upd]) (λb hb=>False.elim hb) (λx v _ _=>.junk v) h1
    rwa [hBB]at h2
  refine hK v w' g2 ?_ ?_;refine { defers := hs.defers, size := hs.size, fr := fun t => (hs.fr t).mono hgr, hp := ?_, lt := ?_, inj := ?_, Xlt := ?_, Xold := hs.Xold, os := hout.os.trans hs.os, tape := hout.tape.trans hs.tape, output := hout.output.trans hs.output, drawn := dQ hs.drawn hout.drawn, grown := dQ hs.grown hsz, keep := ?_, own := ?_, stay := ?_, kle := ?_, laid := hs.laid }
  · intro j B hj
    simp only[wr,xD,List.foldl_nil]at hj;rw[cG]at hj;split at hj;rename_i e;subst e;cases hj;exact hB;rename_i hne;refine(hs.hp j B hj).mono hgr (λhn=>?_) λb hb=>hold b (hs.lt j b hb).1;simpa[g2,upd,show j≠i from λe=>hne e.symm]using hn
  intro j b hp;simp only[wr,xD,List.foldl_nil,zal60q];rcases hphi j b hp with⟨rfl,hp'⟩|⟨_,hp'⟩
  exact⟨(hout.lt 0 b hp').1,hil,λhX=>by have:=hs.Xlt b hX;have:=hnew 0 b hp';omega⟩;have:=hs.lt j b hp';exact⟨by omega,this.2.1,this.2.2⟩;intro j j' b Bj Bj' hBj hBj' hdj hdj' hj hj';simp only[wr,xD,List.foldl_nil]at hBj hBj';rcases hphi j b hj with⟨rfl,h1⟩|⟨h1,h1'⟩<;>rcases hphi j' b hj' with⟨rfl,h2⟩|⟨h3,h3'⟩
  rfl;have:=(hs.lt _ _ h3').1;have:=hnew 0 b h1;omega;have:=(hs.lt _ _ h1').1;have:=hnew 0 b h2;omega;rw [cG, if_neg (fun e => h1 e.symm)] at hBj;rw[cG,if_neg (λe=>h3 e.symm)]at hBj';exact hs.inj j j' b Bj Bj' hBj hBj' hdj hdj' h1' h3';intro b hX;have:=hs.Xlt b hX;omega;intro b hb hk;rw[hold b (by have:=hs.grown;omega)];exact hs.keep b hb hk;intro j b hp hb;rcases hphi j b hp with⟨rfl,hp'⟩|⟨_,hp'⟩
  have:=hnew 0 b hp';have:=hs.grown;omega;exact hs.own j b hp' hb;intro j b hj hmj hp;have hst:=hs.stay j b hj hmj hp;have hne:j≠i:=λe=>by subst e;rw[hno]at hst;cases hst.2
  simpa[g2,upd,hne]using hst;have:=hs.kle;simpa[wr]using this;rcases hrr with⟨rfl,rfl⟩|⟨sz,n,rfl,rfl⟩
  · cases hr with
    |mmap _ b hb=>exact .mmap _ b (by simpa[g2,upd]using hb)
  cases hr with
  |msl0=>exact .msl0 _ _ _ _
  |msl _ _ _ _ cap b hb hc hp=>exact .msl _ _ _ _ cap b (by simpa[g2,upd]using hb) hc (by simpa[g2,upd]using hp)
theorem F1{kt vt:Nat}{α β:Type}{kf:α->D}{f:β->D}{fs:List (α×β)}(hk:∀x,D.mem0 (kf x)=true)(hf:∀x,D.mem0 (f x)=true):Bl (.map kt vt (aV kf f fs)):=by
  intro e he;obtain⟨x,hx,rfl⟩:=zal76q.1 he;exact⟨hk _,hf _⟩
theorem Cp{t sz:Nat}{α:Type}{f:α->D}{xs:List α}(hf:∀x,D.mem0 (f x)=true):Bl (.flat t sz (xs.map f)):=by
  intro e he;obtain⟨x,hx,rfl⟩:=zal76q.1 he;exact hf _
theorem OJ {α : Type} {a b : α} (h : some a = some b) : a = b := aS h
theorem SJ {α : Type} {a b : α} (h : some a = some b) : b = a := (aS h).symm
theorem Q {α : Sort _} {a : α} : a = a := rfl
theorem BE {α β : Type} {m : Option α} {k : α → Option β} {r : β} {C : Prop} (h : aE m k = some r) (f : ∀ x, m = some x → k x = some r → C) : C := (BI h).elim fun x h => f x h.1 h.2
theorem GE {α : Type} {p : Prop} [Decidable p] {k : Option α} {r : α} {C : Prop} (h : aD p k = some r) (f : p → k = some r → C) : C := f (GI h).1 (GI h).2
theorem VE {α β : Type} {l : List α} {i : Int} {k : α → Option β} {r : β} {C : Prop} (h : bE l i k = some r) (f : ∀ x, (0 ≤ i ∧ l[i.toNat]? = some x) → k x = some r → C) : C := (GV h).elim fun x h => f x h.1 h.2
theorem IE {α β : Type} {m : Option β} {x : α ⊕ β} {C : Prop} (h : aT m = some x) (f : ∀ v, m = some v → x = .inr v → C) : C := (II h).elim fun v h => f v h.1 h.2
theorem zQQ {α : Type _} {l : List α} {i : Nat} {a : α} : l[i]? = some a ↔ ∃ h : i < l.length, l[i] = a := zal44q
theorem lR {α : Type _} {l : List α} {i : Nat} (h : i < l.length) : l[i]? = some l[i] := eE h
theorem tX {α : Type _} {l : List α} {i : Nat} {a : α} (h : l[i]? = some a) : a ∈ l := dR h
theorem Lb {α : Type _} {l : List α} {i : Nat} {a : α} : l.getD i a = l[i]?.getD a := mV
theorem qn {α : Type _} {a b : List α} : (a ++ b).length = a.length + b.length := kI
theorem wu {α : Type _} {b : α} {β : Type _} {x : Option β} {f : β → α} : Option.map f x = some b ↔ ∃ a, x = some a ∧ f a = b := bZ
theorem qU {α : Type _} {β : Type _} {f : α → β} {l : List α} {i : Nat} : (List.map f l)[i]? = Option.map f l[i]? := cM
theorem J2 (a b : Bool) : ((a && b) = true) = (a = true ∧ b = true) := lH a b
theorem zQN {α : Type _} {a : α} {s t : List α} : a ∈ s ++ t ↔ a ∈ s ∨ a ∈ t := qX
theorem zQT {α : Type _} {p : α → Bool} {l : List α} : l.all p = true ↔ ∀ x, x ∈ l → p x = true := zal27q
theorem zQU {α : Type _} {p : α → Bool} {l : List α} : l.any p = true ↔ ∃ x, x ∈ l ∧ p x = true := List.any_eq_true
theorem pS (n : Nat) : ¬ n < 0 := iO n
theorem zQB {α : Type _} {a b : α} {l : List α} : b ∈ a :: l ↔ b = a ∨ b ∈ l := zal72q
theorem Bo {α β : Type _} {l : List α} (f : α → β) : (l.map f).length = l.length := lQ f
theorem wt (n : Nat) : n ≤ n := cT n
variable {C:Ctx}{st:St}{g:Gh}{a:Act}{w:World}{P:Program}
theorem vl{o:Oper}{t e:TypeId}{x y:Operand}(id sz by' n:Nat)(es ds:List D)(z:Value)(ho:o.op=.call { callee:=.builtin .append,args:=#[x,y],argTypes:=#[t,t] })(hl:sel P t=some (e,sz,by'))
    (hz:(P.info? e).bind (·.zero)=some z) (hzs:z.cells.size=sz) (hvx:ARep w g (.msl id sz 0 n) (a.eval x)) (hblk:BRep w g id (.flat e sz es)) (hn:n=es.length) (hsrc:Src w g.X sz ds (a.eval y))
    (hlen:(es.length+ds.length)*by'<=140737488355328) (hlen':es.length+ds.length<=9223372036854775807):
    ∃v w',(execOp a.eval o).run P w=.ok (.value v) w'/\
      ((ds = [] /\ v = a.eval x /\ w' = w) \/
       (∃b cells cells' cap,g.phi id=some b/\w.heap[b]?=some (.cells cells e (0,0))/\g.psi id=cells.size/\cells'.size=cells.size/\v=.slice (some ⟨b,0,none⟩) (es.length+ds.length) cap/\es.length+ds.length<=cap/\cap*sz<=cells.size/\w'=w.setRow b cells'/\RowOf w g.X sz (es++ds) cells')\/
       (∃cells' cap,v=.slice (some ⟨w.heap.size,0,none⟩) (es.length+ds.length) cap/\es.length+ds.length<=cap/\cap*sz<=cells'.size/\w'=w.drew.alloc (.cells cells' e)/\RowOf w g.X sz (es++ds) cells')):=by
    obtain⟨inf,hun,hi,hsz,hby⟩:=lM hl;obtain⟨i',hi',hzero⟩:=nB hz;cases hi.symm.trans hi'
    have zero:ds=[]->(∃ad cap,a.eval y=.slice ad 0 cap)->∃v w',(execOp a.eval o).run P w=.ok (.value v) w'/\(ds=[]/\v=a.eval x/\w'=w):=by
      intro hds ⟨ad,cap,hey⟩;subst hds
      have hexv:∃b cap',a.eval x=.slice b n cap'/\n<=cap':=by
        generalize a.eval x=vx at *
        cases hvx with
        |msl0=>exact⟨_,_,rfl,wt _⟩
        |msl _ _ _ _ cap b h1 h2 h3=>exact⟨_,_,rfl,h2⟩
      obtain⟨b,cap',hex,hle⟩:=hexv;have hr:=nX hl w o.type b ad n cap' cap hle;rw[<- hex,<- hey]at hr;exact⟨_,_,cX ho hr,rfl,rfl,rfl⟩
    rcases hsrc with⟨ad,cap,hey,hds⟩|⟨ad,cap,news,hey,n1,n2,n3,n4,n5,n6⟩
    obtain⟨v,w',h1,h2⟩:=zero hds ⟨ad,cap,hey⟩;exact⟨v,w',h1,.inl h2⟩;by_cases hm:ds.length=0;obtain⟨v,w',h1,h2⟩:=zero (rA hm) ⟨some ad,cap,by rw[hm]at hey;exact hey⟩;exact⟨v,w',h1,.inl h2⟩;clear zero
    have hes:∀(i:Nat)(d:D),(es++ds)[i]?=some d->(i<es.length/\es[i]?=some d)\/(es.length<=i/\ds[i-es.length]?=some d):=by
      intro i d h;rw[eW]at h;split at h;exact .inl ⟨‹_›,h⟩;exact .inr ⟨by omega,h⟩
    have holds:∃olds:List Value,olds.length=es.length*sz/\(∀(b:Nat)(cells:Array Value),g.phi id=some b->w.heap[b]?=some (.cells cells e (0,0))->∀(j:Nat)(u:Value),olds[j]?=some u->cells[j]?=some u)/\
        (∀(i:Nat)(d:D),es[i]?=some d->d.cells.length=sz)/\(∀(i:Nat)(d:D)(j:Nat)(c:D),es[i]?=some d->d.cells[j]?=some c->c.one=true)/\
        ∀(i:Nat)(d:D)(j:Nat)(c:D),es[i]?=some d->d.cells[j]?=some c->∃v,olds[i*sz+j]?=some v/\DRep w g.X c v:=by
      rcases hblk with⟨he,hn'⟩|⟨b,cells,hp,hw,hpsi,hl',h0,h1,hr⟩
      subst he;exact⟨[],by simp,λ_ _ _ _ j u hu=>by simp at hu,λi d h=>by simp at h,λi d j c h=>by simp at h,λi d j c h=>by simp at h⟩;obtain ⟨olds, o1, o2, _, o4⟩ := ww (w := w) (X := g.X) (fun m => cells[m]?) h0 h1 hr;refine⟨olds,o1,λb' cells' hp' hw' j u hu=>?_,h0,h1,o4⟩;cases hp.symm.trans hp';rw[hw]at hw';cases hw';exact o2 j u hu
    obtain⟨olds,o1,o2,o3,o4,o5⟩:=holds
    have hsizes:∀(i:Nat)(d:D),(es++ds)[i]?=some d->d.cells.length=sz:=λi d h=>by
      rcases hes i d h with⟨_,h⟩|⟨_,h⟩
      exact o3 i d h;exact n4 _ d h
    have hones:∀(i:Nat)(d:D)(j:Nat)(c:D),(es++ds)[i]?=some d->d.cells[j]?=some c->c.one=true:=λi d j c h hc=>by
      rcases hes i d h with⟨_,h⟩|⟨_,h⟩
      exact o4 i d j c h hc;exact n5 _ d j c h hc
    have hlap:(es.length+ds.length)*sz=es.length*sz+ds.length*sz:=oR _ _ _
    have hcells:∀f:Nat->Option Value,(∀m,m<es.length*sz->f m=olds[m]?)->(∀m,m<ds.length*sz->f (es.length*sz+m)=news[m]?)->
        ∀(i:Nat)(d:D)(j:Nat)(c:D),(es++ds)[i]?=some d->d.cells[j]?=some c->∃v,f (i*sz+j)=some v/\DRep w g.X c v:=by
      intro f f1 f2 i d j c h hc;have hj:j<sz:=by rw[<- hsizes i d h];exact(zQQ.1 hc).1
      rcases hes i d h with⟨hlt,h⟩|⟨hge,h⟩
      obtain⟨v,hv,hd⟩:=o5 i d j c h hc;exact⟨v,by rw[f1 _ (by rw[<- o1];exact(zQQ.1 hv).1)];exact hv,hd⟩;obtain⟨v,hv,hd⟩:=n6 _ d j c h hc;refine⟨v,?_,hd⟩;have hsub:i*sz=es.length*sz+(i-es.length)*sz:=by rw[<- Nat.add_mul];congr 1;omega
      rw[hsub,tK,f2 _ (by rw[<- n1];exact(zQQ.1 hv).1)];exact hv
    have grown:∀(zs:Array Value)(cap':Nat),es.length+ds.length<=cap'->zs.size=(cap'-(es.length+ds.length))*sz->
        cap'*sz<=(olds.toArray++news.toArray++zs).size/\RowOf w g.X sz (es++ds) (olds.toArray++news.toArray++zs):=by
      intro zs cap' hcap hzz
      have htot:(olds.toArray++news.toArray++zs).size=cap'*sz:=by
        simp only[vA,pQ,o1,n1,hzz,<- Nat.add_mul]
        congr 1
        omega
      refine⟨Nat.le_of_eq htot.symm,?_,hsizes,hones,λi d j c h hc=>?_⟩;rw[htot,qn];exact iW _ hcap;exact hcells (λm=>(olds.toArray++news.toArray++zs)[m]?) (λm hm=>by rw[zI,if_pos (by omega)]) (λm hm=>by rw[zI,if_neg (by omega),if_pos (by omega)];congr 1;omega) i d j c h hc
    have hzsz:∀k,(Builtin.zeroCells z.cells k).size=k*sz:=λk=>by rw[size_zeroCells,hzs]
    generalize hex:a.eval x=vx at hvx
    cases hvx with
    |msl0 _ _ _ ad0=>
      have hes0:es=[]:=rA hn.symm;have holds0:olds=[]:=rA (by rw[o1,hes0];simp);have hgr:=grown (Builtin.zeroCells z.cells (grownCap w ds.length 0 e-ds.length)) (grownCap w ds.length 0 e) (by rw[hes0];simpa using grownCap_ge w ds.length 0 e) (by rw[hzsz,hes0];simp);have hcap:es.length+ds.length<=grownCap w ds.length 0 e:=by rw[hes0];simpa using grownCap_ge w ds.length 0 e
      rw[hes0,holds0]at hgr;rw[hes0]at hlen hlen' hcap;simp only[qY,eL]at hlen hlen' hcap;have he:(#[]:Array Value)++news.toArray++Builtin.zeroCells z.cells (grownCap w ds.length 0 e-ds.length)=news.toArray++Builtin.zeroCells z.cells (grownCap w ds.length 0 e-ds.length):=by simp
      rw[show([]:List Value).toArray=#[]from rfl,he]at hgr
      have fin:∃cells' cap,(Value.slice (some ⟨w.heap.size,0,none⟩) ds.length (grownCap w ds.length 0 e))=.slice (some ⟨w.heap.size,0,none⟩) (es.length+ds.length) cap/\es.length+ds.length<=cap/\cap*sz<=cells'.size/\w.drew.alloc (.cells (news.toArray++Builtin.zeroCells z.cells (grownCap w ds.length 0 e-ds.length)) e)=w.drew.alloc (.cells cells' e)/\RowOf w g.X sz (es++ds) cells':=
        ⟨_,_,by rw[hes0];simp,by rw[hes0];simpa using hcap,hgr.1,rfl,by rw[hes0];exact hgr.2⟩
      cases ad0 with
      |none=>
        have hr:=run_append_nil (P:=P) w t o.type e inf z hun hi hzero ad ds.length cap news (by rw[n1,hsz]) n2 (by omega) (by omega) (by rw[hby];omega);rw[<- hex,<- hey]at hr;exact⟨_,_,cX ho hr,.inr (.inr fin)⟩
      |some b0=>
        have hr := run_append_grow (P := P) w t o.type e inf z hun hi hzero b0 0 0 [] (by simp) (fun j v hv => by simp at hv) ad ds.length cap news (by rw [n1, hsz]) n2 (by omega) (by omega)
          (by rw[hby,eL,nextslicecap_zero (by omega)];omega)
        rw[<- hex,<- hey]at hr;simp only[eL]at hr;rw[show([]:List Value).toArray=#[]from rfl,he]at hr;exact⟨_,_,cX ho hr,.inr (.inr fin)⟩
    |msl _ _ _ _ cap0 b hbp hc hpsz=>
      rw[eL]at hpsz;rw[yT]at hex;rcases hblk with⟨_,hn'⟩|⟨b',cells,hp',hw,hpsi,hl',h0,h1,hr0⟩
      rw[hbp]at hn';cases hn';cases hbp.symm.trans hp';have hold2:=o2 b cells hbp hw;by_cases hroom:n+ds.length<=cap0
      have hfit:n*inf.size+news.length<=cells.size:=by
        rw[n1,hsz,<- Nat.add_mul,<- hpsi];exact dQ (iW _ hroom) hpsz
      have hr:=run_append_room (P:=P) w t o.type e inf hun hi b n cap0 cells hw ad ds.length cap news (by rw[n1,hsz]) n2 n3 hroom hfit;rw[<- hex,<- hey]at hr;have hfit':n*sz+news.length<=cells.size:=by rw[hsz]at hfit;exact hfit
      have hget:∀m,m<n*sz+news.length->(cells.toList.take (n*inf.size)++news++cells.toList.drop (n*inf.size+news.length)).toArray[m]?=if m<n*sz then cells[m]? else news[m-n*sz]?:=by
        intro m hm;simp only[xm,eW,qn,gB,mQ,kJ,Cc,hsz];have hmin:min (n*sz) cells.size=n*sz:=by omega
        rw[hmin,if_pos hm];by_cases m1:m<n*sz;simp[m1];simp[m1]
      refine⟨_,_,cX ho hr,.inr (.inl ⟨b,cells,(cells.toList.take (n*inf.size)++news++cells.toList.drop (n*inf.size+news.length)).toArray,cap0,hbp,hw,hpsi,?_,by rw[hn],by omega,by rw[<- hpsi];exact hpsz,rfl,?_,hsizes,hones,?_⟩)⟩;simp only[pQ,qn,gB,qZ,mQ,hsz];omega;simp only[pQ,qn,gB,qZ,mQ,hsz];rw[hlap];rw[hn,n1]at hfit';rw[hn,n1];omega
      exact hcells (λm=>(cells.toList.take (n*inf.size)++news++cells.toList.drop (n*inf.size+news.length)).toArray[m]?) (λm hm=>by
          show(cells.toList.take (n*inf.size)++news++cells.toList.drop (n*inf.size+news.length)).toArray[m]?=_;rw[hget m (by rw[hn];omega),if_pos (by rw[hn];exact hm)];have hlt:m<olds.length:=by rw[o1];exact hm
          rw[lR hlt]
          exact hold2 m _ (lR hlt)) (λm hm=>by
          show(cells.toList.take (n*inf.size)++news++cells.toList.drop (n*inf.size+news.length)).toArray[_]?=_
          rw[hget _ (by rw[hn,n1];omega),if_neg (by rw[hn];omega)];congr 1;rw[hn];omega)
      have hr := run_append_grow (P := P) w t o.type e inf z hun hi hzero ⟨b, 0, none⟩ n cap0 olds (by rw [o1, hsz, hn]) (fun j v hv => by
          rw[qF,cell_of_row w b _ cells e (0,0) hw];simpa using hold2 j v hv) ad ds.length cap news (by rw[n1,hsz]) n2 (by omega) (by omega)
        (by rw[hby];exact growslice_fits (by omega) (by rw[hn];exact hlen))
      rw[<- hex,<- hey]at hr;refine⟨_,_,cX ho hr,.inr (.inr ⟨_,_,by rw[hn],by simpa[hn]using grownCap_ge w (es.length+ds.length) cap0 e,?_,rfl,?_⟩)⟩;rw[hn];exact(grown _ _ (by simpa using grownCap_ge w (es.length+ds.length) cap0 e) (by rw[hzsz])).1;rw[hn];exact(grown _ _ (by simpa using grownCap_ge w (es.length+ds.length) cap0 e) (by rw[hzsz])).2
theorem Sim.kill(h:Sim C st g a w)(i:Nat):Sim C ⟨st.fr,st.hp.set i .dead⟩ g a w:=by
  refine{ h with hp:=λj B hj=>?_,lt:=λj b hp=>?_,inj:=λj j' b Bj Bj' h1 h2 d1 d2 p1 p2=>?_,kle:=by simpa using h.kle };rw[cG]at hj;split at hj;split at hj
  · cases hj;trivial
  cases hj;exact h.hp j B hj;have:=h.lt j b hp;simpa using this;simp only[cG]at h1 h2;split at h1;split at h1<;>cases h1;exact absurd rfl d1;split at h2;split at h2<;>cases h2;exact absurd rfl d2;exact h.inj j j' b Bj Bj' h1 h2 d1 d2 p1 p2
theorem Sim.dup(h:Sim C st g a w){i N:Nat}{B:Blk}(hik:C.k<=i)(hi:st.hp[i]?=some B)(hd:B≠.dead)(hN:st.hp[N]?=some .hole)(hB:∀g':Gh,g'.phi N=g.phi i->g'.psi N=g.psi i->g'.X=g.X->BRep w g i B->BRep w g' N B)(hne:i≠N):
    ∃g',Sim C ⟨st.fr,(st.hp.set i .dead).set N B⟩ g' a w/\Grow w g w g'/\g'.phi N=g.phi i/\g'.psi N=g.psi i/\g'.X=g.X:=by
  have hno:g.phi N=none:=h.hp N _ hN;have hNl:N<st.hp.length:=(zQQ.1 hN).1
  let g':Gh:={ phi:=upd g.phi N (g.phi i),psi:=upd g.psi N (g.psi i),X:=g.X }
  have hphi:∀j b,g'.phi j=some b->(j=N/\g.phi i=some b)\/(j≠N/\g.phi j=some b):=by
    intro j b hp;by_cases hj:j=N;subst hj;exact .inl ⟨rfl,by simpa[g',upd]using hp⟩;exact .inr ⟨hj,by simpa[g',upd,hj]using hp⟩
  have hg:Grow w g w g':=by
    refine⟨λj b hp=>?_,λj b hp=>?_,λ_ h=>h,λ_ _=>rfl⟩;have hj : j ≠ N := fun e => by subst e; rw [hno] at hp; cases hp
    simpa[g',upd,hj]using hp;have hj : j ≠ N := fun e => by subst e; rw [hno] at hp; cases hp
    simp[g',upd,hj]
  refine⟨g',{ h with fr:=λt=>(h.fr t).mono hg,hp:=λj Bj hj=>?_,lt:=λj b hp=>?_,inj:=λj j' b Bj Bj' h1 h2 d1 d2 p1 p2=>?_,own:=λj b hp hb=>?_,stay:=λj b hj hm hp=>?_,kle:=by simpa using h.kle },hg,by simp[g',upd],by simp[g',upd],rfl⟩;rw[cG]at hj;split at hj;rename_i e;subst e;split at hj;cases hj;exact hB g' (by simp[g',upd]) (by simp[g',upd]) rfl (h.hp i B hi);cases hj;rename_i hjN;rw[cG]at hj;split at hj;split at hj
  · cases hj;trivial
  cases hj;refine (h.hp j Bj hj).mono hg (fun hn => ?_) (fun _ _ => rfl);simpa[g',upd,show j≠N from λe=>hjN e.symm]using hn;simp only[zal60q];rcases hphi j b hp with⟨rfl,hp'⟩|⟨_,hp'⟩
  have:=h.lt i b hp';exact⟨this.1,hNl,this.2.2⟩;exact h.lt j b hp'
  have key:∀(j:Nat)(Bj:Blk),((st.hp.set i .dead).set N B)[j]?=some Bj->Bj≠.dead->j≠N->st.hp[j]?=some Bj/\j≠i:=by
    intro j Bj hj hdj hjN;rw[cG,if_neg (λe=>hjN e.symm),cG]at hj;split at hj;split at hj<;>cases hj;exact absurd rfl hdj;exact⟨hj,λe=>‹¬i=j› e.symm⟩
  rcases hphi j b p1 with⟨rfl,q1⟩|⟨n1,q1⟩<;>rcases hphi j' b p2 with⟨rfl,q2⟩|⟨n2,q2⟩
  rfl;obtain⟨k1,k2⟩:=key j' Bj' h2 d2 n2;exact absurd (h.inj j' i b Bj' B k1 hi d2 hd q2 q1) k2;obtain⟨k1,k2⟩:=key j Bj h1 d1 n1;exact absurd (h.inj j i b Bj B k1 hi d1 hd q1 q2) k2;exact h.inj j j' b Bj Bj' (key j Bj h1 d1 n1).1 (key j' Bj' h2 d2 n2).1 d1 d2 q1 q2;rcases hphi j b hp with⟨rfl,hp'⟩|⟨_,hp'⟩
  · have:=(h.own i b hp' hb).1;omega
  exact h.own j b hp' hb;have hst:=h.stay j b hj hm hp;have hjN:j≠N:=λe=>by subst e;rw[hno]at hst;cases hst.2
  simpa[g',upd,hjN]using hst
theorem SrcA.le{hp hp':List Blk}(hle:HpLe hp hp'){sz:Nat}{ds:List D}{u:AV}(h:SrcA hp sz ds u):SrcA hp' sz ds u:=by
  cases u with
  |d x=>cases x<;>exact h
  |msl id s off len=>obtain⟨h0,ty,es,h1,h2⟩:=h;exact⟨h0,ty,es,hle _ _ h1 (λe=>by cases e),h2⟩
  |_=>exact h.elim
theorem xy{α:Type}{f:α->D}{T:Tab}{o:Oper}{ev:Operand->AV}{hp:List Blk}{t e sz by' n i N:Nat}{x y:Operand}{u:AV}{z:Value}{xs:List α}(ys:List α)(hik:Nat.ble C.k i=true)(hN:hp[N]?=some .hole)(ho:o.op=.call { callee:=.builtin .append,args:=#[x,y],argTypes:=#[t,t] })
    (hT:TabOk C.P T) (hl:lk T.sel t=some (e,sz,by')) (hz:(C.P.info? e).bind (·.zero)=some z) (hzs:Nat.beq z.cells.size sz=true) (hby:Nat.ble by' 100000=true) (hx:ev x=.msl i sz 0 n) (hb:hp[i]?=some (.flat e sz (xs.map f))) (hn:n=xs.length)
    (hy:ev y=u) (hu:SrcA hp sz (ys.map f) u) (hg:(xs++ys).length<=1000000000):DOk C o ev hp (.msl N sz 0 (xs++ys).length) [(i,.dead),(N,.flat e sz ((xs++ys).map f))]:=
  DOk.mk λst hhp hag g a w hs=>by
    have hb':=hhp i _ hb (λe=>by cases e);have hN':=zH hN hhp;have hne:i≠N:=λe=>by rw[e,hN']at hb';cases hb'
    have hvx:=hs.ev x;rw[hag x (by simp[ho,Op.operands,Call.operands]),hx]at hvx;have hvy:=hs.ev y;rw[hag y (by simp[ho,Op.operands,Call.operands]),hy]at hvy;have hsrc:=Dh hs hvy (hu.le hhp);have h1:=dK hby;have h3:(xs++ys).length*by'<=1000000000*100000:=vB hg h1
    rw[qn]at h3 hg;obtain⟨v,w',hr,hc⟩:=vl (P:=C.P) i sz by' n (xs.map f) (ys.map f) z ho (hT.sel hl) hz (dO hzs) hvx (hs.hp i _ hb') (by simpa using hn) hsrc (by simp;omega) (by simp;omega)
    have hwr:wr [(i,.dead),(N,.flat e sz ((xs++ys).map f))] st.hp=(st.hp.set i .dead).set N (.flat e sz ((xs++ys).map f)):=rfl;rw[hwr,mU]
    have dupB:∀(es:List D)(g':Gh),g'.phi N=g.phi i->g'.psi N=g.psi i->g'.X=g.X->BRep w g i (.flat e sz es)->BRep w g' N (.flat e sz es):=by
      intro es g' e1 e2 e3 hB;unfold BRep at hB⊢;simp only[e1,e2,e3];exact hB
    rcases hc with⟨hds,rfl,rfl⟩|⟨b,cells,cells',cap,hp0,hw,hpsi,hcs,rfl,hcap,hcapsz,rfl,row⟩|⟨cells',cap,rfl,hcap,hcapsz,rfl,row⟩
    obtain ⟨g', h2, h4, e1, e2, e3⟩ := hs.dup (dK hik) hb' (fun e => by cases e) hN' (dupB _) hne;refine⟨_,_,g',hr,by rw[hds,mW];exact h2,?_⟩;have hys:ys.length=0:=by have:=congrArg List.length hds;simpa using this
    rw[qn,hys,qV,<- hn];generalize a.eval x=vx at hvx
    cases hvx with
    |msl0=>exact .msl0 _ _ _ _
    |msl _ _ _ _ cap b q1 q2 q3=>exact .msl _ _ _ _ cap b (by rw[e1];exact q1) q2 (by rw[e2];exact q3)
    obtain ⟨g', h2, h4, e1, e2, e3⟩ := hs.dup (dK hik) hb' (fun e => by cases e) hN' (dupB _) hne;have hX:∀b',g.X b'->b'≠b:=λb' hX e=>(hs.lt i b hp0).2.2 (e ▸ hX);have hNl:N<st.hp.length:=(zQQ.1 hN').1
    have hch := h2.change (i := N) (b := b) (B0 := .flat e sz (xs.map f)) (by simp [hNl]) (fun e => by cases e) (by rw [e1]; exact hp0) (w' := w.setRow b cells') (qN _ _ _) rfl rfl rfl (wt _) (fun b' hb' => setRow_other w b b' _ hb')
      (B:=.flat e sz (xs.map f++ys.map f)) (.inr ⟨b,cells',by rw[e1];exact hp0,setRow_heap w b cells _ e (0,0) hw,by rw[e2,hpsi,hcs],row.le,row.h0,row.h1,λk d j c hk hc=>?_⟩)
    refine ⟨_, _, g', hr, by simpa [List.set_set] using hch, ?_⟩;have:=ARep.msl (w:=w.setRow b cells') (g:=g') N sz 0 ((xs.map f).length+(ys.map f).length) cap b (by rw[e1];exact hp0) hcap (by rw[e2,hpsi,eL];exact hcapsz);simpa using this;obtain⟨v,hv,hd⟩:=row.rep k d j c hk hc;exact⟨v,hv,hd.mono (by rw[e3];exact λ_ h=>h) λb' hb'=>setRow_other w b b' _ (hX b' (e3 ▸ hb'))⟩;have hk:=(hs.kill i).drew;have hN2:(st.hp.set i .dead)[N]?=some .hole:=by rw[cG,if_neg hne];exact hN'
    have hno:g.phi N=none:=hs.hp N _ hN';have hf:=hk.fill (i:=N) (o:=.cells cells' e) (n:=cells'.size) (B:=.flat e sz (xs.map f++ys.map f)) hN2 (.inr ⟨w.heap.size,cells',by simp[Gh.new,upd],heap_alloc_new w.drew _,by simp[Gh.new,upd],row.le,row.h0,row.h1,λk d j c hk hc=>?_⟩);refine⟨_,_,_,hr,hf,?_⟩;have:=ARep.msl (w:=w.drew.alloc (.cells cells' e)) (g:=g.new N w.heap.size cells'.size) N sz 0 ((xs.map f).length+(ys.map f).length) cap w.heap.size (by simp[Gh.new,upd]) hcap (by simp only[Gh.new,upd,if_true,eL];exact hcapsz);simpa using this;obtain⟨v,hv,hd⟩:=row.rep k d j c hk hc;exact⟨v,hv,hd.mono (λ_ h=>h) λb' hb'=>dU w.drew _ b' (hs.Xlt b' hb')⟩
section ends
theorem EndsS.cellR{P:Program}{st:St}{a t id off s:Nat}{ty:TypeId}{cs:List AV}{T:Tab}(x:AV){d:D}(hT:TabOk P T)(hl:lk T.lay t=some (true,s))(ha:st.fr.get a=.mptr id 0 0 off)(hb:st.hp[id]?=some (.box ty cs))(hc:Nat.ble (off+s) cs.length=true)(hv:wK ((cs.drop off).take s)=x)(hs:Snap st.hp x d):EndsS P [.cell a t] d st:=
  EndsS.cell x (hT.lay hl) ha hb hc hv hs
theorem EndsS.cell1{P:Program}{st:St}{a t id off s:Nat}{ty:TypeId}{cs:List AV}{T:Tab}{x:AV}{d:D}(hT:TabOk P T)(hl:lk T.lay t=some (false,s))(ha:st.fr.get a=.mptr id 0 0 off)(hb:st.hp[id]?=some (.box ty cs))(hv:cs[off]?=some x)(hs:Snap st.hp x d):EndsS P [.cell a t] d st:=
  ⟨_,d,.mk _ (.cons (.one (hT.lay hl) ha hb hv) .nil) rfl,hs,.refl _⟩
end ends
theorem fw{G:FuncId}(hc:kD P G=true)(args:Array Value)(w:World):(callFunc G args).run P w=.ok (.enter G args) w:=by
  unfold kD at hc
  cases hfn:P.funcs[G]? with
  |none=>simp[hfn]at hc
  |some fn=>
    simp only[hfn,J2,rB]at hc;have hb:fn.body.isNone=false:=by cases h:fn.body<;>simp_all
    unfold callFunc;simp only[Sem.run_bind,run_program,Result.andThen_ok,hfn];rw[if_neg (by rw[hc.1];exact eX),if_neg (by rw[hb];exact eX)];rfl
def ck{α:Type}(m:α->α->Option Int)(x y:α):Bool:=decide ((m x y).getD 0<0)
structure SortOk {α:Type} (m:α->α->Option Int):Prop where
  tot:∀x y,∃r,m x y=some r
  irrefl:∀x,ck m x x=false
  trans:∀x y z,ck m x y=true->ck m y z=true->ck m x z=true
  ntrans:∀x y z,ck m x y=false->ck m y z=false->ck m x z=false
  anti:∀x y,ck m x y=false->ck m y x=false->x=y
def Ik{α:Type}(m:α->α->Option Int)(x:α):List α->List α
  |[]=>[x]
  |y::r=>bif ck m y x then y::Ik m x r else x::y::r
def pP{α:Type}(m:α->α->Option Int):List α->List α
  |[]=>[]
  |x::r=>Ik m x (pP m r)
section sort
variable {α:Type}{m:α->α->Option Int}
theorem ky(x:α):∀l,(Ik m x l).Perm (x::l)
  |[]=>.refl _
  |y::r=>by
    unfold Ik;cases ck m y x;exact .refl _;exact((ky x r).cons y).trans (.swap x y r)
theorem pU:∀l:List α,(pP m l).Perm l
  |[]=>.refl _
  |x::r=>(ky x (pP m r)).trans ((pU r).cons x)
theorem vj(h : SortOk m)(x : α) : ∀ l, l.Pairwise (fun a b => ck m b a = false) -> (Ik m x l).Pairwise (fun a b => ck m b a = false)
  |[],_=>by simp[Ik]
  |y::r,hp=>by
    rw[zal85q]at hp;unfold Ik;cases hyx:ck m y x;simp only[cond_false,zal85q];refine⟨λb hb=>?_,hp.1,hp.2⟩;rcases zQB.1 hb with rfl|hb
    exact hyx;exact h.ntrans b y x (hp.1 b hb) hyx;simp only[cond_true,zal85q];refine⟨λb hb=>?_,vj h x r hp.2⟩;rcases zQB.1 ((ky x r).mem_iff.1 hb)with rfl|hb
    cases hxy:ck m b y
    · rfl
    have h3:=h.trans _ _ _ hxy hyx;rw[h.irrefl]at h3;cases h3;exact hp.1 b hb
theorem vF(h : SortOk m) : ∀ l, (pP m l).Pairwise (fun a b => ck m b a = false)
  |[]=>.nil
  |x::r=>vj h x _ (vF h r)
theorem iY(l:List α):(pP m l).length=l.length:=(pU l).length_eq
theorem qt(h:SortOk m)(l:List α):l.mergeSort (λx y=>!ck m y x)=pP m l:=by
  refine List.Perm.eq_of_pairwise (le:=λx y=>ck m y x=false) (λa b _ _ h1 h2=>h.anti a b h2 h1) ?_ (vF h l) ((List.mergeSort_perm _ _).trans (pU l).symm);have:=List.pairwise_mergeSort (le:=λx y=>!ck m y x) (λa b c h1 h2=>?_) (λa b=>?_) l;simpa using this;simp only[rB]at h1 h2⊢;exact h.ntrans c b a h2 h1;cases h1:ck m b a
  · rfl
  cases h2:ck m a b
  · rfl
  have h3:=h.trans _ _ _ h1 h2;rw[h.irrefl]at h3;cases h3
end sort
theorem set_same{α:Type}{l:List α}{i:Nat}{x:α}(h:l[i]?=some x):l.set i x=l:=by
  apply hU;intro j;by_cases e:i=j;subst e;rw[gq (zQQ.1 h).1,h];rw[tL e]
theorem yj{C:Ctx}{fr:Fr}{hp:List Blk}{ops:Array Oper}{l:List Oper}{K:St->Prop}(i:Nat){t:TypeId}{cs:List AV}(cs':List AV)(hb:hp[i]?=some (.box t cs))(he:cs=cs')(h:bO C ops l ⟨fr,hp.set i (.box t cs')⟩ K):bO C ops l ⟨fr,hp⟩ K:=by
  subst he;rwa [set_same hb]at h
theorem zu{C:Ctx}{c:Code}{Q:Exit->St->Prop}{fr fr':Fr}{hp hp1:List Blk}(q j i:Nat)(ks:List Nat)(hk:Nat.ble C.k i=true)(hks:((List.range C.k).all (cF hp))=true)(hal:cF hp i=true){sz n ty tq:Nat}{es:List D}{cs cs1:List AV}(hq:hp[q]?=some (.box tq cs))(hc:cs[j]?=some (.msl i sz 0 n))(hb:hp[i]?=some (.flat ty sz es))(hn:n=es.length)
    (hf:Fr.mapRef (gj i (.flat ty sz es) (cF hp)) (Fr.keep ks fr)=fr') (hh:((hp.set q (.box tq (cs.set j .junk))).map (Blk.mapRef (gj i (.flat ty sz es) (cF hp)))).set i .dead=hp1) (h1:hp1[q]?=some (.box tq cs1))
    (h:TWp C c ⟨fr',hp1.set q (.box tq (cs1.set j (.d (.sl sz es))))⟩ Q):TWp C c ⟨fr,hp⟩ Q:=by
  have hB:hp.getD i .dead=.flat ty sz es:=by rw[Lb,hb];rfl
  have hqi:i≠q:=λe=>by subst e;rw[hb]at hq;cases hq
  intro g a w hs;obtain⟨g',hs'⟩:=hs.freeze i (dK hk) hal (λj hj=>zQT.1 hks j (zal81q.2 hj));subst hf hh;refine h g' a w ?_;simp only[St.freeze,hB]at hs';have hql:q<hp.length:=(zQQ.1 hq).1;have hjl:j<cs.length:=(zQQ.1 hc).1;rw[tL hqi,qU,gq hql]at h1;simp only[gO,Blk.mapRef,AV.mapRefs_eq,mE,Blk.box.injEq,true_and]at h1
  have e:(hp.map (Blk.mapRef (gj i (.flat ty sz es) (cF hp)))).set i .dead=(((hp.set q (.box tq (cs.set j .junk))).map (Blk.mapRef (gj i (.flat ty sz es) (cF hp)))).set i .dead).set q (.box tq (cs1.set j (.d (.sl sz es)))):=by
    apply hU;intro b;by_cases hbq:q=b;subst hbq;rw[tL hqi,gq (by simpa using hql),qU,hq];simp only[gO,Blk.mapRef,AV.mapRefs_eq,mE,Blk.box.injEq,true_and];rw[<- h1];apply hU;intro u;by_cases huj:j=u;subst huj;rw[gq (by simpa using hjl),qU,hc];simp only[gO,AV.mapRef,gj,if_true];rw[if_pos ⟨trivial,by omega⟩];subst hn;simp;rw[tL huj,qU,qU,tL huj];rw[tL hbq];by_cases hbi:i=b;subst hbi;rw[gq (by simpa using(zQQ.1 hb).1),gq (by simpa using(zQQ.1 hb).1)];rw[tL hbi,tL hbi,qU,qU,tL hbq]
  rw[e]at hs';refine hs'.forget λt=>?_;rw[Fr.get_mapRef,Fr.get_mapRef];rcases Fr.get_keep fr ks t with e|e
  rw[e];exact .inl rfl;rw[e];exact .inr rfl
theorem Sim.virtN(h:Sim C st g a w){N:Nat}(ty sz:Nat)(hN:st.hp[N]?=some .hole):Sim C ⟨st.fr,st.hp.set N (.flat ty sz [])⟩ g a w:=by
  have hno:g.phi N=none:=h.hp N _ hN;refine{ h with hp:=λj B hj=>?_,lt:=λj b hp=>?_,inj:=λj j' b Bj Bj' h1 h2 d1 d2 p1 p2=>?_,kle:=by simpa using h.kle };rw[cG]at hj;split at hj;rename_i e;subst e;split at hj;cases hj;exact .inl ⟨rfl,hno⟩;cases hj;exact h.hp j B hj;have:=h.lt j b hp;simpa using this;have hj : j ≠ N := fun e => by subst e; rw [hno] at p1; cases p1
  have hj':j'≠N:=λe=>by subst e;rw[hno]at p2;cases p2
  simp only[cG,if_neg (λe=>hj (Eq.symm e)),if_neg (λe=>hj' (Eq.symm e))]at h1 h2;exact h.inj j j' b Bj Bj' h1 h2 d1 d2 p1 p2
theorem w_appN{α:Type}{f:α->D}{T:Tab}{o:Oper}{ev:Operand->AV}{hp:List Blk}{t e sz by' N:Nat}{x y:Operand}{u:AV}{z:Value}(ys:List α)(hN:hp[N]?=some .hole)(ho:o.op=.call { callee:=.builtin .append,args:=#[x,y],argTypes:=#[t,t] })
    (hT:TabOk C.P T) (hl:lk T.sel t=some (e,sz,by')) (hz:(C.P.info? e).bind (·.zero)=some z) (hzs:Nat.beq z.cells.size sz=true) (hby:Nat.ble by' 100000=true) (hx:ev x=.d .nilsl)
    (hy:ev y=u) (hu:SrcA hp sz (ys.map f) u) (hg:ys.length<=1000000000):DOk C o ev hp (.msl N sz 0 ys.length) [(N,.flat e sz (ys.map f))]:=
  DOk.mk λst hhp hag g a w hs=>by
    have hN':=zH hN hhp;have hno:g.phi N=none:=hs.hp N _ hN';have hvx:=hs.ev x;rw[hag x (by simp[ho,Op.operands,Call.operands]),hx]at hvx
    have hvx':ARep w g (.msl N sz 0 0) (a.eval x):=by
      generalize a.eval x=vx at hvx
      cases hvx with
      |d _ _ h=>cases h with
        |nilsl a=>exact .msl0 _ _ _ _
    have hvy:=hs.ev y;rw[hag y (by simp[ho,Op.operands,Call.operands]),hy]at hvy;have hsrc:=Dh hs hvy (hu.le hhp);have h1:=dK hby;have h3:ys.length*by'<=1000000000*100000:=vB hg h1
    obtain⟨v,w',hr,hc⟩:=vl (P:=C.P) N sz by' 0 [] (ys.map f) z ho (hT.sel hl) hz (dO hzs) hvx' (.inl ⟨rfl,hno⟩) rfl hsrc (by simp;omega) (by simp;omega)
    have hwr:wr [(N,.flat e sz (ys.map f))] st.hp=st.hp.set N (.flat e sz (ys.map f)):=rfl;rw[hwr];rcases hc with⟨hds,rfl,rfl⟩|⟨b,cells,cells',cap,hp0,_⟩|⟨cells',cap,rfl,hcap,hcapsz,rfl,row⟩
    have hys : ys.length = 0 := by have := congrArg List.length hds; simpa using this
    refine⟨_,_,g,hr,by rw[hds];exact hs.virtN e sz hN',?_⟩;rw[hys];exact hvx';rw[hno]at hp0;cases hp0;have hf := (hs.drew).fill (i := N) (o := .cells cells' e) (n := cells'.size) (B := .flat e sz (ys.map f)) hN' (.inr ⟨w.heap.size, cells', by simp [Gh.new, upd], heap_alloc_new w.drew _, by simp [Gh.new, upd], by simpa using row.le, fun k d h => row.h0 k d (by simpa using h), fun k d j c h => row.h1 k d j c (by simpa using h), fun k d j c hk hc => ?_⟩)
    · refine⟨_,_,_,hr,hf,?_⟩
      have:=ARep.msl (w:=w.drew.alloc (.cells cells' e)) (g:=g.new N w.heap.size cells'.size) N sz 0 (0+(ys.map f).length) cap w.heap.size (by simp[Gh.new,upd]) (by simpa using hcap) (by simp only[Gh.new,upd,if_true,eL];exact hcapsz);simpa using this
    obtain ⟨v, hv, hd⟩ := row.rep k d j c (by simpa using hk) hc;exact⟨v,hv,hd.mono (λ_ h=>h) λb' hb'=>dU w.drew _ b' (hs.Xlt b' hb')⟩
theorem Sim.handedM(hs:Sim C st g a w){ids:List Nat}(hnd:ids.Nodup)(mv:Nat->Bool):Out ⟨C.P,0,w,(mO ids st.hp).length,g.canon ids,mv⟩ (mO ids st.hp) (g.canon ids) w:=by
  have h:=hs.handed hnd;exact{ h with keep:=h.keep,own:=h.own,stay:=λi b hi _ hp=>h.stay i b hi rfl hp,kle:=h.kle }
def uQ:AV->Option (FuncId×List AV)
  |.d (.fn F)=>some (F,[])
  |.d (.clo F cs)=>some (F,cs.map .d)
  |.fnc F cs=>some (F,cs)
  |_=>none
theorem fq{x:AV}{F:FuncId}{cs:List AV}{v:Value}(h:ARep w g x v)(hc:uQ x=some (F,cs)):∃vs:Array Value,v=.func (.func F) #[] vs/\Pw (ARep w g) cs vs.toList:=by
  cases h with
  |d d v hd=>
    cases hd with
    |fn f=>cases hc;exact⟨#[],rfl,rfl,λi c v h=>by simp at h⟩
    |clo f ds vs hl h=>
      cases hc;refine⟨vs,rfl,by simpa using hl,λi c v hci hvi=>?_⟩;simp only[qU,wu]at hci;obtain⟨d,hd,rfl⟩:=hci;exact .d _ _ (h i d v hd (by simpa using hvi))
    |_=>cases hc
  |fnc f cs vs hl h=>cases hc;exact⟨vs,rfl,by simpa using hl,λi c v hci hvi=>h i c v hci (by simpa using hvi)⟩
  |_=>cases hc
theorem ok_callM{o:Oper}{K:St->Prop}{f:Operand}{xs:Array Operand}{ts:Array TypeId}{F:FuncId}{c:AV}{cs:List AV}(ids:List Nat)(mv:Nat->Bool)(args:List AV)(r:AV)(hp':List Blk)(ho:o.op=.call { callee:=.value f,args:=xs,argTypes:=ts })(hd:kZ C.n o.dst=true)
    (hf:st.fr.ev f=c) (hc:uQ c=some (F,cs)) (hnd:ids.Nodup) (hal:(ids.all λj=>cF st.hp j)=true) (hmv:((List.range C.k).all λj=>!tR ids mv j||C.mv j)=true) (hx:((xs.toList.map st.fr.ev)++cs).map (AV.mapRef (toName (aR ids)))=args) (hret:Ret C.P F (mO ids st.hp) mv args r hp')
    (hK:K (St.put ⟨Fr.mapRef (fI (tR ids mv)) st.fr,nA ids (st.hp.map (Blk.mapRef (fI (tR ids mv)))) hp'⟩ o.dst (r.mapRef (fwd ids st.hp.length)))):OpOk C o st K:=by
  intro g a w Q hs;have hfv:=hs.ev f;rw[hf]at hfv;obtain⟨vs,hv,hvs⟩:=fq hfv hc
  have hf':∀i j,aR ids i=some j->(g.canon ids).phi j=g.phi i/\(g.canon ids).psi j=g.psi i:=by
    intro i j hij;have:=cE ids i j hij;simp[Gh.canon,this]
  have hargs:Pw (ARep w (g.canon ids)) args (xs.map a.eval++vs).toList:=by
    rw[<- hx,xu,mU];refine Pw.append ⟨by simp,λi x v hxi hvi=>?_⟩ ⟨by simpa using hvs.1,λi x v hxi hvi=>?_⟩;simp only[List.map_map,qU,wu]at hxi;simp only[sD,qU,wu]at hvi;obtain⟨y,hy,rfl⟩:=hxi;obtain⟨z,hz,rfl⟩:=hvi;rw[hy]at hz;cases hz;exact ARep.mapRef (w:=w) (g:=g) (g':=g.canon ids) (λd v hd=>hd) (ARep.toName hf' λ_ hb=>hb) (hs.ev y);simp only[qU,wu]at hxi;obtain⟨d,hd',rfl⟩:=hxi;exact ARep.mapRef (w:=w) (g:=g) (g':=g.canon ids) (λd v hd=>hd) (ARep.toName hf' λ_ hb=>hb) (hvs.2 i d v hd' hvi)
  have hal':∀j∈ids,cF st.hp j=true:=λj hj=>zQT.1 hal j hj;have hlt:∀j∈ids,j<st.hp.length:=λj hj=>by obtain⟨B,hB,_⟩:=gN (hal' j hj);exact(zQQ.1 hB).1
  have hmv':∀j,j<C.k->tR ids mv j=true->C.mv j=true:=λj hj hm=>by
    have:=zQT.1 hmv j (zal81q.2 hj);simpa[hm]using this
  simp only[Oper.wp,eH ho hv hret.1,Oper.upon_enter];refine(hret.2 w (g.canon ids) _ (hs.handedM hnd mv) hargs).mono ?_;rintro e w' ⟨v,g',rfl,hout,hr⟩;refine⟨_,_,hK,(hs.backM mv hnd hal' hmv' hout).put' hd ?_⟩;refine ARep.mapRef (w:=w') (g:=g') (λd v hd=>hd.mono (λb hb=>?_) λ_ _=>rfl) (λx v hx hr=>hx.fwd hnd hlt hr) hr;by_cases hlt':b<w.heap.size;exact .inl (hout.Xold b hb hlt');exact .inr ⟨by omega,hb⟩
section
variable {ops:Array Oper}{l:List Oper}{K:St->Prop}{fr:Fr}{hp:List Blk}{d:Nat}{ty:TypeId}{pos:String}{after:Array Edge}
theorem gP{f : Operand}{xs : Array Operand}{ts : Array TypeId}{F : FuncId}{c : AV}{cs : List AV}(ids : List Nat)(mv : Nat -> Bool){args : List AV}{r r' : AV}{fr2 : Fr}{hh hp' hp2 : List Blk}(hd : decide (d < C.n) = true)(hf : fr.ev f = c)(hc : uQ c = some (F, cs))(hnd : ids.Nodup)(hal : (ids.all fun j => cF hp j) = true)
    (hmv:((List.range C.k).all λj=>!tR ids mv j||C.mv j)=true) (hx:((xs.toList.map fr.ev)++cs).map (AV.mapRef (toName (aR ids)))=args) (hhd:mO ids hp=hh) (hret:Ret C.P F hh mv args r hp') (hr:r.mapRef (fwd ids hp.length)=r') (hfr:Fr.mapRef (fI (tR ids mv)) fr=fr2) (hb:nA ids (hp.map (Blk.mapRef (fI (tR ids mv)))) hp'=hp2)
    (h:bO C ops l ⟨(d,r')::fr2,hp2⟩ K):bO C ops (⟨some d,.call { callee:=.value f,args:=xs,argTypes:=ts },ty,pos,after,none⟩::l) ⟨fr,hp⟩ K:=by
  subst hr hb hhd hfr;exact cU rfl (ok_callM ids mv args r hp' rfl hd hf hc hnd hal hmv hx hret h)
end
end Go.TL
namespace Go.TL
open Go.Sort Go.Proofs
variable {C:Ctx}{st:St}{g:Gh}{a:Act}{w:World}{P:Program}
def D.val:D->Value
  |.bool b=>.bool b
  |.int k n=>.int k n
  |.str s=>.string s
  |_=>undef
def D.scal:D->Bool
  |.bool _|.int _ _|.str _=>true
  |_=>false
theorem scal_val{X:Nat->Prop}{c:D}{v:Value}(hc:c.scal=true)(h:DRep w X c v):v=c.val:=by
  cases h<;>first|rfl|cases hc
theorem Fb{X:Nat->Prop}{c:D}(hc:c.scal=true):DRep w X c c.val:=by
  cases c<;>first|cases hc|skip
  exact .bool _;exact .int _ _;exact .str _
theorem Fc{c:D}(hc:c.scal=true):c.one=true/\c.val.oneCell'=true:=by
  cases c<;>first|exact⟨rfl,rfl⟩|cases hc
theorem Sim.grow(h:Sim C st g a w)(n:Nat)(os:Array Obj):Sim C st g a (Sort.grow (Sort.ahead w n) os):=by
  have hheap:∀b,b<w.heap.size->(Sort.grow (Sort.ahead w n) os).heap[b]?=w.heap[b]?:=λb hb=>by
    show(w.heap++os)[b]?=_;rw[cx,if_pos hb]
  have hsz:w.heap.size<=(Sort.grow (Sort.ahead w n) os).heap.size:=by show _<=(w.heap++os).size;simp
  have hg:Grow w g (Sort.grow (Sort.ahead w n) os) g:=⟨λ_ _ h=>h,λ_ _ _=>rfl,λ_ h=>h,λb hb=>hheap b (h.Xlt b hb)⟩
  exact { h with fr := fun t => (h.fr t).mono hg, hp := fun i B hi => (h.hp i B hi).mono hg id fun b hb => hheap b (h.lt i b hb).1,
                 lt:=λi b hb=>⟨vC (h.lt i b hb).1 hsz,(h.lt i b hb).2⟩,Xlt:=λb hb=>vC (h.Xlt b hb) hsz,
                 drawn:=dQ h.drawn (Nat.le_add_right _ _),grown:=dQ h.grown hsz,
                 keep:=λb hb hk=>by rw[hheap b (vC hb h.grown)];exact h.keep b hb hk }
theorem Out.grown'{hp':List Blk}{mv:Nat->Bool}{g g':Gh}{w':World}(h:Out ⟨P,0,w,0,g,mv⟩ hp' g' w'):∃q os,w'=Sort.grow (w.drewN q) os:=by
  have hold:∀b,b<w.heap.size->w'.heap[b]?=w.heap[b]?:=λb hb=>h.keep b hb λi hi=>absurd hi (pS i);have hsz:w.heap.size<=w'.heap.size:=h.grown;have hd:w.drawn<=w'.drawn:=h.drawn;have e1:w'.os=w.os:=h.os;have e2:w'.tape=w.tape:=h.tape;have e3:w'.output=w.output:=h.output;refine⟨w'.drawn-w.drawn,w'.heap.extract w.heap.size w'.heap.size,?_⟩
  have hh:w'.heap=w.heap++w'.heap.extract w.heap.size w'.heap.size:=by
    apply Array.ext_getElem?;intro i;rw[cx];split;rename_i hi;exact hold i hi;rename_i hi;rw[Array.getElem?_extract];split;rw[Nat.add_sub_cancel' (Nat.le_of_not_lt hi)];rename_i hn;rw[Array.getElem?_eq_none_iff];omega
  cases w;cases w';simp only at e1 e2 e3 hh hd;subst e1 e2 e3;simp only[Sort.grow,World.drewN];rw[<- hh]
  congr 1
  omega
theorem fc{α:Type}[Inhabited α](enc:α->List Value)(k:Nat)(w:World)(blk off n:Nat)(d:Array α)(os:Array Obj)(b:Nat)(hb:b≠blk)(hlt:b<w.heap.size):(sortWorldK enc k w blk off n d os).heap[b]?=w.heap[b]?:=by
  show(((Sort.ahead w n).heap.modify blk _)++os)[b]?=_;rw[cx,if_pos (by simpa[Sort.ahead]using hlt),qk,if_neg (λe=>hb e.symm)];rfl
theorem qG{α:Type}[Inhabited α](enc:α->Value)(off:Nat)(d:Array α)(c:Array Value):(putCells enc off d c).size=c.size:=by simp[putCells]
theorem ff{α:Type}[Inhabited α](enc:α->Value)(off:Nat)(d:Array α)(c:Array Value)(k:Nat)(hk:k<c.size):(putCells enc off d c)[k]?=some (if off<=k/\k<off+d.size then enc d[k-off]! else c[k]):=by
  simp[putCells,hk]
theorem zN{d:D}(h:(d.cells.all D.scal)=true){j:Nat}{c:D}(hc:d.cells[j]?=some c):c.scal=true:=zQT.1 h c (tX hc)
theorem Eu{w:World}{X:Nat->Prop}{d:D}(h1:d.one=false)(hs:(d.cells.all D.scal)=true):DRep w X d (.agg (d.cells.map D.val).toArray):=by
  cases d<;>first|cases h1|skip
  rename_i cs;refine .agg cs _ (by simp[D.cells]) (λc hc=>(Fc (zQT.1 hs c hc)).1) λi c v hc hv=>?_;have hv':(cs.map D.val)[i]?=some v:=by simpa[D.cells]using hv
  rw[qU,hc]at hv';cases hv';exact Fb (zN (d:=.agg cs) hs hc)
theorem Pw.two{α β:Type}{R:α->β->Prop}{a b:α}{x y:β}(h0:R a x)(h1:R b y):Pw R [a,b] [x,y]:=⟨rfl,λi u v hu hv=>by
  match i,hu,hv with
  |0,hu,hv=>simp at hu hv;subst hu hv;exact h0
  |1,hu,hv=>simp at hu hv;subst hu hv;exact h1
  |i+2,hu,hv=>simp at hu⟩
theorem Iu{α:Type}[Inhabited α]{f:α->D}{G:FuncId}{sz:Nat}{cs:List D}{cf:α->α->Int}(hag:∀x,(f x).one=false)(hsc:∀x,((f x).cells.all D.scal)=true)
    (hclo:∀x y,RetD P G ([f x,f y]++cs) (.int .i64 (cf x y))) {w:World} {X:Nat->Prop} {cb:Array Value} (hcb:Pw (DRep w X) cs cb.toList) {b size:Nat} (hX:∀b',X b'->b'≠b/\b'<w.heap.size) (hL:Hb w (dF X)) (hLb:∀x∈zF,x.1≠b):
    CmpLays P G cb (λx=>(f x).cells.map D.val) sz cf b 0 size w:=by
  intro m os dk _ x y;obtain⟨mv,r,hp',hret,hsn⟩:=hclo x y;generalize hW:sortWorldK (λx=>(f x).cells.map D.val) sz w b 0 m dk os=W;have hold:∀b',X b'->W.heap[b']?=w.heap[b']?:=λb' hb'=>by rw[<- hW];exact fc _ _ _ _ _ _ _ _ _ (hX b' hb').1 (hX b' hb').2
  have hWs:w.heap.size<=W.heap.size:=by
    rw[<- hW];show _<=(((Sort.ahead w m).heap.modify b _)++os).size;simp[Sort.ahead]
  have hLW:Hb W (dF X):=λx hx=>by
    obtain⟨⟨t,fz,e⟩,_⟩:=hL x hx;exact⟨⟨t,fz,by rw[<- hW,fc _ _ _ _ _ _ _ _ _ (hLb x hx) (zal5q.1 e).1];exact e⟩,λi h=>by simp[dF]at h⟩
  have hout:Out ⟨P,0,W,0,dF X,mv⟩ [] (dF X) W:=
    { defers := rfl, size := rfl, fr := fun _ => .junk _, hp := fun i B h => by simp at h, lt := fun i b h => by simp [dF] at h, inj := fun i j b _ _ _ _ _ _ h => by simp [dF] at h, Xlt := fun b' hb' => vC (hX b' hb').2 hWs, Xold := fun b h _ => h
      os:=rfl,tape:=rfl,output:=rfl,drawn:=wt _,grown:=wt _,keep:=λ_ _ _=>rfl,own:=λi b h=>by simp[dF]at h,stay:=λi b h=>absurd h (pS i),kle:=cN _,laid:=hLW }
  have hargs:Pw (ARep W (dF X)) (([f x,f y]++cs).map AV.d) (#[Value.agg ((f x).cells.map D.val).toArray,.agg ((f y).cells.map D.val).toArray]++cb).toList:=by
    rw[mU,xu];refine Pw.append (Pw.two (.d _ _ (Eu (hag x) (hsc x))) (.d _ _ (Eu (hag y) (hsc y)))) ⟨by simpa using hcb.1,λi u v hu hv=>?_⟩;simp only[qU,wu]at hu;obtain⟨d,hd,rfl⟩:=hu;exact .d _ _ ((hcb.2 i d v hd hv).mono (λ_ h=>h) hold)
  have hc:=hret.2 W (dF X) _ hout hargs;refine hc.mono ?_;rintro e w' ⟨v,g',rfl,hout',hr⟩;obtain⟨q,os',hw'⟩:=Out.grown' hout';refine⟨?_,q,os',hw'⟩
  have:v=.int .i64 (cf x y):=by
    cases hsn with
    |d _=>cases hr with|d _ _ h=>cases h;rfl
  rw[this]
theorem Kh{α:Type}[Inhabited α]{f:α->D}{F G:FuncId}{sz:Nat}(e:TypeId){c:D}{cs:List D}{cf:α->α->Int}{S:Array α->List α}(mv:Nat->Bool)(xs:List α)
    (hcbF:kD P F=true) (hag:∀x,(f x).one=false) (hsz:∀x,(f x).cells.length=sz) (hsc:∀x,((f x).cells.all D.scal)=true)
    (hfn:sV c=some (G,cs)) (hclo:∀x y,RetD P G ([f x,f y]++cs) (.int .i64 (cf x y)))
    (hlen:xs.length<4611686018427387904) (hS:(S xs.toArray).length=xs.length)
    (hnone:∀(p:Option Addr)(cap:Nat)(fv:Value)(w:World),Calls P F #[.slice p 0 cap,fv] w λe w'=>e=.returned (.tuple #[])/\w'=w)
    (hsort : ∀ (blk off cap : Nat) (cb : Array Value) (d : Array α) (w : World), CmpLays P G cb (fun x => (f x).cells.map D.val) sz cf blk off d.size w -> HoldsK (fun x => (f x).cells.map D.val) sz w blk off d -> blk < w.heap.size -> d.size < 4611686018427387904 ->
      Calls P F #[.slice (some ⟨blk,off,none⟩) d.size cap,.func (.func G) #[] cb] w λe w'=>e=.returned (.tuple #[])/\∃n os,w'=sortWorldK (λx=>(f x).cells.map D.val) sz w blk off n (S d).toArray os):
    Ret P F [.flat e sz (xs.map f)] mv [.msl 0 sz 0 xs.length,.d c] (.tup []) [.flat e sz ((S xs.toArray).map f)]:=by
  refine⟨hcbF,λw g vs hout hargs=>?_⟩
  obtain⟨v0,v1,rfl⟩:∃v0 v1,vs=#[v0,v1]:=by
    have hl:vs.size=2:=by have:=hargs.1;simpa using this.symm
    exact⟨vs[0],vs[1],by apply Array.ext;simp[hl];intro i h1 h2;match i,h2 with|0,_=>rfl|1,_=>rfl⟩
  have h0:=hargs.2 0 _ _ rfl rfl;have h1:=hargs.2 1 _ _ rfl rfl
  cases h1 with
  |d _ _ h1=>
  obtain⟨cb,rfl,hcb⟩:=fh h1 hfn;have hB:=hout.hp 0 _ rfl;generalize hn:xs.length=n at h0
  cases h0 with
  |msl0 _ _ _ ad=>
    have hxs:xs=[]:=rA hn;subst hxs;have hS0:S (#[]:Array α)=[]:=rA hS;refine(hnone ad 0 _ w).mono ?_;rintro e w' ⟨rfl,rfl⟩;refine⟨_,g,rfl,?_,.tup [] #[] rfl λi c v h=>by simp at h⟩;simpa[hS0]using hout
  |msl _ _ _ _ cap b hb hc hpz=>
    rcases hB with⟨_,hn0⟩|⟨b',cells,hp0,hw,hpsi,hl,hh0,hh1,hr⟩
    rw[hb]at hn0;cases hn0;cases hb.symm.trans hp0;subst hn;rw[yT];have hblt:=(hout.lt 0 b hb).1;have hXb:∀b',g.X b'->b'≠b/\b'<w.heap.size:=λb' hX=>⟨λe=>(hout.lt 0 b hb).2.2 (e ▸ hX),hout.Xlt b' hX⟩
    have hflat:∀(d:Array α)(i j:Nat),i<d.size->j<sz->(flatK (λx=>(f x).cells.map D.val) sz d)[i*sz+j]?=((f d[i]!).cells[j]?).map D.val:=by
      intro d i j hi hj;have hlt:i*sz+j<d.size*sz:=by have:=iW sz (show i+1<=d.size from hi);rw[oR]at this;omega
      have h2:=get_flatK (λx=>(f x).cells.map D.val) sz d (i*sz+j) hlt;have hdiv:(i*sz+j)/sz=i:=by rw[yV,Nat.mul_add_div (by omega),Nat.div_eq_of_lt hj,qV]
      have hmod:(i*sz+j)%sz=j:=by rw[yV,Nat.mul_add_mod,Nat.mod_eq_of_lt hj]
      rw[hdiv,hmod]at h2;rw[getElem!_pos _ _ (by simpa using hlt)]at h2;rw[xn (by simpa using hlt),h2];have hjl:j<(f d[i]!).cells.length:=by rw[hsz];exact hj
      rw[getElem!_pos _ _ (by simpa using hjl),lR hjl];simp
    have hH:HoldsK (λx=>(f x).cells.map D.val) sz w b 0 xs.toArray:=by
      intro j hj;have hj':j<xs.length*sz:=by simpa using hj
      have hsz0 : 0 < sz := by rcases cy sz with h0 | h0; · subst h0; simp at hj'
                               · exact h0
      have hi:j/sz<xs.length:=by rw[Nat.div_lt_iff_lt_mul hsz0];exact hj'
      have hm:j%sz<sz:=Nat.mod_lt _ hsz0;have hdec:j/sz*sz+j%sz=j:=by rw[yV];exact Nat.div_add_mod j sz
      have hjl:j%sz<(f xs[j/sz]).cells.length:=by rw[hsz];exact hm
      have hx:(xs.map f)[j/sz]?=some (f xs[j/sz]):=by simp[hi]
      obtain⟨v,hv,hd⟩:=hr (j/sz) _ (j%sz) _ hx (lR hjl);rw[hdec]at hv;have hfl:=hflat xs.toArray (j/sz) (j%sz) (by simpa using hi) hm;rw[hdec]at hfl;have hget:xs.toArray[j/sz]! = xs[j/sz]:=by rw[getElem!_pos _ _ (by simpa using hi)];simp
      rw[hget,lR hjl]at hfl
      have hfl':(flatK (λx=>(f x).cells.map D.val) sz xs.toArray)[j]! = ((f xs[j/sz]).cells[j%sz]).val:=by
        rw[getElem!_pos (flatK (λx=>(f x).cells.map D.val) sz xs.toArray) j hj];rw[xn hj]at hfl;simpa using hfl
      rw[eL];refine⟨?_,by simp[World.frozen?,hw]⟩;rw[cell_of_row w b j cells e (0,0) hw,hv,hfl'];rw[scal_val (zN (hsc _) (lR hjl)) hd];rfl
    have hcl:=Iu (P:=P) (sz:=sz) (size:=xs.toArray.size) hag hsc hclo hcb hXb (λx hx=>⟨(Sim.laidW hout x hx).1,λi h=>by simp[dF]at h⟩) (λx hx e=>(Sim.laidW hout x hx).2 0 (e ▸ hb));have hs:=hsort b 0 cap cb xs.toArray w hcl hH hblt (by simpa using hlen);refine(show Calls P F #[.slice (some ⟨b,0,none⟩) xs.length cap,.func (.func G) #[] cb] w _ from hs).mono ?_;rintro e' w' ⟨rfl,m,os,rfl⟩;refine⟨_,g,rfl,?_,.tup [] #[] rfl λi c v h=>by simp at h⟩;have hbw:(Sort.ahead w m).heap[b]?=some (.cells cells e (0,0)):=hw;have hahead:Out ⟨P,0,w,1,g,mv⟩ [.flat e sz (xs.map f)] g (Sort.ahead w m):=Sim.sameHeap hout rfl rfl rfl rfl (Nat.le_add_right _ _)
    have hwr:(putRowK (λx=>(f x).cells.map D.val) sz (Sort.ahead w m) b 0 (S xs.toArray).toArray).heap[b]?=some (.cells (putCells id 0 (flatK (λx=>(f x).cells.map D.val) sz (S xs.toArray).toArray) cells) e (0,0)):=by
      show((Sort.ahead w m).heap.modify b _)[b]?=_;rw[qk,if_pos rfl,hbw];rfl
    have hoth:∀b',b'≠b->(putRowK (λx=>(f x).cells.map D.val) sz (Sort.ahead w m) b 0 (S xs.toArray).toArray).heap[b']?=(Sort.ahead w m).heap[b']?:=λb' hb'=>by
      show((Sort.ahead w m).heap.modify b _)[b']?=_;rw[qk,if_neg (λe=>hb' e.symm)]
    have hch := Sim.change (i := 0) (b := b) (B0 := .flat e sz (xs.map f)) hahead rfl (fun e => by cases e) hb (w' := putRowK (fun x => (f x).cells.map D.val) sz (Sort.ahead w m) b 0 (S xs.toArray).toArray) (size_putRowK _ _ _ _ _ _) rfl rfl rfl (wt _) hoth
      (B:=.flat e sz ((S xs.toArray).map f)) (.inr ⟨b,_,hb,hwr,?_,?_,λk d hk=>?_,λk d j c hk hc=>?_,λk d j c hk hc=>?_⟩)
    exact Sim.grow hch 0 os;rw[hpsi,qG];simp only[Bo,qG,hS]at hl⊢;exact hl;simp only[qU,wu]at hk;obtain⟨x,_,rfl⟩:=hk;exact hsz x;simp only[qU,wu]at hk;obtain⟨x,_,rfl⟩:=hk;exact(Fc (zN (hsc x) hc)).1;simp only[qU,wu]at hk;obtain⟨x,hx,rfl⟩:=hk;have hk':=(zQQ.1 hx).1;have hj:j<sz:=by rw[<- hsz x];exact(zQQ.1 hc).1
    have hfl:=hflat (S xs.toArray).toArray k j (by simpa using hk') hj;have hget:(S xs.toArray).toArray[k]! = x:=by rw[getElem!_pos _ _ (by simpa using hk')];simpa using(zQQ.1 hx).2
    rw[hget,hc]at hfl;refine⟨c.val,?_,Fb (zN (hsc x) hc)⟩;have hlt:k*sz+j<(flatK (λx=>(f x).cells.map D.val) sz (S xs.toArray).toArray).size:=(zal5q.1 hfl).1
    have hlc:k*sz+j<cells.size:=by
      simp only[size_flatK,pQ,hS]at hlt;simp only[Bo]at hl;omega
    rw[ff id 0 _ cells (k*sz+j) hlc,if_pos ⟨cN _,by simpa using hlt⟩,yU,getElem!_pos (flatK (λx=>(f x).cells.map D.val) sz (S xs.toArray).toArray) (k*sz+j) hlt];rw[xn hlt]at hfl;simpa using hfl
variable {C:Ctx}{st:St}{g:Gh}{a:Act}{w:World}{P:Program}
theorem kB{k:Nat}{ids:List Nat}(h:((List.range k).all λi=>ids[i]? == some i)=true)(i:Nat)(hi:i<k):ids[i]?=some i:=by
  have:=zQT.1 h i (zal81q.2 hi);simpa using this
theorem Sim.upB(h:Sim C st g a w){i j:Nat}{t e sz:Nat}{cs:List AV}(hb:st.hp[i]?=some (.box t cs))(hc:cs[j]?=some (.d .nilsl)):Sim C ⟨st.fr,(st.hp.set i (.box t (cs.set j (.msl st.hp.length sz 0 0))))++[Blk.flat e sz []]⟩ g a w:=by
  have hi:=(zQQ.1 hb).1;have hv:=h.virt e sz
  have h2:Sim C ⟨st.fr,(st.hp++[Blk.flat e sz []]).set i (.box t (cs.set j (.msl st.hp.length sz 0 0)))⟩ g a w:=by
    have hrep:=h.hp i _ hb;obtain⟨b,cells,hp,hw,hps,hl,hr⟩:=hrep;refine{ hv with hp:=λk B hk=>?_,lt:=λk b hk=>by have:=hv.lt k b hk;simpa using this,inj:=λk k' b Bk Bk' h1 h2 d1 d2 p1 p2=>?_,kle:=by simpa using hv.kle };rw[cG]at hk;split at hk;rename_i e1;subst e1;split at hk;cases hk;refine⟨b,cells,hp,hw,hps,by simpa using hl,λq c v hq hv'=>?_⟩;rw[cG]at hq;split at hq;rename_i e2;subst e2;split at hq;cases hq;have:=hr _ _ v hc hv'
    cases this with
    |d _ _ hd=>cases hd with
      |nilsl ad=>exact .msl0 _ _ _ _
    cases hq;exact hr q c v hq hv';cases hk;exact hv.hp k B hk
    have key:∀(k:Nat)(Bk:Blk),((st.hp++[Blk.flat e sz []]).set i (.box t (cs.set j (.msl st.hp.length sz 0 0))))[k]?=some Bk->Bk≠.dead->∃B',(st.hp++[Blk.flat e sz []])[k]?=some B'/\B'≠.dead:=by
      intro k Bk hk hd;rw[cG]at hk;split at hk;rename_i e1;subst e1;exact⟨.box t cs,by rw[eW,if_pos hi];exact hb,λe=>by cases e⟩;exact⟨Bk,hk,hd⟩
    obtain⟨B1,e1,d1'⟩:=key k Bk h1 d1;obtain⟨B2,e2,d2'⟩:=key k' Bk' h2 d2;exact hv.inj k k' b B1 B2 e1 e2 d1' d2' p1 p2
  rwa [List.set_append,if_pos hi]at h2
theorem dJ{ops:Array Oper}{l:List Oper}{K:St->Prop}{fr:Fr}{hp:List Blk}{α:Type}{f:α->D}(i j N e sz:Nat){t:TypeId}{cs:List AV}(hN:Nat.beq hp.length N=true)(hb:hp[i]?=some (.box t cs))(hc:cs[j]?=some (.d .nilsl))
    (h:bO C ops l ⟨fr,(hp.set i (.box t (cs.set j (.msl N sz 0 ([]:List α).length))))++[Blk.flat e sz (([]:List α).map f)]⟩ K):bO C ops l ⟨fr,hp⟩ K:=by
  have e:=dO hN;subst e;exact λg a w hs=>h g a w (Sim.upB (st:=⟨fr,hp⟩) hs hb hc)
theorem k8{mv:Nat->Bool}{e b:Nat}{xs:List Int}(hout:Out ⟨P,0,w,1,g,mv⟩ [.flat e 1 (xs.map (D.int .i64))] g w)(hb:g.phi 0=some b):
    Holds (Value.int .i64) w b 0 xs.toArray/\b<w.heap.size/\∃cells,w.heap[b]?=some (.cells cells e (0,0))/\g.psi 0=cells.size/\xs.length<=cells.size:=by
  have hB:=hout.hp 0 _ rfl;rcases hB with⟨_,hn0⟩|⟨b',cells,hp0,hw,hpsi,hl,hh0,hh1,hr⟩
  rw[hb]at hn0;cases hn0;cases hb.symm.trans hp0;refine⟨λj hj=>?_,(hout.lt 0 b hb).1,cells,hw,hpsi,by simpa using hl⟩;have hj':j<xs.length:=by simpa using hj
  obtain⟨v,hv,hd⟩:=hr j (D.int .i64 (xs[j]'hj')) 0 (D.int .i64 (xs[j]'hj')) (by simp[hj']) rfl;rw[Nat.mul_one,qV]at hv;cases hd;rw[eL];refine⟨?_,by simp[World.frozen?,hw]⟩;rw[cell_of_row w b j cells e (0,0) hw,hv,getElem!_pos xs.toArray j hj];simp
theorem Je{mv:Nat->Bool}{e b:Nat}{xs:List Int}(hout:Out ⟨P,0,w,1,g,mv⟩ [.flat e 1 (xs.map (D.int .i64))] g w)(hb:g.phi 0=some b)(ys zs:List Int)(hlen:(ys++zs).length=xs.length)(m:Nat)(os:Array Obj):
    Out ⟨P,0,w,1,g,mv⟩ [.flat e 1 (ys.map (D.int .i64))] g (Sort.grow (putRow (Value.int .i64) (Sort.ahead w m) b 0 (ys++zs).toArray) os):=by
  obtain⟨_,hblt,cells,hw,hpsi,hcl⟩:=k8 hout hb;have hbw:(Sort.ahead w m).heap[b]?=some (.cells cells e (0,0)):=hw;have hahead:Out ⟨P,0,w,1,g,mv⟩ [.flat e 1 (xs.map (D.int .i64))] g (Sort.ahead w m):=Sim.sameHeap hout rfl rfl rfl rfl (Nat.le_add_right _ _)
  have hwr:(putRow (Value.int .i64) (Sort.ahead w m) b 0 (ys++zs).toArray).heap[b]?=some (.cells (putCells (Value.int .i64) 0 (ys++zs).toArray cells) e (0,0)):=by
    show((Sort.ahead w m).heap.modify b _)[b]?=_;rw[qk,if_pos rfl,hbw];rfl
  have hoth:∀b',b'≠b->(putRow (Value.int .i64) (Sort.ahead w m) b 0 (ys++zs).toArray).heap[b']?=(Sort.ahead w m).heap[b']?:=λb' hb'=>by
    show((Sort.ahead w m).heap.modify b _)[b']?=_;rw[qk,if_neg (λe=>hb' e.symm)]
  have hsz:(putRow (Value.int .i64) (Sort.ahead w m) b 0 (ys++zs).toArray).heap.size=(Sort.ahead w m).heap.size:=by
    show((Sort.ahead w m).heap.modify b _).size=_;simp
  have hch := Sim.change (i := 0) (b := b) (B0 := .flat e 1 (xs.map (D.int .i64))) hahead rfl (fun e => by cases e) hb (w' := putRow (Value.int .i64) (Sort.ahead w m) b 0 (ys ++ zs).toArray) hsz rfl rfl rfl (wt _) hoth
    (B:=.flat e 1 (ys.map (D.int .i64))) (.inr ⟨b,_,hb,hwr,?_,?_,λk d hk=>?_,λk d j c hk hc=>?_,λk d j c hk hc=>?_⟩)
  exact Sim.grow hch 0 os;rw[hpsi,qG];rw[qG];simp only[Bo,qn]at hlen⊢;omega;simp only[qU,wu]at hk;obtain⟨x,_,rfl⟩:=hk;rfl;simp only[qU,wu]at hk;obtain⟨x,_,rfl⟩:=hk
  cases j with
  |zero=>cases hc;rfl
  |succ j=>simp[D.cells]at hc
  simp only[qU,wu]at hk;obtain⟨x,hx,rfl⟩:=hk;have hk':=(zQQ.1 hx).1
  cases j with
  |succ j=>simp[D.cells]at hc
  |zero=>
    cases hc;have hx2:(ys++zs)[k]?=some x:=by rw[eW,if_pos hk'];exact hx
    have hk2:=(zQQ.1 hx2).1;refine⟨.int .i64 x,?_,.int _ _⟩;rw[Nat.mul_one,qV,ff (Value.int .i64) 0 _ cells k (by omega),if_pos ⟨cN _,by simpa using hk2⟩,yU,getElem!_pos (ys++zs).toArray k (by simpa using hk2)];have:=(zQQ.1 hx2).2;simp only[List.getElem_toArray];rw[this]
def Ka(x y:Int):Option Int:=some (if x<y then -1 else if y<x then 1 else 0)
theorem zE(x y:Int):ck Ka x y=decide (x<y):=by
  unfold ck Ka;simp only[rJ];by_cases h:x<y;rw[if_pos h,decide_eq_true h];rfl;rw[if_neg h,decide_eq_false h];split<;>rfl
theorem Cf:SortOk Ka where
  tot x y:=⟨_,rfl⟩
  irrefl x:=by rw[zE];simp
  trans x y z h1 h2:=by rw[zE]at *; simp at *; omega
  ntrans x y z h1 h2:=by rw[zE]at *; simp at *; omega
  anti x y h1 h2:=by rw[zE]at *; simp at *; omega
def kF(l:List Int):List Int:=pP Ka l
theorem E9(l:List Int):(l.mergeSort λx y=>decide (x<=y))=kF l:=by
  have h:=qt Cf l
  have e:(λx y:Int=>!ck Ka y x)=λx y=>decide (x<=y):=by
    funext x y
    rw[zE];by_cases h:y<x;rw[decide_eq_true h,decide_eq_false (by omega)];rfl;rw[decide_eq_false h,decide_eq_true (by omega)];rfl
  rw[e]at h;exact h
theorem fO(l:List Int):(kF l).length=l.length:=iY _
theorem Ki{F:FuncId}(e:TypeId)(mv:Nat->Bool)(xs:List Int)(hcbF:kD P F=true)(hlen:xs.length<4611686018427387904)
    (hnone:∀(p:Option Addr)(cap:Nat)(w:World),Calls P F #[.slice p 0 cap] w λe w'=>e=.returned (.tuple #[])/\w'=w)
    (hsort:∀(blk off cap:Nat)(zs:List Int)(w:World),Holds (Value.int .i64) w blk off zs.toArray->blk<w.heap.size->zs.length<4611686018427387904->
      Calls P F #[.slice (some ⟨blk,off,none⟩) zs.length cap] w λe w'=>e=.returned (.tuple #[])/\∃n os,w'=Sort.grow (putRow (Value.int .i64) (Sort.ahead w n) blk off (zs.mergeSort λx y=>decide (x<=y)).toArray) os):
    Ret P F [.flat e 1 (xs.map (D.int .i64))] mv [.msl 0 1 0 xs.length] (.tup []) [.flat e 1 ((kF xs).map (D.int .i64))]:=by
  refine⟨hcbF,λw g vs hout hargs=>?_⟩
  obtain⟨v0,rfl⟩:∃v0,vs=#[v0]:=by
    have hl:vs.size=1:=by have:=hargs.1;simpa using this.symm
    exact⟨vs[0],by apply Array.ext;simp[hl];intro i h1 h2;match i,h2 with|0,_=>rfl⟩
  have h0:=hargs.2 0 _ _ rfl rfl;generalize hn:xs.length=n at h0
  cases h0 with
  |msl0 _ _ _ ad=>
    have hxs:xs=[]:=rA hn;subst hxs;refine(hnone ad 0 w).mono ?_;rintro e w' ⟨rfl,rfl⟩;exact⟨_,g,rfl,hout,.tup [] #[] rfl λi c v h=>by simp at h⟩
  |msl _ _ _ _ cap b hb hc hpz=>
    subst hn;rw[yT];obtain⟨hH,hblt,_⟩:=k8 hout hb;refine(show Calls P F #[.slice (some ⟨b,0,none⟩) xs.length cap] w _ from hsort b 0 cap xs w hH hblt hlen).mono ?_;rintro e' w' ⟨rfl,m,os,rfl⟩;refine⟨_,g,rfl,?_,.tup [] #[] rfl λi c v h=>by simp at h⟩;have:=Je hout hb (kF xs) [] (by rw[mW,fO]) m os;rw[mW]at this;rw[E9];exact this
theorem zm(xs:List Int):(Lib.compact xs).length<=xs.length:=by
  unfold Lib.compact Lib.compactUpTo;rw[Bo];exact dQ (List.length_filter_le _ _) (by simp)
theorem Do{F:FuncId}(e:TypeId)(mv:Nat->Bool)(xs:List Int)(hcbF:kD P F=true)(hlen:xs.length<=9223372036854775807)
    (hnone:∀(p:Option Addr)(cap:Nat)(w:World),Calls P F #[.slice p 0 cap] w λe w'=>e=.returned (.slice p 0 cap)/\w'=w)
    (hcomp:∀(blk off cap:Nat)(zs:List Int)(w:World),Holds (Value.int .i64) w blk off zs.toArray->zs.length<=9223372036854775807->zs.length<=cap->
      Calls P F #[.slice (some ⟨blk,off,none⟩) zs.length cap] w λe w'=>e=.returned (.slice (some ⟨blk,off,none⟩) (Lib.compact zs).length cap)/\∃q,w'=putRow (Value.int .i64) (Sort.ahead w q) blk off (Lib.compact zs++List.replicate (zs.length-(Lib.compact zs).length) 0).toArray):
    Ret P F [.flat e 1 (xs.map (D.int .i64))] mv [.msl 0 1 0 xs.length] (.msl 0 1 0 (Lib.compact xs).length) [.flat e 1 ((Lib.compact xs).map (D.int .i64))]:=by
  refine⟨hcbF,λw g vs hout hargs=>?_⟩
  obtain⟨v0,rfl⟩:∃v0,vs=#[v0]:=by
    have hl:vs.size=1:=by have:=hargs.1;simpa using this.symm
    exact⟨vs[0],by apply Array.ext;simp[hl];intro i h1 h2;match i,h2 with|0,_=>rfl⟩
  have h0:=hargs.2 0 _ _ rfl rfl;generalize hn:xs.length=n at h0
  cases h0 with
  |msl0 _ _ _ ad=>
    have hxs:xs=[]:=rA hn;subst hxs;refine(hnone ad 0 w).mono ?_;rintro e w' ⟨rfl,rfl⟩;exact⟨_,g,rfl,hout,.msl0 _ _ _ _⟩
  |msl _ _ _ _ cap b hb hc hpz=>
    subst hn;rw[yT];obtain⟨hH,hblt,_⟩:=k8 hout hb;refine(show Calls P F #[.slice (some ⟨b,0,none⟩) xs.length cap] w _ from hcomp b 0 cap xs w hH hlen (by omega)).mono ?_;rintro e' w' ⟨rfl,m,rfl⟩;have hcl:=zm xs;refine⟨_,g,rfl,?_,?_⟩;have := Je hout hb (Lib.compact xs) (List.replicate (xs.length - (Lib.compact xs).length) 0) (by simp; omega) m #[];have hg:∀W:World,Sort.grow W #[]=W:=λW=>by unfold Sort.grow;simp
    rwa [hg]at this
    have := ARep.msl (w := putRow (Value.int .i64) (Sort.ahead w m) b 0 (Lib.compact xs ++ List.replicate (xs.length - (Lib.compact xs).length) 0).toArray) (g := g) 0 1 0 (Lib.compact xs).length cap b hb (by omega) hpz;simpa using this
def toHole(hs:List Nat):AV->AV
  |.msl i s o l=>.msl (hs.getD i 0) s o l
  |.mptr i s x o=>.mptr (hs.getD i 0) s x o
  |.mmap i=>.mmap (hs.getD i 0)
  |.yld i=>.yld (hs.getD i 0)
  |.mmapN i n=>.mmapN (hs.getD i 0) n
  |v=>v
theorem kK{T:Tab}{o:Oper}{ev:Operand->AV}{hp:List Blk}{t:TypeId}{x y:Operand}{id off s:Nat}{bb:Bool}{bt:TypeId}{cs cs':List AV}{v:AV}(hT:TabOk C.P T)(ho:o.op=.store t x y)(hd:o.dst=none)(hl:lk T.lay t=some (bb,s))(hx:ev x=.mptr id 0 0 off)(hy:ev y=v)(hf:v.flat=true)(hs:Nat.beq v.cells.length s=true)
    (hb:hp[id]?=some (.box bt cs)) (hc:Nat.ble (off+s) cs.length=true) (hv:spl cs off v.cells=cs'):DOk C o ev hp .junk [(id,.box bt cs')]:=
  E0 ho hd (hT.lay hl) hx hy hf (dO hs) hb (dK hc) hv
end Go.TL
set_option linter.unusedVariables false
set_option linter.unusedSimpArgs false
namespace Go.TL
open Go.Sort Go.Proofs
variable {C:Ctx}
section rd
variable {T:Tab}{o:Oper}{ev:Operand->AV}{hp:List Blk}{α:Type}{f:α->D}{xs ys:List α}
end rd
variable {P:Program}{C:Ctx}{o:Oper}{ev:Operand->AV}{hp:List Blk}{t t':TypeId}{x y:Operand}
theorem I5{a b:ByteArray}(ho:o.op=.binOp .add t x y t')(hx:ev x=.d (.str a))(hy:ev y=.d (.str b))(hs:a.size+b.size<=9223372036854775807):RdOk C o ev hp (.d (.str (a++b))):=
  RdOk.mk λst hhp hag g a' w hs'=>by
    have h:=hs'.ev x;rw[hag x (by simp[ho,Op.operands]),hx]at h;have hi:=hs'.ev y;rw[hag y (by simp[ho,Op.operands]),hy]at hi;refine⟨.string (a++b),?_,.d _ _ (.str _)⟩
    have e:¬((a.size+b.size:Nat):Int) > IntKind.i64.max:=by
      have:IntKind.i64.max=9223372036854775807:=by decide
      omega
    simp only[execOp,ho,str_inv h,str_inv hi];simp[eqGuard,binOp,Op.stringOp,e];omega
def arK(op:BinOp)(k:IntKind)(m n:Int):Option Int:=match op with
  |.add=>some (k.wrap (m+n))
  |.sub=>some (k.wrap (m-n))
  |.mul=>some (k.wrap (m*n))
  |.quo=>if n=0 then none else some (k.wrap (m.tdiv n))
  |.rem=>if n=0 then none else some (m.tmod n)
  |.and=>some (k.wrap (BitVec.ofInt k.bits m &&& BitVec.ofInt k.bits n).toNat)
  |.or=>some (k.wrap (BitVec.ofInt k.bits m ||| BitVec.ofInt k.bits n).toNat)
  |.xor=>some (k.wrap (BitVec.ofInt k.bits m ^^^ BitVec.ofInt k.bits n).toNat)
  |_=>none
theorem x_arK{op:BinOp}{k:IntKind}{m n r:Int}(ho:o.op=.binOp op t x y t')(hx:ev x=.d (.int k m))(hy:ev y=.d (.int k n))(hr:arK op k m n=some r):RdOk C o ev hp (.d (.int k r)):=
  RdOk.mk λst hhp hag g a w hs=>by
    have h:=hs.ev x;rw[hag x (by simp[ho,Op.operands]),hx]at h;have hi:=hs.ev y;rw[hag y (by simp[ho,Op.operands]),hy]at hi;refine⟨.int k r,?_,.d _ _ (.int k r)⟩;simp only[execOp,ho,int_inv h,int_inv hi]
    cases op<;>simp only[arK]at hr<;>first
      |(cases hr;simp[eqGuard,binOp,Op.intArith,Op.intBits];done)
      | (split at hr
         · cases hr
         rename_i hn;cases hr;simp[eqGuard,binOp,Op.intDiv,hn])
      |cases hr
def shK(op:BinOp)(k:IntKind)(m n:Int):Option Int:=match op with
  |.shl=>some (k.wrap (m*2^(min n.toNat k.bits)))
  |.shr=>some (m.fdiv (2^(min n.toNat k.bits)))
  |_=>none
theorem I4{op:BinOp}{k k':IntKind}{m n r:Int}(ho:o.op=.binOp op t x y t')(hx:ev x=.d (.int k m))(hy:ev y=.d (.int k' n))(hr:shK op k m n=some r)(h0:0<=n):RdOk C o ev hp (.d (.int k r)):=
  RdOk.mk λst hhp hag g a w hs=>by
    have h:=hs.ev x;rw[hag x (by simp[ho,Op.operands]),hx]at h;have hi:=hs.ev y;rw[hag y (by simp[ho,Op.operands]),hy]at hi;refine⟨.int k r,?_,.d _ _ (.int k r)⟩;have hn:¬n<0:=by omega
    simp only[execOp,ho,int_inv h,int_inv hi];cases op<;>simp only[shK]at hr<;>cases hr<;>simp[eqGuard,binOp,Op.shift,hn]
theorem oU{s:TypeId}{k k':IntKind}{n:Int}{us:TypeDesc}(ho:o.op=.convert s t x)(hs:C.P.underlying s=some us)(ht:C.P.underlying t=some (.int k'))(hx:ev x=.d (.int k n)):RdOk C o ev hp (.d (.int k' (k'.wrap n))):=H2 k k' n us ho hs ht hx
theorem x_asY{xt t':TypeId}{d:D}(ho:o.op=.typeAssert x xt t true)(hc:Gv C.P t=true)(hx:ev x=.d (.iface t' d))(h:t'=t):RdOk C o ev hp (.tup [.d d,.d (.bool true)]):=by
  subst h;exact ek ho hc hx
theorem fy{ids:List Nat}{n m i:Nat}(h:i<ids.length):back ids n i=back ids m i:=by
  unfold back;rw[lR h]
theorem xP{ids:List Nat}{i j:Nat}(h:aR ids i=some j):j<ids.length:=(zQQ.1 (cE ids i j h)).1
mutual
theorem fg(ids:List Nat)(n m:Nat):∀v:AV,AV.mapRef (fwd ids n) (AV.mapRef (toName (aR ids)) v)=AV.mapRef (fwd ids m) (AV.mapRef (toName (aR ids)) v)
  |.junk=>rfl
  |.und=>rfl
  |.d x=>rfl
  |.msl i s o l=>by
    simp only[AV.mapRef,toName]
    cases h:aR ids i with
    |none=>rfl
    |some j=>simp only[AV.mapRef,fwd,fy (n:=n) (m:=m) (xP h)]
  |.mptr i s x o=>by
    simp only[AV.mapRef,toName]
    cases h:aR ids i with
    |none=>rfl
    |some j=>simp only[AV.mapRef,fwd,fy (n:=n) (m:=m) (xP h)]
  |.mmap i=>by
    simp only[AV.mapRef,toName]
    cases h:aR ids i with
    |none=>rfl
    |some j=>simp only[AV.mapRef,fwd,fy (n:=n) (m:=m) (xP h)]
  |.yld i=>by
    simp only[AV.mapRef,toName]
    cases h:aR ids i with
    |none=>rfl
    |some j=>simp only[AV.mapRef,fwd,fy (n:=n) (m:=m) (xP h)]
  |.mmapN i q=>by
    simp only[AV.mapRef,toName]
    cases h:aR ids i with
    |none=>rfl
    |some j=>simp only[AV.mapRef,fwd,fy (n:=n) (m:=m) (xP h)]
  |.agg cs=>by simp only[AV.mapRef,uO ids n m cs]
  |.tup cs=>by simp only[AV.mapRef,uO ids n m cs]
  |.fnc f cs=>by simp only[AV.mapRef,uO ids n m cs]
  |.ifc t c=>by simp only[AV.mapRef,fg ids n m c]
theorem uO(ids:List Nat)(n m:Nat):∀cs:List AV,AV.mapRefs (fwd ids n) (AV.mapRefs (toName (aR ids)) cs)=AV.mapRefs (fwd ids m) (AV.mapRefs (toName (aR ids)) cs)
  |[]=>rfl
  |c::r=>by simp only[AV.mapRefs,fg ids n m c,uO ids n m r]
end
theorem fwd_fr(ids:List Nat)(n m:Nat):∀fr:Fr,Fr.mapRef (fwd ids n) (Fr.mapRef (toName (aR ids)) fr)=Fr.mapRef (fwd ids m) (Fr.mapRef (toName (aR ids)) fr)
  |[]=>rfl
  |(t,v)::r=>by simp only[Fr.mapRef,fg ids n m v,fwd_fr ids n m r]
theorem fwd_blk(ids:List Nat)(n m:Nat)(B:Blk):Blk.mapRef (fwd ids n) (Blk.mapRef (toName (aR ids)) B)=Blk.mapRef (fwd ids m) (Blk.mapRef (toName (aR ids)) B):=by
  cases B with
  |box ty cs=>simp only[Blk.mapRef,uO ids n m cs]
  |lp=>simp only[Blk.mapRef,fwd_fr ids n m]
  |mapv kt vt es=>simp only[Blk.mapRef,List.map_map,Function.comp_def,fg ids n m]
  |_=>rfl
def Eo(ids:List Nat)(hp:List Blk):Prop:=∀j∈ids,((hp.getD j .dead).mapRef (toName (aR ids))).mapRef (fwd ids 0)=hp.getD j .dead
theorem Gf{ids:List Nat}{hp st:List Blk}(hnd:ids.Nodup)(hal:∀j∈ids,cF hp j=true)(hle:HpLe hp st)(hcl:Eo ids hp):nA ids st (mO ids st)=st:=by
  apply hU;intro j;have hlen:(mO ids st).length=ids.length:=by simp[mO]
  by_cases hj:j<st.length;unfold nA;rw[List.getElem?_append_left (by simpa using hj),qU,gn];rw[lR hj];simp only[gO,eL]
  cases hp':aR ids j with
  |none=>rfl
  |some i=>
    simp only;have hi:=cE ids j i hp';have hmem:j∈ids:=tX hi;obtain⟨B,hB,hd⟩:=gN (hal j hmem);have hB':=hle j B hB hd
    have e:(mO ids st).getD i .dead=B.mapRef (toName (aR ids)):=by
      unfold mO;rw[Lb,qU,hi];simp[Lb,hB']
    have hc:=hcl j hmem;rw[Lb,hB]at hc;rw[e,fwd_blk ids st.length 0];have:st[j]=B:=by rw[lR hj]at hB';exact aS hB'
    rw[this];exact congrArg some hc
  rw[iS (by rw[tU,hlen];omega),iS (by omega)]
theorem hand_le{ids:List Nat}{hp st:List Blk}(hal:∀j∈ids,cF hp j=true)(hle:HpLe hp st):mO ids st=mO ids hp:=by
  unfold mO;apply C6;intro j hj;obtain⟨B,hB,hd⟩:=gN (hal j hj);rw[Lb,Lb,hB,hle j B hB hd]
theorem rd_callH{f:Operand}{xs:Array Operand}{ts:Array TypeId}{F:FuncId}{c:AV}{cs:List AV}(ids:List Nat){args:List AV}{r:AV}{hh:List Blk}(hrr:r.isRef=false/\AV.mapRef (fwd ids 0) r=r/\(∀n,AV.mapRef (fwd ids n) r=AV.mapRef (fwd ids 0) r))(ho:o.op=.call { callee:=.value f,args:=xs,argTypes:=ts })
    (hf:ev f=c) (hc:uQ c=some (F,cs)) (hnd:ids.Nodup) (hal:(ids.all λj=>cF hp j)=true) (hcl:Eo ids hp) (hx:((xs.toList.map ev)++cs).map (AV.mapRef (toName (aR ids)))=args) (hhd:mO ids hp=hh) (hret:Ret C.P F hh (λ_=>false) args r hh):RdOk C o ev hp r:=by
  intro st hhp hag g a w hs Q K' hK;have hfv:=hs.ev f;rw[hag f (by simp[ho,Op.operands,Call.operands]),hf]at hfv;obtain⟨vs,hv,hvs⟩:=fq hfv hc;have hal':∀j∈ids,cF hp j=true:=λj hj=>zQT.1 hal j hj
  have hals:∀j∈ids,cF st.hp j=true:=λj hj=>by
    obtain⟨B,hB,hd⟩:=gN (hal' j hj);have h1:=hal' j hj;unfold cF at h1⊢;rw[Lb,hB]at h1;rw[Lb,hhp j B hB hd];exact h1
  have he:=hand_le (st:=st.hp) hal' hhp
  have hf':∀i j,aR ids i=some j->(g.canon ids).phi j=g.phi i/\(g.canon ids).psi j=g.psi i:=by
    intro i j hij;have:=cE ids i j hij;simp[Gh.canon,this]
  have hargs:Pw (ARep w (g.canon ids)) args (xs.map a.eval++vs).toList:=by
    rw[<- hx,xu,mU];refine Pw.append ⟨by simp,λi x v hxi hvi=>?_⟩ ⟨by simpa using hvs.1,λi x v hxi hvi=>?_⟩;simp only[List.map_map,qU,wu]at hxi;simp only[sD,qU,wu]at hvi;obtain⟨y,hy,rfl⟩:=hxi;obtain⟨z,hz,rfl⟩:=hvi;rw[hy]at hz;cases hz;have hy':st.fr.ev y=ev y:=hag y (by simp only[ho,Op.operands,Call.operands];exact zal9q.2 (.inr (zal10q.1 (tX hy))));have:=ARep.mapRef (w:=w) (g:=g) (g':=g.canon ids) (λd v hd=>hd) (ARep.toName hf' λ_ hb=>hb) (hs.ev y);rw[hy']at this;exact this;simp only[qU,wu]at hxi;obtain⟨d,hd',rfl⟩:=hxi;exact ARep.mapRef (w:=w) (g:=g) (g':=g.canon ids) (λd v hd=>hd) (ARep.toName hf' λ_ hb=>hb) (hvs.2 i d v hd' hvi)
  simp only[Oper.wp,eH ho hv hret.1,Oper.upon_enter];have hh':mO ids st.hp=hh:=he.trans hhd;have hret2:=hret;rw[<- hh']at hret2;refine(hret2.2 w (g.canon ids) _ (hs.handed hnd) hargs).mono ?_;rintro e w' ⟨v,g',rfl,hout,hr⟩;have hb:=hs.back hnd hals hout;rw[Gf hnd hal' hhp hcl]at hb;refine hK v w' _ hb ?_;have hlt:∀j∈ids,j<st.hp.length:=λj hj=>by obtain⟨B,hB,_⟩:=gN (hals j hj);exact(zQQ.1 hB).1
  have:=ARep.mapRef (w:=w') (g:=g') (g':=g.back ids st.hp.length w.heap.size g') (F:=fwd ids st.hp.length) (λd v hd=>hd.mono (λb hb=>by
    by_cases hlt':b<w.heap.size;exact .inl (hout.Xold b hb hlt')
    exact .inr ⟨by omega,hb⟩) λ_ _=>rfl) (λx v hx hr=>hx.fwd hnd hlt hr) hr
  rw[hrr.2.2,hrr.2.1]at this;exact this
theorem Iv{ids:List Nat}{hp:List Blk}(h:(ids.map λj=>((hp.getD j .dead).mapRef (toName (aR ids))).mapRef (fwd ids 0))=ids.map λj=>hp.getD j .dead):Eo ids hp:=λj hj=>List.map_inj_left.1 h j hj
theorem x_neg{k:IntKind}{n:Int}(ho:o.op=.unOp .neg t x)(hx:ev x=.d (.int k n)):RdOk C o ev hp (.d (.int k (k.wrap (0-n)))):=
  RdOk.mk λst hhp hag g a w hs=>by
    have h:=hs.ev x;rw[hag x (by simp[ho,Op.operands]),hx]at h;exact⟨.int k (k.wrap (0-n)),by simp only[execOp,ho,int_inv h];simp[Op.unary,Op.intArith],.d _ _ (.int _ _)⟩
theorem xx{α:Type}{f:α->D}{xs:List α}{T:Tab}{s id sz idx off bt:Nat}{b:Bool}{z z':α}{v:D}(hT:TabOk C.P T)(ho:o.op=.store t x y)(hd:o.dst=none)(hl:lk T.lay t=some (b,s))(ha:ev x=.mptr id sz idx off)(hy:ev y=.d v)(hs:Nat.beq v.cells.length s=true)(hb:hp[id]?=some (.flat bt sz (xs.map f)))(hx:xs[idx]?=some z)(hone:((!(f z).one)||v.one)=true)(hle:Nat.ble (off+s) (f z).cells.length=true)(hu:(f z).upd off v=f z'):DOk C o ev hp .junk [(id,.flat bt sz ((xs.set idx z').map f))]:=by
  rw[sC];refine De ho hd (hT.lay hl) ha hy (dO hs) hb (Ir hx) ?_ (dK hle) hu;simp only[mX,rB]at hone;exact hone
theorem d_tailq{ops:Array Oper}{K:St->Prop}{l:List Oper}{fr:Fr}{hp:List Blk}{acc:List Rec}{o oq:Oper}(q dq:Nat)(h:bO C ops (o::l) ⟨fr,hp⟩ K)(h2:bO C ops (o::oq::l) ⟨(dq,.junk)::fr,hp⟩ K)(hq:ops.toList[q]?=some oq)(hdq:(acc.map Rec.d)[q]?=some dq)(hws:(acc.map pA)[q]?.map (·.2)=some [])(hE:fi q ops.toList acc.length (acc.map Rec.d) (acc.map pA)=true):TDr C ops K (o::l) fr hp acc:=
  .tailq q o oq l fr hp acc dq hE hq hdq hws h h2
end Go.TL
set_option linter.unusedVariables false
set_option linter.unusedSimpArgs false
set_option linter.unusedSectionVars false
namespace Go.TL
open Go.Sort Go.Proofs
variable {P:Program}{C:Ctx}{st:St}{g:Gh}{a:Act}{w:World}
def uL(ks:List TypeDesc)(k:D):Prop:=∃cs L,k=.agg cs/\pE cs=some L/\lJ ks L
def sN:D->Value
  |.agg cs=>.agg (((pE cs).getD []).map gM).toArray
  |_=>undef
theorem zG{cs:List D}{L:List Lit}(h:pE cs=some L):sN (.agg cs)=.agg (L.map gM).toArray:=by
  show Value.agg (((pE cs).getD []).map gM).toArray=_;rw[h];rfl
theorem litD_inj{c d:D}{x:Lit}(h:F5 c=some x)(h':F5 d=some x):c=d:=by
  have e:F5 c=F5 d:=h.trans h'.symm;have n:F5 c≠none:=by rw[h];simp
  clear h h'
  cases c<;>first
    |exact absurd rfl n
    |(cases d<;>simp only[F5,mE,reduceCtorEq,Lit.bool.injEq,Lit.int.injEq,Lit.string.injEq]at e)
  rw[e];rw[e.1,e.2]
  congr 1
  exact ByteArray.ext (Array.ext' e)
theorem Cj:∀{cs ds:List D}{L:List Lit},pE cs=some L->pE ds=some L->cs=ds
  |[],[],L,h,h'=>rfl
  |[],d::ds,L,h,h'=>by
    cases h;simp only[pE]at h';split at h'<;>cases h'
  |c::cs,[],L,h,h'=>by
    cases h';simp only[pE]at h;split at h<;>cases h
  |c::cs,d::ds,L,h,h'=>by
    simp only[pE]at h h';split at h;rename_i x xs hx hxs;cases h;split at h';rename_i y ys hy hys;simp only[mE,cR]at h';obtain⟨rfl,rfl⟩:=h';rw[litD_inj hx hy,Cj hxs hys];cases h';cases h
theorem Ih{k:TypeDesc}{x y:Lit}(hx:F4 k x)(hy:F4 k y)(h:gM x=gM y):x=y:=by
  cases k<;>cases x<;>simp only[F4]at hx<;>cases y<;>simp only[F4]at hy<;>simp only[gM]at h;cases h;rfl;simp only[Value.int.injEq]at h;rw[h.1,h.2];rename_i bs cs;simp only[Value.string.injEq,ByteArray.mk.injEq]at h;have:=congrArg Array.toList h;simp at this;rw[this]
theorem F3:∀{ks:List TypeDesc}{L M:List Lit},lJ ks L->lJ ks M->L.map gM=M.map gM->L=M
  |[],[],[],_,_,_=>rfl
  |k::ks,x::xs,y::ys,h,h',e=>by
    simp only[fX,cR]at e;rw[Ih h.1 h'.1 e.1,F3 h.2 h'.2 e.2]
  |[],_::_,_,h,_,_=>h.elim
  |[],[],_::_,_,h,_=>h.elim
  |_::_,[],_,h,_,_=>h.elim
  |_::_,_::_,[],_,h,_=>h.elim
theorem yB{ks:List TypeDesc}{k:D}(hk:uL ks k){X:Nat->Prop}{v:Value}(h:DRep w X k v):v=sN k:=by
  obtain⟨cs,L,rfl,hl,ho⟩:=hk
  cases h with
  |agg _ vs hlen _ h=>
    have:=kq cs L vs.toList hl ⟨by simpa using hlen,λi x y hx hy=>h i x y hx (by simpa using hy)⟩;rw[zG hl,<- this]
theorem F9{ks:List TypeDesc}{k k':D}(hk:uL ks k)(hk':uL ks k')(h:sN k=sN k'):k=k':=by
  obtain⟨cs,L,rfl,hl,ho⟩:=hk;obtain⟨ds,M,rfl,hm,hp⟩:=hk';rw[zG hl,zG hm]at h;simp only[Value.agg.injEq]at h;have e:L.map gM=M.map gM:=by have:=congrArg Array.toList h;simpa using this
  have:=F3 ho hp e;subst this;rw[Cj hl hm]
structure SKey (P:Program) (kt:TypeId) (ks:List TypeDesc):Prop where
  law:WideMaps.KeyLaw P kt
  of:∀k,uL ks k->∃l,keyOf P kt (sN k)=some l
theorem sKey{kt:TypeId}{ks:List TypeDesc}(m:Nat)(hm:m+1<=10000)(hk:(P.keyTypeAt m kt&&P.tiled m kt&&P.keyType kt&&(match P.underlying kt with|some (.struct _)=>true|_=>false)&&ks.length == P.cellsOf kt)=true)(hks:uK P (P.types.size+1) kt=some ks):SKey P kt ks:=by
  simp only[J2,beq_iff_eq]at hk;obtain⟨⟨⟨⟨h1,h2⟩,h3⟩,h4⟩,h5⟩:=hk;refine⟨deep_law hm h1 h2 (by split at h4<;>simp_all),λk hk=>?_⟩;obtain⟨cs,L,rfl,hl,ho⟩:=hk;have hlen:=qJ ho;have hv:=zG hl
  have hf:Value.formed P kt (.agg (L.map gM).toArray)=true:=by
    split at h4;rename_i hu;simp[Value.formed,hu];omega;cases h4
  have hkl:=vU (P.types.size+1) kt ks L hks ho;rw[hv];unfold keyOf;split at h4;rename_i hu;rw[hu];dsimp only;rw[h3,hf];refine⟨.string (keyBytes L),?_⟩;simp[Value.cells,hkl];cases h4
theorem Kr{α:Type}{l:List α}(hn:l.Nodup){i j:Nat}{x:α}(hi:l[i]?=some x)(hj:l[j]?=some x):i=j:=by
  obtain⟨h1,h1'⟩:=zQQ.1 hi;obtain⟨h2,h2'⟩:=zQQ.1 hj;exact(List.getElem_inj hn).1 (h1'.trans h2'.symm)
section find
variable {kt:TypeId}{ks:List TypeDesc}{k:D}{es:List (D×D)}{ents:Array MapEntry}
theorem Ct(S:SKey P kt ks){X:Nat->Prop}(hE:rU w X es ents)(hks:∀e∈es,uL ks e.1):∀x∈ents.toList,∃l,keyOf P kt x.key=some l:=by
  intro x hx;obtain⟨i,hi⟩:=iL hx;have hi':ents[i]?=some x:=by simpa using hi
  have hlt:i<es.length:=by rw[<- hE.1];exact(zal5q.1 hi').1
  have hk:=hks es[i] (fM hlt);rw[yB hk (hE.2 i es[i] x (by simp[hlt]) hi').1];exact S.of _ hk
theorem Gn(S:SKey P kt ks){X:Nat->Prop}(hE:rU w X es ents)(hks:∀e∈es,uL ks e.1)(hk:uL ks k)(hne:∀e∈es,e.1≠k):(Instr.findKey kt (sN k) ents.toList).run P w=.ok none w:=by
  obtain⟨l,hl⟩:=S.of k hk;rcases S.law.find w hl ents.toList (Ct S hE hks)with⟨h1,_⟩|⟨j,e,_,h2,h3⟩
  exact h1;exfalso;have hj:ents[j]?=some e:=by simpa using h2
  have hlt:j<es.length:=by rw[<- hE.1];exact(zal5q.1 hj).1
  have hmem:=fM hlt;have:=yB (hks es[j] hmem) (hE.2 j es[j] e (by simp[hlt]) hj).1;exact hne _ hmem (F9 (hks _ hmem) hk (by rw[<- this,h3]))
theorem Cs(S:SKey P kt ks){X:Nat->Prop}(hE:rU w X es ents)(hks:∀e∈es,uL ks e.1)(hnd:(es.map (·.1)).Nodup){j:Nat}{v:D}(hj:es[j]?=some (k,v)):∃e,ents[j]?=some e/\e.key=sN k/\DRep w X v e.val/\(Instr.findKey kt (sN k) ents.toList).run P w=.ok (some (j,e.val)) w:=by
  have hjl:=(zQQ.1 hj).1;have hk:uL ks k:=hks (k,v) (tX hj);have hjs:j<ents.size:=by rw[hE.1];exact hjl
  have he:ents[j]?=some ents[j]:=by simp[hjs]
  have hr:=hE.2 j (k,v) ents[j] hj he;have hkey:=yB hk hr.1;obtain⟨l,hl⟩:=S.of k hk;rcases S.law.find w hl ents.toList (Ct S hE hks)with⟨_,h2⟩|⟨j',e',h1,h2,h3⟩
  exact absurd hkey (h2 ents[j] (by simp));have hj' : ents[j']? = some e' := by simpa using h2
  have hlt:j'<es.length:=by rw[<- hE.1];exact(zal5q.1 hj').1
  have hmem:=fM hlt;have h4:=yB (hks es[j'] hmem) (hE.2 j' es[j'] e' (by simp[hlt]) hj').1;have h5:es[j'].1=k:=F9 (hks _ hmem) hk (by rw[<- h4,h3]);have h6:j'=j:=Kr (x:=k) hnd (by simp[hlt,h5]) (by simp[hj]);subst h6;rw[he]at hj';cases hj';exact⟨_,he,hkey,hr.2,by simpa using h1⟩
end find
section look
variable {o:Oper}{ev:Operand->AV}{hp:List Blk}{x y:Operand}{t kt et kt' et':TypeId}{d:TypeDesc}{id:Nat}{es:List (D×D)}{k v zd:D}{z:Value}{ks:List TypeDesc}
theorem vS(hs:Sim C st g a w)(hx:st.fr.ev x=.mmap id)(hb:st.hp[id]?=some (.map kt' et' es))(hy:st.fr.ev y=.d k)(hk:uL ks k):
    ∃b ents clock,g.phi id=some b/\a.eval x=.map (some b)/\w.heap[b]?=some (.map ents clock)/\rU w g.X es ents/\a.eval y=sN k:=by
  have h1:=hs.ev x;rw[hx]at h1;obtain⟨b,hp,he⟩:=er h1;rcases hs.hp id _ hb with⟨_,hp'⟩|⟨b',ents,clock,hp',hw,hsz,hr⟩<;>cases hp.symm.trans hp'
  have h2:=hs.ev y;rw[hy]at h2;have h3:DRep w g.X k (a.eval y):=by cases h2 with|d _ _ h=>exact h
  exact⟨b,ents,clock,hp,he,hw,⟨hsz,hr⟩,yB hk h3⟩
theorem Ds{j:Nat}(S:SKey C.P kt ks)(ho:o.op=.lookup t x y true)(hl:uT C.P t=some (kt,d,et))(hx:ev x=.mmap id)(hb:hp[id]?=some (.map kt' et' es))(hy:ev y=.d k)(hks:∀e∈es,uL ks e.1)(hnd:(es.map (·.1)).Nodup)(hj:es[j]?=some (k,v)):RdOk C o ev hp (.tup [.d v,.d (.bool true)]):=
  RdOk.mk λst hhp hag g a w hs=>by
    have hk:uL ks k:=hks (k,v) (tX hj);obtain⟨b,ents,clock,hp',hex,hw,hE,hey⟩:=vS hs (by rw[hag x (by simp[ho,Op.operands]),hx]) (hhp id _ hb λe=>by cases e) (by rw[hag y (by simp[ho,Op.operands]),hy]) hk;obtain⟨e,_,_,hv,hf⟩:=Cs S hE hks hnd hj;obtain⟨hu,hd⟩:=jR hl;obtain⟨l,hkl⟩:=S.of k hk;refine⟨.tuple #[e.val,.bool true],?_,.tup _ _ rfl λi c v hc hv'=>?_⟩;simp only[execOp,ho,hex,hey];simp[Instr.lookup,run_underlying hu,MapKept.run_getObj_map hw,S.law.check w _ hkl,hf,Result.andThen]
    match i,hc,hv' with
    |0,hc,hv'=>simp at hc hv';subst hc hv';exact .d _ _ hv
    |1,hc,hv'=>simp at hc hv';subst hc hv';exact .d _ _ (.bool true)
    |i+2,hc,_=>simp at hc
theorem Fo(S:SKey C.P kt ks)(ho:o.op=.lookup t x y true)(hl:uT C.P t=some (kt,d,et))(hz:(C.P.info? et).bind (·.zero)=some z)(hzd:dV z=.d zd)(hx:ev x=.mmap id)(hb:hp[id]?=some (.map kt' et' es))(hy:ev y=.d k)(hk:uL ks k)(hks:∀e∈es,uL ks e.1)(hne:∀e∈es,e.1≠k):RdOk C o ev hp (.tup [.d zd,.d (.bool false)]):=
  RdOk.mk λst hhp hag g a w hs=>by
    obtain⟨b,ents,clock,hp',hex,hw,hE,hey⟩:=vS hs (by rw[hag x (by simp[ho,Op.operands]),hx]) (hhp id _ hb λe=>by cases e) (by rw[hag y (by simp[ho,Op.operands]),hy]) hk;have hf:=Gn S hE hks hk hne;obtain⟨hu,hd⟩:=jR hl;obtain⟨l,hkl⟩:=S.of k hk;refine⟨.tuple #[z,.bool false],?_,.tup _ _ rfl λi c v hc hv'=>?_⟩;simp only[execOp,ho,hex,hey];simp[Instr.lookup,run_underlying hu,MapKept.run_getObj_map hw,S.law.check w _ hkl,hf,qH hz,Result.andThen]
    match i,hc,hv' with
    |0,hc,hv'=>simp at hc hv';subst hc hv';rw[<- hzd];exact jF w g _
    |1,hc,hv'=>simp at hc hv';subst hc hv';exact .d _ _ (.bool false)
    |i+2,hc,_=>simp at hc
end look
section upd
variable {o:Oper}{K:St->Prop}{x y u:Operand}{t kt et kt' et':TypeId}{d:TypeDesc}{id:Nat}{es:List (D×D)}{k v:D}{ks:List TypeDesc}
theorem q9(S:SKey C.P kt ks)(ho:o.op=.mapUpdate t x y u)(hd:o.dst=none)(hl:uT C.P t=some (kt,d,et))(hx:st.fr.ev x=.mmap id)(hb:st.hp[id]?=some (.map kt' et' es))(hy:st.fr.ev y=.d k)(hu:st.fr.ev u=.d v)(hk:uL ks k)(hks:∀e∈es,uL ks e.1)(hne:∀e∈es,e.1≠k)
    (hK:K ⟨st.fr,st.hp.set id (.map kt' et' (es++[(k,v)]))⟩):OpOk C o st K:=
  OpOk.skip λg a w hs=>by
    obtain⟨b,ents,clock,hp,hex,hw,hE,hey⟩:=vS hs hx hb hy hk;have hf:=Gn S hE hks hk hne;obtain⟨hu',hd'⟩:=jR hl;obtain⟨l,hkl⟩:=S.of k hk;have hv:=hs.ev u;rw[hu]at hv;have hv':DRep w g.X v (a.eval u):=by cases hv with|d _ _ h=>exact h
    have hkd:=hs.ev y;rw[hy,hey]at hkd;have hkd':DRep w g.X k (sN k):=by cases hkd with|d _ _ h=>exact h
    refine⟨{ w with heap:=w.heap.setIfInBounds b (.map (ents.push { key:=sN k,val:=a.eval u,born:=clock }) (clock+1)) },?_,_,g,hK,?_⟩;simp only[execOp,ho,hex,hey];simp[Instr.mapUpdate,run_underlying hu',MapKept.run_getObj_map hw,S.law.check w _ hkl,hf,MapKept.run_setObj_map _ hw,Result.andThen];rw[hd];refine qA hs hp hb hw ⟨by simp[hE.1],λj e m he hm=>?_⟩;rw[eW]at he;rw[Array.getElem?_push]at hm;split at he;rename_i hlt;rw[if_neg (by rw[hE.1];omega)]at hm;exact hE.2 j e m he hm;rename_i hge
    have hj:j=es.length:=by
      rcases dB (j-es.length) 1 with h1|h1
      omega;rw[iS (by simpa using h1)]at he;cases he
    subst hj;rw[if_pos hE.1.symm]at hm;simp at he hm;subst he hm;exact⟨hkd',hv'⟩
theorem yy{j:Nat}{v0:D}(S:SKey C.P kt ks)(ho:o.op=.mapUpdate t x y u)(hd:o.dst=none)(hl:uT C.P t=some (kt,d,et))(hx:st.fr.ev x=.mmap id)(hb:st.hp[id]?=some (.map kt' et' es))(hy:st.fr.ev y=.d k)(hu:st.fr.ev u=.d v)(hks:∀e∈es,uL ks e.1)(hnd:(es.map (·.1)).Nodup)(hj:es[j]?=some (k,v0))
    (hK:K ⟨st.fr,st.hp.set id (.map kt' et' (es.set j (k,v)))⟩):OpOk C o st K:=
  OpOk.skip λg a w hs=>by
    have hk:uL ks k:=hks (k,v0) (tX hj);obtain⟨b,ents,clock,hp,hex,hw,hE,hey⟩:=vS hs hx hb hy hk;obtain⟨e0,he0,hek,_,hf⟩:=Cs S hE hks hnd hj;obtain⟨hu',hd'⟩:=jR hl;obtain⟨l,hkl⟩:=S.of k hk;have hv:=hs.ev u;rw[hu]at hv;have hv':DRep w g.X v (a.eval u):=by cases hv with|d _ _ h=>exact h
    have hkd:=hs.ev y;rw[hy,hey]at hkd;have hkd':DRep w g.X k (sN k):=by cases hkd with|d _ _ h=>exact h
    have hst:(Instr.keyThatStays e0.key (sN k)).run C.P w=.ok (sN k) w:=by rw[hek];exact S.law.stays w hkl
    refine⟨{ w with heap:=w.heap.setIfInBounds b (.map (ents.modify j λe=>{ e with key:=sN k,val:=a.eval u }) clock) },?_,_,g,hK,?_⟩;simp only[execOp,ho,hex,hey];simp[Instr.mapUpdate,run_underlying hu',MapKept.run_getObj_map hw,S.law.check w _ hkl,hf,he0,hst,MapKept.run_setObj_map _ hw,Result.andThen];rw[hd];refine qA hs hp hb hw ⟨by simp[hE.1],λi e m he hm=>?_⟩;rw[cG]at he;rw[qk]at hm;split at he;rename_i hij;subst hij;rw[if_pos rfl,he0]at hm;split at he;cases he;simp at hm;subst hm;exact⟨hkd',hv'⟩;cases he;rename_i hij;rw[if_neg hij]at hm;exact hE.2 i e m he hm
end upd
structure KeyG (ks:List TypeDesc) {α:Type} (kf:α->D) (ok:α->Bool):Prop where
  key:∀a,ok a=true->uL ks (kf a)
  inj:∀a b,kf a=kf b->a=b
def sM{α β:Type}(ok:α->Bool)(fs:List (α×β))(s:α):Prop:=(fs.map (·.1)).Nodup/\(∀x∈fs,ok x.1=true)/\ok s=true
instance {α β:Type} [DecidableEq α] (ok:α->Bool) (fs:List (α×β)) (s:α):Decidable (sM ok fs s):=by unfold sM;infer_instance
section pm
variable {α β:Type}[DecidableEq α]{dk:TypeDesc}{kf:α->D}{ok:α->Bool}{ks:List TypeDesc}
variable {o:Oper}{ev:Operand->AV}{hp:List Blk}{x y u:Operand}{t kt et kt' et':TypeId}{id:Nat}{zd:D}{z:Value}
theorem rX(hk:KeyG ks kf ok)(f:β->D){fs:List (α×β)}(h:∀x∈fs,ok x.1=true):∀e∈aV kf f fs,uL ks e.1:=λe he=>by
  unfold aV at he;simp only[zal76q]at he;obtain⟨x,hx,rfl⟩:=he;exact hk.key _ (h x hx)
theorem xQ(hk:KeyG ks kf ok)(f:β->D){fs:List (α×β)}(h:(fs.map (·.1)).Nodup):((aV kf f fs).map (·.1)).Nodup:=by
  have:(aV kf f fs).map (·.1)=(fs.map (·.1)).map kf:=by simp[aV]
  rw[this];exact h.map _ λa b hab e=>hab (hk.inj _ _ e)
theorem yw(hk:KeyG ks kf ok)(f:β->D){fs:List (α×β)}{s:α}(h:∀x∈fs,x.1≠s):∀e∈aV kf f fs,e.1≠kf s:=λe he=>by
  unfold aV at he;simp only[zal76q]at he;obtain⟨x,hx,rfl⟩:=he;exact λq=>h x hx (hk.inj _ _ q)
theorem cz(S:SKey C.P kt ks)(hk:KeyG ks kf ok)(f:β->D)(fs:List (α×β))(s:α)(z0:β)(ho:o.op=.lookup t x y true)(hl:uT C.P t=some (kt,dk,et))(hz:(C.P.info? et).bind (·.zero)=some z)(hzd:dV z=.d (f z0))
    (hx:ev x=.mmap id) (hb:hp[id]?=some (.map kt' et' (aV kf f fs))) (hy:ev y=.d (kf s)) (hg:sM ok fs s):RdOk C o ev hp (.tup [.d (f ((bH fs s).getD z0)),.d (.bool (bH fs s).isSome)]):=by
  cases h:bH fs s with
  |none=>exact Fo S ho hl hz hzd hx hb hy (hk.key _ hg.2.2) (rX hk f hg.2.1) (yw hk f (kH h))
  |some b=>
    obtain⟨j,hj⟩:=tI h;exact Ds (j:=j) S ho hl hx hb hy (rX hk f hg.2.1) (xQ hk f hg.1) (by simp[aV,hj])
theorem s_putG{ops:Array Oper}{l:List Oper}{K:St->Prop}{fr:Fr}{ty:TypeId}{pos:String}{after:Array Edge}(S:SKey C.P kt ks)(hk:KeyG ks kf ok)(f:β->D){fs:List (α×β)}{s:α}{b:β}(hl:uT C.P t=some (kt,dk,et))(hx:fr.ev x=.mmap id)(hb:hp[id]?=some (.map kt' et' (aV kf f fs)))(hy:fr.ev y=.d (kf s))(hu:fr.ev u=.d (f b))(hg:sM ok fs s)
    (h:bO C ops l ⟨fr,hp.set id (.map kt' et' (aV kf f (lP fs s b)))⟩ K):bO C ops (⟨none,.mapUpdate t x y u,ty,pos,after,none⟩::l) ⟨fr,hp⟩ K:=by
  cases e:fs.findIdx? λx=>decide (x.1=s)with
  |none=>
    have hn:bH fs s=none:=by
      unfold bH;rw[yS,xp];rw[zal35q]at e;intro x hx;simpa using e x hx
    refine cU rfl (q9 S rfl rfl hl hx hb hy hu (hk.key _ hg.2.2) (rX hk f hg.2.1) (yw hk f (kH hn)) ?_);have e2:aV kf f (fs++[(s,b)])=aV kf f fs++[(kf s,f b)]:=by simp[aV]
    rw[<- e2];simpa only[lP,e]using h
  |some j=>
    have e':=e;rw[zal36q]at e;obtain⟨hlt,hj,_⟩:=e
    have hj':fs[j]?=some (s,fs[j].2):=by
      rw[lR hlt,<- of_decide_eq_true hj]
    refine cU rfl (yy (j:=j) (v0:=f fs[j].2) S rfl rfl hl hx hb hy hu (rX hk f hg.2.1) (xQ hk f hg.1) (by simp[aV,hj']) ?_);simp only[lP,e']at h;simpa[aV,sC]using h
end pm
variable {P:Program}{C:Ctx}{st:St}{g:Gh}{a:Act}{w:World}
section
variable {ops:Array Oper}{l:List Oper}{K:St->Prop}{fr:Fr}{hp:List Blk}{c:Code}{Q:Exit->St->Prop}{α β:Type}
end
section
variable {o:Oper}{ev:Operand->AV}{hp:List Blk}{x y:Operand}{t t' k e:TypeId}
end
theorem s_virtF{ops:Array Oper}{l:List Oper}{K:St->Prop}{fr:Fr}{hp:List Blk}{α:Type}{f:α->D}(N e sz:Nat)(hN:Nat.beq hp.length N=true)(h:bO C ops l ⟨fr,hp++[Blk.flat e sz (([]:List α).map f)]⟩ K):bO C ops l ⟨fr,hp⟩ K:=
  λg a w hs=>h g a w (Sim.virt (st:=⟨fr,hp⟩) hs e sz)
inductive ArgW:AV->AV->Prop
  |refl (x:AV):ArgW x x
  |nil (i sz:Nat):ArgW (.d .nilsl) (.msl i sz 0 0)
  |nilD (sz:Nat):ArgW (.d .nilsl) (.d (.sl sz []))
inductive ArgsW:List AV->List AV->Prop
  |nil:ArgsW [] []
  |cons {x y:AV} {xs ys:List AV} (h:ArgW x y) (hr:ArgsW xs ys):ArgsW (x::xs) (y::ys)
theorem ArgW.rep{x y:AV}(h:ArgW x y){v:Value}(hv:ARep w g x v):ARep w g y v:=by
  cases h with
  |refl=>exact hv
  |nil i sz=>cases hv with
    |d _ _ hd=>cases hd with
      |nilsl ad=>exact .msl0 _ _ _ _
  |nilD sz=>cases hv with
    |d _ _ hd=>cases hd with
      |nilsl ad=>exact .d _ _ (.sl0 _ _ _)
theorem ArgsW.rep:∀{xs ys:List AV},ArgsW xs ys->∀{vs:List Value},Pw (ARep w g) xs vs->Pw (ARep w g) ys vs
  |[],[],.nil,vs,h=>h
  |x::xs,y::ys,.cons hx hr,vs,h=>by
    cases vs with
    |nil=>have:=h.1;simp at this
    |cons v vs=>
      have h1:Pw (ARep w g) xs vs:=⟨by simpa using h.1,λi a b ha hb=>h.2 (i+1) a b (by simpa using ha) (by simpa using hb)⟩;have h2:=ArgsW.rep hr h1;refine⟨by simp[h2.1],λi a b ha hb=>?_⟩
      cases i with
      |zero=>simp at ha hb;subst ha hb;exact hx.rep (h.2 0 x v rfl rfl)
      |succ i=>exact h2.2 i a b (by simpa using ha) (by simpa using hb)
theorem Ret.argsW{F:FuncId}{hp hp':List Blk}{mv:Nat->Bool}{xs ys:List AV}{r:AV}(h:Ret P F hp mv ys r hp')(hw:ArgsW xs ys):Ret P F hp mv xs r hp':=
  ⟨h.1,λw g vs ho ha=>h.2 w g vs ho (hw.rep ha)⟩
theorem s_callMW{ops : Array Oper}{l : List Oper}{K : St -> Prop}{fr : Fr}{hp : List Blk}{d : Nat}{ty : TypeId}{pos : String}{after : Array Edge}{f : Operand}{xs : Array Operand}{ts : Array TypeId}{F : FuncId}{c : AV}{cs : List AV}(ids : List Nat)(mv : Nat -> Bool){args0 args : List AV}{r r' : AV}{fr2 : Fr}{hh hp' hp2 : List Blk}(hd : decide (d < C.n) = true)(hf : fr.ev f = c)(hc : uQ c = some (F, cs))(hnd : ids.Nodup)(hal : (ids.all fun j => cF hp j) = true)
    (hmv:((List.range C.k).all λj=>!tR ids mv j||C.mv j)=true) (hx:((xs.toList.map fr.ev)++cs).map (AV.mapRef (toName (aR ids)))=args0) (hhd:mO ids hp=hh) (hret:Ret C.P F hh mv args r hp') (hw:ArgsW args0 args) (hr:r.mapRef (fwd ids hp.length)=r') (hfr:Fr.mapRef (fI (tR ids mv)) fr=fr2) (hb:nA ids (hp.map (Blk.mapRef (fI (tR ids mv)))) hp'=hp2)
    (h:bO C ops l ⟨(d,r')::fr2,hp2⟩ K):bO C ops (⟨some d,.call { callee:=.value f,args:=xs,argTypes:=ts },ty,pos,after,none⟩::l) ⟨fr,hp⟩ K:=
  gP ids mv hd hf hc hnd hal hmv hx hhd (hret.argsW hw) hr hfr hb h
theorem s_on{ops:Array Oper}{op:Op}{dst:Option Nat}{ty:TypeId}{pos:String}{after:Array Edge}{gd:Option (Nat×Bool)}{l:List Oper}{K:St->Prop}{fr:Fr}{hp:List Blk}(hon:wy ops gd fr=some true)
    (k:bO C ops (⟨dst,op,ty,pos,after,none⟩::l) ⟨fr,hp⟩ K):bO C ops (⟨dst,op,ty,pos,after,gd⟩::l) ⟨fr,hp⟩ K:=by
  intro g a w hs;have h:=k g a w hs;unfold wpList at h⊢
  have hw:Region.wanted ⟨dst,op,ty,pos,after,gd⟩ (yielded ops a.tmps)=true:=by
    rcases D3 hs hon with⟨hg,_⟩|⟨i,want,hg,⟨hy,_⟩|⟨_,hc⟩⟩
    simp[Region.wanted,hg];simp[Region.wanted,hg,hy];cases hc
  rw[if_pos hw];rw[if_pos (by simp[Region.wanted])]at h;exact h
variable {P:Program}{C:Ctx}{st:St}{g:Gh}{a:Act}{w:World}
section
variable {o:Oper}{ev:Operand->AV}{hp:List Blk}{t t' e arr:TypeId}{x y:Operand}
theorem x_ixs{s:ByteArray}{k:IntKind}{i:Int}{b:UInt8}(ho:o.op=.index t x y)(hu:C.P.underlying t=some .string)(hx:ev x=.d (.str s))(hy:ev y=.d (.int k i))(h:0<=i/\s.data.toList[i.toNat]?=some b):RdOk C o ev hp (.d (.int .u8 (b.toNat:Int))):=
  RdOk.mk λst hhp hag g a w hs=>by
    have hv:=hs.ev x;rw[hag x (by simp[ho,Op.operands]),hx]at hv;have hi:=hs.ev y;rw[hag y (by simp[ho,Op.operands]),hy]at hi
    have hxv:a.eval x=.string s:=by
      generalize a.eval x=v at *;cases hv with|d _ _ h=>cases h;rfl
    have hsb:s[i.toNat]?=some b:=by
      have h2:=h.2;rw[zQQ]at h2;obtain⟨hlt,h2⟩:=h2;have hlt':i.toNat<s.size:=hlt;rw[getElem?_pos s i.toNat hlt'];exact congrArg some h2
    refine⟨.int .u8 b.toNat,?_,.d _ _ (.int _ _)⟩;have h0:=h.1;simp only[execOp,ho,hxv,int_inv hi];simp[Instr.index,run_underlying hu,asIntOf,h0,hsb]
end
section
variable {o:Oper}{ev:Operand->AV}{hp:List Blk}{x:Operand}
end
theorem Kn{o:Oper}{ev:Operand->AV}{hp:List Blk}{f:Operand}{xs:Array Operand}{ts:Array TypeId}{F:FuncId}{mv:Nat->Bool}{ds rs:List D}(ho:o.op=.call { callee:=.value f,args:=xs,argTypes:=ts })(hf:ev f=.d (.fn F))(hx:wP hp (xs.toList.map ev) ds)(hret:Ret C.P F [] mv (ds.map .d) (.tup (rs.map .d)) [])(hm:rs.all D.mem0=true):RdOk C o ev hp (.tup (rs.map .d)):=by
  intro st hhp hag g a w hs Q K' hK;have hfv:=hs.ev f;rw[hag f (by simp[ho,Op.operands,Call.operands]),hf]at hfv
  have hx':wP st.hp (xs.toList.map st.fr.ev) ds:=by
    refine⟨by have:=hx.1;simpa using this,λi x d hxi hd=>?_⟩;simp only[qU,wu]at hxi;obtain⟨y,hy,rfl⟩:=hxi;rw[hag y (by simp only[ho,Op.operands,Call.operands];exact zal9q.2 (.inr (zal10q.1 (tX hy))))];exact(hx.2 i (ev y) d (by simp[hy]) hd).le hhp
  have hargs:=z8 hs hx' (Y:=λb=>b<w.heap.size) hs.Xlt λi b hp=>(hs.lt i b hp).1;simp only[Oper.wp,eH ho (co hfv) hret.1,Oper.upon_enter,xr];refine(hret.2 w (dF λb=>b<w.heap.size) _ (D2 hs mv λ_ h=>h) hargs).mono ?_;rintro e w' ⟨v,g',rfl,hout,hr⟩;have hold:∀b,b<w.heap.size->w'.heap[b]?=w.heap[b]?:=λb hb=>hout.keep b hb λi hi=>absurd hi (pS i);have hsz:=hout.grown;simp only at hsz;have hgr:Grow w g w' g:=⟨λ_ _ h=>h,λ_ _ _=>rfl,λ_ h=>h,λb hb=>hold b (hs.Xlt b hb)⟩;refine hK v w' g ?_ ?_
  exact { defers := hs.defers, size := hs.size, fr := fun t => (hs.fr t).mono hgr, hp := fun i B hB => (hs.hp i B hB).mono hgr id fun b hb => hold b (hs.lt i b hb).1, lt := fun i b hp => by have := hs.lt i b hp; exact ⟨by omega, this.2.1, this.2.2⟩, inj := hs.inj, Xlt := fun b hb => by have := hs.Xlt b hb; omega, Xold := hs.Xold
          os:=hout.os.trans hs.os,tape:=hout.tape.trans hs.tape,output:=hout.output.trans hs.output,drawn:=dQ hs.drawn hout.drawn,grown:=dQ hs.grown hsz,keep:=λb hb hk=>by rw[hold b (by have:=hs.grown;omega)];exact hs.keep b hb hk,own:=hs.own,stay:=hs.stay,kle:=hs.kle,laid:=hs.laid }
  cases hr with
  |tup _ us hl hr=>
    refine .tup _ us hl λi c u hci hu=>?_;have h1:=hr i c u hci hu;simp only[qU,wu]at hci;obtain⟨d,hd,rfl⟩:=hci;have hdm:D.mem0 d=true:=zQT.1 hm d (tX hd)
    cases h1 with
    |d _ _ h=>exact .d _ _ (h.any hdm)
end Go.TL
