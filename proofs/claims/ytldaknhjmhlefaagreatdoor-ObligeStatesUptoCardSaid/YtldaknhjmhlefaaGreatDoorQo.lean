/- Texts of this proof, joined, without what it does not use. No condition. -/
import Derived.Lib.SlicesCompact
import Derived.Test.YtldaknhjmhlefaaGreatDoorQn

namespace Go.TL
open Go.Sort Go.Proofs
variable {C:Ctx} {st:St} {g:Gh} {a:Act} {w:World} {P:Program}
theorem kB {k:Nat} {ids:List Nat} (h:((List.range k).all λi=>ids[i]? == some i)=true) (i:Nat) (hi:i < k):ids[i]?=some i:=by
  have:=zQT.1 h i (List.mem_range.2 hi);simpa using this
theorem Sim.upB (h:Sim C st g a w) {i j:Nat} {t e sz:Nat} {cs:List AV} (hb:st.hp[i]?=some (.box t cs)) (hc:cs[j]?=some (.d .nilsl)):Sim C ⟨st.fr,(st.hp.set i (.box t (cs.set j (.msl st.hp.length sz 0 0))))++[Blk.flat e sz []]⟩ g a w:=by
  have hi:=(zQQ.1 hb).1;have hv:=h.virt e sz
  have h2:Sim C ⟨st.fr,(st.hp++[Blk.flat e sz []]).set i (.box t (cs.set j (.msl st.hp.length sz 0 0)))⟩ g a w:=by
    have hrep:=h.hp i _ hb;obtain⟨b,cells,hp,hw,hps,hl,hr⟩:=hrep;refine { hv with hp:=λk B hk=>?_,lt:=λk b hk=>by have:=hv.lt k b hk;simpa using this,inj:=λk k' b Bk Bk' h1 h2 d1 d2 p1 p2=>?_,kle:=by simpa using hv.kle }
    · rw [List.getElem?_set] at hk
      split at hk
      · rename_i e1
        subst e1;split at hk
        · cases hk
          refine⟨b,cells,hp,hw,hps,by simpa using hl,λq c v hq hv'=>?_⟩;rw [List.getElem?_set] at hq;split at hq
          · rename_i e2
            subst e2;split at hq
            · cases hq
              have:=hr _ _ v hc hv'
              cases this with
              | d _ _ hd=>cases hd with
                | nilsl ad=>exact .msl0 _ _ _ _
            cases hq
          exact hr q c v hq hv'
        cases hk
      exact hv.hp k B hk
    have key:∀ (k:Nat) (Bk:Blk),((st.hp++[Blk.flat e sz []]).set i (.box t (cs.set j (.msl st.hp.length sz 0 0))))[k]?=some Bk->Bk≠.dead->∃ B',(st.hp++[Blk.flat e sz []])[k]?=some B'/\B'≠.dead:=by
      intro k Bk hk hd;rw [List.getElem?_set] at hk;split at hk
      · rename_i e1
        subst e1;exact⟨.box t cs,by rw [List.getElem?_append,if_pos hi];exact hb,λe=>by cases e⟩
      exact⟨Bk,hk,hd⟩
    obtain⟨B1,e1,d1'⟩:=key k Bk h1 d1;obtain⟨B2,e2,d2'⟩:=key k' Bk' h2 d2;exact hv.inj k k' b B1 B2 e1 e2 d1' d2' p1 p2
  rwa [List.set_append,if_pos hi] at h2
theorem iF {ops:Array Oper} {l:List Oper} {K:St->Prop} {fr:Fr} {hp:List Blk} {α:Type} {f:α->D} (i j N e sz:Nat) {t:TypeId} {cs:List AV} (hN:Nat.beq hp.length N=true) (hb:hp[i]?=some (.box t cs)) (hc:cs[j]?=some (.d .nilsl))
    (h:eF C ops l ⟨fr,(hp.set i (.box t (cs.set j (.msl N sz 0 ([]:List α).length))))++[Blk.flat e sz (([]:List α).map f)]⟩ K):eF C ops l ⟨fr,hp⟩ K:=by
  have e:=Nat.eq_of_beq_eq_true hN;subst e;exact λg a w hs=>h g a w (Sim.upB (st:=⟨fr,hp⟩) hs hb hc)
theorem zHQ {c:Code} {Q:Exit->St->Prop} {fr:Fr} {hp:List Blk} {α:Type} {f:α->D} (i j N e sz:Nat) {t:TypeId} {cs:List AV} (hN:Nat.beq hp.length N=true) (hb:hp[i]?=some (.box t cs)) (hc:cs[j]?=some (.d .nilsl))
    (h:TWp C c ⟨fr,(hp.set i (.box t (cs.set j (.msl N sz 0 ([]:List α).length))))++[Blk.flat e sz (([]:List α).map f)]⟩ Q):TWp C c ⟨fr,hp⟩ Q:=by
  have e:=Nat.eq_of_beq_eq_true hN;subst e;exact λg a w hs=>h g a w (Sim.upB (st:=⟨fr,hp⟩) hs hb hc)
def toHole (hs:List Nat):AV->AV
  | .msl i s o l=>.msl (hs.getD i 0) s o l
  | .mptr i s x o=>.mptr (hs.getD i 0) s x o
  | .mmap i=>.mmap (hs.getD i 0)
  | .mmapN i n=>.mmapN (hs.getD i 0) n
  | v=>v
theorem qPB {T:Tab} {o:Oper} {ev:Operand->AV} {hp:List Blk} {t:TypeId} {x y:Operand} {id off s:Nat} {bb:Bool} {bt:TypeId} {cs cs':List AV} {v:AV} (hT:TabOk C.P T) (ho:o.op=.store t x y) (hd:o.dst=none) (hl:lk T.lay t=some (bb,s)) (hx:ev x=.mptr id 0 0 off) (hy:ev y=v) (hf:v.flat=true) (hs:Nat.beq v.cells.length s=true)
    (hb:hp[id]?=some (.box bt cs)) (hc:Nat.ble (off+s) cs.length=true) (hv:spl cs off v.cells=cs'):DOk C o ev hp .junk [(id,.box bt cs')]:=
  qRM ho hd (hT.lay hl) hx hy hf (Nat.eq_of_beq_eq_true hs) hb (Nat.le_of_ble_eq_true hc) hv
end Go.TL
set_option linter.unusedVariables false
set_option linter.unusedSimpArgs false
namespace Go.TL
open Go.Sort Go.Proofs
variable {C:Ctx}
theorem bF {l:List AV} {ds ds':List D} (h:evD l=some ds) (e:ds=ds'):evD l=some ds':=e ▸ h
theorem aS {α:Type} {f:α->D}:([]:List D)=([]:List α).map f:=rfl
theorem aE {α:Type} {f:α->D} {x:α} {d:D} {xs:List α} {ds:List D} (h:f x=d) (t:ds=xs.map f):d :: ds=(x :: xs).map f:=by rw [List.map_cons,h,t]
theorem aO {α:Type} {f:α->D} {sz:Nat} {xs:List α} (h:∀ x,(f x).cells.length=sz):((xs.map f).all λd=>Nat.beq d.cells.length sz)=true:=by
  rw [zQT];intro d hd;obtain⟨x,_,rfl⟩:=List.mem_map.1 hd;rw [h x];exact Nat.beq_refl sz
section rd
variable {T:Tab} {o:Oper} {ev:Operand->AV} {hp:List Blk} {α:Type} {f:α->D} {xs ys:List α}
theorem qHH {t e sz by':Nat} {a b:Operand} {k:IntKind} {i:Int} {x:α} {d:D} (hT:TabOk C.P T) (ho:o.op=.indexAddr t a b) (hl:lk T.sel t=some (e,sz,by')) (ha:ev a=.d (.sl sz (xs.map f))) (hb:ev b=.d (.int k i)) (h:0<=i/\xs[i.toNat]?=some x) (hf:f x=d):RdOk C o ev hp (.d (.ptr d 0)):=
  hf ▸ bR hT ho hl ha hb h
theorem bJ {t e sz by' n:Nat} {parts:Array (Nat×Operand)} {z:Value} (l:List Operand) (hT:TabOk C.P T) (ho:o.op=.buildSlice t n parts) (hl:lk T.sel t=some (e,sz,by')) (hz:(C.P.info? e).bind (·.zero)=some z) (hp':mN parts l)
    (hx:evD (l.map ev)=some (xs.map f)) (hn:Nat.beq (xs.map f).length n=true) (hs:((xs.map f).all λd=>Nat.beq d.cells.length sz)=true) (hsmall:Nat.ble (n * sz) 16777216=true):RdOk C o ev hp (.d (.sl sz (xs.map f))):=cM l hT ho hl hz hp' hx hn hs hsmall
end rd
variable {P:Program} {C:Ctx} {o:Oper} {ev:Operand->AV} {hp:List Blk} {t t':TypeId} {x y:Operand}
theorem uH {a b:ByteArray} (ho:o.op=.binOp .add t x y t') (hx:ev x=.d (.str a)) (hy:ev y=.d (.str b)) (hs:a.size+b.size<=9223372036854775807):RdOk C o ev hp (.d (.str (a++b))):=
  RdOk.mk λst hhp hag g a' w hs'=>by
    have h:=hs'.ev x;rw [hag x (by simp [ho,Op.operands]),hx] at h;have hi:=hs'.ev y;rw [hag y (by simp [ho,Op.operands]),hy] at hi;refine⟨.string (a++b),?_,.d _ _ (.str _)⟩
    have e:¬ ((a.size+b.size:Nat):Int) > IntKind.i64.max:=by
      have:IntKind.i64.max=9223372036854775807:=by decide
      omega
    simp only [execOp,ho,str_inv h,str_inv hi];simp [eqGuard,binOp,Op.stringOp,e];omega
def arK (op:BinOp) (k:IntKind) (m n:Int):Option Int:=match op with
  | .add=>some (k.wrap (m+n))
  | .sub=>some (k.wrap (m - n))
  | .mul=>some (k.wrap (m * n))
  | .quo=>if n=0 then none else some (k.wrap (m.tdiv n))
  | .rem=>if n=0 then none else some (m.tmod n)
  | .and=>some (k.wrap (BitVec.ofInt k.bits m &&& BitVec.ofInt k.bits n).toNat)
  | .or=>some (k.wrap (BitVec.ofInt k.bits m ||| BitVec.ofInt k.bits n).toNat)
  | .xor=>some (k.wrap (BitVec.ofInt k.bits m ^^^ BitVec.ofInt k.bits n).toNat)
  | _=>none
theorem qYT {k:IntKind} {m n:Int} (h:¬ n=0):arK .quo k m n=some (k.wrap (m.tdiv n)):=if_neg h
theorem qRI {k:IntKind} {m n:Int} (h:¬ n=0):arK .rem k m n=some (m.tmod n):=if_neg h
theorem qNS {op:BinOp} {k:IntKind} {m n r:Int} (ho:o.op=.binOp op t x y t') (hx:ev x=.d (.int k m)) (hy:ev y=.d (.int k n)) (hr:arK op k m n=some r):RdOk C o ev hp (.d (.int k r)):=
  RdOk.mk λst hhp hag g a w hs=>by
    have h:=hs.ev x;rw [hag x (by simp [ho,Op.operands]),hx] at h;have hi:=hs.ev y;rw [hag y (by simp [ho,Op.operands]),hy] at hi;refine⟨.int k r,?_,.d _ _ (.int k r)⟩;simp only [execOp,ho,int_inv h,int_inv hi]
    cases op<;>simp only [arK] at hr<;>first
      | (cases hr;simp [eqGuard,binOp,Op.intArith,Op.intBits];done)
      | (split at hr
         · cases hr
         rename_i hn; cases hr; simp [eqGuard, binOp, Op.intDiv, hn])
      | cases hr
def shK (op:BinOp) (k:IntKind) (m n:Int):Option Int:=match op with
  | .shl=>some (k.wrap (m * 2 ^ (min n.toNat k.bits)))
  | .shr=>some (m.fdiv (2 ^ (min n.toNat k.bits)))
  | _=>none
theorem x_shK {op:BinOp} {k k':IntKind} {m n r:Int} (ho:o.op=.binOp op t x y t') (hx:ev x=.d (.int k m)) (hy:ev y=.d (.int k' n)) (hr:shK op k m n=some r) (h0:0<=n):RdOk C o ev hp (.d (.int k r)):=
  RdOk.mk λst hhp hag g a w hs=>by
    have h:=hs.ev x;rw [hag x (by simp [ho,Op.operands]),hx] at h;have hi:=hs.ev y;rw [hag y (by simp [ho,Op.operands]),hy] at hi;refine⟨.int k r,?_,.d _ _ (.int k r)⟩;have hn:¬ n < 0:=by omega
    simp only [execOp,ho,int_inv h,int_inv hi];cases op<;>simp only [shK] at hr<;>cases hr<;>simp [eqGuard,binOp,Op.shift,hn]
theorem qXC {xt t':TypeId} {d:D} (ho:o.op=.typeAssert x xt t true) (hc:qHD C.P t=true) (hx:ev x=.d (.iface t' d)) (h:t'=t):RdOk C o ev hp (.tup [.d d,.d (.bool true)]):=by
  subst h;exact qEH ho hc hx
theorem qXD {xt t':TypeId} {d:D} {z:Value} {zd:D} (ho:o.op=.typeAssert x xt t true) (hc:qHD C.P t=true) (hx:ev x=.d (.iface t' d)) (h:¬ t'=t) (hz:(C.P.info? t).bind (·.zero)=some z) (hzd:fU z=.d zd):RdOk C o ev hp (.tup [.d zd,.d (.bool false)]):=
  qST ho hc hx (by cases e:Nat.beq t' t with|false=>rfl|true=>exact absurd (Nat.eq_of_beq_eq_true e) h) hz hzd
theorem qJF {ids:List Nat} {n m i:Nat} (h:i < ids.length):back ids n i=back ids m i:=by
  unfold back;rw [zQR h]
theorem qEJ {ids:List Nat} {i j:Nat} (h:bS ids i=some j):j < ids.length:=(zQQ.1 (dI ids i j h)).1
mutual
theorem qTY (ids:List Nat) (n m:Nat):∀ v:AV,AV.mapRef (fwd ids n) (AV.mapRef (toName (bS ids)) v)=AV.mapRef (fwd ids m) (AV.mapRef (toName (bS ids)) v)
  | .junk=>rfl
  | .und=>rfl
  | .d x=>rfl
  | .msl i s o l=>by
    simp only [AV.mapRef,toName]
    cases h:bS ids i with
    | none=>rfl
    | some j=>simp only [AV.mapRef,fwd,qJF (n:=n) (m:=m) (qEJ h)]
  | .mptr i s x o=>by
    simp only [AV.mapRef,toName]
    cases h:bS ids i with
    | none=>rfl
    | some j=>simp only [AV.mapRef,fwd,qJF (n:=n) (m:=m) (qEJ h)]
  | .mmap i=>by
    simp only [AV.mapRef,toName]
    cases h:bS ids i with
    | none=>rfl
    | some j=>simp only [AV.mapRef,fwd,qJF (n:=n) (m:=m) (qEJ h)]
  | .mmapN i q=>by
    simp only [AV.mapRef,toName]
    cases h:bS ids i with
    | none=>rfl
    | some j=>simp only [AV.mapRef,fwd,qJF (n:=n) (m:=m) (qEJ h)]
  | .agg cs=>by simp only [AV.mapRef,wW ids n m cs]
  | .tup cs=>by simp only [AV.mapRef,wW ids n m cs]
  | .fnc f cs=>by simp only [AV.mapRef,wW ids n m cs]
  | .ifc t c=>by simp only [AV.mapRef,qTY ids n m c]
theorem wW (ids:List Nat) (n m:Nat):∀ cs:List AV,AV.mapRefs (fwd ids n) (AV.mapRefs (toName (bS ids)) cs)=AV.mapRefs (fwd ids m) (AV.mapRefs (toName (bS ids)) cs)
  | []=>rfl
  | c :: r=>by simp only [AV.mapRefs,qTY ids n m c,wW ids n m r]
end
theorem zFU (ids:List Nat) (n m:Nat) (B:Blk):Blk.mapRef (fwd ids n) (Blk.mapRef (toName (bS ids)) B)=Blk.mapRef (fwd ids m) (Blk.mapRef (toName (bS ids)) B):=by
  cases B with
  | box ty cs=>simp only [Blk.mapRef,wW ids n m cs]
  | _=>rfl
def qRB (ids:List Nat) (hp:List Blk):Prop:=∀ j∈ids,((hp.getD j .dead).mapRef (toName (bS ids))).mapRef (fwd ids 0)=hp.getD j .dead
theorem qTV {ids:List Nat} {hp st:List Blk} (hnd:ids.Nodup) (hal:∀ j∈ids,dX hp j=true) (hle:HpLe hp st) (hcl:qRB ids hp):pP ids st (pY ids st)=st:=by
  apply List.ext_getElem?;intro j;have hlen:(pY ids st).length=ids.length:=by simp [pY]
  by_cases hj:j < st.length
  · unfold pP
    rw [List.getElem?_append_left (by simpa using hj),zQP,List.getElem?_zipIdx];rw [zQR hj];simp only [Option.map_some,Nat.zero_add]
    cases hp':bS ids j with
    | none=>rfl
    | some i=>
      simp only;have hi:=dI ids j i hp';have hmem:j∈ids:=zQM hi;obtain⟨B,hB,hd⟩:=jX (hal j hmem);have hB':=hle j B hB hd
      have e:(pY ids st).getD i .dead=B.mapRef (toName (bS ids)):=by
        unfold pY;rw [zQD,zQP,hi];simp [zQD,hB']
      have hc:=hcl j hmem;rw [zQD,hB] at hc;rw [e,zFU ids st.length 0];have:st[j]=B:=by rw [zQR hj] at hB';exact Option.some.inj hB'
      rw [this];exact congrArg some hc
  rw [List.getElem?_eq_none (by rw [vR,hlen];omega),List.getElem?_eq_none (by omega)]
theorem zFT {ids:List Nat} {hp st:List Blk} (hal:∀ j∈ids,dX hp j=true) (hle:HpLe hp st):pY ids st=pY ids hp:=by
  unfold pY;apply List.map_congr_left;intro j hj;obtain⟨B,hB,hd⟩:=jX (hal j hj);rw [zQD,zQD,hB,hle j B hB hd]
theorem aK {f:Operand} {xs:Array Operand} {ts:Array TypeId} {F:FuncId} {c:AV} {cs:List AV} (ids:List Nat) {args:List AV} {r:AV} {hh:List Blk} (hrr:r.isRef=false/\AV.mapRef (fwd ids 0) r=r/\(∀ n,AV.mapRef (fwd ids n) r=AV.mapRef (fwd ids 0) r)) (ho:o.op=.call { callee:=.value f,args:=xs,argTypes:=ts })
    (hf:ev f=c) (hc:qAM c=some (F,cs)) (hnd:ids.Nodup) (hal:(ids.all λj=>dX hp j)=true) (hcl:qRB ids hp) (hx:((xs.toList.map ev)++cs).map (AV.mapRef (toName (bS ids)))=args) (hhd:pY ids hp=hh) (hret:Ret C.P F hh (λ_=>false) args r hh):RdOk C o ev hp r:=by
  intro st hhp hag g a w hs Q K' hK;have hfv:=hs.ev f;rw [hag f (by simp [ho,Op.operands,Call.operands]),hf] at hfv;obtain⟨vs,hv,hvs⟩:=qFH hfv hc;have hal':∀ j∈ids,dX hp j=true:=λj hj=>zQT.1 hal j hj
  have hals:∀ j∈ids,dX st.hp j=true:=λj hj=>by
    obtain⟨B,hB,hd⟩:=jX (hal' j hj);have h1:=hal' j hj;unfold dX at h1 ⊢;rw [zQD,hB] at h1;rw [zQD,hhp j B hB hd];exact h1
  have he:=zFT (st:=st.hp) hal' hhp
  have hf':∀ i j,bS ids i=some j->(g.canon ids).phi j=g.phi i/\(g.canon ids).psi j=g.psi i:=by
    intro i j hij;have:=dI ids i j hij;simp [Gh.canon,this]
  have hargs:Pw (ARep w (g.canon ids)) args (xs.map a.eval++vs).toList:=by
    rw [<- hx,Array.toList_append,List.map_append];refine Pw.append ⟨by simp,λi x v hxi hvi=>?_⟩ ⟨by simpa using hvs.1,λi x v hxi hvi=>?_⟩
    · simp only [List.map_map,zQP,zQO] at hxi
      simp only [Array.toList_map,zQP,zQO] at hvi;obtain⟨y,hy,rfl⟩:=hxi;obtain⟨z,hz,rfl⟩:=hvi;rw [hy] at hz;cases hz;have hy':st.fr.ev y=ev y:=hag y (by simp only [ho,Op.operands,Call.operands];exact Array.mem_append.2 (.inr (Array.mem_toList_iff.1 (zQM hy))));have:=ARep.mapRef (w:=w) (g:=g) (g':=g.canon ids) (λd v hd=>hd) (ARep.toName hf' λ_ hb=>hb) (hs.ev y);rw [hy'] at this;exact this
    simp only [zQP,zQO] at hxi;obtain⟨d,hd',rfl⟩:=hxi;exact ARep.mapRef (w:=w) (g:=g) (g':=g.canon ids) (λd v hd=>hd) (ARep.toName hf' λ_ hb=>hb) (hvs.2 i d v hd' hvi)
  simp only [Oper.wp,iM ho hv hret.1,Oper.upon_enter];have hh':pY ids st.hp=hh:=he.trans hhd;have hret2:=hret;rw [<- hh'] at hret2;refine (hret2.2 w (g.canon ids) _ (hs.handed hnd) hargs).mono ?_;rintro e w' ⟨v,g',rfl,hout,hr⟩;have hb:=hs.back hnd hals hout;rw [qTV hnd hal' hhp hcl] at hb;refine hK v w' _ hb ?_;have hlt:∀ j∈ids,j < st.hp.length:=λj hj=>by obtain⟨B,hB,_⟩:=jX (hals j hj);exact (zQQ.1 hB).1
  have := ARep.mapRef (w := w') (g := g') (g' := g.back ids st.hp.length w.heap.size g') (F := fwd ids st.hp.length) (fun d v hd => hd.mono (fun b hb => by
    by_cases hlt' : b < w.heap.size
    · exact .inl (hout.Xold b hb hlt')
    exact .inr ⟨by omega, hb⟩) fun _ _ => rfl) (fun x v hx hr => hx.fwd hnd hlt hr) hr
  rw [hrr.2.2,hrr.2.1] at this;exact this
theorem aF {ids:List Nat} {hp:List Blk} (h:(ids.map λj=>((hp.getD j .dead).mapRef (toName (bS ids))).mapRef (fwd ids 0))=ids.map λj=>hp.getD j .dead):qRB ids hp:=λj hj=>List.map_inj_left.1 h j hj
theorem x_neg {k:IntKind} {n:Int} (ho:o.op=.unOp .neg t x) (hx:ev x=.d (.int k n)):RdOk C o ev hp (.d (.int k (k.wrap (0 - n)))):=
  RdOk.mk λst hhp hag g a w hs=>by
    have h:=hs.ev x;rw [hag x (by simp [ho,Op.operands]),hx] at h;exact⟨.int k (k.wrap (0 - n)),by simp only [execOp,ho,int_inv h];simp [Op.unary,Op.intArith],.d _ _ (.int _ _)⟩
theorem x_ixv {e:TypeId} {n:Nat} {α:Type} {f:α->D} {xs:List α} {k:IntKind} {i:Int} {z:α} (ho:o.op=.index t x y) (hu:C.P.underlying t=some (.array n e)) (hl:lay C.P e=some (false,1)) (hx:ev x=.d (.agg (xs.map f))) (hy:ev y=.d (.int k i)) (h:0<=i/\xs[i.toNat]?=some z) (hn:Nat.beq n xs.length=true):RdOk C o ev hp (.d (f z)):=
  RdOk.mk λst hhp hag g a w hs=>by
    have hv:=hs.ev x;rw [hag x (by simp [ho,Op.operands]),hx] at hv;have hi:=hs.ev y;rw [hag y (by simp [ho,Op.operands]),hy] at hi;generalize he:a.eval x=vx at *;have hlt:=(zQQ.1 h.2).1;have hn':=Nat.eq_of_beq_eq_true hn;obtain⟨h1,h2⟩:=qBE hl w
    cases hv with
    | d _ _ hd=>
      cases hd with
      | agg cs vs hlen hone hrep=>
        have hsz:i.toNat < vs.size:=by rw [<- hlen,zQC];exact hlt
        refine⟨vs[i.toNat],?_,.d _ _ (hrep i.toNat (f z) _ (by rw [zQP,h.2];rfl) (Array.getElem?_eq_getElem hsz))⟩;have hi2:i < (n:Int):=by omega
        simp only [execOp,ho,he,int_inv hi];simp [Instr.index,run_underlying hu,asIntOf,h.1,hi2,part,h1,h2,Array.getElem?_eq_getElem hsz]
theorem s_frzO {ops:Array Oper} {l:List Oper} {K:St->Prop} {fr fr':Fr} {hp hp':List Blk} (t i:Nat) (ks:List Nat) (hk:Nat.ble C.k i=true) (hks:((List.range C.k).all (dX hp))=true) (hal:dX hp i=true) {sz n ty:Nat} {es:List D} (ht:fr.get t=.msl i sz 0 n) (hb:hp[i]?=some (.flat ty sz es)) (hn:n=es.length) (hf:Fr.mapRef (frz i (.flat ty sz es) (dX hp)) (Fr.keep ks fr)=fr') (hh:(hp.map (Blk.mapRef (frz i (.flat ty sz es) (dX hp)))).set i .dead=hp')
    (h:eF C ops l ⟨(t,.d (.sl sz es)) :: fr',hp'⟩ K):eF C ops l ⟨fr,hp⟩ K:=by
  have hB:hp.getD i .dead=.flat ty sz es:=by rw [zQD,hb];rfl
  intro g a w hs;obtain⟨g',hs'⟩:=hs.freeze i (Nat.le_of_ble_eq_true hk) hal (λj hj=>zQT.1 hks j (List.mem_range.2 hj));subst hf hh;refine h g' a w ?_;simp only [St.freeze,hB] at hs';refine { hs' with fr:=λu=>?_ };have hu:=hs'.fr u;simp only [Fr.get];split
  · rename_i e
    subst e;rw [Fr.get_mapRef,ht] at hu;simp only [AV.mapRef,frz,if_true] at hu;rw [if_pos ⟨trivial,by omega⟩] at hu;subst hn;simpa using hu
  rw [Fr.get_mapRef];rcases Fr.get_keep fr ks u with e|e
  · rw [e,<- Fr.get_mapRef];exact hu
  rw [e];exact .junk _
theorem yL {ops:Array Oper} {K:St->Prop} {l:List Oper} {fr:Fr} {hp:List Blk} {acc:List Rec} {o oq:Oper} (q dq:Nat) (h:eF C ops (o :: l) ⟨fr,hp⟩ K) (h2:eF C ops (o :: oq :: l) ⟨(dq,.junk) :: fr,hp⟩ K) (hq:ops.toList[q]?=some oq) (hdq:(acc.map Rec.d)[q]?=some dq) (hws:(acc.map pN)[q]?.map (·.2)=some []) (hE:qFC q ops.toList acc.length (acc.map Rec.d) (acc.map pN)=true):TDr C ops K (o :: l) fr hp acc:=
  .tailq q o oq l fr hp acc dq hE hq hdq hws h h2
theorem qZJ {P:Program} {F:FuncId} {i:Int} {s:ByteArray} (hcb:uZ P F=true) (h:∀ w,Calls P F #[.int .i64 i] w λe w'=>e=.returned (.string s)/\w'=w):RetN P F [.int .i64 i] (.str s):=by
  refine⟨λ_=>false,.d (.str s),[],⟨hcb,λw g vs hout hargs=>?_⟩,.d _,.d _ rfl,λB hB=>by simp at hB⟩
  obtain⟨v0,rfl⟩:∃ v0,vs=#[v0]:=by
    have hl:vs.size=1:=by have:=hargs.1;simpa using this.symm
    exact⟨vs[0],by apply Array.ext;simp [hl];intro i h1 h2;match i,h2 with|0,_=>rfl⟩
  have h0:=hargs.2 0 _ _ rfl rfl;rw [int_inv h0];refine (h w).mono ?_;rintro e w' ⟨rfl,rfl⟩;exact⟨_,g,rfl,hout,.d _ _ (.str _)⟩
theorem zBR {t:TypeId} (hu:P.underlying t=some .string) (w:World) (s:ByteArray) (lo hi:Option Value) (l r:Nat)
    (hlo:(lo=none/\l=0)\/∃ k,lo=some (.int k l)) (hhi:(hi=none/\r=s.size)\/∃ k,hi=some (.int k r)) (h1:l<=r) (h2:r<=s.size):
    (Instr.sliceAt t (.string s) lo hi none).run P w=.ok (.string (s.extract l r)) w:=by
  have e1:(l:Int)<=r:=by omega
  have e2:(r:Int)<=s.size:=by omega
  rcases hlo with ⟨rfl,rfl⟩|⟨k,rfl⟩<;>rcases hhi with ⟨rfl,rfl⟩|⟨k',rfl⟩<;>
    simp [Instr.sliceAt,Instr.slice,run_underlying hu,Instr.sliceBounds,Instr.sliceBound,asIntOf,e1,e2,h1,h2]
theorem x_cutS {s:ByteArray} {lo hi:Option Operand} {l r:Int} (ho:o.op=.slice t x lo hi none) (hu:C.P.underlying t=some .string) (hx:ev x=.d (.str s)) (hlo:bnd 0 (lo.map ev)=some l) (hhi:bnd s.size (hi.map ev)=some r) (h:0<=l/\l<=r/\r<=s.size):RdOk C o ev hp (.d (.str (s.extract l.toNat r.toNat))):=
  RdOk.mk λst hhp hag g a w hs=>by
    have hv:=hs.ev x;rw [hag x (by simp [ho,Op.operands]),hx] at hv;obtain⟨l,rfl⟩:=Int.eq_ofNat_of_zero_le h.1;obtain⟨r,rfl⟩:=Int.eq_ofNat_of_zero_le (show 0<=r by omega)
    have bound:∀ (d n:Nat) (q:Option Operand),(∀ y,q=some y->y∈o.op.operands)->bnd d (q.map ev)=some (n:Int)->(q.map a.eval=none/\n=d)\/∃ k,q.map a.eval=some (.int k n):=by
      intro d n q hq hb
      cases q with
      | none=>simp [bnd] at hb;exact .inl ⟨rfl,by omega⟩
      | some y=>
        have hy:=hs.ev y;rw [hag y (hq y rfl)] at hy;simp only [Option.map_some] at hb ⊢;unfold bnd at hb;split at hb
        · rename_i e;cases e
        · rename_i k m e
          rw [Option.some.inj e] at hy;cases hb;exact .inr ⟨k,by rw [int_inv hy]⟩
        cases hb
    have hlo':=bound 0 l lo (λy hy=>by subst hy;simp [ho,Op.operands]) hlo;have hhi':=bound s.size r hi (λy hy=>by subst hy;simp [ho,Op.operands]) hhi;refine⟨.string (s.extract l r),?_,.d _ _ (.str _)⟩;have:=zBR hu w s _ _ l r hlo' hhi' (by omega) (by omega);simp only [execOp,ho,str_inv hv];simp [this]
end Go.TL
