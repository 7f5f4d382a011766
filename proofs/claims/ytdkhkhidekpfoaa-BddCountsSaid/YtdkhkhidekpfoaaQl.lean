/- Texts of this proof, joined, without what it does not use. No condition. -/
import Derived.Lib.SlicesCompact
import Derived.Test.YtdkhkhidekpfoaaQk

namespace Go.TL
open Go.Sort Go.Proofs
variable {C:Ctx} {st:St} {g:Gh} {a:Act} {w:World} {P:Program}
theorem kB {k:Nat} {ids:List Nat} (h:((List.range k).all λi=>ids[i]? == some i)=true) (i:Nat) (hi:i < k):ids[i]?=some i:=by
  have:=zQT.1 h i (List.mem_range.2 hi);simpa using this
theorem Sim.upB (h:Sim C st g a w) {i j:Nat} {t e sz:Nat} {cs:List AV} (hb:st.hp[i]?=some (.box t cs)) (hc:cs[j]?=some (.d .nilsl)):Sim C ⟨st.fr,(st.hp.set i (.box t (cs.set j (.msl st.hp.length sz 0 0))))++[Blk.flat e sz []]⟩ g a w:=by
  have hi:=(zQQ.1 hb).1;have hv:=h.virt e sz
  have h2:Sim C ⟨st.fr,(st.hp++[Blk.flat e sz []]).set i (.box t (cs.set j (.msl st.hp.length sz 0 0)))⟩ g a w:=by
    have hrep:=h.hp i _ hb;obtain⟨b,cells,hp,hw,hps,hl,hr⟩:=hrep;refine { hv with hp:=λk B hk=>?_,lt:=λk b hk=>by have:=hv.lt k b hk;simpa using this,inj:=λk k' b Bk Bk' h1 h2 d1 d2 p1 p2=>?_,kle:=by simpa using hv.kle }
    · rw [List.getElem?_set] at hk
      split at hk
      · rename_i e1
        subst e1;split at hk
        · cases hk
          refine⟨b,cells,hp,hw,hps,by simpa using hl,λq c v hq hv'=>?_⟩;rw [List.getElem?_set] at hq;split at hq
          · rename_i e2
            subst e2;split at hq
            · cases hq
              have:=hr _ _ v hc hv'
              cases this with
              | d _ _ hd=>cases hd with
                | nilsl ad=>exact .msl0 _ _ _ _
            cases hq
          exact hr q c v hq hv'
        cases hk
      exact hv.hp k B hk
    have key:∀ (k:Nat) (Bk:Blk),((st.hp++[Blk.flat e sz []]).set i (.box t (cs.set j (.msl st.hp.length sz 0 0))))[k]?=some Bk->Bk≠.dead->∃ B',(st.hp++[Blk.flat e sz []])[k]?=some B'/\B'≠.dead:=by
      intro k Bk hk hd;rw [List.getElem?_set] at hk;split at hk
      · rename_i e1
        subst e1;exact⟨.box t cs,by rw [List.getElem?_append,if_pos hi];exact hb,λe=>by cases e⟩
      exact⟨Bk,hk,hd⟩
    obtain⟨B1,e1,d1'⟩:=key k Bk h1 d1;obtain⟨B2,e2,d2'⟩:=key k' Bk' h2 d2;exact hv.inj k k' b B1 B2 e1 e2 d1' d2' p1 p2
  rwa [List.set_append,if_pos hi] at h2
theorem mO {ops:Array Oper} {l:List Oper} {K:St->Prop} {fr:Fr} {hp:List Blk} {α:Type} {f:α->D} (i j N e sz:Nat) {t:TypeId} {cs:List AV} (hN:Nat.beq hp.length N=true) (hb:hp[i]?=some (.box t cs)) (hc:cs[j]?=some (.d .nilsl))
    (h:aH C ops l ⟨fr,(hp.set i (.box t (cs.set j (.msl N sz 0 ([]:List α).length))))++[Blk.flat e sz (([]:List α).map f)]⟩ K):aH C ops l ⟨fr,hp⟩ K:=by
  have e:=Nat.eq_of_beq_eq_true hN;subst e;exact λg a w hs=>h g a w (Sim.upB (st:=⟨fr,hp⟩) hs hb hc)
end Go.TL
set_option linter.unusedVariables false
set_option linter.unusedSimpArgs false
namespace Go.TL
open Go.Sort Go.Proofs
variable {C:Ctx}
theorem evD_of {l:List AV} {ds ds':List D} (h:evD l=some ds) (e:ds=ds'):evD l=some ds':=e ▸ h
theorem xR {α:Type} {f:α->D}:([]:List D)=([]:List α).map f:=rfl
theorem pE {α:Type} {f:α->D} {x:α} {d:D} {xs:List α} {ds:List D} (h:f x=d) (t:ds=xs.map f):d :: ds=(x :: xs).map f:=by rw [List.map_cons,h,t]
theorem vK {α:Type} {f:α->D} {sz:Nat} {xs:List α} (h:∀ x,(f x).cells.length=sz):((xs.map f).all λd=>Nat.beq d.cells.length sz)=true:=by
  rw [zQT];intro d hd;obtain⟨x,_,rfl⟩:=List.mem_map.1 hd;rw [h x];exact Nat.beq_refl sz
section rd
variable {T:Tab} {o:Oper} {ev:Operand->AV} {hp:List Blk} {α:Type} {f:α->D} {xs ys:List α}
theorem vX {t e sz by':Nat} {a b:Operand} {k:IntKind} {i:Int} {x:α} {d:D} (hT:TabOk C.P T) (ho:o.op=.indexAddr t a b) (hl:lk T.sel t=some (e,sz,by')) (ha:ev a=.d (.sl sz (xs.map f))) (hb:ev b=.d (.int k i)) (h:0<=i/\xs[i.toNat]?=some x) (hf:f x=d):RdOk C o ev hp (.d (.ptr d 0)):=
  hf ▸ dD hT ho hl ha hb h
theorem x_litE {t e sz by' n:Nat} {parts:Array (Nat×Operand)} {z:Value} (l:List Operand) (hT:TabOk C.P T) (ho:o.op=.buildSlice t n parts) (hl:lk T.sel t=some (e,sz,by')) (hz:(C.P.info? e).bind (·.zero)=some z) (hp':cM parts l)
    (hx:evD (l.map ev)=some (xs.map f)) (hn:Nat.beq (xs.map f).length n=true) (hs:((xs.map f).all λd=>Nat.beq d.cells.length sz)=true) (hsmall:Nat.ble (n * sz) 16777216=true):RdOk C o ev hp (.d (.sl sz (xs.map f))):=dW l hT ho hl hz hp' hx hn hs hsmall
end rd
variable {P:Program} {C:Ctx} {o:Oper} {ev:Operand->AV} {hp:List Blk} {t t':TypeId} {x y:Operand}
def arK (op:BinOp) (k:IntKind) (m n:Int):Option Int:=match op with
  | .add=>some (k.wrap (m+n))
  | .sub=>some (k.wrap (m - n))
  | .mul=>some (k.wrap (m * n))
  | .quo=>if n=0 then none else some (k.wrap (m.tdiv n))
  | .rem=>if n=0 then none else some (m.tmod n)
  | .and=>some (k.wrap (BitVec.ofInt k.bits m &&& BitVec.ofInt k.bits n).toNat)
  | .or=>some (k.wrap (BitVec.ofInt k.bits m ||| BitVec.ofInt k.bits n).toNat)
  | .xor=>some (k.wrap (BitVec.ofInt k.bits m ^^^ BitVec.ofInt k.bits n).toNat)
  | _=>none
theorem oR {op:BinOp} {k:IntKind} {m n r:Int} (ho:o.op=.binOp op t x y t') (hx:ev x=.d (.int k m)) (hy:ev y=.d (.int k n)) (hr:arK op k m n=some r):RdOk C o ev hp (.d (.int k r)):=
  RdOk.mk λst hhp hag g a w hs=>by
    have h:=hs.ev x;rw [hag x (by simp [ho,Op.operands]),hx] at h;have hi:=hs.ev y;rw [hag y (by simp [ho,Op.operands]),hy] at hi;refine⟨.int k r,?_,.d _ _ (.int k r)⟩;simp only [execOp,ho,int_inv h,int_inv hi]
    cases op<;>simp only [arK] at hr<;>first
      | (cases hr;simp [eqGuard,binOp,Op.intArith,Op.intBits];done)
      | (split at hr
         · cases hr
         rename_i hn; cases hr; simp [eqGuard, binOp, Op.intDiv, hn])
      | cases hr
def shK (op:BinOp) (k:IntKind) (m n:Int):Option Int:=match op with
  | .shl=>some (k.wrap (m * 2 ^ (min n.toNat k.bits)))
  | .shr=>some (m.fdiv (2 ^ (min n.toNat k.bits)))
  | _=>none
theorem mM {op:BinOp} {k k':IntKind} {m n r:Int} (ho:o.op=.binOp op t x y t') (hx:ev x=.d (.int k m)) (hy:ev y=.d (.int k' n)) (hr:shK op k m n=some r) (h0:0<=n):RdOk C o ev hp (.d (.int k r)):=
  RdOk.mk λst hhp hag g a w hs=>by
    have h:=hs.ev x;rw [hag x (by simp [ho,Op.operands]),hx] at h;have hi:=hs.ev y;rw [hag y (by simp [ho,Op.operands]),hy] at hi;refine⟨.int k r,?_,.d _ _ (.int k r)⟩;have hn:¬ n < 0:=by omega
    simp only [execOp,ho,int_inv h,int_inv hi];cases op<;>simp only [shK] at hr<;>cases hr<;>simp [eqGuard,binOp,Op.shift,hn]
theorem yO {s:TypeId} {k k':IntKind} {n:Int} {us:TypeDesc} (ho:o.op=.convert s t x) (hs:C.P.underlying s=some us) (ht:C.P.underlying t=some (.int k')) (hx:ev x=.d (.int k n)):RdOk C o ev hp (.d (.int k' (k'.wrap n))):=tH k k' n us ho hs ht hx
theorem kL {ids:List Nat} {n m i:Nat} (h:i < ids.length):back ids n i=back ids m i:=by
  unfold back;rw [zQR h]
theorem gZ {ids:List Nat} {i j:Nat} (h:aE ids i=some j):j < ids.length:=(zQQ.1 (aM ids i j h)).1
mutual
theorem rX (ids:List Nat) (n m:Nat):∀ v:AV,AV.mapRef (fwd ids n) (AV.mapRef (toName (aE ids)) v)=AV.mapRef (fwd ids m) (AV.mapRef (toName (aE ids)) v)
  | .junk=>rfl
  | .und=>rfl
  | .d x=>rfl
  | .msl i s o l=>by
    simp only [AV.mapRef,toName]
    cases h:aE ids i with
    | none=>rfl
    | some j=>simp only [AV.mapRef,fwd,kL (n:=n) (m:=m) (gZ h)]
  | .mptr i s x o=>by
    simp only [AV.mapRef,toName]
    cases h:aE ids i with
    | none=>rfl
    | some j=>simp only [AV.mapRef,fwd,kL (n:=n) (m:=m) (gZ h)]
  | .mmap i=>by
    simp only [AV.mapRef,toName]
    cases h:aE ids i with
    | none=>rfl
    | some j=>simp only [AV.mapRef,fwd,kL (n:=n) (m:=m) (gZ h)]
  | .yld i=>by
    simp only [AV.mapRef,toName]
    cases h:aE ids i with
    | none=>rfl
    | some j=>simp only [AV.mapRef,fwd,kL (n:=n) (m:=m) (gZ h)]
  | .mmapN i q=>by
    simp only [AV.mapRef,toName]
    cases h:aE ids i with
    | none=>rfl
    | some j=>simp only [AV.mapRef,fwd,kL (n:=n) (m:=m) (gZ h)]
  | .agg cs=>by simp only [AV.mapRef,iM ids n m cs]
  | .tup cs=>by simp only [AV.mapRef,iM ids n m cs]
  | .fnc f cs=>by simp only [AV.mapRef,iM ids n m cs]
  | .ifc t c=>by simp only [AV.mapRef,rX ids n m c]
theorem iM (ids:List Nat) (n m:Nat):∀ cs:List AV,AV.mapRefs (fwd ids n) (AV.mapRefs (toName (aE ids)) cs)=AV.mapRefs (fwd ids m) (AV.mapRefs (toName (aE ids)) cs)
  | []=>rfl
  | c :: r=>by simp only [AV.mapRefs,rX ids n m c,iM ids n m r]
end
theorem mF {ops:Array Oper} {K:St->Prop} {l:List Oper} {fr:Fr} {hp:List Blk} {acc:List Rec} {o oq:Oper} (q dq:Nat) (h:aH C ops (o :: l) ⟨fr,hp⟩ K) (h2:aH C ops (o :: oq :: l) ⟨(dq,.junk) :: fr,hp⟩ K) (hq:ops.toList[q]?=some oq) (hdq:(acc.map Rec.d)[q]?=some dq) (hws:(acc.map dG)[q]?.map (·.2)=some []) (hE:kG q ops.toList acc.length (acc.map Rec.d) (acc.map dG)=true):TDr C ops K (o :: l) fr hp acc:=
  .tailq q o oq l fr hp acc dq hE hq hdq hws h h2
end Go.TL
