/- Texts of this proof, joined, without what it does not use. No condition. -/
import Derived.Laws.BytesArg
import Derived.Test.YtldaknhjmhlefaaGreatDoorQp

set_option linter.unusedVariables false
set_option linter.unusedSimpArgs false
set_option linter.unusedSectionVars false
namespace Go.TL
open Go.Sort Go.Proofs
variable {P:Program} {C:Ctx} {st:St} {g:Gh} {a:Act} {w:World}
section
variable {o:Oper} {ev:Operand→AV} {hp:List Blk} {t t' e arr:TypeId} {x y:Operand}
theorem qGT {s:ByteArray} {k:IntKind} {i:Int} {b:UInt8} (ho:o.op=.index t x y) (hu:C.P.underlying t=some .string) (hx:ev x=.d (.str s)) (hy:ev y=.d (.int k i)) (h:0≤i∧s.data.toList[i.toNat]?=some b):RdOk C o ev hp (.d (.int .u8 (b.toNat:Int))):=
  RdOk.mk λst hhp hag g a w hs=>by
    have hv:=hs.ev x;rw [hag x (by simp [ho,Op.operands]),hx] at hv;have hi:=hs.ev y;rw [hag y (by simp [ho,Op.operands]),hy] at hi
    have hxv:a.eval x=.string s:=by
      generalize a.eval x=v at *;cases hv with|d _ _ h=>cases h;rfl
    have hsb:s[i.toNat]?=some b:=by
      have h2:=h.2;rw [zQQ] at h2;obtain⟨hlt,h2⟩:=h2;have hlt':i.toNat < s.size:=hlt;rw [getElem?_pos s i.toNat hlt'];exact congrArg some h2
    refine⟨.int .u8 b.toNat,?_,.d _ _ (.int _ _)⟩;have h0:=h.1;simp only [execOp,ho,hxv,int_inv hi];simp [Instr.index,run_underlying hu,asIntOf,h0,hsb]
theorem x_bstr {xs:List Int} (ho:o.op=.convert t t' x) (hs:C.P.underlying t=some (.slice e)) (he:C.P.underlying e=some (.int .u8)) (hd:C.P.underlying t'=some .string) (hx:ev x=.d (.sl 1 (xs.map (D.int .u8)))):RdOk C o ev hp (.d (.str (strOfNums xs))):=
  RdOk.mk λst hhp hag g a w hsim=>by
    have hv:=hsim.ev x;rw [hag x (by simp [ho,Op.operands]),hx] at hv;generalize hev:a.eval x=v at *
    have key:∀ (ad:Option Addr) (cap:Nat),v=.slice ad xs.length cap→(Conv.bytesToString v).run C.P w=.ok (.string (strOfNums xs)) w→(execOp a.eval o).run C.P w=.ok (.value (.string (strOfNums xs))) w:=by
      intro ad cap hv h;simp only [execOp,ho,hev,Sem.run_bind];rw [hv,run_convert_bytes_string w t t' e ad xs.length cap hs he hd,← hv,h];rfl
    refine⟨.string (strOfNums xs),?_,.d _ _ (.str _)⟩
    cases hv with
    | d _ _ h=>
      generalize hes:xs.map (D.int .u8)=es at h
      cases h with
      | sl0 _ ad cap=>
        have hx0:xs=[]:=by simpa using hes
        subst hx0;refine key ad cap rfl ?_
        cases ad with
        | none=>simp [Conv.bytesToString];rfl
        | some ad=>
          rw [run_bytesToString w ad 0 cap [] (run_loadCells_list (P:=C.P) w ad [] (λj v h=>by simp at h)),foldl_push_bytes];rfl
      | sl _ _ ad cap val hX hc hsz h1 hv hr=>
        subst hes;simp only [zQC] at *;refine key (some ad) cap rfl ?_
        have hl:(loadCells ad xs.length).run C.P w=.ok (xs.map (Value.int .u8)).toArray w:=by
          have := run_loadCells_list (P := C.P) w ad (xs.map (Value.int .u8)) (fun j v hj => by
            simp only [zQP, zQO] at hj;obtain ⟨n, hn, rfl⟩ := hj;have h3 := hv j (D.int .u8 n) 0 (D.int .u8 n) (by simp [hn]) rfl;have h4 := hr j (D.int .u8 n) 0 (D.int .u8 n) (by simp [hn]) rfl;rw [Nat.mul_one, Nat.add_zero] at h3;rw [h3];generalize val j 0 = u at h4;cases h4
            rfl)
          simpa using this
        rw [run_bytesToString w ad xs.length cap xs hl,foldl_push_bytes];simp [strOfNums,ByteArray.empty,ByteArray.emptyWithCapacity];rfl
end
section
variable {o:Oper} {ev:Operand→AV} {hp:List Blk} {x:Operand}
theorem x_cutA {α:Type} {f:α→D} {xs:List α} {t e:TypeId} {n:Nat} {lo hi:Option Operand} {l r:Int} (ho:o.op=.slice t x lo hi none) (hu:C.P.underlying t=some (.array n e)) (hl:lay C.P e=some (false,1)) (hx:ev x=.d (.ptr (.agg (xs.map f)) 0)) (hn:Nat.beq n xs.length=true) (hlo:bnd 0 (lo.map ev)=some l) (hhi:bnd n (hi.map ev)=some r) (h:0≤l∧l≤r∧r≤n):RdOk C o ev hp (.d (.sl 1 ((sub xs l r).map f))):=
  RdOk.mk λst hhp hag g a w hs=>by
    have hv:=hs.ev x;rw [hag x (by simp [ho,Op.operands]),hx] at hv;have hn':=Nat.eq_of_beq_eq_true hn;obtain⟨l,rfl⟩:=Int.eq_ofNat_of_zero_le h.1;obtain⟨r,rfl⟩:=Int.eq_ofNat_of_zero_le (show 0≤r by omega)
    have bound:∀ (d m:Nat) (q:Option Operand),(∀ y,q=some y→y∈o.op.operands)→bnd d (q.map ev)=some (m:Int)→(q.map a.eval=none∧m=d)∨∃ k,q.map a.eval=some (.int k m):=by
      intro d m q hq hb
      cases q with
      | none=>simp [bnd] at hb;exact .inl ⟨rfl,by omega⟩
      | some y=>
        have hy:=hs.ev y;rw [hag y (hq y rfl)] at hy;simp only [Option.map_some] at hb ⊢;unfold bnd at hb;split at hb
        · rename_i e;cases e
        · rename_i k m' e
          rw [Option.some.inj e] at hy;cases hb;exact .inr ⟨k,by rw [int_inv hy]⟩
        cases hb
    have hlo':=bound 0 l lo (λy hy=>by subst hy;simp [ho,Op.operands]) hlo;have hhi':=bound n r hi (λy hy=>by subst hy;simp [ho,Op.operands]) hhi;have h1:l≤r:=by omega
    have h2:r≤n:=by omega
    obtain⟨q1,q2⟩:=vI hl w;generalize hev:a.eval x=vx at *
    cases hv with
    | d _ _ hd=>
      cases hd with
      | ptr _ _ ad val hX h1' hv hr=>
        have hrun:(execOp a.eval o).run C.P w=.ok (.value (.slice (some (if n=l then ad else ad.add (l * 1))) (r - l) (n - l))) w:=by
          simp only [execOp,ho,hev];have e1:(l:Int)≤r:=by omega
          have e2:(r:Int)≤n:=by omega
          rcases hlo' with ⟨hlo',rfl⟩|⟨k,hlo'⟩<;>rcases hhi' with ⟨hhi',rfl⟩|⟨k',hhi'⟩<;>rw [hlo',hhi']<;>
            simp [Instr.sliceAt,run_underlying hu,Instr.sureAddr,Instr.sliceBounds,Instr.sliceBound,asIntOf,q2,h1,h2,e1,e2]
        have hsub:sub xs (l:Int) (r:Int)=(xs.drop l).take (r - l):=rfl;refine⟨_,hrun,.d _ _ ?_⟩;rw [hsub,List.map_take,List.map_drop];have hlen:(((xs.map f).drop l).take (r - l)).length=r - l:=by simp;omega
        by_cases he:((xs.map f).drop l).take (r - l)=[]
        · have h0 : r - l = 0 := by rw [← hlen, he]; rfl
          rw [he,h0];exact .sl0 _ _ _
        have hpos : 0 < r - l := by rw [← hlen]; exact List.length_pos_iff.2 he
        have hds:∀ (i:Nat) (e:D),(((xs.map f).drop l).take (r - l))[i]?=some e→(xs.map f)[l+i]?=some e:=by
          intro i e he;rw [List.getElem?_take] at he;split at he
          · rwa [List.getElem?_drop] at he
          cases he
        have hone:∀ d∈xs.map f,d.one=true:=h1'
        have hcell:∀ {d:D},d∈xs.map f→d.cells=[d]:=fun {d} hd=>by
          have:=hone d hd;cases d<;>first|rfl|cases this
        rw [if_neg (by omega)]
        have := DRep.sl (w := w) (X := g.X) 1 (((xs.map f).drop l).take (r - l)) (ad.add (l * 1)) (n - l) (fun i j => val (l + i)) (by rw [oM]; exact hX) (by rw [hlen]; omega)
          (fun i e he => by rw [hcell (zQM (hds i e he))]; rfl) (fun i e j c he hc => by
            rw [hcell (zQM (hds i e he))] at hc
            cases j with
            | zero => cases hc; exact hone _ (zQM (hds i _ he))
            | succ j => cases hc)
          (fun i e j c he hc => by
            rw [hcell (zQM (hds i e he))] at hc
            cases j with
            | zero =>
              cases hc;have := hv (l + i) _ (by rw [Nat.zero_add]; exact hds i _ he);rw [vB, show l * 1 + (i * 1 + 0) = l + i by omega];exact this
            | succ j => cases hc) (fun i e j c he hc => by
            rw [hcell (zQM (hds i e he))] at hc
            cases j with
            | zero =>
              cases hc;exact hr (l + i) _ (by rw [Nat.zero_add]; exact hds i _ he)
            | succ j => cases hc)
        rw [hlen] at this;exact this
end
theorem qHB {o:Oper} {ev:Operand→AV} {hp:List Blk} {f:Operand} {xs:Array Operand} {ts:Array TypeId} {F:FuncId} {mv:Nat→Bool} {ds rs:List D} (ho:o.op=.call { callee:=.value f,args:=xs,argTypes:=ts }) (hf:ev f=.d (.fn F)) (hx:wW hp (xs.toList.map ev) ds) (hret:Ret C.P F [] mv (ds.map .d) (.tup (rs.map .d)) []) (hm:rs.all D.mem0=true):RdOk C o ev hp (.tup (rs.map .d)):=by
  intro st hhp hag g a w hs Q K' hK;have hfv:=hs.ev f;rw [hag f (by simp [ho,Op.operands,Call.operands]),hf] at hfv
  have hx':wW st.hp (xs.toList.map st.fr.ev) ds:=by
    refine⟨by have:=hx.1;simpa using this,λi x d hxi hd=>?_⟩;simp only [zQP,zQO] at hxi;obtain⟨y,hy,rfl⟩:=hxi;rw [hag y (by simp only [ho,Op.operands,Call.operands];exact Array.mem_append.2 (.inr (Array.mem_toList_iff.1 (zQM hy))))];exact (hx.2 i (ev y) d (by simp [hy]) hd).le hhp
  have hargs:=qNQ hs hx' (Y:=λb=>b < w.heap.size) hs.Xlt λi b hp=>(hs.lt i b hp).1;simp only [Oper.wp,gD ho (qJR hfv) hret.1,Oper.upon_enter,Array.append_empty];refine (hret.2 w (fV λb=>b < w.heap.size) _ (qSI hs mv λ_ h=>h) hargs).mono ?_;rintro e w' ⟨v,g',rfl,hout,hr⟩;have hold:∀ b,b < w.heap.size→w'.heap[b]?=w.heap[b]?:=λb hb=>hout.keep b hb λi hi=>absurd hi (zQV i);have hsz:=hout.grown;simp only at hsz;have hgr:Grow w g w' g:=⟨λ_ _ h=>h,λ_ _ _=>rfl,λ_ h=>h,λb hb=>hold b (hs.Xlt b hb)⟩;refine hK v w' g ?_ ?_
  · exact { defers := hs.defers, size := hs.size, fr := fun t => (hs.fr t).mono hgr, hp := fun i B hB => (hs.hp i B hB).mono hgr id fun b hb => hold b (hs.lt i b hb).1, lt := fun i b hp => by have := hs.lt i b hp; exact ⟨by omega, this.2.1, this.2.2⟩, inj := hs.inj, Xlt := fun b hb => by have := hs.Xlt b hb; omega, Xold := hs.Xold
            os := hout.os.trans hs.os, tape := hout.tape.trans hs.tape, output := hout.output.trans hs.output, drawn := Nat.le_trans hs.drawn hout.drawn, grown := Nat.le_trans hs.grown hsz, keep := fun b hb hk => by rw [hold b (by have := hs.grown; omega)]; exact hs.keep b hb hk, own := hs.own, stay := hs.stay, kle := hs.kle }
  cases hr with
  | tup _ us hl hr=>
    refine .tup _ us hl λi c u hci hu=>?_;have h1:=hr i c u hci hu;simp only [zQP,zQO] at hci;obtain⟨d,hd,rfl⟩:=hci;have hdm:D.mem0 d=true:=zQT.1 hm d (zQM hd)
    cases h1 with
    | d _ _ h=>exact .d _ _ (h.any hdm)
end Go.TL
set_option maxHeartbeats 8000000
set_option linter.unusedSimpArgs false
set_option linter.unusedVariables false
set_option maxRecDepth 20000
namespace Go.Proofs.YtldaknhjmhlefaaGreatDoor
open Go Go.TL
structure Step where
 el:Int
 inV:Int
 out:Int
deriving DecidableEq,Inhabited
def Step.enc (x:Step):D:=.agg [.int .i64 x.el,.int .i64 x.inV,.int .i64 x.out]
structure Step.Wf (x:Step):Prop where
 el:I64 x.el
 inV:I64 x.inV
 out:I64 x.out
structure Setting where
 el:Int
 pos:Int
deriving DecidableEq,Inhabited
def Setting.enc (x:Setting):D:=.agg [.int .i64 x.el,.int .i64 x.pos]
structure Setting.Wf (x:Setting):Prop where
 el:I64 x.el
 pos:I64 x.pos
structure End where
 el:Int
 side:Int
deriving DecidableEq,Inhabited
def End.enc (x:End):D:=.agg [.int .i64 x.el,.int .i64 x.side]
structure End.Wf (x:End):Prop where
 el:I64 x.el
 side:I64 x.side
structure Route where
 name:ByteArray
 entry:Int
 exit:Int
 path:(List Step)
 points:(List Setting)
 sections:(List Int)
 approach:Int
 length:Int
 over:(List Step)
 overPoints:(List Setting)
 overSections:(List Int)
 flank:(List Setting)
 guards:(List Int)
 gaps:(List End)
deriving DecidableEq,Inhabited
def Route.enc (x:Route):D:=.agg [.str x.name,.int .i64 x.entry,.int .i64 x.exit,.sl 3 (x.path.map Step.enc),.sl 2 (x.points.map Setting.enc),.sl 1 (x.sections.map (D.int .i64)),.int .i64 x.approach,.int .i64 x.length,.sl 3 (x.over.map Step.enc),.sl 2 (x.overPoints.map Setting.enc),.sl 1 (x.overSections.map (D.int .i64)),.sl 2 (x.flank.map Setting.enc),.sl 1 (x.guards.map (D.int .i64)),.sl 2 (x.gaps.map End.enc)]
structure Route.Wf (x:Route):Prop where
 name:x.name.size≤reachBytes
 entry:I64 x.entry
 exit:I64 x.exit
 path:x.path.length≤reachBytes∧∀ y∈x.path,Step.Wf y
 points:x.points.length≤reachBytes∧∀ y∈x.points,Setting.Wf y
 sections:x.sections.length≤reachBytes∧∀ y∈x.sections,I64 y
 approach:I64 x.approach
 length:I64 x.length
 over:x.over.length≤reachBytes∧∀ y∈x.over,Step.Wf y
 overPoints:x.overPoints.length≤reachBytes∧∀ y∈x.overPoints,Setting.Wf y
 overSections:x.overSections.length≤reachBytes∧∀ y∈x.overSections,I64 y
 flank:x.flank.length≤reachBytes∧∀ y∈x.flank,Setting.Wf y
 guards:x.guards.length≤reachBytes∧∀ y∈x.guards,I64 y
 gaps:x.gaps.length≤reachBytes∧∀ y∈x.gaps,End.Wf y
structure Table where
 routes:(List Route)
 points:(List Int)
 homes:(List Int)
 sections:Int
 signals:Int
deriving DecidableEq,Inhabited
def Table.enc (x:Table):D:=.agg [.sl 14 (x.routes.map Route.enc),.sl 1 (x.points.map (D.int .i64)),.sl 1 (x.homes.map (D.int .i64)),.int .i64 x.sections,.int .i64 x.signals]
structure Table.Wf (x:Table):Prop where
 routes:x.routes.length≤reachBytes∧∀ y∈x.routes,Route.Wf y
 points:x.points.length≤reachBytes∧∀ y∈x.points,I64 y
 homes:x.homes.length≤reachBytes∧∀ y∈x.homes,I64 y
 sections:I64 x.sections
 signals:I64 x.signals
structure Element where
 name:ByteArray
 kind:Int
 length:Int
 grade:Int
 speed:Int
 slow:Int
 sectionV:Int
deriving DecidableEq,Inhabited
def Element.enc (x:Element):D:=.agg [.str x.name,.int .i64 x.kind,.int .i64 x.length,.int .i64 x.grade,.int .i64 x.speed,.int .i64 x.slow,.int .i64 x.sectionV]
structure Element.Wf (x:Element):Prop where
 name:x.name.size≤reachBytes
 kind:I64 x.kind
 length:I64 x.length
 grade:I64 x.grade
 speed:I64 x.speed
 slow:I64 x.slow
 sectionV:I64 x.sectionV
structure Joint where
 a:End
 b:End
deriving DecidableEq,Inhabited
def Joint.enc (x:Joint):D:=.agg [.int .i64 x.a.el,.int .i64 x.a.side,.int .i64 x.b.el,.int .i64 x.b.side]
structure Joint.Wf (x:Joint):Prop where
 a:End.Wf x.a
 b:End.Wf x.b
structure Signal where
 name:ByteArray
 atV:End
 overlap:Int
deriving DecidableEq,Inhabited
def Signal.enc (x:Signal):D:=.agg [.str x.name,.int .i64 x.atV.el,.int .i64 x.atV.side,.int .i64 x.overlap]
structure Signal.Wf (x:Signal):Prop where
 name:x.name.size≤reachBytes
 atV:End.Wf x.atV
 overlap:I64 x.overlap
structure Balise where
 id:Int
 el:Int
 offset:Int
deriving DecidableEq,Inhabited
def Balise.enc (x:Balise):D:=.agg [.int .i64 x.id,.int .i64 x.el,.int .i64 x.offset]
structure Balise.Wf (x:Balise):Prop where
 id:I64 x.id
 el:I64 x.el
 offset:I64 x.offset
structure Layout where
 name:ByteArray
 sections:(List ByteArray)
 elements:(List Element)
 joints:(List Joint)
 signals:(List Signal)
 balises:(List Balise)
deriving DecidableEq,Inhabited
def Layout.enc (x:Layout):D:=.agg [.str x.name,.sl 1 (x.sections.map D.str),.sl 7 (x.elements.map Element.enc),.sl 4 (x.joints.map Joint.enc),.sl 4 (x.signals.map Signal.enc),.sl 3 (x.balises.map Balise.enc)]
structure Layout.Wf (x:Layout):Prop where
 name:x.name.size≤reachBytes
 sections:x.sections.length≤reachBytes∧∀ y∈x.sections,y.size≤reachBytes
 elements:x.elements.length≤reachBytes∧∀ y∈x.elements,Element.Wf y
 joints:x.joints.length≤reachBytes∧∀ y∈x.joints,Joint.Wf y
 signals:x.signals.length≤reachBytes∧∀ y∈x.signals,Signal.Wf y
 balises:x.balises.length≤reachBytes∧∀ y∈x.balises,Balise.Wf y
structure A3_string where
 a0:(List ByteArray)
 a1:(List ByteArray)
 a2:(List ByteArray)
deriving DecidableEq,Inhabited
def A3_string.enc (x:A3_string):D:=.agg [.sl 1 (x.a0.map D.str),.sl 1 (x.a1.map D.str),.sl 1 (x.a2.map D.str)]
structure A3_string.Wf (x:A3_string):Prop where
 a0:x.a0.length≤reachBytes∧∀ y∈x.a0,y.size≤reachBytes
 a1:x.a1.length≤reachBytes∧∀ y∈x.a1,y.size≤reachBytes
 a2:x.a2.length≤reachBytes∧∀ y∈x.a2,y.size≤reachBytes
structure Paths where
 l:(List (List Step))
deriving DecidableEq,Inhabited
structure Paths.Wf (x:Paths):Prop where
 l:x.l.length≤reachBytes∧∀ y∈x.l,y.length≤reachBytes∧∀ z∈y,Step.Wf z
structure Numbering where
 t:Table
 inputs:Int
 bases:(List Int)
 extra:Int
 count:Int
deriving DecidableEq,Inhabited
def Numbering.enc (x:Numbering):D:=.agg [.sl 14 (x.t.routes.map Route.enc),.sl 1 (x.t.points.map (D.int .i64)),.sl 1 (x.t.homes.map (D.int .i64)),.int .i64 x.t.sections,.int .i64 x.t.signals,.int .i64 x.inputs,.sl 1 (x.bases.map (D.int .i64)),.int .i64 x.extra,.int .i64 x.count]
structure Numbering.Wf (x:Numbering):Prop where
 t:Table.Wf x.t
 inputs:I64 x.inputs
 bases:x.bases.length≤reachBytes∧∀ y∈x.bases,I64 y
 extra:I64 x.extra
 count:I64 x.count
structure Expr where
 op:Int
 var:Int
 args:(List Expr)
instance:Inhabited Expr:=⟨⟨default,default,[]⟩⟩
mutual
def Expr.encR:Expr→D
 | ⟨a0,a1,a2⟩=>.agg [.int .i64 a0,.int .i64 a1,.sl 3 (Expr.encsR a2)]
def Expr.encsR:List Expr→List D
 | []=>[]
 | e :: r=>Expr.encR e :: Expr.encsR r
end
theorem Expr.encsR_map:∀ xs:List Expr,Expr.encsR xs=xs.map Expr.encR
 | []=>by simp [Expr.encsR]
 | e :: r=>by simp [Expr.encsR,Expr.encsR_map r]
def Expr.enc (x:Expr):D:=.agg [.int .i64 x.op,.int .i64 x.var,.sl 3 (x.args.map Expr.encR)]
theorem Expr.encR_eq (x:Expr):x.encR=x.enc:=by cases x;simp [Expr.encR,Expr.enc,Expr.encsR_map]
theorem Expr.encR_cells (x:Expr):x.encR.cells.length=3:=by rw [Expr.encR_eq];rfl
mutual
def Expr.beq:Expr→Expr→Bool
 | ⟨a0,a1,a2⟩,⟨b0,b1,b2⟩=>decide (a0=b0)&&decide (a1=b1)&&Expr.beqs a2 b2
def Expr.beqs:List Expr→List Expr→Bool
 | [],[]=>true
 | x :: xs,y :: ys=>Expr.beq x y&&Expr.beqs xs ys
 | _,_=>false
end
mutual
theorem Expr.beq_iff:∀ a b:Expr,Expr.beq a b=true↔a=b
 | ⟨a0,a1,a2⟩,⟨b0,b1,b2⟩=>by simp [Expr.beq,Expr.beqs_iff a2 b2,and_assoc]
theorem Expr.beqs_iff:∀ a b:List Expr,Expr.beqs a b=true↔a=b
 | [],[]=>by simp [Expr.beqs]
 | [],_ :: _=>by simp [Expr.beqs]
 | _ :: _,[]=>by simp [Expr.beqs]
 | x :: xs,y :: ys=>by simp [Expr.beqs,Expr.beq_iff x y,Expr.beqs_iff xs ys]
end
instance:DecidableEq Expr:=λa b=>decidable_of_iff _ (Expr.beq_iff a b)
inductive Expr.Wf:Expr→Prop
 | mk (x:Expr) (h0:I64 x.op) (h1:I64 x.var) (h2:x.args.length≤reachBytes) (g2:∀ y∈x.args,Expr.Wf y):Expr.Wf x
structure Rung where
 kind:Int
 var:Int
 preset:Int
 expr:Expr
deriving DecidableEq,Inhabited
def Rung.enc (x:Rung):D:=.agg [.int .i64 x.kind,.int .i64 x.var,.int .i64 x.preset,.int .i64 x.expr.op,.int .i64 x.expr.var,.sl 3 (x.expr.args.map Expr.encR)]
structure Rung.Wf (x:Rung):Prop where
 kind:I64 x.kind
 var:I64 x.var
 preset:I64 x.preset
 expr:Expr.Wf x.expr
structure Builder where
 numbering:Numbering
 rungs:(List Rung)
deriving DecidableEq,Inhabited
structure Builder.Wf (x:Builder):Prop where
 numbering:Numbering.Wf x.numbering
 rungs:x.rungs.length≤reachBytes∧∀ y∈x.rungs,Rung.Wf y
structure Program where
 names:(List ByteArray)
 inputs:Int
 rungs:(List Rung)
deriving DecidableEq,Inhabited
def Program.enc (x:Program):D:=.agg [.sl 1 (x.names.map D.str),.int .i64 x.inputs,.sl 6 (x.rungs.map Rung.enc)]
structure Program.Wf (x:Program):Prop where
 names:x.names.length≤reachBytes∧∀ y∈x.names,y.size≤reachBytes
 inputs:I64 x.inputs
 rungs:x.rungs.length≤reachBytes∧∀ y∈x.rungs,Rung.Wf y
structure Obligation where
 name:ByteArray
 expr:Expr
deriving DecidableEq,Inhabited
def Obligation.enc (x:Obligation):D:=.agg [.str x.name,.int .i64 x.expr.op,.int .i64 x.expr.var,.sl 3 (x.expr.args.map Expr.encR)]
structure Obligation.Wf (x:Obligation):Prop where
 name:x.name.size≤reachBytes
 expr:Expr.Wf x.expr
structure Collector where
 table:Table
 vars:(List (ByteArray×Int))
 list:(List Obligation)
deriving DecidableEq,Inhabited
structure Collector.Wf (x:Collector):Prop where
 table:Table.Wf x.table
 vars:True
 list:x.list.length≤reachBytes∧∀ y∈x.list,Obligation.Wf y
structure A4_string where
 a0:ByteArray
 a1:ByteArray
 a2:ByteArray
 a3:ByteArray
deriving DecidableEq,Inhabited
structure A4_string.Wf (x:A4_string):Prop where
 a0:x.a0.size≤reachBytes
 a1:x.a1.size≤reachBytes
 a2:x.a2.size≤reachBytes
 a3:x.a3.size≤reachBytes
structure If_node where
 tid:Nat
 e:Expr
deriving DecidableEq,Inhabited
def If_node.enc (x:If_node):D:=.iface x.tid (.agg [.ptr x.e.enc 0])
structure Machine where
 vars:(List Bool)
 counts:(List Int)
 halted:Bool
deriving DecidableEq,Inhabited
def Machine.enc (x:Machine):D:=.agg [.sl 1 (x.vars.map D.bool),.sl 1 (x.counts.map (D.int .i64)),.bool x.halted]
structure Machine.Wf (x:Machine):Prop where
 vars:x.vars.length≤reachBytes∧∀ y∈x.vars,True
 counts:x.counts.length≤reachBytes∧∀ y∈x.counts,I64 y
 halted:True
structure Places where
 points:Int
 routes:Int
 lies:Int
 aux:Int
 all:Int
 states:(List Int)
deriving DecidableEq,Inhabited
def Places.enc (x:Places):D:=.agg [.int .i64 x.points,.int .i64 x.routes,.int .i64 x.lies,.int .i64 x.aux,.int .i64 x.all,.sl 1 (x.states.map (D.int .i64))]
structure Places.Wf (x:Places):Prop where
 points:I64 x.points
 routes:I64 x.routes
 lies:I64 x.lies
 aux:I64 x.aux
 all:I64 x.all
 states:x.states.length≤reachBytes∧∀ y∈x.states,I64 y
structure Compiler where
 t:Table
 p:Places
 rungs:(List Rung)
deriving DecidableEq,Inhabited
structure Compiler.Wf (x:Compiler):Prop where
 t:Table.Wf x.t
 p:Places.Wf x.p
 rungs:x.rungs.length≤reachBytes∧∀ y∈x.rungs,Rung.Wf y
structure Moment where
 machine:Machine
 inputs:(List Bool)
deriving DecidableEq,Inhabited
structure Moment.Wf (x:Moment):Prop where
 machine:Machine.Wf x.machine
 inputs:x.inputs.length≤reachBytes∧∀ y∈x.inputs,True
structure Inputs where
 occupied:(List Bool)
 detected:(List Int)
 closed:(List Bool)
 claimed:(List Bool)
 passed:(List Bool)
 calls:(List Int)
 cancels:(List Int)
deriving DecidableEq,Inhabited
structure Inputs.Wf (x:Inputs):Prop where
 occupied:x.occupied.length≤reachBytes∧∀ y∈x.occupied,True
 detected:x.detected.length≤reachBytes∧∀ y∈x.detected,I64 y
 closed:x.closed.length≤reachBytes∧∀ y∈x.closed,True
 claimed:x.claimed.length≤reachBytes∧∀ y∈x.claimed,True
 passed:x.passed.length≤reachBytes∧∀ y∈x.passed,True
 calls:x.calls.length≤reachBytes∧∀ y∈x.calls,I64 y
 cancels:x.cancels.length≤reachBytes∧∀ y∈x.cancels,I64 y
def End.ok (x:End):Prop:=I64 x.el∧I64 x.side
instance (x:End):Decidable (End.ok x):=by unfold End.ok;infer_instance
theorem zAM (x y:End):([.int .i64 x.el,.int .i64 x.side]:List Lit)=[.int .i64 y.el,.int .i64 y.side]↔decide (x=y)=true:=by
 rw [decide_eq_true_eq]
 obtain⟨_,_⟩:=x
 obtain⟨_,_⟩:=y
 simp [End.mk.injEq,qEY,and_assoc]
def Setting.ok (x:Setting):Prop:=I64 x.el∧I64 x.pos
instance (x:Setting):Decidable (Setting.ok x):=by unfold Setting.ok;infer_instance
theorem zL (x y:Setting):([.int .i64 x.el,.int .i64 x.pos]:List Lit)=[.int .i64 y.el,.int .i64 y.pos]↔decide (x=y)=true:=by
 rw [decide_eq_true_eq]
 obtain⟨_,_⟩:=x
 obtain⟨_,_⟩:=y
 simp [Setting.mk.injEq,qEY,and_assoc]
theorem follows:Tryz.prog.follows .mixedOrders=true:=by kernel_rfl
theorem own:ownKnob Tryz.prog.godebug=none:=by kernel_rfl
theorem zCB:laidOutB Tryz.prog=true:=by kernel_rfl
def tab:Tab where
 lay:=[(3,false,1),(4,false,1),(9,false,1),(22,false,1),(23,false,1),(25,true,5),(29,false,1),(34,true,6),(36,false,1),(38,false,1),(40,true,3),(42,true,4),(47,true,3),(51,false,1),(52,false,1),(54,true,3),(64,true,6),(66,false,1),(67,false,1),(68,false,1),(69,false,1),(71,true,6),(80,true,7),(84,false,1),(85,false,1),(86,false,1),(88,true,14),(91,false,1),(93,true,7),(98,false,1),(123,true,7),(125,true,2),(127,true,4),(129,true,4),(131,true,9),(135,true,10),(148,true,2),(153,true,4),(158,false,1),(177,true,3),(185,false,1),(200,true,1),(201,true,1),(202,true,1),(203,true,1),(205,false,1),(233,true,3),(242,true,3)]
 fs:=[(25,[(0,false,1),(1,false,1),(2,false,1),(3,false,1),(4,false,1)]),(34,[(0,false,1),(1,false,1),(2,false,1),(3,false,1),(4,false,1),(5,false,1)]),(40,[(0,false,1),(1,false,1),(2,false,1)]),(42,[(0,false,1),(1,true,3)]),(47,[(0,false,1),(1,false,1),(2,false,1)]),(54,[(0,false,1),(1,false,1),(2,false,1)]),(60,[(0,true,3),(3,false,1)]),(64,[(0,false,1),(1,false,1),(2,false,1),(3,true,3)]),(71,[(0,false,1),(1,false,1),(2,false,1),(3,false,1),(4,false,1),(5,false,1)]),(80,[(0,false,1),(1,false,1),(2,false,1),(3,false,1),(4,false,1),(5,false,1),(6,false,1)]),(88,[(0,false,1),(1,false,1),(2,false,1),(3,false,1),(4,false,1),(5,false,1),(6,false,1),(7,false,1),(8,false,1),(9,false,1),(10,false,1),(11,false,1),(12,false,1),(13,false,1)]),(93,[(0,true,5),(5,false,1),(6,false,1)]),(111,[(0,true,5),(5,true,6),(11,false,1)]),(123,[(0,false,1),(1,false,1),(2,false,1),(3,false,1),(4,false,1),(5,false,1),(6,false,1)]),(125,[(0,false,1),(1,false,1)]),(127,[(0,true,2),(2,true,2)]),(129,[(0,false,1),(1,true,2),(3,false,1)]),(131,[(0,true,5),(5,false,1),(6,false,1),(7,false,1),(8,false,1)]),(135,[(0,true,9),(9,false,1)]),(148,[(0,false,1),(1,false,1)]),(177,[(0,false,1),(1,false,1),(2,false,1)]),(200,[(0,false,1)]),(201,[(0,false,1)]),(202,[(0,false,1)]),(203,[(0,false,1)]),(207,[(0,false,1)]),(242,[(0,false,1),(1,false,1),(2,false,1)])]
 sel:=[(22,88,14,264),(23,3,1,8),(26,98,1,8),(29,42,4,56),(36,4,1,1),(38,40,3,40),(51,9,1,16),(52,64,6,64),(66,123,7,64),(67,127,4,32),(68,129,4,40),(69,242,3,24),(72,80,7,168),(84,177,3,24),(85,148,2,16),(86,125,2,16),(193,23,1,24),(205,84,1,24),(225,85,1,24),(245,5,1,1)]
 str:=[(9,())]
 boo:=[(4,())]
 con:=[(200,()),(201,()),(202,()),(203,()),(232,())]
theorem TK:TabOk Tryz.prog tab:=zAW (by kernel_rfl)
theorem kS:qNO Tryz.prog 233=some (3,1):=by kernel_rfl
theorem qRO:qNO Tryz.prog 247=some (24,1):=by kernel_rfl
theorem zES:aS Tryz.prog 10=true:=by kernel_rfl
theorem zAB:aS Tryz.prog 100=true:=by kernel_rfl
theorem zAA:aS Tryz.prog 101=true:=by kernel_rfl
theorem qZZ:aS Tryz.prog 102=true:=by kernel_rfl
theorem qZY:aS Tryz.prog 103=true:=by kernel_rfl
theorem qZX:aS Tryz.prog 104=true:=by kernel_rfl
theorem qZW:aS Tryz.prog 105=true:=by kernel_rfl
theorem qZV:aS Tryz.prog 106=true:=by kernel_rfl
theorem qZU:aS Tryz.prog 107=true:=by kernel_rfl
theorem zER:aS Tryz.prog 11=true:=by kernel_rfl
theorem qZT:aS Tryz.prog 115=true:=by kernel_rfl
theorem qZS:aS Tryz.prog 120=true:=by kernel_rfl
theorem qZR:aS Tryz.prog 121=true:=by kernel_rfl
theorem qZQ:aS Tryz.prog 122=true:=by kernel_rfl
theorem qNH:aS Tryz.prog 123=true:=by kernel_rfl
theorem qZP:aS Tryz.prog 125=true:=by kernel_rfl
theorem qZO:aS Tryz.prog 126=true:=by kernel_rfl
theorem qZN:aS Tryz.prog 127=true:=by kernel_rfl
theorem qZM:aS Tryz.prog 128=true:=by kernel_rfl
theorem qZL:aS Tryz.prog 129=true:=by kernel_rfl
theorem zEQ:aS Tryz.prog 13=true:=by kernel_rfl
theorem qZK:aS Tryz.prog 130=true:=by kernel_rfl
theorem qZJ:aS Tryz.prog 131=true:=by kernel_rfl
theorem qZI:aS Tryz.prog 132=true:=by kernel_rfl
theorem qZH:aS Tryz.prog 133=true:=by kernel_rfl
theorem qZG:aS Tryz.prog 134=true:=by kernel_rfl
theorem qZF:aS Tryz.prog 135=true:=by kernel_rfl
theorem qZE:aS Tryz.prog 136=true:=by kernel_rfl
theorem qZD:aS Tryz.prog 137=true:=by kernel_rfl
theorem qZC:aS Tryz.prog 138=true:=by kernel_rfl
theorem qZB:aS Tryz.prog 155=true:=by kernel_rfl
theorem qZA:aS Tryz.prog 156=true:=by kernel_rfl
theorem qYZ:aS Tryz.prog 157=true:=by kernel_rfl
theorem qYY:aS Tryz.prog 158=true:=by kernel_rfl
theorem qYX:aS Tryz.prog 159=true:=by kernel_rfl
theorem qYW:aS Tryz.prog 160=true:=by kernel_rfl
theorem qYV:aS Tryz.prog 161=true:=by kernel_rfl
theorem qYU:aS Tryz.prog 162=true:=by kernel_rfl
theorem qYT:aS Tryz.prog 163=true:=by kernel_rfl
theorem qYS:aS Tryz.prog 164=true:=by kernel_rfl
theorem qYR:aS Tryz.prog 165=true:=by kernel_rfl
theorem qYQ:aS Tryz.prog 166=true:=by kernel_rfl
theorem qYP:aS Tryz.prog 167=true:=by kernel_rfl
theorem qYO:aS Tryz.prog 168=true:=by kernel_rfl
theorem qYN:aS Tryz.prog 169=true:=by kernel_rfl
theorem qYM:aS Tryz.prog 170=true:=by kernel_rfl
theorem qYL:aS Tryz.prog 171=true:=by kernel_rfl
theorem qYK:aS Tryz.prog 172=true:=by kernel_rfl
theorem qYJ:aS Tryz.prog 173=true:=by kernel_rfl
theorem qYI:aS Tryz.prog 174=true:=by kernel_rfl
theorem qYH:aS Tryz.prog 175=true:=by kernel_rfl
theorem qYG:aS Tryz.prog 176=true:=by kernel_rfl
theorem qYF:aS Tryz.prog 177=true:=by kernel_rfl
theorem qYE:aS Tryz.prog 178=true:=by kernel_rfl
theorem qYD:aS Tryz.prog 179=true:=by kernel_rfl
theorem zEP:aS Tryz.prog 18=true:=by kernel_rfl
theorem qYC:aS Tryz.prog 180=true:=by kernel_rfl
theorem qYB:aS Tryz.prog 181=true:=by kernel_rfl
theorem qYA:aS Tryz.prog 182=true:=by kernel_rfl
theorem qXZ:aS Tryz.prog 185=true:=by kernel_rfl
theorem qXY:aS Tryz.prog 186=true:=by kernel_rfl
theorem qXX:aS Tryz.prog 187=true:=by kernel_rfl
theorem qXW:aS Tryz.prog 188=true:=by kernel_rfl
theorem qXV:aS Tryz.prog 189=true:=by kernel_rfl
theorem qXU:aS Tryz.prog 190=true:=by kernel_rfl
theorem qXT:aS Tryz.prog 191=true:=by kernel_rfl
theorem qXS:aS Tryz.prog 192=true:=by kernel_rfl
theorem qXR:aS Tryz.prog 193=true:=by kernel_rfl
theorem qXQ:aS Tryz.prog 194=true:=by kernel_rfl
theorem qXP:aS Tryz.prog 195=true:=by kernel_rfl
theorem qXO:aS Tryz.prog 196=true:=by kernel_rfl
theorem qXN:aS Tryz.prog 197=true:=by kernel_rfl
theorem qXM:aS Tryz.prog 198=true:=by kernel_rfl
theorem qXL:aS Tryz.prog 199=true:=by kernel_rfl
theorem qXK:aS Tryz.prog 200=true:=by kernel_rfl
theorem qXJ:aS Tryz.prog 201=true:=by kernel_rfl
theorem qXI:aS Tryz.prog 202=true:=by kernel_rfl
theorem qXH:aS Tryz.prog 203=true:=by kernel_rfl
theorem qXG:aS Tryz.prog 204=true:=by kernel_rfl
theorem qXF:aS Tryz.prog 205=true:=by kernel_rfl
theorem qXE:aS Tryz.prog 206=true:=by kernel_rfl
theorem qXD:aS Tryz.prog 208=true:=by kernel_rfl
theorem qXC:aS Tryz.prog 209=true:=by kernel_rfl
theorem zEO:aS Tryz.prog 21=true:=by kernel_rfl
theorem qXB:aS Tryz.prog 210=true:=by kernel_rfl
theorem qXA:aS Tryz.prog 211=true:=by kernel_rfl
theorem qWZ:aS Tryz.prog 212=true:=by kernel_rfl
theorem qWY:aS Tryz.prog 213=true:=by kernel_rfl
theorem qWX:aS Tryz.prog 214=true:=by kernel_rfl
theorem qWW:aS Tryz.prog 215=true:=by kernel_rfl
theorem qWV:aS Tryz.prog 217=true:=by kernel_rfl
theorem qWU:aS Tryz.prog 220=true:=by kernel_rfl
theorem qWT:aS Tryz.prog 221=true:=by kernel_rfl
theorem qWS:aS Tryz.prog 222=true:=by kernel_rfl
theorem qWR:aS Tryz.prog 223=true:=by kernel_rfl
theorem qWQ:aS Tryz.prog 224=true:=by kernel_rfl
theorem qWP:aS Tryz.prog 225=true:=by kernel_rfl
theorem qWO:aS Tryz.prog 226=true:=by kernel_rfl
theorem qWN:aS Tryz.prog 227=true:=by kernel_rfl
theorem qWM:aS Tryz.prog 228=true:=by kernel_rfl
theorem qWL:aS Tryz.prog 229=true:=by kernel_rfl
theorem zEN:aS Tryz.prog 23=true:=by kernel_rfl
theorem qWK:aS Tryz.prog 230=true:=by kernel_rfl
theorem qWJ:aS Tryz.prog 231=true:=by kernel_rfl
theorem qWI:aS Tryz.prog 232=true:=by kernel_rfl
theorem qWH:aS Tryz.prog 233=true:=by kernel_rfl
theorem qWG:aS Tryz.prog 234=true:=by kernel_rfl
theorem qWF:aS Tryz.prog 235=true:=by kernel_rfl
theorem qWE:aS Tryz.prog 247=true:=by kernel_rfl
theorem zEM:aS Tryz.prog 26=true:=by kernel_rfl
theorem zEL:aS Tryz.prog 31=true:=by kernel_rfl
theorem zEK:aS Tryz.prog 32=true:=by kernel_rfl
theorem zEJ:aS Tryz.prog 33=true:=by kernel_rfl
theorem zEI:aS Tryz.prog 34=true:=by kernel_rfl
theorem zEH:aS Tryz.prog 35=true:=by kernel_rfl
theorem zEG:aS Tryz.prog 36=true:=by kernel_rfl
theorem zEF:aS Tryz.prog 37=true:=by kernel_rfl
theorem zEE:aS Tryz.prog 38=true:=by kernel_rfl
theorem zED:aS Tryz.prog 39=true:=by kernel_rfl
theorem zEC:aS Tryz.prog 40=true:=by kernel_rfl
theorem zEB:aS Tryz.prog 41=true:=by kernel_rfl
theorem zEA:aS Tryz.prog 50=true:=by kernel_rfl
theorem zDZ:aS Tryz.prog 51=true:=by kernel_rfl
theorem zDY:aS Tryz.prog 52=true:=by kernel_rfl
theorem zDX:aS Tryz.prog 53=true:=by kernel_rfl
theorem zDW:aS Tryz.prog 54=true:=by kernel_rfl
theorem zDV:aS Tryz.prog 55=true:=by kernel_rfl
theorem zDU:aS Tryz.prog 56=true:=by kernel_rfl
theorem zDT:aS Tryz.prog 57=true:=by kernel_rfl
theorem zDS:aS Tryz.prog 63=true:=by kernel_rfl
theorem zDR:aS Tryz.prog 64=true:=by kernel_rfl
theorem zDQ:aS Tryz.prog 65=true:=by kernel_rfl
theorem zDP:aS Tryz.prog 66=true:=by kernel_rfl
theorem zDO:aS Tryz.prog 67=true:=by kernel_rfl
theorem zDN:aS Tryz.prog 77=true:=by kernel_rfl
theorem zDM:aS Tryz.prog 78=true:=by kernel_rfl
theorem zDL:aS Tryz.prog 79=true:=by kernel_rfl
theorem callB8:aS Tryz.prog 8=true:=by kernel_rfl
theorem zDK:aS Tryz.prog 80=true:=by kernel_rfl
theorem zDJ:aS Tryz.prog 81=true:=by kernel_rfl
theorem zDI:aS Tryz.prog 82=true:=by kernel_rfl
theorem zDH:aS Tryz.prog 83=true:=by kernel_rfl
theorem zDG:aS Tryz.prog 84=true:=by kernel_rfl
theorem zDF:aS Tryz.prog 85=true:=by kernel_rfl
theorem zDE:aS Tryz.prog 86=true:=by kernel_rfl
theorem zDD:aS Tryz.prog 87=true:=by kernel_rfl
theorem zDC:aS Tryz.prog 88=true:=by kernel_rfl
theorem zDB:aS Tryz.prog 89=true:=by kernel_rfl
theorem callB9:aS Tryz.prog 9=true:=by kernel_rfl
theorem zDA:aS Tryz.prog 90=true:=by kernel_rfl
theorem zCZ:aS Tryz.prog 91=true:=by kernel_rfl
theorem zCY:aS Tryz.prog 92=true:=by kernel_rfl
theorem zCX:aS Tryz.prog 93=true:=by kernel_rfl
theorem zCW:aS Tryz.prog 94=true:=by kernel_rfl
theorem zCV:aS Tryz.prog 95=true:=by kernel_rfl
theorem zCU:aS Tryz.prog 96=true:=by kernel_rfl
theorem zCT:aS Tryz.prog 97=true:=by kernel_rfl
theorem zCS:aS Tryz.prog 98=true:=by kernel_rfl
theorem zCR:aS Tryz.prog 99=true:=by kernel_rfl
theorem qRJ:qAX Tryz.prog 200=true:=by kernel_rfl
theorem qRI:qAX Tryz.prog 201=true:=by kernel_rfl
theorem qRH:qAX Tryz.prog 202=true:=by kernel_rfl
theorem qRG:qAX Tryz.prog 203=true:=by kernel_rfl
theorem zCC:(Tryz.prog.keyTypeAt 30 125&&!Tryz.prog.eqGuardType Tryz.prog.depth 125&&(match Tryz.prog.underlying 125 with|some (.struct _)=>true|_=>false)&&[TypeDesc.int .i64,TypeDesc.int .i64].length == Tryz.prog.cellsOf 125)=true:=by kernel_rfl
theorem qQX:(Tryz.prog.keyTypeAt 30 148&&!Tryz.prog.eqGuardType Tryz.prog.depth 148&&(match Tryz.prog.underlying 148 with|some (.struct _)=>true|_=>false)&&[TypeDesc.int .i64,TypeDesc.int .i64].length == Tryz.prog.cellsOf 148)=true:=by kernel_rfl
theorem qVN:wS Tryz.prog 30 125=some [.int .i64,.int .i64]:=by kernel_rfl
theorem qMK:wS Tryz.prog 30 148=some [.int .i64,.int .i64]:=by kernel_rfl
theorem zFZ:lay Tryz.prog 23=some (false,1):=by kernel_rfl
theorem zFY:lay Tryz.prog 85=some (false,1):=by kernel_rfl
theorem lay9:lay Tryz.prog 9=some (false,1):=by kernel_rfl
theorem qVH:mty Tryz.prog 222=some (9,.string,4):=by kernel_rfl
theorem zFV:mty Tryz.prog 91=some (9,.string,3):=by kernel_rfl
theorem plc123:plc Tryz.prog 123=some [(0,1),(1,1),(2,1),(3,1),(4,1),(5,1),(6,1)]:=by kernel_rfl
theorem pD:plc Tryz.prog 125=some [(0,1),(1,1)]:=by kernel_rfl
theorem qUU:plc Tryz.prog 127=some [(0,2),(2,2)]:=by kernel_rfl
theorem qOQ:plc Tryz.prog 129=some [(0,1),(1,2),(3,1)]:=by kernel_rfl
theorem qOP:plc Tryz.prog 131=some [(0,5),(5,1),(6,1),(7,1),(8,1)]:=by kernel_rfl
theorem plc135:plc Tryz.prog 135=some [(0,9),(9,1)]:=by kernel_rfl
theorem nK:plc Tryz.prog 148=some [(0,1),(1,1)]:=by kernel_rfl
theorem plc177:plc Tryz.prog 177=some [(0,1),(1,1),(2,1)]:=by kernel_rfl
theorem plc200:plc Tryz.prog 200=some [(0,1)]:=by kernel_rfl
theorem plc201:plc Tryz.prog 201=some [(0,1)]:=by kernel_rfl
theorem plc202:plc Tryz.prog 202=some [(0,1)]:=by kernel_rfl
theorem plc203:plc Tryz.prog 203=some [(0,1)]:=by kernel_rfl
theorem plc207:plc Tryz.prog 207=some [(0,1)]:=by kernel_rfl
theorem qUT:plc Tryz.prog 232=some [(0,1)]:=by kernel_rfl
theorem zFT:plc Tryz.prog 25=some [(0,1),(1,1),(2,1),(3,1),(4,1)]:=by kernel_rfl
theorem plc34:plc Tryz.prog 34=some [(0,1),(1,1),(2,1),(3,1),(4,1),(5,1)]:=by kernel_rfl
theorem nC:plc Tryz.prog 40=some [(0,1),(1,1),(2,1)]:=by kernel_rfl
theorem plc42:plc Tryz.prog 42=some [(0,1),(1,3)]:=by kernel_rfl
theorem zFS:plc Tryz.prog 47=some [(0,1),(1,1),(2,1)]:=by kernel_rfl
theorem qUS:plc Tryz.prog 54=some [(0,1),(1,1),(2,1)]:=by kernel_rfl
theorem qQN:plc Tryz.prog 64=some [(0,1),(1,1),(2,1),(3,3)]:=by kernel_rfl
theorem plc71:plc Tryz.prog 71=some [(0,1),(1,1),(2,1),(3,1),(4,1),(5,1)]:=by kernel_rfl
theorem plc88:plc Tryz.prog 88=some [(0,1),(1,1),(2,1),(3,1),(4,1),(5,1),(6,1),(7,1),(8,1),(9,1),(10,1),(11,1),(12,1),(13,1)]:=by kernel_rfl
theorem plc93:plc Tryz.prog 93=some [(0,5),(5,1),(6,1)]:=by kernel_rfl
theorem zU:sel Tryz.prog 193=some (23,1,24):=by kernel_rfl
theorem zT:sel Tryz.prog 225=some (85,1,24):=by kernel_rfl
theorem wK:sel Tryz.prog 23=some (3,1,8):=by kernel_rfl
theorem wJ:sel Tryz.prog 85=some (148,2,16):=by kernel_rfl
theorem rX:(Tryz.prog.info? 123).bind (·.zero)=Option.some (Go.Value.agg #[Go.Value.string { data:=#[] },Go.Value.int Go.IntKind.i64 0,Go.Value.int Go.IntKind.i64 0,Go.Value.int Go.IntKind.i64 0,Go.Value.int Go.IntKind.i64 0,Go.Value.int Go.IntKind.i64 0,Go.Value.int Go.IntKind.i64 0]):=by kernel_rfl
theorem dV:(Tryz.prog.info? 125).bind (·.zero)=Option.some (Go.Value.agg #[Go.Value.int Go.IntKind.i64 0,Go.Value.int Go.IntKind.i64 0]):=by kernel_rfl
theorem xZ:(Tryz.prog.info? 127).bind (·.zero)=Option.some (Go.Value.agg #[Go.Value.int Go.IntKind.i64 0,Go.Value.int Go.IntKind.i64 0,Go.Value.int Go.IntKind.i64 0,Go.Value.int Go.IntKind.i64 0]):=by kernel_rfl
theorem nS:(Tryz.prog.info? 129).bind (·.zero)=Option.some (Go.Value.agg #[Go.Value.string { data:=#[] },Go.Value.int Go.IntKind.i64 0,Go.Value.int Go.IntKind.i64 0,Go.Value.int Go.IntKind.i64 0]):=by kernel_rfl
theorem vC:(Tryz.prog.info? 131).bind (·.zero)=Option.some (Go.Value.agg #[Go.Value.slice Option.none 0 0,Go.Value.slice Option.none 0 0,Go.Value.slice Option.none 0 0,Go.Value.int Go.IntKind.i64 0,Go.Value.int Go.IntKind.i64 0,Go.Value.int Go.IntKind.i64 0,Go.Value.slice Option.none 0 0,Go.Value.int Go.IntKind.i64 0,Go.Value.int Go.IntKind.i64 0]):=by kernel_rfl
theorem qPW:(Tryz.prog.info? 135).bind (·.zero)=Option.some (Go.Value.agg #[Go.Value.slice Option.none 0 0,Go.Value.slice Option.none 0 0,Go.Value.slice Option.none 0 0,Go.Value.int Go.IntKind.i64 0,Go.Value.int Go.IntKind.i64 0,Go.Value.int Go.IntKind.i64 0,Go.Value.slice Option.none 0 0,Go.Value.int Go.IntKind.i64 0,Go.Value.int Go.IntKind.i64 0,Go.Value.slice Option.none 0 0]):=by kernel_rfl
theorem cS:(Tryz.prog.info? 148).bind (·.zero)=Option.some (Go.Value.agg #[Go.Value.int Go.IntKind.i64 0,Go.Value.int Go.IntKind.i64 0]):=by kernel_rfl
theorem qPV:(Tryz.prog.info? 153).bind (·.zero)=Option.some (Go.Value.agg #[Go.Value.string { data:=#[] },Go.Value.string { data:=#[] },Go.Value.string { data:=#[] },Go.Value.string { data:=#[] }]):=by kernel_rfl
theorem nR:(Tryz.prog.info? 177).bind (·.zero)=Option.some (Go.Value.agg #[Go.Value.int Go.IntKind.i64 0,Go.Value.int Go.IntKind.i64 0,Go.Value.int Go.IntKind.i64 0]):=by kernel_rfl
theorem qHZ:(Tryz.prog.info? 200).bind (·.zero)=Option.some (Go.Value.agg #[Go.Value.pointer Option.none]):=by kernel_rfl
theorem qHY:(Tryz.prog.info? 201).bind (·.zero)=Option.some (Go.Value.agg #[Go.Value.pointer Option.none]):=by kernel_rfl
theorem qHX:(Tryz.prog.info? 202).bind (·.zero)=Option.some (Go.Value.agg #[Go.Value.pointer Option.none]):=by kernel_rfl
theorem qHW:(Tryz.prog.info? 203).bind (·.zero)=Option.some (Go.Value.agg #[Go.Value.pointer Option.none]):=by kernel_rfl
theorem zAQ:(Tryz.prog.info? 207).bind (·.zero)=Option.some (Go.Value.agg #[Go.Value.slice Option.none 0 0]):=by kernel_rfl
theorem qDB:(Tryz.prog.info? 23).bind (·.zero)=Option.some (Go.Value.slice Option.none 0 0):=by kernel_rfl
theorem qPU:(Tryz.prog.info? 232).bind (·.zero)=Option.some (Go.Value.agg #[Go.Value.pointer Option.none]):=by kernel_rfl
theorem qCH:(Tryz.prog.info? 233).bind (·.zero)=Option.some (Go.Value.agg #[Go.Value.slice Option.none 0 0,Go.Value.slice Option.none 0 0,Go.Value.slice Option.none 0 0]):=by kernel_rfl
theorem zAP:(Tryz.prog.info? 242).bind (·.zero)=Option.some (Go.Value.agg #[Go.Value.int Go.IntKind.i64 0,Go.Value.int Go.IntKind.i64 0,Go.Value.int Go.IntKind.i64 0]):=by kernel_rfl
theorem zAO:(Tryz.prog.info? 247).bind (·.zero)=Option.some (Go.Value.agg #[Go.Value.bool Bool.false,Go.Value.bool Bool.false,Go.Value.bool Bool.false,Go.Value.bool Bool.false,Go.Value.bool Bool.false,Go.Value.bool Bool.false,Go.Value.bool Bool.false,Go.Value.bool Bool.false,Go.Value.bool Bool.false,Go.Value.bool Bool.false,Go.Value.bool Bool.false,Go.Value.bool Bool.false,Go.Value.bool Bool.false,Go.Value.bool Bool.false,Go.Value.bool Bool.false,Go.Value.bool Bool.false,Go.Value.bool Bool.false,Go.Value.bool Bool.false,Go.Value.bool Bool.false,Go.Value.bool Bool.false,Go.Value.bool Bool.false,Go.Value.bool Bool.false,Go.Value.bool Bool.false,Go.Value.bool Bool.false]):=by kernel_rfl
theorem qDA:(Tryz.prog.info? 25).bind (·.zero)=Option.some (Go.Value.agg #[Go.Value.slice Option.none 0 0,Go.Value.slice Option.none 0 0,Go.Value.slice Option.none 0 0,Go.Value.int Go.IntKind.i64 0,Go.Value.int Go.IntKind.i64 0]):=by kernel_rfl
theorem dY:(Tryz.prog.info? 3).bind (·.zero)=Option.some (Go.Value.int Go.IntKind.i64 0):=by kernel_rfl
theorem qHV:(Tryz.prog.info? 34).bind (·.zero)=Option.some (Go.Value.agg #[Go.Value.int Go.IntKind.i64 0,Go.Value.int Go.IntKind.i64 0,Go.Value.int Go.IntKind.i64 0,Go.Value.int Go.IntKind.i64 0,Go.Value.int Go.IntKind.i64 0,Go.Value.slice Option.none 0 0]):=by kernel_rfl
theorem qPT:(Tryz.prog.info? 4).bind (·.zero)=Option.some (Go.Value.bool Bool.false):=by kernel_rfl
theorem aN:(Tryz.prog.info? 40).bind (·.zero)=Option.some (Go.Value.agg #[Go.Value.int Go.IntKind.i64 0,Go.Value.int Go.IntKind.i64 0,Go.Value.slice Option.none 0 0]):=by kernel_rfl
theorem qHU:(Tryz.prog.info? 42).bind (·.zero)=Option.some (Go.Value.agg #[Go.Value.string { data:=#[] },Go.Value.int Go.IntKind.i64 0,Go.Value.int Go.IntKind.i64 0,Go.Value.slice Option.none 0 0]):=by kernel_rfl
theorem qNT:(Tryz.prog.info? 47).bind (·.zero)=Option.some (Go.Value.agg #[Go.Value.slice Option.none 0 0,Go.Value.slice Option.none 0 0,Go.Value.bool Bool.false]):=by kernel_rfl
theorem zero5:(Tryz.prog.info? 5).bind (·.zero)=Option.some (Go.Value.int Go.IntKind.u8 0):=by kernel_rfl
theorem zero51:(Tryz.prog.info? 51).bind (·.zero)=Option.some (Go.Value.slice Option.none 0 0):=by kernel_rfl
theorem zN:(Tryz.prog.info? 54).bind (·.zero)=Option.some (Go.Value.agg #[Go.Value.slice Option.none 0 0,Go.Value.int Go.IntKind.i64 0,Go.Value.slice Option.none 0 0]):=by kernel_rfl
theorem lH:(Tryz.prog.info? 64).bind (·.zero)=Option.some (Go.Value.agg #[Go.Value.int Go.IntKind.i64 0,Go.Value.int Go.IntKind.i64 0,Go.Value.int Go.IntKind.i64 0,Go.Value.int Go.IntKind.i64 0,Go.Value.int Go.IntKind.i64 0,Go.Value.slice Option.none 0 0]):=by kernel_rfl
theorem qNS:(Tryz.prog.info? 71).bind (·.zero)=Option.some (Go.Value.agg #[Go.Value.string { data:=#[] },Go.Value.slice Option.none 0 0,Go.Value.slice Option.none 0 0,Go.Value.slice Option.none 0 0,Go.Value.slice Option.none 0 0,Go.Value.slice Option.none 0 0]):=by kernel_rfl
theorem qTL:(Tryz.prog.info? 84).bind (·.zero)=Option.some (Go.Value.slice Option.none 0 0):=by kernel_rfl
theorem zero85:(Tryz.prog.info? 85).bind (·.zero)=Option.some (Go.Value.slice Option.none 0 0):=by kernel_rfl
theorem fL:(Tryz.prog.info? 88).bind (·.zero)=Option.some (Go.Value.agg #[Go.Value.string { data:=#[] },Go.Value.int Go.IntKind.i64 0,Go.Value.int Go.IntKind.i64 0,Go.Value.slice Option.none 0 0,Go.Value.slice Option.none 0 0,Go.Value.slice Option.none 0 0,Go.Value.int Go.IntKind.i64 0,Go.Value.int Go.IntKind.i64 0,Go.Value.slice Option.none 0 0,Go.Value.slice Option.none 0 0,Go.Value.slice Option.none 0 0,Go.Value.slice Option.none 0 0,Go.Value.slice Option.none 0 0,Go.Value.slice Option.none 0 0]):=by kernel_rfl
theorem kD:(Tryz.prog.info? 9).bind (·.zero)=Option.some (Go.Value.string { data:=#[] }):=by kernel_rfl
theorem qTK:(Tryz.prog.info? 93).bind (·.zero)=Option.some (Go.Value.agg #[Go.Value.slice Option.none 0 0,Go.Value.slice Option.none 0 0,Go.Value.slice Option.none 0 0,Go.Value.int Go.IntKind.i64 0,Go.Value.int Go.IntKind.i64 0,Go.Value.map Option.none,Go.Value.slice Option.none 0 0]):=by kernel_rfl
theorem zBN:qSE Tryz.prog 153=some [(0,1),(1,1),(2,1),(3,1)]:=by kernel_rfl
theorem zBM:qSE Tryz.prog 233=some [(0,1),(1,1),(2,1)]:=by kernel_rfl
theorem qOO {C:Ctx} {o:Oper} {ev:Operand→AV} {hp:List Blk} {t:TypeId} {parts:Array (Nat×Operand)} {z:Value} {zc cs:List AV} {pl:List (Nat×Nat)} {v:AV} (ho:o.op=.build t parts) (hpl:qSE C.P t=some pl) (hz:(C.P.info? t).bind (·.zero)=some z) (hzf:(dZ z).flat=true) (hzc:(dZ z).cells=zc)
  (hf:qEO pl zc (parts.toList.map λp=>(p.1,ev p.2))=some cs) (hv:qD cs=v):RdOk C o ev hp v:=
 RdOk.mk λst hhp hag g a w hs=>by
  rw [← hv];subst hzc;have hz':=hJ w g z;have hpz:=(hz'.pw hzf).1
  have hparts:Pw (λ(x:Nat×AV) (y:Nat×Value)=>x.1=y.1∧ARep w g x.2 y.2) (parts.toList.map λp=>(p.1,ev p.2)) (parts.map λp=>(p.1,a.eval p.2)).toList:=by
   refine⟨by simp,λi x y hx hy=>?_⟩;simp only [zQP,zQO,Array.toList_map] at hx hy;obtain⟨p,hp,rfl⟩:=hx;obtain⟨q,hq,rfl⟩:=hy;rw [hp] at hq;cases hq;refine⟨rfl,?_⟩;have:=hs.ev p.2
   rw [hag p.2 (by
    simp only [ho, Op.operands];have := zQM hp
    first | exact Array.mem_map.2 ⟨p, Array.mem_toList_iff.1 this, rfl⟩ | (simp only [List.mem_toArray, List.mem_map]; exact ⟨p, this, rfl⟩))] at this
   exact this
  unfold qSE at hpl;split at hpl
  ·rename_i n e hu;obtain⟨inf,hinf,hpl⟩:=zQO.1 hpl;obtain⟨cells',h1,h2⟩:=zA pl.toArray _ _ _ _ z.cells hparts hpz (by simpa using hf);refine⟨.agg cells',?_,oI (by have:=h2.1;simpa using this) λi c v hc hv=>h2.2 i c v hc (by simpa using hv)⟩;obtain⟨infz,hinfz,hzz⟩:=Option.bind_eq_some_iff.1 hz;have hzv:(zeroValue t).run C.P w=.ok z w:=by simp [zeroValue,typeInfo,hinfz,hzz]
   have hsz:(sizeOf e).run C.P w=.ok inf.size w:=by simp [sizeOf,typeInfo,hinf]
   have h1':Instr.fill (λi=>some (i * inf.size,inf.size)) z.cells (parts.map λp=>(p.1,a.eval p.2)).toList=some cells':=by
    refine qJS ?_ _ _ _ h1;intro i x hx;subst hpl;simp only [List.getElem?_toArray,zQP,zQO] at hx;obtain⟨k,hk,rfl⟩:=hx;have:=(zQQ.1 hk).2;simp at this;rw [this]
   have hb:(Instr.build t (parts.map λp=>(p.1,a.eval p.2))).run C.P w=.ok (.agg cells') w:=by
    unfold Instr.build;rw [Sem.run_bind,hzv,Result.andThen_ok,Sem.run_bind,run_underlying hu,Result.andThen_ok];simp only;rw [Sem.run_bind,hsz,Result.andThen_ok];simp only [h1',Sem.run_pure]
   simp only [execOp,ho];simp only [Sem.run_bind];have hb':(Instr.build t (parts.map λx=>(x.1,a.eval x.2))).run C.P w=.ok (.agg cells') w:=hb;rw [hb'];rfl
  cases hpl
theorem qFL {w:World} {n k:Nat} {g:Gh} {mv:Nat→Bool} {o:Oper} {ev:Operand→AV} {hp:List Blk} {a b:Operand} {t':TypeId} {x y:End} (ho:o.op=.binOp .eql 125 a b t') (hx:ev a=.d x.enc) (hy:ev b=.d y.enc) (h1:x.ok) (h2:y.ok):RdOk ⟨Tryz.prog,n,w,k,g,mv⟩ o ev hp (.d (.bool (decide (x=y)))):=
 qVS ho hx hy qVN zCC rfl rfl ⟨⟨rfl,h1.1⟩,⟨rfl,h1.2⟩,trivial⟩ ⟨⟨rfl,h2.1⟩,⟨rfl,h2.2⟩,trivial⟩ (zAM x y)
theorem qFK {w:World} {n k:Nat} {g:Gh} {mv:Nat→Bool} {o:Oper} {ev:Operand→AV} {hp:List Blk} {a b:Operand} {t':TypeId} {x y:Setting} (ho:o.op=.binOp .eql 148 a b t') (hx:ev a=.d x.enc) (hy:ev b=.d y.enc) (h1:x.ok) (h2:y.ok):RdOk ⟨Tryz.prog,n,w,k,g,mv⟩ o ev hp (.d (.bool (decide (x=y)))):=
 qVS ho hx hy qMK qQX rfl rfl ⟨⟨rfl,h1.1⟩,⟨rfl,h1.2⟩,trivial⟩ ⟨⟨rfl,h2.1⟩,⟨rfl,h2.2⟩,trivial⟩ (zL x y)
theorem qFJ {w:World} {n k:Nat} {g:Gh} {mv:Nat→Bool} {o:Oper} {ev:Operand→AV} {hp:List Blk} {a b:Operand} {t':TypeId} {x y:Setting} (ho:o.op=.binOp .neq 148 a b t') (hx:ev a=.d x.enc) (hy:ev b=.d y.enc) (h1:x.ok) (h2:y.ok):RdOk ⟨Tryz.prog,n,w,k,g,mv⟩ o ev hp (.d (.bool (!decide (x=y)))):=
 eq_not ho hx hy qMK qQX rfl rfl ⟨⟨rfl,h1.1⟩,⟨rfl,h1.2⟩,trivial⟩ ⟨⟨rfl,h2.1⟩,⟨rfl,h2.2⟩,trivial⟩ (zL x y)
theorem HasTy.fld {P:Go.Program} {cs:List D} {fs:Array Field} (h2:∀ (i:Nat) (f:Field),fs[i]?=some f→HasTy P f.type ((cs.drop f.offset).take (P.cellsOf f.type))) {i off n:Nat} {f:Field} {t:TypeId} (hf:fs[i]?=some f) (ht:f.type=t) (ho:f.offset=off) (hc:P.cellsOf t=n):HasTy P t ((cs.drop off).take n):=by
 have:=h2 i f hf;rw [ht,ho,hc] at this;exact this
theorem ty3 (cs:List D) (h:HasTy Tryz.prog 3 cs):∃ x:Int,I64 x∧bX Tryz.prog 3 cs=(D.int .i64) x:=by
 obtain⟨x,rfl,w⟩:=h.int_inv Tryz.underlying3;exact⟨x,w,by simp [bX,Tryz.underlying3]⟩
theorem qEX:Tryz.prog.cellsOf 177=3:=by kernel_rfl
theorem jN:Tryz.prog.cellsOf 3=1:=by kernel_rfl
theorem zCA {cs:List D} (h:cs.length=3):∃ a0 a1 a2,cs=[a0,a1,a2]:=by
 match cs,h with
 | [a0,a1,a2],_=>exact⟨a0,a1,a2,rfl⟩
theorem ty177c (cs:List D) (h:HasTy Tryz.prog 177 cs):∃ x:Step,x.Wf∧cs=[.int .i64 x.el,.int .i64 x.inV,.int .i64 x.out]:=by
 obtain⟨h1,h2⟩:=h.struct_inv Tryz.underlying177;rw [qEX] at h1;obtain⟨a0,a1,a2,rfl⟩:=zCA h1;obtain⟨x0,e0,w0⟩:=(show HasTy Tryz.prog 3 [a0] from HasTy.fld h2 (i:=0) rfl rfl rfl jN).int_inv Tryz.underlying3;replace e0:[a0]=[D.int .i64 x0]:=e0;simp only [List.cons.injEq,and_true] at e0;obtain⟨x1,e1,w1⟩:=(show HasTy Tryz.prog 3 [a1] from HasTy.fld h2 (i:=1) rfl rfl rfl jN).int_inv Tryz.underlying3;replace e1:[a1]=[D.int .i64 x1]:=e1;simp only [List.cons.injEq,and_true] at e1;obtain⟨x2,e2,w2⟩:=(show HasTy Tryz.prog 3 [a2] from HasTy.fld h2 (i:=2) rfl rfl rfl jN).int_inv Tryz.underlying3;replace e2:[a2]=[D.int .i64 x2]:=e2;simp only [List.cons.injEq,and_true] at e2;subst e0 e1 e2;exact⟨⟨x0,x1,x2⟩,⟨w0,w1,w2⟩,rfl⟩
theorem zFQ (cs:List D) (h:HasTy Tryz.prog 177 cs):∃ x:Step,x.Wf∧bX Tryz.prog 177 cs=x.enc:=by
 obtain⟨x,w,rfl⟩:=ty177c cs h;exact⟨x,w,by simp [bX,Tryz.underlying177,Step.enc]⟩
theorem zH:Tryz.prog.cellsOf 148=2:=by kernel_rfl
theorem qQV {cs:List D} (h:cs.length=2):∃ a0 a1,cs=[a0,a1]:=by
 match cs,h with
 | [a0,a1],_=>exact⟨a0,a1,rfl⟩
theorem ty148c (cs:List D) (h:HasTy Tryz.prog 148 cs):∃ x:Setting,x.Wf∧cs=[.int .i64 x.el,.int .i64 x.pos]:=by
 obtain⟨h1,h2⟩:=h.struct_inv Tryz.underlying148;rw [zH] at h1;obtain⟨a0,a1,rfl⟩:=qQV h1;obtain⟨x0,e0,w0⟩:=(show HasTy Tryz.prog 3 [a0] from HasTy.fld h2 (i:=0) rfl rfl rfl jN).int_inv Tryz.underlying3;replace e0:[a0]=[D.int .i64 x0]:=e0;simp only [List.cons.injEq,and_true] at e0;obtain⟨x1,e1,w1⟩:=(show HasTy Tryz.prog 3 [a1] from HasTy.fld h2 (i:=1) rfl rfl rfl jN).int_inv Tryz.underlying3;replace e1:[a1]=[D.int .i64 x1]:=e1;simp only [List.cons.injEq,and_true] at e1;subst e0 e1;exact⟨⟨x0,x1⟩,⟨w0,w1⟩,rfl⟩
theorem qTQ (cs:List D) (h:HasTy Tryz.prog 148 cs):∃ x:Setting,x.Wf∧bX Tryz.prog 148 cs=x.enc:=by
 obtain⟨x,w,rfl⟩:=ty148c cs h;exact⟨x,w,by simp [bX,Tryz.underlying148,Setting.enc]⟩
theorem qNG:Tryz.prog.cellsOf 125=2:=by kernel_rfl
theorem ty125c (cs:List D) (h:HasTy Tryz.prog 125 cs):∃ x:End,x.Wf∧cs=[.int .i64 x.el,.int .i64 x.side]:=by
 obtain⟨h1,h2⟩:=h.struct_inv Tryz.underlying125;rw [qNG] at h1;obtain⟨a0,a1,rfl⟩:=qQV h1;obtain⟨x0,e0,w0⟩:=(show HasTy Tryz.prog 3 [a0] from HasTy.fld h2 (i:=0) rfl rfl rfl jN).int_inv Tryz.underlying3;replace e0:[a0]=[D.int .i64 x0]:=e0;simp only [List.cons.injEq,and_true] at e0;obtain⟨x1,e1,w1⟩:=(show HasTy Tryz.prog 3 [a1] from HasTy.fld h2 (i:=1) rfl rfl rfl jN).int_inv Tryz.underlying3;replace e1:[a1]=[D.int .i64 x1]:=e1;simp only [List.cons.injEq,and_true] at e1;subst e0 e1;exact⟨⟨x0,x1⟩,⟨w0,w1⟩,rfl⟩
theorem ty125 (cs:List D) (h:HasTy Tryz.prog 125 cs):∃ x:End,x.Wf∧bX Tryz.prog 125 cs=x.enc:=by
 obtain⟨x,w,rfl⟩:=ty125c cs h;exact⟨x,w,by simp [bX,Tryz.underlying125,End.enc]⟩
theorem qRK:Tryz.prog.cellsOf 88=14:=by kernel_rfl
theorem cells9:Tryz.prog.cellsOf 9=1:=by kernel_rfl
theorem qRL:Tryz.prog.cellsOf 84=1:=by kernel_rfl
theorem qKG:Tryz.prog.cellsOf 85=1:=by kernel_rfl
theorem zG:Tryz.prog.cellsOf 23=1:=by kernel_rfl
theorem zCN:Tryz.prog.cellsOf 86=1:=by kernel_rfl
theorem qVM {cs:List D} (h:cs.length=14):∃ a0 a1 a2 a3 a4 a5 a6 a7 a8 a9 a10 a11 a12 a13,cs=[a0,a1,a2,a3,a4,a5,a6,a7,a8,a9,a10,a11,a12,a13]:=by
 match cs,h with
 | [a0,a1,a2,a3,a4,a5,a6,a7,a8,a9,a10,a11,a12,a13],_=>exact⟨a0,a1,a2,a3,a4,a5,a6,a7,a8,a9,a10,a11,a12,a13,rfl⟩
theorem ty88c (cs:List D) (h:HasTy Tryz.prog 88 cs):∃ x:Route,x.Wf∧cs=[.str x.name,.int .i64 x.entry,.int .i64 x.exit,.sl 3 (x.path.map Step.enc),.sl 2 (x.points.map Setting.enc),.sl 1 (x.sections.map (D.int .i64)),.int .i64 x.approach,.int .i64 x.length,.sl 3 (x.over.map Step.enc),.sl 2 (x.overPoints.map Setting.enc),.sl 1 (x.overSections.map (D.int .i64)),.sl 2 (x.flank.map Setting.enc),.sl 1 (x.guards.map (D.int .i64)),.sl 2 (x.gaps.map End.enc)]:=by
 obtain⟨h1,h2⟩:=h.struct_inv Tryz.underlying88;rw [qRK] at h1;obtain⟨a0,a1,a2,a3,a4,a5,a6,a7,a8,a9,a10,a11,a12,a13,rfl⟩:=qVM h1;obtain⟨x0,e0,w0⟩:=(show HasTy Tryz.prog 9 [a0] from HasTy.fld h2 (i:=0) rfl rfl rfl cells9).str_inv Tryz.underlying9;replace e0:[a0]=[D.str x0]:=e0;simp only [List.cons.injEq,and_true] at e0;obtain⟨x1,e1,w1⟩:=(show HasTy Tryz.prog 3 [a1] from HasTy.fld h2 (i:=1) rfl rfl rfl jN).int_inv Tryz.underlying3;replace e1:[a1]=[D.int .i64 x1]:=e1;simp only [List.cons.injEq,and_true] at e1;obtain⟨x2,e2,w2⟩:=(show HasTy Tryz.prog 3 [a2] from HasTy.fld h2 (i:=2) rfl rfl rfl jN).int_inv Tryz.underlying3;replace e2:[a2]=[D.int .i64 x2]:=e2;simp only [List.cons.injEq,and_true] at e2;obtain⟨x3,e3,l3,m3⟩:=(show HasTy Tryz.prog 84 [a3] from HasTy.fld h2 (i:=3) rfl rfl rfl qRL).list Tryz.underlying84 Step.enc Step.Wf (λcs _ h=>zFQ cs h);rw [qEX] at e3;have w3:=And.intro l3 m3;replace e3:[a3]=[D.sl 3 (x3.map Step.enc)]:=e3;simp only [List.cons.injEq,and_true] at e3;obtain⟨x4,e4,l4,m4⟩:=(show HasTy Tryz.prog 85 [a4] from HasTy.fld h2 (i:=4) rfl rfl rfl qKG).list Tryz.underlying85 Setting.enc Setting.Wf (λcs _ h=>qTQ cs h);rw [zH] at e4;have w4:=And.intro l4 m4;replace e4:[a4]=[D.sl 2 (x4.map Setting.enc)]:=e4;simp only [List.cons.injEq,and_true] at e4;obtain⟨x5,e5,l5,m5⟩:=(show HasTy Tryz.prog 23 [a5] from HasTy.fld h2 (i:=5) rfl rfl rfl zG).list Tryz.underlying23 (D.int .i64) I64 (λcs _ h=>ty3 cs h);rw [jN] at e5;have w5:=And.intro l5 m5;replace e5:[a5]=[D.sl 1 (x5.map (D.int .i64))]:=e5;simp only [List.cons.injEq,and_true] at e5;obtain⟨x6,e6,w6⟩:=(show HasTy Tryz.prog 3 [a6] from HasTy.fld h2 (i:=6) rfl rfl rfl jN).int_inv Tryz.underlying3;replace e6:[a6]=[D.int .i64 x6]:=e6;simp only [List.cons.injEq,and_true] at e6;obtain⟨x7,e7,w7⟩:=(show HasTy Tryz.prog 3 [a7] from HasTy.fld h2 (i:=7) rfl rfl rfl jN).int_inv Tryz.underlying3;replace e7:[a7]=[D.int .i64 x7]:=e7;simp only [List.cons.injEq,and_true] at e7;obtain⟨x8,e8,l8,m8⟩:=(show HasTy Tryz.prog 84 [a8] from HasTy.fld h2 (i:=8) rfl rfl rfl qRL).list Tryz.underlying84 Step.enc Step.Wf (λcs _ h=>zFQ cs h);rw [qEX] at e8;have w8:=And.intro l8 m8;replace e8:[a8]=[D.sl 3 (x8.map Step.enc)]:=e8;simp only [List.cons.injEq,and_true] at e8;obtain⟨x9,e9,l9,m9⟩:=(show HasTy Tryz.prog 85 [a9] from HasTy.fld h2 (i:=9) rfl rfl rfl qKG).list Tryz.underlying85 Setting.enc Setting.Wf (λcs _ h=>qTQ cs h);rw [zH] at e9;have w9:=And.intro l9 m9;replace e9:[a9]=[D.sl 2 (x9.map Setting.enc)]:=e9;simp only [List.cons.injEq,and_true] at e9;obtain⟨x10,e10,l10,m10⟩:=(show HasTy Tryz.prog 23 [a10] from HasTy.fld h2 (i:=10) rfl rfl rfl zG).list Tryz.underlying23 (D.int .i64) I64 (λcs _ h=>ty3 cs h);rw [jN] at e10;have w10:=And.intro l10 m10;replace e10:[a10]=[D.sl 1 (x10.map (D.int .i64))]:=e10;simp only [List.cons.injEq,and_true] at e10;obtain⟨x11,e11,l11,m11⟩:=(show HasTy Tryz.prog 85 [a11] from HasTy.fld h2 (i:=11) rfl rfl rfl qKG).list Tryz.underlying85 Setting.enc Setting.Wf (λcs _ h=>qTQ cs h)
 rw [zH] at e11;have w11:=And.intro l11 m11;replace e11:[a11]=[D.sl 2 (x11.map Setting.enc)]:=e11;simp only [List.cons.injEq,and_true] at e11;obtain⟨x12,e12,l12,m12⟩:=(show HasTy Tryz.prog 23 [a12] from HasTy.fld h2 (i:=12) rfl rfl rfl zG).list Tryz.underlying23 (D.int .i64) I64 (λcs _ h=>ty3 cs h);rw [jN] at e12;have w12:=And.intro l12 m12;replace e12:[a12]=[D.sl 1 (x12.map (D.int .i64))]:=e12;simp only [List.cons.injEq,and_true] at e12;obtain⟨x13,e13,l13,m13⟩:=(show HasTy Tryz.prog 86 [a13] from HasTy.fld h2 (i:=13) rfl rfl rfl zCN).list Tryz.underlying86 End.enc End.Wf (λcs _ h=>ty125 cs h);rw [qNG] at e13;have w13:=And.intro l13 m13;replace e13:[a13]=[D.sl 2 (x13.map End.enc)]:=e13;simp only [List.cons.injEq,and_true] at e13;subst e0 e1 e2 e3 e4 e5 e6 e7 e8 e9 e10 e11 e12 e13;exact⟨⟨x0,x1,x2,x3,x4,x5,x6,x7,x8,x9,x10,x11,x12,x13⟩,⟨w0,w1,w2,w3,w4,w5,w6,w7,w8,w9,w10,w11,w12,w13⟩,rfl⟩
theorem ty88 (cs:List D) (h:HasTy Tryz.prog 88 cs):∃ x:Route,x.Wf∧bX Tryz.prog 88 cs=x.enc:=by
 obtain⟨x,w,rfl⟩:=ty88c cs h;exact⟨x,w,by simp [bX,Tryz.underlying88,Route.enc]⟩
theorem zCO:Tryz.prog.cellsOf 25=5:=by kernel_rfl
theorem zCP:Tryz.prog.cellsOf 22=1:=by kernel_rfl
theorem zBZ {cs:List D} (h:cs.length=5):∃ a0 a1 a2 a3 a4,cs=[a0,a1,a2,a3,a4]:=by
 match cs,h with
 | [a0,a1,a2,a3,a4],_=>exact⟨a0,a1,a2,a3,a4,rfl⟩
theorem ty25c (cs:List D) (h:HasTy Tryz.prog 25 cs):∃ x:Table,x.Wf∧cs=[.sl 14 (x.routes.map Route.enc),.sl 1 (x.points.map (D.int .i64)),.sl 1 (x.homes.map (D.int .i64)),.int .i64 x.sections,.int .i64 x.signals]:=by
 obtain⟨h1,h2⟩:=h.struct_inv Tryz.underlying25;rw [zCO] at h1;obtain⟨a0,a1,a2,a3,a4,rfl⟩:=zBZ h1;obtain⟨x0,e0,l0,m0⟩:=(show HasTy Tryz.prog 22 [a0] from HasTy.fld h2 (i:=0) rfl rfl rfl zCP).list Tryz.underlying22 Route.enc Route.Wf (λcs _ h=>ty88 cs h);rw [qRK] at e0;have w0:=And.intro l0 m0;replace e0:[a0]=[D.sl 14 (x0.map Route.enc)]:=e0;simp only [List.cons.injEq,and_true] at e0;obtain⟨x1,e1,l1,m1⟩:=(show HasTy Tryz.prog 23 [a1] from HasTy.fld h2 (i:=1) rfl rfl rfl zG).list Tryz.underlying23 (D.int .i64) I64 (λcs _ h=>ty3 cs h);rw [jN] at e1;have w1:=And.intro l1 m1;replace e1:[a1]=[D.sl 1 (x1.map (D.int .i64))]:=e1;simp only [List.cons.injEq,and_true] at e1;obtain⟨x2,e2,l2,m2⟩:=(show HasTy Tryz.prog 23 [a2] from HasTy.fld h2 (i:=2) rfl rfl rfl zG).list Tryz.underlying23 (D.int .i64) I64 (λcs _ h=>ty3 cs h);rw [jN] at e2;have w2:=And.intro l2 m2;replace e2:[a2]=[D.sl 1 (x2.map (D.int .i64))]:=e2;simp only [List.cons.injEq,and_true] at e2;obtain⟨x3,e3,w3⟩:=(show HasTy Tryz.prog 3 [a3] from HasTy.fld h2 (i:=3) rfl rfl rfl jN).int_inv Tryz.underlying3;replace e3:[a3]=[D.int .i64 x3]:=e3;simp only [List.cons.injEq,and_true] at e3;obtain⟨x4,e4,w4⟩:=(show HasTy Tryz.prog 3 [a4] from HasTy.fld h2 (i:=4) rfl rfl rfl jN).int_inv Tryz.underlying3;replace e4:[a4]=[D.int .i64 x4]:=e4;simp only [List.cons.injEq,and_true] at e4;subst e0 e1 e2 e3 e4;exact⟨⟨x0,x1,x2,x3,x4⟩,⟨w0,w1,w2,w3,w4⟩,rfl⟩
theorem ty25 (cs:List D) (h:HasTy Tryz.prog 25 cs):∃ x:Table,x.Wf∧bX Tryz.prog 25 cs=x.enc:=by
 obtain⟨x,w,rfl⟩:=ty25c cs h;exact⟨x,w,by simp [bX,Tryz.underlying25,Table.enc]⟩
end Go.Proofs.YtldaknhjmhlefaaGreatDoor
