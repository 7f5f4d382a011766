/- Texts of this proof, joined, without what it does not use. No condition. -/
import Derived.Test.YtdkhkhidekpfoaaRows
import Derived.Test.YtdkhkhidekpfoaaQm

set_option maxHeartbeats 8000000
set_option linter.unusedSimpArgs false
set_option linter.unusedVariables false
set_option maxRecDepth 20000
namespace Go.Proofs.Ytdkhkhidekpfoaa
open Go Go.TL
theorem follows:Try.prog.follows .mixedOrders=true:=by kernel_rfl
theorem own:ownKnob Try.prog.godebug=none:=by kernel_rfl
theorem qBO:laidOutB Try.prog=true:=by kernel_rfl
def tab:Tab where
 lay:=[(3,false,1),(4,false,1),(22,false,1),(24,true,3),(27,false,1),(29,true,2),(36,false,1),(39,false,1),(51,true,3),(61,false,1),(78,false,1),(79,false,1),(81,true,9),(84,true,2)]
 fs:=[(24,[(0,false,1),(1,false,1),(2,false,1)]),(29,[(0,false,1),(1,false,1)]),(51,[(0,false,1),(1,false,1),(2,false,1)]),(63,[(0,false,1),(1,false,1)]),(81,[(0,true,2),(2,true,2),(4,false,1),(5,true,2),(7,false,1),(8,false,1)]),(84,[(0,false,1),(1,false,1)])]
 sel:=[(22,24,3,40),(27,51,3,24),(36,4,1,1),(54,36,1,24),(59,39,1,8),(66,3,1,8)]
 str:=[]
 boo:=[(4,())]
 con:=[]
theorem TK:TabOk Try.prog tab:=qAY (by kernel_rfl)
theorem qDL:aV Try.prog 10=true:=by kernel_rfl
theorem qDK:aV Try.prog 11=true:=by kernel_rfl
theorem qDJ:aV Try.prog 13=true:=by kernel_rfl
theorem qDI:aV Try.prog 14=true:=by kernel_rfl
theorem qDH:aV Try.prog 15=true:=by kernel_rfl
theorem qDG:aV Try.prog 17=true:=by kernel_rfl
theorem qDF:aV Try.prog 19=true:=by kernel_rfl
theorem qDE:aV Try.prog 20=true:=by kernel_rfl
theorem qDD:aV Try.prog 25=true:=by kernel_rfl
theorem qDC:aV Try.prog 26=true:=by kernel_rfl
theorem qDB:aV Try.prog 27=true:=by kernel_rfl
theorem qDA:aV Try.prog 28=true:=by kernel_rfl
theorem qCZ:aV Try.prog 29=true:=by kernel_rfl
theorem qCY:aV Try.prog 30=true:=by kernel_rfl
theorem qCX:aV Try.prog 32=true:=by kernel_rfl
theorem qCW:aV Try.prog 33=true:=by kernel_rfl
theorem qCV:aV Try.prog 34=true:=by kernel_rfl
theorem qCU:aV Try.prog 35=true:=by kernel_rfl
theorem qCT:aV Try.prog 36=true:=by kernel_rfl
theorem qCS:aV Try.prog 37=true:=by kernel_rfl
theorem qCR:aV Try.prog 38=true:=by kernel_rfl
theorem qCQ:aV Try.prog 40=true:=by kernel_rfl
theorem qCP:aV Try.prog 41=true:=by kernel_rfl
theorem wQ:aV Try.prog 42=true:=by kernel_rfl
theorem qCO:aV Try.prog 43=true:=by kernel_rfl
theorem qCN:aV Try.prog 44=true:=by kernel_rfl
theorem qCM:aV Try.prog 45=true:=by kernel_rfl
theorem qCL:aV Try.prog 48=true:=by kernel_rfl
theorem qCK:aV Try.prog 49=true:=by kernel_rfl
theorem qCJ:aV Try.prog 50=true:=by kernel_rfl
theorem qCI:aV Try.prog 51=true:=by kernel_rfl
theorem qCH:aV Try.prog 52=true:=by kernel_rfl
theorem qCG:aV Try.prog 53=true:=by kernel_rfl
theorem qCF:aV Try.prog 54=true:=by kernel_rfl
theorem qCE:aV Try.prog 55=true:=by kernel_rfl
theorem qCD:aV Try.prog 56=true:=by kernel_rfl
theorem qCC:aV Try.prog 57=true:=by kernel_rfl
theorem qCB:aV Try.prog 58=true:=by kernel_rfl
theorem qCA:aV Try.prog 59=true:=by kernel_rfl
theorem callB7:aV Try.prog 7=true:=by kernel_rfl
theorem zP:(Try.prog.keyTypeAt 30 51&&!Try.prog.eqGuardType Try.prog.depth 51&&(match Try.prog.underlying 51 with|some (.struct _)=>true|_=>false)&&[TypeDesc.int .i64,TypeDesc.int .i64,TypeDesc.int .i64].length == Try.prog.cellsOf 51)=true:=by kernel_rfl
theorem wM:kI Try.prog 30 51=some [.int .i64,.int .i64,.int .i64]:=by kernel_rfl
theorem mY:mty Try.prog 61=some (51,(Try.prog.underlying 51).getD .bool,3):=by kernel_rfl
theorem zH:mty Try.prog 79=some (84,(Try.prog.underlying 84).getD .bool,3):=by kernel_rfl
theorem qEB:plc Try.prog 24=some [(0,1),(1,1),(2,1)]:=by kernel_rfl
theorem dQ:plc Try.prog 29=some [(0,1),(1,1)]:=by kernel_rfl
theorem qC:plc Try.prog 51=some [(0,1),(1,1),(2,1)]:=by kernel_rfl
theorem plc81:plc Try.prog 81=some [(0,2),(2,2),(4,1),(5,2),(7,1),(8,1)]:=by kernel_rfl
theorem yW:plc Try.prog 84=some [(0,1),(1,1)]:=by kernel_rfl
theorem iP:SKey Try.prog 51 [.int .i64,.int .i64,.int .i64]:=sKey 3 (by decide) (by kernel_rfl) (by kernel_rfl)
theorem uN:SKey Try.prog 84 [.int .i64,.int .i64]:=sKey 3 (by decide) (by kernel_rfl) (by kernel_rfl)
theorem nX:(Try.prog.info? 24).bind (·.zero)=Option.some (Go.Value.agg #[Go.Value.int Go.IntKind.i64 0,Go.Value.int Go.IntKind.i64 0,Go.Value.slice Option.none 0 0]):=by kernel_rfl
theorem aK:(Try.prog.info? 29).bind (·.zero)=Option.some (Go.Value.agg #[Go.Value.slice Option.none 0 0,Go.Value.int Go.IntKind.i64 0]):=by kernel_rfl
theorem jZ:(Try.prog.info? 3).bind (·.zero)=Option.some (Go.Value.int Go.IntKind.i64 0):=by kernel_rfl
theorem uH:(Try.prog.info? 36).bind (·.zero)=Option.some (Go.Value.slice Option.none 0 0):=by kernel_rfl
theorem uG:(Try.prog.info? 39).bind (·.zero)=Option.some (Go.Value.int Go.IntKind.u64 0):=by kernel_rfl
theorem gC:(Try.prog.info? 4).bind (·.zero)=Option.some (Go.Value.bool Bool.false):=by kernel_rfl
theorem aT:(Try.prog.info? 51).bind (·.zero)=Option.some (Go.Value.agg #[Go.Value.int Go.IntKind.i64 0,Go.Value.int Go.IntKind.i64 0,Go.Value.int Go.IntKind.i64 0]):=by kernel_rfl
theorem zero63:(Try.prog.info? 63).bind (·.zero)=Option.some (Go.Value.agg #[Go.Value.map Option.none,Go.Value.slice Option.none 0 0]):=by kernel_rfl
theorem zero78:(Try.prog.info? 78).bind (·.zero)=Option.some Go.Value.nilFunc:=by kernel_rfl
theorem xY:(Try.prog.info? 81).bind (·.zero)=Option.some (Go.Value.agg #[Go.Value.slice Option.none 0 0,Go.Value.int Go.IntKind.i64 0,Go.Value.slice Option.none 0 0,Go.Value.int Go.IntKind.i64 0,Go.Value.bool Bool.false,Go.Value.map Option.none,Go.Value.slice Option.none 0 0,Go.Value.map Option.none,Go.Value.bool Bool.false]):=by kernel_rfl
theorem uF:(Try.prog.info? 84).bind (·.zero)=Option.some (Go.Value.agg #[Go.Value.int Go.IntKind.i64 0,Go.Value.int Go.IntKind.i64 0]):=by kernel_rfl
theorem wV {w:World} {n k:Nat} {g:Gh} {mv:Nat→Bool} {o:Oper} {ev:Operand→AV} {hp:List Blk} {a b:Operand} {t':TypeId} {x y:Node} (ho:o.op=.binOp .eql 51 a b t') (hx:ev a=.d x.enc) (hy:ev b=.d y.enc) (h1:x.ok) (h2:y.ok):RdOk ⟨Try.prog,n,w,k,g,mv⟩ o ev hp (.d (.bool (decide (x=y)))):=
 eq_yes ho hx hy wM zP rfl rfl ⟨⟨rfl,h1.1⟩,⟨rfl,h1.2.1⟩,⟨rfl,h1.2.2⟩,trivial⟩ ⟨⟨rfl,h2.1⟩,⟨rfl,h2.2.1⟩,⟨rfl,h2.2.2⟩,trivial⟩ (qP x y)
theorem qDV {w:World} {n k:Nat} {g:Gh} {mv:Nat→Bool} {o:Oper} {ev:Operand→AV} {hp:List Blk} {a b:Operand} {t':TypeId} {x y:Node} (ho:o.op=.binOp .neq 51 a b t') (hx:ev a=.d x.enc) (hy:ev b=.d y.enc) (h1:x.ok) (h2:y.ok):RdOk ⟨Try.prog,n,w,k,g,mv⟩ o ev hp (.d (.bool (!decide (x=y)))):=
 eq_not ho hx hy wM zP rfl rfl ⟨⟨rfl,h1.1⟩,⟨rfl,h1.2.1⟩,⟨rfl,h1.2.2⟩,trivial⟩ ⟨⟨rfl,h2.1⟩,⟨rfl,h2.2.1⟩,⟨rfl,h2.2.2⟩,trivial⟩ (qP x y)
theorem iV : KeyG [.int .i64, .int .i64, .int .i64] Node.enc Node.okb := ⟨fun x h => by
 have h : Node.ok x := of_decide_eq_true h
 exact ⟨_, [.int .i64 x.var, .int .i64 x.lo, .int .i64 x.hi], rfl, rfl, ⟨⟨rfl, h.1⟩, ⟨rfl, h.2.1⟩, ⟨rfl, h.2.2⟩, trivial⟩⟩, fun a b h => by
 cases a; cases b; simpa [Node.enc] using h⟩
theorem vI : KeyG [.int .i64, .int .i64] Pair.enc Pair.okb := ⟨fun x h => by
 have h : Pair.ok x := of_decide_eq_true h
 exact ⟨_, [.int .i64 x.a, .int .i64 x.b], rfl, rfl, ⟨⟨rfl, h.1⟩, ⟨rfl, h.2⟩, trivial⟩⟩, fun a b h => by
 cases a; cases b; simpa [Pair.enc] using h⟩
theorem HasTy.fld {P:Go.Program} {cs:List D} {fs:Array Field} (h2:∀ (i:Nat) (f:Field),fs[i]?=some f→HasTy P f.type ((cs.drop f.offset).take (P.cellsOf f.type))) {i off n:Nat} {f:Field} {t:TypeId} (hf:fs[i]?=some f) (ht:f.type=t) (ho:f.offset=off) (hc:P.cellsOf t=n):HasTy P t ((cs.drop off).take n):=by
 have:=h2 i f hf;rw [ht,ho,hc] at this;exact this
theorem rT:Try.prog.cellsOf 3=1:=by kernel_rfl
theorem wP:Try.prog.cellsOf 51=3:=by kernel_rfl
theorem qBM {cs:List D} (h:cs.length=3):∃ a0 a1 a2,cs=[a0,a1,a2]:=by
 match cs,h with
 | [a0,a1,a2],_=>exact⟨a0,a1,a2,rfl⟩
theorem ty51c (cs:List D) (h:HasTy Try.prog 51 cs):∃ x:Node,x.Wf∧cs=[.int .i64 x.var,.int .i64 x.lo,.int .i64 x.hi]:=by
 obtain⟨h1,h2⟩:=h.struct_inv Try.underlying51;rw [wP] at h1;obtain⟨a0,a1,a2,rfl⟩:=qBM h1;obtain⟨x0,e0,w0⟩:=(show HasTy Try.prog 3 [a0] from HasTy.fld h2 (i:=0) rfl rfl rfl rT).int_inv Try.underlying3;replace e0:[a0]=[D.int .i64 x0]:=e0;simp only [List.cons.injEq,and_true] at e0;obtain⟨x1,e1,w1⟩:=(show HasTy Try.prog 3 [a1] from HasTy.fld h2 (i:=1) rfl rfl rfl rT).int_inv Try.underlying3;replace e1:[a1]=[D.int .i64 x1]:=e1;simp only [List.cons.injEq,and_true] at e1;obtain⟨x2,e2,w2⟩:=(show HasTy Try.prog 3 [a2] from HasTy.fld h2 (i:=2) rfl rfl rfl rT).int_inv Try.underlying3;replace e2:[a2]=[D.int .i64 x2]:=e2;simp only [List.cons.injEq,and_true] at e2;subst e0 e1 e2;exact⟨⟨x0,x1,x2⟩,⟨w0,w1,w2⟩,rfl⟩
theorem ty51 (cs:List D) (h:HasTy Try.prog 51 cs):∃ x:Node,x.Wf∧aQ Try.prog 51 cs=x.enc:=by
 obtain⟨x,w,rfl⟩:=ty51c cs h;exact⟨x,w,by simp [aQ,Try.underlying51,Node.enc]⟩
theorem qBY:Try.prog.cellsOf 29=2:=by kernel_rfl
theorem qBZ:Try.prog.cellsOf 27=1:=by kernel_rfl
theorem qBN {cs:List D} (h:cs.length=2):∃ a0 a1,cs=[a0,a1]:=by
 match cs,h with
 | [a0,a1],_=>exact⟨a0,a1,rfl⟩
theorem ty29c (cs:List D) (h:HasTy Try.prog 29 cs):∃ x:Diagram,x.Wf∧cs=[.sl 3 (x.nodes.map Node.enc),.int .i64 x.root]:=by
 obtain⟨h1,h2⟩:=h.struct_inv Try.underlying29;rw [qBY] at h1;obtain⟨a0,a1,rfl⟩:=qBN h1;obtain⟨x0,e0,l0,m0⟩:=(show HasTy Try.prog 27 [a0] from HasTy.fld h2 (i:=0) rfl rfl rfl qBZ).list Try.underlying27 Node.enc Node.Wf (λcs _ h=>ty51 cs h);rw [wP] at e0;have w0:=And.intro l0 m0;replace e0:[a0]=[D.sl 3 (x0.map Node.enc)]:=e0;simp only [List.cons.injEq,and_true] at e0;obtain⟨x1,e1,w1⟩:=(show HasTy Try.prog 3 [a1] from HasTy.fld h2 (i:=1) rfl rfl rfl rT).int_inv Try.underlying3;replace e1:[a1]=[D.int .i64 x1]:=e1;simp only [List.cons.injEq,and_true] at e1;subst e0 e1;exact⟨⟨x0,x1⟩,⟨w0,w1⟩,rfl⟩
theorem ty29 (cs:List D) (h:HasTy Try.prog 29 cs):∃ x:Diagram,x.Wf∧aQ Try.prog 29 cs=x.enc:=by
 obtain⟨x,w,rfl⟩:=ty29c cs h;exact⟨x,w,by simp [aQ,Try.underlying29,Diagram.enc]⟩
def lK (p0:Int):Option Expr:=
 some (⟨(3:Int),p0,([]:List Expr)⟩:Expr)
def eH:Nat→Expr→Int→Int→Int→Option (Bool×Int)
 | 0,_,_,_,_=>none
 | fu+1,p0,p1,p2,p3=>
 if ((decide ((12:Int) < p2))||(decide (p3=(0:Int))))=true then
 some (false,p3)
 else
 aD (I64 (p3 - (1:Int))) <|
 fB (
 aC (
 if p0.op=(1:Int) then
 some (decide (p0.op=(1:Int)))
 else
 some (decide (p0.op=(2:Int)))) λx5=>
 if x5=true then
 aY (
 some (((decide (p0.var=(0:Int)))&&(decide ((p0.args.length:Int)=(0:Int)))),(p3 - (1:Int))))
 else
 if p0.op=(3:Int) then
 aY (
 some (((decide ((0:Int)≤p0.var))&&((decide (p0.var < p1))&&(decide ((p0.args.length:Int)=(0:Int))))),(p3 - (1:Int))))
 else
 if p0.op=(4:Int) then
 if (p0.args.length:Int)=(1:Int) then
 some (.inl ())
 else
 aY (
 some (false,(p3 - (1:Int))))
 else
 if p0.op=(5:Int) then
 some (.inl ())
 else
 if p0.op=(6:Int) then
 some (.inl ())
 else
 aY (
 some (false,(p3 - (1:Int))))) λ_=>
 if p0.var=(0:Int) then
 fB (
 bP (λ(x27,c28)=>
 if x27 < (p0.args.length:Int) then
 bN p0.args x27 λe31=>
 aD (I64 (p2+(1:Int))) <|
 aC ((eH fu) e31 p1 (p2+(1:Int)) c28) λ(r34,r35)=>
 if (!(r34))=true then
 aY (
 aY (
 some (false,r35)))
 else
 aD (I64 (x27+(1:Int))) <|
 some (.inl ((x27+(1:Int)),r35))
 else
 aY (
 some (.inl c28))) ((0:Int),(p3 - (1:Int)))) λc22=>
 some (true,c22)
 else
 some (false,(p3 - (1:Int)))
def pE (p0:Expr) (p1:Int) (p2:Int) (p3:Int):Option (Bool×Int):=eH aH p0 p1 p2 p3
def kU (p0:Expr) (p1:Int):Option Bool:=
 aC (pE p0 p1 (1:Int) (20000:Int)) λ(r2,r3)=>
 some r2
def fX (p0:Int):Option Int:=
 if p0 < (2:Int) then
 aD (I64 ((1:Int) - p0)) <|
 some ((1:Int) - p0)
 else
 some p0
def dA (p0:Diagram):Option Diagram:=
 aC (fX p0.root) λr1=>
 aC (
 bP (λ(x7,b8)=>
 if x7 < (p0.nodes.length:Int) then
 bN p0.nodes x7 λe11=>
 aC (fX e11.lo) λr12=>
 aC (fX e11.hi) λr13=>
 aD ((b8++([(⟨e11.var,r12,r13⟩:Node)]:List Node)).length≤1000000000) <|
 aD (I64 (x7+(1:Int))) <|
 some (.inl ((x7+(1:Int)),(b8++([(⟨e11.var,r12,r13⟩:Node)]:List Node))))
 else
 aY (
 some b8)) ((0:Int),([]:List Node))) λb2=>
 some (⟨b2,r1⟩:Diagram)
def fI (p0:Bool):Option Diagram:=
 if p0=true then
 some (⟨([]:List Node),(1:Int)⟩:Diagram)
 else
 some (⟨([]:List Node),(0:Int)⟩:Diagram)
def cJ (p0:Diagram) (p1:Int):Option Int:=
 if p1 < (2:Int) then
 some (64:Int)
 else
 aD (I64 (p1 - (2:Int))) <|
 bN p0.nodes (p1 - (2:Int)) λe3=>
 some e3.var
def dB (p0:Diagram) (p1:Int) (p2:Int):Option (Int×Int):=
 aC (cJ p0 p1) λr1=>
 if r1=p2 then
 aD (I64 (p1 - (2:Int))) <|
 bN p0.nodes (p1 - (2:Int)) λe4=>
 some (e4.lo,e4.hi)
 else
 some (p1,p1)
def aL (p0:Merger) (p1:Node):Option (Int×Merger):=
 tE p0.nodes.index (
 aD (Node.okb p1=true) <|
 aC (
 some ()) λ_=>
 aD (dK Node.okb ([]:List (Node×Int)) p1) <|
 aD ((p0.nodes.list++([p1]:List Node)).length≤1000000000) <|
 aD (I64 (((p0.nodes.list++([p1]:List Node)).length:Int) - (1:Int))) <|
 some ((((p0.nodes.list++([p1]:List Node)).length:Int) - (1:Int)),(⟨p0.a,p0.b,p0.all,(⟨(eX ([]:List (Node×Int)) p1 (p0.nodes.list.length:Int)),(p0.nodes.list++([p1]:List Node))⟩:Node'),p0.done,p0.full⟩:Merger))) (
 aD (dK Node.okb p0.nodes.index p1) <|
 if ((bR p0.nodes.index p1).isSome)=true then
 some (((bR p0.nodes.index p1).getD (0:Int)),p0)
 else
 aC (
 some ()) λ_=>
 aD (dK Node.okb p0.nodes.index p1) <|
 aD ((p0.nodes.list++([p1]:List Node)).length≤1000000000) <|
 aD (I64 (((p0.nodes.list++([p1]:List Node)).length:Int) - (1:Int))) <|
 some ((((p0.nodes.list++([p1]:List Node)).length:Int) - (1:Int)),(⟨p0.a,p0.b,p0.all,(⟨(eX p0.nodes.index p1 (p0.nodes.list.length:Int)),(p0.nodes.list++([p1]:List Node))⟩:Node'),p0.done,p0.full⟩:Merger)))
def aW:Nat→Merger→Pair→Option (Int×Merger)
 | 0,_,_=>none
 | fu+1,p0,p1=>
 if (p0.full)=true then
 some ((0:Int),p0)
 else
 aC (
 if (!(p0.all))=true then
 some ((1:Int),(0:Int))
 else
 some ((0:Int),(1:Int))) λ(decides2,other3)=>
 if ((decide (p1.a=decides2))||(decide (p1.b=decides2)))=true then
 some (decides2,p0)
 else
 if ((decide (p1.a=other3))&&(decide (p1.b=other3)))=true then
 some (other3,p0)
 else
 aD (dK Pair.okb p0.done p1) <|
 if ((bR p0.done p1).isSome)=true then
 some (((bR p0.done p1).getD (0:Int)),p0)
 else
 aC (cJ p0.a p1.a) λr12=>
 aC (cJ p0.b p1.b) λr13=>
 aC (dB p0.a p1.a (min r12 r13)) λ(r15,r16)=>
 aC (dB p0.b p1.b (min r12 r13)) λ(r18,r19)=>
 aC ((aW fu) p0 (⟨r15,r18⟩:Pair)) λ(r21,r22)=>
 aC (
 aC ((aW fu) (⟨p0.a,p0.b,p0.all,r22.nodes,r22.done,r22.full⟩:Merger) (⟨r16,r19⟩:Pair)) λ(r30,r31)=>
 if r30=r21 then
 some (r21,r31.full,r31.nodes.index,r31.nodes.list,r31.done)
 else
 aC (aL (⟨p0.a,p0.b,p0.all,r31.nodes,r31.done,r31.full⟩:Merger) (⟨(min r12 r13),r21,r30⟩:Node)) λ(r34,r35)=>
 aD (I64 (r34+(2:Int))) <|
 some ((r34+(2:Int)),r31.full,r35.nodes.index,r35.nodes.list,r31.done)) λ(x23,c24,m25,b26,m27)=>
 if (20000:Int) < (b26.length:Int) then
 aD (dK Pair.okb m27 p1) <|
 some (x23,(⟨p0.a,p0.b,p0.all,(⟨m25,b26⟩:Node'),(eX m27 p1 x23),true⟩:Merger))
 else
 aD (dK Pair.okb m27 p1) <|
 some (x23,(⟨p0.a,p0.b,p0.all,(⟨m25,b26⟩:Node'),(eX m27 p1 x23),c24⟩:Merger))
def eR (p0:Merger) (p1:Pair):Option (Int×Merger):=aW aH p0 p1
def dU (p0:Diagram) (p1:Diagram) (p2:Bool):Option (Diagram×Bool):=
 aC (eR (⟨p0,p1,p2,(⟨([]:List (Node×Int)),([]:List Node)⟩:Node'),([]:List (Pair×Int)),false⟩:Merger) (⟨p0.root,p1.root⟩:Pair)) λ(r2,r3)=>
 if (r3.full)=true then
 some ((⟨([]:List Node),(0:Int)⟩:Diagram),false)
 else
 some ((⟨r3.nodes.list,r2⟩:Diagram),true)
def cN:Nat→Expr→Option (Diagram×Bool)
 | 0,_=>none
 | fu+1,p0=>
 fB (
 if p0.op=(1:Int) then
 aY (
 some ((⟨([]:List Node),(0:Int)⟩:Diagram),true))
 else
 if p0.op=(3:Int) then
 aY (
 some ((⟨([(⟨p0.var,(0:Int),(1:Int)⟩:Node)]:List Node),(2:Int)⟩:Diagram),true))
 else
 if p0.op=(4:Int) then
 bN p0.args (0:Int) λe7=>
 aC ((cN fu) e7) λ(r9,r10)=>
 aC (dA r9) λr11=>
 aY (
 some (r11,r10))
 else
 aC (
 if p0.op=(5:Int) then
 some (decide (p0.op=(5:Int)))
 else
 some (decide (p0.op=(6:Int)))) λx13=>
 if x13=true then
 aC (fI (decide (p0.op=(5:Int)))) λr17=>
 fB (
 bP (λ(x25,c26,c27)=>
 if x25 < (p0.args.length:Int) then
 bN p0.args x25 λe30=>
 aC ((cN fu) e30) λ(r32,r33)=>
 if (!(r33))=true then
 aY (
 aY (
 aY (
 some ((⟨([]:List Node),(0:Int)⟩:Diagram),false))))
 else
 aC (dU (⟨c26,c27⟩:Diagram) r32 (decide (p0.op=(5:Int)))) λ(r39,r40)=>
 if (!(r40))=true then
 aY (
 aY (
 aY (
 some ((⟨([]:List Node),(0:Int)⟩:Diagram),false))))
 else
 aD (I64 (x25+(1:Int))) <|
 some (.inl ((x25+(1:Int)),r39.nodes,r39.root))
 else
 aY (
 some (.inl (c26,c27)))) ((0:Int),r17.nodes,r17.root)) λ(c18,c19)=>
 aY (
 some ((⟨c18,c19⟩:Diagram),true))
 else
 some (.inl ())) λ_=>
 aC (fI true) λr48=>
 some (r48,true)
def nC (p0:Expr):Option (Diagram×Bool):=cN aH p0
def vR (p0:Expr) (p1:Int):Option (Diagram×Int):=
 if (64:Int) < p1 then
 some ((⟨([]:List Node),(0:Int)⟩:Diagram),(2:Int))
 else
 aC (
 if p1 < (0:Int) then
 some true
 else
 aC (kU p0 p1) λr5=>
 some (!(r5))) λx2=>
 if x2=true then
 some ((⟨([]:List Node),(0:Int)⟩:Diagram),(1:Int))
 else
 aC (nC p0) λ(r8,r9)=>
 if (!(r9))=true then
 some ((⟨([]:List Node),(0:Int)⟩:Diagram),(2:Int))
 else
 some (r8,(0:Int))
def dV (p0:Diagram) (p1:Int) (p2:Int):Option Bool:=
 if ((decide (p2=(0:Int)))||(decide (p2=(1:Int))))=true then
 some true
 else
 aC (
 if (2:Int)≤p2 then
 aD (I64 (p1+(2:Int))) <|
 if p2 < (p1+(2:Int)) then
 aD (I64 (p2 - (2:Int))) <|
 bN p0.nodes (p2 - (2:Int)) λe9=>
 bN p0.nodes p1 λe10=>
 some (decide (e10.var < e9.var))
 else
 some false
 else
 some false) λx3=>
 some x3
def bE:Nat→Int→(List Bool)→Diagram→Int→Option (Bool×(List Bool)×Int)
 | 0,_,_,_,_=>none
 | fu+1,p0,p1,p2,p4=>
 aC (
 if p0 < (2:Int) then
 some true
 else
 bN p1 p0 λe4=>
 some e4) λx1=>
 if x1=true then
 some (true,p1,p4)
 else
 bN p1 p0 λe6=>
 aD (I64 (p0 - (2:Int))) <|
 bN p2.nodes (p0 - (2:Int)) λe8=>
 aC (
 aC ((bE fu) e8.lo (p1.set p0.toNat true) p2 p4) λ(r14,r15,r16)=>
 if (!(r14))=true then
 some (true,r15,r16)
 else
 aC ((bE fu) e8.hi r15 p2 r16) λ(r19,r20,r21)=>
 if (!(r19))=true then
 some (true,r20,r21)
 else
 some (!(decide (p0=r21)),r20,r21)) λ(x9,b10,c11)=>
 if x9=true then
 some (false,b10,c11)
 else
 aD (I64 (c11+(1:Int))) <|
 some (true,b10,(c11+(1:Int)))
def fW (p0:Int) (p1:(List Bool)) (p2:Diagram) (p4:Int):Option (Bool×(List Bool)×Int):=bE aH p0 p1 p2 p4
def fC (p0:Diagram):Option Bool:=
 aD (I64 ((p0.nodes.length:Int)+(2:Int))) <|
 aD (0≤((p0.nodes.length:Int)+(2:Int))∧((p0.nodes.length:Int)+(2:Int))≤1000000000) <|
 aC (
 aC (fW p0.root (List.replicate ((p0.nodes.length:Int)+(2:Int)).toNat false) p0 (2:Int)) λ(r8,r9,r10)=>
 if r8=true then
 aD (I64 ((p0.nodes.length:Int)+(2:Int))) <|
 some (decide (r10=((p0.nodes.length:Int)+(2:Int))),r9,r10)
 else
 some (false,r9,r10)) λ(x3,b4,c5)=>
 some x3
def aR (p0:Node') (p1:Node):Option (Int×Node'):=
 tE p0.index (
 aD (Node.okb p1=true) <|
 aC (
 some ()) λ_=>
 aD (dK Node.okb ([]:List (Node×Int)) p1) <|
 aD ((p0.list++([p1]:List Node)).length≤1000000000) <|
 aD (I64 (((p0.list++([p1]:List Node)).length:Int) - (1:Int))) <|
 some ((((p0.list++([p1]:List Node)).length:Int) - (1:Int)),(⟨(eX ([]:List (Node×Int)) p1 (p0.list.length:Int)),(p0.list++([p1]:List Node))⟩:Node'))) (
 aD (dK Node.okb p0.index p1) <|
 if ((bR p0.index p1).isSome)=true then
 some (((bR p0.index p1).getD (0:Int)),p0)
 else
 aC (
 some ()) λ_=>
 aD (dK Node.okb p0.index p1) <|
 aD ((p0.list++([p1]:List Node)).length≤1000000000) <|
 aD (I64 (((p0.list++([p1]:List Node)).length:Int) - (1:Int))) <|
 some ((((p0.list++([p1]:List Node)).length:Int) - (1:Int)),(⟨(eX p0.index p1 (p0.list.length:Int)),(p0.list++([p1]:List Node))⟩:Node')))
def cO (p0:Diagram):Option Bool:=
 if (20000:Int) < (p0.nodes.length:Int) then
 some false
 else
 fB (
 bP (λ(x9,b10,b11)=>
 if x9 < (p0.nodes.length:Int) then
 bN p0.nodes x9 λe14=>
 aC (
 if e14.var < (0:Int) then
 some true
 else
 if (64:Int)≤e14.var then
 some true
 else
 if e14.lo=e14.hi then
 some true
 else
 aC (dV p0 x9 e14.lo) λr20=>
 if (!(r20))=true then
 some true
 else
 aC (dV p0 x9 e14.hi) λr22=>
 some (!(r22))) λx15=>
 if x15=true then
 aY (
 aY (
 some false))
 else
 aC (aR (⟨b10,b11⟩:Node') e14) λ(r27,r28)=>
 if r27=x9 then
 aD (I64 (x9+(1:Int))) <|
 some (.inl ((x9+(1:Int)),r28.index,r28.list))
 else
 aY (
 aY (
 some false))
 else
 aY (
 some (.inl (b10,b11)))) ((0:Int),([]:List (Node×Int)),([]:List Node))) λ(m2,b3)=>
 if (p0.nodes.length:Int)=(0:Int) then
 some ((decide (p0.root=(0:Int)))||(decide (p0.root=(1:Int))))
 else
 aC (
 aD (I64 ((p0.nodes.length:Int)+(1:Int))) <|
 if p0.root=((p0.nodes.length:Int)+(1:Int)) then
 aC (fC p0) λr40=>
 some r40
 else
 some false) λx36=>
 some x36
def jR (p0:Diagram) (p1:Int):Option Bool:=
 fB (
 bP (λx3=>
 if x3 < (p0.nodes.length:Int) then
 bN p0.nodes x3 λe6=>
 if p1≤e6.var then
 aY (
 aY (
 some false))
 else
 aD (I64 (x3+(1:Int))) <|
 some (.inl (x3+(1:Int)))
 else
 aY (
 some (.inl ()))) (0:Int)) λ_=>
 some true
def eI (p0:Int) (p1:Int) (p2:Diagram):Option Int:=
 if p0 < (2:Int) then
 some p1
 else
 aD (I64 (p0 - (2:Int))) <|
 bN p2.nodes (p0 - (2:Int)) λe3=>
 some e3.var
def mQ (p0:Diagram) (p1:Int):Option (Int×Int):=
 if ((decide (p1 < (0:Int)))||(decide ((62:Int) < p1)))=true then
 some ((0:Int),(2:Int))
 else
 aC (
 aC (cO p0) λr5=>
 if (!(r5))=true then
 some true
 else
 aC (jR p0 p1) λr7=>
 some (!(r7))) λx3=>
 if x3=true then
 some ((0:Int),(1:Int))
 else
 aC (
 bP (λ(x14,b15)=>
 if x14 < (p0.nodes.length:Int) then
 bN p0.nodes x14 λe18=>
 bN b15 e18.lo λe19=>
 aC (eI e18.lo p1 p0) λr20=>
 aD (I64 (r20 - e18.var)) <|
 aD (I64 ((r20 - e18.var) - (1:Int))) <|
 aD (0≤((r20 - e18.var) - (1:Int))) <|
 bN b15 e18.hi λe24=>
 aC (eI e18.hi p1 p0) λr25=>
 aD (I64 (r25 - e18.var)) <|
 aD (I64 ((r25 - e18.var) - (1:Int))) <|
 aD (0≤((r25 - e18.var) - (1:Int))) <|
 aD ((b15++([(IntKind.u64.wrap ((IntKind.u64.wrap (e19 * (2 ^ (min ((r20 - e18.var) - (1:Int)).toNat IntKind.u64.bits))))+(IntKind.u64.wrap (e24 * (2 ^ (min ((r25 - e18.var) - (1:Int)).toNat IntKind.u64.bits))))))]:List Int)).length≤1000000000) <|
 aD (I64 (x14+(1:Int))) <|
 some (.inl ((x14+(1:Int)),(b15++([(IntKind.u64.wrap ((IntKind.u64.wrap (e19 * (2 ^ (min ((r20 - e18.var) - (1:Int)).toNat IntKind.u64.bits))))+(IntKind.u64.wrap (e24 * (2 ^ (min ((r25 - e18.var) - (1:Int)).toNat IntKind.u64.bits))))))]:List Int))))
 else
 aY (
 some b15)) ((0:Int),([(0:Int),(1:Int)]:List Int))) λb9=>
 bN b9 p0.root λe32=>
 aC (eI p0.root p1 p0) λr33=>
 aD (0≤r33) <|
 some ((IntKind.u64.wrap (e32 * (2 ^ (min r33.toNat IntKind.u64.bits)))),(0:Int))
def mP (p0:Diagram) (p1:Int):Option ((List Bool)×Bool):=
 aC (
 if p1 < (0:Int) then
 some true
 else
 if (64:Int) < p1 then
 some true
 else
 aC (cO p0) λr5=>
 if (!(r5))=true then
 some true
 else
 aC (jR p0 p1) λr7=>
 if (!(r7))=true then
 some true
 else
 some (decide (p0.root=(0:Int)))) λx1=>
 if x1=true then
 some (([]:List Bool),false)
 else
 aD (0≤p1∧p1≤1000000000) <|
 aC (
 bP (λ(at16,b17)=>
 if (1:Int) < at16 then
 aD (I64 (at16 - (2:Int))) <|
 bN p0.nodes (at16 - (2:Int)) λe21=>
 if e21.lo=(0:Int) then
 bN b17 e21.var λe23=>
 some (.inl (e21.hi,(b17.set e21.var.toNat true)))
 else
 some (.inl (e21.lo,b17))
 else
 aY (
 some b17)) (p0.root,(List.replicate p1.toNat false))) λb11=>
 some (b11,true)
def bJ (p0:Diagram) (p1:Diagram):Option Bool:=
 if ((!(decide ((p0.nodes.length:Int)=(p1.nodes.length:Int))))||(!(decide (p0.root=p1.root))))=true then
 some false
 else
 fB (
 bP (λx5=>
 if x5 < (p0.nodes.length:Int) then
 bN p0.nodes x5 λe8=>
 bN p1.nodes x5 λe9=>
 aD (Node.ok e8∧Node.ok e9) <|
 if e8=e9 then
 aD (I64 (x5+(1:Int))) <|
 some (.inl (x5+(1:Int)))
 else
 aY (
 aY (
 some false))
 else
 aY (
 some (.inl ()))) (0:Int)) λ_=>
 some true
def fA:Option Bool:=
 aC (lK (0:Int)) λr1=>
 aC (lK (1:Int)) λr2=>
 aC (vR (⟨(5:Int),(0:Int),([r1,r2]:List Expr)⟩:Expr) (2:Int)) λ(r4,r5)=>
 aC (mQ r4 (3:Int)) λ(r7,r8)=>
 aC (mP r4 (2:Int)) λ(r10,r11)=>
 aC (
 if r5=(0:Int) then
 if r8=(0:Int) then
 if r7=(2:Int) then
 if r11=true then
 if (r10.length:Int)=(2:Int) then
 bN r10 (0:Int) λe19=>
 if e19=true then
 bN r10 (1:Int) λe21=>
 if e21=true then
 aC (bJ r4 (⟨([(⟨(1:Int),(0:Int),(1:Int)⟩:Node),(⟨(0:Int),(0:Int),(2:Int)⟩:Node)]:List Node),(3:Int)⟩:Diagram)) λr23=>
 if r23=true then
 aC (cO r4) λr25=>
 some r25
 else
 some false
 else
 some false
 else
 some false
 else
 some false
 else
 some false
 else
 some false
 else
 some false
 else
 some false) λx12=>
 some x12
def cT (p0:Int):Option ((List (List Bool))):=
 aC (
 bP (λ(k6,b7)=>
 aD (0≤p0) <|
 if k6 < (IntKind.i64.wrap ((1:Int) * (2 ^ (min p0.toNat IntKind.i64.bits)))) then
 aC (
 aC (
 aD (I64 (p0 - (1:Int))) <|
 bP (λ(i19,b20)=>
 if (0:Int)≤i19 then
 aD (0≤i19) <|
 aD ((b20++([decide ((IntKind.i64.wrap (BitVec.ofInt IntKind.i64.bits (k6.fdiv (2 ^ (min i19.toNat IntKind.i64.bits))) &&& BitVec.ofInt IntKind.i64.bits (1:Int)).toNat)=(1:Int))]:List Bool)).length≤1000000000) <|
 aD (I64 (i19 - (1:Int))) <|
 some (.inl ((i19 - (1:Int)),(b20++([decide ((IntKind.i64.wrap (BitVec.ofInt IntKind.i64.bits (k6.fdiv (2 ^ (min i19.toNat IntKind.i64.bits))) &&& BitVec.ofInt IntKind.i64.bits (1:Int)).toNat)=(1:Int))]:List Bool))))
 else
 aY (
 some b20)) ((p0 - (1:Int)),([]:List Bool))) λb13=>
 aD ((b7++([b13]:List (List Bool))).length≤1000000000) <|
 some (b7++([b13]:List (List Bool)))) λb11=>
 aD (I64 (k6+(1:Int))) <|
 some (.inl ((k6+(1:Int)),b11))
 else
 aY (
 some b7)) ((0:Int),([]:List (List Bool)))) λb1=>
 some b1
def gO (p0:Diagram) (p1:Node):Option (Int×Diagram):=
 if p1.lo=p1.hi then
 some (p1.lo,p0)
 else
 fB (
 bP (λx4=>
 if x4 < (p0.nodes.length:Int) then
 bN p0.nodes x4 λe7=>
 aD (Node.ok e7∧Node.ok p1) <|
 if e7=p1 then
 aD (I64 (x4+(2:Int))) <|
 aY (
 aY (
 some ((x4+(2:Int)),p0)))
 else
 aD (I64 (x4+(1:Int))) <|
 some (.inl (x4+(1:Int)))
 else
 aY (
 some (.inl ()))) (0:Int)) λ_=>
 aD ((p0.nodes++([p1]:List Node)).length≤1000000000) <|
 aD (I64 (((p0.nodes++([p1]:List Node)).length:Int)+(1:Int))) <|
 some ((((p0.nodes++([p1]:List Node)).length:Int)+(1:Int)),(⟨(p0.nodes++([p1]:List Node)),p0.root⟩:Diagram))
def bQ:Nat→Diagram→(List Bool)→Int→Option (Int×Diagram)
 | 0,_,_,_=>none
 | fu+1,p0,p1,p2=>
 if (p1.length:Int)=(1:Int) then
 bN p1 (0:Int) λe2=>
 if e2=true then
 some ((1:Int),p0)
 else
 some ((0:Int),p0)
 else
 aD (¬ (2:Int)=0) <|
 aD (0≤(0:Int)∧(0:Int)≤(IntKind.i64.wrap ((p1.length:Int).tdiv (2:Int)))∧(IntKind.i64.wrap ((p1.length:Int).tdiv (2:Int)))≤(p1.length:Int)) <|
 aD (I64 (p2+(1:Int))) <|
 aC ((bQ fu) p0 (sub p1 (0:Int) (IntKind.i64.wrap ((p1.length:Int).tdiv (2:Int)))) (p2+(1:Int))) λ(r8,r9)=>
 aD (0≤(IntKind.i64.wrap ((p1.length:Int).tdiv (2:Int)))∧(IntKind.i64.wrap ((p1.length:Int).tdiv (2:Int)))≤(p1.length:Int)∧(p1.length:Int)≤(p1.length:Int)) <|
 aD (I64 (p2+(1:Int))) <|
 aC ((bQ fu) (⟨r9.nodes,p0.root⟩:Diagram) (sub p1 (IntKind.i64.wrap ((p1.length:Int).tdiv (2:Int))) (p1.length:Int)) (p2+(1:Int))) λ(r13,r14)=>
 aC (gO (⟨r14.nodes,p0.root⟩:Diagram) (⟨p2,r8,r13⟩:Node)) λ(r16,r17)=>
 some (r16,(⟨r17.nodes,p0.root⟩:Diagram))
def kO (p0:Diagram) (p1:(List Bool)) (p2:Int):Option (Int×Diagram):=bQ aH p0 p1 p2
def dJ (p0:(List Bool)):Option Diagram:=
 aC (kO (⟨([]:List Node),(0:Int)⟩:Diagram) p0 (0:Int)) λ(r2,r3)=>
 some (⟨r3.nodes,r2⟩:Diagram)
def bL (p0:Diagram):Option Int:=
 aC (
 bP (λ(w5,x6)=>
 if x6 < (p0.nodes.length:Int) then
 bN p0.nodes x6 λe9=>
 some (.inl ((max w5 (IntKind.i64.wrap (e9.var+(1:Int)))),(IntKind.i64.wrap (x6+(1:Int)))))
 else
 aY (
 some w5)) ((0:Int),(0:Int))) λw1=>
 some w1
def dS (p0:Diagram):Option Bool:=
 aC (
 if (p0.nodes.length:Int)≤(200:Int) then
 aC (bL p0) λr4=>
 some (decide (r4≤(10:Int)))
 else
 some false) λx1=>
 some x1
def bK:Nat→Diagram→Int→(List Int)→Option ((List Int))
 | 0,_,_,_=>none
 | fu+1,p0,p1,p2=>
 if p1 < (2:Int) then
 some p2
 else
 fB (
 bP (λx4=>
 if x4 < (p2.length:Int) then
 bN p2 x4 λe7=>
 if e7=p1 then
 aY (
 aY (
 some p2))
 else
 aD (I64 (x4+(1:Int))) <|
 some (.inl (x4+(1:Int)))
 else
 aY (
 some (.inl ()))) (0:Int)) λ_=>
 aD (I64 (p1 - (2:Int))) <|
 bN p0.nodes (p1 - (2:Int)) λe14=>
 aC ((bK fu) p0 e14.lo p2) λr15=>
 aD (I64 (p1 - (2:Int))) <|
 bN p0.nodes (p1 - (2:Int)) λe17=>
 aC ((bK fu) p0 e17.hi r15) λr18=>
 aD ((r18++([p1]:List Int)).length≤1000000000) <|
 some (r18++([p1]:List Int))
def fF (p0:Diagram) (p1:Int) (p2:(List Int)):Option ((List Int)):=bK aH p0 p1 p2
def cA (p0:Diagram):Option Bool:=
 if (p0.nodes.length:Int)=(0:Int) then
 some ((decide (p0.root=(0:Int)))||(decide (p0.root=(1:Int))))
 else
 aC (
 if (20000:Int) < (p0.nodes.length:Int) then
 some true
 else
 aD (I64 ((p0.nodes.length:Int)+(1:Int))) <|
 some (!(decide (p0.root=((p0.nodes.length:Int)+(1:Int)))))) λx3=>
 if x3=true then
 some false
 else
 fB (
 bP (λx10=>
 if x10 < (p0.nodes.length:Int) then
 fB (
 bN p0.nodes x10 λe14=>
 if ((decide (e14.var < (0:Int)))||((decide ((63:Int) < e14.var))||(decide (e14.lo=e14.hi))))=true then
 aY (
 aY (
 aY (
 some false)))
 else
 fB (
 bP (λx23=>
 if x23 < (([e14.lo,e14.hi]:List Int).length:Int) then
 bN ([e14.lo,e14.hi]:List Int) x23 λe26=>
 aC (
 if e26 < (0:Int) then
 some true
 else
 aD (I64 (x10+(2:Int))) <|
 if (x10+(2:Int))≤e26 then
 some true
 else
 if (1:Int) < e26 then
 aD (I64 (e26 - (2:Int))) <|
 bN p0.nodes (e26 - (2:Int)) λe34=>
 some (decide (e34.var≤e14.var))
 else
 some false) λx27=>
 if x27=true then
 aY (
 aY (
 aY (
 aY (
 aY (
 some false)))))
 else
 aD (I64 (x23+(1:Int))) <|
 some (.inl (x23+(1:Int)))
 else
 aY (
 some (.inl ()))) (0:Int)) λ_=>
 bP (λx44=>
 if x44 < x10 then
 bN p0.nodes x44 λe47=>
 aD (Node.ok e47∧Node.ok e14) <|
 if e47=e14 then
 aY (
 aY (
 aY (
 aY (
 some false))))
 else
 aD (I64 (x44+(1:Int))) <|
 some (.inl (x44+(1:Int)))
 else
 aY (
 some (.inl ()))) (0:Int)) λ_=>
 aD (I64 (x10+(1:Int))) <|
 some (.inl (x10+(1:Int)))
 else
 aY (
 some (.inl ()))) (0:Int)) λ_=>
 aC (fF p0 p0.root ([]:List Int)) λr59=>
 fB (
 bP (λx62=>
 if x62 < (r59.length:Int) then
 bN r59 x62 λe65=>
 aD (I64 (x62+(2:Int))) <|
 if e65=(x62+(2:Int)) then
 aD (I64 (x62+(1:Int))) <|
 some (.inl (x62+(1:Int)))
 else
 aY (
 aY (
 some false))
 else
 aY (
 some (.inl ()))) (0:Int)) λ_=>
 some (decide ((r59.length:Int)=(p0.nodes.length:Int)))
def bZ (p0:Diagram) (p1:(List Bool)):Option Bool:=
 aC (
 bP (λn4=>
 if (1:Int) < n4 then
 aD (I64 (n4 - (2:Int))) <|
 bN p0.nodes (n4 - (2:Int)) λe8=>
 aC (
 if e8.var < (p1.length:Int) then
 bN p1 e8.var λe12=>
 some e12
 else
 some false) λx9=>
 if x9=true then
 some (.inl e8.hi)
 else
 some (.inl e8.lo)
 else
 aY (
 some n4)) p0.root) λn1=>
 some (decide (n1=(1:Int)))
def dG (p0:Diagram) (p1:Diagram) (p2:Bool):Option (Diagram×Int):=
 aC (
 aC (cO p0) λr3=>
 if (!(r3))=true then
 some true
 else
 aC (cO p1) λr5=>
 some (!(r5))) λx1=>
 if x1=true then
 some ((⟨([]:List Node),(0:Int)⟩:Diagram),(1:Int))
 else
 aC (dU p0 p1 p2) λ(r8,r9)=>
 if (!(r9))=true then
 some ((⟨([]:List Node),(0:Int)⟩:Diagram),(2:Int))
 else
 some (r8,(0:Int))
def nU (p0:Diagram) (p1:Diagram):Option (Diagram×Int):=
 aC (dG p0 p1 true) λ(r2,r3)=>
 some (r2,r3)
def dP (p0:Diagram) (p1:Diagram):Option (Diagram×Int):=
 aC (
 aC (cA p0) λr3=>
 if (!(r3))=true then
 some true
 else
 aC (cA p1) λr5=>
 some (!(r5))) λx1=>
 if x1=true then
 some ((⟨([]:List Node),(0:Int)⟩:Diagram),(1:Int))
 else
 aC (
 aC (bL p0) λr9=>
 aC (bL p1) λr10=>
 aC (cT (max r9 r10)) λr11=>
 bP (λ(x15,b16)=>
 if x15 < (r11.length:Int) then
 bN r11 x15 λe19=>
 aC (bZ p0 e19) λr20=>
 if r20=true then
 aC (bZ p1 e19) λr24=>
 aD ((b16++([r24]:List Bool)).length≤1000000000) <|
 aD (I64 (x15+(1:Int))) <|
 some (.inl ((x15+(1:Int)),(b16++([r24]:List Bool))))
 else
 aD ((b16++([false]:List Bool)).length≤1000000000) <|
 aD (I64 (x15+(1:Int))) <|
 some (.inl ((x15+(1:Int)),(b16++([false]:List Bool))))
 else
 aY (
 some b16)) ((0:Int),([]:List Bool))) λb7=>
 aC (dJ b7) λr28=>
 some (r28,(0:Int))
def rY (p0:Diagram) (p1:Diagram):Option (Diagram×Int):=
 aC (dG p0 p1 false) λ(r2,r3)=>
 some (r2,r3)
def eW (p0:Diagram) (p1:Diagram):Option (Diagram×Int):=
 aC (
 aC (cA p0) λr3=>
 if (!(r3))=true then
 some true
 else
 aC (cA p1) λr5=>
 some (!(r5))) λx1=>
 if x1=true then
 some ((⟨([]:List Node),(0:Int)⟩:Diagram),(1:Int))
 else
 aC (
 aC (bL p0) λr9=>
 aC (bL p1) λr10=>
 aC (cT (max r9 r10)) λr11=>
 bP (λ(x15,b16)=>
 if x15 < (r11.length:Int) then
 bN r11 x15 λe19=>
 aC (bZ p0 e19) λr20=>
 if r20=true then
 aD ((b16++([true]:List Bool)).length≤1000000000) <|
 aD (I64 (x15+(1:Int))) <|
 some (.inl ((x15+(1:Int)),(b16++([true]:List Bool))))
 else
 aC (bZ p1 e19) λr22=>
 aD ((b16++([r22]:List Bool)).length≤1000000000) <|
 aD (I64 (x15+(1:Int))) <|
 some (.inl ((x15+(1:Int)),(b16++([r22]:List Bool))))
 else
 aY (
 some b16)) ((0:Int),([]:List Bool))) λb7=>
 aC (dJ b7) λr28=>
 some (r28,(0:Int))
def gH (p0:Diagram):Option Diagram:=
 aC (cO p0) λr1=>
 if (!(r1))=true then
 some (⟨([]:List Node),(0:Int)⟩:Diagram)
 else
 aC (dA p0) λr3=>
 some r3
def dO (p0:Diagram):Option Diagram:=
 aC (cA p0) λr1=>
 if (!(r1))=true then
 some (⟨([]:List Node),(0:Int)⟩:Diagram)
 else
 aC (
 aC (bL p0) λr5=>
 aC (cT r5) λr6=>
 bP (λ(x10,b11)=>
 if x10 < (r6.length:Int) then
 bN r6 x10 λe14=>
 aC (bZ p0 e14) λr15=>
 aD ((b11++([!(r15)]:List Bool)).length≤1000000000) <|
 aD (I64 (x10+(1:Int))) <|
 some (.inl ((x10+(1:Int)),(b11++([!(r15)]:List Bool))))
 else
 aY (
 some b11)) ((0:Int),([]:List Bool))) λb3=>
 aC (dJ b3) λr19=>
 some r19
def cS (p0:Diagram) (p1:Diagram):Option Bool:=
 aC (
 aC (dS p0) λr3=>
 if (!(r3))=true then
 some true
 else
 aC (dS p1) λr5=>
 some (!(r5))) λx1=>
 if x1=true then
 aC (fA) λr7=>
 some r7
 else
 aC (nU p0 p1) λ(r9,r10)=>
 aC (dP p0 p1) λ(r12,r13)=>
 aC (rY p0 p1) λ(r15,r16)=>
 aC (eW p0 p1) λ(r18,r19)=>
 aC (
 if r10=r13 then
 if r16=r19 then
 aC (bJ r9 r12) λr24=>
 if r24=true then
 aC (bJ r15 r18) λr26=>
 if r26=true then
 aC (gH p0) λr28=>
 aC (dO p0) λr29=>
 aC (bJ r28 r29) λr30=>
 if r30=true then
 aC (fA) λr32=>
 some r32
 else
 some false
 else
 some false
 else
 some false
 else
 some false
 else
 some false) λx20=>
 some x20
theorem oX {p0:Int} {r:Expr} (hm:lK p0=some r):RetD Try.prog 32 [.int .i64 p0] (r.enc):=by
 refine .of (mv:=λ_=>false) (aS qCX Try.func32 Q Try.ntmps32 Q Q (λwX gX=>?_));unfold lK at hm;refine WN [0] Q Q (RS (bY 0 Q Q nX Q (cR 0 [none,none,some 3] Q Q (TN (WN [0,2] Q Q (RS (SA TK Q (SX Q Q (aU Q qEB nX Q Q Q Q) ?_))))))));refine jV 4 [none,none,some 3] Q (SA TK Q (TN (WN [2] Q Q (TR ?_))));obtain rfl:=OJ hm;exact EndsS.cellR _ TK Q Q Q Q Q (.d _)
theorem pV:∀ (fu:Nat) {p0:Expr} {p1:Int} {p2:Int} {p3:Int} {r0:Bool} {r1:Int} (hm:eH fu p0 p1 p2 p3=some (r0,r1)),Ret Try.prog 50 [.box 3 [.d (.int .i64 p3)]] (λ_=>false) [.d (.ptr (p0.enc) 0),.d (.int .i64 p1),.d (.int .i64 p2),.mptr 0 0 0 0] (.d (.bool (r0))) [.box 3 [.d (.int .i64 r1)]]:=by
 intro fu
 induction fu with
 | zero=>
  intro p0 p1 p2 p3 r0 r1 hm;unfold eH at hm;cases hm
 | succ fu ih=>
  intro p0 p1 p2 p3 r0 r1 hm;refine eV qCJ Try.func50 Q Try.ntmps50 Q Q (λwX gX=>?_);unfold eH at hm;refine WN [0,1,2,3] Q Q (RS (SA TK Q (TN (WN [0,1,2,3] Q Q (TQ ?_)))));refine iH [(17,.d (.bool (((decide ((12:Int) < p2))||(decide (p3=(0:Int)))))))] [17] [0,1,2,3] Q ?_ ?_
  ·refine TG (SA TK Q (SA TK Q (SB TK Q (λq1 hq1=>?_))));cases q1
   ·iterate 5 (refine SA TK Q ?_)
    refine TN (WT ?_);exact⟨[0],Q,(kB Q),cQ (bF (bG (by simp [hq1])) Q) Q⟩
   iterate 5 (refine SA TK Q ?_)
   refine TN (WT ?_);exact⟨[0],Q,(kB Q),cQ (bF (bG (by simp [hq1])) Q) Q⟩
  refine WN [0,1,2,3,17] Q Q ?_;refine TC _ Q (λh2=>?_) (λh2=>?_)
  ·replace hm:=JA h2 hm;refine RS (SA TK Q (TN (WN [8] Q Q (TR (WR ?_)))));obtain⟨rfl,rfl⟩:=Prod.mk.inj (Option.some.inj hm);exact⟨_,[0],res Q,by decide,(kB Q),Q,Q⟩
  replace hm:=JB h2 hm;refine TS (WT (WN [0,1,2,3] Q Q (RS (SA TK Q (SA TK Q (SA TK Q (GE hm λg3 hm=>SX Q Q (bI Q Q Q Q g3) (SA TK Q (SA TK Q (TN ?_))))))))));refine WN [0,1,2,3] Q Q ?_;refine cZ hm (λ_=>([]:Fr)) (λ_=>([]:List (Nat×Blk))) [] [0,1,2,3] Q (λz4 hm hz4=>?_) (λj hm=>?_)
  ·refine RS ?_;iterate 4 (refine SA TK Q ?_)
   refine TN (WN [0,1,2,3,26] Q Q (TB ?_));refine aJ hm (λx5=>([(27,.d (.bool (x5)))]:Fr)) (λx5=>([]:List (Nat×Blk))) [27] [0,1,2,3,26] Q (λz6 hm=>?_) (λx5 hm=>?_)
   ·refine RS (SA TK Q (SA TK Q (TN (WN [0,1,2,3,26,27] Q Q ?_))));refine TC _ Q (λh7=>?_) (λh7=>?_)
    ·replace hm:=JT h7 hm;refine TS (WT ?_);exact⟨_,[0],(SJ hm),Q,(kB Q),Q⟩
    replace hm:=JF h7 hm;refine TG (SA TK Q (SA TK Q (TN (WT ?_))));exact⟨_,[0],(SJ hm),Q,(kB Q),Q⟩
   refine WN [0,1,2,3,26,27] Q Q ?_;refine TC _ Q (λh8=>?_) (λh8=>?_)
   ·replace hm:=JA h8 hm;refine iH [(8,.d (.bool (((decide (p0.var=(0:Int)))&&(decide ((p0.args.length:Int)=(0:Int)))))))] [8] [] Q ?_ ?_
    ·refine TG ?_;iterate 5 (refine SA TK Q ?_)
     refine SB TK Q (λq9 hq9=>?_);cases q9
     ·iterate 8 (refine SA TK Q ?_)
      refine TN (WT ?_);exact⟨[0],Q,(kB Q),cQ (bF (bG (by simp [hq9])) Q) Q⟩
     iterate 4 (refine SA TK Q ?_)
     refine SX Q Q (bS TK Q Q Q) (SA TK Q (SA TK Q (SA TK Q (TN (WT ?_)))));exact⟨[0],Q,(kB Q),cQ (bF (bG (by simp [hq9])) Q) Q⟩
    refine WN [8] Q Q (TR (WB (IE hm λv10 hm hz=>?_)));rw [hz4 _ hz] at hm;refine WR ?_;obtain⟨rfl,rfl⟩:=Prod.mk.inj (Option.some.inj hm);exact⟨_,[0],res Q,by decide,(kB Q),Q,Q⟩
   replace hm:=JB h8 hm;refine RS (SA TK Q (SA TK Q (TN (WN [0,1,2,3,26,43] Q Q ?_))));refine TC _ Q (λh11=>?_) (λh11=>?_)
   ·replace hm:=JT h11 hm;refine iH [(8,.d (.bool (((decide ((0:Int)≤p0.var))&&((decide (p0.var < p1))&&(decide ((p0.args.length:Int)=(0:Int))))))))] [8] [] Q ?_ ?_
    ·refine TG ?_;iterate 5 (refine SA TK Q ?_)
     refine SB TK Q (λq12 hq12=>?_);cases q12
     ·iterate 16 (refine SA TK Q ?_)
      refine TN (WT ?_);exact⟨[0],Q,(kB Q),cQ (bF (bG (by simp [hq12])) Q) Q⟩
     iterate 7 (refine SA TK Q ?_)
     refine SB TK Q (λq13 hq13=>?_);cases q13
     ·iterate 8 (refine SA TK Q ?_)
      refine TN (WT ?_);exact⟨[0],Q,(kB Q),cQ (bF (bG (by simp [hq12,hq13])) Q) Q⟩
     iterate 4 (refine SA TK Q ?_)
     refine SX Q Q (bS TK Q Q Q) (SA TK Q (SA TK Q (SA TK Q (TN (WT ?_)))));exact⟨[0],Q,(kB Q),cQ (bF (bG (by simp [hq12,hq13])) Q) Q⟩
    refine WN [8] Q Q (TR (WB (IE hm λv14 hm hz=>?_)));rw [hz4 _ hz] at hm;refine WR ?_;obtain⟨rfl,rfl⟩:=Prod.mk.inj (Option.some.inj hm);exact⟨_,[0],res Q,by decide,(kB Q),Q,Q⟩
   replace hm:=JF h11 hm;refine RS (SA TK Q (SA TK Q (TN (WN [0,1,2,3,26,66] Q Q ?_))));refine TC _ Q (λh15=>?_) (λh15=>?_)
   ·replace hm:=JT h15 hm;refine RS ?_;iterate 4 (refine SA TK Q ?_)
    refine SX Q Q (bS TK Q Q Q) (SA TK Q (TN (WN [0,1,2,3,73] Q Q ?_)));refine TC _ Q (λh16=>?_) (λh16=>?_)
    ·replace hm:=iW h16 hm;refine RS (SA TK Q (TN (WN [8] Q Q (TR (WB (IE hm λv17 hm hz=>?_))))));rw [hz4 _ hz] at hm;refine WR ?_;obtain⟨rfl,rfl⟩:=Prod.mk.inj (Option.some.inj hm);exact⟨_,[0],res Q,by decide,(kB Q),Q,Q⟩
    replace hm:=iX h16 hm;refine TS (WK (WT ?_));exact⟨_,[0],(SJ hm),Q,(kB Q),Q⟩
   replace hm:=JF h15 hm;refine TQ (RS (SA TK Q (SA TK Q (TN (WN [0,1,2,3,26,74] Q Q ?_)))));refine TC _ Q (λh18=>?_) (λh18=>?_)
   ·replace hm:=JT h18 hm;refine TS (WT (WN [0,1,2,3,74] Q Q (qAX Q true h18 (TS (WK (WT ?_))))));exact⟨_,[0],(SJ hm),Q,(kB Q),Q⟩
   replace hm:=JF h18 hm;refine TG (SA TK Q (SA TK Q (TN (WT (WN [0,1,2,3,74] Q Q ?_)))));refine TC _ Q (λh19=>?_) (λh19=>?_)
   ·replace hm:=JT h19 hm;refine TS (WK (WT ?_));exact⟨_,[0],(SJ hm),Q,(kB Q),Q⟩
   replace hm:=JF h19 hm;refine RS (SA TK Q (TN (WN [8] Q Q (TR (WB (IE hm λv20 hm hz=>?_))))));rw [hz4 _ hz] at hm;refine WR ?_;obtain⟨rfl,rfl⟩:=Prod.mk.inj (Option.some.inj hm);exact⟨_,[0],res Q,by decide,(kB Q),Q,Q⟩
  refine WN [0,1,2,3] Q Q (TQ (RS ?_));iterate 5 (refine SA TK Q ?_)
  refine TN (WN [0,1,2,3,81] Q Q ?_);refine TC _ Q (λh21=>?_) (λh21=>?_)
  ·replace hm:=iW h21 hm;refine RS (SA TK Q (TN (WN [8] Q Q (TR (WR ?_)))));obtain⟨rfl,rfl⟩:=Prod.mk.inj (Option.some.inj hm);exact⟨_,[0],res Q,by decide,(kB Q),Q,Q⟩
  replace hm:=iX h21 hm;refine TS (WT (WN [0,1,2,3] Q Q ?_));refine cZ hm (λc22=>([]:Fr)) (λc22=>([(0,.box 3 [.d (.int .i64 c22)])]:List (Nat×Blk))) [] [] Q (λz23 hm hz23=>?_) (λc22 hm=>?_)
  ·refine RS ?_;iterate 4 (refine SA TK Q ?_)
   refine SX Q Q (bS TK Q Q Q) (SA TK Q (TN (WN [0,1,2,3,86,87] Q Q (TB (cB hm (λ(x27,c28)=>([(87,.d (.int .i64 x27))]:Fr)) (λ(x27,c28)=>([(0,.box 3 [.d (.int .i64 c28)])]:List (Nat×Blk))) [87] [0,1,2,3,86] [0] Q (kB Q) Q Q Q Q Q (λs z29 hm hz29=>?_))))));obtain⟨x27,c28⟩:=s;refine WN [0,1,2,3,86,87] Q Q (RS (SA TK Q (TN (WN [0,1,2,3,86,87,88] Q Q (TQ ?_)))));refine TC _ Q (λh30=>?_) (λh30=>?_)
   ·replace hm:=JT h30 hm;refine TS (WT (WN [0,1,2,3,86,87] Q Q (TQ (TB (RS (SA TK Q (SA TK Q (TN (WN [0,1,2,3,9,86,87] Q Q ?_)))))))));refine RS ?_;iterate 5 (refine SA TK Q ?_)
    refine VE hm λe31 he31 hm=>SX Q Q (xZ TK Q Q Q Q he31 (Expr.encR_eq _)) (SA TK Q (SA TK Q (GE hm λg32 hm=>SX Q Q (bI Q Q Q Q g32) (SA TK Q (BE hm λr33 hr33 hm=>?_)))));obtain⟨r34,r35⟩:=r33;refine bX [0] (λ_=>false) Q Q Q (by decide) Q Q Q Q (ih hr33) Q Q Q ?_;refine SA TK Q (TN (WN [0,1,2,3,86,87,101] Q Q ?_));refine TC _ Q (λh36=>?_) (λh36=>?_)
    ·replace hm:=JA h36 hm;refine RS (SA TK Q (TN (WN [8] Q Q (TR (WB (WR (IE hm λv37 hm hz=>?_)))))));rw [hz29 _ hz] at hm;refine WR (WB (IE hm λv38 hm hz=>?_));rw [hz23 _ hz] at hm;refine WR ?_;obtain⟨rfl,rfl⟩:=Prod.mk.inj (Option.some.inj hm);exact⟨_,[0],res Q,by decide,(kB Q),Q,Q⟩
    replace hm:=JB h36 hm;refine TS (WK (WT (WN [0,1,2,3,86,87] Q Q (TG (GE hm λg39 hm=>SX Q Q (bI Q Q Q Q g39) (SA TK Q (TN ?_)))))));refine WT ?_;exact⟨_,[0],(SJ hm),Q,(kB Q),Q⟩
   replace hm:=JF h30 hm;refine bB (WX (IE hm λv40 hm hz=>?_));rw [hz29 _ hz] at hm;refine WX (WH (WT ?_));exact⟨_,[0],(SJ hm),Q,(kB Q),Q⟩
  refine WN [] Q Q (RS (SA TK Q (TN (WN [8] Q Q (TR ?_)))));obtain⟨rfl,rfl⟩:=Prod.mk.inj (Option.some.inj hm);exact⟨_,[0],res Q,by decide,(kB Q),Q,Q⟩
theorem rO {p0:Expr} {p1:Int} {p2:Int} {p3:Int} {r0:Bool} {r1:Int} (hm:pE p0 p1 p2 p3=some (r0,r1)):Ret Try.prog 50 [.box 3 [.d (.int .i64 p3)]] (λ_=>false) [.d (.ptr (p0.enc) 0),.d (.int .i64 p1),.d (.int .i64 p2),.mptr 0 0 0 0] (.d (.bool (r0))) [.box 3 [.d (.int .i64 r1)]]:=pV aH hm
theorem rP {p0:Expr} {p1:Int} {r:Bool} (hm:kU p0 p1=some r):RetN Try.prog 33 [p0.enc,.int .i64 p1] (.bool (r)):=by
 refine .unit (aS qCW Try.func33 Q Try.ntmps33 Q Q (λwX gX=>?_)) Q;unfold kU at hm;refine WN [0,1] Q Q (RS (cE 0 Q Q Q (SA TK Q (TN (WN [1,2] Q Q (RS (bY 1 Q Q jZ Q (SA TK Q ?_))))))));refine TN (WN [1,2,5] Q Q (wR 0 Q Q Q Q Q (RS (SA TK Q (BE hm λr1 hr1 hm=>?_)))));obtain⟨r2,r3⟩:=r1;refine bX [1] (λ_=>false) Q Q Q (by decide) Q Q Q Q (rO hr1) Q Q Q ?_;refine SA TK Q (TN (WN [4] Q Q (TR ?_)));obtain rfl:=OJ hm;exact EndsS.one _ Q (.d _) (.refl _)
theorem kW {p0:Int} {r:Int} (hm:fX p0=some r):RetN Try.prog 55 [.int .i64 p0] (.int .i64 r):=by
 refine .unit (aS qCE Try.func55 Q Try.ntmps55 Q Q (λwX gX=>?_)) Q;unfold fX at hm;refine WN [0] Q Q (RS (SA TK Q (TN (WN [0] Q Q (TQ (RS (SA TK Q (SA TK Q (TN ?_)))))))));refine WN [0,4] Q Q ?_;refine TC _ Q (λh1=>?_) (λh1=>?_)
 ·replace hm:=JT h1 hm;refine RS (SA TK Q (GE hm λg2 hm=>SX Q Q (bI Q Q Q Q g2) (SA TK Q (TN (WN [2] Q Q (TR (WR ?_)))))));obtain rfl:=OJ hm;exact EndsS.one _ Q (.d _) (.refl _)
 replace hm:=JF h1 hm;refine TS (WT (WN [0] Q Q (RS (SA TK Q (SA TK Q (TN (WN [2] Q Q (TR ?_))))))));obtain rfl:=OJ hm;exact EndsS.one _ Q (.d _) (.refl _)
theorem jB {p0:Diagram} {r:Diagram} (hm:dA p0=some r):RetD Try.prog 49 [p0.enc] (r.enc):=by
 refine .of (mv:=λ_=>false) (aS qCK Try.func49 Q Try.ntmps49 Q Q (λwX gX=>?_));unfold dA at hm;refine WN [0] Q Q (RS (cE 0 Q Q Q (bY 1 Q Q aK Q (kD (f:=Node.enc) 1 0 2 51 3 Q Q Q (TN (WN [1,2] Q Q (RS (SA TK Q (SA TK Q ?_)))))))));refine BE hm λr1 hr1 hm=>SX Q Q (RN Q Q (SC (.d _) SN) (kW hr1)) (SX Q Q (iU Q dQ aK Q Q Q Q) (bY 3 Q Q aK Q (kD (f:=Node.enc) 3 0 4 51 3 Q Q Q (SA TK Q (kD (f:=Node.enc) 3 0 5 51 3 Q Q Q (TN (WN [1,2,3] Q Q ?_)))))));refine aJ hm (λb2=>([]:Fr)) (λb2=>([(3,.box 29 [.msl 5 3 0 b2.length,.d (.int .i64 r1)]),(5,.flat 51 3 (b2.map Node.enc))]:List (Nat×Blk))) [] [2,3] Q (λz3 hm=>?_) (λb2 hm=>?_)
 ·refine RS (SA TK Q (SA TK Q (SX Q Q (bS TK Q Q Q) (SA TK Q (TN (WN [2,3,11,12,13] Q Q (TB (cB hm (λ(x7,b8)=>([(13,.d (.int .i64 x7))]:Fr)) (λ(x7,b8)=>([(3,.box 29 [.msl 5 3 0 b8.length,.d (.int .i64 r1)]),(5,.flat 51 3 (b8.map Node.enc))]:List (Nat×Blk))) [13] [2,3,11,12] [0,1,2,3,4,5] Q k0 Q Q Q Q Q (λs z9 hm hz9=>?_)))))))));obtain⟨x7,b8⟩:=s;refine WN [2,3,11,12,13] Q Q (RS (SA TK Q (TN (WN [2,3,11,12,13,14] Q Q (TQ ?_)))));refine TC _ Q (λh10=>?_) (λh10=>?_)
  ·replace hm:=JT h10 hm;refine TS (WT (WN [2,3,11,12,13] Q Q (TQ (TB (RS (VE hm λe11 he11 hm=>SX Q Q (dZ TK Q Q Q Q he11) (SA TK Q ?_)))))));refine bY 6 Q Q aT Q (SA TK Q (TN (WN [2,3,5,11,12,13] Q Q (yH (iK follows  (DA [] TK Q (DA [3] TK Q (DA [] TK Q ?_))))))));refine DA [6] TK Q (DA [] TK Q (DA [6] TK Q (BE hm λr12 hr12 hm=>DX [] Q Q (RN Q Q (SC (.d _) SN) (kW hr12)) (DA [] TK Q (DA [6] TK Q (BE hm λr13 hr13 hm=>DX [] Q Q (RN Q Q (SC (.d _) SN) (kW hr13)) ?_))))));refine DX [] Q Q (aU Q qC aT Q Q Q Q) (DX [] Q Q (dY [.tmp 27] TK Q Q aT Q Q Q Q Q) (GE hm λg14 hm=>d_wr [5,7] _ (.msl 7 3 0 (b8++([(⟨e11.var,r12,r13⟩:Node)]:List Node)).length) Q (wC Q) Q (w_appD (f:=Node.enc) (xs:=b8) ([(⟨e11.var,r12,r13⟩:Node)]:List Node) Q Q Q TK Q aT Q Q Q Q Q Q dN g14) (DA [] TK Q ?_)));refine DT ?_ (by kernel_rfl);refine SA TK Q (TN (WK (WT (WN [2,3,11,12,13] Q Q (TG (GE hm λg15 hm=>SX Q Q (bI Q Q Q Q g15) (SA TK Q ?_)))))));refine TN (WT ?_);exact⟨_,[0,1,2,3,4,7],(SJ hm),Q,k0,Q⟩
  replace hm:=JF h10 hm;refine bB (WX (IE hm λv16 hm hz=>?_));rw [hz9 _ hz] at hm;refine WX (WH (WT ?_));exact⟨_,[0,1,2,3,4,5],(SJ hm),Q,k0,Q⟩
 refine WN [2,3] Q Q (RS (SA TK Q (SA TK Q (TN (WN [2] Q Q (TR ?_))))));obtain rfl:=OJ hm;exact EndsS.cellR _ TK Q Q Q Q Q (oD (.cons (iO Q) Q (.cons (.d _) Q .nil)))
theorem jC {p0:Bool} {r:Diagram} (hm:fI p0=some r):RetD Try.prog 51 [.bool (p0)] (r.enc):=by
 refine .of (mv:=λ_=>false) (aS qCI Try.func51 Q Try.ntmps51 Q Q (λwX gX=>?_));unfold fI at hm;refine WN [0] Q Q (RS (bY 0 Q Q aK Q (cR 0 [some 3,none] Q Q (TN (WN [0,2] Q Q (TQ (RS (SA TK Q ?_))))))));refine TN (WN [2,3] Q Q ?_);refine TC _ Q (λh1=>?_) (λh1=>?_)
 ·replace hm:=JA h1 hm;refine RS (SX Q Q (aU Q dQ aK Q Q Q Q) (jV 4 [some 3,none] Q (SA TK Q (TN (WN [2] Q Q (TR (WR ?_)))))));obtain rfl:=OJ hm;exact EndsS.cellR _ TK Q Q Q Q Q (.d _)
 replace hm:=JB h1 hm;refine TS (WT (WN [2] Q Q (RS (SX Q Q (aU Q dQ aK Q Q Q Q) (jV 5 [some 3,none] Q (SA TK Q (TN (WN [2] Q Q ?_))))))));refine TR ?_;obtain rfl:=OJ hm;exact EndsS.cellR _ TK Q Q Q Q Q (.d _)
theorem fV {p0:Diagram} {p1:Int} {r:Int} (hm:cJ p0 p1=some r):RetN Try.prog 58 [p0.enc,.int .i64 p1] (.int .i64 r):=by
 refine .unit (aS qCB Try.func58 Q Try.ntmps58 Q Q (λwX gX=>?_)) Q;unfold cJ at hm;refine WN [0,1] Q Q (RS (cE 0 Q Q Q (SA TK Q (TN (WN [1,2] Q Q (TQ (RS (SA TK Q (SA TK Q ?_)))))))));refine TN (WN [1,2,6] Q Q ?_);refine TC _ Q (λh1=>?_) (λh1=>?_)
 ·replace hm:=JT h1 hm;refine RS (SA TK Q (TN (WN [4] Q Q (TR (WR ?_)))));obtain rfl:=OJ hm;exact EndsS.one _ Q (.d _) (.refl _)
 replace hm:=JF h1 hm;refine TS (WT (WN [1,2] Q Q (RS (SA TK Q (SA TK Q (SA TK Q (GE hm λg2 hm=>SX Q Q (bI Q Q Q Q g2) (VE hm λe3 he3 hm=>SX Q Q (dZ TK Q Q Q Q he3) ?_))))))));refine SA TK Q (SA TK Q (SA TK Q (TN (WN [4] Q Q (TR ?_)))));obtain rfl:=OJ hm;exact EndsS.one _ Q (.d _) (.refl _)
theorem jD {p0:Diagram} {p1:Int} {p2:Int} {r0:Int} {r1:Int} (hm:dB p0 p1 p2=some (r0,r1)):RetT Try.prog 59 [p0.enc,.int .i64 p1,.int .i64 p2] [.int .i64 r0,.int .i64 r1]:=by
 refine .of (mv:=λ_=>false) (cH qCA Try.func59 Q Try.ntmps59 Q Q (λwX gX=>?_));unfold dB at hm;refine WN [0,1,2] Q Q (RS (cE 0 Q Q Q (SA TK Q (SA TK Q (TN (WN [1,2,3] Q Q (TQ (RS (SA TK Q (SA TK Q ?_))))))))));refine BE hm λr1 hr1 hm=>SX Q Q (RN Q Q (SC (.d _) (SC (.d _) SN)) (fV hr1)) (SA TK Q (SA TK Q (TN (WN [1,3,13] Q Q ?_))));refine TC _ Q (λh2=>?_) (λh2=>?_)
 ·replace hm:=iW h2 hm;refine RS ?_;iterate 4 (refine SA TK Q ?_)
  refine TN (WN [6,7] Q Q (TR (WR ?_)));obtain⟨rfl,rfl⟩:=Prod.mk.inj (Option.some.inj hm);exact EndsT.two Q (.d _) (.refl _) (.d _) (.refl _)
 replace hm:=iX h2 hm;refine TS (WT (WN [1,3] Q Q (RS (SA TK Q (SA TK Q (SA TK Q (GE hm λg3 hm=>SX Q Q (bI Q Q Q Q g3) (VE hm λe4 he4 hm=>SX Q Q (dZ TK Q Q Q Q he4) ?_))))))));refine SA TK Q (bY 1 Q Q aT Q (SA TK Q (TN (WN [8] Q Q (aM follows  ?_)))));iterate 5 (refine DA [0,1] TK Q ?_)
 refine DT ?_ (by kernel_rfl);refine SA TK Q (TN (WN [6,7] Q Q (TR ?_)));obtain⟨rfl,rfl⟩:=Prod.mk.inj (Option.some.inj hm);exact EndsT.two Q (.d _) (.refl _) (.d _) (.refl _)
theorem eQ {p0:Merger} {p1:Node} {r0:Int} {r1:Merger} (hm:aL p0 p1=some (r0,r1)):Ret Try.prog 42 [.box 81 [.d (.sl 3 (p0.a.nodes.map Node.enc)),.d (.int .i64 p0.a.root),.d (.sl 3 (p0.b.nodes.map Node.enc)),.d (.int .i64 p0.b.root),.d (.bool (p0.all)),.mmapN 1 p0.nodes.index.length,.msl 2 3 0 p0.nodes.list.length,.mmap 3,.d (.bool (p0.full))],.map 51 3 (aI Node.enc (D.int .i64) p0.nodes.index),.flat 51 3 (p0.nodes.list.map Node.enc),.map 84 3 (aI Pair.enc (D.int .i64) p0.done)] (λj=>Nat.beq j 1||Nat.beq j 2) [.mptr 0 0 0 5,.d (p1.enc)] (.d (.int .i64 r0)) [.box 81 [.d (.sl 3 (p0.a.nodes.map Node.enc)),.d (.int .i64 p0.a.root),.d (.sl 3 (p0.b.nodes.map Node.enc)),.d (.int .i64 p0.b.root),.d (.bool (p0.all)),.mmapN 1 r1.nodes.index.length,.msl 2 3 0 r1.nodes.list.length,.mmap 3,.d (.bool (p0.full))],.map 51 3 (aI Node.enc (D.int .i64) r1.nodes.index),.flat 51 3 (r1.nodes.list.map Node.enc),.map 84 3 (aI Pair.enc (D.int .i64) p0.done)]:=by
 refine eV wQ Try.func42 Q Try.ntmps42 Q Q (λwX gX=>?_);unfold aL at hm;refine tY 0 5 1 Q Q Q (λhn=>?_) ?_
 ·replace hm:=zF hn hm;refine WN [0,1] Q Q (RS (cE 4 Q Q Q (SA TK Q (TN (WN [0,3] Q Q (TQ (aM follows  ?_)))))));iterate 5 (refine DA [0,1,2,3,4] TK Q ?_)
  refine GE hm λg1 hm=>DX [0,1,2,3,4] Q Q (sB iP iV (D.int .i64) p1 (0:Int) Q mY jZ Q Q Q g1) ?_;iterate 4 (refine DA [0,1,2,3,4] TK Q ?_)
  refine DT ?_ (by kernel_rfl);refine SA TK Q (TN (WN [0,3,5,6] Q Q (RS (SA TK Q (TN (WN [0,3,5,16] Q Q (TC false Q (λh=>by cases h) (λ_=>TS ?_))))))));refine WT (WN [0,3] Q Q ?_);refine aJ hm (λ_=>([]:Fr)) (λ_=>([(0,.box 81 [.d (.sl 3 (p0.a.nodes.map Node.enc)),.d (.int .i64 p0.a.root),.d (.sl 3 (p0.b.nodes.map Node.enc)),.d (.int .i64 p0.b.root),.d (.bool (p0.all)),.mmap 1,.msl 2 3 0 p0.nodes.list.length,.mmap 3,.d (.bool (p0.full))])]:List (Nat×Blk))) [] [0,3] Q (λz2 hm=>?_) (λj hm=>?_)
  ·refine RS ?_;iterate 4 (refine SA TK Q ?_)
   refine SX Q Q (oJ Q Try.underlying61 Q Q) (TN (WN [0,3,22] Q Q ?_));refine TC true Q (λ_=>?_) (λh=>by cases h);refine TG (SA TK Q (mT (kf:=Node.enc) (f:=(D.int .i64)) 1 51 3 Q Q (λ_=>Q) Q Q (SA TK Q (SA TK Q (SA TK Q (TN (WT ?_)))))));exact⟨_,[0,1,2,3,4],(SJ hm),Q,(kB Q),Q⟩
  refine WN [0,3] Q Q (aM follows  ?_);iterate 10 (refine DA [0,1,2,3,4] TK Q ?_)
  refine DT ?_ (by kernel_rfl);refine GE hm λg3 hm=>lZ iP iV (D.int .i64) mY Q Q Q Q g3 (TN (WN [0,3] Q Q (aM follows  ?_)));iterate 6 (refine DA [0,1,2,3,4] TK Q ?_)
  refine DX [0,1,2,3,4] Q Q (dY [.tmp 42] TK Q Q aT Q Q Q Q Q) ?_;refine lP 0 37 ?_ ?_ Q (by kernel_rfl) (by kernel_rfl) (by kernel_rfl)
  ·refine GE hm λg4 hm=>eD (f:=Node.enc) ([p1]:List Node) TK Q Q aT Q Q Q Q Q (λ_=>Q) Q dN g4 Q Q (SA TK Q (SA TK Q (SA TK Q (TN (WN [0] Q Q (RS ?_))))));iterate 5 (refine SA TK Q ?_)
   refine GE hm λg5 hm=>SX Q Q (bI Q Q Q Q g5) (SA TK Q (TN (WN [4] Q Q (kL 0 5 1 (eX ([]:List (Node×Int)) p1 (p0.nodes.list.length:Int)).length Q Q (TR ?_)))));obtain⟨rfl,rfl⟩:=Prod.mk.inj (Option.some.inj hm);exact⟨_,[0,1,2,3],res Q,by decide,(kB Q),Q,Q⟩
  refine GE hm λg6 hm=>eD (f:=Node.enc) ([p1]:List Node) TK Q Q aT Q Q Q Q Q (λ_=>Q) Q dN g6 Q Q ?_;iterate 4 (refine SA TK Q ?_)
  refine TN (WN [0] Q Q (RS ?_));iterate 5 (refine SA TK Q ?_)
  refine GE hm λg7 hm=>SX Q Q (bI Q Q Q Q g7) (SA TK Q (TN (WN [4] Q Q (kL 0 5 1 (eX ([]:List (Node×Int)) p1 (p0.nodes.list.length:Int)).length Q Q (TR ?_)))));obtain⟨rfl,rfl⟩:=Prod.mk.inj (Option.some.inj hm);exact⟨_,[0,1,2,3],res Q,by decide,(kB Q),Q,Q⟩
 replace hm:=qEC hm;refine WN [0,1] Q Q (RS (cE 4 Q Q Q (SA TK Q (TN (WN [0,3] Q Q (TQ (aM follows  ?_)))))));iterate 5 (refine DA [0,1,2,3,4] TK Q ?_)
 refine GE hm λg8 hm=>DX [0,1,2,3,4] Q Q (qQ iP iV (D.int .i64) _ _ (0:Int) Q mY jZ Q Q Q Q g8) ?_;iterate 4 (refine DA [0,1,2,3,4] TK Q ?_)
 refine DT ?_ (by kernel_rfl);refine SA TK Q (TN (WN [0,3,5,6] Q Q (RS (SA TK Q (TN (WN [0,3,5,16] Q Q ?_))))));refine TC _ Q (λh9=>?_) (λh9=>?_)
 ·replace hm:=JA h9 hm;refine RS (SA TK Q (SA TK Q (TN (WN [4] Q Q (kL 0 5 1 p0.nodes.index.length Q Q (TR (WR ?_)))))));obtain⟨rfl,rfl⟩:=Prod.mk.inj (Option.some.inj hm);exact⟨_,[0,1,2,3],res Q,by decide,(kB Q),Q,Q⟩
 replace hm:=JB h9 hm;refine TS (WT (WN [0,3] Q Q ?_));refine aJ hm (λ_=>([]:Fr)) (λ_=>([]:List (Nat×Blk))) [] [0,3] Q (λz10 hm=>?_) (λj hm=>?_)
 ·refine RS ?_;iterate 4 (refine SA TK Q ?_)
  refine SX Q Q (oK Q Try.underlying61 Q Q) (TN (WN [0,3,22] Q Q (TC false Q (λh=>by cases h) (λ_=>TS (WT ?_)))));exact⟨_,[0,1,2,3,4],(SJ hm),Q,(kB Q),Q⟩
 refine WN [0,3] Q Q (aM follows  ?_);iterate 10 (refine DA [0,1,2,3,4] TK Q ?_)
 refine DT ?_ (by kernel_rfl);refine GE hm λg11 hm=>lZ iP iV (D.int .i64) mY Q Q Q Q g11 (TN (WN [0,3] Q Q (aM follows  ?_)));iterate 6 (refine DA [0,1,2,3,4] TK Q ?_)
 refine DX [0,1,2,3,4] Q Q (dY [.tmp 42] TK Q Q aT Q Q Q Q Q) ?_;refine lP 0 37 ?_ ?_ Q (by kernel_rfl) (by kernel_rfl) (by kernel_rfl)
 ·refine GE hm λg12 hm=>eD (f:=Node.enc) ([p1]:List Node) TK Q Q aT Q Q Q Q Q (λ_=>Q) Q dN g12 Q Q (SA TK Q (SA TK Q (SA TK Q (TN (WN [0] Q Q (RS ?_))))));iterate 5 (refine SA TK Q ?_)
  refine GE hm λg13 hm=>SX Q Q (bI Q Q Q Q g13) (SA TK Q (TN (WN [4] Q Q (kL 0 5 1 (eX p0.nodes.index p1 (p0.nodes.list.length:Int)).length Q Q (TR ?_)))));obtain⟨rfl,rfl⟩:=Prod.mk.inj (Option.some.inj hm);exact⟨_,[0,1,2,3],res Q,by decide,(kB Q),Q,Q⟩
 refine GE hm λg14 hm=>eD (f:=Node.enc) ([p1]:List Node) TK Q Q aT Q Q Q Q Q (λ_=>Q) Q dN g14 Q Q ?_;iterate 4 (refine SA TK Q ?_)
 refine TN (WN [0] Q Q (RS ?_));iterate 5 (refine SA TK Q ?_)
 refine GE hm λg15 hm=>SX Q Q (bI Q Q Q Q g15) (SA TK Q (TN (WN [4] Q Q (kL 0 5 1 (eX p0.nodes.index p1 (p0.nodes.list.length:Int)).length Q Q (TR ?_)))));obtain⟨rfl,rfl⟩:=Prod.mk.inj (Option.some.inj hm);exact⟨_,[0,1,2,3],res Q,by decide,(kB Q),Q,Q⟩
theorem jY:∀ (fu:Nat) {p0:Merger} {p1:Pair} {r0:Int} {r1:Merger} (hm:aW fu p0 p1=some (r0,r1)),Ret Try.prog 56 [.box 81 [.d (.sl 3 (p0.a.nodes.map Node.enc)),.d (.int .i64 p0.a.root),.d (.sl 3 (p0.b.nodes.map Node.enc)),.d (.int .i64 p0.b.root),.d (.bool (p0.all)),.mmapN 1 p0.nodes.index.length,.msl 2 3 0 p0.nodes.list.length,.mmap 3,.d (.bool (p0.full))],.map 51 3 (aI Node.enc (D.int .i64) p0.nodes.index),.flat 51 3 (p0.nodes.list.map Node.enc),.map 84 3 (aI Pair.enc (D.int .i64) p0.done)] (λj=>Nat.beq j 1||Nat.beq j 2) [.mptr 0 0 0 0,.d (p1.enc)] (.d (.int .i64 r0)) [.box 81 [.d (.sl 3 (p0.a.nodes.map Node.enc)),.d (.int .i64 p0.a.root),.d (.sl 3 (p0.b.nodes.map Node.enc)),.d (.int .i64 p0.b.root),.d (.bool (p0.all)),.mmapN 1 r1.nodes.index.length,.msl 2 3 0 r1.nodes.list.length,.mmap 3,.d (.bool (r1.full))],.map 51 3 (aI Node.enc (D.int .i64) r1.nodes.index),.flat 51 3 (r1.nodes.list.map Node.enc),.map 84 3 (aI Pair.enc (D.int .i64) r1.done)]:=by
 intro fu
 induction fu with
 | zero=>
  intro p0 p1 r0 r1 hm;unfold aW at hm;cases hm
 | succ fu ih=>
  intro p0 p1 r0 r1 hm;refine eV qCD Try.func56 Q Try.ntmps56 Q Q (λwX gX=>?_);unfold aW at hm;refine WN [0,1] Q Q (RS (cE 4 Q Q Q (SA TK Q (TN (WN [0,3] Q Q (TQ (RS ?_)))))));iterate 4 (refine SA TK Q ?_)
  refine TN (WN [0,3,19] Q Q ?_);refine TC _ Q (λh1=>?_) (λh1=>?_)
  ·replace hm:=JA h1 hm;refine RS (SA TK Q (TN (WN [4] Q Q (TR (WR ?_)))));obtain⟨rfl,rfl⟩:=Prod.mk.inj (Option.some.inj hm);exact⟨_,[0,1,2,3],res Q,by decide,(kB Q),Q,Q⟩
  replace hm:=JB h1 hm;refine TS (WT (WN [0,3] Q Q (RS (SA TK Q (SA TK Q (TN (WN [0,3,5,6] Q Q ?_)))))));refine aJ hm (λ(decides2,other3)=>([(5,.d (.int .i64 decides2)),(6,.d (.int .i64 other3))]:Fr)) (λ(decides2,other3)=>([]:List (Nat×Blk))) [5,6] [0,3] Q (λz4 hm=>?_) (λj hm=>?_)
  ·refine RS ?_;iterate 5 (refine SA TK Q ?_)
   refine TN (WN [0,3,5,6,24] Q Q ?_);refine TC _ Q (λh5=>?_) (λh5=>?_)
   ·replace hm:=JA h5 hm;refine TG (SA TK Q (SA TK Q (TN (WT ?_))));exact⟨_,[0,1,2,3,4],(SJ hm),Q,(kB Q),Q⟩
   replace hm:=JB h5 hm;refine TS (WT ?_);exact⟨_,[0,1,2,3,4],(SJ hm),Q,(kB Q),Q⟩
  obtain⟨decides2,other3⟩:=j;refine WN [0,3,5,6] Q Q (TQ ?_);refine iH [(34,.d (.bool (((decide (p1.a=decides2))||(decide (p1.b=decides2))))))] [34] [0,3,5,6] Q ?_ ?_
  ·refine TG ?_;iterate 4 (refine SA TK Q ?_)
   refine SB TK Q (λq6 hq6=>?_);cases q6
   ·iterate 5 (refine SA TK Q ?_)
    refine TN (WT ?_);exact⟨[0,1,2,3,4],Q,(kB Q),cQ (bF (bG (by simp [hq6])) Q) Q⟩
   iterate 5 (refine SA TK Q ?_)
   refine TN (WT ?_);exact⟨[0,1,2,3,4],Q,(kB Q),cQ (bF (bG (by simp [hq6])) Q) Q⟩
  refine WN [0,3,5,6,34] Q Q ?_;refine TC _ Q (λh7=>?_) (λh7=>?_)
  ·replace hm:=JA h7 hm;refine RS (SA TK Q (SA TK Q (TN (WN [4] Q Q (TR (WR ?_))))));obtain⟨rfl,rfl⟩:=Prod.mk.inj (Option.some.inj hm);exact⟨_,[0,1,2,3],res Q,by decide,(kB Q),Q,Q⟩
  replace hm:=JB h7 hm;refine TS (WT (WN [0,3,6] Q Q (TQ ?_)));refine iH [(45,.d (.bool (((decide (p1.a=other3))&&(decide (p1.b=other3))))))] [45] [0,3,6] Q ?_ ?_
  ·refine TG ?_;iterate 4 (refine SA TK Q ?_)
   refine SB TK Q (λq8 hq8=>?_);cases q8
   ·iterate 5 (refine SA TK Q ?_)
    refine TN (WT ?_);exact⟨[0,1,2,3,4],Q,(kB Q),cQ (bF (bG (by simp [hq8])) Q) Q⟩
   iterate 5 (refine SA TK Q ?_)
   refine TN (WT ?_);exact⟨[0,1,2,3,4],Q,(kB Q),cQ (bF (bG (by simp [hq8])) Q) Q⟩
  refine WN [0,3,6,45] Q Q ?_;refine TC _ Q (λh9=>?_) (λh9=>?_)
  ·replace hm:=JA h9 hm;refine RS (SA TK Q (SA TK Q (TN (WN [4] Q Q (TR (WR ?_))))));obtain⟨rfl,rfl⟩:=Prod.mk.inj (Option.some.inj hm);exact⟨_,[0,1,2,3],res Q,by decide,(kB Q),Q,Q⟩
  replace hm:=JB h9 hm;refine TS (WT (WN [0,3] Q Q (TQ (aM follows  ?_))));iterate 5 (refine DA [0,1,2,3,4] TK Q ?_)
  refine GE hm λg10 hm=>DX [0,1,2,3,4] Q Q (qQ uN vI (D.int .i64) _ _ (0:Int) Q zH jZ Q Q Q Q g10) ?_;iterate 4 (refine DA [0,1,2,3,4] TK Q ?_)
  refine DT ?_ (by kernel_rfl);refine SA TK Q (TN (WN [0,3,7,8] Q Q (RS (SA TK Q (TN (WN [0,3,7,56] Q Q ?_))))));refine TC _ Q (λh11=>?_) (λh11=>?_)
  ·replace hm:=JA h11 hm;refine RS (SA TK Q (SA TK Q (TN (WN [4] Q Q (TR (WR ?_))))));obtain⟨rfl,rfl⟩:=Prod.mk.inj (Option.some.inj hm);exact⟨_,[0,1,2,3],res Q,by decide,(kB Q),Q,Q⟩
  replace hm:=JB h11 hm;refine TS (WT (WN [0,3] Q Q (aM follows  ?_)));iterate 6 (refine DA [0,1,2,3,4] TK Q ?_)
  refine BE hm λr12 hr12 hm=>DX [0,1,2,3,4] Q Q (RN Q Q (SC (.d _) (SC (.d _) SN)) (fV hr12)) ?_;iterate 6 (refine DA [0,1,2,3,4] TK Q ?_)
  refine BE hm λr13 hr13 hm=>DX [0,1,2,3,4] Q Q (RN Q Q (SC (.d _) (SC (.d _) SN)) (fV hr13)) (DX [0,1,2,3,4] Q Q (rd_min Q Q Q Q) ?_);refine DT ?_ (by kernel_rfl);refine SA TK Q (TN (WN [0,3,9] Q Q (aM follows  ?_)));iterate 7 (refine DA [0,1,2,3,4] TK Q ?_)
  refine BE hm λr14 hr14 hm=>?_;obtain⟨r15,r16⟩:=r14;refine DX [0,1,2,3,4] Q Q (cF Q Q Q (jD hr14)) ?_;iterate 4 (refine DA [0,1,2,3,4] TK Q ?_)
  refine DT ?_ (by kernel_rfl);refine SA TK Q (TN (WN [0,3,9,10,11] Q Q (aM follows  ?_)));iterate 7 (refine DA [0,1,2,3,4] TK Q ?_)
  refine BE hm λr17 hr17 hm=>?_;obtain⟨r18,r19⟩:=r17;refine DX [0,1,2,3,4] Q Q (cF Q Q Q (jD hr17)) ?_;iterate 4 (refine DA [0,1,2,3,4] TK Q ?_)
  refine DT ?_ (by kernel_rfl);refine SA TK Q (TN (WN [0,3,9,10,11,12,13] Q Q (RS (SA TK Q (SA TK Q (SA TK Q (SX Q Q (aU Q yW uF Q Q Q Q) (BE hm λr20 hr20 hm=>?_))))))));obtain⟨r21,r22⟩:=r20;refine bX [0,1,2,3] (λj=>Nat.beq j 1||Nat.beq j 2) Q Q Q (by decide) Q Q Q Q (ih hr20) Q Q Q ?_;refine SA TK Q (TN (WN [0,3,9,11,13,14] Q Q ?_));refine aJ hm (λ(x23,c24,m25,b26,m27)=>([(14,.d (.int .i64 x23))]:Fr)) (λ(x23,c24,m25,b26,m27)=>([(0,.box 81 [.d (.sl 3 (p0.a.nodes.map Node.enc)),.d (.int .i64 p0.a.root),.d (.sl 3 (p0.b.nodes.map Node.enc)),.d (.int .i64 p0.b.root),.d (.bool (p0.all)),.mmapN 1 m25.length,.msl 2 3 0 b26.length,.mmap 3,.d (.bool (c24))]),(1,.map 51 3 (aI Node.enc (D.int .i64) m25)),(2,.flat 51 3 (b26.map Node.enc)),(3,.map 84 3 (aI Pair.enc (D.int .i64) m27))]:List (Nat×Blk))) [14] [0,3] Q (λz28 hm=>?_) (λj hm=>?_)
  ·refine RS (SA TK Q (SA TK Q (SA TK Q (SX Q Q (aU Q yW uF Q Q Q Q) (BE hm λr29 hr29 hm=>?_)))));obtain⟨r30,r31⟩:=r29;refine bX [0,1,2,3] (λj=>Nat.beq j 1||Nat.beq j 2) Q Q Q (by decide) Q Q Q Q (ih hr29) Q Q Q ?_;refine SA TK Q (TN (WN [0,3,9,14,15] Q Q (RS (SA TK Q (SA TK Q (SA TK Q (TN (WN [0,3,9,14,15,107] Q Q ?_))))))));refine TC _ Q (λh32=>?_) (λh32=>?_)
   ·replace hm:=iW h32 hm;refine TG ?_;iterate 6 (refine SA TK Q ?_)
    refine SX Q Q (aU Q qC aT Q Q Q Q) (BE hm λr33 hr33 hm=>?_);obtain⟨r34,r35⟩:=r33;refine bX [0,1,2,3] (λj=>Nat.beq j 1||Nat.beq j 2) Q Q Q (by decide) Q Q Q Q (eQ hr33) Q Q Q ?_;refine GE hm λg36 hm=>SX Q Q (bI Q Q Q Q g36) (SA TK Q (TN (WT ?_)));exact⟨_,[0,1,2,3,4],(SJ hm),Q,(kB Q),Q⟩
   replace hm:=iX h32 hm;refine TS (WT ?_);exact⟨_,[0,1,2,3,4],(SJ hm),Q,(kB Q),Q⟩
  obtain⟨x23,c24,m25,b26,m27⟩:=j;refine WN [0,3,14] Q Q (TQ (RS ?_));iterate 7 (refine SA TK Q ?_)
  refine TN (WN [0,3,14,123] Q Q ?_);refine TC _ Q (λh37=>?_) (λh37=>?_)
  ·replace hm:=JT h37 hm;refine TG ?_;iterate 4 (refine SA TK Q ?_)
   refine TN (WT (WN [0,3,14] Q Q (aM follows  ?_)));iterate 6 (refine DA [0,1,2,3,4] TK Q ?_)
   refine DT ?_ (by kernel_rfl);refine GE hm λg38 hm=>lZ uN vI (D.int .i64) zH Q Q Q Q g38 (TN (WN [14] Q Q (RS (SA TK Q (SA TK Q (TN (WN [4] Q Q (TR ?_))))))));obtain⟨rfl,rfl⟩:=Prod.mk.inj (Option.some.inj hm);exact⟨_,[0,1,2,3],res Q,by decide,(kB Q),Q,Q⟩
  replace hm:=JF h37 hm;refine TS (WT (WN [0,3,14] Q Q (aM follows  ?_)));iterate 6 (refine DA [0,1,2,3,4] TK Q ?_)
  refine DT ?_ (by kernel_rfl);refine GE hm λg39 hm=>lZ uN vI (D.int .i64) zH Q Q Q Q g39 (TN (WN [14] Q Q (RS (SA TK Q (SA TK Q (TN (WN [4] Q Q (TR ?_))))))));obtain⟨rfl,rfl⟩:=Prod.mk.inj (Option.some.inj hm);exact⟨_,[0,1,2,3],res Q,by decide,(kB Q),Q,Q⟩
theorem kV {p0:Merger} {p1:Pair} {r0:Int} {r1:Merger} (hm:eR p0 p1=some (r0,r1)):Ret Try.prog 56 [.box 81 [.d (.sl 3 (p0.a.nodes.map Node.enc)),.d (.int .i64 p0.a.root),.d (.sl 3 (p0.b.nodes.map Node.enc)),.d (.int .i64 p0.b.root),.d (.bool (p0.all)),.mmapN 1 p0.nodes.index.length,.msl 2 3 0 p0.nodes.list.length,.mmap 3,.d (.bool (p0.full))],.map 51 3 (aI Node.enc (D.int .i64) p0.nodes.index),.flat 51 3 (p0.nodes.list.map Node.enc),.map 84 3 (aI Pair.enc (D.int .i64) p0.done)] (λj=>Nat.beq j 1||Nat.beq j 2) [.mptr 0 0 0 0,.d (p1.enc)] (.d (.int .i64 r0)) [.box 81 [.d (.sl 3 (p0.a.nodes.map Node.enc)),.d (.int .i64 p0.a.root),.d (.sl 3 (p0.b.nodes.map Node.enc)),.d (.int .i64 p0.b.root),.d (.bool (p0.all)),.mmapN 1 r1.nodes.index.length,.msl 2 3 0 r1.nodes.list.length,.mmap 3,.d (.bool (r1.full))],.map 51 3 (aI Node.enc (D.int .i64) r1.nodes.index),.flat 51 3 (r1.nodes.list.map Node.enc),.map 84 3 (aI Pair.enc (D.int .i64) r1.done)]:=jY aH hm
theorem kM {p0:Diagram} {p1:Diagram} {p2:Bool} {r0:Diagram} {r1:Bool} (hm:dU p0 p1 p2=some (r0,r1)):RetT Try.prog 52 [p0.enc,p1.enc,.bool (p2)] [r0.enc,.bool (r1)]:=by
 refine .of (mv:=λ_=>false) (cH qCH Try.func52 Q Try.ntmps52 Q Q (λwX gX=>?_));unfold dU at hm;refine WN [0,1,2] Q Q (RS (cE 0 Q Q Q (cE 1 Q Q Q (bY 2 Q Q aK Q (cR 2 [some 3,none] Q Q (SA TK Q (TN (WN [2,3,4,6] Q Q ?_))))))));refine RS (SA TK Q (SA TK Q (SA TK Q (xB 84 3 Q (s_eq 13 (.mmap 3) Q Q (SX Q Q (iU Q plc81 xY Q Q Q Q) (bY 4 Q Q xY Q (vY (kf:=Node.enc) (f:=(D.int .i64)) 4 5 5 51 3 Q Q Q (kD (f:=Node.enc) 4 6 6 51 3 Q Q Q (vY (kf:=Pair.enc) (f:=(D.int .i64)) 4 7 7 84 3 Q Q Q ?_))))))))));refine cR 4 [some 3,none,some 3,none,none,none,none,none,none] Q Q (SA TK Q (vY (kf:=Node.enc) (f:=(D.int .i64)) 4 5 8 51 3 Q Q Q (kD (f:=Node.enc) 4 6 9 51 3 Q Q Q (TN (WN [3,4,6,8] Q Q (RS ?_))))));iterate 4 (refine SA TK Q ?_)
 refine SX Q Q (aU Q yW uF Q Q Q Q) (BE hm λr1 hr1 hm=>?_);obtain⟨r2,r3⟩:=r1;refine bX [4,8,9,3] (λj=>Nat.beq j 1||Nat.beq j 2) Q Q Q (by decide) Q Q Q Q (kV hr1) Q Q Q ?_;refine SA TK Q (TN (WN [6,8,9] Q Q (TQ (RS (SA TK Q (SA TK Q (TN (WN [6,8,9,22] Q Q ?_))))))));refine TC _ Q (λh4=>?_) (λh4=>?_)
 ·replace hm:=JA h4 hm;refine RS (SX Q Q (aU Q dQ aK Q Q Q Q) (jV 23 [some 3,none] Q (SA TK Q (SA TK Q (TN (WN [6,7] Q Q (TR (WR ?_))))))));obtain⟨rfl,rfl⟩:=Prod.mk.inj (Option.some.inj hm);exact⟨_,.mk _ (.cons (.agg (TK.lay Q) Q Q Q Q) (.cons (.tmp 7) .nil)) Q,(.cons (.d _) (.refl _) (.cons (.d _) (.refl _) .nil))⟩
 replace hm:=JB h4 hm;refine TS (WT (WN [6,8,9] Q Q (RS ?_)));iterate 4 (refine SA TK Q ?_)
 refine SX Q Q (iU Q dQ aK Q Q Q Q) (SA TK Q (SA TK Q (TN (WN [6,7] Q Q (TR ?_)))));obtain⟨rfl,rfl⟩:=Prod.mk.inj (Option.some.inj hm);exact⟨_,.mk _ (.cons (.agg (TK.lay Q) Q Q Q Q) (.cons (.tmp 7) .nil)) Q,(.cons (oD (.cons (iO Q) Q (.cons (.d _) Q .nil))) (.refl _) (.cons (.d _) (.refl _) .nil))⟩
theorem pJ:∀ (fu:Nat) {p0:Expr} {r0:Diagram} {r1:Bool} (hm:cN fu p0=some (r0,r1)),RetT Try.prog 34 [p0.enc] [r0.enc,.bool (r1)]:=by
 intro fu
 induction fu with
 | zero=>
  intro p0 r0 r1 hm;unfold cN at hm;cases hm
 | succ fu ih=>
  intro p0 r0 r1 hm;refine .of (mv:=λ_=>false) (cH qCV Try.func34 Q Try.ntmps34 Q Q (λwX gX=>?_));unfold cN at hm;refine WN [0] Q Q (RS (cE 0 Q Q Q (bY 1 Q Q aK Q (cR 1 [some 3,none] Q Q (SA TK Q (TN (WN [1,2] Q Q ?_)))))));refine cZ hm (λ_=>([]:Fr)) (λ_=>([]:List (Nat×Blk))) [] [2] Q (λz1 hm hz1=>?_) (λj hm=>?_)
  ·refine RS (SA TK Q (SA TK Q (TN (WN [1,2,13] Q Q (TB (RS (SA TK Q (SA TK Q (TN (WN [1,2,13,14] Q Q ?_))))))))));refine TC _ Q (λh2=>?_) (λh2=>?_)
   ·replace hm:=JT h2 hm;refine RS (SX Q Q (aU Q dQ aK Q Q Q Q) (jV 16 [some 3,none] Q (SA TK Q (SA TK Q (TN (WN [2,3] Q Q (TR (WB (IE hm λv3 hm hz=>?_)))))))));rw [hz1 _ hz] at hm;refine WR ?_;obtain⟨rfl,rfl⟩:=Prod.mk.inj (Option.some.inj hm);exact⟨_,.mk _ (.cons (.agg (TK.lay Q) Q Q Q Q) (.cons (.tmp 3) .nil)) Q,(.cons (.d _) (.refl _) (.cons (.d _) (.refl _) .nil))⟩
   replace hm:=JF h2 hm;refine RS (SA TK Q (SA TK Q (TN (WN [1,2,13,17] Q Q ?_))));refine TC _ Q (λh4=>?_) (λh4=>?_)
   ·replace hm:=JT h4 hm;refine RS (SA TK Q (SA TK Q (SX Q Q (aU Q qC aT Q Q Q Q) (SX Q Q (dY [.tmp 21] TK Q Q aT Q Q Q Q Q) (SX Q Q (aU Q dQ aK Q Q Q Q) (SA TK Q (SA TK Q (TN (WN [2,3] Q Q (TR ?_))))))))));refine WB (IE hm λv5 hm hz=>?_);rw [hz1 _ hz] at hm;refine WR ?_;obtain⟨rfl,rfl⟩:=Prod.mk.inj (Option.some.inj hm);exact⟨_,.mk _ (.cons (.agg (TK.lay Q) Q Q Q Q) (.cons (.tmp 3) .nil)) Q,(.cons (.d _) (.refl _) (.cons (.d _) (.refl _) .nil))⟩
   replace hm:=JF h4 hm;refine RS (SA TK Q (SA TK Q (TN (WN [1,2,13,24] Q Q ?_))));refine TC _ Q (λh6=>?_) (λh6=>?_)
   ·replace hm:=JT h6 hm;refine RS (SA TK Q (SA TK Q (VE hm λe7 he7 hm=>SX Q Q (xZ TK Q Q Q Q he7 (Expr.encR_eq _)) (SA TK Q (BE hm λr8 hr8 hm=>?_)))));obtain⟨r9,r10⟩:=r8;refine SX Q Q (cF Q Q Q (ih hr8)) (SA TK Q (SA TK Q (SA TK Q (bY 2 Q Q aK Q (cR 2 [some 3,none] Q Q (SA TK Q (SA TK Q (TN (WN [2,4,5] Q Q (RS (SA TK Q ?_)))))))))));refine BE hm λr11 hr11 hm=>SX Q Q (RD Q Q Q (jB hr11)) (SA TK Q (SA TK Q (SA TK Q (TN (WN [2,3] Q Q (TR (WB (IE hm λv12 hm hz=>?_))))))));rw [hz1 _ hz] at hm;refine WR ?_;obtain⟨rfl,rfl⟩:=Prod.mk.inj (Option.some.inj hm);exact⟨_,.mk _ (.cons (.agg (TK.lay Q) Q Q Q Q) (.cons (.tmp 3) .nil)) Q,(.cons (.d _) (.refl _) (.cons (.d _) (.refl _) .nil))⟩
   replace hm:=JF h6 hm;refine aJ hm (λx13=>([(37,.d (.bool (x13)))]:Fr)) (λx13=>([]:List (Nat×Blk))) [37] [1,2] Q (λz14 hm=>?_) (λx13 hm=>?_)
   ·refine RS (SA TK Q (SA TK Q (TN (WN [1,2,13,37] Q Q ?_))));refine TC _ Q (λh15=>?_) (λh15=>?_)
    ·replace hm:=JT h15 hm;refine TS (WT ?_);exact⟨_,[0,1],(SJ hm),Q,k0,Q⟩
    replace hm:=JF h15 hm;refine TG (SA TK Q (SA TK Q (TN (WT ?_))));exact⟨_,[0,1],(SJ hm),Q,k0,Q⟩
   refine WN [1,2,37] Q Q ?_;refine TC _ Q (λh16=>?_) (λh16=>?_)
   ·replace hm:=JA h16 hm;refine RS ?_;iterate 4 (refine SA TK Q ?_)
    refine TN (WN [1,2,6] Q Q (RS (SA TK Q (BE hm λr17 hr17 hm=>SX Q Q (RD Q Q Q (jC hr17)) (bY 2 Q Q aK Q (cR 2 [some 3,none] Q Q (SA TK Q ?_)))))));refine TN (WN [1,2,6,7] Q Q ?_);refine cZ hm (λ(c18,c19)=>([]:Fr)) (λ(c18,c19)=>([(2,.box 29 [.d (.sl 3 (c18.map Node.enc)),.d (.int .i64 c19)])]:List (Nat×Blk))) [] [2,7] Q (λz20 hm hz20=>?_) (λj hm=>?_)
    ·refine RS (SA TK Q (SA TK Q (SX Q Q (bS TK Q Q Q) (SA TK Q (TN (WN [2,6,7,46,47,48] Q Q (TB (cB hm (λ(x25,c26,c27)=>([(48,.d (.int .i64 x25))]:Fr)) (λ(x25,c26,c27)=>([(2,.box 29 [.d (.sl 3 (c26.map Node.enc)),.d (.int .i64 c27)])]:List (Nat×Blk))) [48] [2,6,7,46,47] [0,1,2] Q k0 Q Q Q Q Q (λs z28 hm hz28=>?_)))))))));obtain⟨x25,c26,c27⟩:=s;refine WN [2,6,7,46,47,48] Q Q (RS (SA TK Q (TN (WN [2,6,7,46,47,48,49] Q Q (TQ ?_)))));refine TC _ Q (λh29=>?_) (λh29=>?_)
     ·replace hm:=JT h29 hm;refine TS (WT (WN [2,6,7,46,47,48] Q Q (TQ (TB (RS (VE hm λe30 he30 hm=>SX Q Q (xZ TK Q Q Q Q he30 (Expr.encR_eq _)) (SA TK Q ?_)))))));refine bY 3 Q Q nX Q (cR 3 [none,none,some 3] Q Q (SA TK Q (TN (WN [2,6,7,9,46,47,48] Q Q (RS (SA TK Q (BE hm λr31 hr31 hm=>?_)))))));obtain⟨r32,r33⟩:=r31;refine SX Q Q (cF Q Q Q (ih hr31)) (SA TK Q (SA TK Q (SA TK Q (bY 4 Q Q aK Q (cR 4 [some 3,none] Q Q (SA TK Q (SA TK Q (TN (WN [2,6,7,10,11,46,47,48] Q Q (TQ (RS ?_)))))))))));refine SA TK Q (SA TK Q (TN (WN [2,6,7,10,46,47,48,58] Q Q ?_)));refine TC _ Q (λh34=>?_) (λh34=>?_)
      ·replace hm:=JA h34 hm;refine RS (SX Q Q (aU Q dQ aK Q Q Q Q) (jV 59 [some 3,none] Q (SA TK Q (SA TK Q (TN (WN [2,3] Q Q (TR (WR (WB ?_)))))))));refine WR (IE hm λv35 hm hz=>?_);rw [hz28 _ hz] at hm;refine WR (WB (IE hm λv36 hm hz=>?_));rw [hz20 _ hz] at hm;refine WR (WB (IE hm λv37 hm hz=>?_));rw [hz1 _ hz] at hm;refine WR ?_;obtain⟨rfl,rfl⟩:=Prod.mk.inj (Option.some.inj hm);exact⟨_,.mk _ (.cons (.agg (TK.lay Q) Q Q Q Q) (.cons (.tmp 3) .nil)) Q,(.cons (.d _) (.refl _) (.cons (.d _) (.refl _) .nil))⟩
      replace hm:=JB h34 hm;refine TS (WT (WN [2,6,7,10,46,47,48] Q Q (RS (SA TK Q (SA TK Q (SA TK Q (BE hm λr38 hr38 hm=>?_)))))));obtain⟨r39,r40⟩:=r38;refine SX Q Q (cF Q Q Q (kM hr38)) ?_;iterate 5 (refine SA TK Q ?_)
      refine TN (WN [2,6,7,11,46,47,48] Q Q (RS (SA TK Q (SA TK Q (TN (WN [2,6,7,46,47,48,68] Q Q ?_))))));refine TC _ Q (λh41=>?_) (λh41=>?_)
      ·replace hm:=JA h41 hm;refine RS (SX Q Q (aU Q dQ aK Q Q Q Q) (jV 69 [some 3,none] Q (SA TK Q (SA TK Q (TN (WN [2,3] Q Q (TR (WB (WR ?_)))))))));refine IE hm λv42 hm hz=>?_;rw [hz28 _ hz] at hm;refine WR (WB (IE hm λv43 hm hz=>?_));rw [hz20 _ hz] at hm;refine WR (WB (IE hm λv44 hm hz=>?_));rw [hz1 _ hz] at hm;refine WR ?_;obtain⟨rfl,rfl⟩:=Prod.mk.inj (Option.some.inj hm);exact⟨_,.mk _ (.cons (.agg (TK.lay Q) Q Q Q Q) (.cons (.tmp 3) .nil)) Q,(.cons (.d _) (.refl _) (.cons (.d _) (.refl _) .nil))⟩
      replace hm:=JB h41 hm;refine TS (WK (WT (WN [2,6,7,46,47,48] Q Q (TG (GE hm λg45 hm=>SX Q Q (bI Q Q Q Q g45) (SA TK Q (TN ?_)))))));refine WT ?_;exact⟨_,[0,1,2],(SJ hm),Q,k0,Q⟩
     replace hm:=JF h29 hm;refine bB (WX (IE hm λv46 hm hz=>?_));rw [hz28 _ hz] at hm;refine WX (WH (WT ?_));exact⟨_,[0,1,2],(SJ hm),Q,k0,Q⟩
    obtain⟨c18,c19⟩:=j;refine WN [2,7] Q Q (RS (SA TK Q (SA TK Q (SA TK Q (TN (WN [2,3] Q Q (TR (WB (IE hm λv47 hm hz=>?_)))))))));rw [hz1 _ hz] at hm;refine WR ?_;obtain⟨rfl,rfl⟩:=Prod.mk.inj (Option.some.inj hm);exact⟨_,.mk _ (.cons (.agg (TK.lay Q) Q Q Q Q) (.cons (.tmp 3) .nil)) Q,(.cons (.d _) (.refl _) (.cons (.d _) (.refl _) .nil))⟩
   replace hm:=JB h16 hm;refine TS (WK (WT ?_));exact⟨_,[0,1],(SJ hm),Q,k0,Q⟩
  refine WN [2] Q Q (RS (BE hm λr48 hr48 hm=>SX Q Q (RD Q Q Q (jC hr48)) (SA TK Q (SA TK Q (TN (WN [2,3] Q Q (TR ?_)))))));obtain⟨rfl,rfl⟩:=Prod.mk.inj (Option.some.inj hm);exact⟨_,.mk _ (.cons (.agg (TK.lay Q) Q Q Q Q) (.cons (.tmp 3) .nil)) Q,(.cons (.d _) (.refl _) (.cons (.d _) (.refl _) .nil))⟩
theorem pX {p0:Expr} {r0:Diagram} {r1:Bool} (hm:nC p0=some (r0,r1)):RetT Try.prog 34 [p0.enc] [r0.enc,.bool (r1)]:=pJ aH hm
theorem qAH {p0:Expr} {p1:Int} {r0:Diagram} {r1:Int} (hm:vR p0 p1=some (r0,r1)):RetT Try.prog 11 [p0.enc,.int .i64 p1] [r0.enc,.int .i64 r1]:=by
 refine .of (mv:=λ_=>false) (cH qDK Try.func11 Q Try.ntmps11 Q Q (λwX gX=>?_));unfold vR at hm;refine WN [0,1] Q Q (RS (cE 0 Q Q Q (bY 1 Q Q aK Q (cR 1 [some 3,none] Q Q (SA TK Q (TN (WN [1,2,4] Q Q (TQ ?_))))))));refine RS (SA TK Q (SA TK Q (TN (WN [1,2,4,9] Q Q ?_))));refine TC _ Q (λh1=>?_) (λh1=>?_)
 ·replace hm:=JT h1 hm;refine RS (SX Q Q (aU Q dQ aK Q Q Q Q) (jV 10 [some 3,none] Q (SA TK Q (SA TK Q (TN (WN [4,5] Q Q (TR (WR ?_))))))));obtain⟨rfl,rfl⟩:=Prod.mk.inj (Option.some.inj hm);exact⟨_,.mk _ (.cons (.agg (TK.lay Q) Q Q Q Q) (.cons (.tmp 5) .nil)) Q,(.cons (.d _) (.refl _) (.cons (.d _) (.refl _) .nil))⟩
 replace hm:=JF h1 hm;refine TS (WT (WN [1,2,4] Q Q (TQ ?_)));refine aJ hm (λx2=>([(18,.d (.bool (x2)))]:Fr)) (λx2=>([]:List (Nat×Blk))) [18] [2,4] Q (λz3 hm=>?_) (λx2 hm=>?_)
 ·refine TG (SA TK Q (SA TK Q (SB TK Q (λq4 hq4=>?_))));cases q4
  ·replace hm:=JF hq4 hm;refine SA TK Q (SA TK Q (BE hm λr5 hr5 hm=>SX Q Q (RN Q Q (SC (.d _) (SC (.d _) SN)) (rP hr5)) (SA TK Q (SA TK Q (TN (WT ?_))))));exact⟨_,[0,1],(SJ hm),Q,k0,Q⟩
  replace hm:=JT hq4 hm;iterate 5 (refine SA TK Q ?_)
  refine TN (WT ?_);exact⟨_,[0,1],(SJ hm),Q,k0,Q⟩
 refine WN [2,4,18] Q Q ?_;refine TC _ Q (λh6=>?_) (λh6=>?_)
 ·replace hm:=JA h6 hm;refine RS (SX Q Q (aU Q dQ aK Q Q Q Q) (jV 19 [some 3,none] Q (SA TK Q (SA TK Q (TN (WN [4,5] Q Q (TR (WR ?_))))))));obtain⟨rfl,rfl⟩:=Prod.mk.inj (Option.some.inj hm);exact⟨_,.mk _ (.cons (.agg (TK.lay Q) Q Q Q Q) (.cons (.tmp 5) .nil)) Q,(.cons (.d _) (.refl _) (.cons (.d _) (.refl _) .nil))⟩
 replace hm:=JB h6 hm;refine TS (WT (WN [2,4] Q Q (RS (SA TK Q (BE hm λr7 hr7 hm=>?_)))));obtain⟨r8,r9⟩:=r7;refine SX Q Q (cF Q Q Q (pX hr7)) (SA TK Q (SA TK Q (SA TK Q (bY 2 Q Q aK Q (cR 2 [some 3,none] Q Q (SA TK Q (SA TK Q (TN (WN [4,6,7] Q Q (TQ (RS ?_)))))))))));refine SA TK Q (SA TK Q (TN (WN [4,6,26] Q Q ?_)));refine TC _ Q (λh10=>?_) (λh10=>?_)
 ·replace hm:=JA h10 hm;refine RS (SX Q Q (aU Q dQ aK Q Q Q Q) (jV 27 [some 3,none] Q (SA TK Q (SA TK Q (TN (WN [4,5] Q Q (TR (WR ?_))))))));obtain⟨rfl,rfl⟩:=Prod.mk.inj (Option.some.inj hm);exact⟨_,.mk _ (.cons (.agg (TK.lay Q) Q Q Q Q) (.cons (.tmp 5) .nil)) Q,(.cons (.d _) (.refl _) (.cons (.d _) (.refl _) .nil))⟩
 replace hm:=JB h10 hm;refine TS (WT (WN [4,6] Q Q (RS (SA TK Q (SA TK Q (SA TK Q (TN (WN [4,5] Q Q (TR ?_)))))))));obtain⟨rfl,rfl⟩:=Prod.mk.inj (Option.some.inj hm);exact⟨_,.mk _ (.cons (.agg (TK.lay Q) Q Q Q Q) (.cons (.tmp 5) .nil)) Q,(.cons (.d _) (.refl _) (.cons (.d _) (.refl _) .nil))⟩
theorem nD {p0:Diagram} {p1:Int} {p2:Int} {r:Bool} (hm:dV p0 p1 p2=some r):RetN Try.prog 41 [p0.enc,.int .i64 p1,.int .i64 p2] (.bool (r)):=by
 refine .unit (aS qCP Try.func41 Q Try.ntmps41 Q Q (λwX gX=>?_)) Q;unfold dV at hm;refine WN [0,1,2] Q Q (RS (cE 0 Q Q Q (SA TK Q (TN (WN [1,2,3] Q Q (TQ ?_))))));refine iH [(12,.d (.bool (((decide (p2=(0:Int)))||(decide (p2=(1:Int)))))))] [12] [1,2,3] Q ?_ ?_
 ·refine TG (SA TK Q (SA TK Q (SB TK Q (λq1 hq1=>?_))));cases q1
  ·refine SA TK Q (SA TK Q (SA TK Q (TN (WT ?_))));exact⟨[0],Q,k0,cQ (bF (bG (by simp [hq1])) Q) Q⟩
  refine SA TK Q (SA TK Q (SA TK Q (TN (WT ?_))));exact⟨[0],Q,k0,cQ (bF (bG (by simp [hq1])) Q) Q⟩
 refine WN [1,2,3,12] Q Q ?_;refine TC _ Q (λh2=>?_) (λh2=>?_)
 ·replace hm:=JA h2 hm;refine RS (SA TK Q (TN (WN [6] Q Q (TR (WR ?_)))));obtain rfl:=OJ hm;exact EndsS.one _ Q (.d _) (.refl _)
 replace hm:=JB h2 hm;refine TS (WT (WN [1,2,3] Q Q ?_));refine aJ hm (λx3=>([(6,.d (.bool (x3)))]:Fr)) (λx3=>([]:List (Nat×Blk))) [6] [] Q (λz4 hm=>?_) (λx3 hm=>?_)
 ·refine iK follows  ?_;iterate 2 (refine DA [0] TK Q ?_)
  refine d_b [0] TK Q (λq5 hq5=>?_);cases q5
  ·replace hm:=JF hq5 hm;iterate 21 (refine DA [0] TK Q ?_)
   refine DT ?_ (by kernel_rfl);refine SA TK Q (TN (WT ?_));exact⟨_,[0],(SJ hm),Q,k0,Q⟩
  replace hm:=JT hq5 hm;iterate 2 (refine DA [0] TK Q ?_)
  refine GE hm λg6 hm=>DX [0] Q Q (bI Q Q Q Q g6) ?_;iterate 2 (refine DA [0] TK Q ?_)
  refine d_b [0] TK Q (λq7 hq7=>?_);cases q7
  ·replace hm:=JF hq7 hm;iterate 15 (refine DA [0] TK Q ?_)
   refine DT ?_ (by kernel_rfl);refine SA TK Q (TN (WT ?_));exact⟨_,[0],(SJ hm),Q,k0,Q⟩
  replace hm:=JT hq7 hm;iterate 3 (refine DA [0] TK Q ?_)
  refine GE hm λg8 hm=>DX [0] Q Q (bI Q Q Q Q g8) (VE hm λe9 he9 hm=>DX [0] Q Q (dZ TK Q Q Q Q he9) ?_);iterate 5 (refine DA [0] TK Q ?_)
  refine VE hm λe10 he10 hm=>DX [0] Q Q (dZ TK Q Q Q Q he10) ?_;iterate 4 (refine DA [0] TK Q ?_)
  refine DT ?_ (by kernel_rfl);refine SA TK Q (TN (WT ?_));exact⟨_,[0],(SJ hm),Q,k0,Q⟩
 refine WN [6] Q Q (TR ?_);obtain rfl:=OJ hm;exact EndsS.one _ Q (.d _) (.refl _)
theorem lS:∀ (fu:Nat) {p0:Int} {p1:(List Bool)} {p2:Diagram} {p4:Int} {r0:Bool} {r1:(List Bool)} {r2:Int} (hm:bE fu p0 p1 p2 p4=some (r0,r1,r2)),Ret Try.prog 54 [.box 36 [.msl 1 1 0 p1.length],.flat 4 1 (p1.map D.bool),.box 3 [.d (.int .i64 p4)],.box 78 [.fnc 54 [.mptr 0 0 0 0,.d (.ptr (p2.enc) 0),.mptr 3 0 0 0,.mptr 2 0 0 0]]] (λ_=>false) [.d (.int .i64 p0),.mptr 0 0 0 0,.d (.ptr (p2.enc) 0),.mptr 3 0 0 0,.mptr 2 0 0 0] (.d (.bool (r0))) [.box 36 [.msl 1 1 0 r1.length],.flat 4 1 (r1.map D.bool),.box 3 [.d (.int .i64 r2)],.box 78 [.fnc 54 [.mptr 0 0 0 0,.d (.ptr (p2.enc) 0),.mptr 3 0 0 0,.mptr 2 0 0 0]]]:=by
 intro fu
 induction fu with
 | zero=>
  intro p0 p1 p2 p4 r0 r1 r2 hm;unfold bE at hm;cases hm
 | succ fu ih=>
  intro p0 p1 p2 p4 r0 r1 r2 hm;refine eV qCF Try.func54 Q Try.ntmps54 Q Q (λwX gX=>?_);unfold bE at hm;refine WN [0,1,2,3,4] Q Q (RS (SA TK Q (TN (WN [0,1,2,3,4] Q Q (TQ ?_)))));refine aJ hm (λx1=>([(15,.d (.bool (x1)))]:Fr)) (λx1=>([]:List (Nat×Blk))) [15] [0,1,2,3,4] Q (λz2 hm=>?_) (λx1 hm=>?_)
  ·refine TG (SA TK Q (SA TK Q (SB TK Q (λq3 hq3=>?_))));cases q3
   ·replace hm:=JF hq3 hm;refine SA TK Q (SA TK Q (VE hm λe4 he4 hm=>SX Q Q (kX TK Q Q Q Q he4 Q) (SX Q Q (nY TK Q Q Q Q he4.2 Q) (SA TK Q (TN (WT ?_))))));exact⟨_,[0,1,2,3],(SJ hm),Q,(kB Q),Q⟩
   replace hm:=JT hq3 hm;iterate 5 (refine SA TK Q ?_)
   refine TN (WT ?_);exact⟨_,[0,1,2,3],(SJ hm),Q,(kB Q),Q⟩
  refine WN [0,1,2,3,4,15] Q Q ?_;refine TC _ Q (λh5=>?_) (λh5=>?_)
  ·replace hm:=JA h5 hm;refine RS (SA TK Q (TN (WN [6] Q Q (TR (WR ?_)))));obtain⟨rfl,hmj0⟩:=Prod.mk.inj (Option.some.inj hm);obtain⟨rfl,rfl⟩:=Prod.mk.inj (hmj0);exact⟨_,[0,1,2,3],res Q,by decide,(kB Q),Q,Q⟩
  replace hm:=JB h5 hm;refine TS (WT (WN [0,1,2,3,4] Q Q (RS (SA TK Q (SA TK Q (VE hm λe6 he6 hm=>SX Q Q (kX TK Q Q Q Q he6 Q) (qDZ (x':=true) TK Q Q Q Q Q he6.2 Q Q Q (yO 16 (p1.set p0.toNat true).length Q List.length_set.symm ?_))))))));refine s_eqB 0 [.msl 1 1 0 (p1.set p0.toNat true).length] Q (by simp only [List.length_set]) ?_;refine TN (WN [0,2,3,4] Q Q (RS (SA TK Q (SA TK Q (SA TK Q (GE hm λg7 hm=>SX Q Q (bI Q Q Q Q g7) (VE hm λe8 he8 hm=>SX Q Q (dZ TK Q Q Q Q he8) (SA TK Q ?_))))))));refine bY 4 Q Q aT Q (SA TK Q (TN (WN [0,3,4,7] Q Q (TQ ?_))));refine aJ hm (λ(x9,b10,c11)=>([(41,.d (.bool (x9)))]:Fr)) (λ(x9,b10,c11)=>([(0,.box 36 [.msl 1 1 0 b10.length]),(1,.flat 4 1 (b10.map D.bool)),(2,.box 3 [.d (.int .i64 c11)])]:List (Nat×Blk))) [41] [4] Q (λz12 hm=>?_) (λj hm=>?_)
  ·refine TG (SA TK Q (SA TK Q (SA TK Q (BE hm λr13 hr13 hm=>?_))));obtain⟨r14,r15,r16⟩:=r13;refine bX [0,1,2,3] (λ_=>false) Q Q Q (by decide) Q Q Q Q (ih hr13) Q Q Q ?_;refine SA TK Q (SB TK Q (λq17 hq17=>?_));cases q17
   ·replace hm:=JB hq17 hm;refine SA TK Q (SA TK Q (SA TK Q (BE hm λr18 hr18 hm=>?_)));obtain⟨r19,r20,r21⟩:=r18;refine s_on Q ?_;refine bX [0,1,2,3] (λ_=>false) Q Q Q (by decide) Q Q Q Q (ih hr18) Q Q Q ?_;refine SA TK Q (SA TK Q (SB TK Q (λq22 hq22=>?_)));cases q22
    ·replace hm:=JB hq22 hm;iterate 4 (refine SA TK Q ?_)
     refine TN (WT ?_);exact⟨_,[0,1,2,3,4],(SJ hm),Q,(kB Q),Q⟩
    replace hm:=JA hq22 hm;iterate 4 (refine SA TK Q ?_)
    refine TN (WT ?_);exact⟨_,[0,1,2,3,4],(SJ hm),Q,(kB Q),Q⟩
   replace hm:=JA hq17 hm;iterate 11 (refine SA TK Q ?_)
   refine TN (WT ?_);exact⟨_,[0,1,2,3,4],(SJ hm),Q,(kB Q),Q⟩
  obtain⟨x9,b10,c11⟩:=j;refine WN [4,41] Q Q ?_;refine TC _ Q (λh23=>?_) (λh23=>?_)
  ·replace hm:=JA h23 hm;refine RS (SA TK Q (TN (WN [6] Q Q (TR (WR ?_)))));obtain⟨rfl,hmj0⟩:=Prod.mk.inj (Option.some.inj hm);obtain⟨rfl,rfl⟩:=Prod.mk.inj (hmj0);exact⟨_,[0,1,2,3],res Q,by decide,(kB Q),Q,Q⟩
  replace hm:=JB h23 hm;refine TS (WT (WN [4] Q Q (RS (SA TK Q (GE hm λg24 hm=>SX Q Q (bI Q Q Q Q g24) (SA TK Q (TN ?_)))))));refine WN [] Q Q (RS (SA TK Q (TN (WN [6] Q Q (TR ?_)))));obtain⟨rfl,hmj0⟩:=Prod.mk.inj (Option.some.inj hm);obtain⟨rfl,rfl⟩:=Prod.mk.inj (hmj0);exact⟨_,[0,1,2,3],res Q,by decide,(kB Q),Q,Q⟩
theorem mO {p0:Int} {p1:(List Bool)} {p2:Diagram} {p4:Int} {r0:Bool} {r1:(List Bool)} {r2:Int} (hm:fW p0 p1 p2 p4=some (r0,r1,r2)):Ret Try.prog 54 [.box 36 [.msl 1 1 0 p1.length],.flat 4 1 (p1.map D.bool),.box 3 [.d (.int .i64 p4)],.box 78 [.fnc 54 [.mptr 0 0 0 0,.d (.ptr (p2.enc) 0),.mptr 3 0 0 0,.mptr 2 0 0 0]]] (λ_=>false) [.d (.int .i64 p0),.mptr 0 0 0 0,.d (.ptr (p2.enc) 0),.mptr 3 0 0 0,.mptr 2 0 0 0] (.d (.bool (r0))) [.box 36 [.msl 1 1 0 r1.length],.flat 4 1 (r1.map D.bool),.box 3 [.d (.int .i64 r2)],.box 78 [.fnc 54 [.mptr 0 0 0 0,.d (.ptr (p2.enc) 0),.mptr 3 0 0 0,.mptr 2 0 0 0]]]:=lS aH hm
theorem pW {p0:Diagram} {r:Bool} (hm:fC p0=some r):RetN Try.prog 43 [p0.enc] (.bool (r)):=by
 refine .unit (aS qCO Try.func43 Q Try.ntmps43 Q Q (λwX gX=>?_)) Q;unfold fC at hm;refine WN [0] Q Q (RS (cE 0 Q Q Q (SA TK Q (TN (WN [1] Q Q (RS (SA TK Q (SA TK Q (SX Q Q (bS TK Q Q Q) ?_)))))))));refine GE hm λg1 hm=>SX Q Q (bI Q Q Q Q g1) (GE hm λg2 hm=>qEA (f:=D.bool) (x:=false) 1 TK Q Q Q gC Q Q Q Q Q g2 Q (bY 2 Q Q uH Q (kD (f:=D.bool) 2 0 3 4 1 Q Q Q (SA TK Q (TN (WN [1,3] Q Q ?_))))));refine RS (bY 4 Q Q jZ Q (SA TK Q (TN (WN [1,3,4] Q Q (RS (bY 5 Q Q zero78 Q (TN (WN [1,3,4,5] Q Q ?_))))))));refine wR 0 Q Q Q Q Q (RS (SX Q Q (sQ Q) (SA TK Q (TN (WN [1,4,5] Q Q ?_)))));refine aJ hm (λ(x3,b4,c5)=>([(2,.d (.bool (x3)))]:Fr)) (λ(x3,b4,c5)=>([(1,.flat 4 1 (b4.map D.bool)),(2,.box 36 [.msl 1 1 0 b4.length]),(4,.box 3 [.d (.int .i64 c5)])]:List (Nat×Blk))) [2] [] Q (λz6 hm=>?_) (λj hm=>?_)
 ·refine TG (SA TK Q (SA TK Q (SA TK Q (BE hm λr7 hr7 hm=>?_))));obtain⟨r8,r9,r10⟩:=r7;refine bX [2,1,4,5] (λ_=>false) Q Q Q (by decide) Q Q Q Q (mO hr7) Q Q Q ?_;refine SB TK Q (λq11 hq11=>?_);cases q11
  ·replace hm:=JB hq11 hm;iterate 8 (refine SA TK Q ?_)
   refine TN (WT ?_);exact⟨_,[0,1,2,3,4,5],(SJ hm),Q,k0,Q⟩
  replace hm:=JA hq11 hm;refine SA TK Q (SA TK Q (SA TK Q (SX Q Q (bS TK Q Q Q) (GE hm λg12 hm=>SX Q Q (bI Q Q Q Q g12) (SA TK Q (SA TK Q (SA TK Q (TN (WT ?_)))))))));exact⟨_,[0,1,2,3,4,5],(SJ hm),Q,k0,Q⟩
 obtain⟨x3,b4,c5⟩:=j;refine WN [2] Q Q (TR ?_);obtain rfl:=OJ hm;exact EndsS.one _ Q (.d _) (.refl _)
theorem eJ {p0:Node'} {p1:Node} {r0:Int} {r1:Node'} (hm:aR p0 p1=some (r0,r1)):Ret Try.prog 42 [.box 63 [.mmapN 1 p0.index.length,.msl 2 3 0 p0.list.length],.map 51 3 (aI Node.enc (D.int .i64) p0.index),.flat 51 3 (p0.list.map Node.enc)] (λj=>Nat.beq j 1||Nat.beq j 2) [.mptr 0 0 0 0,.d (p1.enc)] (.d (.int .i64 r0)) [.box 63 [.mmapN 1 r1.index.length,.msl 2 3 0 r1.list.length],.map 51 3 (aI Node.enc (D.int .i64) r1.index),.flat 51 3 (r1.list.map Node.enc)]:=by
 refine eV wQ Try.func42 Q Try.ntmps42 Q Q (λwX gX=>?_);unfold aR at hm;refine tY 0 0 1 Q Q Q (λhn=>?_) ?_
 ·replace hm:=zF hn hm;refine WN [0,1] Q Q (RS (cE 3 Q Q Q (SA TK Q (TN (WN [0,3] Q Q (TQ (aM follows  ?_)))))));iterate 5 (refine DA [0,1,2,3] TK Q ?_)
  refine GE hm λg1 hm=>DX [0,1,2,3] Q Q (sB iP iV (D.int .i64) p1 (0:Int) Q mY jZ Q Q Q g1) ?_;iterate 4 (refine DA [0,1,2,3] TK Q ?_)
  refine DT ?_ (by kernel_rfl);refine SA TK Q (TN (WN [0,3,5,6] Q Q (RS (SA TK Q (TN (WN [0,3,5,16] Q Q (TC false Q (λh=>by cases h) (λ_=>TS ?_))))))));refine WT (WN [0,3] Q Q ?_);refine aJ hm (λ_=>([]:Fr)) (λ_=>([(0,.box 63 [.mmap 1,.msl 2 3 0 p0.list.length])]:List (Nat×Blk))) [] [0,3] Q (λz2 hm=>?_) (λj hm=>?_)
  ·refine RS ?_;iterate 4 (refine SA TK Q ?_)
   refine SX Q Q (oJ Q Try.underlying61 Q Q) (TN (WN [0,3,22] Q Q ?_));refine TC true Q (λ_=>?_) (λh=>by cases h);refine TG (SA TK Q (mT (kf:=Node.enc) (f:=(D.int .i64)) 1 51 3 Q Q (λ_=>Q) Q Q (SA TK Q (SA TK Q (SA TK Q (TN (WT ?_)))))));exact⟨_,[0,1,2,3],(SJ hm),Q,(kB Q),Q⟩
  refine WN [0,3] Q Q (aM follows  ?_);iterate 10 (refine DA [0,1,2,3] TK Q ?_)
  refine DT ?_ (by kernel_rfl);refine GE hm λg3 hm=>lZ iP iV (D.int .i64) mY Q Q Q Q g3 (TN (WN [0,3] Q Q (aM follows  ?_)));iterate 6 (refine DA [0,1,2,3] TK Q ?_)
  refine DX [0,1,2,3] Q Q (dY [.tmp 42] TK Q Q aT Q Q Q Q Q) ?_;refine lP 0 37 ?_ ?_ Q (by kernel_rfl) (by kernel_rfl) (by kernel_rfl)
  ·refine GE hm λg4 hm=>eD (f:=Node.enc) ([p1]:List Node) TK Q Q aT Q Q Q Q Q (λ_=>Q) Q dN g4 Q Q (SA TK Q (SA TK Q (SA TK Q (TN (WN [0] Q Q (RS ?_))))));iterate 5 (refine SA TK Q ?_)
   refine GE hm λg5 hm=>SX Q Q (bI Q Q Q Q g5) (SA TK Q (TN (WN [4] Q Q (kL 0 0 1 (eX ([]:List (Node×Int)) p1 (p0.list.length:Int)).length Q Q (TR ?_)))));obtain⟨rfl,rfl⟩:=Prod.mk.inj (Option.some.inj hm);exact⟨_,[0,1,2],res Q,by decide,(kB Q),Q,Q⟩
  refine GE hm λg6 hm=>eD (f:=Node.enc) ([p1]:List Node) TK Q Q aT Q Q Q Q Q (λ_=>Q) Q dN g6 Q Q ?_;iterate 4 (refine SA TK Q ?_)
  refine TN (WN [0] Q Q (RS ?_));iterate 5 (refine SA TK Q ?_)
  refine GE hm λg7 hm=>SX Q Q (bI Q Q Q Q g7) (SA TK Q (TN (WN [4] Q Q (kL 0 0 1 (eX ([]:List (Node×Int)) p1 (p0.list.length:Int)).length Q Q (TR ?_)))));obtain⟨rfl,rfl⟩:=Prod.mk.inj (Option.some.inj hm);exact⟨_,[0,1,2],res Q,by decide,(kB Q),Q,Q⟩
 replace hm:=qEC hm;refine WN [0,1] Q Q (RS (cE 3 Q Q Q (SA TK Q (TN (WN [0,3] Q Q (TQ (aM follows  ?_)))))));iterate 5 (refine DA [0,1,2,3] TK Q ?_)
 refine GE hm λg8 hm=>DX [0,1,2,3] Q Q (qQ iP iV (D.int .i64) _ _ (0:Int) Q mY jZ Q Q Q Q g8) ?_;iterate 4 (refine DA [0,1,2,3] TK Q ?_)
 refine DT ?_ (by kernel_rfl);refine SA TK Q (TN (WN [0,3,5,6] Q Q (RS (SA TK Q (TN (WN [0,3,5,16] Q Q ?_))))));refine TC _ Q (λh9=>?_) (λh9=>?_)
 ·replace hm:=JA h9 hm;refine RS (SA TK Q (SA TK Q (TN (WN [4] Q Q (kL 0 0 1 p0.index.length Q Q (TR (WR ?_)))))));obtain⟨rfl,rfl⟩:=Prod.mk.inj (Option.some.inj hm);exact⟨_,[0,1,2],res Q,by decide,(kB Q),Q,Q⟩
 replace hm:=JB h9 hm;refine TS (WT (WN [0,3] Q Q ?_));refine aJ hm (λ_=>([]:Fr)) (λ_=>([]:List (Nat×Blk))) [] [0,3] Q (λz10 hm=>?_) (λj hm=>?_)
 ·refine RS ?_;iterate 4 (refine SA TK Q ?_)
  refine SX Q Q (oK Q Try.underlying61 Q Q) (TN (WN [0,3,22] Q Q (TC false Q (λh=>by cases h) (λ_=>TS (WT ?_)))));exact⟨_,[0,1,2,3],(SJ hm),Q,(kB Q),Q⟩
 refine WN [0,3] Q Q (aM follows  ?_);iterate 10 (refine DA [0,1,2,3] TK Q ?_)
 refine DT ?_ (by kernel_rfl);refine GE hm λg11 hm=>lZ iP iV (D.int .i64) mY Q Q Q Q g11 (TN (WN [0,3] Q Q (aM follows  ?_)));iterate 6 (refine DA [0,1,2,3] TK Q ?_)
 refine DX [0,1,2,3] Q Q (dY [.tmp 42] TK Q Q aT Q Q Q Q Q) ?_;refine lP 0 37 ?_ ?_ Q (by kernel_rfl) (by kernel_rfl) (by kernel_rfl)
 ·refine GE hm λg12 hm=>eD (f:=Node.enc) ([p1]:List Node) TK Q Q aT Q Q Q Q Q (λ_=>Q) Q dN g12 Q Q (SA TK Q (SA TK Q (SA TK Q (TN (WN [0] Q Q (RS ?_))))));iterate 5 (refine SA TK Q ?_)
  refine GE hm λg13 hm=>SX Q Q (bI Q Q Q Q g13) (SA TK Q (TN (WN [4] Q Q (kL 0 0 1 (eX p0.index p1 (p0.list.length:Int)).length Q Q (TR ?_)))));obtain⟨rfl,rfl⟩:=Prod.mk.inj (Option.some.inj hm);exact⟨_,[0,1,2],res Q,by decide,(kB Q),Q,Q⟩
 refine GE hm λg14 hm=>eD (f:=Node.enc) ([p1]:List Node) TK Q Q aT Q Q Q Q Q (λ_=>Q) Q dN g14 Q Q ?_;iterate 4 (refine SA TK Q ?_)
 refine TN (WN [0] Q Q (RS ?_));iterate 5 (refine SA TK Q ?_)
 refine GE hm λg15 hm=>SX Q Q (bI Q Q Q Q g15) (SA TK Q (TN (WN [4] Q Q (kL 0 0 1 (eX p0.index p1 (p0.list.length:Int)).length Q Q (TR ?_)))));obtain⟨rfl,rfl⟩:=Prod.mk.inj (Option.some.inj hm);exact⟨_,[0,1,2],res Q,by decide,(kB Q),Q,Q⟩
theorem dW {p0:Diagram} {r:Bool} (hm:cO p0=some r):RetN Try.prog 19 [p0.enc] (.bool (r)):=by
 refine .unit (aS qDF Try.func19 Q Try.ntmps19 Q Q (λwX gX=>?_)) Q;unfold cO at hm;refine WN [0] Q Q (RS (cE 0 Q Q Q (SA TK Q (TN (WN [1] Q Q (TQ (RS (SA TK Q (SA TK Q ?_)))))))));refine SX Q Q (bS TK Q Q Q) (SA TK Q (TN (WN [1,9] Q Q ?_)));refine TC _ Q (λh1=>?_) (λh1=>?_)
 ·replace hm:=JT h1 hm;refine RS (SA TK Q (TN (WN [2] Q Q (TR (WR ?_)))));obtain rfl:=OJ hm;exact EndsS.one _ Q (.d _) (.refl _)
 replace hm:=JF h1 hm;refine TS (WT (WN [1] Q Q (RS (bY 1 Q Q zero63 Q (vY (kf:=Node.enc) (f:=(D.int .i64)) 1 0 2 51 3 Q Q Q (kD (f:=Node.enc) 1 1 3 51 3 Q Q Q (TN (WN [1,3] Q Q ?_))))))));refine cZ hm (λ(m2,b3)=>([]:Fr)) (λ(m2,b3)=>([(1,.box 63 [.mmapN 2 m2.length,.msl 3 3 0 b3.length]),(2,.map 51 3 (aI Node.enc (D.int .i64) m2)),(3,.flat 51 3 (b3.map Node.enc))]:List (Nat×Blk))) [] [1] Q (λz4 hm hz4=>?_) (λj hm=>?_)
 ·refine RS (SA TK Q (SA TK Q (SX Q Q (bS TK Q Q Q) (SA TK Q (TN (WN [1,3,11,12,13] Q Q (TB (cB hm (λ(x9,b10,b11)=>([(13,.d (.int .i64 x9))]:Fr)) (λ(x9,b10,b11)=>([(1,.box 63 [.mmapN 2 b10.length,.msl 3 3 0 b11.length]),(2,.map 51 3 (aI Node.enc (D.int .i64) b10)),(3,.flat 51 3 (b11.map Node.enc))]:List (Nat×Blk))) [13] [1,3,11,12] [0,1,2,3] Q k0 Q Q Q Q Q (λs z12 hm hz12=>?_)))))))));obtain⟨x9,b10,b11⟩:=s;refine WN [1,3,11,12,13] Q Q (RS (SA TK Q (TN (WN [1,3,11,12,13,14] Q Q (TQ ?_)))));refine TC _ Q (λh13=>?_) (λh13=>?_)
  ·replace hm:=JT h13 hm;refine TS (WT (WN [1,3,11,12,13] Q Q (TQ (TB (RS (SA TK Q (VE hm λe14 he14 hm=>SX Q Q (dZ TK Q Q Q Q he14) ?_)))))));refine SA TK Q (bY 4 Q Q aT Q (SA TK Q (SA TK Q (TN (WN [1,3,4,5,11,12,13] Q Q (TQ ?_))))));refine aJ hm (λx15=>([(48,.d (.bool (x15)))]:Fr)) (λx15=>([]:List (Nat×Blk))) [48] [1,3,4,5,11,12,13] Q (λz16 hm=>?_) (λx15 hm=>?_)
   ·refine TG (SA TK Q (SA TK Q (SA TK Q (SB TK Q (λq17 hq17=>?_)))));cases q17
    ·replace hm:=JF hq17 hm;iterate 4 (refine SA TK Q ?_)
     refine SB TK Q (λq18 hq18=>?_);cases q18
     ·replace hm:=JF hq18 hm;iterate 6 (refine SA TK Q ?_)
      refine SB TK Q (λq19 hq19=>?_);cases q19
      ·replace hm:=JF hq19 hm;iterate 4 (refine SA TK Q ?_)
       refine BE hm λr20 hr20 hm=>SX Q Q (RN Q Q (SC (.d _) (SC (.d _) (SC (.d _) SN))) (nD hr20)) (SA TK Q (SA TK Q (SB TK Q (λq21 hq21=>?_))));cases q21
       ·replace hm:=JB hq21 hm;iterate 4 (refine SA TK Q ?_)
        refine BE hm λr22 hr22 hm=>SX Q Q (RN Q Q (SC (.d _) (SC (.d _) (SC (.d _) SN))) (nD hr22)) (SA TK Q (SA TK Q (TN (WT ?_))));exact⟨_,[0,1,2,3,4],(SJ hm),Q,k0,Q⟩
       replace hm:=JA hq21 hm;iterate 7 (refine SA TK Q ?_)
       refine TN (WT ?_);exact⟨_,[0,1,2,3,4],(SJ hm),Q,k0,Q⟩
      replace hm:=JT hq19 hm;iterate 15 (refine SA TK Q ?_)
      refine TN (WT ?_);exact⟨_,[0,1,2,3,4],(SJ hm),Q,k0,Q⟩
     replace hm:=JT hq18 hm;iterate 22 (refine SA TK Q ?_)
     refine TN (WT ?_);exact⟨_,[0,1,2,3,4],(SJ hm),Q,k0,Q⟩
    replace hm:=JT hq17 hm;iterate 27 (refine SA TK Q ?_)
    refine TN (WT ?_);exact⟨_,[0,1,2,3,4],(SJ hm),Q,k0,Q⟩
   refine WN [1,3,4,5,11,12,13,48] Q Q ?_;refine TC _ Q (λh23=>?_) (λh23=>?_)
   ·replace hm:=JA h23 hm;refine RS (SA TK Q (TN (WN [2] Q Q (TR (WR (WB (WR (IE hm λv24 hm hz=>?_))))))));rw [hz12 _ hz] at hm;refine WR (WB (IE hm λv25 hm hz=>?_));rw [hz4 _ hz] at hm;refine WR ?_;obtain rfl:=OJ hm;exact EndsS.one _ Q (.d _) (.refl _)
   replace hm:=JB h23 hm;refine TS (WT (WN [1,3,4,5,11,12,13] Q Q (RS (SA TK Q (BE hm λr26 hr26 hm=>?_)))));obtain⟨r27,r28⟩:=r26;refine bX [1,2,3] (λj=>Nat.beq j 1||Nat.beq j 2) Q Q Q (by decide) Q Q Q Q (eJ hr26) Q Q Q ?_;refine SA TK Q (SA TK Q (TN (WN [1,3,11,12,13,52] Q Q ?_)));refine TC _ Q (λh29=>?_) (λh29=>?_)
   ·replace hm:=iW h29 hm;refine RS (SA TK Q (TN (WN [2] Q Q (TR (WB (WR (IE hm λv30 hm hz=>?_)))))));rw [hz12 _ hz] at hm;refine WR (WB (IE hm λv31 hm hz=>?_));rw [hz4 _ hz] at hm;refine WR ?_;obtain rfl:=OJ hm;exact EndsS.one _ Q (.d _) (.refl _)
   replace hm:=iX h29 hm;refine TS (WK (WT (WN [1,3,11,12,13] Q Q (TG (GE hm λg32 hm=>SX Q Q (bI Q Q Q Q g32) (SA TK Q (TN ?_)))))));refine WT ?_;exact⟨_,[0,1,2,3],(SJ hm),Q,k0,Q⟩
  replace hm:=JF h13 hm;refine bB (WX (IE hm λv33 hm hz=>?_));rw [hz12 _ hz] at hm;refine WX (WH (WT ?_));exact⟨_,[0,1,2,3],(SJ hm),Q,k0,Q⟩
 obtain⟨m2,b3⟩:=j;refine WN [1] Q Q (TQ (RS (SA TK Q (SA TK Q (SX Q Q (bS TK Q Q Q) (SA TK Q (TN (WN [1,57] Q Q ?_))))))));refine TC _ Q (λh34=>?_) (λh34=>?_)
 ·replace hm:=JT h34 hm;refine iH [(2,.d (.bool (((decide (p0.root=(0:Int)))||(decide (p0.root=(1:Int)))))))] [2] [] Q ?_ ?_
  ·refine TG (SA TK Q (SA TK Q (SA TK Q (SB TK Q (λq35 hq35=>?_)))));cases q35
   ·iterate 5 (refine SA TK Q ?_)
    refine TN (WT ?_);exact⟨[0,1,2,3],Q,k0,cQ (bF (bG (by simp [hq35])) Q) Q⟩
   iterate 5 (refine SA TK Q ?_)
   refine TN (WT ?_);exact⟨[0,1,2,3],Q,k0,cQ (bF (bG (by simp [hq35])) Q) Q⟩
  refine WN [2] Q Q (TR (WR ?_));obtain rfl:=OJ hm;exact EndsS.one _ Q (.d _) (.refl _)
 replace hm:=JF h34 hm;refine TS (WT (WN [1] Q Q ?_));refine aJ hm (λx36=>([(2,.d (.bool (x36)))]:Fr)) (λx36=>([]:List (Nat×Blk))) [2] [] Q (λz37 hm=>?_) (λx36 hm=>?_)
 ·refine TG ?_;iterate 4 (refine SA TK Q ?_)
  refine SX Q Q (bS TK Q Q Q) (GE hm λg38 hm=>SX Q Q (bI Q Q Q Q g38) (SA TK Q (SB TK Q (λq39 hq39=>?_))));cases q39
  ·replace hm:=JF hq39 hm;iterate 4 (refine SA TK Q ?_)
   refine TN (WT ?_);exact⟨_,[0,1,2,3],(SJ hm),Q,k0,Q⟩
  replace hm:=JT hq39 hm;refine SA TK Q (BE hm λr40 hr40 hm=>SX Q Q (RN Q Q (SC (.d _) SN) (pW hr40)) (SA TK Q (SA TK Q (TN (WT ?_)))));exact⟨_,[0,1,2,3],(SJ hm),Q,k0,Q⟩
 refine WN [2] Q Q (TR ?_);obtain rfl:=OJ hm;exact EndsS.one _ Q (.d _) (.refl _)
theorem nE {p0:Diagram} {p1:Int} {r:Bool} (hm:jR p0 p1=some r):RetN Try.prog 38 [p0.enc,.int .i64 p1] (.bool (r)):=by
 refine .unit (aS qCR Try.func38 Q Try.ntmps38 Q Q (λwX gX=>?_)) Q;unfold jR at hm;refine WN [0,1] Q Q (RS (cE 0 Q Q Q (SA TK Q (TN (WN [1,2] Q Q ?_)))));refine cZ hm (λ_=>([]:Fr)) (λ_=>([]:List (Nat×Blk))) [] [] Q (λz1 hm hz1=>?_) (λj hm=>?_)
 ·refine RS (SA TK Q (SA TK Q (SX Q Q (bS TK Q Q Q) (SA TK Q (TN (WN [1,8,9,10] Q Q (TB (cB hm (λx3=>([(10,.d (.int .i64 x3))]:Fr)) (λx3=>([]:List (Nat×Blk))) [10] [1,8,9] [0] Q k0 Q Q Q Q Q (λx3 z4 hm hz4=>WN [1,8,9,10] Q Q ?_)))))))));refine RS (SA TK Q (TN (WN [1,8,9,10,11] Q Q (TQ ?_))));refine TC _ Q (λh5=>?_) (λh5=>?_)
  ·replace hm:=JT h5 hm;refine TS (WT (WN [1,8,9,10] Q Q (TQ (TB (RS (VE hm λe6 he6 hm=>SX Q Q (dZ TK Q Q Q Q he6) (SA TK Q ?_)))))));refine bY 1 Q Q aT Q (SA TK Q (TN (WN [1,6,8,9,10] Q Q (RS ?_))));iterate 4 (refine SA TK Q ?_)
   refine TN (WN [1,8,9,10,17] Q Q ?_);refine TC _ Q (λh7=>?_) (λh7=>?_)
   ·replace hm:=JT h7 hm;refine RS (SA TK Q (TN (WN [4] Q Q (TR (WB (WR (IE hm λv8 hm hz=>?_)))))));rw [hz4 _ hz] at hm;refine WR (WB (IE hm λv9 hm hz=>?_));rw [hz1 _ hz] at hm;refine WR ?_;obtain rfl:=OJ hm;exact EndsS.one _ Q (.d _) (.refl _)
   replace hm:=JF h7 hm;refine TS (WK (WT (WN [1,8,9,10] Q Q (TG (GE hm λg10 hm=>SX Q Q (bI Q Q Q Q g10) (SA TK Q (TN ?_)))))));refine WT ?_;exact⟨_,[0],(SJ hm),Q,k0,Q⟩
  replace hm:=JF h5 hm;refine bB (WX (IE hm λv11 hm hz=>?_));rw [hz4 _ hz] at hm;refine WX (WH (WT ?_));exact⟨_,[0],(SJ hm),Q,k0,Q⟩
 refine WN [] Q Q (RS (SA TK Q (TN (WN [4] Q Q (TR ?_)))));obtain rfl:=OJ hm;exact EndsS.one _ Q (.d _) (.refl _)
theorem fY {p0:Int} {p1:Int} {p2:Diagram} {r:Int} (hm:eI p0 p1 p2=some r):RetN Try.prog 40 [.int .i64 p0,.ptr (.agg [.int .i64 p1]) 0,.ptr (p2.enc) 0] (.int .i64 r):=by
 refine .unit (aS qCQ Try.func40 Q Try.ntmps40 Q Q (λwX gX=>?_)) Q;unfold eI at hm;refine WN [0,1,2] Q Q (RS (SA TK Q (TN (WN [0,1,2] Q Q (TQ (RS (SA TK Q (SA TK Q (TN ?_)))))))));refine WN [0,1,2,6] Q Q ?_;refine TC _ Q (λh1=>?_) (λh1=>?_)
 ·replace hm:=JT h1 hm;refine RS (SA TK Q (SA TK Q (TN (WN [4] Q Q (TR (WR ?_))))));obtain rfl:=OJ hm;exact EndsS.one _ Q (.d _) (.refl _)
 replace hm:=JF h1 hm;refine TS (WT (WN [0,2] Q Q (RS (SA TK Q (SA TK Q (SA TK Q (GE hm λg2 hm=>SX Q Q (bI Q Q Q Q g2) (VE hm λe3 he3 hm=>SX Q Q (dZ TK Q Q Q Q he3) ?_))))))));refine SA TK Q (SA TK Q (SA TK Q (TN (WN [4] Q Q (TR ?_)))));obtain rfl:=OJ hm;exact EndsS.one _ Q (.d _) (.refl _)
theorem uC {p0:Diagram} {p1:Int} {r0:Int} {r1:Int} (hm:mQ p0 p1=some (r0,r1)):RetT Try.prog 17 [p0.enc,.int .i64 p1] [.int .u64 r0,.int .i64 r1]:=by
 refine .of (mv:=λ_=>false) (cH qDG Try.func17 Q Try.ntmps17 Q Q (λwX gX=>?_));unfold mQ at hm;refine WN [0,1] Q Q (RS (cE 0 Q Q Q (cE 1 Q Q Q (SA TK Q (SA TK Q (TN (WN [2,3] Q Q (TQ ?_))))))));refine iH [(17,.d (.bool (((decide (p1 < (0:Int)))||(decide ((62:Int) < p1))))))] [17] [2,3] Q ?_ ?_
 ·refine TG (SA TK Q (SA TK Q (SB TK Q (λq1 hq1=>?_))));cases q1
  ·refine SA TK Q (SA TK Q (SA TK Q (TN (WT ?_))));exact⟨[0,1],Q,k0,cQ (bF (bG (by simp [hq1])) Q) Q⟩
  refine SA TK Q (SA TK Q (SA TK Q (TN (WT ?_))));exact⟨[0,1],Q,k0,cQ (bF (bG (by simp [hq1])) Q) Q⟩
 refine WN [2,3,17] Q Q ?_;refine TC _ Q (λh2=>?_) (λh2=>?_)
 ·replace hm:=JA h2 hm;refine RS (SA TK Q (SA TK Q (TN (WN [4,5] Q Q (TR (WR ?_))))));obtain⟨rfl,rfl⟩:=Prod.mk.inj (Option.some.inj hm);exact EndsT.two Q (.d _) (.refl _) (.d _) (.refl _)
 replace hm:=JB h2 hm;refine TS (WT (WN [2,3] Q Q (TQ ?_)));refine aJ hm (λx3=>([(26,.d (.bool (x3)))]:Fr)) (λx3=>([]:List (Nat×Blk))) [26] [2,3] Q (λz4 hm=>?_) (λx3 hm=>?_)
 ·refine TG (SA TK Q (BE hm λr5 hr5 hm=>SX Q Q (RN Q Q (SC (.d _) SN) (dW hr5)) (SA TK Q (SB TK Q (λq6 hq6=>?_)))));cases q6
  ·replace hm:=JB hq6 hm;refine SA TK Q (SA TK Q (BE hm λr7 hr7 hm=>SX Q Q (RN Q Q (SC (.d _) (SC (.d _) SN)) (nE hr7)) (SA TK Q (SA TK Q (TN (WT ?_))))));exact⟨_,[0,1],(SJ hm),Q,k0,Q⟩
  replace hm:=JA hq6 hm;iterate 5 (refine SA TK Q ?_)
  refine TN (WT ?_);exact⟨_,[0,1],(SJ hm),Q,k0,Q⟩
 refine WN [2,3,26] Q Q ?_;refine TC _ Q (λh8=>?_) (λh8=>?_)
 ·replace hm:=JA h8 hm;refine RS (SA TK Q (SA TK Q (TN (WN [4,5] Q Q (TR (WR ?_))))));obtain⟨rfl,rfl⟩:=Prod.mk.inj (Option.some.inj hm);exact EndsT.two Q (.d _) (.refl _) (.d _) (.refl _)
 replace hm:=JB h8 hm;refine TS (WT (WN [2,3] Q Q (RS (s_litO (f:=(D.int .u64)) 2 [.const (Value.int IntKind.u64 0),.const (Value.int IntKind.u64 1)] ([(0:Int),(1:Int)]:List Int) TK Q Q Q uG Q Q Q Q Q (SA TK Q (TN (WN [2,3,6] Q Q (wR 1 Q Q Q Q Q ?_))))))));refine wR 0 Q Q Q Q Q (RS (SA TK Q (SA TK Q (TN (WN [2,6,7] Q Q ?_)))));refine aJ hm (λb9=>([(6,.msl 2 1 0 b9.length)]:Fr)) (λb9=>([(2,.flat 39 1 (b9.map (D.int .u64)))]:List (Nat×Blk))) [6] [2,7] Q (λz10 hm=>?_) (λb9 hm=>?_)
 ·refine RS (SA TK Q (SA TK Q (SX Q Q (bS TK Q Q Q) (SA TK Q (TN (WN [2,6,7,30,31,32] Q Q (TB (cB hm (λ(x14,b15)=>([(6,.msl 2 1 0 b15.length),(32,.d (.int .i64 x14))]:Fr)) (λ(x14,b15)=>([(2,.flat 39 1 (b15.map (D.int .u64)))]:List (Nat×Blk))) [6,32] [2,7,30,31] [0,1,2] Q k0 Q Q Q Q Q (λs z16 hm hz16=>?_)))))))));obtain⟨x14,b15⟩:=s;refine WN [2,6,7,30,31,32] Q Q (RS (SA TK Q (TN (WN [2,6,7,30,31,32,33] Q Q (TQ ?_)))));refine TC _ Q (λh17=>?_) (λh17=>?_)
  ·replace hm:=JT h17 hm;refine TS (WT (WN [2,6,7,30,31,32] Q Q (TQ (TB (RS (VE hm λe18 he18 hm=>SX Q Q (dZ TK Q Q Q Q he18) (SA TK Q ?_)))))));refine bY 3 Q Q aT Q (SA TK Q (TN (WN [2,6,7,9,30,31,32] Q Q (aM follows  ?_))));iterate 3 (refine DA [0,1,2,3] TK Q ?_)
   refine VE hm λe19 he19 hm=>DX [0,1,2,3] Q Q (kX TK Q Q Q Q he19 Q) (DX [0,1,2,3] Q Q (nY TK Q Q Q Q he19.2 Q) ?_);iterate 3 (refine DA [0,1,2,3] TK Q ?_)
   refine BE hm λr20 hr20 hm=>DX [0,1,2,3] Q Q (oM (ds:=[.int .i64 e18.lo]) Q Q Q Q ((fY hr20).retD)) ?_;iterate 2 (refine DA [0,1,2,3] TK Q ?_)
   refine GE hm λg21 hm=>DX [0,1,2,3] Q Q (bI Q Q Q Q g21) (GE hm λg22 hm=>DX [0,1,2,3] Q Q (bI Q Q Q Q g22) (GE hm λg23 hm=>DX [0,1,2,3] Q Q (sA Q Q Q Q g23) ?_));refine DT ?_ (by kernel_rfl);refine SA TK Q (TN (WN [2,6,7,9,10,30,31,32] Q Q (aM follows  ?_)));iterate 3 (refine DA [0,1,2,3] TK Q ?_)
   refine VE hm λe24 he24 hm=>DX [0,1,2,3] Q Q (kX TK Q Q Q Q he24 Q) (DX [0,1,2,3] Q Q (nY TK Q Q Q Q he24.2 Q) ?_);iterate 3 (refine DA [0,1,2,3] TK Q ?_)
   refine BE hm λr25 hr25 hm=>DX [0,1,2,3] Q Q (oM (ds:=[.int .i64 e18.hi]) Q Q Q Q ((fY hr25).retD)) ?_;iterate 2 (refine DA [0,1,2,3] TK Q ?_)
   refine GE hm λg26 hm=>DX [0,1,2,3] Q Q (bI Q Q Q Q g26) (GE hm λg27 hm=>DX [0,1,2,3] Q Q (bI Q Q Q Q g27) (GE hm λg28 hm=>DX [0,1,2,3] Q Q (sA Q Q Q Q g28) ?_));refine DT ?_ (by kernel_rfl);refine SA TK Q (TN (WN [2,6,7,10,11,30,31,32] Q Q (TG (SA TK Q (SA TK Q (SA TK Q (SX Q Q (sC Q Q Q Q) (SX Q Q (dY [.tmp 67] TK Q Q uG Q Q Q Q Q) (GE hm λg29 hm=>eD (f:=(D.int .u64)) ([(IntKind.u64.wrap ((IntKind.u64.wrap (e19 * (2 ^ (min ((r20 - e18.var) - (1:Int)).toNat IntKind.u64.bits))))+(IntKind.u64.wrap (e24 * (2 ^ (min ((r25 - e18.var) - (1:Int)).toNat IntKind.u64.bits))))))]:List Int) TK Q Q uG Q Q Q Q Q (λh=>absurd h (zQV _)) Q dN g29 Q Q ?_)))))))));refine SA TK Q (TN (WK (WT (WN [2,6,7,30,31,32] Q Q (TG (GE hm λg30 hm=>SX Q Q (bI Q Q Q Q g30) (SA TK Q ?_)))))));refine TN (WT ?_);exact⟨_,[0,1,2],(SJ hm),Q,k0,Q⟩
  replace hm:=JF h17 hm;refine bB (WX (IE hm λv31 hm hz=>?_));rw [hz16 _ hz] at hm;refine WX (WH (WT ?_));exact⟨_,[0,1,2],(SJ hm),Q,k0,Q⟩
 refine WN [2,6,7] Q Q (aM follows  ?_);iterate 3 (refine DA [0,1,2] TK Q ?_)
 refine VE hm λe32 he32 hm=>DX [0,1,2] Q Q (kX TK Q Q Q Q he32 Q) (DX [0,1,2] Q Q (nY TK Q Q Q Q he32.2 Q) ?_);iterate 3 (refine DA [0,1,2] TK Q ?_)
 refine BE hm λr33 hr33 hm=>DX [0,1,2] Q Q (oM (ds:=[.int .i64 p0.root]) Q Q Q Q ((fY hr33).retD)) (GE hm λg34 hm=>DX [0,1,2] Q Q (sA Q Q Q Q g34) ?_);refine DT ?_ (by kernel_rfl);refine SA TK Q (SA TK Q (TN (WN [4,5] Q Q (TR ?_))));obtain⟨rfl,rfl⟩:=Prod.mk.inj (Option.some.inj hm);exact EndsT.two Q (.d _) (.refl _) (.d _) (.refl _)
theorem uB {p0:Diagram} {p1:Int} {r0:(List Bool)} {r1:Bool} (hm:mP p0 p1=some (r0,r1)):RetT Try.prog 15 [p0.enc,.int .i64 p1] [.sl 1 (r0.map D.bool),.bool (r1)]:=by
 refine .of (mv:=λ_=>false) (cH qDH Try.func15 Q Try.ntmps15 Q Q (λwX gX=>?_));unfold mP at hm;refine WN [0,1] Q Q (RS (cE 0 Q Q Q (SA TK Q (SA TK Q (TN (WN [1,2] Q Q (TQ ?_)))))));refine aJ hm (λx1=>([(30,.d (.bool (x1)))]:Fr)) (λx1=>([]:List (Nat×Blk))) [30] [1,2] Q (λz2 hm=>?_) (λx1 hm=>?_)
 ·refine TG (SA TK Q (SA TK Q (SB TK Q (λq3 hq3=>?_))));cases q3
  ·replace hm:=JF hq3 hm;refine SA TK Q (SA TK Q (SA TK Q (SB TK Q (λq4 hq4=>?_))));cases q4
   ·replace hm:=JF hq4 hm;refine SA TK Q (BE hm λr5 hr5 hm=>SX Q Q (RN Q Q (SC (.d _) SN) (dW hr5)) (SA TK Q (SA TK Q (SB TK Q (λq6 hq6=>?_)))));cases q6
    ·replace hm:=JB hq6 hm;refine SA TK Q (SA TK Q (BE hm λr7 hr7 hm=>SX Q Q (RN Q Q (SC (.d _) (SC (.d _) SN)) (nE hr7)) (SA TK Q (SA TK Q (SB TK Q (λq8 hq8=>?_))))));cases q8
     ·replace hm:=JB hq8 hm;iterate 4 (refine SA TK Q ?_)
      refine TN (WT ?_);exact⟨_,[0],(SJ hm),Q,k0,Q⟩
     replace hm:=JA hq8 hm;iterate 4 (refine SA TK Q ?_)
     refine TN (WT ?_);exact⟨_,[0],(SJ hm),Q,k0,Q⟩
    replace hm:=JA hq6 hm;iterate 10 (refine SA TK Q ?_)
    refine TN (WT ?_);exact⟨_,[0],(SJ hm),Q,k0,Q⟩
   replace hm:=JT hq4 hm;iterate 15 (refine SA TK Q ?_)
   refine TN (WT ?_);exact⟨_,[0],(SJ hm),Q,k0,Q⟩
  replace hm:=JT hq3 hm;iterate 19 (refine SA TK Q ?_)
  refine TN (WT ?_);exact⟨_,[0],(SJ hm),Q,k0,Q⟩
 refine WN [1,2,30] Q Q ?_;refine TC _ Q (λh9=>?_) (λh9=>?_)
 ·replace hm:=JA h9 hm;refine RS (SA TK Q (SA TK Q (TN (c_wk 4 [some 1] Q (WN [4,5] Q Q (TR (WR ?_)))))));obtain⟨rfl,rfl⟩:=Prod.mk.inj (Option.some.inj hm);exact EndsT.two Q (.d _) (.refl _) (.d _) (.refl _)
 replace hm:=JB h9 hm;refine TS (WT (WN [1,2] Q Q (RS (SA TK Q (GE hm λg10 hm=>qEA (f:=D.bool) (x:=false) 1 TK Q Q Q gC Q Q Q Q Q g10 Q (SA TK Q (TN ?_)))))));refine WN [2,6] Q Q (RS (SA TK Q (SA TK Q (SA TK Q (TN (WN [2,6,7] Q Q ?_))))));refine aJ hm (λb11=>([(6,.msl 1 1 0 b11.length)]:Fr)) (λb11=>([(1,.flat 4 1 (b11.map D.bool))]:List (Nat×Blk))) [6] [] Q (λz12 hm=>?_) (λb11 hm=>?_)
 ·refine TB (cB hm (λ(at16,b17)=>([(6,.msl 1 1 0 b17.length),(7,.d (.int .i64 at16))]:Fr)) (λ(at16,b17)=>([(1,.flat 4 1 (b17.map D.bool))]:List (Nat×Blk))) [6,7] [2] [0,1] Q k0 Q Q Q Q Q (λs z18 hm hz18=>?_));obtain⟨at16,b17⟩:=s;refine WN [2,6,7] Q Q (TQ (RS (SA TK Q (SA TK Q (TN (WN [2,6,7,36] Q Q ?_))))));refine TC _ Q (λh19=>?_) (λh19=>?_)
  ·replace hm:=JT h19 hm;refine TS (WT (WN [2,6,7] Q Q (TB (RS (SA TK Q (SA TK Q (SA TK Q (GE hm λg20 hm=>SX Q Q (bI Q Q Q Q g20) (VE hm λe21 he21 hm=>?_)))))))));refine SX Q Q (dZ TK Q Q Q Q he21) (SA TK Q (bY 2 Q Q aT Q (SA TK Q (TN (WN [2,6,8] Q Q (RS (SA TK Q (SA TK Q (SA TK Q (TN ?_))))))))));refine WN [2,6,8,45] Q Q ?_;refine TC _ Q (λh22=>?_) (λh22=>?_)
   ·replace hm:=iW h22 hm;refine TG (SA TK Q (SA TK Q (SA TK Q (TN (WK (WT ?_))))));exact⟨_,[0,1],(SJ hm),Q,k0,Q⟩
   replace hm:=iX h22 hm;refine RS (SA TK Q (SA TK Q (SA TK Q (VE hm λe23 he23 hm=>SX Q Q (kX TK Q Q Q Q he23 Q) (qDZ (x':=true) TK Q Q Q Q Q he23.2 Q Q Q (yO 6 (b17.set e21.var.toNat true).length Q List.length_set.symm (yO 48 (b17.set e21.var.toNat true).length Q List.length_set.symm (TN (WN [2,6,8] Q Q ?_)))))))));refine TG (SA TK Q (SA TK Q (SA TK Q (TN (WK (WT ?_))))));exact⟨_,[0,1],(SJ hm),Q,k0,Q⟩
  replace hm:=JF h19 hm;refine bB (WX (IE hm λv24 hm hz=>?_));rw [hz18 _ hz] at hm;refine WX (WH (WT ?_));exact⟨_,[0,1],(SJ hm),Q,k0,Q⟩
 refine WN [6] Q Q (RS (SA TK Q (SA TK Q (SA TK Q (TN (WN [4,5] Q Q (TR ?_)))))));obtain⟨rfl,rfl⟩:=Prod.mk.inj (Option.some.inj hm);exact EndsT.two Q (iO Q) (.refl _) (.d _) (.refl _)
theorem fG {p0:Diagram} {p1:Diagram} {r:Bool} (hm:bJ p0 p1=some r):RetN Try.prog 13 [p0.enc,p1.enc] (.bool (r)):=by
 refine .unit (aS qDJ Try.func13 Q Try.ntmps13 Q Q (λwX gX=>?_)) Q;unfold bJ at hm;refine WN [0,1] Q Q (RS (cE 0 Q Q Q (cE 1 Q Q Q (SA TK Q (TN (WN [2,3] Q Q (TQ ?_)))))));refine iH [(19,.d (.bool (((!(decide ((p0.nodes.length:Int)=(p1.nodes.length:Int))))||(!(decide (p0.root=p1.root)))))))] [19] [2,3] Q ?_ ?_
 ·refine TG (SA TK Q (SA TK Q (SX Q Q (bS TK Q Q Q) (SA TK Q (SA TK Q (SX Q Q (bS TK Q Q Q) (SA TK Q (SB TK Q (λq1 hq1=>?_)))))))));cases q1
  ·iterate 6 (refine SA TK Q ?_)
   refine TN (WT ?_);exact⟨[0,1],Q,k0,cQ (bF (bG (by simp [hq1])) Q) Q⟩
  iterate 6 (refine SA TK Q ?_)
  refine TN (WT ?_);exact⟨[0,1],Q,k0,cQ (bF (bG (by simp [hq1])) Q) Q⟩
 refine WN [2,3,19] Q Q ?_;refine TC _ Q (λh2=>?_) (λh2=>?_)
 ·replace hm:=JA h2 hm;refine RS (SA TK Q (TN (WN [4] Q Q (TR (WR ?_)))));obtain rfl:=OJ hm;exact EndsS.one _ Q (.d _) (.refl _)
 replace hm:=JB h2 hm;refine TS (WT (WN [2,3] Q Q ?_));refine cZ hm (λ_=>([]:Fr)) (λ_=>([]:List (Nat×Blk))) [] [] Q (λz3 hm hz3=>?_) (λj hm=>?_)
 ·refine RS (SA TK Q (SA TK Q (SX Q Q (bS TK Q Q Q) (SA TK Q (TN (WN [2,3,22,23] Q Q (TB (cB hm (λx5=>([(23,.d (.int .i64 x5))]:Fr)) (λx5=>([]:List (Nat×Blk))) [23] [2,3,22] [0,1] Q k0 Q Q Q Q Q (λx5 z6 hm hz6=>WN [2,3,22,23] Q Q ?_)))))))));refine RS (SA TK Q (TN (WN [2,3,22,23,24] Q Q (TQ ?_))));refine TC _ Q (λh7=>?_) (λh7=>?_)
  ·replace hm:=JT h7 hm;refine TS (WT (WN [2,3,22,23] Q Q (TQ (TB (RS (SA TK Q (SA TK Q (TN (WN [2,3,5,22,23] Q Q ?_)))))))));refine aM follows  ?_;iterate 3 (refine DA [0,1] TK Q ?_)
   refine VE hm λe8 he8 hm=>DX [0,1] Q Q (dZ TK Q Q Q Q he8) ?_;iterate 4 (refine DA [0,1] TK Q ?_)
   refine VE hm λe9 he9 hm=>DX [0,1] Q Q (dZ TK Q Q Q Q he9) (DA [0,1] TK Q (GE hm λg10 hm=>DX [0,1] Q Q (qDV Q Q Q g10.1 g10.2) ?_));refine DT ?_ (by kernel_rfl);refine TN (WN [2,3,22,23,36] Q Q ?_);refine TC _ Q (λh12=>?_) (λh12=>?_)
   ·replace hm:=iW h12 hm;refine RS (SA TK Q (TN (WN [4] Q Q (TR (WB (WR (IE hm λv13 hm hz=>?_)))))));rw [hz6 _ hz] at hm;refine WR (WB (IE hm λv14 hm hz=>?_));rw [hz3 _ hz] at hm;refine WR ?_;obtain rfl:=OJ hm;exact EndsS.one _ Q (.d _) (.refl _)
   replace hm:=iX h12 hm;refine TS (WK (WT (WN [2,3,22,23] Q Q (TG (GE hm λg15 hm=>SX Q Q (bI Q Q Q Q g15) (SA TK Q (TN ?_)))))));refine WT ?_;exact⟨_,[0,1],(SJ hm),Q,k0,Q⟩
  replace hm:=JF h7 hm;refine bB (WX (IE hm λv16 hm hz=>?_));rw [hz6 _ hz] at hm;refine WX (WH (WT ?_));exact⟨_,[0,1],(SJ hm),Q,k0,Q⟩
 refine WN [] Q Q (RS (SA TK Q (TN (WN [4] Q Q (TR ?_)))));obtain rfl:=OJ hm;exact EndsS.one _ Q (.d _) (.refl _)
theorem kH  {r:Bool} (hm:fA=some r):RetN Try.prog 10 [] (.bool (r)):=by
 refine .unit (aS qDL Try.func10 Q Try.ntmps10 Q Q (λwX gX=>?_)) Q;unfold fA at hm;refine WN [] Q Q (RS (SA TK Q (TN (WN [] Q Q (RS (BE hm λr1 hr1 hm=>SX Q Q (RD Q Q Q (oX hr1)) (BE hm λr2 hr2 hm=>?_)))))));refine SX Q Q (RD Q Q Q (oX hr2)) (SX Q Q (x_litE (f:=Expr.encR) (xs:=([r1,r2]:List Expr)) [.tmp 8,.tmp 9] TK Q Q nX Q (evD_of Q (qK (Expr.encR_eq _) (qK (Expr.encR_eq _) zY))) Q (xM Expr.encR_cells) Q) (SX Q Q (aU Q qEB nX Q Q Q Q) (BE hm λr3 hr3 hm=>?_)));obtain⟨r4,r5⟩:=r3;refine SX Q Q (cF Q Q Q (qAH hr3)) (SA TK Q (SA TK Q (SA TK Q (bY 0 Q Q aK Q (cR 0 [some 3,none] Q Q (SA TK Q (SA TK Q (TN (WN [1,2] Q Q (RS (SA TK Q ?_)))))))))));refine BE hm λr6 hr6 hm=>?_;obtain⟨r7,r8⟩:=r6;refine SX Q Q (cF Q Q Q (uC hr6)) ?_;iterate 5 (refine SA TK Q ?_)
 refine TN (WN [1,2,3,4] Q Q (RS (SA TK Q (BE hm λr9 hr9 hm=>?_))));obtain⟨r10,r11⟩:=r9;refine SX Q Q (cF Q Q Q (uB hr9)) ?_;iterate 5 (refine SA TK Q ?_)
 refine TN (WN [1,2,3,4,5,6] Q Q ?_);refine aJ hm (λx12=>([(0,.d (.bool (x12)))]:Fr)) (λx12=>([]:List (Nat×Blk))) [0] [] Q (λz13 hm=>?_) (λx12 hm=>?_)
 ·refine TG (SA TK Q (SA TK Q (SB TK Q (λq14 hq14=>?_))));cases q14
  ·replace hm:=JF hq14 hm;iterate 38 (refine SA TK Q ?_)
   refine TN (WT ?_);exact⟨_,[0],(SJ hm),Q,k0,Q⟩
  replace hm:=JT hq14 hm;refine SA TK Q (SA TK Q (SA TK Q (SB TK Q (λq15 hq15=>?_))));cases q15
  ·replace hm:=JF hq15 hm;iterate 34 (refine SA TK Q ?_)
   refine TN (WT ?_);exact⟨_,[0],(SJ hm),Q,k0,Q⟩
  replace hm:=JT hq15 hm;refine SA TK Q (SA TK Q (SA TK Q (SB TK Q (λq16 hq16=>?_))));cases q16
  ·replace hm:=JF hq16 hm;iterate 30 (refine SA TK Q ?_)
   refine TN (WT ?_);exact⟨_,[0],(SJ hm),Q,k0,Q⟩
  replace hm:=JT hq16 hm;refine SA TK Q (SA TK Q (SB TK Q (λq17 hq17=>?_)));cases q17
  ·replace hm:=JB hq17 hm;iterate 27 (refine SA TK Q ?_)
   refine TN (WT ?_);exact⟨_,[0],(SJ hm),Q,k0,Q⟩
  replace hm:=JA hq17 hm;refine SA TK Q (SX Q Q (bS TK Q Q Q) (SA TK Q (SA TK Q (SB TK Q (λq18 hq18=>?_)))));cases q18
  ·replace hm:=JF hq18 hm;iterate 22 (refine SA TK Q ?_)
   refine TN (WT ?_);exact⟨_,[0],(SJ hm),Q,k0,Q⟩
  replace hm:=JT hq18 hm;refine SA TK Q (VE hm λe19 he19 hm=>SX Q Q (dZ TK Q Q Q Q he19) (SA TK Q (SA TK Q (SB TK Q (λq20 hq20=>?_)))));cases q20
  ·replace hm:=JB hq20 hm;iterate 17 (refine SA TK Q ?_)
   refine TN (WT ?_);exact⟨_,[0],(SJ hm),Q,k0,Q⟩
  replace hm:=JA hq20 hm;refine SA TK Q (VE hm λe21 he21 hm=>SX Q Q (dZ TK Q Q Q Q he21) (SA TK Q (SA TK Q (SB TK Q (λq22 hq22=>?_)))));cases q22
  ·replace hm:=JB hq22 hm;iterate 12 (refine SA TK Q ?_)
   refine TN (WT ?_);exact⟨_,[0],(SJ hm),Q,k0,Q⟩
  replace hm:=JA hq22 hm;refine SA TK Q (SX Q Q (aU Q qC aT Q Q Q Q) (SX Q Q (aU Q qC aT Q Q Q Q) (SX Q Q (dY [.tmp 55,.tmp 56] TK Q Q aT Q Q Q Q Q) (SX Q Q (aU Q dQ aK Q Q Q Q) (BE hm λr23 hr23 hm=>SX Q Q (RN Q Q (SC (.d _) (SC (.d _) SN)) (fG hr23)) (SA TK Q (SB TK Q (λq24 hq24=>?_))))))));cases q24
  ·replace hm:=JB hq24 hm;iterate 4 (refine SA TK Q ?_)
   refine TN (WT ?_);exact⟨_,[0],(SJ hm),Q,k0,Q⟩
  replace hm:=JA hq24 hm;refine SA TK Q (BE hm λr25 hr25 hm=>SX Q Q (RN Q Q (SC (.d _) SN) (dW hr25)) (SA TK Q (SA TK Q (TN (WT ?_)))));exact⟨_,[0],(SJ hm),Q,k0,Q⟩
 refine WN [0] Q Q (TR ?_);obtain rfl:=OJ hm;exact EndsS.one _ Q (.d _) (.refl _)
theorem gJ {p0:Int} {r:(List (List Bool))} (hm:cT p0=some r):RetD Try.prog 35 [.int .i64 p0] (.sl 1 (r.map (λ(l:List Bool)=>D.sl 1 (l.map D.bool)))):=by
 refine .of (mv:=λ_=>false) (aS qCU Try.func35 Q Try.ntmps35 Q Q (λwX gX=>?_));unfold cT at hm;refine WN [0] Q Q (RS (SA TK Q (TN (WN [0] Q Q (RS (mA (f:=(λ(l:List Bool)=>D.sl 1 (l.map D.bool))) 0 36 1 Q Q Q (TN (WN [0,3] Q Q ?_))))))));refine aJ hm (λb1=>([(3,.msl 0 1 0 b1.length)]:Fr)) (λb1=>([(0,.flat 36 1 (b1.map (λ(l:List Bool)=>D.sl 1 (l.map D.bool))))]:List (Nat×Blk))) [3] [] Q (λz2 hm=>?_) (λb1 hm=>?_)
 ·refine RS (SA TK Q (TN (WN [0,3,4] Q Q (TB (cB hm (λ(k6,b7)=>([(3,.msl 0 1 0 b7.length),(4,.d (.int .i64 k6))]:Fr)) (λ(k6,b7)=>([(0,.flat 36 1 (b7.map (λ(l:List Bool)=>D.sl 1 (l.map D.bool))))]:List (Nat×Blk))) [3,4] [0] [0] Q k0 Q Q Q Q Q (λs z8 hm hz8=>?_))))));obtain⟨k6,b7⟩:=s;refine WN [0,3,4] Q Q (TQ (RS (SA TK Q (SA TK Q (GE hm λg9 hm=>SX Q Q (sA Q Q Q Q g9) (SA TK Q (TN (WN [0,3,4,10] Q Q ?_))))))));refine TC _ Q (λh10=>?_) (λh10=>?_)
  ·replace hm:=JT h10 hm;refine TS (WT (WN [0,3,4] Q Q ?_));refine aJ hm (λb11=>([(3,.msl 0 1 0 b11.length)]:Fr)) (λb11=>([(0,.flat 36 1 (b11.map (λ(l:List Bool)=>D.sl 1 (l.map D.bool))))]:List (Nat×Blk))) [3] [0,4] Q (λz12 hm=>?_) (λb11 hm=>?_)
   ·refine TB (RS (mA (f:=D.bool) 1 4 1 Q Q Q (TN (WN [0,3,4,5] Q Q ?_))));refine aJ hm (λb13=>([(5,.msl 1 1 0 b13.length)]:Fr)) (λb13=>([(1,.flat 4 1 (b13.map D.bool))]:List (Nat×Blk))) [5] [0,3,4] Q (λz14 hm=>?_) (λb13 hm=>?_)
    ·refine RS (SA TK Q (GE hm λg15 hm=>SX Q Q (bI Q Q Q Q g15) (SA TK Q (TN (WN [0,3,4,5,6] Q Q (TB (cB hm (λ(i19,b20)=>([(5,.msl 1 1 0 b20.length),(6,.d (.int .i64 i19))]:Fr)) (λ(i19,b20)=>([(1,.flat 4 1 (b20.map D.bool))]:List (Nat×Blk))) [5,6] [0,3,4] [0,1] Q k0 Q Q Q Q Q (λs z21 hm hz21=>?_))))))));obtain⟨i19,b20⟩:=s;refine WN [0,3,4,5,6] Q Q (TQ (RS (SA TK Q (SA TK Q (TN (WN [0,3,4,5,6,16] Q Q ?_))))));refine TC _ Q (λh22=>?_) (λh22=>?_)
     ·replace hm:=JT h22 hm;refine TS (WT (WN [0,3,4,5,6] Q Q (TQ (TB (TG (SA TK Q (SA TK Q (SA TK Q (GE hm λg23 hm=>SX Q Q (sA Q Q Q Q g23) ?_)))))))));refine SX Q Q (sC Q Q Q Q) (SA TK Q (SX Q Q (dY [.tmp 24] TK Q Q gC Q Q Q Q Q) (GE hm λg24 hm=>eD (f:=D.bool) ([decide ((IntKind.i64.wrap (BitVec.ofInt IntKind.i64.bits (k6.fdiv (2 ^ (min i19.toNat IntKind.i64.bits))) &&& BitVec.ofInt IntKind.i64.bits (1:Int)).toNat)=(1:Int))]:List Bool) TK Q Q gC Q Q Q Q Q (λh=>absurd h (zQV _)) Q dN g24 Q Q (SA TK Q (TN (WK (WT ?_)))))));refine WN [0,3,4,5,6] Q Q (TG (SA TK Q (GE hm λg25 hm=>SX Q Q (bI Q Q Q Q g25) (SA TK Q (TN (WT ?_))))));exact⟨_,[0,1],(SJ hm),Q,k0,Q⟩
     replace hm:=JF h22 hm;refine bB (WX (IE hm λv26 hm hz=>?_));rw [hz21 _ hz] at hm;refine WX (WH (WT ?_));exact⟨_,[0,1],(SJ hm),Q,k0,Q⟩
    refine WN [0,3,4,5] Q Q ?_;refine rV 5 1 [0,3,4] Q Q Q Q Q (by simp) Q Q ?_;refine TG (SA TK Q (SA TK Q (SX Q Q (dY [.tmp 28] TK Q Q uH Q Q Q Q Q) (GE hm λg27 hm=>eD (f:=(λ(l:List Bool)=>D.sl 1 (l.map D.bool))) ([b13]:List (List Bool)) TK Q Q uH Q Q Q Q Q (λh=>absurd h (zQV _)) Q dN g27 Q Q (SA TK Q (TN (WK (WT ?_))))))));exact⟨_,[0],(SJ hm),Q,k0,Q⟩
   refine WN [0,3,4] Q Q (TG (SA TK Q (GE hm λg28 hm=>SX Q Q (bI Q Q Q Q g28) (SA TK Q (TN (WT ?_))))));exact⟨_,[0],(SJ hm),Q,k0,Q⟩
  replace hm:=JF h10 hm;refine bB (WX (IE hm λv29 hm hz=>?_));rw [hz8 _ hz] at hm;refine WX (WH (WT ?_));exact⟨_,[0],(SJ hm),Q,k0,Q⟩
 refine WN [3] Q Q (RS (SA TK Q (SA TK Q (TN (WN [2] Q Q (TR ?_))))));obtain rfl:=OJ hm;exact EndsS.one _ Q (iO Q) (.refl _)
theorem sM {p0:Diagram} {p1:Node} {r0:Int} {r1:Diagram} (hm:gO p0 p1=some (r0,r1)):Ret Try.prog 57 [.box 29 [.msl 1 3 0 p0.nodes.length,.d (.int .i64 p0.root)],.flat 51 3 (p0.nodes.map Node.enc)] (λj=>Nat.beq j 1) [.mptr 0 0 0 0,.d (p1.enc)] (.d (.int .i64 r0)) [.box 29 [.msl 1 3 0 r1.nodes.length,.d (.int .i64 p0.root)],.flat 51 3 (r1.nodes.map Node.enc)]:=by
 refine eV qCC Try.func57 Q Try.ntmps57 Q Q (λwX gX=>?_);unfold gO at hm;refine WN [0,1] Q Q (RS (cE 2 Q Q Q (SA TK Q (TN (WN [0,3] Q Q (TQ (RS ?_)))))));iterate 5 (refine SA TK Q ?_)
 refine TN (WN [0,3,11] Q Q ?_);refine TC _ Q (λh1=>?_) (λh1=>?_)
 ·replace hm:=JT h1 hm;refine RS (SA TK Q (SA TK Q (SA TK Q (TN (WN [4] Q Q (TR (WR ?_)))))));obtain⟨rfl,rfl⟩:=Prod.mk.inj (Option.some.inj hm);exact⟨_,[0,1],res Q,by decide,(kB Q),Q,Q⟩
 replace hm:=JF h1 hm;refine TS (WT (WN [0,3] Q Q ?_));refine cZ hm (λ_=>([]:Fr)) (λ_=>([]:List (Nat×Blk))) [] [0,3] Q (λz2 hm hz2=>?_) (λj hm=>?_)
 ·refine RS ?_;iterate 6 (refine SA TK Q ?_)
  refine TN (WN [0,3,17,18,19] Q Q (TB (cB hm (λx4=>([(19,.d (.int .i64 x4))]:Fr)) (λx4=>([]:List (Nat×Blk))) [19] [0,3,17,18] [0,1,2] Q (kB Q) Q Q Q Q Q (λx4 z5 hm hz5=>WN [0,3,17,18,19] Q Q (RS (SA TK Q (TN (WN [0,3,17,18,19,20] Q Q ?_))))))));refine TQ ?_;refine TC _ Q (λh6=>?_) (λh6=>?_)
  ·replace hm:=JT h6 hm;refine TS (WT (WN [0,3,17,18,19] Q Q (TQ (TB (RS (SA TK Q (VE hm λe7 he7 hm=>SX Q Q (kX TK Q Q Q Q he7 Q) ?_)))))));refine SX Q Q (nY TK Q Q Q Q he7.2 Q) (bY 3 Q Q aT Q (SA TK Q (SA TK Q (TN (WN [0,3,5,6,17,18,19] Q Q (RS (SA TK Q (SA TK Q (GE hm λg8 hm=>SX Q Q (wV Q Q Q g8.1 g8.2) ?_)))))))));refine TN (WN [0,3,5,17,18,19,26] Q Q ?_);refine TC _ Q (λh10=>?_) (λh10=>?_)
   ·replace hm:=JT h10 hm;refine RS (SA TK Q (GE hm λg11 hm=>SX Q Q (bI Q Q Q Q g11) (SA TK Q (TN (WN [4] Q Q (TR (WB ?_)))))));refine WR (IE hm λv12 hm hz=>?_);rw [hz5 _ hz] at hm;refine WR (WB (IE hm λv13 hm hz=>?_));rw [hz2 _ hz] at hm;refine WR ?_;obtain⟨rfl,rfl⟩:=Prod.mk.inj (Option.some.inj hm);exact⟨_,[0,1],res Q,by decide,(kB Q),Q,Q⟩
   replace hm:=JF h10 hm;refine TS (WK (WT (WN [0,3,17,18,19] Q Q (TG (GE hm λg14 hm=>SX Q Q (bI Q Q Q Q g14) (SA TK Q (TN ?_)))))));refine WT ?_;exact⟨_,[0,1,2],(SJ hm),Q,(kB Q),Q⟩
  replace hm:=JF h6 hm;refine bB (WX (IE hm λv15 hm hz=>?_));rw [hz5 _ hz] at hm;refine WX (WH (WT ?_));exact⟨_,[0,1,2],(SJ hm),Q,(kB Q),Q⟩
 refine WN [0,3] Q Q (aM follows  ?_);iterate 6 (refine DA [0,1,2] TK Q ?_)
 refine DX [0,1,2] Q Q (dY [.tmp 35] TK Q Q aT Q Q Q Q Q) ?_;refine lP 0 30 ?_ ?_ Q (by kernel_rfl) (by kernel_rfl) (by kernel_rfl)
 ·refine GE hm λg16 hm=>eD (f:=Node.enc) ([p1]:List Node) TK Q Q aT Q Q Q Q Q (λ_=>Q) Q dN g16 Q Q (SA TK Q (SA TK Q (SA TK Q (TN (WN [0] Q Q (RS ?_))))));iterate 5 (refine SA TK Q ?_)
  refine GE hm λg17 hm=>SX Q Q (bI Q Q Q Q g17) (SA TK Q (TN (WN [4] Q Q (TR ?_))));obtain⟨rfl,rfl⟩:=Prod.mk.inj (Option.some.inj hm);exact⟨_,[0,1],res Q,by decide,(kB Q),Q,Q⟩
 refine GE hm λg18 hm=>eD (f:=Node.enc) ([p1]:List Node) TK Q Q aT Q Q Q Q Q (λ_=>Q) Q dN g18 Q Q ?_;iterate 4 (refine SA TK Q ?_)
 refine TN (WN [0] Q Q (RS ?_));iterate 5 (refine SA TK Q ?_)
 refine GE hm λg19 hm=>SX Q Q (bI Q Q Q Q g19) (SA TK Q (TN (WN [4] Q Q (TR ?_))));obtain⟨rfl,rfl⟩:=Prod.mk.inj (Option.some.inj hm);exact⟨_,[0,1],res Q,by decide,(kB Q),Q,Q⟩
theorem pP:∀ (fu:Nat) {p0:Diagram} {p1:(List Bool)} {p2:Int} {r0:Int} {r1:Diagram} (hm:bQ fu p0 p1 p2=some (r0,r1)),Ret Try.prog 53 [.box 29 [.msl 1 3 0 p0.nodes.length,.d (.int .i64 p0.root)],.flat 51 3 (p0.nodes.map Node.enc)] (λj=>Nat.beq j 1) [.mptr 0 0 0 0,.d (.sl 1 (p1.map D.bool)),.d (.int .i64 p2)] (.d (.int .i64 r0)) [.box 29 [.msl 1 3 0 r1.nodes.length,.d (.int .i64 p0.root)],.flat 51 3 (r1.nodes.map Node.enc)]:=by
 intro fu
 induction fu with
 | zero=>
  intro p0 p1 p2 r0 r1 hm;unfold bQ at hm;cases hm
 | succ fu ih=>
  intro p0 p1 p2 r0 r1 hm;refine eV qCG Try.func53 Q Try.ntmps53 Q Q (λwX gX=>?_);unfold bQ at hm;refine WN [0,1,2] Q Q (RS (SA TK Q (TN (WN [0,1,2] Q Q (TQ (RS (SA TK Q (SX Q Q (bS TK Q Q Q) ?_))))))));refine SA TK Q (TN (WN [0,1,2,12] Q Q ?_));refine TC _ Q (λh1=>?_) (λh1=>?_)
  ·replace hm:=JT h1 hm;refine TQ (RS (SA TK Q (VE hm λe2 he2 hm=>SX Q Q (dZ TK Q Q Q Q he2) (SA TK Q (TN (WN [15] Q Q ?_))))));refine TC _ Q (λh3=>?_) (λh3=>?_)
   ·replace hm:=JA h3 hm;refine RS (SA TK Q (TN (WN [6] Q Q (TR (WR (WR ?_))))));obtain⟨rfl,rfl⟩:=Prod.mk.inj (Option.some.inj hm);exact⟨_,[0,1],res Q,by decide,(kB Q),Q,Q⟩
   replace hm:=JB h3 hm;refine TS (WT (WN [] Q Q (RS (SA TK Q (TN (WN [6] Q Q (TR (WR ?_))))))));obtain⟨rfl,rfl⟩:=Prod.mk.inj (Option.some.inj hm);exact⟨_,[0,1],res Q,by decide,(kB Q),Q,Q⟩
  replace hm:=JF h1 hm;refine TS (WT (WN [0,1,2] Q Q (RS (SA TK Q (SX Q Q (bS TK Q Q Q) (GE hm λg4 hm=>SX Q Q (sC Q Q Q (qDO g4)) (SA TK Q ?_)))))));refine TN (WN [0,1,2,7] Q Q (RS (SA TK Q (SA TK Q (SA TK Q (GE hm λg5 hm=>SX Q Q (qDX TK Q Q Q Q Q g5) (SA TK Q (GE hm λg6 hm=>SX Q Q (bI Q Q Q Q g6) ?_))))))));refine BE hm λr7 hr7 hm=>?_;obtain⟨r8,r9⟩:=r7;refine bX [0,1] (λj=>Nat.beq j 1) Q Q Q (by decide) Q Q Q Q (ih hr7) Q Q Q ?_;refine SA TK Q (TN (WN [0,1,2,7,8] Q Q (RS (SA TK Q (SA TK Q (SA TK Q (GE hm λg10 hm=>SX Q Q (qDX TK Q Q Q Q Q g10) (SA TK Q (GE hm λg11 hm=>?_)))))))));refine SX Q Q (bI Q Q Q Q g11) (BE hm λr12 hr12 hm=>?_);obtain⟨r13,r14⟩:=r12;refine bX [0,1] (λj=>Nat.beq j 1) Q Q Q (by decide) Q Q Q Q (ih hr12) Q Q Q ?_;refine SA TK Q (TN (WN [0,2,8,9] Q Q (RS ?_)));iterate 4 (refine SA TK Q ?_)
  refine SX Q Q (aU Q qC aT Q Q Q Q) (BE hm λr15 hr15 hm=>?_);obtain⟨r16,r17⟩:=r15;refine bX [0,1] (λj=>Nat.beq j 1) Q Q Q (by decide) Q Q Q Q (sM hr15) Q Q Q ?_;refine SA TK Q (TN (WN [6] Q Q (TR ?_)));obtain⟨rfl,rfl⟩:=Prod.mk.inj (Option.some.inj hm);exact⟨_,[0,1],res Q,by decide,(kB Q),Q,Q⟩
theorem qX {p0:Diagram} {p1:(List Bool)} {p2:Int} {r0:Int} {r1:Diagram} (hm:kO p0 p1 p2=some (r0,r1)):Ret Try.prog 53 [.box 29 [.msl 1 3 0 p0.nodes.length,.d (.int .i64 p0.root)],.flat 51 3 (p0.nodes.map Node.enc)] (λj=>Nat.beq j 1) [.mptr 0 0 0 0,.d (.sl 1 (p1.map D.bool)),.d (.int .i64 p2)] (.d (.int .i64 r0)) [.box 29 [.msl 1 3 0 r1.nodes.length,.d (.int .i64 p0.root)],.flat 51 3 (r1.nodes.map Node.enc)]:=pP aH hm
theorem gZ {p0:(List Bool)} {r:Diagram} (hm:dJ p0=some r):RetD Try.prog 36 [.sl 1 (p0.map D.bool)] (r.enc):=by
 refine .of (mv:=λ_=>false) (aS qCT Try.func36 Q Try.ntmps36 Q Q (λwX gX=>?_));unfold dJ at hm;refine WN [0] Q Q (RS (bY 0 Q Q aK Q (kD (f:=Node.enc) 0 0 1 51 3 Q Q Q (TN (WN [0,2] Q Q (RS (SX Q Q (iU Q dQ aK Q Q Q Q) (bY 2 Q Q aK Q ?_))))))));refine kD (f:=Node.enc) 2 0 3 51 3 Q Q Q (SA TK Q (kD (f:=Node.enc) 2 0 4 51 3 Q Q Q (TN (WN [0,2,3] Q Q (RS (SA TK Q (BE hm λr1 hr1 hm=>?_)))))));obtain⟨r2,r3⟩:=r1;refine bX [2,4] (λj=>Nat.beq j 1) Q Q Q (by decide) Q Q Q Q (qX hr1) Q Q Q ?_;refine SA TK Q (SA TK Q (TN (WN [2,3] Q Q (RS (SA TK Q (SA TK Q (TN (WN [2] Q Q (TR ?_)))))))));obtain rfl:=OJ hm;exact EndsS.cellR _ TK Q Q Q Q Q (oD (.cons (iO Q) Q (.cons (.d _) Q .nil)))
theorem cM {p0:Diagram} {r:Int} (hm:bL p0=some r):RetN Try.prog 37 [p0.enc] (.int .i64 r):=by
 refine .unit (aS qCS Try.func37 Q Try.ntmps37 Q Q (λwX gX=>?_)) Q;unfold bL at hm;refine WN [0] Q Q (RS (cE 0 Q Q Q (SA TK Q (TN (WN [1] Q Q (RS (SA TK Q (TN ?_))))))));refine WN [1,3] Q Q ?_;refine aJ hm (λw1=>([(3,.d (.int .i64 w1))]:Fr)) (λw1=>([]:List (Nat×Blk))) [3] [] Q (λz2 hm=>?_) (λw1 hm=>?_)
 ·refine RS (SA TK Q (SA TK Q (SX Q Q (bS TK Q Q Q) (SA TK Q (TN (WN [3,7,8,9] Q Q (TB (cB hm (λ(w5,x6)=>([(3,.d (.int .i64 w5)),(9,.d (.int .i64 x6))]:Fr)) (λ(w5,x6)=>([]:List (Nat×Blk))) [3,9] [7,8] [0] Q k0 Q Q Q Q Q (λs z7 hm hz7=>?_)))))))));obtain⟨w5,x6⟩:=s;refine WN [3,7,8,9] Q Q (RS (SA TK Q (TN (WN [3,7,8,9,10] Q Q (TQ ?_)))));refine TC _ Q (λh8=>?_) (λh8=>?_)
  ·replace hm:=JT h8 hm;refine TS (WT (WN [3,7,8,9] Q Q (TQ (TB (RS (VE hm λe9 he9 hm=>SX Q Q (dZ TK Q Q Q Q he9) (SA TK Q ?_)))))));refine bY 1 Q Q aT Q (SA TK Q (TN (WN [3,5,7,8,9] Q Q (TG (SA TK Q (SA TK Q (SA TK Q (SX Q Q (sC Q Q Q Q) (SX Q Q (uU Q Q Q Q) (SA TK Q ?_))))))))));refine TN (WK (WT (WN [3,7,8,9] Q Q (TG (SX Q Q (sC Q Q Q Q) (SA TK Q (TN (WT ?_))))))));exact⟨_,[0],(SJ hm),Q,k0,Q⟩
  replace hm:=JF h8 hm;refine bB (WX (IE hm λv10 hm hz=>?_));rw [hz7 _ hz] at hm;refine WX (WH (WT ?_));exact⟨_,[0],(SJ hm),Q,k0,Q⟩
 refine WN [3] Q Q (RS (SA TK Q (SA TK Q (TN (WN [2] Q Q (TR ?_))))));obtain rfl:=OJ hm;exact EndsS.one _ Q (.d _) (.refl _)
theorem kG {p0:Diagram} {r:Bool} (hm:dS p0=some r):RetN Try.prog 14 [p0.enc] (.bool (r)):=by
 refine .unit (aS qDI Try.func14 Q Try.ntmps14 Q Q (λwX gX=>?_)) Q;unfold dS at hm;refine WN [0] Q Q (RS (cE 0 Q Q Q (SA TK Q (TN (WN [1] Q Q ?_)))));refine aJ hm (λx1=>([(2,.d (.bool (x1)))]:Fr)) (λx1=>([]:List (Nat×Blk))) [2] [] Q (λz2 hm=>?_) (λx1 hm=>?_)
 ·refine TG (SA TK Q (SA TK Q (SX Q Q (bS TK Q Q Q) (SA TK Q (SB TK Q (λq3 hq3=>?_))))));cases q3
  ·replace hm:=JF hq3 hm;iterate 5 (refine SA TK Q ?_)
   refine TN (WT ?_);exact⟨_,[0],(SJ hm),Q,k0,Q⟩
  replace hm:=JT hq3 hm;refine SA TK Q (BE hm λr4 hr4 hm=>SX Q Q (RN Q Q (SC (.d _) SN) (cM hr4)) (SA TK Q (SA TK Q (SA TK Q (TN (WT ?_))))));exact⟨_,[0],(SJ hm),Q,k0,Q⟩
 refine WN [2] Q Q (TR ?_);obtain rfl:=OJ hm;exact EndsS.one _ Q (.d _) (.refl _)
theorem nH:∀ (fu:Nat) {p0:Diagram} {p1:Int} {p2:(List Int)} {r:(List Int)} (hm:bK fu p0 p1 p2=some r),Ret Try.prog 44 [.flat 3 1 (p2.map (D.int .i64))] (λj=>Nat.beq j 0) [.d (p0.enc),.d (.int .i64 p1),.msl 0 1 0 p2.length] (.msl 0 1 0 r.length) [.flat 3 1 (r.map (D.int .i64))]:=by
 intro fu
 induction fu with
 | zero=>
  intro p0 p1 p2 r hm;unfold bK at hm;cases hm
 | succ fu ih=>
  intro p0 p1 p2 r hm;refine eV qCN Try.func44 Q Try.ntmps44 Q Q (λwX gX=>?_);unfold bK at hm;refine WN [0,1,2] Q Q (RS (cE 1 Q Q Q (mA (f:=(D.int .i64)) 2 3 1 Q Q Q (TN (WN [1,2,3] Q Q (TQ (RS (SA TK Q (SA TK Q ?_)))))))));refine TN (WN [1,2,3,10] Q Q ?_);refine TC _ Q (λh1=>?_) (λh1=>?_)
  ·replace hm:=JT h1 hm;refine RS (SA TK Q (SA TK Q (TN (WN [6] Q Q (TR (WR ?_))))));obtain rfl:=OJ hm;exact⟨_,[0],res Q,by decide,(kB Q),Q,Q⟩
  replace hm:=JF h1 hm;refine TS (WT (WN [1,2,3] Q Q ?_));refine cZ hm (λ_=>([]:Fr)) (λ_=>([]:List (Nat×Blk))) [] [1,2,3] Q (λz2 hm hz2=>?_) (λj hm=>?_)
  ·refine RS (SA TK Q (SA TK Q (SA TK Q (TN (WN [1,2,3,12,13,14] Q Q (TB (cB hm (λx4=>([(14,.d (.int .i64 x4))]:Fr)) (λx4=>([]:List (Nat×Blk))) [14] [1,2,3,12,13] [0,1,2] Q (kB Q) Q Q Q Q Q (λx4 z5 hm hz5=>WN [1,2,3,12,13,14] Q Q (RS (SA TK Q ?_))))))))));refine TN (WN [1,2,3,12,13,14,15] Q Q (TQ ?_));refine TC _ Q (λh6=>?_) (λh6=>?_)
   ·replace hm:=JT h6 hm;refine TS (WT (WN [1,2,3,12,13,14] Q Q (TQ (TB (RS (VE hm λe7 he7 hm=>SX Q Q (kX TK Q Q Q Q he7 Q) (SX Q Q (nY TK Q Q Q Q he7.2 Q) ?_)))))));refine SA TK Q (TN (WN [1,2,3,8,12,13,14] Q Q (RS (SA TK Q (SA TK Q (SA TK Q (TN (WN [1,2,3,12,13,14,20] Q Q ?_))))))));refine TC _ Q (λh8=>?_) (λh8=>?_)
    ·replace hm:=JT h8 hm;refine RS (SA TK Q (SA TK Q (TN (WN [6] Q Q (TR (WB (WR (IE hm λv9 hm hz=>?_))))))));rw [hz5 _ hz] at hm;refine WR (WB (IE hm λv10 hm hz=>?_));rw [hz2 _ hz] at hm;refine WR ?_;obtain rfl:=OJ hm;exact⟨_,[0],res Q,by decide,(kB Q),Q,Q⟩
    replace hm:=JF h8 hm;refine TS (WK (WT (WN [1,2,3,12,13,14] Q Q (TG (GE hm λg11 hm=>SX Q Q (bI Q Q Q Q g11) (SA TK Q (TN ?_)))))));refine WT ?_;exact⟨_,[0,1,2],(SJ hm),Q,(kB Q),Q⟩
   replace hm:=JF h6 hm;refine bB (WX (IE hm λv12 hm hz=>?_));rw [hz5 _ hz] at hm;refine WX (WH (WT ?_));exact⟨_,[0,1,2],(SJ hm),Q,(kB Q),Q⟩
  refine WN [1,2,3] Q Q (aM follows  ?_);iterate 4 (refine DA [0,1,2] TK Q ?_)
  refine GE hm λg13 hm=>DX [0,1,2] Q Q (bI Q Q Q Q g13) (VE hm λe14 he14 hm=>DX [0,1,2] Q Q (dZ TK Q Q Q Q he14) ?_);iterate 3 (refine DA [0,1,2] TK Q ?_)
  refine DT ?_ (by kernel_rfl);refine BE hm λr15 hr15 hm=>?_;refine bX [0] (λj=>Nat.beq j 0) Q Q Q (by decide) Q Q Q Q (ih hr15) Q Q Q ?_;refine SA TK Q (TN (WN [1,2,3] Q Q (aM follows  ?_)));iterate 4 (refine DA [0,1,2] TK Q ?_)
  refine GE hm λg16 hm=>DX [0,1,2] Q Q (bI Q Q Q Q g16) (VE hm λe17 he17 hm=>DX [0,1,2] Q Q (dZ TK Q Q Q Q he17) ?_);iterate 3 (refine DA [0,1,2] TK Q ?_)
  refine DT ?_ (by kernel_rfl);refine BE hm λr18 hr18 hm=>?_;refine bX [0] (λj=>Nat.beq j 0) Q Q Q (by decide) Q Q Q Q (ih hr18) Q Q Q ?_;refine SA TK Q (TN (WN [1,2] Q Q (RS (SA TK Q (SA TK Q (SX Q Q (dY [.tmp 44] TK Q Q jZ Q Q Q Q Q) (GE hm λg19 hm=>eD (f:=(D.int .i64)) ([p1]:List Int) TK Q Q jZ Q Q Q Q Q (λ_=>Q) Q dN g19 Q Q (SA TK Q ?_))))))));refine TN (WN [6] Q Q (TR ?_));obtain rfl:=OJ hm;exact⟨_,[0],res Q,by decide,(kB Q),Q,Q⟩
theorem oI {p0:Diagram} {p1:Int} {p2:(List Int)} {r:(List Int)} (hm:fF p0 p1 p2=some r):Ret Try.prog 44 [.flat 3 1 (p2.map (D.int .i64))] (λj=>Nat.beq j 0) [.d (p0.enc),.d (.int .i64 p1),.msl 0 1 0 p2.length] (.msl 0 1 0 r.length) [.flat 3 1 (r.map (D.int .i64))]:=nH aH hm
theorem dF {p0:Diagram} {r:Bool} (hm:cA p0=some r):RetN Try.prog 20 [p0.enc] (.bool (r)):=by
 refine .unit (aS qDE Try.func20 Q Try.ntmps20 Q Q (λwX gX=>?_)) Q;unfold cA at hm;refine WN [0] Q Q (RS (cE 0 Q Q Q (SA TK Q (TN (WN [1] Q Q (TQ (RS (SA TK Q (SA TK Q ?_)))))))));refine SX Q Q (bS TK Q Q Q) (SA TK Q (TN (WN [1,14] Q Q ?_)));refine TC _ Q (λh1=>?_) (λh1=>?_)
 ·replace hm:=JT h1 hm;refine iH [(2,.d (.bool (((decide (p0.root=(0:Int)))||(decide (p0.root=(1:Int)))))))] [2] [] Q ?_ ?_
  ·refine TG (SA TK Q (SA TK Q (SA TK Q (SB TK Q (λq2 hq2=>?_)))));cases q2
   ·iterate 5 (refine SA TK Q ?_)
    refine TN (WT ?_);exact⟨[0],Q,k0,cQ (bF (bG (by simp [hq2])) Q) Q⟩
   iterate 5 (refine SA TK Q ?_)
   refine TN (WT ?_);exact⟨[0],Q,k0,cQ (bF (bG (by simp [hq2])) Q) Q⟩
  refine WN [2] Q Q (TR (WR ?_));obtain rfl:=OJ hm;exact EndsS.one _ Q (.d _) (.refl _)
 replace hm:=JF h1 hm;refine TS (WT (WN [1] Q Q (TQ ?_)));refine aJ hm (λx3=>([(35,.d (.bool (x3)))]:Fr)) (λx3=>([]:List (Nat×Blk))) [35] [1] Q (λz4 hm=>?_) (λx3 hm=>?_)
 ·refine TG (SA TK Q (SA TK Q (SX Q Q (bS TK Q Q Q) (SA TK Q (SB TK Q (λq5 hq5=>?_))))));cases q5
  ·replace hm:=JF hq5 hm;iterate 4 (refine SA TK Q ?_)
   refine SX Q Q (bS TK Q Q Q) (GE hm λg6 hm=>SX Q Q (bI Q Q Q Q g6) (SA TK Q (SA TK Q (TN (WT ?_)))));exact⟨_,[0],(SJ hm),Q,k0,Q⟩
  replace hm:=JT hq5 hm;iterate 8 (refine SA TK Q ?_)
  refine TN (WT ?_);exact⟨_,[0],(SJ hm),Q,k0,Q⟩
 refine WN [1,35] Q Q ?_;refine TC _ Q (λh7=>?_) (λh7=>?_)
 ·replace hm:=JA h7 hm;refine RS (SA TK Q (TN (WN [2] Q Q (TR (WR ?_)))));obtain rfl:=OJ hm;exact EndsS.one _ Q (.d _) (.refl _)
 replace hm:=JB h7 hm;refine TS (WT (WN [1] Q Q ?_));refine cZ hm (λ_=>([]:Fr)) (λ_=>([]:List (Nat×Blk))) [] [1] Q (λz8 hm hz8=>?_) (λj hm=>?_)
 ·refine RS (SA TK Q (SA TK Q (SX Q Q (bS TK Q Q Q) (SA TK Q (TN (WN [1,37,38,39] Q Q (TB (cB hm (λx10=>([(39,.d (.int .i64 x10))]:Fr)) (λx10=>([]:List (Nat×Blk))) [39] [1,37,38] [0] Q k0 Q Q Q Q Q (λx10 z11 hm hz11=>WN [1,37,38,39] Q Q ?_)))))))));refine RS (SA TK Q (TN (WN [1,37,38,39,40] Q Q (TQ ?_))));refine TC _ Q (λh12=>?_) (λh12=>?_)
  ·replace hm:=JT h12 hm;refine TS (WT (WN [1,37,38,39] Q Q ?_));refine cZ hm (λ_=>([]:Fr)) (λ_=>([]:List (Nat×Blk))) [] [1,37,38,39] Q (λz13 hm hz13=>?_) (λj hm=>?_)
   ·refine TB (RS (SA TK Q (VE hm λe14 he14 hm=>SX Q Q (dZ TK Q Q Q Q he14) (SA TK Q (bY 1 Q Q aT Q (SA TK Q (SA TK Q (TN ?_))))))));refine WN [1,3,4,37,38,39] Q Q (TQ ?_);refine iH [(58,.d (.bool (((decide (e14.var < (0:Int)))||((decide ((63:Int) < e14.var))||(decide (e14.lo=e14.hi)))))))] [58] [1,3,4,37,38,39] Q ?_ ?_
    ·refine TG (SA TK Q (SA TK Q (SA TK Q (SB TK Q (λq15 hq15=>?_)))));cases q15
     ·iterate 4 (refine SA TK Q ?_)
      refine SB TK Q (λq16 hq16=>?_);cases q16
      ·iterate 6 (refine SA TK Q ?_)
       refine TN (WT ?_);exact⟨[0,1],Q,k0,cQ (bF (bG (by simp [hq15,hq16])) Q) Q⟩
      iterate 6 (refine SA TK Q ?_)
      refine TN (WT ?_);exact⟨[0,1],Q,k0,cQ (bF (bG (by simp [hq15,hq16])) Q) Q⟩
     iterate 11 (refine SA TK Q ?_)
     refine TN (WT ?_);exact⟨[0,1],Q,k0,cQ (bF (bG (by simp [hq15])) Q) Q⟩
    refine WN [1,3,4,37,38,39,58] Q Q ?_;refine TC _ Q (λh17=>?_) (λh17=>?_)
    ·replace hm:=JA h17 hm;refine RS (SA TK Q (TN (WN [2] Q Q (TR (WR (WB (IE hm λv18 hm hz=>?_)))))));rw [hz13 _ hz] at hm;refine WR (IE hm λv19 hm hz=>?_);rw [hz11 _ hz] at hm;refine WR (WB (IE hm λv20 hm hz=>?_));rw [hz8 _ hz] at hm;refine WR ?_;obtain rfl:=OJ hm;exact EndsS.one _ Q (.d _) (.refl _)
    replace hm:=JB h17 hm;refine TS (WT (WN [1,3,4,37,38,39] Q Q ?_));refine cZ hm (λ_=>([]:Fr)) (λ_=>([]:List (Nat×Blk))) [] [1,3,4,37,38,39] Q (λz21 hm hz21=>?_) (λj hm=>?_)
    ·refine RS ?_;iterate 4 (refine SA TK Q ?_)
     refine SX Q Q (dY [.tmp 60,.tmp 62] TK Q Q jZ Q Q Q Q Q) (SX Q Q (bS (f:=(D.int .i64)) (xs:=([e14.lo,e14.hi]:List Int)) TK Q Q Q) (SA TK Q (TN (WN [1,3,4,37,38,39,63,64,65] Q Q (TB (cB hm (λx23=>([(65,.d (.int .i64 x23))]:Fr)) (λx23=>([]:List (Nat×Blk))) [65] [1,3,4,37,38,39,63,64] [0,1] Q k0 Q Q Q Q Q (λx23 z24 hm hz24=>WN [1,3,4,37,38,39,63,64,65] Q Q (RS ?_))))))));refine SA TK Q (TN (WN [1,3,4,37,38,39,63,64,65,66] Q Q (TQ ?_)));refine TC _ Q (λh25=>?_) (λh25=>?_)
     ·replace hm:=JT h25 hm;refine TS (WT (WN [1,3,4,37,38,39,63,64,65] Q Q (TQ (TB (RS (VE hm λe26 he26 hm=>SX Q Q (dZ (f:=(D.int .i64)) (xs:=([e14.lo,e14.hi]:List Int)) TK Q Q Q Q he26) (SA TK Q (SA TK Q ?_))))))));refine TN (WN [1,3,4,6,37,38,39,63,64,65] Q Q ?_);refine aJ hm (λx27=>([(92,.d (.bool (x27)))]:Fr)) (λx27=>([]:List (Nat×Blk))) [92] [1,3,4,37,38,39,63,64,65] Q (λz28 hm=>?_) (λx27 hm=>?_)
      ·refine iK follows  ?_;iterate 2 (refine DA [0,1] TK Q ?_)
       refine d_b [0,1] TK Q (λq29 hq29=>?_);cases q29
       ·replace hm:=JF hq29 hm;iterate 2 (refine DA [0,1] TK Q ?_)
        refine GE hm λg30 hm=>DX [0,1] Q Q (bI Q Q Q Q g30) ?_;iterate 2 (refine DA [0,1] TK Q ?_)
        refine d_b [0,1] TK Q (λq31 hq31=>?_);cases q31
        ·replace hm:=JF hq31 hm;iterate 2 (refine DA [0,1] TK Q ?_)
         refine d_b [0,1] TK Q (λq32 hq32=>?_);cases q32
         ·replace hm:=JF hq32 hm;iterate 12 (refine DA [0,1] TK Q ?_)
          refine DT ?_ (by kernel_rfl);refine TN (WT ?_);exact⟨_,[0,1],(SJ hm),Q,k0,Q⟩
         replace hm:=JT hq32 hm;iterate 3 (refine DA [0,1] TK Q ?_)
         refine GE hm λg33 hm=>DX [0,1] Q Q (bI Q Q Q Q g33) (VE hm λe34 he34 hm=>DX [0,1] Q Q (dZ TK Q Q Q Q he34) ?_);iterate 7 (refine DA [0,1] TK Q ?_)
         refine DT ?_ (by kernel_rfl);refine TN (WT ?_);exact⟨_,[0,1],(SJ hm),Q,k0,Q⟩
        replace hm:=JT hq31 hm;iterate 15 (refine DA [0,1] TK Q ?_)
        refine DT ?_ (by kernel_rfl);refine TN (WT ?_);exact⟨_,[0,1],(SJ hm),Q,k0,Q⟩
       replace hm:=JT hq29 hm;iterate 21 (refine DA [0,1] TK Q ?_)
       refine DT ?_ (by kernel_rfl);refine TN (WT ?_);exact⟨_,[0,1],(SJ hm),Q,k0,Q⟩
      refine WN [1,3,4,37,38,39,63,64,65,92] Q Q ?_;refine TC _ Q (λh35=>?_) (λh35=>?_)
      ·replace hm:=JA h35 hm;refine RS (SA TK Q (TN (WN [2] Q Q (TR (WB (WR (IE hm λv36 hm hz=>?_)))))));rw [hz24 _ hz] at hm;refine WR (WB (IE hm λv37 hm hz=>?_));rw [hz21 _ hz] at hm;refine WR (WB (IE hm λv38 hm hz=>?_));rw [hz13 _ hz] at hm;refine WR (IE hm λv39 hm hz=>?_);rw [hz11 _ hz] at hm;refine WR (WB (IE hm λv40 hm hz=>?_));rw [hz8 _ hz] at hm;refine WR ?_;obtain rfl:=OJ hm;exact EndsS.one _ Q (.d _) (.refl _)
      replace hm:=JB h35 hm;refine TS (WK (WT (WN [1,3,4,37,38,39,63,64,65] Q Q (TG (GE hm λg41 hm=>SX Q Q (bI Q Q Q Q g41) (SA TK Q (TN ?_)))))));refine WT ?_;exact⟨_,[0,1],(SJ hm),Q,k0,Q⟩
     replace hm:=JF h25 hm;refine bB (WX (IE hm λv42 hm hz=>?_));rw [hz24 _ hz] at hm;refine WX (WH (WT ?_));exact⟨_,[0,1],(SJ hm),Q,k0,Q⟩
    refine WN [1,3,4,37,38,39] Q Q (RS (SA TK Q (SA TK Q (TN (WN [1,4,37,38,39,94,95] Q Q (TB (cB hm (λx44=>([(95,.d (.int .i64 x44))]:Fr)) (λx44=>([]:List (Nat×Blk))) [95] [1,4,37,38,39,94] [0,1] Q k0 Q Q Q Q Q (λx44 z45 hm hz45=>WN [1,4,37,38,39,94,95] Q Q (RS ?_)))))))));refine SA TK Q (TN (WN [1,4,37,38,39,94,95,96] Q Q (TQ ?_)));refine TC _ Q (λh46=>?_) (λh46=>?_)
    ·replace hm:=JT h46 hm;refine TS (WT (WN [1,4,37,38,39,94,95] Q Q (TQ (TB (RS (SA TK Q (SA TK Q (TN (WN [1,4,7,37,38,39,94,95] Q Q ?_)))))))));refine aM follows  ?_;iterate 3 (refine DA [0,1] TK Q ?_)
     refine VE hm λe47 he47 hm=>DX [0,1] Q Q (dZ TK Q Q Q Q he47) ?_;iterate 2 (refine DA [0,1] TK Q ?_)
     refine GE hm λg48 hm=>DX [0,1] Q Q (wV Q Q Q g48.1 g48.2) ?_;refine DT ?_ (by kernel_rfl);refine TN (WN [1,4,37,38,39,94,95,104] Q Q ?_);refine TC _ Q (λh50=>?_) (λh50=>?_)
     ·replace hm:=JT h50 hm;refine RS (SA TK Q (TN (WN [2] Q Q (TR (WB (WR (IE hm λv51 hm hz=>?_)))))));rw [hz45 _ hz] at hm;refine WR (WB (WB (IE hm λv52 hm hz=>?_)));rw [hz13 _ hz] at hm;refine WR (IE hm λv53 hm hz=>?_);rw [hz11 _ hz] at hm;refine WR (WB (IE hm λv54 hm hz=>?_));rw [hz8 _ hz] at hm;refine WR ?_;obtain rfl:=OJ hm;exact EndsS.one _ Q (.d _) (.refl _)
     replace hm:=JF h50 hm;refine TS (WK (WT (WN [1,4,37,38,39,94,95] Q Q (TG (GE hm λg55 hm=>SX Q Q (bI Q Q Q Q g55) (SA TK Q (TN ?_)))))));refine WT ?_;exact⟨_,[0,1],(SJ hm),Q,k0,Q⟩
    replace hm:=JF h46 hm;refine bB (WX (IE hm λv56 hm hz=>?_));rw [hz45 _ hz] at hm;refine WX (WH (WK (WT ?_)));exact⟨_,[0],(SJ hm),Q,k0,Q⟩
   refine WN [1,37,38,39] Q Q (TG (GE hm λg57 hm=>SX Q Q (bI Q Q Q Q g57) (SA TK Q (TN (WT ?_)))));exact⟨_,[0],(SJ hm),Q,k0,Q⟩
  replace hm:=JF h12 hm;refine bB (WX (IE hm λv58 hm hz=>?_));rw [hz11 _ hz] at hm;refine WX (WH (WT ?_));exact⟨_,[0],(SJ hm),Q,k0,Q⟩
 refine WN [1] Q Q (RS (SA TK Q (SA TK Q (SA TK Q (qBB (f:=(D.int .i64)) 1 3 1 Q (BE hm λr59 hr59 hm=>?_))))));refine yP [1] (λj=>Nat.beq j 0) Q Q Q (by decide) Q Q Q Q (oI hr59) (.cons (.refl _) (.cons (.refl _) (.cons (.nil _ _) .nil))) Q Q Q ?_;refine SA TK Q (TN (WN [1,8] Q Q ?_));refine cZ hm (λ_=>([]:Fr)) (λ_=>([]:List (Nat×Blk))) [] [1,8] Q (λz60 hm hz60=>?_) (λj hm=>?_)
 ·refine RS (SA TK Q (SA TK Q (SA TK Q (TN (WN [1,8,111,112,113] Q Q (TB (cB hm (λx62=>([(113,.d (.int .i64 x62))]:Fr)) (λx62=>([]:List (Nat×Blk))) [113] [1,8,111,112] [0,1] Q k0 Q Q Q Q Q (λx62 z63 hm hz63=>WN [1,8,111,112,113] Q Q (RS (SA TK Q ?_))))))))));refine TN (WN [1,8,111,112,113,114] Q Q (TQ ?_));refine TC _ Q (λh64=>?_) (λh64=>?_)
  ·replace hm:=JT h64 hm;refine TS (WT (WN [1,8,111,112,113] Q Q (TQ (TB (RS (SA TK Q (VE hm λe65 he65 hm=>SX Q Q (kX TK Q Q Q Q he65 Q) ?_)))))));refine SX Q Q (nY TK Q Q Q Q he65.2 Q) (SA TK Q (SA TK Q (TN (WN [1,8,9,10,111,112,113] Q Q (RS (SA TK Q (SA TK Q (GE hm λg66 hm=>SX Q Q (bI Q Q Q Q g66) (SA TK Q ?_)))))))));refine TN (WN [1,8,111,112,113,121] Q Q ?_);refine TC _ Q (λh67=>?_) (λh67=>?_)
   ·replace hm:=iW h67 hm;refine RS (SA TK Q (TN (WN [2] Q Q (TR (WB (WR (IE hm λv68 hm hz=>?_)))))));rw [hz63 _ hz] at hm;refine WR (WB (IE hm λv69 hm hz=>?_));rw [hz60 _ hz] at hm;refine WR ?_;obtain rfl:=OJ hm;exact EndsS.one _ Q (.d _) (.refl _)
   replace hm:=iX h67 hm;refine TS (WK (WT (WN [1,8,111,112,113] Q Q (TG (GE hm λg70 hm=>SX Q Q (bI Q Q Q Q g70) (SA TK Q (TN ?_)))))));refine WT ?_;exact⟨_,[0,1],(SJ hm),Q,k0,Q⟩
  replace hm:=JF h64 hm;refine bB (WX (IE hm λv71 hm hz=>?_));rw [hz63 _ hz] at hm;refine WX (WH (WT ?_));exact⟨_,[0,1],(SJ hm),Q,k0,Q⟩
 refine WN [1,8] Q Q (RS ?_);iterate 4 (refine SA TK Q ?_)
 refine SX Q Q (bS TK Q Q Q) (SA TK Q (SA TK Q (TN (WN [2] Q Q (TR ?_)))));obtain rfl:=OJ hm;exact EndsS.one _ Q (.d _) (.refl _)
theorem dE {p0:Diagram} {p1:(List Bool)} {r:Bool} (hm:bZ p0 p1=some r):RetN Try.prog 45 [p0.enc,.sl 1 (p1.map D.bool)] (.bool (r)):=by
 refine .unit (aS qCM Try.func45 Q Try.ntmps45 Q Q (λwX gX=>?_)) Q;unfold bZ at hm;refine WN [0,1] Q Q (RS (cE 0 Q Q Q (SA TK Q (TN (WN [1,2] Q Q (RS (SA TK Q (SA TK Q (SA TK Q (TN ?_))))))))));refine WN [1,2,5] Q Q ?_;refine aJ hm (λn1=>([(5,.d (.int .i64 n1))]:Fr)) (λn1=>([]:List (Nat×Blk))) [5] [] Q (λz2 hm=>?_) (λn1 hm=>?_)
 ·refine TB (cB hm (λn4=>([(5,.d (.int .i64 n4))]:Fr)) (λn4=>([]:List (Nat×Blk))) [5] [1,2] [0] Q k0 Q Q Q Q Q (λn4 z5 hm hz5=>WN [1,2,5] Q Q (TQ (RS (SA TK Q (SA TK Q (TN (WN [1,2,5,10] Q Q ?_))))))));refine TC _ Q (λh6=>?_) (λh6=>?_)
  ·replace hm:=JT h6 hm;refine TS (WT (WN [1,2,5] Q Q (TB (RS (SA TK Q (SA TK Q (SA TK Q (GE hm λg7 hm=>SX Q Q (bI Q Q Q Q g7) (VE hm λe8 he8 hm=>?_)))))))));refine SX Q Q (dZ TK Q Q Q Q he8) (SA TK Q (bY 1 Q Q aT Q (SA TK Q (TN (WN [1,2,6] Q Q (RS (SA TK Q (SA TK Q (SA TK Q (TN ?_))))))))));refine WN [1,2,5,6] Q Q ?_;refine aJ hm (λx9=>([(30,.d (.bool (x9)))]:Fr)) (λx9=>([]:List (Nat×Blk))) [30] [1,2,5,6] Q (λz10 hm=>?_) (λx9 hm=>?_)
   ·refine TG (SA TK Q (SA TK Q (SA TK Q (SX Q Q (bS TK Q Q Q) (SA TK Q (SB TK Q (λq11 hq11=>?_)))))));cases q11
    ·replace hm:=JF hq11 hm;iterate 6 (refine SA TK Q ?_)
     refine TN (WT ?_);exact⟨_,[0,1],(SJ hm),Q,k0,Q⟩
    replace hm:=JT hq11 hm;refine SA TK Q (SA TK Q (SA TK Q (VE hm λe12 he12 hm=>SX Q Q (dZ TK Q Q Q Q he12) (SA TK Q (SA TK Q (TN (WT ?_)))))));exact⟨_,[0,1],(SJ hm),Q,k0,Q⟩
   refine WN [1,2,5,6,30] Q Q ?_;refine TC _ Q (λh13=>?_) (λh13=>?_)
   ·replace hm:=JA h13 hm;refine TG (SA TK Q (SA TK Q (SA TK Q (TN (WK (WT ?_))))));exact⟨_,[0],(SJ hm),Q,k0,Q⟩
   replace hm:=JB h13 hm;refine TS (WK (WT ?_));exact⟨_,[0],(SJ hm),Q,k0,Q⟩
  replace hm:=JF h6 hm;refine bB (WX (IE hm λv14 hm hz=>?_));rw [hz5 _ hz] at hm;refine WX (WH (WT ?_));exact⟨_,[0],(SJ hm),Q,k0,Q⟩
 refine WN [5] Q Q (RS (SA TK Q (SA TK Q (SA TK Q (TN (WN [4] Q Q (TR ?_)))))));obtain rfl:=OJ hm;exact EndsS.one _ Q (.d _) (.refl _)
theorem pK {p0:Diagram} {p1:Diagram} {p2:Bool} {r0:Diagram} {r1:Int} (hm:dG p0 p1 p2=some (r0,r1)):RetT Try.prog 48 [p0.enc,p1.enc,.bool (p2)] [r0.enc,.int .i64 r1]:=by
 refine .of (mv:=λ_=>false) (cH qCL Try.func48 Q Try.ntmps48 Q Q (λwX gX=>?_));unfold dG at hm;refine WN [0,1,2] Q Q (RS (cE 0 Q Q Q (cE 1 Q Q Q (bY 2 Q Q aK Q (cR 2 [some 3,none] Q Q (SA TK Q (TN (WN [2,3,4,6] Q Q ?_))))))));refine TQ ?_;refine aJ hm (λx1=>([(17,.d (.bool (x1)))]:Fr)) (λx1=>([]:List (Nat×Blk))) [17] [2,3,4,6] Q (λz2 hm=>?_) (λx1 hm=>?_)
 ·refine TG (SA TK Q (BE hm λr3 hr3 hm=>SX Q Q (RN Q Q (SC (.d _) SN) (dW hr3)) (SA TK Q (SB TK Q (λq4 hq4=>?_)))));cases q4
  ·replace hm:=JB hq4 hm;refine SA TK Q (BE hm λr5 hr5 hm=>SX Q Q (RN Q Q (SC (.d _) SN) (dW hr5)) (SA TK Q (SA TK Q (TN (WT ?_)))));exact⟨_,[0,1,2],(SJ hm),Q,k0,Q⟩
  replace hm:=JA hq4 hm;iterate 4 (refine SA TK Q ?_)
  refine TN (WT ?_);exact⟨_,[0,1,2],(SJ hm),Q,k0,Q⟩
 refine WN [2,3,4,6,17] Q Q ?_;refine TC _ Q (λh6=>?_) (λh6=>?_)
 ·replace hm:=JA h6 hm;refine RS (SX Q Q (aU Q dQ aK Q Q Q Q) (jV 18 [some 3,none] Q (SA TK Q (SA TK Q (TN (WN [6,7] Q Q (TR (WR ?_))))))));obtain⟨rfl,rfl⟩:=Prod.mk.inj (Option.some.inj hm);exact⟨_,.mk _ (.cons (.agg (TK.lay Q) Q Q Q Q) (.cons (.tmp 7) .nil)) Q,(.cons (.d _) (.refl _) (.cons (.d _) (.refl _) .nil))⟩
 replace hm:=JB h6 hm;refine TS (WT (WN [2,3,4,6] Q Q (RS (SA TK Q (SA TK Q (SA TK Q (BE hm λr7 hr7 hm=>?_)))))));obtain⟨r8,r9⟩:=r7;refine SX Q Q (cF Q Q Q (kM hr7)) (SA TK Q (SA TK Q (SA TK Q (bY 3 Q Q aK Q (cR 3 [some 3,none] Q Q (SA TK Q (SA TK Q (TN (WN [6,8,9] Q Q (TQ (RS ?_)))))))))));refine SA TK Q (SA TK Q (TN (WN [6,8,27] Q Q ?_)));refine TC _ Q (λh10=>?_) (λh10=>?_)
 ·replace hm:=JA h10 hm;refine RS (SX Q Q (aU Q dQ aK Q Q Q Q) (jV 28 [some 3,none] Q (SA TK Q (SA TK Q (TN (WN [6,7] Q Q (TR (WR ?_))))))));obtain⟨rfl,rfl⟩:=Prod.mk.inj (Option.some.inj hm);exact⟨_,.mk _ (.cons (.agg (TK.lay Q) Q Q Q Q) (.cons (.tmp 7) .nil)) Q,(.cons (.d _) (.refl _) (.cons (.d _) (.refl _) .nil))⟩
 replace hm:=JB h10 hm;refine TS (WT (WN [6,8] Q Q (RS (SA TK Q (SA TK Q (SA TK Q (TN (WN [6,7] Q Q (TR ?_)))))))));obtain⟨rfl,rfl⟩:=Prod.mk.inj (Option.some.inj hm);exact⟨_,.mk _ (.cons (.agg (TK.lay Q) Q Q Q Q) (.cons (.tmp 7) .nil)) Q,(.cons (.d _) (.refl _) (.cons (.d _) (.refl _) .nil))⟩
theorem xS {p0:Diagram} {p1:Diagram} {r0:Diagram} {r1:Int} (hm:nU p0 p1=some (r0,r1)):RetT Try.prog 25 [p0.enc,p1.enc] [r0.enc,.int .i64 r1]:=by
 refine .of (mv:=λ_=>false) (cH qDD Try.func25 Q Try.ntmps25 Q Q (λwX gX=>?_));unfold nU at hm;refine WN [0,1] Q Q (RS (cE 0 Q Q Q (cE 1 Q Q Q (bY 2 Q Q aK Q (cR 2 [some 3,none] Q Q (SA TK Q (TN (WN [2,3,4] Q Q ?_))))))));refine RS (SA TK Q (SA TK Q (BE hm λr1 hr1 hm=>?_)));obtain⟨r2,r3⟩:=r1;refine SX Q Q (cF Q Q Q (pK hr1)) ?_;iterate 4 (refine SA TK Q ?_)
 refine TN (WN [4,5] Q Q (TR ?_));obtain⟨rfl,rfl⟩:=Prod.mk.inj (Option.some.inj hm);exact⟨_,.mk _ (.cons (.agg (TK.lay Q) Q Q Q Q) (.cons (.tmp 5) .nil)) Q,(.cons (.d _) (.refl _) (.cons (.d _) (.refl _) .nil))⟩
theorem sO {p0:Diagram} {p1:Diagram} {r0:Diagram} {r1:Int} (hm:dP p0 p1=some (r0,r1)):RetT Try.prog 26 [p0.enc,p1.enc] [r0.enc,.int .i64 r1]:=by
 refine .of (mv:=λ_=>false) (cH qDC Try.func26 Q Try.ntmps26 Q Q (λwX gX=>?_));unfold dP at hm;refine WN [0,1] Q Q (RS (cE 0 Q Q Q (cE 1 Q Q Q (bY 2 Q Q aK Q (cR 2 [some 3,none] Q Q (SA TK Q (TN (WN [2,3,4] Q Q ?_))))))));refine TQ ?_;refine aJ hm (λx1=>([(16,.d (.bool (x1)))]:Fr)) (λx1=>([]:List (Nat×Blk))) [16] [2,3,4] Q (λz2 hm=>?_) (λx1 hm=>?_)
 ·refine TG (SA TK Q (BE hm λr3 hr3 hm=>SX Q Q (RN Q Q (SC (.d _) SN) (dF hr3)) (SA TK Q (SB TK Q (λq4 hq4=>?_)))));cases q4
  ·replace hm:=JB hq4 hm;refine SA TK Q (BE hm λr5 hr5 hm=>SX Q Q (RN Q Q (SC (.d _) SN) (dF hr5)) (SA TK Q (SA TK Q (TN (WT ?_)))));exact⟨_,[0,1,2],(SJ hm),Q,k0,Q⟩
  replace hm:=JA hq4 hm;iterate 4 (refine SA TK Q ?_)
  refine TN (WT ?_);exact⟨_,[0,1,2],(SJ hm),Q,k0,Q⟩
 refine WN [2,3,4,16] Q Q ?_;refine TC _ Q (λh6=>?_) (λh6=>?_)
 ·replace hm:=JA h6 hm;refine RS (SX Q Q (aU Q dQ aK Q Q Q Q) (jV 17 [some 3,none] Q (SA TK Q (SA TK Q (TN (WN [4,5] Q Q (TR (WR ?_))))))));obtain⟨rfl,rfl⟩:=Prod.mk.inj (Option.some.inj hm);exact⟨_,.mk _ (.cons (.agg (TK.lay Q) Q Q Q Q) (.cons (.tmp 5) .nil)) Q,(.cons (.d _) (.refl _) (.cons (.d _) (.refl _) .nil))⟩
 replace hm:=JB h6 hm;refine TS (WT (WN [2,3,4] Q Q (RS (mA (f:=D.bool) 3 4 1 Q Q Q (TN (WN [2,3,4,6] Q Q ?_))))));refine aJ hm (λb7=>([(6,.msl 3 1 0 b7.length)]:Fr)) (λb7=>([(3,.flat 4 1 (b7.map D.bool))]:List (Nat×Blk))) [6] [4] Q (λz8 hm=>?_) (λb7 hm=>?_)
 ·refine aM follows  (DA [0,1,2,3] TK Q (BE hm λr9 hr9 hm=>DX [0,1,2,3] Q Q (RN Q Q (SC (.d _) SN) (cM hr9)) (DA [0,1,2,3] TK Q (BE hm λr10 hr10 hm=>DX [0,1,2,3] Q Q (RN Q Q (SC (.d _) SN) (cM hr10)) (DX [0,1,2,3] Q Q (uU Q Q Q Q) (BE hm λr11 hr11 hm=>?_))))));refine DX [0,1,2,3] Q Q (RD Q Q Q (gJ hr11)) (DX [0,1,2,3] Q Q (bS TK Q Q Q) (DA [0,1,2,3] TK Q ?_));refine DT ?_ (by kernel_rfl);refine TN (WN [2,3,4,6,23,24,25] Q Q (TB (cB hm (λ(x15,b16)=>([(6,.msl 3 1 0 b16.length),(25,.d (.int .i64 x15))]:Fr)) (λ(x15,b16)=>([(3,.flat 4 1 (b16.map D.bool))]:List (Nat×Blk))) [6,25] [2,3,4,23,24] [0,1,2,3] Q k0 Q Q Q Q Q (λs z17 hm hz17=>?_))));obtain⟨x15,b16⟩:=s;refine WN [2,3,4,6,23,24,25] Q Q (RS (SA TK Q (TN (WN [2,3,4,6,23,24,25,26] Q Q (TQ ?_)))));refine TC _ Q (λh18=>?_) (λh18=>?_)
  ·replace hm:=JT h18 hm;refine TS (WT (WN [2,3,4,6,23,24,25] Q Q (TQ (TB (RS (VE hm λe19 he19 hm=>SX Q Q (dZ TK Q Q Q Q he19) (SA TK Q (SA TK Q ?_))))))));refine TN (WN [2,3,4,6,8,23,24,25] Q Q (TG (SA TK Q (SA TK Q (SA TK Q (BE hm λr20 hr20 hm=>SX Q Q (RN Q Q (SC (.d _) (SC (.d _) SN)) (dE hr20)) (SB TK Q (λq21 hq21=>?_))))))));cases q21
   ·replace hm:=JB hq21 hm;iterate 4 (refine SA TK Q ?_)
    refine SX Q Q (dY [.tmp 37] TK Q Q gC Q Q Q Q Q) (GE hm λg22 hm=>eD (f:=D.bool) ([false]:List Bool) TK Q Q gC Q Q Q Q Q (λh=>absurd h (zQV _)) Q dN g22 Q Q (SA TK Q (TN (WK (WT (WN [2,3,4,6,23,24,25] Q Q (TG ?_)))))));refine GE hm λg23 hm=>SX Q Q (bI Q Q Q Q g23) (SA TK Q (TN (WT ?_)));exact⟨_,[0,1,2,3],(SJ hm),Q,k0,Q⟩
   replace hm:=JA hq21 hm;refine SA TK Q (SA TK Q (BE hm λr24 hr24 hm=>SX Q Q (RN Q Q (SC (.d _) (SC (.d _) SN)) (dE hr24)) (SA TK Q (SX Q Q (dY [.tmp 37] TK Q Q gC Q Q Q Q Q) (GE hm λg25 hm=>eD (f:=D.bool) ([r24]:List Bool) TK Q Q gC Q Q Q Q Q (λh=>absurd h (zQV _)) Q dN g25 Q Q (SA TK Q (TN ?_)))))));refine WK (WT (WN [2,3,4,6,23,24,25] Q Q (TG (GE hm λg26 hm=>SX Q Q (bI Q Q Q Q g26) (SA TK Q (TN (WT ?_)))))));exact⟨_,[0,1,2,3],(SJ hm),Q,k0,Q⟩
  replace hm:=JF h18 hm;refine bB (WX (IE hm λv27 hm hz=>?_));rw [hz17 _ hz] at hm;refine WX (WH (WT ?_));exact⟨_,[0,1,2,3],(SJ hm),Q,k0,Q⟩
 refine WN [4,6] Q Q ?_;refine rV 6 3 [4] Q Q Q Q Q (by simp) Q Q ?_;refine RS (SA TK Q (BE hm λr28 hr28 hm=>SX Q Q (RD Q Q Q (gZ hr28)) (SA TK Q (SA TK Q (TN (WN [4,5] Q Q (TR ?_)))))));obtain⟨rfl,rfl⟩:=Prod.mk.inj (Option.some.inj hm);exact⟨_,.mk _ (.cons (.agg (TK.lay Q) Q Q Q Q) (.cons (.tmp 5) .nil)) Q,(.cons (.d _) (.refl _) (.cons (.d _) (.refl _) .nil))⟩
theorem qAG {p0:Diagram} {p1:Diagram} {r0:Diagram} {r1:Int} (hm:rY p0 p1=some (r0,r1)):RetT Try.prog 27 [p0.enc,p1.enc] [r0.enc,.int .i64 r1]:=by
 refine .of (mv:=λ_=>false) (cH qDB Try.func27 Q Try.ntmps27 Q Q (λwX gX=>?_));unfold rY at hm;refine WN [0,1] Q Q (RS (cE 0 Q Q Q (cE 1 Q Q Q (bY 2 Q Q aK Q (cR 2 [some 3,none] Q Q (SA TK Q (TN (WN [2,3,4] Q Q ?_))))))));refine RS (SA TK Q (SA TK Q (BE hm λr1 hr1 hm=>?_)));obtain⟨r2,r3⟩:=r1;refine SX Q Q (cF Q Q Q (pK hr1)) ?_;iterate 4 (refine SA TK Q ?_)
 refine TN (WN [4,5] Q Q (TR ?_));obtain⟨rfl,rfl⟩:=Prod.mk.inj (Option.some.inj hm);exact⟨_,.mk _ (.cons (.agg (TK.lay Q) Q Q Q Q) (.cons (.tmp 5) .nil)) Q,(.cons (.d _) (.refl _) (.cons (.d _) (.refl _) .nil))⟩
theorem uS {p0:Diagram} {p1:Diagram} {r0:Diagram} {r1:Int} (hm:eW p0 p1=some (r0,r1)):RetT Try.prog 28 [p0.enc,p1.enc] [r0.enc,.int .i64 r1]:=by
 refine .of (mv:=λ_=>false) (cH qDA Try.func28 Q Try.ntmps28 Q Q (λwX gX=>?_));unfold eW at hm;refine WN [0,1] Q Q (RS (cE 0 Q Q Q (cE 1 Q Q Q (bY 2 Q Q aK Q (cR 2 [some 3,none] Q Q (SA TK Q (TN (WN [2,3,4] Q Q ?_))))))));refine TQ ?_;refine aJ hm (λx1=>([(16,.d (.bool (x1)))]:Fr)) (λx1=>([]:List (Nat×Blk))) [16] [2,3,4] Q (λz2 hm=>?_) (λx1 hm=>?_)
 ·refine TG (SA TK Q (BE hm λr3 hr3 hm=>SX Q Q (RN Q Q (SC (.d _) SN) (dF hr3)) (SA TK Q (SB TK Q (λq4 hq4=>?_)))));cases q4
  ·replace hm:=JB hq4 hm;refine SA TK Q (BE hm λr5 hr5 hm=>SX Q Q (RN Q Q (SC (.d _) SN) (dF hr5)) (SA TK Q (SA TK Q (TN (WT ?_)))));exact⟨_,[0,1,2],(SJ hm),Q,k0,Q⟩
  replace hm:=JA hq4 hm;iterate 4 (refine SA TK Q ?_)
  refine TN (WT ?_);exact⟨_,[0,1,2],(SJ hm),Q,k0,Q⟩
 refine WN [2,3,4,16] Q Q ?_;refine TC _ Q (λh6=>?_) (λh6=>?_)
 ·replace hm:=JA h6 hm;refine RS (SX Q Q (aU Q dQ aK Q Q Q Q) (jV 17 [some 3,none] Q (SA TK Q (SA TK Q (TN (WN [4,5] Q Q (TR (WR ?_))))))));obtain⟨rfl,rfl⟩:=Prod.mk.inj (Option.some.inj hm);exact⟨_,.mk _ (.cons (.agg (TK.lay Q) Q Q Q Q) (.cons (.tmp 5) .nil)) Q,(.cons (.d _) (.refl _) (.cons (.d _) (.refl _) .nil))⟩
 replace hm:=JB h6 hm;refine TS (WT (WN [2,3,4] Q Q (RS (mA (f:=D.bool) 3 4 1 Q Q Q (TN (WN [2,3,4,6] Q Q ?_))))));refine aJ hm (λb7=>([(6,.msl 3 1 0 b7.length)]:Fr)) (λb7=>([(3,.flat 4 1 (b7.map D.bool))]:List (Nat×Blk))) [6] [4] Q (λz8 hm=>?_) (λb7 hm=>?_)
 ·refine aM follows  (DA [0,1,2,3] TK Q (BE hm λr9 hr9 hm=>DX [0,1,2,3] Q Q (RN Q Q (SC (.d _) SN) (cM hr9)) (DA [0,1,2,3] TK Q (BE hm λr10 hr10 hm=>DX [0,1,2,3] Q Q (RN Q Q (SC (.d _) SN) (cM hr10)) (DX [0,1,2,3] Q Q (uU Q Q Q Q) (BE hm λr11 hr11 hm=>?_))))));refine DX [0,1,2,3] Q Q (RD Q Q Q (gJ hr11)) (DX [0,1,2,3] Q Q (bS TK Q Q Q) (DA [0,1,2,3] TK Q ?_));refine DT ?_ (by kernel_rfl);refine TN (WN [2,3,4,6,23,24,25] Q Q (TB (cB hm (λ(x15,b16)=>([(6,.msl 3 1 0 b16.length),(25,.d (.int .i64 x15))]:Fr)) (λ(x15,b16)=>([(3,.flat 4 1 (b16.map D.bool))]:List (Nat×Blk))) [6,25] [2,3,4,23,24] [0,1,2,3] Q k0 Q Q Q Q Q (λs z17 hm hz17=>?_))));obtain⟨x15,b16⟩:=s;refine WN [2,3,4,6,23,24,25] Q Q (RS (SA TK Q (TN (WN [2,3,4,6,23,24,25,26] Q Q (TQ ?_)))));refine TC _ Q (λh18=>?_) (λh18=>?_)
  ·replace hm:=JT h18 hm;refine TS (WT (WN [2,3,4,6,23,24,25] Q Q (TQ (TB (RS (VE hm λe19 he19 hm=>SX Q Q (dZ TK Q Q Q Q he19) (SA TK Q (SA TK Q ?_))))))));refine TN (WN [2,3,4,6,8,23,24,25] Q Q (TG (SA TK Q (SA TK Q (SA TK Q (BE hm λr20 hr20 hm=>SX Q Q (RN Q Q (SC (.d _) (SC (.d _) SN)) (dE hr20)) (SB TK Q (λq21 hq21=>?_))))))));cases q21
   ·replace hm:=JB hq21 hm;refine SA TK Q (SA TK Q (BE hm λr22 hr22 hm=>SX Q Q (RN Q Q (SC (.d _) (SC (.d _) SN)) (dE hr22)) (SA TK Q (SX Q Q (dY [.tmp 37] TK Q Q gC Q Q Q Q Q) (GE hm λg23 hm=>eD (f:=D.bool) ([r22]:List Bool) TK Q Q gC Q Q Q Q Q (λh=>absurd h (zQV _)) Q dN g23 Q Q (SA TK Q (TN ?_)))))));refine WK (WT (WN [2,3,4,6,23,24,25] Q Q (TG (GE hm λg24 hm=>SX Q Q (bI Q Q Q Q g24) (SA TK Q (TN (WT ?_)))))));exact⟨_,[0,1,2,3],(SJ hm),Q,k0,Q⟩
   replace hm:=JA hq21 hm;iterate 4 (refine SA TK Q ?_)
   refine SX Q Q (dY [.tmp 37] TK Q Q gC Q Q Q Q Q) (GE hm λg25 hm=>eD (f:=D.bool) ([true]:List Bool) TK Q Q gC Q Q Q Q Q (λh=>absurd h (zQV _)) Q dN g25 Q Q (SA TK Q (TN (WK (WT (WN [2,3,4,6,23,24,25] Q Q (TG ?_)))))));refine GE hm λg26 hm=>SX Q Q (bI Q Q Q Q g26) (SA TK Q (TN (WT ?_)));exact⟨_,[0,1,2,3],(SJ hm),Q,k0,Q⟩
  replace hm:=JF h18 hm;refine bB (WX (IE hm λv27 hm hz=>?_));rw [hz17 _ hz] at hm;refine WX (WH (WT ?_));exact⟨_,[0,1,2,3],(SJ hm),Q,k0,Q⟩
 refine WN [4,6] Q Q ?_;refine rV 6 3 [4] Q Q Q Q Q (by simp) Q Q ?_;refine RS (SA TK Q (BE hm λr28 hr28 hm=>SX Q Q (RD Q Q Q (gZ hr28)) (SA TK Q (SA TK Q (TN (WN [4,5] Q Q (TR ?_)))))));obtain⟨rfl,rfl⟩:=Prod.mk.inj (Option.some.inj hm);exact⟨_,.mk _ (.cons (.agg (TK.lay Q) Q Q Q Q) (.cons (.tmp 5) .nil)) Q,(.cons (.d _) (.refl _) (.cons (.d _) (.refl _) .nil))⟩
theorem xR {p0:Diagram} {r:Diagram} (hm:gH p0=some r):RetD Try.prog 29 [p0.enc] (r.enc):=by
 refine .of (mv:=λ_=>false) (aS qCZ Try.func29 Q Try.ntmps29 Q Q (λwX gX=>?_));unfold gH at hm;refine WN [0] Q Q (RS (cE 0 Q Q Q (bY 1 Q Q aK Q (cR 1 [some 3,none] Q Q (TN (WN [1,2] Q Q (TQ (RS ?_))))))));refine SA TK Q (BE hm λr1 hr1 hm=>SX Q Q (RN Q Q (SC (.d _) SN) (dW hr1)) (SA TK Q (TN (WN [1,2,5] Q Q ?_))));refine TC _ Q (λh2=>?_) (λh2=>?_)
 ·replace hm:=JA h2 hm;refine RS (SX Q Q (aU Q dQ aK Q Q Q Q) (jV 6 [some 3,none] Q (SA TK Q (TN (WN [2] Q Q (TR (WR ?_)))))));obtain rfl:=OJ hm;exact EndsS.cellR _ TK Q Q Q Q Q (.d _)
 replace hm:=JB h2 hm;refine TS (WT (WN [1,2] Q Q (RS (SA TK Q (BE hm λr3 hr3 hm=>SX Q Q (RD Q Q Q (jB hr3)) (SA TK Q (TN ?_)))))));refine WN [2] Q Q (TR ?_);obtain rfl:=OJ hm;exact EndsS.cellR _ TK Q Q Q Q Q (.d _)
theorem sN {p0:Diagram} {r:Diagram} (hm:dO p0=some r):RetD Try.prog 30 [p0.enc] (r.enc):=by
 refine .of (mv:=λ_=>false) (aS qCY Try.func30 Q Try.ntmps30 Q Q (λwX gX=>?_));unfold dO at hm;refine WN [0] Q Q (RS (cE 0 Q Q Q (bY 1 Q Q aK Q (cR 1 [some 3,none] Q Q (TN (WN [1,2] Q Q (TQ (RS ?_))))))));refine SA TK Q (BE hm λr1 hr1 hm=>SX Q Q (RN Q Q (SC (.d _) SN) (dF hr1)) (SA TK Q (TN (WN [1,2,8] Q Q ?_))));refine TC _ Q (λh2=>?_) (λh2=>?_)
 ·replace hm:=JA h2 hm;refine RS (SX Q Q (aU Q dQ aK Q Q Q Q) (jV 9 [some 3,none] Q (SA TK Q (TN (WN [2] Q Q (TR (WR ?_)))))));obtain rfl:=OJ hm;exact EndsS.cellR _ TK Q Q Q Q Q (.d _)
 replace hm:=JB h2 hm;refine TS (WT (WN [1,2] Q Q (RS (mA (f:=D.bool) 2 4 1 Q Q Q (TN (WN [1,2,3] Q Q ?_))))));refine aJ hm (λb3=>([(3,.msl 2 1 0 b3.length)]:Fr)) (λb3=>([(2,.flat 4 1 (b3.map D.bool))]:List (Nat×Blk))) [3] [2] Q (λz4 hm=>?_) (λb3 hm=>?_)
 ·refine RS (SA TK Q (BE hm λr5 hr5 hm=>SX Q Q (RN Q Q (SC (.d _) SN) (cM hr5)) (BE hm λr6 hr6 hm=>SX Q Q (RD Q Q Q (gJ hr6)) (SX Q Q (bS TK Q Q Q) (SA TK Q (TN ?_))))));refine WN [1,2,3,12,13,14] Q Q (TB (cB hm (λ(x10,b11)=>([(3,.msl 2 1 0 b11.length),(14,.d (.int .i64 x10))]:Fr)) (λ(x10,b11)=>([(2,.flat 4 1 (b11.map D.bool))]:List (Nat×Blk))) [3,14] [1,2,12,13] [0,1,2] Q k0 Q Q Q Q Q (λs z12 hm hz12=>?_)));obtain⟨x10,b11⟩:=s;refine WN [1,2,3,12,13,14] Q Q (RS (SA TK Q (TN (WN [1,2,3,12,13,14,15] Q Q (TQ ?_)))));refine TC _ Q (λh13=>?_) (λh13=>?_)
  ·replace hm:=JT h13 hm;refine TS (WT (WN [1,2,3,12,13,14] Q Q (TQ (TB (RS (VE hm λe14 he14 hm=>SX Q Q (dZ TK Q Q Q Q he14) (SA TK Q (SA TK Q ?_))))))));refine TN (WN [1,2,3,5,12,13,14] Q Q (TG (SA TK Q (SA TK Q (SA TK Q (BE hm λr15 hr15 hm=>SX Q Q (RN Q Q (SC (.d _) (SC (.d _) SN)) (dE hr15)) (SA TK Q (SX Q Q (dY [.tmp 22] TK Q Q gC Q Q Q Q Q) (GE hm λg16 hm=>?_)))))))));refine eD (f:=D.bool) ([!(r15)]:List Bool) TK Q Q gC Q Q Q Q Q (λh=>absurd h (zQV _)) Q dN g16 Q Q (SA TK Q (TN (WK (WT (WN [1,2,3,12,13,14] Q Q (TG (GE hm λg17 hm=>SX Q Q (bI Q Q Q Q g17) ?_)))))));refine SA TK Q (TN (WT ?_));exact⟨_,[0,1,2],(SJ hm),Q,k0,Q⟩
  replace hm:=JF h13 hm;refine bB (WX (IE hm λv18 hm hz=>?_));rw [hz12 _ hz] at hm;refine WX (WH (WT ?_));exact⟨_,[0,1,2],(SJ hm),Q,k0,Q⟩
 refine WN [2,3] Q Q ?_;refine rV 3 2 [2] Q Q Q Q Q (by simp) Q Q ?_;refine RS (SA TK Q (BE hm λr19 hr19 hm=>SX Q Q (RD Q Q Q (gZ hr19)) (SA TK Q (TN (WN [2] Q Q (TR ?_))))));obtain rfl:=OJ hm;exact EndsS.cellR _ TK Q Q Q Q Q (.d _)
theorem jW {p0:Diagram} {p1:Diagram} {r:Bool} (hm:cS p0 p1=some r):Ret Try.prog 7 [] (λ_=>false) ([p0.enc,p1.enc].map .d) (.d (.bool (r))) []:=by
 refine aS callB7 Try.func7 Q Try.ntmps7 Q Q (λwX gX=>?_);unfold cS at hm;refine WN [0,1] Q Q (RS (cE 0 Q Q Q (cE 1 Q Q Q (SA TK Q (TN (WN [2,3] Q Q (TQ ?_)))))));refine aJ hm (λx1=>([(20,.d (.bool (x1)))]:Fr)) (λx1=>([]:List (Nat×Blk))) [20] [2,3] Q (λz2 hm=>?_) (λx1 hm=>?_)
 ·refine TG (SA TK Q (BE hm λr3 hr3 hm=>SX Q Q (RN Q Q (SC (.d _) SN) (kG hr3)) (SA TK Q (SB TK Q (λq4 hq4=>?_)))));cases q4
  ·replace hm:=JB hq4 hm;refine SA TK Q (BE hm λr5 hr5 hm=>SX Q Q (RN Q Q (SC (.d _) SN) (kG hr5)) (SA TK Q (SA TK Q (TN (WT ?_)))));exact⟨_,[0,1],(SJ hm),Q,k0,Q⟩
  replace hm:=JA hq4 hm;iterate 4 (refine SA TK Q ?_)
  refine TN (WT ?_);exact⟨_,[0,1],(SJ hm),Q,k0,Q⟩
 refine WN [2,3,20] Q Q ?_;refine TC _ Q (λh6=>?_) (λh6=>?_)
 ·replace hm:=JA h6 hm;refine RS (BE hm λr7 hr7 hm=>SX Q Q (RN Q Q SN (kH hr7)) (SA TK Q (TN (WN [4] Q Q (TR (WR ?_))))));obtain rfl:=OJ hm;exact EndsS.one _ Q (.d _) (.refl _)
 replace hm:=JB h6 hm;refine TS (WT (WN [2,3] Q Q (RS (SA TK Q (SA TK Q (BE hm λr8 hr8 hm=>?_))))));obtain⟨r9,r10⟩:=r8;refine SX Q Q (cF Q Q Q (xS hr8)) (SA TK Q (SA TK Q (SA TK Q (bY 2 Q Q aK Q (cR 2 [some 3,none] Q Q (SA TK Q (SA TK Q (TN (WN [2,3,5,6] Q Q (RS (SA TK Q (SA TK Q ?_))))))))))));refine BE hm λr11 hr11 hm=>?_;obtain⟨r12,r13⟩:=r11;refine SX Q Q (cF Q Q Q (sO hr11)) (SA TK Q (SA TK Q (SA TK Q (bY 3 Q Q aK Q (cR 3 [some 3,none] Q Q (SA TK Q (SA TK Q (TN (WN [2,3,5,6,7,8] Q Q (RS (SA TK Q (SA TK Q ?_))))))))))));refine BE hm λr14 hr14 hm=>?_;obtain⟨r15,r16⟩:=r14;refine SX Q Q (cF Q Q Q (qAG hr14)) (SA TK Q (SA TK Q (SA TK Q (bY 4 Q Q aK Q (cR 4 [some 3,none] Q Q (SA TK Q (SA TK Q (TN (WN [2,3,5,6,7,8,9,10] Q Q (RS (SA TK Q (SA TK Q ?_))))))))))));refine BE hm λr17 hr17 hm=>?_;obtain⟨r18,r19⟩:=r17;refine SX Q Q (cF Q Q Q (uS hr17)) (SA TK Q (SA TK Q (SA TK Q (bY 5 Q Q aK Q (cR 5 [some 3,none] Q Q (SA TK Q (SA TK Q (TN (WN [2,5,6,7,8,9,10,11,12] Q Q ?_)))))))));refine aJ hm (λx20=>([(4,.d (.bool (x20)))]:Fr)) (λx20=>([]:List (Nat×Blk))) [4] [] Q (λz21 hm=>?_) (λx20 hm=>?_)
 ·refine iK follows  ?_;iterate 3 (refine DA [0,1,2,3,4,5] TK Q ?_)
  refine d_b [0,1,2,3,4,5] TK Q (λq22 hq22=>?_);cases q22
  ·replace hm:=JF hq22 hm;iterate 24 (refine DA [0,1,2,3,4,5] TK Q ?_)
   refine DT ?_ (by kernel_rfl);refine SA TK Q (TN (WT ?_));exact⟨_,[0,1,2,3,4,5],(SJ hm),Q,k0,Q⟩
  replace hm:=JT hq22 hm;iterate 4 (refine DA [0,1,2,3,4,5] TK Q ?_)
  refine d_b [0,1,2,3,4,5] TK Q (λq23 hq23=>?_);cases q23
  ·replace hm:=JF hq23 hm;iterate 19 (refine DA [0,1,2,3,4,5] TK Q ?_)
   refine DT ?_ (by kernel_rfl);refine SA TK Q (TN (WT ?_));exact⟨_,[0,1,2,3,4,5],(SJ hm),Q,k0,Q⟩
  replace hm:=JT hq23 hm;iterate 2 (refine DA [0,1,2,3,4,5] TK Q ?_)
  refine BE hm λr24 hr24 hm=>DX [0,1,2,3,4,5] Q Q (RN Q Q (SC (.d _) (SC (.d _) SN)) (fG hr24)) (DA [0,1,2,3,4,5] TK Q (d_b [0,1,2,3,4,5] TK Q (λq25 hq25=>?_)));cases q25
  ·replace hm:=JB hq25 hm;iterate 14 (refine DA [0,1,2,3,4,5] TK Q ?_)
   refine DT ?_ (by kernel_rfl);refine SA TK Q (TN (WT ?_));exact⟨_,[0,1,2,3,4,5],(SJ hm),Q,k0,Q⟩
  replace hm:=JA hq25 hm;iterate 2 (refine DA [0,1,2,3,4,5] TK Q ?_)
  refine BE hm λr26 hr26 hm=>DX [0,1,2,3,4,5] Q Q (RN Q Q (SC (.d _) (SC (.d _) SN)) (fG hr26)) (DA [0,1,2,3,4,5] TK Q (d_b [0,1,2,3,4,5] TK Q (λq27 hq27=>?_)));cases q27
  ·replace hm:=JB hq27 hm;iterate 9 (refine DA [0,1,2,3,4,5] TK Q ?_)
   refine DT ?_ (by kernel_rfl);refine SA TK Q (TN (WT ?_));exact⟨_,[0,1,2,3,4,5],(SJ hm),Q,k0,Q⟩
  replace hm:=JA hq27 hm;refine DA [0,1,2,3,4,5] TK Q (BE hm λr28 hr28 hm=>DX [0,1,2,3,4,5] Q Q (RD Q Q Q (xR hr28)) (DA [0,1,2,3,4,5] TK Q (BE hm λr29 hr29 hm=>DX [0,1,2,3,4,5] Q Q (RD Q Q Q (sN hr29)) (BE hm λr30 hr30 hm=>DX [0,1,2,3,4,5] Q Q (RN Q Q (SC (.d _) (SC (.d _) SN)) (fG hr30)) (DA [0,1,2,3,4,5] TK Q ?_)))));refine d_b [0,1,2,3,4,5] TK Q (λq31 hq31=>?_);cases q31
  ·replace hm:=JB hq31 hm;iterate 2 (refine DA [0,1,2,3,4,5] TK Q ?_)
   refine DT ?_ (by kernel_rfl);refine SA TK Q (TN (WT ?_));exact⟨_,[0,1,2,3,4,5],(SJ hm),Q,k0,Q⟩
  replace hm:=JA hq31 hm;refine BE hm λr32 hr32 hm=>DX [0,1,2,3,4,5] Q Q (RN Q Q SN (kH hr32)) (DA [0,1,2,3,4,5] TK Q ?_);refine DT ?_ (by kernel_rfl);refine SA TK Q (TN (WT ?_));exact⟨_,[0,1,2,3,4,5],(SJ hm),Q,k0,Q⟩
 refine WN [4] Q Q (TR ?_);obtain rfl:=OJ hm;exact EndsS.one _ Q (.d _) (.refl _)
@[simp] theorem aB {α:Type} {p:Prop} [Decidable p] {k:Option α} (h:p):aD p k=k:=if_pos h
@[simp] theorem aA {α β:Type} (a:α) (k:α→Option β):aC (some a) k=k a:=rfl
@[simp] theorem eP {α β:Type} (a:α) (k:α→Option β):fB (some (.inl a)) k=k a:=rfl
@[simp] theorem bindS_inr {α β:Type} (b:β) (k:α→Option β):fB (some (.inr b)) k=some b:=rfl
@[simp] theorem inrM_some {α β:Type} (b:β):(aY (some b):Option (α ⊕ β))=some (.inr b):=rfl
theorem cI {α β:Type} {l:List α} {i:Nat} {e:α} {k:α→Option β} (h:l[i]?=some e):bN l (i:Int) k=k e:=by simp [bN,h]
theorem cK {α β:Type} {l:List α} {i:Int} {e:α} {k:α→Option β} (h0:0≤i) (h:l[i.toNat]?=some e):bN l i k=k e:=by simp [bN,h0,h]
@[simp] theorem ite_bindM {α β:Type} {p:Prop} [Decidable p] (a b:α) (k:α→Option β):aC (if p then some a else some b) k=k (if p then a else b):=by split<;>rfl
theorem sF {α:Type} (l:List α) (i:Nat):sub l (i:Int) (l.length:Int)=l.drop i:=by simp [sub,← List.length_drop]
theorem yJ {α:Type} (l:List α) (i:Nat):sub l 0 (i:Int)=l.take i:=by simp [sub]
variable {σ ρ:Type}
theorem tN {f:σ→Option (σ ⊕ ρ)} (B:Nat→σ) {o:ρ}:∀ (n k:Nat),(∀ i,k≤i→i < k+n→f (B i)=some (.inl (B (i+1))))→f (B (k+n))=some (.inr o)→gR f (n+1) (B k)=some o
 | 0,k,_,he=>by simp only [Nat.add_zero] at he;simp [gR,he]
 | n+1,k,hf,he=>by
  simp only [gR];rw [hf k (zQW _) (by omega)];exact tN B n (k+1) (λi h1 h2=>hf i (by omega) (by omega)) (by rw [show k+1+n=k+(n+1) by omega];exact he)
theorem gG {f:σ→Option (σ ⊕ ρ)} (B:Nat→σ) (n:Nat) {o:ρ} {s:σ} (hs:s=B 0) (hn:n≤9223372036854775807) (hf:∀ i,i < n→f (B i)=some (.inl (B (i+1)))) (he:f (B n)=some (.inr o)):bP f s=some o:=by
 subst hs;exact zM (tN B n 0 (λi _ h=>hf i (by omega)) (by rw [Nat.zero_add];exact he)) (by unfold aH;omega)
theorem oV {f : Int → Option (Int ⊕ ρ)} (n : Nat) (c : Nat → Option ρ) (o : ρ) (hn : n ≤ 9223372036854775807) (hf : ∀ i, i < n → f (i : Int) = match c i with
  | some r => some (.inr r)
  | none => some (.inl ((i : Int) + 1))) (he : f (n : Int) = some (.inr o)) : bP f 0 = some (((List.range n).findSome? c).getD o) := by
 cases h:(List.range n).findSome? c with
 | none=>
  rw [List.findSome?_eq_none_iff] at h;refine gG (λi=>(i:Int)) n rfl hn (λi hi=>?_) he;rw [hf i hi,h i (List.mem_range.2 hi)];rfl
 | some r=>
  rw [List.findSome?_eq_some_iff] at h;obtain⟨l1,a,l2,h1,h2,h3⟩:=h
  have ha:l1.length=a∧a < n:=by
   have hlen:l1.length < (List.range n).length:=by rw [h1];simp
   have:(List.range n)[l1.length]?=some a:=by rw [h1];simp
   simp only [List.length_range] at hlen;simp [hlen] at this;exact⟨this,by omega⟩
  obtain⟨ha1,ha2⟩:=ha;refine gG (λi=>(i:Int)) a rfl (by omega) (λi hi=>?_) ?_
  ·have hm:i∈l1:=by
    have:(List.range n)[i]?=some i:=List.getElem?_range (by omega);rw [h1,List.getElem?_append_left (by omega)] at this;exact zQM this
   rw [hf i (by omega),h3 i hm];rfl
  rw [hf a ha2,h2];rfl
theorem pC {α β:Type} (l:List α) (c:Nat→Option β) (d:α→Option β) (h:∀ (i:Nat) (e:α),l[i]?=some e→c i=d e):(List.range l.length).findSome? c=l.findSome? d:=by
 induction l generalizing c with
 | nil=>rfl
 | cons x r ih=>
  rw [List.length_cons,List.range_succ_eq_map,List.findSome?_cons,List.findSome?_map,List.findSome?_cons,h 0 x rfl]
  cases d x with
  | some b=>rfl
  | none=>exact ih (c ∘ Nat.succ) λi e he=>h (i+1) e (by simpa using he)
theorem xH {α : Type} {f : Int → Option (Int ⊕ ρ)} (l : List α) (d : α → Option ρ) (o : ρ) (hn : l.length ≤ 9223372036854775807) (hf : ∀ (i : Nat) (e : α), l[i]? = some e → f (i : Int) = match d e with
  | some r => some (.inr r)
  | none => some (.inl ((i : Int) + 1))) (he : f (l.length : Int) = some (.inr o)) : bP f 0 = some ((l.findSome? d).getD o) := by
 rw [oV l.length (λi=>(l[i]?).bind d) o hn (λi hi=>?_) he,pC l _ d (λi e he=>by simp [he])];rw [hf i l[i] (by simp),zQR hi];rfl
theorem lN {α β:Type} (l:List α) (c:α→Bool) (v:β):l.findSome? (λe=>if c e=true then some v else none)=if l.any c=true then some v else none:=by
 induction l with
 | nil=>rfl
 | cons x r ih=>
  rw [List.findSome?_cons,List.any_cons,ih];cases c x<;>simp
theorem tG {α:Type} {f:Int→Option (Int ⊕ ρ)} (l:List α) (c:α→Bool) (v o:ρ) (hn:l.length≤9223372036854775807) (hf:∀ (i:Nat) (e:α),l[i]?=some e→f (i:Int)=if c e=true then some (.inr v) else some (.inl ((i:Int)+1))) (he:f (l.length:Int)=some (.inr o)):bP f 0=some (if l.any c=true then v else o):=by
 rw [xH l (λe=>if c e=true then some v else none) o hn (λi e h=>by rw [hf i e h];cases c e<;>simp) he,lN];split<;>rfl
theorem mH {f:Int→Option (Int ⊕ ρ)} (n:Nat) (c:Nat→Bool) (v o:ρ) (hn:n≤9223372036854775807) (hf:∀ i,i < n→f (i:Int)=if c i=true then some (.inr v) else some (.inl ((i:Int)+1))) (he:f (n:Int)=some (.inr o)):bP f 0=some (if (List.range n).any c=true then v else o):=by
 rw [oV n (λe=>if c e=true then some v else none) o hn (λi h=>by rw [hf i h];cases c i<;>simp) he,lN];split<;>rfl
theorem xI {α:Type} {f:Int→Option (Int ⊕ ρ)} (l:List α) (c:α→Bool) (w:Nat→ρ) (o:ρ) (hn:l.length≤9223372036854775807) (hf:∀ (i:Nat) (e:α),l[i]?=some e→f (i:Int)=if c e=true then some (.inr (w i)) else some (.inl ((i:Int)+1))) (he:f (l.length:Int)=some (.inr o)):bP f 0=some (match l.findIdx? c with|some i=>w i|none=>o):=by
 cases h:l.findIdx? c with
 | none=>
  rw [List.findIdx?_eq_none_iff] at h;refine gG (λi=>(i:Int)) l.length rfl hn (λi hi=>?_) he;rw [hf i l[i] (by simp),if_neg (by rw [h l[i] (by simp)];simp)];rfl
 | some k=>
  rw [List.findIdx?_eq_some_iff_getElem] at h;obtain⟨hk,h1,h2⟩:=h;refine gG (λi=>(i:Int)) k rfl (by omega) (λi hi=>?_) ?_
  ·have hl : i < l.length := by omega
   have:=h2 i hi;rw [hf i l[i] (by simp),if_neg (by simpa using this)];rfl
  rw [hf k l[k] (by simp),if_pos h1]
theorem oW {β:Type} {f:Int×β→Option ((Int×β) ⊕ ρ)} (n:Nat) (B:Nat→β) {o:ρ} {b:β} (hb:b=B 0) (hn:n≤9223372036854775807) (hf:∀ i,i < n→f ((i:Int),B i)=some (.inl ((i:Int)+1,B (i+1)))) (he:f ((n:Int),B n)=some (.inr o)):bP f (0,b)=some o:=
 gG (λi=>((i:Int),B i)) n (by rw [hb];rfl) hn (λi hi=>by rw [hf i hi];rfl) he
theorem xJ {β:Type} {f:Int×β→Option ((Int×β) ⊕ ρ)} (n:Nat) (B:Nat→β) (c:Nat→Bool) (v o:ρ) {b:β} (hb:b=B 0) (hn:n≤9223372036854775807) (hf:∀ i,i < n→(∀ j,j < i→c j=false)→f ((i:Int),B i)=if c i=true then some (.inr v) else some (.inl ((i:Int)+1,B (i+1)))) (he:(∀ j,j < n→c j=false)→f ((n:Int),B n)=some (.inr o)):bP f (0,b)=some (if (List.range n).any c=true then v else o):=by
 cases h:(List.range n).findIdx? c with
 | none=>
  rw [List.findIdx?_eq_none_iff] at h;have hall:∀ j,j < n→c j=false:=λj hj=>by simpa using h j (List.mem_range.2 hj)
  have hno:¬ (List.range n).any c=true:=by
   rw [zQU];rintro⟨j,hj,hc⟩;rw [hall j (List.mem_range.1 hj)] at hc;cases hc
  rw [if_neg hno];exact oW n B hb hn (λi hi=>by rw [hf i hi (λj hj=>hall j (by omega)),hall i hi];rfl) (he hall)
 | some k=>
  rw [List.findIdx?_eq_some_iff_getElem] at h;obtain⟨hk,h1,h2⟩:=h;simp only [List.length_range] at hk;simp only [List.getElem_range] at h1;have hb':∀ j,j < k→c j=false:=λj hj=>by have:=h2 j hj;simpa using this
  have hyes:(List.range n).any c=true:=zQU.2 ⟨k,List.mem_range.2 hk,h1⟩;rw [if_pos hyes];exact oW k B hb (by omega) (λi hi=>by rw [hf i (by omega) (λj hj=>hb' j (by omega)),hb' i hi];rfl) (by rw [hf k hk hb',h1];rfl)
def bD (b:Bool):Int:=if b=true then 1 else 0
def bH (D:List Node) (n:Node):List Node×Int:=
 if n.lo=n.hi then (D,n.lo) else match D.findIdx? (λm=>decide (m=n)) with|some i=>(D,(i:Int)+2)|none=>(D++[n],(D.length:Int)+2)
abbrev Fn:=List Bool→Bool
def aE (D:List Node):Nat→Fn→Int→List Node×Int
 | 0,f,_=>(D,bD (f []))
 | k+1,f,v=>
  let a:=aE D k (λl=>f (false :: l)) (v+1)
  let b:=aE a.1 k (λl=>f (true :: l)) (v+1)
  bH b.1 ⟨v,a.2,b.2⟩
def Has (D:List Node):Nat→Fn→Int→Int→Prop
 | 0,f,_,x=>x=bD (f [])
 | k+1,f,v,x=>∃ lo hi,Has D k (λl=>f (false :: l)) (v+1) lo∧Has D k (λl=>f (true :: l)) (v+1) hi∧(if lo=hi then x=lo else 2≤x∧D[(x - 2).toNat]?=some ⟨v,lo,hi⟩)
theorem gI (D:List Node) (n:Node):D <+: (bH D n).1:=by
 unfold bH;split
 ·exact List.prefix_refl _
 split
 ·exact List.prefix_refl _
 exact List.prefix_append _ _
theorem bC:∀ (k:Nat) (D:List Node) (f:Fn) (v:Int),D <+: (aE D k f v).1
 | 0,D,f,v=>List.prefix_refl _
 | k+1,D,f,v=>((bC k D _ _).trans (bC k _ _ _)).trans (gI _ _)
theorem fR {D E:List Node} (h:D <+: E) {i:Nat} {n:Node} (hi:D[i]?=some n):E[i]?=some n:=by
 obtain⟨t,rfl⟩:=h;rw [List.getElem?_append_left (zQQ.1 hi).1];exact hi
theorem Has.mono {D E:List Node} (h:D <+: E):∀ {k:Nat} {f:Fn} {v x:Int},Has D k f v x→Has E k f v x
 | 0,f,v,x,hh=>hh
 | k+1,f,v,x,⟨lo,hi,h1,h2,h3⟩=>by
  refine⟨lo,hi,h1.mono h,h2.mono h,?_⟩;split
  ·rename_i he;rw [if_pos he] at h3;exact h3
  rename_i he;rw [if_neg he] at h3;exact⟨h3.1,fR h h3.2⟩
theorem qAP (D:List Node) (n:Node):if n.lo=n.hi then (bH D n).2=n.lo else 2≤(bH D n).2∧(bH D n).1[((bH D n).2 - 2).toNat]?=some n:=by
 unfold bH;by_cases he:n.lo=n.hi
 ·simp only [if_pos he]
 simp only [if_neg he]
 cases hf:D.findIdx? (λm=>decide (m=n)) with
 | some i=>
  rw [List.findIdx?_eq_some_iff_getElem] at hf;obtain⟨hi,hp,_⟩:=hf;dsimp only;refine⟨by omega,?_⟩;rw [show ((i:Int)+2 - 2).toNat=i by omega,zQR hi,of_decide_eq_true hp]
 | none=>
  dsimp only;refine⟨by omega,?_⟩;rw [show ((D.length:Int)+2 - 2).toNat=D.length by omega];simp
theorem bW:∀ (k:Nat) (D:List Node) (f:Fn) (v:Int),Has (aE D k f v).1 k f v (aE D k f v).2
 | 0,D,f,v=>rfl
 | k+1,D,f,v=>by
  have h1:=bW k D (λl=>f (false :: l)) (v+1);have h2:=bW k (aE D k (λl=>f (false :: l)) (v+1)).1 (λl=>f (true :: l)) (v+1);have p2:=bC k (aE D k (λl=>f (false :: l)) (v+1)).1 (λl=>f (true :: l)) (v+1);have p3:=gI (aE (aE D k (λl=>f (false :: l)) (v+1)).1 k (λl=>f (true :: l)) (v+1)).1 ⟨v,(aE D k (λl=>f (false :: l)) (v+1)).2,(aE (aE D k (λl=>f (false :: l)) (v+1)).1 k (λl=>f (true :: l)) (v+1)).2⟩;refine⟨_,_,h1.mono (p2.trans p3),h2.mono p3,?_⟩;exact qAP (aE (aE D k (λl=>f (false :: l)) (v+1)).1 k (λl=>f (true :: l)) (v+1)).1 ⟨v,(aE D k (λl=>f (false :: l)) (v+1)).2,(aE (aE D k (λl=>f (false :: l)) (v+1)).1 k (λl=>f (true :: l)) (v+1)).2⟩
theorem pM {D:List Node} (h:D.Nodup) (n:Node):(bH D n).1.Nodup:=by
 unfold bH;split
 ·exact h
 split
 ·exact h
 rename_i hf;rw [List.findIdx?_eq_none_iff] at hf;rw [List.nodup_append];refine⟨h,by simp,λa ha b hb=>?_⟩;rw [List.mem_singleton] at hb;subst hb;intro he;have:=hf a ha;simp [he] at this
theorem eZ:∀ (k:Nat) {D:List Node} (f:Fn) (v:Int),D.Nodup→(aE D k f v).1.Nodup
 | 0,D,f,v,h=>h
 | k+1,D,f,v,h=>pM (eZ k _ _ (eZ k _ _ h)) _
theorem vC {D:List Node} (h:D.Nodup) {i:Nat} {n:Node} (hi:D[i]?=some n):D.findIdx? (λm=>decide (m=n))=some i:=by
 rw [List.findIdx?_eq_some_iff_getElem];obtain⟨hl,he⟩:=zQQ.1 hi;refine⟨hl,decide_eq_true he,λj hj=>?_⟩
 have hne:D[j]≠D[i]:=by
  unfold List.Nodup at h;rw [List.pairwise_iff_getElem] at h;exact h j i (by omega) hl hj
 rw [he] at hne;simpa using hne
theorem cD {D:List Node} (hn:D.Nodup):∀ {k:Nat} {f:Fn} {v x:Int},Has D k f v x→aE D k f v=(D,x)
 | 0,f,v,x,h=>by
  have h:x=bD (f []):=h;rw [h];rfl
 | k+1,f,v,x,⟨lo,hi,h1,h2,h3⟩=>by
  have e1:=cD hn h1;have e2:=cD hn h2;show bH (aE (aE D k (λl=>f (false :: l)) (v+1)).1 k (λl=>f (true :: l)) (v+1)).1 _=_;rw [e1];dsimp only;rw [e2];unfold bH;dsimp only;by_cases he:lo=hi
  ·rw [if_pos he];rw [if_pos he] at h3;rw [h3]
  rw [if_neg he];rw [if_neg he] at h3;rw [vC hn h3.2];dsimp only;rw [show (((x - 2).toNat:Nat):Int)+2=x by omega]
theorem Has.unique {D:List Node} (hn:D.Nodup) {k:Nat} {f:Fn} {v x y:Int} (h1:Has D k f v x) (h2:Has D k f v y):x=y:=by
 have a:=cD hn h1;have b:=cD hn h2;rw [a] at b;exact (Prod.mk.inj b).2
theorem Has.congr {D:List Node}:∀ {k:Nat} {f g:Fn} {v x:Int},(∀ l,l.length=k→f l=g l)→Has D k f v x→Has D k g v x
 | 0,f,g,v,x,h,hh=>by
  have hh:x=bD (f []):=hh;show x=bD (g []);rw [← h [] rfl];exact hh
 | k+1,f,g,v,x,h,⟨lo,hi,h1,h2,h3⟩=>⟨lo,hi,h1.congr λl hl=>h _ (by simp [hl]),h2.congr λl hl=>h _ (by simp [hl]),h3⟩
theorem bU:∀ {k:Nat} {D:List Node} {f g:Fn} {v:Int},(∀ l,l.length=k→f l=g l)→aE D k f v=aE D k g v
 | 0,D,f,g,v,h=>by show (D,bD (f []))=(D,bD (g []));rw [h [] rfl]
 | k+1,D,f,g,v,h=>by
  show bH (aE (aE D k (λl=>f (false :: l)) (v+1)).1 k (λl=>f (true :: l)) (v+1)).1 _=bH (aE (aE D k (λl=>g (false :: l)) (v+1)).1 k (λl=>g (true :: l)) (v+1)).1 _;rw [bU (k:=k) (D:=D) (f:=λl=>f (false :: l)) (g:=λl=>g (false :: l)) λl hl=>h _ (by simp [hl])];rw [bU (k:=k) (f:=λl=>f (true :: l)) (g:=λl=>g (true :: l)) λl hl=>h _ (by simp [hl])]
theorem Has.skip {D:List Node} {k:Nat} {f:Fn} {v x:Int} (h:∀ l,l.length=k→f (false :: l)=f (true :: l)) (hh:Has D k (λl=>f (false :: l)) (v+1) x):Has D (k+1) f v x:=
 ⟨x,x,hh,hh.congr h,by rw [if_pos rfl]⟩
theorem Has.unskip {D:List Node} (hn:D.Nodup) {k:Nat} {f:Fn} {v x:Int} (h:∀ l,l.length=k→f (false :: l)=f (true :: l)) (hh:Has D (k+1) f v x):Has D k (λl=>f (false :: l)) (v+1) x:=by
 obtain⟨lo,hi,h1,h2,h3⟩:=hh;have he:lo=hi:=Has.unique hn (h1.congr h) h2;rw [if_pos he] at h3;rw [h3];exact h1
theorem Has.const {D:List Node} (c:Bool):∀ {k:Nat} {f:Fn} {v:Int},(∀ l,l.length=k→f l=c)→Has D k f v (bD c)
 | 0,f,v,h=>by show bD c=bD (f []);rw [h [] rfl]
 | k+1,f,v,h=>Has.skip (λl hl=>by rw [h _ (by simp [hl]),h _ (by simp [hl])]) (Has.const c λl hl=>h _ (by simp [hl]))
theorem oR {D:List Node} (hn:D.Nodup) {k:Nat} {f:Fn} {v:Int} (h:∀ l,l.length=k→f (false :: l)=f (true :: l)):aE D (k+1) f v=aE D k (λl=>f (false :: l)) (v+1):=by
 have h1:=bW k D (λl=>f (false :: l)) (v+1);have h2:=eZ k (λl=>f (false :: l)) (v+1) hn;show bH (aE (aE D k (λl=>f (false :: l)) (v+1)).1 k (λl=>f (true :: l)) (v+1)).1 _=_;rw [cD h2 (h1.congr h)];unfold bH;rw [if_pos rfl]
theorem mX {D:List Node} (hn:D.Nodup) (c:Bool) {k:Nat} {f:Fn} {v:Int} (h:∀ l,l.length=k→f l=c):aE D k f v=(D,bD c):=cD hn (Has.const c h)
def aG (D:List Node) (x:Int):Int:=if x < 2 then 64 else match D[(x - 2).toNat]? with|some n=>n.var|none=>64
def evF (D:List Node) (s:Int→Bool):Nat→Int→Bool
 | 0,x=>decide (x=1)
 | f+1,x=>if x < 2 then decide (x=1) else match D[(x - 2).toNat]? with|some n=>evF D s f (if s n.var=true then n.hi else n.lo)|none=>false
def eU (D:List Node) (x:Int) (s:Int→Bool):Bool:=evF D s x.toNat x
structure WfD (D:List Node):Prop where
 vars:∀ (i:Nat) (n:Node),D[i]?=some n→0≤n.var∧n.var < 64
 lo:∀ (i:Nat) (n:Node),D[i]?=some n→0≤n.lo∧n.lo < (i:Int)+2∧n.var < aG D n.lo
 hi:∀ (i:Nat) (n:Node),D[i]?=some n→0≤n.hi∧n.hi < (i:Int)+2∧n.var < aG D n.hi
 ne:∀ (i:Nat) (n:Node),D[i]?=some n→n.lo≠n.hi
theorem pF {D:List Node} (h:WfD D) (s:Int→Bool):∀ (f:Nat) (x:Int),0≤x→x≤(f:Int)→evF D s f x=evF D s x.toNat x
 | 0,x,h0,h1=>by rw [show x=0 by omega];rfl
 | f+1,x,h0,h1=>by
  by_cases hx:x < 2
  ·rcases (by omega : x = 0 ∨ x = 1) with e | e <;> subst e
   ·rfl
   rfl
  obtain ⟨m, hm⟩ : ∃ m : Nat, x.toNat = m + 1 := ⟨x.toNat - 1, by omega⟩;rw [hm];unfold evF;rw [if_neg hx,if_neg hx]
  cases hn:D[(x - 2).toNat]? with
  | none=>rfl
  | some n=>
   dsimp only;have hl:=h.lo _ n hn;have hh:=h.hi _ n hn;have hc:0≤(if s n.var=true then n.hi else n.lo)∧(if s n.var=true then n.hi else n.lo) < x:=by split<;>omega
   rw [pF h s f _ hc.1 (by omega),pF h s m _ hc.1 (by omega)]
theorem vV (D:List Node) (s:Int→Bool) (b:Bool):eU D (bD b) s=b:=by cases b<;>rfl
theorem eB {D:List Node} (h:WfD D) {x:Int} {n:Node} (hx:2≤x) (hn:D[(x - 2).toNat]?=some n) (s:Int→Bool):eU D x s=eU D (if s n.var=true then n.hi else n.lo) s:=by
 have hl:=h.lo _ n hn;have hh:=h.hi _ n hn;have hc:0≤(if s n.var=true then n.hi else n.lo)∧(if s n.var=true then n.hi else n.lo) < x:=by split<;>omega
 obtain⟨m,hm⟩:∃ m:Nat,x.toNat=m+1:=⟨x.toNat - 1,by omega⟩;unfold eU;rw [hm]
 conv=>lhs;unfold evF
 rw [if_neg (by omega),hn];dsimp only;exact pF h s m _ hc.1 (by omega)
theorem dM {D:List Node} (h:WfD D) {s u:Int→Bool}:∀ (m:Nat) (x:Int),0≤x→x.toNat≤m→(∀ w,aG D x≤w→w < 64→s w=u w)→eU D x s=eU D x u
 | m,x,h0,hm,hs=>by
  by_cases hx:x < 2
  ·rcases (by omega:x=0∨x=1) with e|e<;>subst e<;>rfl
  cases hn:D[(x - 2).toNat]? with
  | none=>
   unfold eU;obtain⟨q,hq⟩:∃ q:Nat,x.toNat=q+1:=⟨x.toNat - 1,by omega⟩;rw [hq];unfold evF;rw [if_neg hx,if_neg hx,hn]
  | some n=>
   have hvx:aG D x=n.var:=by unfold aG;rw [if_neg hx,hn]
   have hl:=h.lo _ n hn;have hh:=h.hi _ n hn;have hv:=h.vars _ n hn;rw [eB h (by omega) hn,eB h (by omega) hn,hs n.var (by omega) hv.2]
   cases m with
   | zero=>omega
   | succ m=>
    split
    ·exact dM h m _ hh.1 (by omega) λw hw hw2=>hs w (by omega) hw2
    exact dM h m _ hl.1 (by omega) λw hw hw2=>hs w (by omega) hw2
def asg (v:Int) (l:List Bool):Int→Bool:=λw=>decide (v≤w)&&l.getD (w - v).toNat false
theorem gU {v:Int} {b:Bool} {l:List Bool} {w:Int} (h:v < w):asg v (b :: l) w=asg (v+1) l w:=by
 unfold asg;rw [decide_eq_true (show v≤w by omega),decide_eq_true (show v+1≤w by omega),show (w - v).toNat=(w - (v+1)).toNat+1 by omega];rfl
theorem lU (v:Int) (b:Bool) (l:List Bool):asg v (b :: l) v=b:=by
 unfold asg;rw [decide_eq_true (Int.le_refl v),Int.sub_self];rfl
def fnD (D:List Node) (x v:Int):Fn:=λl=>eU D x (asg v l)
def InD (D:List Node) (x:Int):Prop:=0≤x∧x < (D.length:Int)+2
theorem InD.get {D:List Node} {x:Int} (h:InD D x) (hx:2≤x):∃ n,D[(x - 2).toNat]?=some n:=⟨_,zQR (by have:=h.2;omega)⟩
theorem eA {D:List Node} (h:WfD D) (x:Int):aG D x≤64:=by
 unfold aG;split
 ·omega
 split
 ·rename_i n hn;have:=h.vars _ n hn;omega
 omega
theorem jO {D:List Node} (h:WfD D) {x v:Int} (h0:0≤x) (hv:v < aG D x) (b:Bool) (l:List Bool):fnD D x v (b :: l)=fnD D x (v+1) l:=
 dM h x.toNat x h0 (zQW _) λw hw _=>gU (by omega)
theorem gT {D:List Node} (h:WfD D):∀ (k:Nat) (x v:Int),InD D x→v≤aG D x→(aG D x < 64→aG D x < v+k)→(∀ (i:Nat) (n:Node),D[i]?=some n→n.var < v+k)→Has D k (fnD D x v) v x
 | 0,x,v,hx,hv,hw,hall=>by
  have hlt:x < 2:=by
   rcases Int.lt_or_le x 2 with h1|h1
   ·exact h1
   obtain⟨n,hn⟩:=hx.get h1;have hvx:aG D x=n.var:=by unfold aG;rw [if_neg (by omega),hn]
   have:=hall _ n hn;omega
  have h0:=hx.1;rcases (by omega:x=0∨x=1) with e|e<;>subst e<;>rfl
 | k+1,x,v,hx,hv,hw,hall=>by
  by_cases he:aG D x=v∧2≤x
  ·obtain⟨n,hn⟩:=hx.get he.2;have hvx:aG D x=n.var:=by unfold aG;rw [if_neg (by omega),hn]
   have hl:=h.lo _ n hn;have hh:=h.hi _ n hn;have hin:∀ c:Int,0≤c→c < (((x - 2).toNat:Nat):Int)+2→InD D c:=λc a b=>⟨a,by have:=hx.2;omega⟩
   have sub:∀ c:Int,InD D c→aG D c < 64→aG D c < v+1+(k:Int):=λc hc hc2=>by
    unfold aG at hc2 ⊢;by_cases h2:c < 2
    ·rw [if_pos h2] at hc2;omega
    obtain ⟨q, hq⟩ := hc.get (by omega);rw [if_neg h2,hq];have:=hall _ q hq;dsimp only;omega
   have f0:∀ l:List Bool,fnD D x v (false :: l)=fnD D n.lo (v+1) l:=λl=>by
    show eU D x _=eU D n.lo _;rw [eB h he.2 hn,show n.var=v by omega,lU,if_neg (by simp)];exact dM h n.lo.toNat n.lo hl.1 (zQW _) λw hw2 _=>gU (by omega)
   have f1:∀ l:List Bool,fnD D x v (true :: l)=fnD D n.hi (v+1) l:=λl=>by
    show eU D x _=eU D n.hi _;rw [eB h he.2 hn,show n.var=v by omega,lU,if_pos rfl];exact dM h n.hi.toNat n.hi hh.1 (zQW _) λw hw2 _=>gU (by omega)
   refine⟨n.lo,n.hi,?_,?_,?_⟩
   ·exact (gT h k n.lo (v+1) (hin _ hl.1 hl.2.1) (by omega) (sub _ (hin _ hl.1 hl.2.1)) λi q hq=>by have:=hall i q hq;omega).congr λl _=>(f0 l).symm
   ·exact (gT h k n.hi (v+1) (hin _ hh.1 hh.2.1) (by omega) (sub _ (hin _ hh.1 hh.2.1)) λi q hq=>by have:=hall i q hq;omega).congr λl _=>(f1 l).symm
   rw [if_neg (h.ne _ n hn)];refine⟨he.2,?_⟩;rw [hn,show v=n.var by omega]
  have hlt : v < aG D x ∨ x < 2 := by omega
  have hsk:∀ (b:Bool) (l:List Bool),fnD D x v (b :: l)=fnD D x (v+1) l:=λb l=>by
   rcases hlt with h1|h1
   ·exact jO h hx.1 h1 b l
   have h0:=hx.1;rcases (by omega:x=0∨x=1) with e|e<;>subst e<;>rfl
  have hv2:v+1≤aG D x∨x < 2:=by omega
  refine Has.skip (λl _=>by rw [hsk,hsk]) ?_;by_cases h2:x < 2
  ·have h0:=hx.1;have hb:x=bD (decide (x=1)):=by rcases (by omega:x=0∨x=1) with e|e<;>subst e<;>rfl
   have hcst:∀ l:List Bool,fnD D x v (false :: l)=decide (x=1):=λl=>by rcases (by omega:x=0∨x=1) with e|e<;>subst e<;>rfl
   have:=Has.const (D:=D) (decide (x=1)) (k:=k) (f:=λl=>fnD D x v (false :: l)) (v:=v+1) (λl _=>hcst l);rw [← hb] at this;exact this
  exact (gT h k x (v+1) hx (by omega) (λh64=>by have:=hw h64;omega) λi q hq=>by have:=hall i q hq;omega).congr λl _=>(hsk false l).symm
def cG (D:List Node):Nat→Int→Int→Option Int
 | 0,_,_=>none
 | f+1,x,left=>if x < 2∨x < left then some left else match D[(x - 2).toNat]? with
  | none=>none
  | some n=>(cG D f n.lo left).bind λl1=>(cG D f n.hi l1).bind λl2=>if x=l2 then some (l2+1) else none
theorem WfD.take {D:List Node} (h:WfD D) (m:Nat):WfD (D.take m):=by
 have hg:∀ (i:Nat) (n:Node),(D.take m)[i]?=some n→D[i]?=some n∧i < m:=λi n hn=>by
  rw [List.getElem?_take] at hn;split at hn
  ·exact⟨hn,by assumption⟩
  cases hn
 have hv:∀ (i:Nat) (c:Int),i < m→c < (i:Int)+2→aG (D.take m) c=aG D c:=λi c hi hc=>by
  unfold aG;split
  ·rfl
  rw [List.getElem?_take,if_pos (by omega)]
 refine⟨λi n hn=>h.vars i n (hg i n hn).1,λi n hn=>?_,λi n hn=>?_,λi n hn=>h.ne i n (hg i n hn).1⟩
 ·have h1:=hg i n hn;have h2:=h.lo i n h1.1;rw [hv i _ h1.2 h2.2.1];exact h2
 have h1:=hg i n hn;have h2:=h.hi i n h1.1;rw [hv i _ h1.2 h2.2.1];exact h2
theorem kZ {D:List Node} (h:WfD D) (m:Nat) (s:Int→Bool):∀ (q:Nat) (x:Int),0≤x→x.toNat≤q→x < (m:Int)+2→eU (D.take m) x s=eU D x s
 | q,x,h0,hq,hm=>by
  by_cases hx:x < 2
  ·rcases (by omega:x=0∨x=1) with e|e<;>subst e<;>rfl
  have hg : (D.take m)[(x - 2).toNat]? = D[(x - 2).toNat]? := by rw [List.getElem?_take, if_pos (by omega)]
  cases hn:D[(x - 2).toNat]? with
  | none=>
   unfold eU;obtain⟨z,hz⟩:∃ z:Nat,x.toNat=z+1:=⟨x.toNat - 1,by omega⟩;rw [hz];unfold evF;rw [if_neg hx,if_neg hx,hg,hn]
  | some n=>
   have hl:=h.lo _ n hn;have hh:=h.hi _ n hn;rw [eB (h.take m) (by omega) (hg.trans hn),eB h (by omega) hn]
   cases q with
   | zero=>omega
   | succ q=>
    split
    ·exact kZ h m s q _ hh.1 (by omega) (by omega)
    exact kZ h m s q _ hl.1 (by omega) (by omega)
theorem pZ {D:List Node} {m:Nat} {c:Int} (hc:c < (m:Int)+2):aG (D.take m) c=aG D c:=by
 unfold aG;split
 ·rfl
 rw [List.getElem?_take,if_pos (by omega)]
theorem qBU {D:List Node} (h:WfD D) {m:Nat} {x v:Int} (h0:0≤x) (hx:x < (m:Int)+2) (l:List Bool):fnD (D.take m) x v l=fnD D x v l:=kZ h m _ x.toNat x h0 (zQW _) hx
theorem zT {D:List Node} (h:WfD D) {x:Int} {n:Node} (hx:2≤x) (hn:D[(x - 2).toNat]?=some n) (l:List Bool):fnD D x n.var (false :: l)=fnD D n.lo (n.var+1) l:=by
 have hl:=h.lo _ n hn;show eU D x _=eU D n.lo _;rw [eB h hx hn,lU,if_neg (by simp)];exact dM h n.lo.toNat n.lo hl.1 (zQW _) λw hw2 _=>gU (by omega)
theorem zV {D:List Node} (h:WfD D) {x:Int} {n:Node} (hx:2≤x) (hn:D[(x - 2).toNat]?=some n) (l:List Bool):fnD D x n.var (true :: l)=fnD D n.hi (n.var+1) l:=by
 have hl:=h.hi _ n hn;show eU D x _=eU D n.hi _;rw [eB h hx hn,lU,if_pos rfl];exact dM h n.hi.toNat n.hi hl.1 (zQW _) λw hw2 _=>gU (by omega)
theorem wZ {D:List Node} (h:WfD D) (hnd:D.Nodup) {k:Nat} {x v:Int} {m:Nat} (h0:0≤x) (hx:x < (m:Int)+2) (hxl:x < (D.length:Int)+2) (hv:v≤aG D x) (hall:∀ (i:Nat) (n:Node),D[i]?=some n→n.var < v+k):aE (D.take m) k (fnD D x v) v=(D.take m,x):=by
 have hin:InD (D.take m) x:=⟨h0,by rw [List.length_take];omega⟩
 have hall2:∀ (i:Nat) (n:Node),(D.take m)[i]?=some n→n.var < v+k:=λi n hn=>by
  rw [List.getElem?_take] at hn;split at hn
  ·exact hall i n hn
  cases hn
 refine cD (hnd.sublist (List.take_sublist m D)) ?_;refine (gT (h.take m) k x v hin (by rw [pZ hx];exact hv) (λhlt=>?_) hall2).congr λl _=>qBU h h0 hx l;rw [pZ hx] at hlt ⊢;unfold aG at hlt ⊢;by_cases h2:x < 2
 ·rw [if_pos h2] at hlt;omega
 obtain ⟨n, hn⟩ := (show InD D x from ⟨h0, hxl⟩).get (by omega);rw [if_neg h2,hn];have:=hall _ n hn;dsimp only;omega
theorem nZ {D:List Node} (h:WfD D) (hnd:D.Nodup):∀ (f k:Nat) (x v left left':Int),cG D f x left=some left'→InD D x→2≤left→left≤(D.length:Int)+2→v≤aG D x→(∀ (i:Nat) (n:Node),D[i]?=some n→n.var < v+k)→aE (D.take (left - 2).toNat) k (fnD D x v) v=(D.take (left' - 2).toNat,x)∧left≤left'∧left'≤(D.length:Int)+2
 | 0,k,x,v,left,left',hvis,_,_,_,_,_=>by cases hvis
 | f+1,k,x,v,left,left',hvis,hx,hl1,hl2,hv,hall=>by
  by_cases hs:x < 2∨x < left
  ·unfold cG at hvis;rw [if_pos hs] at hvis;cases hvis;exact⟨wZ h hnd hx.1 (by omega) hx.2 hv hall,by omega,hl2⟩
  have hx2 : 2 ≤ x := by omega
  obtain⟨n,hn⟩:=hx.get hx2;have hvx:aG D x=n.var:=by unfold aG;rw [if_neg (by omega),hn]
  have hvis0:=hvis;unfold cG at hvis;rw [if_neg hs,hn] at hvis;dsimp only at hvis
  cases e1:cG D f n.lo left with
  | none=>rw [e1] at hvis;cases hvis
  | some l1=>
   rw [e1] at hvis;simp only [Option.bind_some] at hvis
   cases e2:cG D f n.hi l1 with
   | none=>rw [e2] at hvis;cases hvis
   | some l2=>
    rw [e2] at hvis;simp only [Option.bind_some] at hvis;by_cases hxl:x=l2
    ·rw [if_pos hxl] at hvis;have hl':left'=l2+1:=(Option.some.inj hvis).symm;have hlo:=h.lo _ n hn;have hhi:=h.hi _ n hn;have hvars:=h.vars _ n hn;have inlo:InD D n.lo:=⟨hlo.1,by have:=hx.2;omega⟩;have inhi:InD D n.hi:=⟨hhi.1,by have:=hx.2;omega⟩
     have down:∀ (d:Nat) (v:Int) (k:Nat),n.var=v+d→(∀ (i:Nat) (n:Node),D[i]?=some n→n.var < v+k)→aE (D.take (left - 2).toNat) k (fnD D x v) v=(D.take (left' - 2).toNat,x)∧left≤left'∧left'≤(D.length:Int)+2:=by
      intro d
      induction d with
      | zero=>
       intro v k hd hall;have hvn:v=n.var:=by omega
       subst hvn;have hk:=hall _ n hn;obtain⟨q,rfl⟩:∃ q,k=q+1:=⟨k - 1,by omega⟩;have hall':∀ (i:Nat) (z:Node),D[i]?=some z→z.var < n.var+1+q:=λi z hz=>by have:=hall i z hz;omega
       have r1:=nZ h hnd f q n.lo (n.var+1) left l1 e1 inlo hl1 hl2 (by omega) hall';have r2:=nZ h hnd f q n.hi (n.var+1) l1 l2 e2 inhi (by omega) r1.2.2 (by omega) hall'
       have f0:aE (D.take (left - 2).toNat) q (λl=>fnD D x n.var (false :: l)) (n.var+1)=(D.take (l1 - 2).toNat,n.lo):=by
        rw [bU (g:=fnD D n.lo (n.var+1)) λl _=>zT h hx2 hn l];exact r1.1
       have f1:aE (D.take (l1 - 2).toNat) q (λl=>fnD D x n.var (true :: l)) (n.var+1)=(D.take (l2 - 2).toNat,n.hi):=by
        rw [bU (g:=fnD D n.hi (n.var+1)) λl _=>zV h hx2 hn l];exact r2.1
       refine⟨?_,by omega,by have:=hx.2;omega⟩;show bH (aE (aE (D.take (left - 2).toNat) q (λl=>fnD D x n.var (false :: l)) (n.var+1)).1 q (λl=>fnD D x n.var (true :: l)) (n.var+1)).1 _=_;rw [f0];dsimp only;rw [f1];unfold bH;dsimp only;rw [if_neg (h.ne _ n hn)]
       have hnf:(D.take (l2 - 2).toNat).findIdx? (λm=>decide (m=n))=none:=by
        rw [List.findIdx?_eq_none_iff];intro z hz;refine decide_eq_false λhe=>?_;subst he;obtain⟨i,hi,hie⟩:=List.mem_take_iff_getElem.1 hz;have hxl2:(x - 2).toNat < D.length:=(zQQ.1 hn).1
        have hne:D[i]'(by omega)≠D[(x - 2).toNat]:=by
         unfold List.Nodup at hnd;rw [List.pairwise_iff_getElem] at hnd;exact hnd i _ (by omega) hxl2 (by omega)
        exact hne (by rw [hie,(zQQ.1 hn).2])
       rw [hnf];dsimp only;have hlen:(D.take (l2 - 2).toNat).length=(l2 - 2).toNat:=by rw [List.length_take];have:=hx.2;omega
       rw [hlen,show (((l2 - 2).toNat:Nat):Int)+2=x by omega,show (left' - 2).toNat=(l2 - 2).toNat+1 by omega,List.take_add_one,show (l2 - 2).toNat=(x - 2).toNat by omega,hn];rfl
      | succ d ih=>
       intro v k hd hall;have hk:=hall _ n hn;obtain⟨q,rfl⟩:∃ q,k=q+1:=⟨k - 1,by omega⟩;have hsk:∀ (b:Bool) (l:List Bool),fnD D x v (b :: l)=fnD D x (v+1) l:=λb l=>jO h hx.1 (by omega) b l;rw [oR (hnd.sublist (List.take_sublist _ D)) λl _=>by rw [hsk,hsk],bU (g:=fnD D x (v+1)) λl _=>hsk false l];exact ih (v+1) q (by omega) λi z hz=>by have:=hall i z hz;omega
     exact down (n.var - v).toNat v k (by omega) hall
    rw [if_neg hxl] at hvis;cases hvis
theorem oA {D:List Node} (h:WfD D) (hnd:D.Nodup) {f:Nat} {root:Int} (hr:InD D root) (hv:cG D f root 2=some ((D.length:Int)+2)) {k:Nat} (hall:∀ (i:Nat) (n:Node),D[i]?=some n→n.var < (k:Int)):aE [] k (fnD D root 0) 0=(D,root):=by
 have h0:(0:Int)≤aG D root:=by
  unfold aG;split
  ·omega
  split
  ·rename_i n hn;exact (h.vars _ n hn).1
  omega
 have:=(nZ h hnd f k root 0 2 _ hv hr (by omega) (by omega) h0 λi n hn=>by have:=hall i n hn;omega).1;rw [show (D.take (((2:Int) - 2).toNat))=[] from rfl] at this;rw [this,show ((D.length:Int)+2 - 2).toNat=D.length by omega,List.take_length]
def dT (x:Int):Int:=if x < 2 then 1 - x else x
def eM (n:Node):Node:=⟨n.var,dT n.lo,dT n.hi⟩
def NN (D:List Node):Prop:=∀ n∈D,0≤n.lo∧0≤n.hi
theorem pB {x y:Int} (hx:0≤x) (hy:0≤y):dT x=dT y↔x=y:=by unfold dT;split<;>split<;>omega
theorem yZ {n m:Node} (hn:0≤n.lo∧0≤n.hi) (hm:0≤m.lo∧0≤m.hi):eM n=eM m↔n=m:=by
 cases n;cases m;simp only [eM,Node.mk.injEq] at *;rw [pB hn.1 hm.1,pB hn.2 hm.2]
theorem qDT {D:List Node} (h:NN D) {n:Node} (hn:0≤n.lo∧0≤n.hi):NN (bH D n).1∧0≤(bH D n).2:=by
 unfold bH;split
 ·exact⟨h,hn.1⟩
 split
 ·exact⟨h,by dsimp only;omega⟩
 refine ⟨fun m hm => ?_, by dsimp only; omega⟩;rcases zQN.1 hm with hm|hm
 ·exact h m hm
 rw [List.mem_singleton] at hm;subst hm;exact hn
theorem lH:∀ (k:Nat) {D:List Node} (f:Fn) (v:Int),NN D→NN (aE D k f v).1∧0≤(aE D k f v).2
 | 0,D,f,v,h=>⟨h,by show 0≤bD _;unfold bD;split<;>omega⟩
 | k+1,D,f,v,h=>by
  have h1:=lH k (λl=>f (false :: l)) (v+1) h;have h2:=lH k (λl=>f (true :: l)) (v+1) h1.1;exact qDT h2.1 ⟨h1.2,h2.2⟩
theorem qAO {D:List Node} (h:NN D) {n:Node} (hn:0≤n.lo∧0≤n.hi):bH (D.map eM) (eM n)=((bH D n).1.map eM,dT (bH D n).2):=by
 unfold bH;by_cases he:n.lo=n.hi
 ·rw [if_pos (show (eM n).lo = (eM n).hi by show dT n.lo = dT n.hi; rw [he]), if_pos he];rfl
 rw [if_neg (show ¬ (eM n).lo = (eM n).hi by show ¬ dT n.lo = dT n.hi; rw [pB hn.1 hn.2]; exact he), if_neg he, List.findIdx?_map]
 have hc:D.findIdx? ((λm=>decide (m=eM n)) ∘ eM)=D.findIdx? (λm=>decide (m=n)):=by
  have:∀ E:List Node,NN E→E.findIdx? ((λm=>decide (m=eM n)) ∘ eM)=E.findIdx? (λm=>decide (m=n)):=by
   intro E
   induction E with
   | nil=>intro _;rfl
   | cons m r ih=>
    intro hE;rw [List.findIdx?_cons,List.findIdx?_cons,ih λx hx=>hE x (List.mem_cons_of_mem _ hx)]
    have hm:((λm=>decide (m=eM n)) ∘ eM) m=decide (m=n):=by
     show decide (eM m=eM n)=decide (m=n);rw [Bool.eq_iff_iff,decide_eq_true_eq,decide_eq_true_eq,yZ (hE m List.mem_cons_self) hn]
    rw [hm]
  exact this D h
 rw [hc]
 cases D.findIdx? (λm=>decide (m=n)) with
 | some i=>dsimp only;rw [show dT ((i:Int)+2)=(i:Int)+2 by unfold dT;rw [if_neg (by omega)]]
 | none=>
  dsimp only;rw [zQC,List.map_append,show dT ((D.length:Int)+2)=(D.length:Int)+2 by unfold dT;rw [if_neg (by omega)]];rfl
theorem oP : ∀ (k : Nat) {D : List Node} (f : Fn) (v : Int), NN D → aE (D.map eM) k (fun l => !f l) v = ((aE D k f v).1.map eM, dT (aE D k f v).2)
 | 0,D,f,v,h=>by
  show (D.map eM,bD (!f []))=(D.map eM,dT (bD (f [])));cases f []<;>rfl
 | k+1,D,f,v,h=>by
  have h1:=lH k (λl=>f (false :: l)) (v+1) h;have h2:=lH k (λl=>f (true :: l)) (v+1) h1.1;show bH (aE (aE (D.map eM) k (λl=>!f (false :: l)) (v+1)).1 k (λl=>!f (true :: l)) (v+1)).1 _=_;rw [oP k (λl=>f (false :: l)) (v+1) h];dsimp only;rw [oP k (λl=>f (true :: l)) (v+1) h1.1];dsimp only;exact qAO h2.1 (n:=⟨v,(aE D k (λl=>f (false :: l)) (v+1)).2,(aE (aE D k (λl=>f (false :: l)) (v+1)).1 k (λl=>f (true :: l)) (v+1)).2⟩) ⟨h1.2,h2.2⟩
theorem lW (D:List Node) (n:Node):(bH D n).1.length≤D.length+1:=by
 unfold bH;split
 ·simp
 split
 ·simp
 simp
theorem eN:∀ (k:Nat) (D:List Node) (f:Fn) (v:Int),(aE D k f v).1.length+1≤D.length+2 ^ k
 | 0,D,f,v=>by show D.length+1≤D.length+2 ^ 0;simp
 | k+1,D,f,v=>by
  have h1:=eN k D (λl=>f (false :: l)) (v+1);have h2:=eN k (aE D k (λl=>f (false :: l)) (v+1)).1 (λl=>f (true :: l)) (v+1);have h3:=lW (aE (aE D k (λl=>f (false :: l)) (v+1)).1 k (λl=>f (true :: l)) (v+1)).1 ⟨v,(aE D k (λl=>f (false :: l)) (v+1)).2,(aE (aE D k (λl=>f (false :: l)) (v+1)).1 k (λl=>f (true :: l)) (v+1)).2⟩;have h4:(aE D (k+1) f v).1.length≤(aE (aE D k (λl=>f (false :: l)) (v+1)).1 k (λl=>f (true :: l)) (v+1)).1.length+1:=h3;rw [Nat.pow_succ];omega
section merge
variable (A B:List Node) (op:Bool→Bool→Bool) (N:Int)
def fn2 (x y v:Int):Fn:=λl=>op (fnD A x v l) (fnD B y v l)
def Has2 (D:List Node) (x y r:Int):Prop:=∀ (v:Int) (k:Nat),v+k=N→v≤aG A x→v≤aG B y→Has D k (fn2 A B op x y v) v r
variable {A B} {op N}
theorem pA (hA:WfD A) (hB:WfD B) {x y v:Int} (hx:0≤x) (hy:0≤y) (h1:v < aG A x) (h2:v < aG B y) (b:Bool) (l:List Bool):fn2 A B op x y v (b :: l)=fn2 A B op x y (v+1) l:=by
 unfold fn2;rw [jO hA hx h1,jO hB hy h2]
theorem qBS (hA:WfD A) (hB:WfD B) {D:List Node} (hn:D.Nodup) {x y r:Int} (hx:0≤x) (hy:0≤y) {v:Int} {k:Nat} (hN:v+k=N) (h1:v≤aG A x) (h2:v≤aG B y) (h:Has D k (fn2 A B op x y v) v r):Has2 A B op N D x y r:=by
 have up:∀ (d:Nat) (v:Int) (k:Nat),v+d+k=N→v+d≤aG A x→v+d≤aG B y→Has D (d+k) (fn2 A B op x y v) v r→Has D k (fn2 A B op x y (v+d)) (v+d) r:=by
  intro d
  induction d with
  | zero=>intro v k _ _ _ h;simpa using h
  | succ d ih=>
   intro v k hN h1 h2 h;have hs:∀ (b:Bool) (l:List Bool),fn2 A B op x y v (b :: l)=fn2 A B op x y (v+1) l:=λb l=>pA hA hB hx hy (by omega) (by omega) b l;rw [show d+1+k=(d+k)+1 by omega] at h;have h':=Has.unskip hn (λl _=>by rw [hs,hs]) h;have h'':=h'.congr (g:=fn2 A B op x y (v+1)) λl _=>hs false l;have:=ih (v+1) k (by omega) (by omega) (by omega) h'';rw [show v+((d+1:Nat):Int)=v+1+(d:Int) by omega];exact this
 have down:∀ (d:Nat) (v:Int) (k:Nat),v+d+k=N→v+d≤aG A x→v+d≤aG B y→Has D k (fn2 A B op x y (v+d)) (v+d) r→Has D (d+k) (fn2 A B op x y v) v r:=by
  intro d
  induction d with
  | zero=>intro v k _ _ _ h;simpa using h
  | succ d ih=>
   intro v k hN h1 h2 h;have hs:∀ (b:Bool) (l:List Bool),fn2 A B op x y v (b :: l)=fn2 A B op x y (v+1) l:=λb l=>pA hA hB hx hy (by omega) (by omega) b l;rw [show v+((d+1:Nat):Int)=v+1+(d:Int) by omega] at h;have:=ih (v+1) k (by omega) (by omega) (by omega) h;rw [show d+1+k=(d+k)+1 by omega];exact Has.skip (λl _=>by rw [hs,hs]) (this.congr λl _=>(hs false l).symm)
 intro v' k' hN' h1' h2';rcases Int.lt_or_le v v' with hlt|hle
 ·have := up (v' - v).toNat v k' (by omega) (by omega) (by omega) (by rw [show (v' - v).toNat + k' = k by omega]; exact h)
  rwa [show v+((v' - v).toNat:Int)=v' by omega] at this
 have := down (v - v').toNat v' k (by omega) (by omega) (by omega) (by rw [show v' + ((v - v').toNat : Int) = v by omega]; exact h)
 rwa [show (v - v').toNat+k=k' by omega] at this
theorem Has2.mono {D E:List Node} (h:D <+: E) {x y r:Int} (hh:Has2 A B op N D x y r):Has2 A B op N E x y r:=λv k hN h1 h2=>(hh v k hN h1 h2).mono h
end merge
structure MS where
 nodes:List Node
 done:Int×Int→Option Int
 full:Bool
def cW (D:List Node) (x v:Int):Int×Int:=if aG D x=v then (match D[(x - 2).toNat]? with|some n=>(n.lo,n.hi)|none=>(x,x)) else (x,x)
def opQ (all:Bool):Bool→Bool→Bool:=λa b=>if all=true then a&&b else a||b
def dC (A B:List Node) (all:Bool):Nat→MS→Int→Int→MS×Int
 | 0,s,_,_=>(s,0)
 | f+1,s,x,y=>
  if s.full=true then (s,0)
  else if x=bD (!all)∨y=bD (!all) then (s,bD (!all))
  else if x=bD all∧y=bD all then (s,bD all)
  else match s.done (x,y) with
  | some r=>(s,r)
  | none=>
   let w:=min (aG A x) (aG B y)
   let a:=dC A B all f s (cW A x w).1 (cW B y w).1
   let b:=dC A B all f a.1 (cW A x w).2 (cW B y w).2
   let c:=bH b.1.nodes ⟨w,a.2,b.2⟩
   (⟨c.1,λp=>if p=(x,y) then some c.2 else b.1.done p,b.1.full||decide (20000 < c.1.length)⟩,c.2)
section
variable {A B:List Node} {all:Bool} {N:Int}
structure MOk (A B:List Node) (all:Bool) (N:Int) (s:MS):Prop where
 nodup:s.nodes.Nodup
 part:s.full=false
 done:∀ x y r,s.done (x,y)=some r→InD A x∧InD B y∧Has2 A B (opQ all) N s.nodes x y r
theorem lQ {D:List Node} {x:Int} (h:InD D x) (hx:x < 2):x=bD (decide (x=1))∧∀ (v:Int) (l:List Bool),fnD D x v l=decide (x=1):=by
 have h0:=h.1;rcases (by omega:x=0∨x=1) with e|e<;>subst e
 ·exact⟨rfl,λv l=>rfl⟩
 exact⟨rfl,λv l=>rfl⟩
theorem zA (all b:Bool):opQ all (!all) b=!all∧opQ all b (!all)=!all:=by cases all<;>cases b<;>exact⟨rfl,rfl⟩
theorem op_oth (all:Bool):opQ all all all=all:=by cases all<;>rfl
theorem vJ (D:List Node) (b:Bool) (v:Int) (l:List Bool):fnD D (bD b) v l=b:=vV D _ b
theorem wH (hA:WfD A) (hB:WfD B) {op:Bool→Bool→Bool} {D:List Node} (hn:D.Nodup) {x y:Int} (hx:0≤x) (hy:0≤y):∀ (d:Nat) (v:Int) (k:Nat),v+d≤aG A x→v+d≤aG B y→aE D (d+k) (fn2 A B op x y v) v=aE D k (fn2 A B op x y (v+d)) (v+d)
 | 0,v,k,_,_=>by simp
 | d+1,v,k,h1,h2=>by
  have hs:∀ (b:Bool) (l:List Bool),fn2 A B op x y v (b :: l)=fn2 A B op x y (v+1) l:=λb l=>pA hA hB hx hy (by omega) (by omega) b l;rw [show d+1+k=(d+k)+1 by omega,oR hn λl _=>by rw [hs,hs],bU (g:=fn2 A B op x y (v+1)) λl _=>hs false l,wH hA hB hn hx hy d (v+1) k (by omega) (by omega)];rw [show v+1+(d:Int)=v+((d+1:Nat):Int) by omega]
theorem nQ {D:List Node} (h:WfD D) {x w:Int} (hx:InD D x) (hw:w≤aG D x) (hw2:w < 64):InD D (cW D x w).1∧InD D (cW D x w).2∧w+1≤aG D (cW D x w).1∧w+1≤aG D (cW D x w).2∧(∀ l,fnD D x w (false :: l)=fnD D (cW D x w).1 (w+1) l)∧(∀ l,fnD D x w (true :: l)=fnD D (cW D x w).2 (w+1) l):=by
 unfold cW;by_cases he:aG D x=w
 ·rw [if_pos he]
  have h2:2≤x:=by
   rcases Int.lt_or_le x 2 with h1|h1
   ·unfold aG at he;rw [if_pos h1] at he;omega
   exact h1
  obtain⟨n,hn⟩:=hx.get h2;have hvx:aG D x=n.var:=by unfold aG;rw [if_neg (by omega),hn]
  have hl:=h.lo _ n hn;have hh:=h.hi _ n hn;rw [hn];dsimp only;have hwn:w=n.var:=by omega
  subst hwn;exact⟨⟨hl.1,by have:=hx.2;omega⟩,⟨hh.1,by have:=hx.2;omega⟩,by omega,by omega,zT h h2 hn,zV h h2 hn⟩
 rw [if_neg he];exact⟨hx,hx,by dsimp only;omega,by dsimp only;omega,λl=>jO h hx.1 (by omega) false l,λl=>jO h hx.1 (by omega) true l⟩
theorem fU (hA:WfD A) (hB:WfD B) (hN:N≤64) (hAN:∀ (i:Nat) (n:Node),A[i]?=some n→n.var < N) (hBN:∀ (i:Nat) (n:Node),B[i]?=some n→n.var < N):∀ (f:Nat) (s:MS) (x y v:Int) (k:Nat),65≤(f:Int)+min (aG A x) (aG B y)→InD A x→InD B y→MOk A B all N s→v+k=N→v≤aG A x→v≤aG B y→s.nodes.length+2 ^ k≤20001→
  ((dC A B all f s x y).1.nodes,(dC A B all f s x y).2)=aE s.nodes k (fn2 A B (opQ all) x y v) v∧MOk A B all N (dC A B all f s x y).1
 | 0,s,x,y,v,k,hf,hx,hy,hs,hv,h1,h2,hlen=>by
  have:=eA hA x;omega
 | f+1,s,x,y,v,k,hf,hx,hy,hs,hv,h1,h2,hlen=>by
  unfold dC;rw [if_neg (by rw [hs.part];exact Bool.false_ne_true)];by_cases hd:x=bD (!all)∨y=bD (!all)
  ·rw [if_pos hd];refine⟨?_,hs⟩;rw [mX hs.nodup (!all) λl _=>?_];unfold fn2;rcases hd with e|e<;>rw [e,vJ]
   ·exact (zA all _).1
   exact (zA all _).2
  rw [if_neg hd];by_cases ho:x=bD all∧y=bD all
  ·rw [if_pos ho];refine⟨?_,hs⟩;rw [mX hs.nodup all λl _=>?_];unfold fn2;rw [ho.1,ho.2,vJ,vJ];exact op_oth all
  rw [if_neg ho]
  cases hm:s.done (x,y) with
  | some r=>
   dsimp only;refine⟨?_,hs⟩;exact (cD hs.nodup ((hs.done x y r hm).2.2 v k hv h1 h2)).symm
  | none=>
   dsimp only;have hvA:=eA hA x;have hvB:=eA hB y
   have hlt:min (aG A x) (aG B y) < N:=by
    rcases Int.lt_or_le x 2 with hx2|hx2
    ·rcases Int.lt_or_le y 2 with hy2|hy2
     ·exfalso;have cx:=(lQ hx hx2).1;have cy:=(lQ hy hy2).1;have bb:∀ b:Bool,bD b=bD all∨bD b=bD (!all):=λb=>by cases b<;>cases all<;>simp [bD]
      rcases bb (decide (x=1)) with e1|e1
      ·rcases bb (decide (y=1)) with e2|e2
       ·exact ho ⟨cx.trans e1,cy.trans e2⟩
       exact hd (.inr (cy.trans e2))
      exact hd (.inl (cx.trans e1))
     obtain⟨n,hn⟩:=hy.get hy2;have:aG B y=n.var:=by unfold aG;rw [if_neg (by omega),hn]
     have:=hBN _ n hn;omega
    obtain⟨n,hn⟩:=hx.get hx2;have:aG A x=n.var:=by unfold aG;rw [if_neg (by omega),hn]
    have:=hAN _ n hn;omega
   obtain⟨w,hw⟩:∃ w,w=min (aG A x) (aG B y):=⟨_,rfl⟩;rw [← hw];rw [← hw] at hlt hf;obtain⟨d,hdv⟩:∃ d:Nat,w=v+d:=⟨(w - v).toNat,by omega⟩;obtain⟨q,hq⟩:∃ q:Nat,k=d+(q+1):=⟨k - d - 1,by omega⟩;have KA:=nQ hA hx (w:=w) (by omega) (by omega);have KB:=nQ hB hy (w:=w) (by omega) (by omega);have hpow:2 ^ (q+1)≤2 ^ k:=Nat.pow_le_pow_right (by omega) (by omega);rw [Nat.pow_succ] at hpow;have h2q:0 < 2 ^ q:=Nat.pos_of_ne_zero (by simp)
   have e0:aE s.nodes k (fn2 A B (opQ all) x y v) v=aE s.nodes (q+1) (fn2 A B (opQ all) x y w) w:=by
    rw [hq,wH hA hB hs.nodup hx.1 hy.1 d v (q+1) (by omega) (by omega),← hdv]
   have f0:∀ l:List Bool,fn2 A B (opQ all) x y w (false :: l)=fn2 A B (opQ all) (cW A x w).1 (cW B y w).1 (w+1) l:=λl=>by unfold fn2;rw [KA.2.2.2.2.1,KB.2.2.2.2.1]
   have f1:∀ l:List Bool,fn2 A B (opQ all) x y w (true :: l)=fn2 A B (opQ all) (cW A x w).2 (cW B y w).2 (w+1) l:=λl=>by unfold fn2;rw [KA.2.2.2.2.2,KB.2.2.2.2.2]
   have r1:=fU hA hB hN hAN hBN f s (cW A x w).1 (cW B y w).1 (w+1) q (by omega) KA.1 KB.1 hs (by omega) KA.2.2.1 KB.2.2.1 (by omega);generalize dC A B all f s (cW A x w).1 (cW B y w).1=a at r1;have l1:=eN q s.nodes (fn2 A B (opQ all) (cW A x w).1 (cW B y w).1 (w+1)) (w+1);rw [← r1.1] at l1;dsimp only at l1;have r2:=fU hA hB hN hAN hBN f a.1 (cW A x w).2 (cW B y w).2 (w+1) q (by omega) KA.2.1 KB.2.1 r1.2 (by omega) KA.2.2.2.1 KB.2.2.2.1 (by omega);generalize dC A B all f a.1 (cW A x w).2 (cW B y w).2=b at r2;have l2:=eN q a.1.nodes (fn2 A B (opQ all) (cW A x w).2 (cW B y w).2 (w+1)) (w+1);rw [← r2.1] at l2;dsimp only at l2
   have e1:aE s.nodes (q+1) (fn2 A B (opQ all) x y w) w=bH b.1.nodes ⟨w,a.2,b.2⟩:=by
    show bH (aE (aE s.nodes q (λl=>fn2 A B (opQ all) x y w (false :: l)) (w+1)).1 q (λl=>fn2 A B (opQ all) x y w (true :: l)) (w+1)).1 _=_;rw [bU (g:=fn2 A B (opQ all) (cW A x w).1 (cW B y w).1 (w+1)) λl _=>f0 l,← r1.1];dsimp only;rw [bU (g:=fn2 A B (opQ all) (cW A x w).2 (cW B y w).2 (w+1)) λl _=>f1 l,← r2.1]
   have hp:s.nodes <+: (bH b.1.nodes ⟨w,a.2,b.2⟩).1:=by rw [← e1];exact bC _ _ _ _
   have hp2:=gI b.1.nodes ⟨w,a.2,b.2⟩;have hnd:=pM r2.2.nodup ⟨w,a.2,b.2⟩;have hl:=lW b.1.nodes ⟨w,a.2,b.2⟩
   have hhas:Has (bH b.1.nodes ⟨w,a.2,b.2⟩).1 k (fn2 A B (opQ all) x y v) v (bH b.1.nodes ⟨w,a.2,b.2⟩).2:=by
    have:=bW k s.nodes (fn2 A B (opQ all) x y v) v;rw [e0,e1] at this;exact this
   refine⟨by rw [e0,e1],hnd,?_,λx' y' r' hr'=>?_⟩
   ·dsimp only;rw [r2.2.part,Bool.false_or];exact decide_eq_false (by omega)
   dsimp only at hr' ⊢;by_cases he:(x',y')=(x,y)
   ·rw [if_pos he] at hr';cases hr';obtain⟨rfl,rfl⟩:=Prod.mk.inj he;exact⟨hx,hy,qBS hA hB hnd hx.1 hy.1 hv h1 h2 hhas⟩
   rw [if_neg he] at hr';have:=r2.2.done x' y' r' hr';exact⟨this.1,this.2.1,this.2.2.mono hp2⟩
end
theorem fH {D:List Node} (h:WfD D):∀ {k:Nat} {f:Fn} {v x:Int},Has D k f v x→0≤x∧x < (D.length:Int)+2∧(aG D x < 64→v≤aG D x∧aG D x < v+k)∧∀ l,l.length=k→eU D x (asg v l)=f l
 | 0,f,v,x,hh=>by
  have hx:x=bD (f []):=hh;have hb:x=0∨x=1:=by rw [hx];unfold bD;split<;>simp
  have hv:aG D x=64:=by unfold aG;rw [if_pos (by omega)]
  refine⟨by omega,by omega,λh=>by omega,λl hl=>?_⟩;rw [hx,vV,List.eq_nil_of_length_eq_zero hl]
 | k+1,f,v,x,⟨lo,hi,h1,h2,h3⟩=>by
  have r1:=fH h h1;have r2:=fH h h2;by_cases he:lo=hi
  ·rw [if_pos he] at h3;subst h3;refine⟨r1.1,r1.2.1,λhlt=>by have:=r1.2.2.1 hlt;omega,λl hl=>?_⟩
   cases l with
   | nil=>cases hl
   | cons b l=>
    have hl':l.length=k:=by simpa using hl
    have hcg : eU D x (asg v (b :: l)) = eU D x (asg (v + 1) l) := dM h x.toNat x r1.1 (zQW _) fun w hw hw2 => gU (by
     have := r1.2.2.1 (by have := eA h x; omega)
     omega)
    rw [hcg];cases b
    ·exact r1.2.2.2 l hl'
    rw [← he] at r2;exact r2.2.2.2 l hl'
  rw [if_neg he] at h3;obtain⟨hx2,hn⟩:=h3;have hvx:aG D x=v:=by unfold aG;rw [if_neg (by omega),hn]
  have hlen:=(zQQ.1 hn).1;refine⟨by omega,by omega,λ_=>by omega,λl hl=>?_⟩
  cases l with
  | nil=>cases hl
  | cons b l=>
   have hl':l.length=k:=by simpa using hl
   cases b
   ·have:=zT h hx2 hn l;dsimp only at this;exact this.trans (r1.2.2.2 l hl')
   have:=zV h hx2 hn l;dsimp only at this;exact this.trans (r2.2.2.2 l hl')
theorem fQ {D E:List Node} (h:D <+: E) {x:Int} (hx:x < (D.length:Int)+2):aG E x=aG D x:=by
 obtain⟨t,rfl⟩:=h;unfold aG;split
 ·rfl
 rw [List.getElem?_append_left (by omega)]
theorem qDR {D:List Node} (h:WfD D) {n:Node} (hv:0≤n.var∧n.var < 64) (hl:0≤n.lo∧n.lo < (D.length:Int)+2∧n.var < aG D n.lo) (hh:0≤n.hi∧n.hi < (D.length:Int)+2∧n.var < aG D n.hi):WfD (bH D n).1:=by
 unfold bH;by_cases he:n.lo=n.hi
 ·rw [if_pos he];exact h
 rw [if_neg he];split
 ·exact h
 dsimp only;have hp:D <+: D++[n]:=List.prefix_append _ _
 have hc:∀ (i:Nat) (m:Node),(D++[n])[i]?=some m→D[i]?=some m∧i < D.length∨i=D.length∧m=n:=λi m hm=>by
  rcases Nat.lt_or_ge i D.length with h1|h1
  ·rw [List.getElem?_append_left h1] at hm;exact .inl ⟨hm,h1⟩
  rw [List.getElem?_append_right h1] at hm;rcases Nat.eq_or_lt_of_le h1 with h2|h2
  ·rw [← h2,Nat.sub_self] at hm;exact .inr ⟨h2.symm,(Option.some.inj hm).symm⟩
  rw [List.getElem?_eq_none (by simp;omega)] at hm;cases hm
 refine⟨λi m hm=>?_,λi m hm=>?_,λi m hm=>?_,λi m hm=>?_⟩
 ·rcases hc i m hm with ⟨h1,_⟩|⟨_,rfl⟩
  ·exact h.vars i m h1
  exact hv
 ·rcases hc i m hm with ⟨h1,h2⟩|⟨rfl,rfl⟩
  ·have:=h.lo i m h1;rw [fQ hp (by omega)];exact this
  rw [fQ hp (by omega)];exact hl
 ·rcases hc i m hm with ⟨h1,h2⟩|⟨rfl,rfl⟩
  ·have:=h.hi i m h1;rw [fQ hp (by omega)];exact this
  rw [fQ hp (by omega)];exact hh
 rcases hc i m hm with ⟨h1,_⟩|⟨_,rfl⟩
 ·exact h.ne i m h1
 exact he
theorem gP:∀ (k:Nat) {D:List Node} (f:Fn) (v:Int),WfD D→0≤v→v+k≤64→WfD (aE D k f v).1
 | 0,D,f,v,h,_,_=>h
 | k+1,D,f,v,h,h0,h64=>by
  have w1:=gP k (λl=>f (false :: l)) (v+1) h (by omega) (by omega);have w2:=gP k (λl=>f (true :: l)) (v+1) w1 (by omega) (by omega);have a1:=(bW k D (λl=>f (false :: l)) (v+1)).mono (bC k (aE D k (λl=>f (false :: l)) (v+1)).1 (λl=>f (true :: l)) (v+1));have a2:=bW k (aE D k (λl=>f (false :: l)) (v+1)).1 (λl=>f (true :: l)) (v+1);have r1:=fH w2 a1;have r2:=fH w2 a2;have q1:=eA w2 (aE D k (λl=>f (false :: l)) (v+1)).2;have q2:=eA w2 (aE (aE D k (λl=>f (false :: l)) (v+1)).1 k (λl=>f (true :: l)) (v+1)).2;refine qDR w2 (n:=⟨v,(aE D k (λl=>f (false :: l)) (v+1)).2,(aE (aE D k (λl=>f (false :: l)) (v+1)).1 k (λl=>f (true :: l)) (v+1)).2⟩) ⟨h0,by show v < 64;omega⟩ ⟨r1.1,r1.2.1,?_⟩ ⟨r2.1,r2.2.1,?_⟩
  ·dsimp only;have:=r1.2.2.1;omega
  dsimp only;have:=r2.2.2.1;omega
theorem fT:∀ (k:Nat) (D:List Node) (f:Fn) (v:Int) (i:Nat) (n:Node),(aE D k f v).1[i]?=some n→i < D.length∨v≤n.var∧n.var < v+k
 | 0,D,f,v,i,n,h=>.inl (zQQ.1 h).1
 | k+1,D,f,v,i,n,h=>by
  have s1:=fT k D (λl=>f (false :: l)) (v+1);have s2:=fT k (aE D k (λl=>f (false :: l)) (v+1)).1 (λl=>f (true :: l)) (v+1);have p1:=bC k D (λl=>f (false :: l)) (v+1);have h':(bH (aE (aE D k (λl=>f (false :: l)) (v+1)).1 k (λl=>f (true :: l)) (v+1)).1 ⟨v,(aE D k (λl=>f (false :: l)) (v+1)).2,(aE (aE D k (λl=>f (false :: l)) (v+1)).1 k (λl=>f (true :: l)) (v+1)).2⟩).1[i]?=some n:=h
  have two:∀ (i:Nat) (n:Node),(aE (aE D k (λl=>f (false :: l)) (v+1)).1 k (λl=>f (true :: l)) (v+1)).1[i]?=some n→i < D.length∨v≤n.var∧n.var < v+((k+1:Nat):Int):=λi n hn=>by
   rcases s2 i n hn with h1|h1
   ·have hp2 := bC k (aE D k (fun l => f (false :: l)) (v + 1)).1 (fun l => f (true :: l)) (v + 1)
    have hn1:(aE D k (λl=>f (false :: l)) (v+1)).1[i]?=some n:=by
     rw [← hn,fR hp2 (zQR h1),zQR h1]
    rcases s1 i n hn1 with h2|h2
    ·exact .inl h2
    exact .inr ⟨by omega,by omega⟩
   exact .inr ⟨by omega,by omega⟩
  unfold bH at h';dsimp only at h';split at h'
  ·exact two i n h'
  split at h'
  ·exact two i n h'
  dsimp only at h';rcases Nat.lt_or_ge i (aE (aE D k (λl=>f (false :: l)) (v+1)).1 k (λl=>f (true :: l)) (v+1)).1.length with h1|h1
  ·rw [List.getElem?_append_left h1] at h';exact two i n h'
  rw [List.getElem?_append_right h1] at h'
  have hi0:i - (aE (aE D k (λl=>f (false :: l)) (v+1)).1 k (λl=>f (true :: l)) (v+1)).1.length=0:=by
   have:=(zQQ.1 h').1;simpa using this
  rw [hi0] at h';have:=Option.some.inj h';subst this;exact .inr ⟨Int.le_refl _,by show v < v+((k+1:Nat):Int);omega⟩
def jU (f:Fn):Nat→List Bool
 | 0=>[f []]
 | k+1=>jU (λl=>f (false :: l)) k++jU (λl=>f (true :: l)) k
theorem lC:∀ (k:Nat) (f:Fn),(jU f k).length=2 ^ k
 | 0,f=>rfl
 | k+1,f=>by rw [jU,zQL,lC k,lC k,Nat.pow_succ];omega
def cV:Nat→List (List Bool)
 | 0=>[[]]
 | k+1=>(cV k).map (false :: ·)++(cV k).map (true :: ·)
theorem qF:∀ k,(cV k).length=2 ^ k
 | 0=>rfl
 | k+1=>by rw [cV,zQL,zQC,zQC,qF k,Nat.pow_succ];omega
theorem qT:∀ (k:Nat) (f:Fn),jU f k=(cV k).map f
 | 0,f=>rfl
 | k+1,f=>by rw [jU,cV,List.map_append,List.map_map,List.map_map,qT k,qT k];rfl
def eY (D:List Node):Nat→List Bool→Int→List Node×Int
 | 0,T,_=>(D,bD (T.getD 0 false))
 | k+1,T,v=>
  let a:=eY D k (T.take (2 ^ k)) (v+1)
  let b:=eY a.1 k (T.drop (2 ^ k)) (v+1)
  bH b.1 ⟨v,a.2,b.2⟩
theorem oQ:∀ (k:Nat) (D:List Node) (f:Fn) (v:Int),eY D k (jU f k) v=aE D k f v
 | 0,D,f,v=>rfl
 | k+1,D,f,v=>by
  show bH (eY (eY D k ((jU f (k+1)).take (2 ^ k)) (v+1)).1 k ((jU f (k+1)).drop (2 ^ k)) (v+1)).1 _=bH (aE (aE D k (λl=>f (false :: l)) (v+1)).1 k (λl=>f (true :: l)) (v+1)).1 _;rw [show (jU f (k+1)).take (2 ^ k)=jU (λl=>f (false :: l)) k by rw [jU,← lC k (λl=>f (false :: l)),List.take_left],show (jU f (k+1)).drop (2 ^ k)=jU (λl=>f (true :: l)) k by rw [jU,← lC k (λl=>f (false :: l)),List.drop_left],oQ k,oQ k]
theorem oB {D E:List Node} (h:D <+: E) (hE:WfD E) {x:Int} (h0:0≤x) (hx:x < (D.length:Int)+2) (s:Int→Bool):eU D x s=eU E x s:=by
 have:D=E.take D.length:=by obtain⟨t,rfl⟩:=h;simp
 conv=>lhs;rw [this]
 exact kZ hE D.length s x.toNat x h0 (zQW _) hx
theorem qBR {D E:List Node} (hp:D <+: E) (hD:WfD D) (hE:WfD E) {k:Nat} {f:Fn} {v x:Int} (hall:∀ (i:Nat) (n:Node),D[i]?=some n→n.var < v+k) (h64:v+k≤64) (h:Has E k f v x) (hx:x < (D.length:Int)+2):Has D k f v x:=by
 have r:=fH hE h;have hv:=fQ hp hx;have hvl:=eA hE x;refine (gT hD k x v ⟨r.1,hx⟩ ?_ (λhlt=>?_) hall).congr λl hl=>?_
 ·rw [← hv];rcases Int.lt_or_le (aG E x) 64 with h1|h1
  ·exact (r.2.2.1 h1).1
  omega
 ·rw [← hv] at hlt ⊢;exact (r.2.2.1 hlt).2
 show eU D x (asg v l)=f l;rw [oB hp hE r.1 hx,r.2.2.2 l hl]
theorem mG:∀ (k:Nat) (D:List Node) (f:Fn) (v:Int) (F:List Node) (q:Nat),WfD D→D.Nodup→0≤v→v+k≤64→(∀ (i:Nat) (n:Node),D[i]?=some n→n.var < v+k)→(aE D k f v).1 <+: F→WfD F→k+1≤q→cG F q (aE D k f v).2 ((D.length:Int)+2)=some (((aE D k f v).1.length:Int)+2)
 | 0,D,f,v,F,q,hD,hn,h0,h64,hall,hF,hFw,hq=>by
  obtain⟨q,rfl⟩:∃ z,q=z+1:=⟨q - 1,by omega⟩;show cG F (q+1) (bD (f [])) _=some ((D.length:Int)+2);unfold cG;rw [if_pos (.inl (by unfold bD;split<;>omega))]
 | k+1,D,f,v,F,q,hD,hn,h0,h64,hall,hF,hFw,hq=>by
  obtain⟨q,rfl⟩:∃ z,q=z+1:=⟨q - 1,by omega⟩;have wE:=gP (k+1) f v hD h0 (by omega);have hhas:=bW (k+1) D f v;have hpD:=bC (k+1) D f v;have rE:=fH wE hhas;by_cases hx:(aE D (k+1) f v).2 < (D.length:Int)+2
  ·have hold := qBR hpD hD wE hall (by omega) hhas hx;have hid:=cD hn hold;unfold cG;rw [if_pos (.inr hx)];rw [show (aE D (k+1) f v).1=D from by rw [hid]]
  have w1 := gP k (fun l => f (false :: l)) (v + 1) hD (by omega) (by omega);have n1:=eZ k (λl=>f (false :: l)) (v+1) hn;have vs1:=fT k D (λl=>f (false :: l)) (v+1);have hh1:=bW k D (λl=>f (false :: l)) (v+1);have ih1:=mG k D (λl=>f (false :: l)) (v+1)
  have hall1:∀ (i:Nat) (n:Node),(aE D k (λl=>f (false :: l)) (v+1)).1[i]?=some n→n.var < v+1+(k:Int):=λi n hin=>by
   rcases vs1 i n hin with h1|h1
   ·have hp1 := bC k D (fun l => f (false :: l)) (v + 1);have:D[i]?=some n:=by rw [← hin,fR hp1 (zQR h1),zQR h1]
    have:=hall i n this;omega
   omega
  have hp1:=bC k D (λl=>f (false :: l)) (v+1);have hE:aE D (k+1) f v=bH (aE (aE D k (λl=>f (false :: l)) (v+1)).1 k (λl=>f (true :: l)) (v+1)).1 ⟨v,(aE D k (λl=>f (false :: l)) (v+1)).2,(aE (aE D k (λl=>f (false :: l)) (v+1)).1 k (λl=>f (true :: l)) (v+1)).2⟩:=rfl;rw [hE] at hx hF wE rE ⊢;generalize aE D k (λl=>f (false :: l)) (v+1)=a at *;obtain⟨D1,lo⟩:=a;dsimp only at *;have w2:=gP k (λl=>f (true :: l)) (v+1) w1 (by omega) (by omega);have vs2:=fT k D1 (λl=>f (true :: l)) (v+1);have hh2:=bW k D1 (λl=>f (true :: l)) (v+1);have ih2:=mG k D1 (λl=>f (true :: l)) (v+1);have hp2:=bC k D1 (λl=>f (true :: l)) (v+1);have hid2:∀ x,Has D1 k (λl=>f (true :: l)) (v+1) x→aE D1 k (λl=>f (true :: l)) (v+1)=(D1,x):=λx h=>cD n1 h;generalize aE D1 k (λl=>f (true :: l)) (v+1)=b at *;obtain⟨D2,hi⟩:=b;dsimp only at *;by_cases he:lo=hi
  ·have hadd : bH D2 ⟨v, lo, hi⟩ = (D2, lo) := by unfold bH; rw [if_pos he]
   rw [hadd] at hx hF wE rE ⊢;dsimp only at *;have r1:=fH w1 hh1;have r2:=fH w2 hh2
   have hsame:Has D1 k (λl=>f (true :: l)) (v+1) lo:=hh1.congr λl hl=>by
    rw [← r1.2.2.2 l hl,← r2.2.2.2 l hl,oB hp2 w2 r1.1 r1.2.1,he]
   have hD2:=(Prod.mk.inj (hid2 lo hsame)).1;rw [hD2] at hF ⊢;exact ih1 F (q+1) hD hn (by omega) (by omega) (λi n hin=>by have:=hall i n hin;omega) hF hFw (by omega)
  have hadd:bH D2 ⟨v,lo,hi⟩=match D2.findIdx? (λm=>decide (m=⟨v,lo,hi⟩)) with|some i=>(D2,(i:Int)+2)|none=>(D2++[⟨v,lo,hi⟩],(D2.length:Int)+2):=by
   unfold bH;dsimp only;exact if_neg he
  cases hf:D2.findIdx? (λm=>decide (m=(⟨v,lo,hi⟩:Node))) with
  | some i=>
   exfalso;rw [hf] at hadd;rw [hadd] at hx;dsimp only at hx;rw [List.findIdx?_eq_some_iff_getElem] at hf;obtain⟨hil,hie,_⟩:=hf;have hin:D2[i]?=some ⟨v,lo,hi⟩:=by rw [zQR hil,of_decide_eq_true hie]
   rcases vs2 i _ hin with h1|h1
   ·have hin1 : D1[i]? = some ⟨v, lo, hi⟩ := by rw [← hin, fR hp2 (zQR h1), zQR h1]
    rcases vs1 i _ hin1 with h2|h2
    ·omega
    dsimp only at h2;omega
   dsimp only at h1;omega
  | none=>
   rw [hf] at hadd;rw [hadd] at hx hF wE rE ⊢;dsimp only at *;have hp3:D2 <+: D2++[(⟨v,lo,hi⟩:Node)]:=List.prefix_append _ _;have g1:=ih1 F q hD hn (by omega) (by omega) (λi n hin=>by have:=hall i n hin;omega) ((hp2.trans hp3).trans hF) hFw (by omega);have g2:=ih2 F q w1 n1 (by omega) (by omega) hall1 (hp3.trans hF) hFw (by omega);unfold cG;rw [if_neg (by omega),show ((D2.length:Int)+2 - 2).toNat=D2.length by omega,fR hF (i:=D2.length) (n:=⟨v,lo,hi⟩) (by simp)];dsimp only;rw [g1];simp only [Option.bind_some];rw [g2];simp only [Option.bind_some];rw [if_pos trivial,zQL];simp only [List.length_cons,List.length_nil]
   congr 1
def gB (D:List Node):Nat→Int→List Int→List Int
 | 0,_,left=>left
 | f+1,x,left=>if x < 2 then left else if x∈left then left else match D[(x - 2).toNat]? with
  | none=>left
  | some n=>gB D f n.hi (gB D f n.lo left)++[x]
def fS (m:Nat):List Int:=(List.range m).map λ(i:Nat)=>(i:Int)+2
theorem eF (m:Nat):(fS m).length=m:=by simp [fS]
theorem ordL_mem {m:Nat} {x:Int}:x∈fS m↔2≤x∧x < (m:Int)+2:=by
 unfold fS;rw [List.mem_map];constructor
 ·rintro⟨i,hi,rfl⟩;have:=List.mem_range.1 hi;omega
 rintro⟨h1,h2⟩;exact⟨(x - 2).toNat,List.mem_range.2 (by omega),by omega⟩
theorem qD (m:Nat):fS (m+1)=fS m++[(m:Int)+2]:=by unfold fS;rw [List.range_succ];simp
theorem iM (D:List Node):∀ (f:Nat) (x:Int) (left:List Int),left <+: gB D f x left
 | 0,x,left=>List.prefix_refl _
 | f+1,x,left=>by
  unfold gB;split
  ·exact List.prefix_refl _
  split
  ·exact List.prefix_refl _
  split
  ·exact List.prefix_refl _
  exact ((iM D f _ left).trans (iM D f _ _)).trans (List.prefix_append _ _)
theorem sZ {l:List Int} {m:Nat} (h:l <+: fS m):l=fS l.length:=by
 obtain⟨t,ht⟩:=h;have hl:l.length≤m:=by have:=congrArg List.length ht;rw [zQL,eF] at this;omega
 have h1:l=(fS m).take l.length:=by rw [← ht,List.take_left]
 have h2:(fS m).take l.length=fS l.length:=by unfold fS;rw [← List.map_take,List.take_range,Nat.min_eq_left hl]
 exact h1.trans h2
theorem iL {D:List Node} (h:WfD D):∀ (f:Nat) (x:Int) (m m':Nat),InD D x→x < (f:Int)→(gB D f x (fS m)=fS m'↔cG D f x ((m:Int)+2)=some ((m':Int)+2))
 | 0,x,m,m',hx,hf=>by have:=hx.1;omega
 | f+1,x,m,m',hx,hf=>by
  unfold gB cG;by_cases h2:x < 2
  ·rw [if_pos h2,if_pos (.inl h2)];constructor
   ·intro he;have:=congrArg List.length he;rw [eF,eF] at this;rw [this]
   intro he;have:=Option.some.inj he;rw [show m=m' by omega]
  rw [if_neg h2];by_cases hm:x < (m:Int)+2
  ·rw [if_pos (ordL_mem.2 ⟨by omega, hm⟩), if_pos (.inr hm)];constructor
   ·intro he;have:=congrArg List.length he;rw [eF,eF] at this;rw [this]
   intro he;have:=Option.some.inj he;rw [show m=m' by omega]
  rw [if_neg (fun hc => hm (ordL_mem.1 hc).2), if_neg (by omega)];obtain⟨n,hn⟩:=hx.get (by omega);have hl:=h.lo _ n hn;have hh:=h.hi _ n hn;have inlo:InD D n.lo:=⟨hl.1,by have:=hx.2;omega⟩;have inhi:InD D n.hi:=⟨hh.1,by have:=hx.2;omega⟩;rw [hn];dsimp only;constructor
  ·intro he
   obtain ⟨q, hq⟩ : ∃ q, m' = q + 1 := ⟨m' - 1, by
    have := congrArg List.length he;rw [zQL, eF] at this;simp at this
    omega⟩
   subst hq;rw [qD] at he;have hin:=List.append_inj' he rfl;have hxq:x=(q:Int)+2:=by have:=hin.2;simpa using this
   have hp:gB D f n.lo (fS m) <+: fS q:=by rw [← hin.1];exact iM D f n.hi _
   have e1:=sZ hp;obtain⟨m1,hm1⟩:∃ m1,m1=(gB D f n.lo (fS m)).length:=⟨_,rfl⟩;rw [← hm1] at e1;have v1:=(iL h f n.lo m m1 inlo (by omega)).1 e1;have v2:=(iL h f n.hi m1 q inhi (by omega)).1 (by rw [← e1];exact hin.1);rw [v1];simp only [Option.bind_some];rw [v2];simp only [Option.bind_some];rw [if_pos hxq]
   congr 1
  intro he
  cases e1:cG D f n.lo ((m:Int)+2) with
  | none=>rw [e1] at he;cases he
  | some l1=>
   rw [e1] at he;simp only [Option.bind_some] at he
   cases e2:cG D f n.hi l1 with
   | none=>rw [e2] at he;cases he
   | some l2=>
    rw [e2] at he;simp only [Option.bind_some] at he
    have mono:∀ (f:Nat) (x l l':Int),cG D f x l=some l'→l≤l':=by
     intro f
     induction f with
     | zero=>intro x l l' hv;cases hv
     | succ f ih=>
      intro x l l' hv;unfold cG at hv;split at hv
      ·cases hv;omega
      split at hv
      ·cases hv
      rename_i z hz
      cases ha:cG D f z.lo l with
      | none=>rw [ha] at hv;cases hv
      | some a=>
       rw [ha] at hv;simp only [Option.bind_some] at hv
       cases hb:cG D f z.hi a with
       | none=>rw [hb] at hv;cases hv
       | some b=>
        rw [hb] at hv;simp only [Option.bind_some] at hv;split at hv
        ·have:=Option.some.inj hv;have:=ih _ _ _ ha;have:=ih _ _ _ hb;omega
        cases hv
    have g1:=mono f _ _ _ e1;have g2:=mono f _ _ _ e2;split at he
    ·rename_i hxl;have hl2:=Option.some.inj he;obtain⟨a,ha⟩:∃ a:Nat,l1=(a:Int)+2:=⟨(l1 - 2).toNat,by omega⟩;obtain⟨b,hb⟩:∃ b:Nat,l2=(b:Int)+2:=⟨(l2 - 2).toNat,by omega⟩;subst ha hb;rw [(iL h f n.lo m a inlo (by omega)).2 e1,(iL h f n.hi a b inhi (by omega)).2 e2,show m'=b+1 by omega,qD,hxl]
    cases he
def eK (N:Nat) (f:Fn):List Node×Int:=aE [] N f 0
theorem yA:WfD []:=⟨λi n h=>by simp at h,λi n h=>by simp at h,λi n h=>by simp at h,λi n h=>by simp at h⟩
structure MakeOk (N:Nat) (f:Fn) (D:List Node) (x:Int):Prop where
 wf:WfD D
 nodup:D.Nodup
 root:InD D x
 vars:∀ (i:Nat) (n:Node),D[i]?=some n→n.var < (N:Int)
 low:0≤aG D x
 val:∀ l,l.length=N→fnD D x 0 l=f l
 len:D.length+1≤2 ^ N
 order:∀ q,N+1≤q→cG D q x 2=some ((D.length:Int)+2)
theorem wK (N:Nat) (f:Fn) (hN:N≤64):MakeOk N f (eK N f).1 (eK N f).2:=by
 have w:=gP N f 0 yA (by omega) (by omega);have hh:=bW N [] f 0;have r:=fH w hh;have vl:=eA w (aE [] N f 0).2;refine⟨w,eZ N f 0 List.nodup_nil,⟨r.1,r.2.1⟩,λi n hn=>?_,?_,r.2.2.2,?_,λq hq=>?_⟩
 ·rcases fT N [] f 0 i n hn with h|h
  ·simp at h
  omega
 ·rcases Int.lt_or_le (aG (aE [] N f 0).1 (aE [] N f 0).2) 64 with h|h
  ·exact (r.2.2.1 h).1
  show 0≤aG (aE [] N f 0).1 (aE [] N f 0).2;omega
 ·have:=eN N [] f 0;simpa [eK] using this
 exact mG N [] f 0 (aE [] N f 0).1 q yA List.nodup_nil (by omega) (by omega) (λi n h=>by simp at h) (List.prefix_refl _) w hq
theorem qBL {N:Nat} {f:Fn} {D:List Node} {x:Int} (h:MakeOk N f D x):eK N f=(D,x):=by
 have:=oA h.wf h.nodup h.root (h.order (N+1) (zQW _)) h.vars;unfold eK;rw [← this];exact bU λl hl=>(h.val l hl).symm
def ms0:MS:=⟨[],λ_=>none,false⟩
theorem vE {N:Nat} {f g:Fn} {A B:List Node} {x y:Int} (hN:N≤14) (hA:MakeOk N f A x) (hB:MakeOk N g B y) (all:Bool) {q:Nat} (hq:65≤q):((dC A B all q ms0 x y).1.nodes,(dC A B all q ms0 x y).2)=eK N (λl=>opQ all (f l) (g l))∧(dC A B all q ms0 x y).1.full=false:=by
 have hp:2 ^ N≤2 ^ 14:=Nat.pow_le_pow_right (by omega) hN;have m0:MOk A B all (N:Int) ms0:=⟨List.nodup_nil,rfl,λx y r h=>by cases h⟩;have:=fU (all:=all) (N:=(N:Int)) hA.wf hB.wf (by omega) hA.vars hB.vars q ms0 x y 0 N (by have:=hA.low;have:=hB.low;omega) hA.root hB.root m0 (by omega) hA.low hB.low (by show 0+2 ^ N≤20001;omega);refine⟨this.1.trans ?_,this.2.part⟩;unfold eK;exact bU λl hl=>by unfold fn2;rw [hA.val l hl,hB.val l hl]
theorem zJ {N:Nat} {f:Fn} {A:List Node} {x:Int} (h:MakeOk N f A x):eK N (λl=>!f l)=(A.map eM,dT x):=by
 have:=qBL h;unfold eK at this ⊢;have e:=oP N (D:=[]) f 0 (λn hn=>by cases hn);rw [List.map_nil] at e;rw [e,this]
theorem zK {D:List Node} (h:WfD D) (x:Int):0≤aG D x:=by
 unfold aG;split
 ·omega
 split
 ·rename_i n hn;exact (h.vars _ n hn).1
 omega
theorem ok_of {D:List Node} (h:WfD D) (hnd:D.Nodup) {q:Nat} {x:Int} (hr:InD D x) (hv:cG D q x 2=some ((D.length:Int)+2)) {N:Nat} (hN:N≤64) (hall:∀ (i:Nat) (n:Node),D[i]?=some n→n.var < (N:Int)):MakeOk N (fnD D x 0) D x:=by
 have e:eK N (fnD D x 0)=(D,x):=oA h hnd hr hv hall;have:=wK N (fnD D x 0) hN;rw [e] at this;exact this
def eL:Nat→Nat→List Bool
 | 0,_=>[]
 | n+1,k=>decide (k / 2 ^ n % 2=1) :: eL n k
theorem qM:∀ (n m k:Nat),n≤m→eL n (k+2 ^ m)=eL n k
 | 0,m,k,h=>rfl
 | n+1,m,k,h=>by
  have e:2 ^ m=2 ^ n * (2 * 2 ^ (m - n - 1)):=by rw [← Nat.mul_assoc,← Nat.pow_succ,← Nat.pow_add,show n+1+(m - n - 1)=m by omega]
  unfold eL;rw [qM n m k (by omega)]
  congr 1
  rw [e,Nat.add_mul_div_left _ _ (Nat.two_pow_pos n),Nat.add_mul_mod_self_left]
theorem tK:∀ n,(List.range (2 ^ n)).map (eL n)=cV n
 | 0=>rfl
 | n+1=>by
  rw [cV,← tK n,Nat.pow_succ,show 2 ^ n * 2=2 ^ n+2 ^ n by omega,List.range_add,List.map_append,List.map_map,List.map_map,List.map_map]
  congr 1
  ·refine List.map_congr_left fun k hk => ?_;have:=List.mem_range.1 hk;show decide (k / 2 ^ n % 2=1) :: eL n k=false :: eL n k;rw [Nat.div_eq_of_lt this];rfl
  refine List.map_congr_left fun k hk => ?_;have:=List.mem_range.1 hk;show decide ((2 ^ n+k) / 2 ^ n % 2=1) :: eL n (2 ^ n+k)=true :: eL n k;rw [Nat.add_comm,qM n n k (zQW _),show k+2 ^ n=k+2 ^ n * 1 by omega,Nat.add_mul_div_left _ _ (Nat.two_pow_pos n),Nat.div_eq_of_lt this];rfl
def fL (D:List Node):Nat→Int→List Bool×Int→Option (List Bool×Int)
 | 0,_,_=>none
 | f+1,x,s=>if x < 2∨s.1.getD x.toNat false=true then some s else match D[(x - 2).toNat]? with
  | none=>none
  | some n=>(fL D f n.lo (s.1.set x.toNat true,s.2)).bind λs1=>(fL D f n.hi s1).bind λs2=>if x=s2.2 then some (s2.1,s2.2+1) else none
def InvP (B:Int) (vis:List Bool) (left:Int):Prop:=∀ y:Nat,2≤y→(y:Int) < B→(vis.getD y false=true↔(y:Int) < left)
theorem rX {l:List Bool} {i j:Nat} (h:i≠j) (b:Bool):(l.set i b).getD j false=l.getD j false:=by
 rw [zQD,zQD,List.getElem?_set_ne h]
theorem qDM {l:List Bool} {i:Nat} (h:i < l.length) (b:Bool):(l.set i b).getD i false=b:=by
 rw [zQD,List.getElem?_set_self h];rfl
structure OutP (D:List Node) (f:Nat) (x B:Int) (vis:List Bool) (left l':Int) (vis':List Bool):Prop where
 run:fL D f x (vis,left)=some (vis',l')
 inv:InvP B vis' l'
 keep:∀ y:Nat,B≤(y:Int)→vis'.getD y false=vis.getD y false
 len:vis'.length=vis.length
theorem yC {D:List Node} (h:WfD D):∀ (f:Nat) (x B:Int) (vis:List Bool) (left:Int),InD D x→x < B→InvP B vis left→vis.length=D.length+2→match cG D f x left with
  | none=>fL D f x (vis,left)=none
  | some l'=>∃ vis',OutP D f x B vis left l' vis'
 | 0,x,B,vis,left,hx,hB,hi,hl=>rfl
 | f+1,x,B,vis,left,hx,hB,hi,hl=>by
  have hx0:=hx.1;have hx1:=hx.2;by_cases h2:x < 2
  ·have e : cG D (f + 1) x left = some left := by unfold cG; rw [if_pos (Or.inl h2)]
   rw [e];refine⟨vis,?_,hi,λ_ _=>rfl,rfl⟩;unfold fL;rw [if_pos (Or.inl h2)]
  have hxi := hi x.toNat (by omega) (by omega);rw [show ((x.toNat:Nat):Int)=x by omega] at hxi;by_cases hlt:x < left
  ·have e : cG D (f + 1) x left = some left := by unfold cG; rw [if_pos (Or.inr hlt)]
   rw [e];refine⟨vis,?_,hi,λ_ _=>rfl,rfl⟩;unfold fL;rw [if_pos (Or.inr (hxi.2 hlt))]
  obtain ⟨n, hn⟩ := hx.get (by omega);have hlo:=h.lo _ n hn;have hhi:=h.hi _ n hn
  have e:cG D (f+1) x left=(cG D f n.lo left).bind λl1=>(cG D f n.hi l1).bind λl2=>if x=l2 then some (l2+1) else none:=by
   rw [cG,if_neg (by omega),hn]
  have e':fL D (f+1) x (vis,left)=(fL D f n.lo (vis.set x.toNat true,left)).bind λs1=>(fL D f n.hi s1).bind λs2=>if x=s2.2 then some (s2.1,s2.2+1) else none:=by
   rw [fL,if_neg (by intro hc;rcases hc with hc|hc;exact h2 hc;exact hlt (hxi.1 hc)),hn]
  have i0:InvP x (vis.set x.toNat true) left:=λy hy hyx=>by
   rw [rX (by omega)];exact hi y hy (by omega)
  have r1:=yC h f n.lo x (vis.set x.toNat true) left ⟨hlo.1,by omega⟩ (by omega) i0 (by rw [List.length_set];exact hl);rw [e]
  cases h1:cG D f n.lo left with
  | none=>
   rw [h1] at r1;show fL D (f+1) x (vis,left)=none;rw [e',r1];rfl
  | some l1=>
   rw [h1] at r1;obtain⟨v1,o1⟩:=r1;have hl1:v1.length=D.length+2:=by rw [o1.len,List.length_set];exact hl
   have r2:=yC h f n.hi x v1 l1 ⟨hhi.1,by omega⟩ (by omega) o1.inv hl1
   show match (cG D f n.hi l1).bind λl2=>if x=l2 then some (l2+1) else none with
    | none=>fL D (f+1) x (vis,left)=none
    | some l'=>∃ vis',OutP D (f+1) x B vis left l' vis'
   cases h3:cG D f n.hi l1 with
   | none=>
    rw [h3] at r2;show fL D (f+1) x (vis,left)=none;rw [e',o1.run];show (fL D f n.hi (v1,l1)).bind _=none;rw [r2];rfl
   | some l2=>
    rw [h3] at r2;obtain⟨v2,o2⟩:=r2
    have er:fL D (f+1) x (vis,left)=if x=l2 then some (v2,l2+1) else none:=by
     rw [e',o1.run];show (fL D f n.hi (v1,l1)).bind _=_;rw [o2.run];rfl
    show match (if x=l2 then some (l2+1) else none) with
     | none=>fL D (f+1) x (vis,left)=none
     | some l'=>∃ vis',OutP D (f+1) x B vis left l' vis'
    by_cases hq:x=l2
    ·rw [if_pos hq];rw [if_pos hq] at er;refine⟨v2,er,λy hy hyB=>?_,λy hy=>?_,by rw [o2.len,o1.len,List.length_set]⟩
     ·rcases Int.lt_trichotomy (y:Int) x with hc|hc|hc
      ·have:=o2.inv y hy hc;rw [this];omega
      ·have e1:v2.getD y false=true:=by
        rw [o2.keep y (by omega),o1.keep y (by omega),show y=x.toNat by omega,qDM (by omega)]
       rw [e1];simp only [true_iff];omega
      rw [o2.keep y (by omega), o1.keep y (by omega), rX (by omega), hi y hy hyB];omega
     rw [o2.keep y (by omega),o1.keep y (by omega),rX (by omega)]
    rw [if_neg hq];rw [if_neg hq] at er;exact er
theorem qAW {D:List Node} (h:WfD D) (f:Nat) {x:Int} (hx:InD D x):(fL D f x (List.replicate (D.length+2) false,2)).map (·.2)=cG D f x 2:=by
 have := yC h f x ((D.length : Int) + 2) (List.replicate (D.length + 2) false) 2 hx hx.2 (fun y hy hyB => by
  rw [zQD, List.getElem?_replicate, if_pos (by omega)];constructor
  ·intro hc; cases hc
  intro hc; omega) (by simp)
 revert this
 cases cG D f x 2 with
 | none=>intro e;rw [e];rfl
 | some l=>intro ⟨v,o⟩;rw [o.run];rfl
def NOK (D:List Node):Prop:=∀ n∈D,Node.ok n
theorem NOK.at {D:List Node} (h:NOK D) {i:Nat} {n:Node} (hn:D[i]?=some n):Node.ok n:=h n (zQM hn)
theorem nP:NOK []:=λn h=>by cases h
theorem wG {D:List Node} {n:Node} (h:NOK D) (hn:Node.ok n):NOK (D++[n]):=λm hm=>by
 rcases zQN.1 hm with h1|h1
 ·exact h m h1
 rw [List.mem_singleton.1 h1];exact hn
theorem zE {d:Diagram} (h:d.Wf):NOK d.nodes:=λn hn=>⟨(h.nodes.2 n hn).var,(h.nodes.2 n hn).lo,(h.nodes.2 n hn).hi⟩
theorem qBV {a b:Diagram}:a=b↔a.nodes=b.nodes∧a.root=b.root:=by cases a;cases b;simp
theorem wU {a b:Diagram} (ha:NOK a.nodes) (hb:NOK b.nodes) (hl:a.nodes.length≤4611686018427387903):bJ a b=some (decide (a=b)):=by
 unfold bJ;by_cases h:a.nodes.length=b.nodes.length∧a.root=b.root
 ·obtain⟨h1,h2⟩:=h;rw [if_neg (by simp [h1,h2])];rw [oV (ρ:=Unit ⊕ Bool) a.nodes.length (λi=>if a.nodes[i]?=b.nodes[i]? then none else some (.inr false)) (.inl ()) (by omega) ?hf ?he]
  ·cases hf:(List.range a.nodes.length).findSome? (λi=>if a.nodes[i]?=b.nodes[i]? then none else some (Sum.inr false:Unit ⊕ Bool)) with
   | none=>
    rw [List.findSome?_eq_none_iff] at hf
    have:a=b:=by
     rw [qBV];refine⟨List.ext_getElem? λi=>?_,h2⟩;by_cases hi:i < a.nodes.length
     ·have:=hf i (List.mem_range.2 hi);split at this
      ·assumption
      cases this
     rw [List.getElem?_eq_none (by omega),List.getElem?_eq_none (by omega)]
    simp [this]
   | some r=>
    rw [List.findSome?_eq_some_iff] at hf;obtain⟨l1,i,l2,_,h3,_⟩:=hf;split at h3
    ·cases h3
    rename_i hne;cases h3;have:¬ a=b:=λe=>hne (by rw [e]);simp [this]
  case hf=>
   intro i hi;have hi2:i < b.nodes.length:=by omega
   rw [if_pos (by omega),cI (zQR hi),cI (zQR hi2),aB ⟨ha _ (List.getElem_mem hi),hb _ (List.getElem_mem hi2)⟩,zQR hi,zQR hi2];by_cases he:a.nodes[i]=b.nodes[i]
   ·rw [if_pos he,aB (by unfold I64;omega),if_pos (by rw [he])]
   rw [if_neg he, if_neg (by simpa using he)];rfl
  case he=>
   rw [if_neg (by omega)];rfl
 rw [if_pos (by simp only [Bool.or_eq_true, Bool.not_eq_true', decide_eq_false_iff_not]; omega)];have:¬ a=b:=λe=>h ⟨by rw [e],by rw [e]⟩;simp [this]
def eO (L:List Node):List (Node×Int):=L.zipIdx.map λx=>(x.1,(x.2:Int))
theorem mJ (L:List Node):(eO L).map (·.1)=L:=by
 unfold eO;rw [List.map_map];exact List.zipIdx_map_fst 0 L
theorem tO (L:List Node) (n:Node):eO (L++[n])=eO L++[(n,(L.length:Int))]:=by
 unfold eO;rw [List.zipIdx_append,List.map_append];simp
theorem zR (L:List Node) (i:Nat):(eO L)[i]?=(L[i]?).map λn=>(n,(i:Int)):=by
 unfold eO;rw [zQP,List.getElem?_zipIdx];cases L[i]?<;>simp
theorem qG (L:List Node) (n:Node):(eO L).findIdx? (λx=>decide (x.1=n))=L.findIdx? λm=>decide (m=n):=by
 have:L.findIdx? (λm=>decide (m=n))=((eO L).map (·.1)).findIdx? (λm=>decide (m=n)):=by rw [mJ]
 rw [this,List.findIdx?_map];rfl
section maps
variable {α β:Type} [DecidableEq α]
theorem xU (q:α):bR ([]:List (α×β)) q=none:=rfl
theorem eS (x:α×β) (r:List (α×β)) (q:α):bR (x :: r) q=if x.1=q then some x.2 else bR r q:=by
 unfold bR;rw [List.find?_cons];by_cases h:x.1=q<;>simp [h]
theorem oN (k:α) (v:β):eX ([]:List (α×β)) k v=[(k,v)]:=rfl
theorem mD (x:α×β) (r:List (α×β)) (k:α) (v:β):eX (x :: r) k v=if x.1=k then (k,v) :: r else x :: eX r k v:=by
 unfold eX;rw [List.findIdx?_cons];by_cases h:x.1=k
 ·simp [h]
 simp only [h,decide_false,Bool.false_eq_true,if_false];cases r.findIdx? (λx=>decide (x.1=k))<;>simp
theorem xT (fs:List (α×β)) (k:α) (v:β) (q:α):bR (eX fs k v) q=if q=k then some v else bR fs q:=by
 induction fs with
 | nil=>rw [oN,eS,xU];by_cases h:k=q<;>simp [h,eq_comm]
 | cons x r ih=>
  rw [mD];by_cases h:x.1=k
  ·rw [if_pos h,eS,eS];by_cases h2:k=q
   ·simp [h2]
   rw [if_neg h2,if_neg (λe=>h2 e.symm),if_neg (by rw [h];exact h2)]
  rw [if_neg h,eS,eS,ih];by_cases h2:x.1=q
  ·rw [if_pos h2,if_pos h2,if_neg (λe=>h (h2.trans e))]
  rw [if_neg h2,if_neg h2]
theorem wA {fs:List (α×β)} {k:α} {v:β} {x:α×β} (h:x∈eX fs k v):x=(k,v)∨x∈fs:=by
 induction fs with
 | nil=>rw [oN] at h;exact .inl (List.mem_singleton.1 h)
 | cons y r ih=>
  rw [mD] at h;split at h
  ·rcases zQB.1 h with h|h
   ·exact .inl h
   exact .inr (List.mem_cons_of_mem _ h)
  rcases zQB.1 h with h|h
  ·exact .inr (h ▸ List.mem_cons_self ..)
  exact (ih h).imp id (List.mem_cons_of_mem _)
theorem xE {fs:List (α×β)} (h:(fs.map (·.1)).Nodup) (k:α) (v:β):((eX fs k v).map (·.1)).Nodup:=by
 induction fs with
 | nil=>rw [oN];simp
 | cons y r ih=>
  rw [List.map_cons,List.nodup_cons] at h;rw [mD];by_cases e:y.1=k
  ·rw [if_pos e,List.map_cons,List.nodup_cons];exact⟨by rw [← e];exact h.1,h.2⟩
  rw [if_neg e,List.map_cons,List.nodup_cons];refine⟨λhm=>?_,ih h.2⟩;obtain⟨x,hx,he⟩:=List.mem_map.1 hm;rcases wA hx with rfl|hx
  ·exact e he.symm
  exact h.1 (he ▸ List.mem_map_of_mem hx)
theorem vT (fs:List (α×β)) (q:α):bR fs q=(fs.findIdx? λx=>decide (x.1=q)).bind λj=>(fs[j]?).map (·.2):=by
 induction fs with
 | nil=>rfl
 | cons x r ih=>
  rw [eS,List.findIdx?_cons];by_cases h:x.1=q
  ·simp [h]
  simp only [h,decide_false,Bool.false_eq_true,if_false];rw [ih];cases r.findIdx? (λx=>decide (x.1=q))<;>simp
end maps
theorem qN (L:List Node) (n:Node):bR (eO L) n=(L.findIdx? λm=>decide (m=n)).map λi=>(i:Int):=by
 rw [vT,qG]
 cases h:L.findIdx? (λm=>decide (m=n)) with
 | none=>rfl
 | some j=>
  rw [List.findIdx?_eq_some_iff_getElem] at h;obtain⟨hj,_,_⟩:=h;show ((eO L)[j]?).map (·.2)=_;rw [zR,zQR hj];rfl
theorem sV {L:List Node} {n:Node} (h:L.findIdx? (λm=>decide (m=n))=none) (v:Int):eX (eO L) n v=eO L++[(n,v)]:=by
 unfold eX;rw [qG,h]
theorem lL {L:List Node} (hn:L.Nodup) (ho:NOK L) {n:Node} (hk:Node.ok n):dK Node.okb (eO L) n:=
 ⟨by rw [mJ]; exact hn, fun x hx => by
  have : x.1 ∈ (eO L).map (·.1) := List.mem_map_of_mem hx;rw [mJ] at this
  exact decide_eq_true (ho _ this), decide_eq_true hk⟩
theorem wI {α ρ:Type} [DecidableEq ρ] {l:List α} {a b:Option ρ} {x:ρ} (ha:l=[]→a=some x) (hb:b=some x):tE l a b=some x:=by
 cases l with
 | nil=>rw [ha rfl,hb];simp [tE]
 | cons y r=>exact hb
theorem vB {L : List Node} {n : Node} (hn : L.Nodup) (ho : NOK L) (hk : Node.ok n) (hl : L.length + 1 ≤ 1000000000) : aR ⟨eO L, L⟩ n = some (match L.findIdx? (fun m => decide (m = n)) with
  | some j => ((j : Int), ⟨eO L, L⟩)
  | none => ((L.length : Int), ⟨eO (L ++ [n]), L ++ [n]⟩)) := by
 have hlen:((L++[n]).length:Int) - 1=(L.length:Int):=by simp
 have hg1:(L++[n]).length≤1000000000:=by simp;omega
 have hg2:I64 (((L++[n]).length:Int) - 1):=by rw [hlen];unfold I64;omega
 unfold aR;dsimp only;refine wI (λhe=>?_) ?_
 ·have hL : L = [] := by have := congrArg List.length he; simpa [eO] using this
  subst hL;rw [aB (show n.okb=true from decide_eq_true hk),aA,aB ⟨List.nodup_nil,(λx h=>by cases h),decide_eq_true hk⟩,aB hg1,aB hg2];simp only [hlen];rfl
 rw [aB (lL hn ho hk),qN]
 cases h:L.findIdx? (λm=>decide (m=n)) with
 | some j=>simp
 | none=>
  rw [if_neg (by simp),aA,aB (lL hn ho hk),aB hg1,aB hg2];simp only [hlen,sV h,tO]
theorem xF {m : Merger} {L : List Node} {n : Node} (hm : m.nodes = ⟨eO L, L⟩) (hn : L.Nodup) (ho : NOK L) (hk : Node.ok n) (hl : L.length + 1 ≤ 1000000000) : aL m n = some (match L.findIdx? (fun m => decide (m = n)) with
  | some j => ((j : Int), m)
  | none => ((L.length : Int), ⟨m.a, m.b, m.all, ⟨eO (L ++ [n]), L ++ [n]⟩, m.done, m.full⟩)) := by
 have hlen:((L++[n]).length:Int) - 1=(L.length:Int):=by simp
 have hg1:(L++[n]).length≤1000000000:=by simp;omega
 have hg2:I64 (((L++[n]).length:Int) - 1):=by rw [hlen];unfold I64;omega
 unfold aL;rw [hm];dsimp only;refine wI (λhe=>?_) ?_
 ·have hL : L = [] := by have := congrArg List.length he; simpa [eO] using this
  subst hL;rw [aB (show n.okb=true from decide_eq_true hk),aA,aB ⟨List.nodup_nil,(λx h=>by cases h),decide_eq_true hk⟩,aB hg1,aB hg2];simp only [hlen];rfl
 rw [aB (lL hn ho hk),qN]
 cases h:L.findIdx? (λm=>decide (m=n)) with
 | some j=>simp
 | none=>
  rw [if_neg (by simp),aA,aB (lL hn ho hk),aB hg1,aB hg2];simp only [hlen,sV h,tO]
theorem InD.i64 {D:List Node} {x:Int} (h:InD D x) (hl:D.length≤4611686018427387903):I64 (x - 2)∧I64 x:=by
 have:=h.1;have:=h.2;unfold I64;omega
theorem iI {d:Diagram} {x:Int} (h:InD d.nodes x) (hl:d.nodes.length≤4611686018427387903):cJ d x=some (aG d.nodes x):=by
 unfold cJ aG;by_cases hx:x < 2
 ·rw [if_pos hx,if_pos hx]
 obtain ⟨n, hn⟩ := h.get (by omega);rw [if_neg hx,if_neg hx,aB (h.i64 hl).1,cK (by omega) hn,hn]
theorem nB {d:Diagram} {x w:Int} (h:InD d.nodes x) (hl:d.nodes.length≤4611686018427387903) (hw:w < 64):dB d x w=some (cW d.nodes x w):=by
 unfold dB cW;rw [iI h hl,aA];by_cases he:aG d.nodes x=w
 ·rw [if_pos he,if_pos he];have h2:¬ x < 2:=λh1=>by unfold aG at he;rw [if_pos h1] at he;omega
  obtain⟨n,hn⟩:=h.get (by omega);rw [aB (h.i64 hl).1,cK (by omega) hn,hn]
 rw [if_neg he,if_neg he]
theorem rN {x:Int} (h:I64 x) (h0:0≤x):fX x=some (dT x):=by
 unfold fX dT;split
 ·rw [aB (by unfold I64 at *; omega)]
 rfl
theorem lJ {α β ρ:Type} {f:Int×List β→Option ((Int×List β) ⊕ ρ)} (l:List α) (g:α→β) (o:ρ) (hn:l.length≤9223372036854775807) (hf:∀ (i:Nat) (e:α),l[i]?=some e→f ((i:Int),(l.take i).map g)=some (.inl ((i:Int)+1,(l.take i).map g++[g e]))) (he:f ((l.length:Int),l.map g)=some (.inr o)):bP f (0,[])=some o:=by
 refine oW l.length (λi=>(l.take i).map g) rfl hn (λi hi=>?_) (by rw [List.take_length];exact he);rw [hf i l[i] (by simp)]
 have:(l.take (i+1)).map g=(l.take i).map g++[g l[i]]:=by
  rw [List.take_add_one,zQR hi,Option.toList_some,List.map_append];rfl
 rw [this]
theorem tA {d:Diagram} (hn:NN d.nodes) (ho:NOK d.nodes) (h0:0≤d.root) (hr:I64 d.root) (hl:d.nodes.length≤1000000000):dA d=some ⟨d.nodes.map eM,dT d.root⟩:=by
 unfold dA;rw [rN hr h0,aA,lJ d.nodes eM (d.nodes.map eM) (by omega) ?_ ?_]
 ·rfl
 ·intro i e he;have hi:=(zQQ.1 he).1;have hm:=zQM he;dsimp only;rw [if_pos (by omega),cI he,rN (ho _ hm).2.1 (hn _ hm).1,aA,rN (ho _ hm).2.2 (hn _ hm).2,aA,aB (by simp;omega),aB (by unfold I64;omega)];rfl
 dsimp only;rw [if_neg (by omega)];rfl
theorem mK {D:List Node}:∀ {k:Nat} {f:Fn} {v x:Int},Has D k f v x→0≤x∧x < (D.length:Int)+2
 | 0,f,v,x,h=>by
  have h:x=bD (f []):=h;rw [h];unfold bD;split<;>omega
 | k+1,f,v,x,⟨lo,hi,h1,h2,h3⟩=>by
  split at h3
  ·rw [h3];exact mK h1
  have:=(zQQ.1 h3.2).1;omega
structure RelM (m:Merger) (s:MS):Prop where
 nodes:m.nodes=⟨eO s.nodes,s.nodes⟩
 full:m.full=s.full
 keys:(m.done.map (·.1)).Nodup
 okp:∀ p∈m.done,Pair.okb p.1=true
 done:∀ x y,bR m.done ⟨x,y⟩=s.done (x,y)
 ok:NOK s.nodes
theorem oS {m:Merger} {A B:Diagram} {all:Bool} (ha:m.a=A) (hb:m.b=B) (hc:m.all=all):(⟨A,B,all,m.nodes,m.done,m.full⟩:Merger)=m:=by
 subst ha hb hc;rfl
theorem yL {m:Merger} {L:List Node} {n:Node} {F:Bool} {T:List (Pair×Int)} (hm:m.nodes=⟨eO L,L⟩) (hn:L.Nodup) (ho:NOK L) (hk:Node.ok n) (hl:L.length+1≤1000000000):
  (if n.hi = n.lo then some (n.lo, F, m.nodes.index, m.nodes.list, T)
   else aC (aL m n) fun (r34, r35) =>
    aD (I64 (r34 + (2 : Int))) <|
    some ((r34 + (2 : Int)), F, r35.nodes.index, r35.nodes.list, T)) = some ((bH L n).2, F, eO (bH L n).1, (bH L n).1, T) := by
 unfold bH;by_cases h:n.lo=n.hi
 ·rw [if_pos h.symm,if_pos h,hm]
 rw [if_neg (fun e => h e.symm), if_neg h, xF hm hn ho hk hl, aA]
 cases hf:L.findIdx? (λm=>decide (m=n)) with
 | some j=>
  rw [List.findIdx?_eq_some_iff_getElem] at hf;obtain⟨hj,_,_⟩:=hf;dsimp only;rw [aB (by unfold I64;omega),hm]
 | none=>
  dsimp only;rw [aB (by unfold I64;omega)]
theorem oT {A B:Diagram} {all:Bool} {N:Int} (hA:WfD A.nodes) (hB:WfD B.nodes) (hN:N≤64) (hAN:∀ (i:Nat) (n:Node),A.nodes[i]?=some n→n.var < N) (hBN:∀ (i:Nat) (n:Node),B.nodes[i]?=some n→n.var < N) (lA:A.nodes.length≤1000000) (lB:B.nodes.length≤1000000):
  ∀ (f:Nat) (m:Merger) (s:MS) (x y v:Int) (k:Nat),65≤(f:Int)+min (aG A.nodes x) (aG B.nodes y)→InD A.nodes x→InD B.nodes y→MOk A.nodes B.nodes all N s→v+k=N→v≤aG A.nodes x→v≤aG B.nodes y→s.nodes.length+2 ^ k≤20001→RelM m s→m.a=A→m.b=B→m.all=all→
  ∃ m',aW f m ⟨x,y⟩=some ((dC A.nodes B.nodes all f s x y).2,m')∧RelM m' (dC A.nodes B.nodes all f s x y).1∧m'.a=A∧m'.b=B∧m'.all=all
 | 0,m,s,x,y,v,k,hf,hx,hy,hs,hv,h1,h2,hlen,hR,ha,hb,hc=>by
  have:=eA hA x;omega
 | f+1,m,s,x,y,v,k,hf,hx,hy,hs,hv,h1,h2,hlen,hR,ha,hb,hc=>by
  have ix:=(hx.i64 (by omega)).2;have iy:=(hy.i64 (by omega)).2;have hpk:Pair.okb ⟨x,y⟩=true:=decide_eq_true ⟨ix,iy⟩;have hko:dK Pair.okb m.done ⟨x,y⟩:=⟨hR.keys,hR.okp,hpk⟩;have hdo:(if (!(m.all))=true then some ((1:Int),(0:Int)) else some ((0:Int),(1:Int)))=some (bD (!all),bD all):=by rw [hc];cases all<;>rfl
  have nf:¬ s.full=true:=by rw [hs.part];exact Bool.false_ne_true
  have ng:¬ m.full=true:=by rw [hR.full];exact nf
  unfold dC aW;rw [if_neg nf,if_neg ng,hdo,aA];dsimp only;by_cases hd:x=bD (!all)∨y=bD (!all)
  ·have hd' : (decide (x = bD (!all)) || decide (y = bD (!all))) = true := by simpa using hd
   rw [if_pos hd,if_pos hd'];exact⟨m,rfl,hR,ha,hb,hc⟩
  have hd' : ¬ (decide (x = bD (!all)) || decide (y = bD (!all))) = true := by simpa using hd
  rw [if_neg hd,if_neg hd'];by_cases ho:x=bD all∧y=bD all
  ·have ho' : (decide (x = bD all) && decide (y = bD all)) = true := by simpa using ho
   rw [if_pos ho,if_pos ho'];exact⟨m,rfl,hR,ha,hb,hc⟩
  have ho' : ¬ (decide (x = bD all) && decide (y = bD all)) = true := by simpa using ho
  rw [if_neg ho,if_neg ho',aB hko,hR.done]
  cases hm:s.done (x,y) with
  | some r=>
   dsimp only;exact⟨m,rfl,hR,ha,hb,hc⟩
  | none=>
   dsimp only;rw [if_neg (by simp)];have hvA:=eA hA x;have hvB:=eA hB y
   have hlt:min (aG A.nodes x) (aG B.nodes y) < N:=by
    rcases Int.lt_or_le x 2 with hx2|hx2
    ·rcases Int.lt_or_le y 2 with hy2|hy2
     ·exfalso;have cx:=(lQ hx hx2).1;have cy:=(lQ hy hy2).1;have bb:∀ b:Bool,bD b=bD all∨bD b=bD (!all):=λb=>by cases b<;>cases all<;>simp [bD]
      rcases bb (decide (x=1)) with e1|e1
      ·rcases bb (decide (y=1)) with e2|e2
       ·exact ho ⟨cx.trans e1,cy.trans e2⟩
       exact hd (.inr (cy.trans e2))
      exact hd (.inl (cx.trans e1))
     obtain⟨n,hn⟩:=hy.get hy2;have:aG B.nodes y=n.var:=by unfold aG;rw [if_neg (by omega),hn]
     have:=hBN _ n hn;omega
    obtain⟨n,hn⟩:=hx.get hx2;have:aG A.nodes x=n.var:=by unfold aG;rw [if_neg (by omega),hn]
    have:=hAN _ n hn;omega
   have hw0:0≤min (aG A.nodes x) (aG B.nodes y):=by
    have:=zK hA x;have:=zK hB y;omega
   rw [ha,hb,hc,iI hx (by omega),aA,iI hy (by omega),aA];obtain⟨w,hw⟩:∃ w,w=min (aG A.nodes x) (aG B.nodes y):=⟨_,rfl⟩;rw [← hw];rw [← hw] at hlt hf hw0;rw [nB hx (by omega) (by omega),aA,nB hy (by omega) (by omega),aA];obtain⟨d,hdv⟩:∃ d:Nat,w=v+d:=⟨(w - v).toNat,by omega⟩;obtain⟨q,hq⟩:∃ q:Nat,k=d+(q+1):=⟨k - d - 1,by omega⟩;have KA:=nQ hA hx (w:=w) (by omega) (by omega);have KB:=nQ hB hy (w:=w) (by omega) (by omega);generalize cW A.nodes x w=ka at KA;generalize cW B.nodes y w=kb at KB;obtain⟨xa,xb⟩:=ka;obtain⟨ya,yb⟩:=kb;dsimp only at KA KB ⊢;have hpow:2 ^ (q+1)≤2 ^ k:=Nat.pow_le_pow_right (by omega) (by omega);rw [Nat.pow_succ] at hpow;have h2q:0 < 2 ^ q:=Nat.pos_of_ne_zero (by simp);have n1:=fU (all:=all) hA hB hN hAN hBN f s xa ya (w+1) q (by omega) KA.1 KB.1 hs (by omega) KA.2.2.1 KB.2.2.1 (by omega);obtain⟨m1,e1,R1,a1,b1,c1⟩:=oT hA hB hN hAN hBN lA lB f m s xa ya (w+1) q (by omega) KA.1 KB.1 hs (by omega) KA.2.2.1 KB.2.2.1 (by omega) hR ha hb hc;rw [e1,aA];dsimp only;generalize dC A.nodes B.nodes all f s xa ya=sa at n1 R1;have l1:=eN q s.nodes (fn2 A.nodes B.nodes (opQ all) xa ya (w+1)) (w+1);have g1:=mK (bW q s.nodes (fn2 A.nodes B.nodes (opQ all) xa ya (w+1)) (w+1));rw [← n1.1] at l1 g1;dsimp only at l1 g1;rw [oS a1 b1 c1];have n2:=fU (all:=all) hA hB hN hAN hBN f sa.1 xb yb (w+1) q (by omega) KA.2.1 KB.2.1 n1.2 (by omega) KA.2.2.2.1 KB.2.2.2.1 (by omega);obtain⟨m2,e2,R2,a2,b2,c2⟩:=oT hA hB hN hAN hBN lA lB f m1 sa.1 xb yb (w+1) q (by omega) KA.2.1 KB.2.1 n1.2 (by omega) KA.2.2.2.1 KB.2.2.2.1 (by omega) R1 a1 b1 c1;rw [e2,aA];dsimp only;generalize dC A.nodes B.nodes all f sa.1 xb yb=sb at n2 R2;have l2:=eN q sa.1.nodes (fn2 A.nodes B.nodes (opQ all) xb yb (w+1)) (w+1);have g2:=mK (bW q sa.1.nodes (fn2 A.nodes B.nodes (opQ all) xb yb (w+1)) (w+1));rw [← n2.1] at l2 g2;dsimp only at l2 g2;have hpre:=bC q sa.1.nodes (fn2 A.nodes B.nodes (opQ all) xb yb (w+1)) (w+1);rw [← n2.1] at hpre;have hple:=hpre.length_le;dsimp only at hple;rw [oS a2 b2 c2];have hok:Node.ok ⟨w,sa.2,sb.2⟩:=⟨by unfold I64;dsimp only;omega,by unfold I64;dsimp only;omega,by unfold I64;dsimp only;omega⟩;have st:=yL (m:=m2) (n:=⟨w,sa.2,sb.2⟩) (F:=m2.full) (T:=m2.done) R2.nodes n2.2.nodup R2.ok hok (by omega);dsimp only at st;rw [st,aA];dsimp only;have hal:=lW sb.1.nodes ⟨w,sa.2,sb.2⟩
   have hnok:NOK (bH sb.1.nodes ⟨w,sa.2,sb.2⟩).1:=by
    unfold bH;split
    ·exact R2.ok
    split
    ·exact R2.ok
    exact wG R2.ok hok
   rw [if_neg (by omega),aB ⟨R2.keys,R2.okp,hpk⟩];refine⟨_,rfl,⟨rfl,?_,xE R2.keys _ _,λp hp=>?_,λx' y'=>?_,hnok⟩,rfl,rfl,rfl⟩
   ·dsimp only;rw [R2.full,n2.2.part,Bool.false_or];exact (decide_eq_false (by omega)).symm
   ·rcases wA hp with rfl|hp
    ·exact hpk
    exact R2.okp p hp
   dsimp only;rw [xT,R2.done];by_cases he:(x',y')=(x,y)
   ·rw [if_pos he,if_pos (by obtain⟨rfl,rfl⟩:=Prod.mk.inj he;rfl)]
   rw [if_neg he,if_neg (λe=>he (by cases e;rfl))]
theorem vM {N:Nat} {f g:Fn} {a b:Diagram} (hN:N≤14) (hA:MakeOk N f a.nodes a.root) (hB:MakeOk N g b.nodes b.root) (all:Bool):dU a b all=some (⟨(eK N λl=>opQ all (f l) (g l)).1,(eK N λl=>opQ all (f l) (g l)).2⟩,true):=by
 have hp:2 ^ N≤2 ^ 14:=Nat.pow_le_pow_right (by omega) hN;have la:=hA.len;have lb:=hB.len;have m0:MOk a.nodes b.nodes all (N:Int) ms0:=⟨List.nodup_nil,rfl,λx y r h=>by cases h⟩;have mm:=vE (q:=aH) hN hA hB all (by unfold aH;omega)
 obtain ⟨m', e, R, _, _, _⟩ := oT (all := all) (N := (N : Int)) hA.wf hB.wf (by omega) hA.vars hB.vars (by omega) (by omega) aH ⟨a, b, all, ⟨[], []⟩, [], false⟩ ms0 a.root b.root 0 N
  (by have:=hA.low;have:=hB.low;unfold aH;omega) hA.root hB.root m0 (by omega) hA.low hB.low (by show 0+2 ^ N≤20001;omega)
  ⟨rfl,rfl,List.nodup_nil,λp h=>(by cases h),λx y=>rfl,nP⟩ rfl rfl rfl
 unfold dU eR;rw [e,aA];dsimp only;rw [if_neg (by rw [R.full,mm.2];exact Bool.false_ne_true),← mm.1,R.nodes]
end Go.Proofs.Ytdkhkhidekpfoaa
