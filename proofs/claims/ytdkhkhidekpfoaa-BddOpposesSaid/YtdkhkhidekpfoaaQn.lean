/- Texts of this proof, joined, without what it does not use. No condition. -/
import Derived.Test.YtdkhkhidekpfoaaRows
import Derived.Test.YtdkhkhidekpfoaaQm

set_option maxHeartbeats 8000000
set_option linter.unusedSimpArgs false
set_option linter.unusedVariables false
set_option maxRecDepth 20000
namespace Go.Proofs.Ytdkhkhidekpfoaa
open Go Go.TL
theorem follows:Try.prog.follows .mixedOrders=true:=by kernel_rfl
theorem own:ownKnob Try.prog.godebug=none:=by kernel_rfl
theorem qAF:laidOutB Try.prog=true:=by kernel_rfl
def tab:Tab where
 lay:=[(3,false,1),(4,false,1),(22,false,1),(24,true,3),(27,false,1),(29,true,2),(36,false,1),(39,false,1),(51,true,3),(61,false,1),(78,false,1),(79,false,1),(81,true,9),(84,true,2)]
 fs:=[(24,[(0,false,1),(1,false,1),(2,false,1)]),(29,[(0,false,1),(1,false,1)]),(51,[(0,false,1),(1,false,1),(2,false,1)]),(63,[(0,false,1),(1,false,1)]),(81,[(0,true,2),(2,true,2),(4,false,1),(5,true,2),(7,false,1),(8,false,1)]),(84,[(0,false,1),(1,false,1)])]
 sel:=[(22,24,3,40),(27,51,3,24),(36,4,1,1),(54,36,1,24),(59,39,1,8),(66,3,1,8)]
 str:=[]
 boo:=[(4,())]
 con:=[]
theorem TK:TabOk Try.prog tab:=zS (by kernel_rfl)
theorem qBS:bF Try.prog 10=true:=by kernel_rfl
theorem qBR:bF Try.prog 11=true:=by kernel_rfl
theorem qBQ:bF Try.prog 13=true:=by kernel_rfl
theorem qBP:bF Try.prog 14=true:=by kernel_rfl
theorem qBO:bF Try.prog 15=true:=by kernel_rfl
theorem qBN:bF Try.prog 17=true:=by kernel_rfl
theorem qBM:bF Try.prog 19=true:=by kernel_rfl
theorem qBL:bF Try.prog 25=true:=by kernel_rfl
theorem qBK:bF Try.prog 27=true:=by kernel_rfl
theorem qBJ:bF Try.prog 29=true:=by kernel_rfl
theorem qBI:bF Try.prog 32=true:=by kernel_rfl
theorem qBH:bF Try.prog 33=true:=by kernel_rfl
theorem qBG:bF Try.prog 34=true:=by kernel_rfl
theorem qBF:bF Try.prog 37=true:=by kernel_rfl
theorem qBE:bF Try.prog 38=true:=by kernel_rfl
theorem qBD:bF Try.prog 40=true:=by kernel_rfl
theorem qBC:bF Try.prog 41=true:=by kernel_rfl
theorem vP:bF Try.prog 42=true:=by kernel_rfl
theorem qBB:bF Try.prog 43=true:=by kernel_rfl
theorem qBA:bF Try.prog 48=true:=by kernel_rfl
theorem qAZ:bF Try.prog 49=true:=by kernel_rfl
theorem qAY:bF Try.prog 50=true:=by kernel_rfl
theorem qAX:bF Try.prog 51=true:=by kernel_rfl
theorem qAW:bF Try.prog 52=true:=by kernel_rfl
theorem qAV:bF Try.prog 54=true:=by kernel_rfl
theorem qAU:bF Try.prog 55=true:=by kernel_rfl
theorem qAT:bF Try.prog 56=true:=by kernel_rfl
theorem qAS:bF Try.prog 58=true:=by kernel_rfl
theorem qAR:bF Try.prog 59=true:=by kernel_rfl
theorem callB8:bF Try.prog 8=true:=by kernel_rfl
theorem keyt51:(Try.prog.keyTypeAt 30 51&&!Try.prog.eqGuardType Try.prog.depth 51&&(match Try.prog.underlying 51 with|some (.struct _)=>true|_=>false)&&[TypeDesc.int .i64,TypeDesc.int .i64,TypeDesc.int .i64].length == Try.prog.cellsOf 51)=true:=by kernel_rfl
theorem qAG:kJ Try.prog 30 51=some [.int .i64,.int .i64,.int .i64]:=by kernel_rfl
theorem lX:mty Try.prog 61=some (51,(Try.prog.underlying 51).getD .bool,3):=by kernel_rfl
theorem yD:mty Try.prog 79=some (84,(Try.prog.underlying 84).getD .bool,3):=by kernel_rfl
theorem qCG:plc Try.prog 24=some [(0,1),(1,1),(2,1)]:=by kernel_rfl
theorem eL:plc Try.prog 29=some [(0,1),(1,1)]:=by kernel_rfl
theorem rT:plc Try.prog 51=some [(0,1),(1,1),(2,1)]:=by kernel_rfl
theorem plc81:plc Try.prog 81=some [(0,2),(2,2),(4,1),(5,2),(7,1),(8,1)]:=by kernel_rfl
theorem xT:plc Try.prog 84=some [(0,1),(1,1)]:=by kernel_rfl
theorem gQ:SKey Try.prog 51 [.int .i64,.int .i64,.int .i64]:=sKey 3 (by decide) (by kernel_rfl) (by kernel_rfl)
theorem tH:SKey Try.prog 84 [.int .i64,.int .i64]:=sKey 3 (by decide) (by kernel_rfl) (by kernel_rfl)
theorem mV:(Try.prog.info? 24).bind (·.zero)=Option.some (Go.Value.agg #[Go.Value.int Go.IntKind.i64 0,Go.Value.int Go.IntKind.i64 0,Go.Value.slice Option.none 0 0]):=by kernel_rfl
theorem aQ:(Try.prog.info? 29).bind (·.zero)=Option.some (Go.Value.agg #[Go.Value.slice Option.none 0 0,Go.Value.int Go.IntKind.i64 0]):=by kernel_rfl
theorem mU:(Try.prog.info? 3).bind (·.zero)=Option.some (Go.Value.int Go.IntKind.i64 0):=by kernel_rfl
theorem zero36:(Try.prog.info? 36).bind (·.zero)=Option.some (Go.Value.slice Option.none 0 0):=by kernel_rfl
theorem tB:(Try.prog.info? 39).bind (·.zero)=Option.some (Go.Value.int Go.IntKind.u64 0):=by kernel_rfl
theorem qCC:(Try.prog.info? 4).bind (·.zero)=Option.some (Go.Value.bool Bool.false):=by kernel_rfl
theorem bD:(Try.prog.info? 51).bind (·.zero)=Option.some (Go.Value.agg #[Go.Value.int Go.IntKind.i64 0,Go.Value.int Go.IntKind.i64 0,Go.Value.int Go.IntKind.i64 0]):=by kernel_rfl
theorem zero63:(Try.prog.info? 63).bind (·.zero)=Option.some (Go.Value.agg #[Go.Value.map Option.none,Go.Value.slice Option.none 0 0]):=by kernel_rfl
theorem zero78:(Try.prog.info? 78).bind (·.zero)=Option.some Go.Value.nilFunc:=by kernel_rfl
theorem wU:(Try.prog.info? 81).bind (·.zero)=Option.some (Go.Value.agg #[Go.Value.slice Option.none 0 0,Go.Value.int Go.IntKind.i64 0,Go.Value.slice Option.none 0 0,Go.Value.int Go.IntKind.i64 0,Go.Value.bool Bool.false,Go.Value.map Option.none,Go.Value.slice Option.none 0 0,Go.Value.map Option.none,Go.Value.bool Bool.false]):=by kernel_rfl
theorem tA:(Try.prog.info? 84).bind (·.zero)=Option.some (Go.Value.agg #[Go.Value.int Go.IntKind.i64 0,Go.Value.int Go.IntKind.i64 0]):=by kernel_rfl
theorem qCA {w:World} {n k:Nat} {g:Gh} {mv:Nat→Bool} {o:Oper} {ev:Operand→AV} {hp:List Blk} {a b:Operand} {t':TypeId} {x y:Node} (ho:o.op=.binOp .neq 51 a b t') (hx:ev a=.d x.enc) (hy:ev b=.d y.enc) (h1:x.ok) (h2:y.ok):RdOk ⟨Try.prog,n,w,k,g,mv⟩ o ev hp (.d (.bool (!decide (x=y)))):=
 eq_not ho hx hy qAG keyt51 rfl rfl ⟨⟨rfl,h1.1⟩,⟨rfl,h1.2.1⟩,⟨rfl,h1.2.2⟩,trivial⟩ ⟨⟨rfl,h2.1⟩,⟨rfl,h2.2.1⟩,⟨rfl,h2.2.2⟩,trivial⟩ (wT x y)
theorem gV : KeyG [.int .i64, .int .i64, .int .i64] Node.enc Node.okb := ⟨fun x h => by
 have h : Node.ok x := of_decide_eq_true h
 exact ⟨_, [.int .i64 x.var, .int .i64 x.lo, .int .i64 x.hi], rfl, rfl, ⟨⟨rfl, h.1⟩, ⟨rfl, h.2.1⟩, ⟨rfl, h.2.2⟩, trivial⟩⟩, fun a b h => by
 cases a; cases b; simpa [Node.enc] using h⟩
theorem uE : KeyG [.int .i64, .int .i64] Pair.enc Pair.okb := ⟨fun x h => by
 have h : Pair.ok x := of_decide_eq_true h
 exact ⟨_, [.int .i64 x.a, .int .i64 x.b], rfl, rfl, ⟨⟨rfl, h.1⟩, ⟨rfl, h.2⟩, trivial⟩⟩, fun a b h => by
 cases a; cases b; simpa [Pair.enc] using h⟩
theorem HasTy.fld {P:Go.Program} {cs:List D} {fs:Array Field} (h2:∀ (i:Nat) (f:Field),fs[i]?=some f→HasTy P f.type ((cs.drop f.offset).take (P.cellsOf f.type))) {i off n:Nat} {f:Field} {t:TypeId} (hf:fs[i]?=some f) (ht:f.type=t) (ho:f.offset=off) (hc:P.cellsOf t=n):HasTy P t ((cs.drop off).take n):=by
 have:=h2 i f hf;rw [ht,ho,hc] at this;exact this
theorem qT:Try.prog.cellsOf 3=1:=by kernel_rfl
theorem vO:Try.prog.cellsOf 51=3:=by kernel_rfl
theorem qAD {cs:List D} (h:cs.length=3):∃ a0 a1 a2,cs=[a0,a1,a2]:=by
 match cs,h with
 | [a0,a1,a2],_=>exact⟨a0,a1,a2,rfl⟩
theorem ty51c (cs:List D) (h:HasTy Try.prog 51 cs):∃ x:Node,x.Wf∧cs=[.int .i64 x.var,.int .i64 x.lo,.int .i64 x.hi]:=by
 obtain⟨h1,h2⟩:=h.struct_inv Try.underlying51;rw [vO] at h1;obtain⟨a0,a1,a2,rfl⟩:=qAD h1;obtain⟨x0,e0,w0⟩:=(show HasTy Try.prog 3 [a0] from HasTy.fld h2 (i:=0) rfl rfl rfl qT).int_inv Try.underlying3;replace e0:[a0]=[D.int .i64 x0]:=e0;simp only [List.cons.injEq,and_true] at e0;obtain⟨x1,e1,w1⟩:=(show HasTy Try.prog 3 [a1] from HasTy.fld h2 (i:=1) rfl rfl rfl qT).int_inv Try.underlying3;replace e1:[a1]=[D.int .i64 x1]:=e1;simp only [List.cons.injEq,and_true] at e1;obtain⟨x2,e2,w2⟩:=(show HasTy Try.prog 3 [a2] from HasTy.fld h2 (i:=2) rfl rfl rfl qT).int_inv Try.underlying3;replace e2:[a2]=[D.int .i64 x2]:=e2;simp only [List.cons.injEq,and_true] at e2;subst e0 e1 e2;exact⟨⟨x0,x1,x2⟩,⟨w0,w1,w2⟩,rfl⟩
theorem ty51 (cs:List D) (h:HasTy Try.prog 51 cs):∃ x:Node,x.Wf∧aL Try.prog 51 cs=x.enc:=by
 obtain⟨x,w,rfl⟩:=ty51c cs h;exact⟨x,w,by simp [aL,Try.underlying51,Node.enc]⟩
theorem qAP:Try.prog.cellsOf 29=2:=by kernel_rfl
theorem qAQ:Try.prog.cellsOf 27=1:=by kernel_rfl
theorem qAE {cs:List D} (h:cs.length=2):∃ a0 a1,cs=[a0,a1]:=by
 match cs,h with
 | [a0,a1],_=>exact⟨a0,a1,rfl⟩
theorem ty29c (cs:List D) (h:HasTy Try.prog 29 cs):∃ x:Diagram,x.Wf∧cs=[.sl 3 (x.nodes.map Node.enc),.int .i64 x.root]:=by
 obtain⟨h1,h2⟩:=h.struct_inv Try.underlying29;rw [qAP] at h1;obtain⟨a0,a1,rfl⟩:=qAE h1;obtain⟨x0,e0,l0,m0⟩:=(show HasTy Try.prog 27 [a0] from HasTy.fld h2 (i:=0) rfl rfl rfl qAQ).list Try.underlying27 Node.enc Node.Wf (λcs _ h=>ty51 cs h);rw [vO] at e0;have w0:=And.intro l0 m0;replace e0:[a0]=[D.sl 3 (x0.map Node.enc)]:=e0;simp only [List.cons.injEq,and_true] at e0;obtain⟨x1,e1,w1⟩:=(show HasTy Try.prog 3 [a1] from HasTy.fld h2 (i:=1) rfl rfl rfl qT).int_inv Try.underlying3;replace e1:[a1]=[D.int .i64 x1]:=e1;simp only [List.cons.injEq,and_true] at e1;subst e0 e1;exact⟨⟨x0,x1⟩,⟨w0,w1⟩,rfl⟩
theorem ty29 (cs:List D) (h:HasTy Try.prog 29 cs):∃ x:Diagram,x.Wf∧aL Try.prog 29 cs=x.enc:=by
 obtain⟨x,w,rfl⟩:=ty29c cs h;exact⟨x,w,by simp [aL,Try.underlying29,Diagram.enc]⟩
def kI (p0:Int):Option Expr:=
 some (⟨(3:Int),p0,([]:List Expr)⟩:Expr)
def dN:Nat→Expr→Int→Int→Int→Option (Bool×Int)
 | 0,_,_,_,_=>none
 | fu+1,p0,p1,p2,p3=>
 if ((decide ((12:Int) < p2))||(decide (p3=(0:Int))))=true then
 some (false,p3)
 else
 aF (I64 (p3 - (1:Int))) <|
 gM (
 aD (
 if p0.op=(1:Int) then
 some (decide (p0.op=(1:Int)))
 else
 some (decide (p0.op=(2:Int)))) λx5=>
 if x5=true then
 bW (
 some (((decide (p0.var=(0:Int)))&&(decide ((p0.args.length:Int)=(0:Int)))),(p3 - (1:Int))))
 else
 if p0.op=(3:Int) then
 bW (
 some (((decide ((0:Int)≤p0.var))&&((decide (p0.var < p1))&&(decide ((p0.args.length:Int)=(0:Int))))),(p3 - (1:Int))))
 else
 if p0.op=(4:Int) then
 if (p0.args.length:Int)=(1:Int) then
 some (.inl ())
 else
 bW (
 some (false,(p3 - (1:Int))))
 else
 if p0.op=(5:Int) then
 some (.inl ())
 else
 if p0.op=(6:Int) then
 some (.inl ())
 else
 bW (
 some (false,(p3 - (1:Int))))) λ_=>
 if p0.var=(0:Int) then
 gM (
 dC (λ(x27,c28)=>
 if x27 < (p0.args.length:Int) then
 cI p0.args x27 λe31=>
 aF (I64 (p2+(1:Int))) <|
 aD ((dN fu) e31 p1 (p2+(1:Int)) c28) λ(r34,r35)=>
 if (!(r34))=true then
 bW (
 bW (
 some (false,r35)))
 else
 aF (I64 (x27+(1:Int))) <|
 some (.inl ((x27+(1:Int)),r35))
 else
 bW (
 some (.inl c28))) ((0:Int),(p3 - (1:Int)))) λc22=>
 some (true,c22)
 else
 some (false,(p3 - (1:Int)))
def oF (p0:Expr) (p1:Int) (p2:Int) (p3:Int):Option (Bool×Int):=dN aN p0 p1 p2 p3
def jO (p0:Expr) (p1:Int):Option Bool:=
 aD (oF p0 p1 (1:Int) (20000:Int)) λ(r2,r3)=>
 some r2
def fF (p0:Int):Option Int:=
 if p0 < (2:Int) then
 aF (I64 ((1:Int) - p0)) <|
 some ((1:Int) - p0)
 else
 some p0
def cQ (p0:Diagram):Option Diagram:=
 aD (fF p0.root) λr1=>
 aD (
 dC (λ(x7,b8)=>
 if x7 < (p0.nodes.length:Int) then
 cI p0.nodes x7 λe11=>
 aD (fF e11.lo) λr12=>
 aD (fF e11.hi) λr13=>
 aF ((b8++([(⟨e11.var,r12,r13⟩:Node)]:List Node)).length≤1000000000) <|
 aF (I64 (x7+(1:Int))) <|
 some (.inl ((x7+(1:Int)),(b8++([(⟨e11.var,r12,r13⟩:Node)]:List Node))))
 else
 bW (
 some b8)) ((0:Int),([]:List Node))) λb2=>
 some (⟨b2,r1⟩:Diagram)
def eQ (p0:Bool):Option Diagram:=
 if p0=true then
 some (⟨([]:List Node),(1:Int)⟩:Diagram)
 else
 some (⟨([]:List Node),(0:Int)⟩:Diagram)
def bX (p0:Diagram) (p1:Int):Option Int:=
 if p1 < (2:Int) then
 some (64:Int)
 else
 aF (I64 (p1 - (2:Int))) <|
 cI p0.nodes (p1 - (2:Int)) λe3=>
 some e3.var
def cR (p0:Diagram) (p1:Int) (p2:Int):Option (Int×Int):=
 aD (bX p0 p1) λr1=>
 if r1=p2 then
 aF (I64 (p1 - (2:Int))) <|
 cI p0.nodes (p1 - (2:Int)) λe4=>
 some (e4.lo,e4.hi)
 else
 some (p1,p1)
def aI (p0:Merger) (p1:Node):Option (Int×Merger):=
 sA p0.nodes.index (
 aF (Node.okb p1=true) <|
 aD (
 some ()) λ_=>
 aF (cY Node.okb ([]:List (Node×Int)) p1) <|
 aF ((p0.nodes.list++([p1]:List Node)).length≤1000000000) <|
 aF (I64 (((p0.nodes.list++([p1]:List Node)).length:Int) - (1:Int))) <|
 some ((((p0.nodes.list++([p1]:List Node)).length:Int) - (1:Int)),(⟨p0.a,p0.b,p0.all,(⟨(eD ([]:List (Node×Int)) p1 (p0.nodes.list.length:Int)),(p0.nodes.list++([p1]:List Node))⟩:Node'),p0.done,p0.full⟩:Merger))) (
 aF (cY Node.okb p0.nodes.index p1) <|
 if ((bK p0.nodes.index p1).isSome)=true then
 some (((bK p0.nodes.index p1).getD (0:Int)),p0)
 else
 aD (
 some ()) λ_=>
 aF (cY Node.okb p0.nodes.index p1) <|
 aF ((p0.nodes.list++([p1]:List Node)).length≤1000000000) <|
 aF (I64 (((p0.nodes.list++([p1]:List Node)).length:Int) - (1:Int))) <|
 some ((((p0.nodes.list++([p1]:List Node)).length:Int) - (1:Int)),(⟨p0.a,p0.b,p0.all,(⟨(eD p0.nodes.index p1 (p0.nodes.list.length:Int)),(p0.nodes.list++([p1]:List Node))⟩:Node'),p0.done,p0.full⟩:Merger)))
def aR:Nat→Merger→Pair→Option (Int×Merger)
 | 0,_,_=>none
 | fu+1,p0,p1=>
 if (p0.full)=true then
 some ((0:Int),p0)
 else
 aD (
 if (!(p0.all))=true then
 some ((1:Int),(0:Int))
 else
 some ((0:Int),(1:Int))) λ(decides2,other3)=>
 if ((decide (p1.a=decides2))||(decide (p1.b=decides2)))=true then
 some (decides2,p0)
 else
 if ((decide (p1.a=other3))&&(decide (p1.b=other3)))=true then
 some (other3,p0)
 else
 aF (cY Pair.okb p0.done p1) <|
 if ((bK p0.done p1).isSome)=true then
 some (((bK p0.done p1).getD (0:Int)),p0)
 else
 aD (bX p0.a p1.a) λr12=>
 aD (bX p0.b p1.b) λr13=>
 aD (cR p0.a p1.a (min r12 r13)) λ(r15,r16)=>
 aD (cR p0.b p1.b (min r12 r13)) λ(r18,r19)=>
 aD ((aR fu) p0 (⟨r15,r18⟩:Pair)) λ(r21,r22)=>
 aD (
 aD ((aR fu) (⟨p0.a,p0.b,p0.all,r22.nodes,r22.done,r22.full⟩:Merger) (⟨r16,r19⟩:Pair)) λ(r30,r31)=>
 if r30=r21 then
 some (r21,r31.full,r31.nodes.index,r31.nodes.list,r31.done)
 else
 aD (aI (⟨p0.a,p0.b,p0.all,r31.nodes,r31.done,r31.full⟩:Merger) (⟨(min r12 r13),r21,r30⟩:Node)) λ(r34,r35)=>
 aF (I64 (r34+(2:Int))) <|
 some ((r34+(2:Int)),r31.full,r35.nodes.index,r35.nodes.list,r31.done)) λ(x23,c24,m25,b26,m27)=>
 if (20000:Int) < (b26.length:Int) then
 aF (cY Pair.okb m27 p1) <|
 some (x23,(⟨p0.a,p0.b,p0.all,(⟨m25,b26⟩:Node'),(eD m27 p1 x23),true⟩:Merger))
 else
 aF (cY Pair.okb m27 p1) <|
 some (x23,(⟨p0.a,p0.b,p0.all,(⟨m25,b26⟩:Node'),(eD m27 p1 x23),c24⟩:Merger))
def dV (p0:Merger) (p1:Pair):Option (Int×Merger):=aR aN p0 p1
def dF (p0:Diagram) (p1:Diagram) (p2:Bool):Option (Diagram×Bool):=
 aD (dV (⟨p0,p1,p2,(⟨([]:List (Node×Int)),([]:List Node)⟩:Node'),([]:List (Pair×Int)),false⟩:Merger) (⟨p0.root,p1.root⟩:Pair)) λ(r2,r3)=>
 if (r3.full)=true then
 some ((⟨([]:List Node),(0:Int)⟩:Diagram),false)
 else
 some ((⟨r3.nodes.list,r2⟩:Diagram),true)
def cB:Nat→Expr→Option (Diagram×Bool)
 | 0,_=>none
 | fu+1,p0=>
 gM (
 if p0.op=(1:Int) then
 bW (
 some ((⟨([]:List Node),(0:Int)⟩:Diagram),true))
 else
 if p0.op=(3:Int) then
 bW (
 some ((⟨([(⟨p0.var,(0:Int),(1:Int)⟩:Node)]:List Node),(2:Int)⟩:Diagram),true))
 else
 if p0.op=(4:Int) then
 cI p0.args (0:Int) λe7=>
 aD ((cB fu) e7) λ(r9,r10)=>
 aD (cQ r9) λr11=>
 bW (
 some (r11,r10))
 else
 aD (
 if p0.op=(5:Int) then
 some (decide (p0.op=(5:Int)))
 else
 some (decide (p0.op=(6:Int)))) λx13=>
 if x13=true then
 aD (eQ (decide (p0.op=(5:Int)))) λr17=>
 gM (
 dC (λ(x25,c26,c27)=>
 if x25 < (p0.args.length:Int) then
 cI p0.args x25 λe30=>
 aD ((cB fu) e30) λ(r32,r33)=>
 if (!(r33))=true then
 bW (
 bW (
 bW (
 some ((⟨([]:List Node),(0:Int)⟩:Diagram),false))))
 else
 aD (dF (⟨c26,c27⟩:Diagram) r32 (decide (p0.op=(5:Int)))) λ(r39,r40)=>
 if (!(r40))=true then
 bW (
 bW (
 bW (
 some ((⟨([]:List Node),(0:Int)⟩:Diagram),false))))
 else
 aF (I64 (x25+(1:Int))) <|
 some (.inl ((x25+(1:Int)),r39.nodes,r39.root))
 else
 bW (
 some (.inl (c26,c27)))) ((0:Int),r17.nodes,r17.root)) λ(c18,c19)=>
 bW (
 some ((⟨c18,c19⟩:Diagram),true))
 else
 some (.inl ())) λ_=>
 aD (eQ true) λr48=>
 some (r48,true)
def mA (p0:Expr):Option (Diagram×Bool):=cB aN p0
def uN (p0:Expr) (p1:Int):Option (Diagram×Int):=
 if (64:Int) < p1 then
 some ((⟨([]:List Node),(0:Int)⟩:Diagram),(2:Int))
 else
 aD (
 if p1 < (0:Int) then
 some true
 else
 aD (jO p0 p1) λr5=>
 some (!(r5))) λx2=>
 if x2=true then
 some ((⟨([]:List Node),(0:Int)⟩:Diagram),(1:Int))
 else
 aD (mA p0) λ(r8,r9)=>
 if (!(r9))=true then
 some ((⟨([]:List Node),(0:Int)⟩:Diagram),(2:Int))
 else
 some (r8,(0:Int))
def dG (p0:Diagram) (p1:Int) (p2:Int):Option Bool:=
 if ((decide (p2=(0:Int)))||(decide (p2=(1:Int))))=true then
 some true
 else
 aD (
 if (2:Int)≤p2 then
 aF (I64 (p1+(2:Int))) <|
 if p2 < (p1+(2:Int)) then
 aF (I64 (p2 - (2:Int))) <|
 cI p0.nodes (p2 - (2:Int)) λe9=>
 cI p0.nodes p1 λe10=>
 some (decide (e10.var < e9.var))
 else
 some false
 else
 some false) λx3=>
 some x3
def bA:Nat→Int→(List Bool)→Diagram→Int→Option (Bool×(List Bool)×Int)
 | 0,_,_,_,_=>none
 | fu+1,p0,p1,p2,p4=>
 aD (
 if p0 < (2:Int) then
 some true
 else
 cI p1 p0 λe4=>
 some e4) λx1=>
 if x1=true then
 some (true,p1,p4)
 else
 cI p1 p0 λe6=>
 aF (I64 (p0 - (2:Int))) <|
 cI p2.nodes (p0 - (2:Int)) λe8=>
 aD (
 aD ((bA fu) e8.lo (p1.set p0.toNat true) p2 p4) λ(r14,r15,r16)=>
 if (!(r14))=true then
 some (true,r15,r16)
 else
 aD ((bA fu) e8.hi r15 p2 r16) λ(r19,r20,r21)=>
 if (!(r19))=true then
 some (true,r20,r21)
 else
 some (!(decide (p0=r21)),r20,r21)) λ(x9,b10,c11)=>
 if x9=true then
 some (false,b10,c11)
 else
 aF (I64 (c11+(1:Int))) <|
 some (true,b10,(c11+(1:Int)))
def fE (p0:Int) (p1:(List Bool)) (p2:Diagram) (p4:Int):Option (Bool×(List Bool)×Int):=bA aN p0 p1 p2 p4
def eI (p0:Diagram):Option Bool:=
 aF (I64 ((p0.nodes.length:Int)+(2:Int))) <|
 aF (0≤((p0.nodes.length:Int)+(2:Int))∧((p0.nodes.length:Int)+(2:Int))≤1000000000) <|
 aD (
 aD (fE p0.root (List.replicate ((p0.nodes.length:Int)+(2:Int)).toNat false) p0 (2:Int)) λ(r8,r9,r10)=>
 if r8=true then
 aF (I64 ((p0.nodes.length:Int)+(2:Int))) <|
 some (decide (r10=((p0.nodes.length:Int)+(2:Int))),r9,r10)
 else
 some (false,r9,r10)) λ(x3,b4,c5)=>
 some x3
def aM (p0:Node') (p1:Node):Option (Int×Node'):=
 sA p0.index (
 aF (Node.okb p1=true) <|
 aD (
 some ()) λ_=>
 aF (cY Node.okb ([]:List (Node×Int)) p1) <|
 aF ((p0.list++([p1]:List Node)).length≤1000000000) <|
 aF (I64 (((p0.list++([p1]:List Node)).length:Int) - (1:Int))) <|
 some ((((p0.list++([p1]:List Node)).length:Int) - (1:Int)),(⟨(eD ([]:List (Node×Int)) p1 (p0.list.length:Int)),(p0.list++([p1]:List Node))⟩:Node'))) (
 aF (cY Node.okb p0.index p1) <|
 if ((bK p0.index p1).isSome)=true then
 some (((bK p0.index p1).getD (0:Int)),p0)
 else
 aD (
 some ()) λ_=>
 aF (cY Node.okb p0.index p1) <|
 aF ((p0.list++([p1]:List Node)).length≤1000000000) <|
 aF (I64 (((p0.list++([p1]:List Node)).length:Int) - (1:Int))) <|
 some ((((p0.list++([p1]:List Node)).length:Int) - (1:Int)),(⟨(eD p0.index p1 (p0.list.length:Int)),(p0.list++([p1]:List Node))⟩:Node')))
def bN (p0:Diagram):Option Bool:=
 if (20000:Int) < (p0.nodes.length:Int) then
 some false
 else
 gM (
 dC (λ(x9,b10,b11)=>
 if x9 < (p0.nodes.length:Int) then
 cI p0.nodes x9 λe14=>
 aD (
 if e14.var < (0:Int) then
 some true
 else
 if (64:Int)≤e14.var then
 some true
 else
 if e14.lo=e14.hi then
 some true
 else
 aD (dG p0 x9 e14.lo) λr20=>
 if (!(r20))=true then
 some true
 else
 aD (dG p0 x9 e14.hi) λr22=>
 some (!(r22))) λx15=>
 if x15=true then
 bW (
 bW (
 some false))
 else
 aD (aM (⟨b10,b11⟩:Node') e14) λ(r27,r28)=>
 if r27=x9 then
 aF (I64 (x9+(1:Int))) <|
 some (.inl ((x9+(1:Int)),r28.index,r28.list))
 else
 bW (
 bW (
 some false))
 else
 bW (
 some (.inl (b10,b11)))) ((0:Int),([]:List (Node×Int)),([]:List Node))) λ(m2,b3)=>
 if (p0.nodes.length:Int)=(0:Int) then
 some ((decide (p0.root=(0:Int)))||(decide (p0.root=(1:Int))))
 else
 aD (
 aF (I64 ((p0.nodes.length:Int)+(1:Int))) <|
 if p0.root=((p0.nodes.length:Int)+(1:Int)) then
 aD (eI p0) λr40=>
 some r40
 else
 some false) λx36=>
 some x36
def eS (p0:Diagram) (p1:Int):Option Bool:=
 gM (
 dC (λx3=>
 if x3 < (p0.nodes.length:Int) then
 cI p0.nodes x3 λe6=>
 if p1≤e6.var then
 bW (
 bW (
 some false))
 else
 aF (I64 (x3+(1:Int))) <|
 some (.inl (x3+(1:Int)))
 else
 bW (
 some (.inl ()))) (0:Int)) λ_=>
 some true
def bY (p0:Int) (p1:Int) (p2:Diagram):Option Int:=
 if p0 < (2:Int) then
 some p1
 else
 aF (I64 (p0 - (2:Int))) <|
 cI p2.nodes (p0 - (2:Int)) λe3=>
 some e3.var
def dW (p0:Diagram) (p1:Int):Option (Int×Int):=
 if ((decide (p1 < (0:Int)))||(decide ((62:Int) < p1)))=true then
 some ((0:Int),(2:Int))
 else
 aD (
 aD (bN p0) λr5=>
 if (!(r5))=true then
 some true
 else
 aD (eS p0 p1) λr7=>
 some (!(r7))) λx3=>
 if x3=true then
 some ((0:Int),(1:Int))
 else
 aD (
 dC (λ(x14,b15)=>
 if x14 < (p0.nodes.length:Int) then
 cI p0.nodes x14 λe18=>
 cI b15 e18.lo λe19=>
 aD (bY e18.lo p1 p0) λr20=>
 aF (I64 (r20 - e18.var)) <|
 aF (I64 ((r20 - e18.var) - (1:Int))) <|
 aF (0≤((r20 - e18.var) - (1:Int))) <|
 cI b15 e18.hi λe24=>
 aD (bY e18.hi p1 p0) λr25=>
 aF (I64 (r25 - e18.var)) <|
 aF (I64 ((r25 - e18.var) - (1:Int))) <|
 aF (0≤((r25 - e18.var) - (1:Int))) <|
 aF ((b15++([(IntKind.u64.wrap ((IntKind.u64.wrap (e19 * (2 ^ (min ((r20 - e18.var) - (1:Int)).toNat IntKind.u64.bits))))+(IntKind.u64.wrap (e24 * (2 ^ (min ((r25 - e18.var) - (1:Int)).toNat IntKind.u64.bits))))))]:List Int)).length≤1000000000) <|
 aF (I64 (x14+(1:Int))) <|
 some (.inl ((x14+(1:Int)),(b15++([(IntKind.u64.wrap ((IntKind.u64.wrap (e19 * (2 ^ (min ((r20 - e18.var) - (1:Int)).toNat IntKind.u64.bits))))+(IntKind.u64.wrap (e24 * (2 ^ (min ((r25 - e18.var) - (1:Int)).toNat IntKind.u64.bits))))))]:List Int))))
 else
 bW (
 some b15)) ((0:Int),([(0:Int),(1:Int)]:List Int))) λb9=>
 cI b9 p0.root λe32=>
 aD (bY p0.root p1 p0) λr33=>
 aF (0≤r33) <|
 some ((IntKind.u64.wrap (e32 * (2 ^ (min r33.toNat IntKind.u64.bits)))),(0:Int))
def lP (p0:Diagram) (p1:Int):Option ((List Bool)×Bool):=
 aD (
 if p1 < (0:Int) then
 some true
 else
 if (64:Int) < p1 then
 some true
 else
 aD (bN p0) λr5=>
 if (!(r5))=true then
 some true
 else
 aD (eS p0 p1) λr7=>
 if (!(r7))=true then
 some true
 else
 some (decide (p0.root=(0:Int)))) λx1=>
 if x1=true then
 some (([]:List Bool),false)
 else
 aF (0≤p1∧p1≤1000000000) <|
 aD (
 dC (λ(at16,b17)=>
 if (1:Int) < at16 then
 aF (I64 (at16 - (2:Int))) <|
 cI p0.nodes (at16 - (2:Int)) λe21=>
 if e21.lo=(0:Int) then
 cI b17 e21.var λe23=>
 some (.inl (e21.hi,(b17.set e21.var.toNat true)))
 else
 some (.inl (e21.lo,b17))
 else
 bW (
 some b17)) (p0.root,(List.replicate p1.toNat false))) λb11=>
 some (b11,true)
def bP (p0:Diagram) (p1:Diagram):Option Bool:=
 if ((!(decide ((p0.nodes.length:Int)=(p1.nodes.length:Int))))||(!(decide (p0.root=p1.root))))=true then
 some false
 else
 gM (
 dC (λx5=>
 if x5 < (p0.nodes.length:Int) then
 cI p0.nodes x5 λe8=>
 cI p1.nodes x5 λe9=>
 aF (Node.ok e8∧Node.ok e9) <|
 if e8=e9 then
 aF (I64 (x5+(1:Int))) <|
 some (.inl (x5+(1:Int)))
 else
 bW (
 bW (
 some false))
 else
 bW (
 some (.inl ()))) (0:Int)) λ_=>
 some true
def eH:Option Bool:=
 aD (kI (0:Int)) λr1=>
 aD (kI (1:Int)) λr2=>
 aD (uN (⟨(5:Int),(0:Int),([r1,r2]:List Expr)⟩:Expr) (2:Int)) λ(r4,r5)=>
 aD (dW r4 (3:Int)) λ(r7,r8)=>
 aD (lP r4 (2:Int)) λ(r10,r11)=>
 aD (
 if r5=(0:Int) then
 if r8=(0:Int) then
 if r7=(2:Int) then
 if r11=true then
 if (r10.length:Int)=(2:Int) then
 cI r10 (0:Int) λe19=>
 if e19=true then
 cI r10 (1:Int) λe21=>
 if e21=true then
 aD (bP r4 (⟨([(⟨(1:Int),(0:Int),(1:Int)⟩:Node),(⟨(0:Int),(0:Int),(2:Int)⟩:Node)]:List Node),(3:Int)⟩:Diagram)) λr23=>
 if r23=true then
 aD (bN r4) λr25=>
 some r25
 else
 some false
 else
 some false
 else
 some false
 else
 some false
 else
 some false
 else
 some false
 else
 some false
 else
 some false) λx12=>
 some x12
def kZ (p0:Diagram) (p1:Node):Option (Int×Diagram):=
 if p1.lo=p1.hi then
 some (p1.lo,p0)
 else
 gM (
 dC (λx4=>
 if x4 < (p0.nodes.length:Int) then
 cI p0.nodes x4 λe7=>
 aF (Node.ok e7∧Node.ok p1) <|
 if e7=p1 then
 aF (I64 (x4+(2:Int))) <|
 bW (
 bW (
 some ((x4+(2:Int)),p0)))
 else
 aF (I64 (x4+(1:Int))) <|
 some (.inl (x4+(1:Int)))
 else
 bW (
 some (.inl ()))) (0:Int)) λ_=>
 aF ((p0.nodes++([p1]:List Node)).length≤1000000000) <|
 aF (I64 (((p0.nodes++([p1]:List Node)).length:Int)+(1:Int))) <|
 some ((((p0.nodes++([p1]:List Node)).length:Int)+(1:Int)),(⟨(p0.nodes++([p1]:List Node)),p0.root⟩:Diagram))
def cO:Nat→Diagram→(List Bool)→Int→Option (Int×Diagram)
 | 0,_,_,_=>none
 | fu+1,p0,p1,p2=>
 if (p1.length:Int)=(1:Int) then
 cI p1 (0:Int) λe2=>
 if e2=true then
 some ((1:Int),p0)
 else
 some ((0:Int),p0)
 else
 aF (¬ (2:Int)=0) <|
 aF (0≤(0:Int)∧(0:Int)≤(IntKind.i64.wrap ((p1.length:Int).tdiv (2:Int)))∧(IntKind.i64.wrap ((p1.length:Int).tdiv (2:Int)))≤(p1.length:Int)) <|
 aF (I64 (p2+(1:Int))) <|
 aD ((cO fu) p0 (sub p1 (0:Int) (IntKind.i64.wrap ((p1.length:Int).tdiv (2:Int)))) (p2+(1:Int))) λ(r8,r9)=>
 aF (0≤(IntKind.i64.wrap ((p1.length:Int).tdiv (2:Int)))∧(IntKind.i64.wrap ((p1.length:Int).tdiv (2:Int)))≤(p1.length:Int)∧(p1.length:Int)≤(p1.length:Int)) <|
 aF (I64 (p2+(1:Int))) <|
 aD ((cO fu) (⟨r9.nodes,p0.root⟩:Diagram) (sub p1 (IntKind.i64.wrap ((p1.length:Int).tdiv (2:Int))) (p1.length:Int)) (p2+(1:Int))) λ(r13,r14)=>
 aD (kZ (⟨r14.nodes,p0.root⟩:Diagram) (⟨p2,r8,r13⟩:Node)) λ(r16,r17)=>
 some (r16,(⟨r17.nodes,p0.root⟩:Diagram))
def nE (p0:Diagram) (p1:(List Bool)) (p2:Int):Option (Int×Diagram):=cO aN p0 p1 p2
def nF (p0:(List Bool)):Option Diagram:=
 aD (nE (⟨([]:List Node),(0:Int)⟩:Diagram) p0 (0:Int)) λ(r2,r3)=>
 some (⟨r3.nodes,r2⟩:Diagram)
def eC (p0:Diagram):Option Int:=
 aD (
 dC (λ(w5,x6)=>
 if x6 < (p0.nodes.length:Int) then
 cI p0.nodes x6 λe9=>
 some (.inl ((max w5 (IntKind.i64.wrap (e9.var+(1:Int)))),(IntKind.i64.wrap (x6+(1:Int)))))
 else
 bW (
 some w5)) ((0:Int),(0:Int))) λw1=>
 some w1
def dD (p0:Diagram):Option Bool:=
 aD (
 if (p0.nodes.length:Int)≤(200:Int) then
 aD (eC p0) λr4=>
 some (decide (r4≤(10:Int)))
 else
 some false) λx1=>
 some x1
def fU (p0:Diagram) (p1:Diagram) (p2:Bool):Option (Diagram×Int):=
 aD (
 aD (bN p0) λr3=>
 if (!(r3))=true then
 some true
 else
 aD (bN p1) λr5=>
 some (!(r5))) λx1=>
 if x1=true then
 some ((⟨([]:List Node),(0:Int)⟩:Diagram),(1:Int))
 else
 aD (dF p0 p1 p2) λ(r8,r9)=>
 if (!(r9))=true then
 some ((⟨([]:List Node),(0:Int)⟩:Diagram),(2:Int))
 else
 some (r8,(0:Int))
def kQ (p0:Diagram) (p1:Diagram):Option (Diagram×Int):=
 aD (fU p0 p1 true) λ(r2,r3)=>
 some (r2,r3)
def qX (p0:Diagram) (p1:Diagram):Option (Diagram×Int):=
 aD (fU p0 p1 false) λ(r2,r3)=>
 some (r2,r3)
def eA (p0:Diagram):Option Diagram:=
 aD (bN p0) λr1=>
 if (!(r1))=true then
 some (⟨([]:List Node),(0:Int)⟩:Diagram)
 else
 aD (cQ p0) λr3=>
 some r3
def cP (p0:Diagram) (p1:Diagram):Option Bool:=
 aD (
 aD (dD p0) λr3=>
 if (!(r3))=true then
 some true
 else
 aD (dD p1) λr5=>
 if (!(r5))=true then
 some true
 else
 aD (bN p0) λr7=>
 if (!(r7))=true then
 some true
 else
 aD (bN p1) λr9=>
 some (!(r9))) λx1=>
 if x1=true then
 aD (eH) λr11=>
 some r11
 else
 aD (kQ p0 p1) λ(r13,r14)=>
 aD (kQ p1 p0) λ(r16,r17)=>
 aD (eA p0) λr18=>
 aD (eA p1) λr19=>
 aD (qX r18 r19) λ(r21,r22)=>
 aD (dW p0 (62:Int)) λ(r24,r25)=>
 aD (eA p0) λr26=>
 aD (dW r26 (62:Int)) λ(r28,r29)=>
 if ((!(decide (r14=(0:Int))))||((!(decide (r17=(0:Int))))||((!(decide (r22=(0:Int))))||((!(decide (r25=(0:Int))))||((!(decide (r29=(0:Int))))||(!(decide ((IntKind.u64.wrap (r24+r28))=(4611686018427387904:Int)))))))))=true then
 some false
 else
 aD (
 aD (eA p0) λr38=>
 aD (eA r38) λr39=>
 aD (bP r39 p0) λr40=>
 if r40=true then
 aD (bP r13 r16) λr42=>
 if r42=true then
 aD (eA r13) λr44=>
 aD (bP r44 r21) λr45=>
 if r45=true then
 aD (eH) λr47=>
 some r47
 else
 some false
 else
 some false
 else
 some false) λx36=>
 some x36
theorem nX {p0:Int} {r:Expr} (hm:kI p0=some r):RetD Try.prog 32 [.int .i64 p0] (r.enc):=by
 refine .of (mv:=λ_=>false) (aY qBI Try.func32 Q Try.ntmps32 Q Q (λwX gX=>?_));unfold kI at hm;refine WN [0] Q Q (RS (cM 0 Q Q mV Q (dL 0 [none,none,some 3] Q Q (TN (WN [0,2] Q Q (RS (SA TK Q (SX Q Q (bB Q qCG mV Q Q Q Q) ?_))))))));refine kX 4 [none,none,some 3] Q (SA TK Q (TN (WN [2] Q Q (TR ?_))));obtain rfl:=OJ hm;exact EndsS.cellR _ TK Q Q Q Q Q (.d _)
theorem oY:∀ (fu:Nat) {p0:Expr} {p1:Int} {p2:Int} {p3:Int} {r0:Bool} {r1:Int} (hm:dN fu p0 p1 p2 p3=some (r0,r1)),Ret Try.prog 50 [.box 3 [.d (.int .i64 p3)]] (λ_=>false) [.d (.ptr (p0.enc) 0),.d (.int .i64 p1),.d (.int .i64 p2),.mptr 0 0 0 0] (.d (.bool (r0))) [.box 3 [.d (.int .i64 r1)]]:=by
 intro fu
 induction fu with
 | zero=>
  intro p0 p1 p2 p3 r0 r1 hm;unfold dN at hm;cases hm
 | succ fu ih=>
  intro p0 p1 p2 p3 r0 r1 hm;refine gT qAY Try.func50 Q Try.ntmps50 Q Q (λwX gX=>?_);unfold dN at hm;refine WN [0,1,2,3] Q Q (RS (SA TK Q (TN (WN [0,1,2,3] Q Q (TQ ?_)))));refine iV [(17,.d (.bool (((decide ((12:Int) < p2))||(decide (p3=(0:Int)))))))] [17] [0,1,2,3] Q ?_ ?_
  ·refine TG (SA TK Q (SA TK Q (SB TK Q (λq1 hq1=>?_))));cases q1
   ·iterate 5 (refine SA TK Q ?_)
    refine TN (WT ?_);exact⟨[0],Q,(kB Q),bZ (aW (aX (by simp [hq1])) Q) Q⟩
   iterate 5 (refine SA TK Q ?_)
   refine TN (WT ?_);exact⟨[0],Q,(kB Q),bZ (aW (aX (by simp [hq1])) Q) Q⟩
  refine WN [0,1,2,3,17] Q Q ?_;refine TC _ Q (λh2=>?_) (λh2=>?_)
  ·replace hm:=JA h2 hm;refine RS (SA TK Q (TN (WN [8] Q Q (TR (WR ?_)))));obtain⟨rfl,rfl⟩:=Prod.mk.inj (Option.some.inj hm);exact⟨_,[0],res Q,by decide,(kB Q),Q,Q⟩
  replace hm:=JB h2 hm;refine TS (WT (WN [0,1,2,3] Q Q (RS (SA TK Q (SA TK Q (SA TK Q (GE hm λg3 hm=>SX Q Q (cK Q Q Q Q g3) (SA TK Q (SA TK Q (TN ?_))))))))));refine WN [0,1,2,3] Q Q ?_;refine fY hm (λ_=>([]:Fr)) (λ_=>([]:List (Nat×Blk))) [] [0,1,2,3] Q (λz4 hm hz4=>?_) (λj hm=>?_)
  ·refine RS ?_;iterate 4 (refine SA TK Q ?_)
   refine TN (WN [0,1,2,3,26] Q Q (TB ?_));refine aT hm (λx5=>([(27,.d (.bool (x5)))]:Fr)) (λx5=>([]:List (Nat×Blk))) [27] [0,1,2,3,26] Q (λz6 hm=>?_) (λx5 hm=>?_)
   ·refine RS (SA TK Q (SA TK Q (TN (WN [0,1,2,3,26,27] Q Q ?_))));refine TC _ Q (λh7=>?_) (λh7=>?_)
    ·replace hm:=JT h7 hm;refine TS (WT ?_);exact⟨_,[0],(SJ hm),Q,(kB Q),Q⟩
    replace hm:=JF h7 hm;refine TG (SA TK Q (SA TK Q (TN (WT ?_))));exact⟨_,[0],(SJ hm),Q,(kB Q),Q⟩
   refine WN [0,1,2,3,26,27] Q Q ?_;refine TC _ Q (λh8=>?_) (λh8=>?_)
   ·replace hm:=JA h8 hm;refine iV [(8,.d (.bool (((decide (p0.var=(0:Int)))&&(decide ((p0.args.length:Int)=(0:Int)))))))] [8] [] Q ?_ ?_
    ·refine TG ?_;iterate 5 (refine SA TK Q ?_)
     refine SB TK Q (λq9 hq9=>?_);cases q9
     ·iterate 8 (refine SA TK Q ?_)
      refine TN (WT ?_);exact⟨[0],Q,(kB Q),bZ (aW (aX (by simp [hq9])) Q) Q⟩
     iterate 4 (refine SA TK Q ?_)
     refine SX Q Q (dA TK Q Q Q) (SA TK Q (SA TK Q (SA TK Q (TN (WT ?_)))));exact⟨[0],Q,(kB Q),bZ (aW (aX (by simp [hq9])) Q) Q⟩
    refine WN [8] Q Q (TR (WB (IE hm λv10 hm hz=>?_)));rw [hz4 _ hz] at hm;refine WR ?_;obtain⟨rfl,rfl⟩:=Prod.mk.inj (Option.some.inj hm);exact⟨_,[0],res Q,by decide,(kB Q),Q,Q⟩
   replace hm:=JB h8 hm;refine RS (SA TK Q (SA TK Q (TN (WN [0,1,2,3,26,43] Q Q ?_))));refine TC _ Q (λh11=>?_) (λh11=>?_)
   ·replace hm:=JT h11 hm;refine iV [(8,.d (.bool (((decide ((0:Int)≤p0.var))&&((decide (p0.var < p1))&&(decide ((p0.args.length:Int)=(0:Int))))))))] [8] [] Q ?_ ?_
    ·refine TG ?_;iterate 5 (refine SA TK Q ?_)
     refine SB TK Q (λq12 hq12=>?_);cases q12
     ·iterate 16 (refine SA TK Q ?_)
      refine TN (WT ?_);exact⟨[0],Q,(kB Q),bZ (aW (aX (by simp [hq12])) Q) Q⟩
     iterate 7 (refine SA TK Q ?_)
     refine SB TK Q (λq13 hq13=>?_);cases q13
     ·iterate 8 (refine SA TK Q ?_)
      refine TN (WT ?_);exact⟨[0],Q,(kB Q),bZ (aW (aX (by simp [hq12,hq13])) Q) Q⟩
     iterate 4 (refine SA TK Q ?_)
     refine SX Q Q (dA TK Q Q Q) (SA TK Q (SA TK Q (SA TK Q (TN (WT ?_)))));exact⟨[0],Q,(kB Q),bZ (aW (aX (by simp [hq12,hq13])) Q) Q⟩
    refine WN [8] Q Q (TR (WB (IE hm λv14 hm hz=>?_)));rw [hz4 _ hz] at hm;refine WR ?_;obtain⟨rfl,rfl⟩:=Prod.mk.inj (Option.some.inj hm);exact⟨_,[0],res Q,by decide,(kB Q),Q,Q⟩
   replace hm:=JF h11 hm;refine RS (SA TK Q (SA TK Q (TN (WN [0,1,2,3,26,66] Q Q ?_))));refine TC _ Q (λh15=>?_) (λh15=>?_)
   ·replace hm:=JT h15 hm;refine RS ?_;iterate 4 (refine SA TK Q ?_)
    refine SX Q Q (dA TK Q Q Q) (SA TK Q (TN (WN [0,1,2,3,73] Q Q ?_)));refine TC _ Q (λh16=>?_) (λh16=>?_)
    ·replace hm:=jM h16 hm;refine RS (SA TK Q (TN (WN [8] Q Q (TR (WB (IE hm λv17 hm hz=>?_))))));rw [hz4 _ hz] at hm;refine WR ?_;obtain⟨rfl,rfl⟩:=Prod.mk.inj (Option.some.inj hm);exact⟨_,[0],res Q,by decide,(kB Q),Q,Q⟩
    replace hm:=jN h16 hm;refine TS (WK (WT ?_));exact⟨_,[0],(SJ hm),Q,(kB Q),Q⟩
   replace hm:=JF h15 hm;refine TQ (RS (SA TK Q (SA TK Q (TN (WN [0,1,2,3,26,74] Q Q ?_)))));refine TC _ Q (λh18=>?_) (λh18=>?_)
   ·replace hm:=JT h18 hm;refine TS (WT (WN [0,1,2,3,74] Q Q (zR Q true h18 (TS (WK (WT ?_))))));exact⟨_,[0],(SJ hm),Q,(kB Q),Q⟩
   replace hm:=JF h18 hm;refine TG (SA TK Q (SA TK Q (TN (WT (WN [0,1,2,3,74] Q Q ?_)))));refine TC _ Q (λh19=>?_) (λh19=>?_)
   ·replace hm:=JT h19 hm;refine TS (WK (WT ?_));exact⟨_,[0],(SJ hm),Q,(kB Q),Q⟩
   replace hm:=JF h19 hm;refine RS (SA TK Q (TN (WN [8] Q Q (TR (WB (IE hm λv20 hm hz=>?_))))));rw [hz4 _ hz] at hm;refine WR ?_;obtain⟨rfl,rfl⟩:=Prod.mk.inj (Option.some.inj hm);exact⟨_,[0],res Q,by decide,(kB Q),Q,Q⟩
  refine WN [0,1,2,3] Q Q (TQ (RS ?_));iterate 5 (refine SA TK Q ?_)
  refine TN (WN [0,1,2,3,81] Q Q ?_);refine TC _ Q (λh21=>?_) (λh21=>?_)
  ·replace hm:=jM h21 hm;refine RS (SA TK Q (TN (WN [8] Q Q (TR (WR ?_)))));obtain⟨rfl,rfl⟩:=Prod.mk.inj (Option.some.inj hm);exact⟨_,[0],res Q,by decide,(kB Q),Q,Q⟩
  replace hm:=jN h21 hm;refine TS (WT (WN [0,1,2,3] Q Q ?_));refine fY hm (λc22=>([]:Fr)) (λc22=>([(0,.box 3 [.d (.int .i64 c22)])]:List (Nat×Blk))) [] [] Q (λz23 hm hz23=>?_) (λc22 hm=>?_)
  ·refine RS ?_;iterate 4 (refine SA TK Q ?_)
   refine SX Q Q (dA TK Q Q Q) (SA TK Q (TN (WN [0,1,2,3,86,87] Q Q (TB (fX hm (λ(x27,c28)=>([(87,.d (.int .i64 x27))]:Fr)) (λ(x27,c28)=>([(0,.box 3 [.d (.int .i64 c28)])]:List (Nat×Blk))) [87] [0,1,2,3,86] [0] Q (kB Q) Q Q Q Q Q (λs z29 hm hz29=>?_))))));obtain⟨x27,c28⟩:=s;refine WN [0,1,2,3,86,87] Q Q (RS (SA TK Q (TN (WN [0,1,2,3,86,87,88] Q Q (TQ ?_)))));refine TC _ Q (λh30=>?_) (λh30=>?_)
   ·replace hm:=JT h30 hm;refine TS (WT (WN [0,1,2,3,86,87] Q Q (TQ (TB (RS (SA TK Q (SA TK Q (TN (WN [0,1,2,3,9,86,87] Q Q ?_)))))))));refine RS ?_;iterate 5 (refine SA TK Q ?_)
    refine VE hm λe31 he31 hm=>SX Q Q (wW TK Q Q Q Q he31 (Expr.encR_eq _)) (SA TK Q (SA TK Q (GE hm λg32 hm=>SX Q Q (cK Q Q Q Q g32) (SA TK Q (BE hm λr33 hr33 hm=>?_)))));obtain⟨r34,r35⟩:=r33;refine dY [0] (λ_=>false) Q Q Q (by decide) Q Q Q Q (ih hr33) Q Q Q ?_;refine SA TK Q (TN (WN [0,1,2,3,86,87,101] Q Q ?_));refine TC _ Q (λh36=>?_) (λh36=>?_)
    ·replace hm:=JA h36 hm;refine RS (SA TK Q (TN (WN [8] Q Q (TR (WB (WR (IE hm λv37 hm hz=>?_)))))));rw [hz29 _ hz] at hm;refine WR (WB (IE hm λv38 hm hz=>?_));rw [hz23 _ hz] at hm;refine WR ?_;obtain⟨rfl,rfl⟩:=Prod.mk.inj (Option.some.inj hm);exact⟨_,[0],res Q,by decide,(kB Q),Q,Q⟩
    replace hm:=JB h36 hm;refine TS (WK (WT (WN [0,1,2,3,86,87] Q Q (TG (GE hm λg39 hm=>SX Q Q (cK Q Q Q Q g39) (SA TK Q (TN ?_)))))));refine WT ?_;exact⟨_,[0],(SJ hm),Q,(kB Q),Q⟩
   replace hm:=JF h30 hm;refine dJ (WX (IE hm λv40 hm hz=>?_));rw [hz29 _ hz] at hm;refine WX (WH (WT ?_));exact⟨_,[0],(SJ hm),Q,(kB Q),Q⟩
  refine WN [] Q Q (RS (SA TK Q (TN (WN [8] Q Q (TR ?_)))));obtain⟨rfl,rfl⟩:=Prod.mk.inj (Option.some.inj hm);exact⟨_,[0],res Q,by decide,(kB Q),Q,Q⟩
theorem qN {p0:Expr} {p1:Int} {p2:Int} {p3:Int} {r0:Bool} {r1:Int} (hm:oF p0 p1 p2 p3=some (r0,r1)):Ret Try.prog 50 [.box 3 [.d (.int .i64 p3)]] (λ_=>false) [.d (.ptr (p0.enc) 0),.d (.int .i64 p1),.d (.int .i64 p2),.mptr 0 0 0 0] (.d (.bool (r0))) [.box 3 [.d (.int .i64 r1)]]:=oY aN hm
theorem qO {p0:Expr} {p1:Int} {r:Bool} (hm:jO p0 p1=some r):RetN Try.prog 33 [p0.enc,.int .i64 p1] (.bool (r)):=by
 refine .unit (aY qBH Try.func33 Q Try.ntmps33 Q Q (λwX gX=>?_)) Q;unfold jO at hm;refine WN [0,1] Q Q (RS (cS 0 Q Q Q (SA TK Q (TN (WN [1,2] Q Q (RS (cM 1 Q Q mU Q (SA TK Q ?_))))))));refine TN (WN [1,2,5] Q Q (vQ 0 Q Q Q Q Q (RS (SA TK Q (BE hm λr1 hr1 hm=>?_)))));obtain⟨r2,r3⟩:=r1;refine dY [1] (λ_=>false) Q Q Q (by decide) Q Q Q Q (qN hr1) Q Q Q ?_;refine SA TK Q (TN (WN [4] Q Q (TR ?_)));obtain rfl:=OJ hm;exact EndsS.one _ Q (.d _) (.refl _)
theorem jQ {p0:Int} {r:Int} (hm:fF p0=some r):RetN Try.prog 55 [.int .i64 p0] (.int .i64 r):=by
 refine .unit (aY qAU Try.func55 Q Try.ntmps55 Q Q (λwX gX=>?_)) Q;unfold fF at hm;refine WN [0] Q Q (RS (SA TK Q (TN (WN [0] Q Q (TQ (RS (SA TK Q (SA TK Q (TN ?_)))))))));refine WN [0,4] Q Q ?_;refine TC _ Q (λh1=>?_) (λh1=>?_)
 ·replace hm:=JT h1 hm;refine RS (SA TK Q (GE hm λg2 hm=>SX Q Q (cK Q Q Q Q g2) (SA TK Q (TN (WN [2] Q Q (TR (WR ?_)))))));obtain rfl:=OJ hm;exact EndsS.one _ Q (.d _) (.refl _)
 replace hm:=JF h1 hm;refine TS (WT (WN [0] Q Q (RS (SA TK Q (SA TK Q (TN (WN [2] Q Q (TR ?_))))))));obtain rfl:=OJ hm;exact EndsS.one _ Q (.d _) (.refl _)
theorem hU {p0:Diagram} {r:Diagram} (hm:cQ p0=some r):RetD Try.prog 49 [p0.enc] (r.enc):=by
 refine .of (mv:=λ_=>false) (aY qAZ Try.func49 Q Try.ntmps49 Q Q (λwX gX=>?_));unfold cQ at hm;refine WN [0] Q Q (RS (cS 0 Q Q Q (cM 1 Q Q aQ Q (nA (f:=Node.enc) 1 0 2 51 3 Q Q Q (TN (WN [1,2] Q Q (RS (SA TK Q (SA TK Q ?_)))))))));refine BE hm λr1 hr1 hm=>SX Q Q (RN Q Q (SC (.d _) SN) (jQ hr1)) (SX Q Q (jY Q eL aQ Q Q Q Q) (cM 3 Q Q aQ Q (nA (f:=Node.enc) 3 0 4 51 3 Q Q Q (SA TK Q (nA (f:=Node.enc) 3 0 5 51 3 Q Q Q (TN (WN [1,2,3] Q Q ?_)))))));refine aT hm (λb2=>([]:Fr)) (λb2=>([(3,.box 29 [.msl 5 3 0 b2.length,.d (.int .i64 r1)]),(5,.flat 51 3 (b2.map Node.enc))]:List (Nat×Blk))) [] [2,3] Q (λz3 hm=>?_) (λb2 hm=>?_)
 ·refine RS (SA TK Q (SA TK Q (SX Q Q (dA TK Q Q Q) (SA TK Q (TN (WN [2,3,11,12,13] Q Q (TB (fX hm (λ(x7,b8)=>([(13,.d (.int .i64 x7))]:Fr)) (λ(x7,b8)=>([(3,.box 29 [.msl 5 3 0 b8.length,.d (.int .i64 r1)]),(5,.flat 51 3 (b8.map Node.enc))]:List (Nat×Blk))) [13] [2,3,11,12] [0,1,2,3,4,5] Q k0 Q Q Q Q Q (λs z9 hm hz9=>?_)))))))));obtain⟨x7,b8⟩:=s;refine WN [2,3,11,12,13] Q Q (RS (SA TK Q (TN (WN [2,3,11,12,13,14] Q Q (TQ ?_)))));refine TC _ Q (λh10=>?_) (λh10=>?_)
  ·replace hm:=JT h10 hm;refine TS (WT (WN [2,3,11,12,13] Q Q (TQ (TB (RS (VE hm λe11 he11 hm=>SX Q Q (gO TK Q Q Q Q he11) (SA TK Q ?_)))))));refine cM 6 Q Q bD Q (SA TK Q (TN (WN [2,3,5,11,12,13] Q Q (rB (jU follows  (DA [] TK Q (DA [3] TK Q (DA [] TK Q ?_))))))));refine DA [6] TK Q (DA [] TK Q (DA [6] TK Q (BE hm λr12 hr12 hm=>DX [] Q Q (RN Q Q (SC (.d _) SN) (jQ hr12)) (DA [] TK Q (DA [6] TK Q (BE hm λr13 hr13 hm=>DX [] Q Q (RN Q Q (SC (.d _) SN) (jQ hr13)) ?_))))));refine DX [] Q Q (bB Q rT bD Q Q Q Q) (DX [] Q Q (jR [.tmp 27] TK Q Q bD Q Q Q Q Q) (GE hm λg14 hm=>d_wr [5,7] _ (.msl 7 3 0 (b8++([(⟨e11.var,r12,r13⟩:Node)]:List Node)).length) Q (pF Q) Q (w_appD (f:=Node.enc) (xs:=b8) ([(⟨e11.var,r12,r13⟩:Node)]:List Node) Q Q Q TK Q bD Q Q Q Q Q Q iX g14) (DA [] TK Q ?_)));refine DT ?_ (by kernel_rfl);refine SA TK Q (TN (WK (WT (WN [2,3,11,12,13] Q Q (TG (GE hm λg15 hm=>SX Q Q (cK Q Q Q Q g15) (SA TK Q ?_)))))));refine TN (WT ?_);exact⟨_,[0,1,2,3,4,7],(SJ hm),Q,k0,Q⟩
  replace hm:=JF h10 hm;refine dJ (WX (IE hm λv16 hm hz=>?_));rw [hz9 _ hz] at hm;refine WX (WH (WT ?_));exact⟨_,[0,1,2,3,4,5],(SJ hm),Q,k0,Q⟩
 refine WN [2,3] Q Q (RS (SA TK Q (SA TK Q (TN (WN [2] Q Q (TR ?_))))));obtain rfl:=OJ hm;exact EndsS.cellR _ TK Q Q Q Q Q (rF (.cons (mZ Q) Q (.cons (.d _) Q .nil)))
theorem hZ {p0:Bool} {r:Diagram} (hm:eQ p0=some r):RetD Try.prog 51 [.bool (p0)] (r.enc):=by
 refine .of (mv:=λ_=>false) (aY qAX Try.func51 Q Try.ntmps51 Q Q (λwX gX=>?_));unfold eQ at hm;refine WN [0] Q Q (RS (cM 0 Q Q aQ Q (dL 0 [some 3,none] Q Q (TN (WN [0,2] Q Q (TQ (RS (SA TK Q ?_))))))));refine TN (WN [2,3] Q Q ?_);refine TC _ Q (λh1=>?_) (λh1=>?_)
 ·replace hm:=JA h1 hm;refine RS (SX Q Q (bB Q eL aQ Q Q Q Q) (kX 4 [some 3,none] Q (SA TK Q (TN (WN [2] Q Q (TR (WR ?_)))))));obtain rfl:=OJ hm;exact EndsS.cellR _ TK Q Q Q Q Q (.d _)
 replace hm:=JB h1 hm;refine TS (WT (WN [2] Q Q (RS (SX Q Q (bB Q eL aQ Q Q Q Q) (kX 5 [some 3,none] Q (SA TK Q (TN (WN [2] Q Q ?_))))))));refine TR ?_;obtain rfl:=OJ hm;exact EndsS.cellR _ TK Q Q Q Q Q (.d _)
theorem fD {p0:Diagram} {p1:Int} {r:Int} (hm:bX p0 p1=some r):RetN Try.prog 58 [p0.enc,.int .i64 p1] (.int .i64 r):=by
 refine .unit (aY qAS Try.func58 Q Try.ntmps58 Q Q (λwX gX=>?_)) Q;unfold bX at hm;refine WN [0,1] Q Q (RS (cS 0 Q Q Q (SA TK Q (TN (WN [1,2] Q Q (TQ (RS (SA TK Q (SA TK Q ?_)))))))));refine TN (WN [1,2,6] Q Q ?_);refine TC _ Q (λh1=>?_) (λh1=>?_)
 ·replace hm:=JT h1 hm;refine RS (SA TK Q (TN (WN [4] Q Q (TR (WR ?_)))));obtain rfl:=OJ hm;exact EndsS.one _ Q (.d _) (.refl _)
 replace hm:=JF h1 hm;refine TS (WT (WN [1,2] Q Q (RS (SA TK Q (SA TK Q (SA TK Q (GE hm λg2 hm=>SX Q Q (cK Q Q Q Q g2) (VE hm λe3 he3 hm=>SX Q Q (gO TK Q Q Q Q he3) ?_))))))));refine SA TK Q (SA TK Q (SA TK Q (TN (WN [4] Q Q (TR ?_)))));obtain rfl:=OJ hm;exact EndsS.one _ Q (.d _) (.refl _)
theorem iA {p0:Diagram} {p1:Int} {p2:Int} {r0:Int} {r1:Int} (hm:cR p0 p1 p2=some (r0,r1)):RetT Try.prog 59 [p0.enc,.int .i64 p1,.int .i64 p2] [.int .i64 r0,.int .i64 r1]:=by
 refine .of (mv:=λ_=>false) (cN qAR Try.func59 Q Try.ntmps59 Q Q (λwX gX=>?_));unfold cR at hm;refine WN [0,1,2] Q Q (RS (cS 0 Q Q Q (SA TK Q (SA TK Q (TN (WN [1,2,3] Q Q (TQ (RS (SA TK Q (SA TK Q ?_))))))))));refine BE hm λr1 hr1 hm=>SX Q Q (RN Q Q (SC (.d _) (SC (.d _) SN)) (fD hr1)) (SA TK Q (SA TK Q (TN (WN [1,3,13] Q Q ?_))));refine TC _ Q (λh2=>?_) (λh2=>?_)
 ·replace hm:=jM h2 hm;refine RS ?_;iterate 4 (refine SA TK Q ?_)
  refine TN (WN [6,7] Q Q (TR (WR ?_)));obtain⟨rfl,rfl⟩:=Prod.mk.inj (Option.some.inj hm);exact EndsT.two Q (.d _) (.refl _) (.d _) (.refl _)
 replace hm:=jN h2 hm;refine TS (WT (WN [1,3] Q Q (RS (SA TK Q (SA TK Q (SA TK Q (GE hm λg3 hm=>SX Q Q (cK Q Q Q Q g3) (VE hm λe4 he4 hm=>SX Q Q (gO TK Q Q Q Q he4) ?_))))))));refine SA TK Q (cM 1 Q Q bD Q (SA TK Q (TN (WN [8] Q Q (aO follows  ?_)))));iterate 5 (refine DA [0,1] TK Q ?_)
 refine DT ?_ (by kernel_rfl);refine SA TK Q (TN (WN [6,7] Q Q (TR ?_)));obtain⟨rfl,rfl⟩:=Prod.mk.inj (Option.some.inj hm);exact EndsT.two Q (.d _) (.refl _) (.d _) (.refl _)
theorem dU {p0:Merger} {p1:Node} {r0:Int} {r1:Merger} (hm:aI p0 p1=some (r0,r1)):Ret Try.prog 42 [.box 81 [.d (.sl 3 (p0.a.nodes.map Node.enc)),.d (.int .i64 p0.a.root),.d (.sl 3 (p0.b.nodes.map Node.enc)),.d (.int .i64 p0.b.root),.d (.bool (p0.all)),.mmapN 1 p0.nodes.index.length,.msl 2 3 0 p0.nodes.list.length,.mmap 3,.d (.bool (p0.full))],.map 51 3 (aH Node.enc (D.int .i64) p0.nodes.index),.flat 51 3 (p0.nodes.list.map Node.enc),.map 84 3 (aH Pair.enc (D.int .i64) p0.done)] (λj=>Nat.beq j 1||Nat.beq j 2) [.mptr 0 0 0 5,.d (p1.enc)] (.d (.int .i64 r0)) [.box 81 [.d (.sl 3 (p0.a.nodes.map Node.enc)),.d (.int .i64 p0.a.root),.d (.sl 3 (p0.b.nodes.map Node.enc)),.d (.int .i64 p0.b.root),.d (.bool (p0.all)),.mmapN 1 r1.nodes.index.length,.msl 2 3 0 r1.nodes.list.length,.mmap 3,.d (.bool (p0.full))],.map 51 3 (aH Node.enc (D.int .i64) r1.nodes.index),.flat 51 3 (r1.nodes.list.map Node.enc),.map 84 3 (aH Pair.enc (D.int .i64) p0.done)]:=by
 refine gT vP Try.func42 Q Try.ntmps42 Q Q (λwX gX=>?_);unfold aI at hm;refine sV 0 5 1 Q Q Q (λhn=>?_) ?_
 ·replace hm:=yB hn hm;refine WN [0,1] Q Q (RS (cS 4 Q Q Q (SA TK Q (TN (WN [0,3] Q Q (TQ (aO follows  ?_)))))));iterate 5 (refine DA [0,1,2,3,4] TK Q ?_)
  refine GE hm λg1 hm=>DX [0,1,2,3,4] Q Q (qY gQ gV (D.int .i64) p1 (0:Int) Q lX mU Q Q Q g1) ?_;iterate 4 (refine DA [0,1,2,3,4] TK Q ?_)
  refine DT ?_ (by kernel_rfl);refine SA TK Q (TN (WN [0,3,5,6] Q Q (RS (SA TK Q (TN (WN [0,3,5,16] Q Q (TC false Q (λh=>by cases h) (λ_=>TS ?_))))))));refine WT (WN [0,3] Q Q ?_);refine aT hm (λ_=>([]:Fr)) (λ_=>([(0,.box 81 [.d (.sl 3 (p0.a.nodes.map Node.enc)),.d (.int .i64 p0.a.root),.d (.sl 3 (p0.b.nodes.map Node.enc)),.d (.int .i64 p0.b.root),.d (.bool (p0.all)),.mmap 1,.msl 2 3 0 p0.nodes.list.length,.mmap 3,.d (.bool (p0.full))])]:List (Nat×Blk))) [] [0,3] Q (λz2 hm=>?_) (λj hm=>?_)
  ·refine RS ?_;iterate 4 (refine SA TK Q ?_)
   refine SX Q Q (nG Q Try.underlying61 Q Q) (TN (WN [0,3,22] Q Q ?_));refine TC true Q (λ_=>?_) (λh=>by cases h);refine TG (SA TK Q (lS (kf:=Node.enc) (f:=(D.int .i64)) 1 51 3 Q Q (λ_=>Q) Q Q (SA TK Q (SA TK Q (SA TK Q (TN (WT ?_)))))));exact⟨_,[0,1,2,3,4],(SJ hm),Q,(kB Q),Q⟩
  refine WN [0,3] Q Q (aO follows  ?_);iterate 10 (refine DA [0,1,2,3,4] TK Q ?_)
  refine DT ?_ (by kernel_rfl);refine GE hm λg3 hm=>kY gQ gV (D.int .i64) lX Q Q Q Q g3 (TN (WN [0,3] Q Q (aO follows  ?_)));iterate 6 (refine DA [0,1,2,3,4] TK Q ?_)
  refine DX [0,1,2,3,4] Q Q (jR [.tmp 42] TK Q Q bD Q Q Q Q Q) ?_;refine mP 0 37 ?_ ?_ Q (by kernel_rfl) (by kernel_rfl) (by kernel_rfl)
  ·refine GE hm λg4 hm=>jW (f:=Node.enc) ([p1]:List Node) TK Q Q bD Q Q Q Q Q (λ_=>Q) Q iX g4 Q Q (SA TK Q (SA TK Q (SA TK Q (TN (WN [0] Q Q (RS ?_))))));iterate 5 (refine SA TK Q ?_)
   refine GE hm λg5 hm=>SX Q Q (cK Q Q Q Q g5) (SA TK Q (TN (WN [4] Q Q (jE 0 5 1 (eD ([]:List (Node×Int)) p1 (p0.nodes.list.length:Int)).length Q Q (TR ?_)))));obtain⟨rfl,rfl⟩:=Prod.mk.inj (Option.some.inj hm);exact⟨_,[0,1,2,3],res Q,by decide,(kB Q),Q,Q⟩
  refine GE hm λg6 hm=>jW (f:=Node.enc) ([p1]:List Node) TK Q Q bD Q Q Q Q Q (λ_=>Q) Q iX g6 Q Q ?_;iterate 4 (refine SA TK Q ?_)
  refine TN (WN [0] Q Q (RS ?_));iterate 5 (refine SA TK Q ?_)
  refine GE hm λg7 hm=>SX Q Q (cK Q Q Q Q g7) (SA TK Q (TN (WN [4] Q Q (jE 0 5 1 (eD ([]:List (Node×Int)) p1 (p0.nodes.list.length:Int)).length Q Q (TR ?_)))));obtain⟨rfl,rfl⟩:=Prod.mk.inj (Option.some.inj hm);exact⟨_,[0,1,2,3],res Q,by decide,(kB Q),Q,Q⟩
 replace hm:=qCH hm;refine WN [0,1] Q Q (RS (cS 4 Q Q Q (SA TK Q (TN (WN [0,3] Q Q (TQ (aO follows  ?_)))))));iterate 5 (refine DA [0,1,2,3,4] TK Q ?_)
 refine GE hm λg8 hm=>DX [0,1,2,3,4] Q Q (pR gQ gV (D.int .i64) _ _ (0:Int) Q lX mU Q Q Q Q g8) ?_;iterate 4 (refine DA [0,1,2,3,4] TK Q ?_)
 refine DT ?_ (by kernel_rfl);refine SA TK Q (TN (WN [0,3,5,6] Q Q (RS (SA TK Q (TN (WN [0,3,5,16] Q Q ?_))))));refine TC _ Q (λh9=>?_) (λh9=>?_)
 ·replace hm:=JA h9 hm;refine RS (SA TK Q (SA TK Q (TN (WN [4] Q Q (jE 0 5 1 p0.nodes.index.length Q Q (TR (WR ?_)))))));obtain⟨rfl,rfl⟩:=Prod.mk.inj (Option.some.inj hm);exact⟨_,[0,1,2,3],res Q,by decide,(kB Q),Q,Q⟩
 replace hm:=JB h9 hm;refine TS (WT (WN [0,3] Q Q ?_));refine aT hm (λ_=>([]:Fr)) (λ_=>([]:List (Nat×Blk))) [] [0,3] Q (λz10 hm=>?_) (λj hm=>?_)
 ·refine RS ?_;iterate 4 (refine SA TK Q ?_)
  refine SX Q Q (nH Q Try.underlying61 Q Q) (TN (WN [0,3,22] Q Q (TC false Q (λh=>by cases h) (λ_=>TS (WT ?_)))));exact⟨_,[0,1,2,3,4],(SJ hm),Q,(kB Q),Q⟩
 refine WN [0,3] Q Q (aO follows  ?_);iterate 10 (refine DA [0,1,2,3,4] TK Q ?_)
 refine DT ?_ (by kernel_rfl);refine GE hm λg11 hm=>kY gQ gV (D.int .i64) lX Q Q Q Q g11 (TN (WN [0,3] Q Q (aO follows  ?_)));iterate 6 (refine DA [0,1,2,3,4] TK Q ?_)
 refine DX [0,1,2,3,4] Q Q (jR [.tmp 42] TK Q Q bD Q Q Q Q Q) ?_;refine mP 0 37 ?_ ?_ Q (by kernel_rfl) (by kernel_rfl) (by kernel_rfl)
 ·refine GE hm λg12 hm=>jW (f:=Node.enc) ([p1]:List Node) TK Q Q bD Q Q Q Q Q (λ_=>Q) Q iX g12 Q Q (SA TK Q (SA TK Q (SA TK Q (TN (WN [0] Q Q (RS ?_))))));iterate 5 (refine SA TK Q ?_)
  refine GE hm λg13 hm=>SX Q Q (cK Q Q Q Q g13) (SA TK Q (TN (WN [4] Q Q (jE 0 5 1 (eD p0.nodes.index p1 (p0.nodes.list.length:Int)).length Q Q (TR ?_)))));obtain⟨rfl,rfl⟩:=Prod.mk.inj (Option.some.inj hm);exact⟨_,[0,1,2,3],res Q,by decide,(kB Q),Q,Q⟩
 refine GE hm λg14 hm=>jW (f:=Node.enc) ([p1]:List Node) TK Q Q bD Q Q Q Q Q (λ_=>Q) Q iX g14 Q Q ?_;iterate 4 (refine SA TK Q ?_)
 refine TN (WN [0] Q Q (RS ?_));iterate 5 (refine SA TK Q ?_)
 refine GE hm λg15 hm=>SX Q Q (cK Q Q Q Q g15) (SA TK Q (TN (WN [4] Q Q (jE 0 5 1 (eD p0.nodes.index p1 (p0.nodes.list.length:Int)).length Q Q (TR ?_)))));obtain⟨rfl,rfl⟩:=Prod.mk.inj (Option.some.inj hm);exact⟨_,[0,1,2,3],res Q,by decide,(kB Q),Q,Q⟩
theorem iT:∀ (fu:Nat) {p0:Merger} {p1:Pair} {r0:Int} {r1:Merger} (hm:aR fu p0 p1=some (r0,r1)),Ret Try.prog 56 [.box 81 [.d (.sl 3 (p0.a.nodes.map Node.enc)),.d (.int .i64 p0.a.root),.d (.sl 3 (p0.b.nodes.map Node.enc)),.d (.int .i64 p0.b.root),.d (.bool (p0.all)),.mmapN 1 p0.nodes.index.length,.msl 2 3 0 p0.nodes.list.length,.mmap 3,.d (.bool (p0.full))],.map 51 3 (aH Node.enc (D.int .i64) p0.nodes.index),.flat 51 3 (p0.nodes.list.map Node.enc),.map 84 3 (aH Pair.enc (D.int .i64) p0.done)] (λj=>Nat.beq j 1||Nat.beq j 2) [.mptr 0 0 0 0,.d (p1.enc)] (.d (.int .i64 r0)) [.box 81 [.d (.sl 3 (p0.a.nodes.map Node.enc)),.d (.int .i64 p0.a.root),.d (.sl 3 (p0.b.nodes.map Node.enc)),.d (.int .i64 p0.b.root),.d (.bool (p0.all)),.mmapN 1 r1.nodes.index.length,.msl 2 3 0 r1.nodes.list.length,.mmap 3,.d (.bool (r1.full))],.map 51 3 (aH Node.enc (D.int .i64) r1.nodes.index),.flat 51 3 (r1.nodes.list.map Node.enc),.map 84 3 (aH Pair.enc (D.int .i64) r1.done)]:=by
 intro fu
 induction fu with
 | zero=>
  intro p0 p1 r0 r1 hm;unfold aR at hm;cases hm
 | succ fu ih=>
  intro p0 p1 r0 r1 hm;refine gT qAT Try.func56 Q Try.ntmps56 Q Q (λwX gX=>?_);unfold aR at hm;refine WN [0,1] Q Q (RS (cS 4 Q Q Q (SA TK Q (TN (WN [0,3] Q Q (TQ (RS ?_)))))));iterate 4 (refine SA TK Q ?_)
  refine TN (WN [0,3,19] Q Q ?_);refine TC _ Q (λh1=>?_) (λh1=>?_)
  ·replace hm:=JA h1 hm;refine RS (SA TK Q (TN (WN [4] Q Q (TR (WR ?_)))));obtain⟨rfl,rfl⟩:=Prod.mk.inj (Option.some.inj hm);exact⟨_,[0,1,2,3],res Q,by decide,(kB Q),Q,Q⟩
  replace hm:=JB h1 hm;refine TS (WT (WN [0,3] Q Q (RS (SA TK Q (SA TK Q (TN (WN [0,3,5,6] Q Q ?_)))))));refine aT hm (λ(decides2,other3)=>([(5,.d (.int .i64 decides2)),(6,.d (.int .i64 other3))]:Fr)) (λ(decides2,other3)=>([]:List (Nat×Blk))) [5,6] [0,3] Q (λz4 hm=>?_) (λj hm=>?_)
  ·refine RS ?_;iterate 5 (refine SA TK Q ?_)
   refine TN (WN [0,3,5,6,24] Q Q ?_);refine TC _ Q (λh5=>?_) (λh5=>?_)
   ·replace hm:=JA h5 hm;refine TG (SA TK Q (SA TK Q (TN (WT ?_))));exact⟨_,[0,1,2,3,4],(SJ hm),Q,(kB Q),Q⟩
   replace hm:=JB h5 hm;refine TS (WT ?_);exact⟨_,[0,1,2,3,4],(SJ hm),Q,(kB Q),Q⟩
  obtain⟨decides2,other3⟩:=j;refine WN [0,3,5,6] Q Q (TQ ?_);refine iV [(34,.d (.bool (((decide (p1.a=decides2))||(decide (p1.b=decides2))))))] [34] [0,3,5,6] Q ?_ ?_
  ·refine TG ?_;iterate 4 (refine SA TK Q ?_)
   refine SB TK Q (λq6 hq6=>?_);cases q6
   ·iterate 5 (refine SA TK Q ?_)
    refine TN (WT ?_);exact⟨[0,1,2,3,4],Q,(kB Q),bZ (aW (aX (by simp [hq6])) Q) Q⟩
   iterate 5 (refine SA TK Q ?_)
   refine TN (WT ?_);exact⟨[0,1,2,3,4],Q,(kB Q),bZ (aW (aX (by simp [hq6])) Q) Q⟩
  refine WN [0,3,5,6,34] Q Q ?_;refine TC _ Q (λh7=>?_) (λh7=>?_)
  ·replace hm:=JA h7 hm;refine RS (SA TK Q (SA TK Q (TN (WN [4] Q Q (TR (WR ?_))))));obtain⟨rfl,rfl⟩:=Prod.mk.inj (Option.some.inj hm);exact⟨_,[0,1,2,3],res Q,by decide,(kB Q),Q,Q⟩
  replace hm:=JB h7 hm;refine TS (WT (WN [0,3,6] Q Q (TQ ?_)));refine iV [(45,.d (.bool (((decide (p1.a=other3))&&(decide (p1.b=other3))))))] [45] [0,3,6] Q ?_ ?_
  ·refine TG ?_;iterate 4 (refine SA TK Q ?_)
   refine SB TK Q (λq8 hq8=>?_);cases q8
   ·iterate 5 (refine SA TK Q ?_)
    refine TN (WT ?_);exact⟨[0,1,2,3,4],Q,(kB Q),bZ (aW (aX (by simp [hq8])) Q) Q⟩
   iterate 5 (refine SA TK Q ?_)
   refine TN (WT ?_);exact⟨[0,1,2,3,4],Q,(kB Q),bZ (aW (aX (by simp [hq8])) Q) Q⟩
  refine WN [0,3,6,45] Q Q ?_;refine TC _ Q (λh9=>?_) (λh9=>?_)
  ·replace hm:=JA h9 hm;refine RS (SA TK Q (SA TK Q (TN (WN [4] Q Q (TR (WR ?_))))));obtain⟨rfl,rfl⟩:=Prod.mk.inj (Option.some.inj hm);exact⟨_,[0,1,2,3],res Q,by decide,(kB Q),Q,Q⟩
  replace hm:=JB h9 hm;refine TS (WT (WN [0,3] Q Q (TQ (aO follows  ?_))));iterate 5 (refine DA [0,1,2,3,4] TK Q ?_)
  refine GE hm λg10 hm=>DX [0,1,2,3,4] Q Q (pR tH uE (D.int .i64) _ _ (0:Int) Q yD mU Q Q Q Q g10) ?_;iterate 4 (refine DA [0,1,2,3,4] TK Q ?_)
  refine DT ?_ (by kernel_rfl);refine SA TK Q (TN (WN [0,3,7,8] Q Q (RS (SA TK Q (TN (WN [0,3,7,56] Q Q ?_))))));refine TC _ Q (λh11=>?_) (λh11=>?_)
  ·replace hm:=JA h11 hm;refine RS (SA TK Q (SA TK Q (TN (WN [4] Q Q (TR (WR ?_))))));obtain⟨rfl,rfl⟩:=Prod.mk.inj (Option.some.inj hm);exact⟨_,[0,1,2,3],res Q,by decide,(kB Q),Q,Q⟩
  replace hm:=JB h11 hm;refine TS (WT (WN [0,3] Q Q (aO follows  ?_)));iterate 6 (refine DA [0,1,2,3,4] TK Q ?_)
  refine BE hm λr12 hr12 hm=>DX [0,1,2,3,4] Q Q (RN Q Q (SC (.d _) (SC (.d _) SN)) (fD hr12)) ?_;iterate 6 (refine DA [0,1,2,3,4] TK Q ?_)
  refine BE hm λr13 hr13 hm=>DX [0,1,2,3,4] Q Q (RN Q Q (SC (.d _) (SC (.d _) SN)) (fD hr13)) (DX [0,1,2,3,4] Q Q (rd_min Q Q Q Q) ?_);refine DT ?_ (by kernel_rfl);refine SA TK Q (TN (WN [0,3,9] Q Q (aO follows  ?_)));iterate 7 (refine DA [0,1,2,3,4] TK Q ?_)
  refine BE hm λr14 hr14 hm=>?_;obtain⟨r15,r16⟩:=r14;refine DX [0,1,2,3,4] Q Q (bO Q Q Q (iA hr14)) ?_;iterate 4 (refine DA [0,1,2,3,4] TK Q ?_)
  refine DT ?_ (by kernel_rfl);refine SA TK Q (TN (WN [0,3,9,10,11] Q Q (aO follows  ?_)));iterate 7 (refine DA [0,1,2,3,4] TK Q ?_)
  refine BE hm λr17 hr17 hm=>?_;obtain⟨r18,r19⟩:=r17;refine DX [0,1,2,3,4] Q Q (bO Q Q Q (iA hr17)) ?_;iterate 4 (refine DA [0,1,2,3,4] TK Q ?_)
  refine DT ?_ (by kernel_rfl);refine SA TK Q (TN (WN [0,3,9,10,11,12,13] Q Q (RS (SA TK Q (SA TK Q (SA TK Q (SX Q Q (bB Q xT tA Q Q Q Q) (BE hm λr20 hr20 hm=>?_))))))));obtain⟨r21,r22⟩:=r20;refine dY [0,1,2,3] (λj=>Nat.beq j 1||Nat.beq j 2) Q Q Q (by decide) Q Q Q Q (ih hr20) Q Q Q ?_;refine SA TK Q (TN (WN [0,3,9,11,13,14] Q Q ?_));refine aT hm (λ(x23,c24,m25,b26,m27)=>([(14,.d (.int .i64 x23))]:Fr)) (λ(x23,c24,m25,b26,m27)=>([(0,.box 81 [.d (.sl 3 (p0.a.nodes.map Node.enc)),.d (.int .i64 p0.a.root),.d (.sl 3 (p0.b.nodes.map Node.enc)),.d (.int .i64 p0.b.root),.d (.bool (p0.all)),.mmapN 1 m25.length,.msl 2 3 0 b26.length,.mmap 3,.d (.bool (c24))]),(1,.map 51 3 (aH Node.enc (D.int .i64) m25)),(2,.flat 51 3 (b26.map Node.enc)),(3,.map 84 3 (aH Pair.enc (D.int .i64) m27))]:List (Nat×Blk))) [14] [0,3] Q (λz28 hm=>?_) (λj hm=>?_)
  ·refine RS (SA TK Q (SA TK Q (SA TK Q (SX Q Q (bB Q xT tA Q Q Q Q) (BE hm λr29 hr29 hm=>?_)))));obtain⟨r30,r31⟩:=r29;refine dY [0,1,2,3] (λj=>Nat.beq j 1||Nat.beq j 2) Q Q Q (by decide) Q Q Q Q (ih hr29) Q Q Q ?_;refine SA TK Q (TN (WN [0,3,9,14,15] Q Q (RS (SA TK Q (SA TK Q (SA TK Q (TN (WN [0,3,9,14,15,107] Q Q ?_))))))));refine TC _ Q (λh32=>?_) (λh32=>?_)
   ·replace hm:=jM h32 hm;refine TG ?_;iterate 6 (refine SA TK Q ?_)
    refine SX Q Q (bB Q rT bD Q Q Q Q) (BE hm λr33 hr33 hm=>?_);obtain⟨r34,r35⟩:=r33;refine dY [0,1,2,3] (λj=>Nat.beq j 1||Nat.beq j 2) Q Q Q (by decide) Q Q Q Q (dU hr33) Q Q Q ?_;refine GE hm λg36 hm=>SX Q Q (cK Q Q Q Q g36) (SA TK Q (TN (WT ?_)));exact⟨_,[0,1,2,3,4],(SJ hm),Q,(kB Q),Q⟩
   replace hm:=jN h32 hm;refine TS (WT ?_);exact⟨_,[0,1,2,3,4],(SJ hm),Q,(kB Q),Q⟩
  obtain⟨x23,c24,m25,b26,m27⟩:=j;refine WN [0,3,14] Q Q (TQ (RS ?_));iterate 7 (refine SA TK Q ?_)
  refine TN (WN [0,3,14,123] Q Q ?_);refine TC _ Q (λh37=>?_) (λh37=>?_)
  ·replace hm:=JT h37 hm;refine TG ?_;iterate 4 (refine SA TK Q ?_)
   refine TN (WT (WN [0,3,14] Q Q (aO follows  ?_)));iterate 6 (refine DA [0,1,2,3,4] TK Q ?_)
   refine DT ?_ (by kernel_rfl);refine GE hm λg38 hm=>kY tH uE (D.int .i64) yD Q Q Q Q g38 (TN (WN [14] Q Q (RS (SA TK Q (SA TK Q (TN (WN [4] Q Q (TR ?_))))))));obtain⟨rfl,rfl⟩:=Prod.mk.inj (Option.some.inj hm);exact⟨_,[0,1,2,3],res Q,by decide,(kB Q),Q,Q⟩
  replace hm:=JF h37 hm;refine TS (WT (WN [0,3,14] Q Q (aO follows  ?_)));iterate 6 (refine DA [0,1,2,3,4] TK Q ?_)
  refine DT ?_ (by kernel_rfl);refine GE hm λg39 hm=>kY tH uE (D.int .i64) yD Q Q Q Q g39 (TN (WN [14] Q Q (RS (SA TK Q (SA TK Q (TN (WN [4] Q Q (TR ?_))))))));obtain⟨rfl,rfl⟩:=Prod.mk.inj (Option.some.inj hm);exact⟨_,[0,1,2,3],res Q,by decide,(kB Q),Q,Q⟩
theorem jP {p0:Merger} {p1:Pair} {r0:Int} {r1:Merger} (hm:dV p0 p1=some (r0,r1)):Ret Try.prog 56 [.box 81 [.d (.sl 3 (p0.a.nodes.map Node.enc)),.d (.int .i64 p0.a.root),.d (.sl 3 (p0.b.nodes.map Node.enc)),.d (.int .i64 p0.b.root),.d (.bool (p0.all)),.mmapN 1 p0.nodes.index.length,.msl 2 3 0 p0.nodes.list.length,.mmap 3,.d (.bool (p0.full))],.map 51 3 (aH Node.enc (D.int .i64) p0.nodes.index),.flat 51 3 (p0.nodes.list.map Node.enc),.map 84 3 (aH Pair.enc (D.int .i64) p0.done)] (λj=>Nat.beq j 1||Nat.beq j 2) [.mptr 0 0 0 0,.d (p1.enc)] (.d (.int .i64 r0)) [.box 81 [.d (.sl 3 (p0.a.nodes.map Node.enc)),.d (.int .i64 p0.a.root),.d (.sl 3 (p0.b.nodes.map Node.enc)),.d (.int .i64 p0.b.root),.d (.bool (p0.all)),.mmapN 1 r1.nodes.index.length,.msl 2 3 0 r1.nodes.list.length,.mmap 3,.d (.bool (r1.full))],.map 51 3 (aH Node.enc (D.int .i64) r1.nodes.index),.flat 51 3 (r1.nodes.list.map Node.enc),.map 84 3 (aH Pair.enc (D.int .i64) r1.done)]:=iT aN hm
theorem jF {p0:Diagram} {p1:Diagram} {p2:Bool} {r0:Diagram} {r1:Bool} (hm:dF p0 p1 p2=some (r0,r1)):RetT Try.prog 52 [p0.enc,p1.enc,.bool (p2)] [r0.enc,.bool (r1)]:=by
 refine .of (mv:=λ_=>false) (cN qAW Try.func52 Q Try.ntmps52 Q Q (λwX gX=>?_));unfold dF at hm;refine WN [0,1,2] Q Q (RS (cS 0 Q Q Q (cS 1 Q Q Q (cM 2 Q Q aQ Q (dL 2 [some 3,none] Q Q (SA TK Q (TN (WN [2,3,4,6] Q Q ?_))))))));refine RS (SA TK Q (SA TK Q (SA TK Q (vW 84 3 Q (s_eq 13 (.mmap 3) Q Q (SX Q Q (jY Q plc81 wU Q Q Q Q) (cM 4 Q Q wU Q (uV (kf:=Node.enc) (f:=(D.int .i64)) 4 5 5 51 3 Q Q Q (nA (f:=Node.enc) 4 6 6 51 3 Q Q Q (uV (kf:=Pair.enc) (f:=(D.int .i64)) 4 7 7 84 3 Q Q Q ?_))))))))));refine dL 4 [some 3,none,some 3,none,none,none,none,none,none] Q Q (SA TK Q (uV (kf:=Node.enc) (f:=(D.int .i64)) 4 5 8 51 3 Q Q Q (nA (f:=Node.enc) 4 6 9 51 3 Q Q Q (TN (WN [3,4,6,8] Q Q (RS ?_))))));iterate 4 (refine SA TK Q ?_)
 refine SX Q Q (bB Q xT tA Q Q Q Q) (BE hm λr1 hr1 hm=>?_);obtain⟨r2,r3⟩:=r1;refine dY [4,8,9,3] (λj=>Nat.beq j 1||Nat.beq j 2) Q Q Q (by decide) Q Q Q Q (jP hr1) Q Q Q ?_;refine SA TK Q (TN (WN [6,8,9] Q Q (TQ (RS (SA TK Q (SA TK Q (TN (WN [6,8,9,22] Q Q ?_))))))));refine TC _ Q (λh4=>?_) (λh4=>?_)
 ·replace hm:=JA h4 hm;refine RS (SX Q Q (bB Q eL aQ Q Q Q Q) (kX 23 [some 3,none] Q (SA TK Q (SA TK Q (TN (WN [6,7] Q Q (TR (WR ?_))))))));obtain⟨rfl,rfl⟩:=Prod.mk.inj (Option.some.inj hm);exact⟨_,.mk _ (.cons (.agg (TK.lay Q) Q Q Q Q) (.cons (.tmp 7) .nil)) Q,(.cons (.d _) (.refl _) (.cons (.d _) (.refl _) .nil))⟩
 replace hm:=JB h4 hm;refine TS (WT (WN [6,8,9] Q Q (RS ?_)));iterate 4 (refine SA TK Q ?_)
 refine SX Q Q (jY Q eL aQ Q Q Q Q) (SA TK Q (SA TK Q (TN (WN [6,7] Q Q (TR ?_)))));obtain⟨rfl,rfl⟩:=Prod.mk.inj (Option.some.inj hm);exact⟨_,.mk _ (.cons (.agg (TK.lay Q) Q Q Q Q) (.cons (.tmp 7) .nil)) Q,(.cons (rF (.cons (mZ Q) Q (.cons (.d _) Q .nil))) (.refl _) (.cons (.d _) (.refl _) .nil))⟩
theorem oM:∀ (fu:Nat) {p0:Expr} {r0:Diagram} {r1:Bool} (hm:cB fu p0=some (r0,r1)),RetT Try.prog 34 [p0.enc] [r0.enc,.bool (r1)]:=by
 intro fu
 induction fu with
 | zero=>
  intro p0 r0 r1 hm;unfold cB at hm;cases hm
 | succ fu ih=>
  intro p0 r0 r1 hm;refine .of (mv:=λ_=>false) (cN qBG Try.func34 Q Try.ntmps34 Q Q (λwX gX=>?_));unfold cB at hm;refine WN [0] Q Q (RS (cS 0 Q Q Q (cM 1 Q Q aQ Q (dL 1 [some 3,none] Q Q (SA TK Q (TN (WN [1,2] Q Q ?_)))))));refine fY hm (λ_=>([]:Fr)) (λ_=>([]:List (Nat×Blk))) [] [2] Q (λz1 hm hz1=>?_) (λj hm=>?_)
  ·refine RS (SA TK Q (SA TK Q (TN (WN [1,2,13] Q Q (TB (RS (SA TK Q (SA TK Q (TN (WN [1,2,13,14] Q Q ?_))))))))));refine TC _ Q (λh2=>?_) (λh2=>?_)
   ·replace hm:=JT h2 hm;refine RS (SX Q Q (bB Q eL aQ Q Q Q Q) (kX 16 [some 3,none] Q (SA TK Q (SA TK Q (TN (WN [2,3] Q Q (TR (WB (IE hm λv3 hm hz=>?_)))))))));rw [hz1 _ hz] at hm;refine WR ?_;obtain⟨rfl,rfl⟩:=Prod.mk.inj (Option.some.inj hm);exact⟨_,.mk _ (.cons (.agg (TK.lay Q) Q Q Q Q) (.cons (.tmp 3) .nil)) Q,(.cons (.d _) (.refl _) (.cons (.d _) (.refl _) .nil))⟩
   replace hm:=JF h2 hm;refine RS (SA TK Q (SA TK Q (TN (WN [1,2,13,17] Q Q ?_))));refine TC _ Q (λh4=>?_) (λh4=>?_)
   ·replace hm:=JT h4 hm;refine RS (SA TK Q (SA TK Q (SX Q Q (bB Q rT bD Q Q Q Q) (SX Q Q (jR [.tmp 21] TK Q Q bD Q Q Q Q Q) (SX Q Q (bB Q eL aQ Q Q Q Q) (SA TK Q (SA TK Q (TN (WN [2,3] Q Q (TR ?_))))))))));refine WB (IE hm λv5 hm hz=>?_);rw [hz1 _ hz] at hm;refine WR ?_;obtain⟨rfl,rfl⟩:=Prod.mk.inj (Option.some.inj hm);exact⟨_,.mk _ (.cons (.agg (TK.lay Q) Q Q Q Q) (.cons (.tmp 3) .nil)) Q,(.cons (.d _) (.refl _) (.cons (.d _) (.refl _) .nil))⟩
   replace hm:=JF h4 hm;refine RS (SA TK Q (SA TK Q (TN (WN [1,2,13,24] Q Q ?_))));refine TC _ Q (λh6=>?_) (λh6=>?_)
   ·replace hm:=JT h6 hm;refine RS (SA TK Q (SA TK Q (VE hm λe7 he7 hm=>SX Q Q (wW TK Q Q Q Q he7 (Expr.encR_eq _)) (SA TK Q (BE hm λr8 hr8 hm=>?_)))));obtain⟨r9,r10⟩:=r8;refine SX Q Q (bO Q Q Q (ih hr8)) (SA TK Q (SA TK Q (SA TK Q (cM 2 Q Q aQ Q (dL 2 [some 3,none] Q Q (SA TK Q (SA TK Q (TN (WN [2,4,5] Q Q (RS (SA TK Q ?_)))))))))));refine BE hm λr11 hr11 hm=>SX Q Q (RD Q Q Q (hU hr11)) (SA TK Q (SA TK Q (SA TK Q (TN (WN [2,3] Q Q (TR (WB (IE hm λv12 hm hz=>?_))))))));rw [hz1 _ hz] at hm;refine WR ?_;obtain⟨rfl,rfl⟩:=Prod.mk.inj (Option.some.inj hm);exact⟨_,.mk _ (.cons (.agg (TK.lay Q) Q Q Q Q) (.cons (.tmp 3) .nil)) Q,(.cons (.d _) (.refl _) (.cons (.d _) (.refl _) .nil))⟩
   replace hm:=JF h6 hm;refine aT hm (λx13=>([(37,.d (.bool (x13)))]:Fr)) (λx13=>([]:List (Nat×Blk))) [37] [1,2] Q (λz14 hm=>?_) (λx13 hm=>?_)
   ·refine RS (SA TK Q (SA TK Q (TN (WN [1,2,13,37] Q Q ?_))));refine TC _ Q (λh15=>?_) (λh15=>?_)
    ·replace hm:=JT h15 hm;refine TS (WT ?_);exact⟨_,[0,1],(SJ hm),Q,k0,Q⟩
    replace hm:=JF h15 hm;refine TG (SA TK Q (SA TK Q (TN (WT ?_))));exact⟨_,[0,1],(SJ hm),Q,k0,Q⟩
   refine WN [1,2,37] Q Q ?_;refine TC _ Q (λh16=>?_) (λh16=>?_)
   ·replace hm:=JA h16 hm;refine RS ?_;iterate 4 (refine SA TK Q ?_)
    refine TN (WN [1,2,6] Q Q (RS (SA TK Q (BE hm λr17 hr17 hm=>SX Q Q (RD Q Q Q (hZ hr17)) (cM 2 Q Q aQ Q (dL 2 [some 3,none] Q Q (SA TK Q ?_)))))));refine TN (WN [1,2,6,7] Q Q ?_);refine fY hm (λ(c18,c19)=>([]:Fr)) (λ(c18,c19)=>([(2,.box 29 [.d (.sl 3 (c18.map Node.enc)),.d (.int .i64 c19)])]:List (Nat×Blk))) [] [2,7] Q (λz20 hm hz20=>?_) (λj hm=>?_)
    ·refine RS (SA TK Q (SA TK Q (SX Q Q (dA TK Q Q Q) (SA TK Q (TN (WN [2,6,7,46,47,48] Q Q (TB (fX hm (λ(x25,c26,c27)=>([(48,.d (.int .i64 x25))]:Fr)) (λ(x25,c26,c27)=>([(2,.box 29 [.d (.sl 3 (c26.map Node.enc)),.d (.int .i64 c27)])]:List (Nat×Blk))) [48] [2,6,7,46,47] [0,1,2] Q k0 Q Q Q Q Q (λs z28 hm hz28=>?_)))))))));obtain⟨x25,c26,c27⟩:=s;refine WN [2,6,7,46,47,48] Q Q (RS (SA TK Q (TN (WN [2,6,7,46,47,48,49] Q Q (TQ ?_)))));refine TC _ Q (λh29=>?_) (λh29=>?_)
     ·replace hm:=JT h29 hm;refine TS (WT (WN [2,6,7,46,47,48] Q Q (TQ (TB (RS (VE hm λe30 he30 hm=>SX Q Q (wW TK Q Q Q Q he30 (Expr.encR_eq _)) (SA TK Q ?_)))))));refine cM 3 Q Q mV Q (dL 3 [none,none,some 3] Q Q (SA TK Q (TN (WN [2,6,7,9,46,47,48] Q Q (RS (SA TK Q (BE hm λr31 hr31 hm=>?_)))))));obtain⟨r32,r33⟩:=r31;refine SX Q Q (bO Q Q Q (ih hr31)) (SA TK Q (SA TK Q (SA TK Q (cM 4 Q Q aQ Q (dL 4 [some 3,none] Q Q (SA TK Q (SA TK Q (TN (WN [2,6,7,10,11,46,47,48] Q Q (TQ (RS ?_)))))))))));refine SA TK Q (SA TK Q (TN (WN [2,6,7,10,46,47,48,58] Q Q ?_)));refine TC _ Q (λh34=>?_) (λh34=>?_)
      ·replace hm:=JA h34 hm;refine RS (SX Q Q (bB Q eL aQ Q Q Q Q) (kX 59 [some 3,none] Q (SA TK Q (SA TK Q (TN (WN [2,3] Q Q (TR (WR (WB ?_)))))))));refine WR (IE hm λv35 hm hz=>?_);rw [hz28 _ hz] at hm;refine WR (WB (IE hm λv36 hm hz=>?_));rw [hz20 _ hz] at hm;refine WR (WB (IE hm λv37 hm hz=>?_));rw [hz1 _ hz] at hm;refine WR ?_;obtain⟨rfl,rfl⟩:=Prod.mk.inj (Option.some.inj hm);exact⟨_,.mk _ (.cons (.agg (TK.lay Q) Q Q Q Q) (.cons (.tmp 3) .nil)) Q,(.cons (.d _) (.refl _) (.cons (.d _) (.refl _) .nil))⟩
      replace hm:=JB h34 hm;refine TS (WT (WN [2,6,7,10,46,47,48] Q Q (RS (SA TK Q (SA TK Q (SA TK Q (BE hm λr38 hr38 hm=>?_)))))));obtain⟨r39,r40⟩:=r38;refine SX Q Q (bO Q Q Q (jF hr38)) ?_;iterate 5 (refine SA TK Q ?_)
      refine TN (WN [2,6,7,11,46,47,48] Q Q (RS (SA TK Q (SA TK Q (TN (WN [2,6,7,46,47,48,68] Q Q ?_))))));refine TC _ Q (λh41=>?_) (λh41=>?_)
      ·replace hm:=JA h41 hm;refine RS (SX Q Q (bB Q eL aQ Q Q Q Q) (kX 69 [some 3,none] Q (SA TK Q (SA TK Q (TN (WN [2,3] Q Q (TR (WB (WR ?_)))))))));refine IE hm λv42 hm hz=>?_;rw [hz28 _ hz] at hm;refine WR (WB (IE hm λv43 hm hz=>?_));rw [hz20 _ hz] at hm;refine WR (WB (IE hm λv44 hm hz=>?_));rw [hz1 _ hz] at hm;refine WR ?_;obtain⟨rfl,rfl⟩:=Prod.mk.inj (Option.some.inj hm);exact⟨_,.mk _ (.cons (.agg (TK.lay Q) Q Q Q Q) (.cons (.tmp 3) .nil)) Q,(.cons (.d _) (.refl _) (.cons (.d _) (.refl _) .nil))⟩
      replace hm:=JB h41 hm;refine TS (WK (WT (WN [2,6,7,46,47,48] Q Q (TG (GE hm λg45 hm=>SX Q Q (cK Q Q Q Q g45) (SA TK Q (TN ?_)))))));refine WT ?_;exact⟨_,[0,1,2],(SJ hm),Q,k0,Q⟩
     replace hm:=JF h29 hm;refine dJ (WX (IE hm λv46 hm hz=>?_));rw [hz28 _ hz] at hm;refine WX (WH (WT ?_));exact⟨_,[0,1,2],(SJ hm),Q,k0,Q⟩
    obtain⟨c18,c19⟩:=j;refine WN [2,7] Q Q (RS (SA TK Q (SA TK Q (SA TK Q (TN (WN [2,3] Q Q (TR (WB (IE hm λv47 hm hz=>?_)))))))));rw [hz1 _ hz] at hm;refine WR ?_;obtain⟨rfl,rfl⟩:=Prod.mk.inj (Option.some.inj hm);exact⟨_,.mk _ (.cons (.agg (TK.lay Q) Q Q Q Q) (.cons (.tmp 3) .nil)) Q,(.cons (.d _) (.refl _) (.cons (.d _) (.refl _) .nil))⟩
   replace hm:=JB h16 hm;refine TS (WK (WT ?_));exact⟨_,[0,1],(SJ hm),Q,k0,Q⟩
  refine WN [2] Q Q (RS (BE hm λr48 hr48 hm=>SX Q Q (RD Q Q Q (hZ hr48)) (SA TK Q (SA TK Q (TN (WN [2,3] Q Q (TR ?_)))))));obtain⟨rfl,rfl⟩:=Prod.mk.inj (Option.some.inj hm);exact⟨_,.mk _ (.cons (.agg (TK.lay Q) Q Q Q Q) (.cons (.tmp 3) .nil)) Q,(.cons (.d _) (.refl _) (.cons (.d _) (.refl _) .nil))⟩
theorem pA {p0:Expr} {r0:Diagram} {r1:Bool} (hm:mA p0=some (r0,r1)):RetT Try.prog 34 [p0.enc] [r0.enc,.bool (r1)]:=oM aN hm
theorem zC {p0:Expr} {p1:Int} {r0:Diagram} {r1:Int} (hm:uN p0 p1=some (r0,r1)):RetT Try.prog 11 [p0.enc,.int .i64 p1] [r0.enc,.int .i64 r1]:=by
 refine .of (mv:=λ_=>false) (cN qBR Try.func11 Q Try.ntmps11 Q Q (λwX gX=>?_));unfold uN at hm;refine WN [0,1] Q Q (RS (cS 0 Q Q Q (cM 1 Q Q aQ Q (dL 1 [some 3,none] Q Q (SA TK Q (TN (WN [1,2,4] Q Q (TQ ?_))))))));refine RS (SA TK Q (SA TK Q (TN (WN [1,2,4,9] Q Q ?_))));refine TC _ Q (λh1=>?_) (λh1=>?_)
 ·replace hm:=JT h1 hm;refine RS (SX Q Q (bB Q eL aQ Q Q Q Q) (kX 10 [some 3,none] Q (SA TK Q (SA TK Q (TN (WN [4,5] Q Q (TR (WR ?_))))))));obtain⟨rfl,rfl⟩:=Prod.mk.inj (Option.some.inj hm);exact⟨_,.mk _ (.cons (.agg (TK.lay Q) Q Q Q Q) (.cons (.tmp 5) .nil)) Q,(.cons (.d _) (.refl _) (.cons (.d _) (.refl _) .nil))⟩
 replace hm:=JF h1 hm;refine TS (WT (WN [1,2,4] Q Q (TQ ?_)));refine aT hm (λx2=>([(18,.d (.bool (x2)))]:Fr)) (λx2=>([]:List (Nat×Blk))) [18] [2,4] Q (λz3 hm=>?_) (λx2 hm=>?_)
 ·refine TG (SA TK Q (SA TK Q (SB TK Q (λq4 hq4=>?_))));cases q4
  ·replace hm:=JF hq4 hm;refine SA TK Q (SA TK Q (BE hm λr5 hr5 hm=>SX Q Q (RN Q Q (SC (.d _) (SC (.d _) SN)) (qO hr5)) (SA TK Q (SA TK Q (TN (WT ?_))))));exact⟨_,[0,1],(SJ hm),Q,k0,Q⟩
  replace hm:=JT hq4 hm;iterate 5 (refine SA TK Q ?_)
  refine TN (WT ?_);exact⟨_,[0,1],(SJ hm),Q,k0,Q⟩
 refine WN [2,4,18] Q Q ?_;refine TC _ Q (λh6=>?_) (λh6=>?_)
 ·replace hm:=JA h6 hm;refine RS (SX Q Q (bB Q eL aQ Q Q Q Q) (kX 19 [some 3,none] Q (SA TK Q (SA TK Q (TN (WN [4,5] Q Q (TR (WR ?_))))))));obtain⟨rfl,rfl⟩:=Prod.mk.inj (Option.some.inj hm);exact⟨_,.mk _ (.cons (.agg (TK.lay Q) Q Q Q Q) (.cons (.tmp 5) .nil)) Q,(.cons (.d _) (.refl _) (.cons (.d _) (.refl _) .nil))⟩
 replace hm:=JB h6 hm;refine TS (WT (WN [2,4] Q Q (RS (SA TK Q (BE hm λr7 hr7 hm=>?_)))));obtain⟨r8,r9⟩:=r7;refine SX Q Q (bO Q Q Q (pA hr7)) (SA TK Q (SA TK Q (SA TK Q (cM 2 Q Q aQ Q (dL 2 [some 3,none] Q Q (SA TK Q (SA TK Q (TN (WN [4,6,7] Q Q (TQ (RS ?_)))))))))));refine SA TK Q (SA TK Q (TN (WN [4,6,26] Q Q ?_)));refine TC _ Q (λh10=>?_) (λh10=>?_)
 ·replace hm:=JA h10 hm;refine RS (SX Q Q (bB Q eL aQ Q Q Q Q) (kX 27 [some 3,none] Q (SA TK Q (SA TK Q (TN (WN [4,5] Q Q (TR (WR ?_))))))));obtain⟨rfl,rfl⟩:=Prod.mk.inj (Option.some.inj hm);exact⟨_,.mk _ (.cons (.agg (TK.lay Q) Q Q Q Q) (.cons (.tmp 5) .nil)) Q,(.cons (.d _) (.refl _) (.cons (.d _) (.refl _) .nil))⟩
 replace hm:=JB h10 hm;refine TS (WT (WN [4,6] Q Q (RS (SA TK Q (SA TK Q (SA TK Q (TN (WN [4,5] Q Q (TR ?_)))))))));obtain⟨rfl,rfl⟩:=Prod.mk.inj (Option.some.inj hm);exact⟨_,.mk _ (.cons (.agg (TK.lay Q) Q Q Q Q) (.cons (.tmp 5) .nil)) Q,(.cons (.d _) (.refl _) (.cons (.d _) (.refl _) .nil))⟩
theorem mB {p0:Diagram} {p1:Int} {p2:Int} {r:Bool} (hm:dG p0 p1 p2=some r):RetN Try.prog 41 [p0.enc,.int .i64 p1,.int .i64 p2] (.bool (r)):=by
 refine .unit (aY qBC Try.func41 Q Try.ntmps41 Q Q (λwX gX=>?_)) Q;unfold dG at hm;refine WN [0,1,2] Q Q (RS (cS 0 Q Q Q (SA TK Q (TN (WN [1,2,3] Q Q (TQ ?_))))));refine iV [(12,.d (.bool (((decide (p2=(0:Int)))||(decide (p2=(1:Int)))))))] [12] [1,2,3] Q ?_ ?_
 ·refine TG (SA TK Q (SA TK Q (SB TK Q (λq1 hq1=>?_))));cases q1
  ·refine SA TK Q (SA TK Q (SA TK Q (TN (WT ?_))));exact⟨[0],Q,k0,bZ (aW (aX (by simp [hq1])) Q) Q⟩
  refine SA TK Q (SA TK Q (SA TK Q (TN (WT ?_))));exact⟨[0],Q,k0,bZ (aW (aX (by simp [hq1])) Q) Q⟩
 refine WN [1,2,3,12] Q Q ?_;refine TC _ Q (λh2=>?_) (λh2=>?_)
 ·replace hm:=JA h2 hm;refine RS (SA TK Q (TN (WN [6] Q Q (TR (WR ?_)))));obtain rfl:=OJ hm;exact EndsS.one _ Q (.d _) (.refl _)
 replace hm:=JB h2 hm;refine TS (WT (WN [1,2,3] Q Q ?_));refine aT hm (λx3=>([(6,.d (.bool (x3)))]:Fr)) (λx3=>([]:List (Nat×Blk))) [6] [] Q (λz4 hm=>?_) (λx3 hm=>?_)
 ·refine jU follows  ?_;iterate 2 (refine DA [0] TK Q ?_)
  refine d_b [0] TK Q (λq5 hq5=>?_);cases q5
  ·replace hm:=JF hq5 hm;iterate 21 (refine DA [0] TK Q ?_)
   refine DT ?_ (by kernel_rfl);refine SA TK Q (TN (WT ?_));exact⟨_,[0],(SJ hm),Q,k0,Q⟩
  replace hm:=JT hq5 hm;iterate 2 (refine DA [0] TK Q ?_)
  refine GE hm λg6 hm=>DX [0] Q Q (cK Q Q Q Q g6) ?_;iterate 2 (refine DA [0] TK Q ?_)
  refine d_b [0] TK Q (λq7 hq7=>?_);cases q7
  ·replace hm:=JF hq7 hm;iterate 15 (refine DA [0] TK Q ?_)
   refine DT ?_ (by kernel_rfl);refine SA TK Q (TN (WT ?_));exact⟨_,[0],(SJ hm),Q,k0,Q⟩
  replace hm:=JT hq7 hm;iterate 3 (refine DA [0] TK Q ?_)
  refine GE hm λg8 hm=>DX [0] Q Q (cK Q Q Q Q g8) (VE hm λe9 he9 hm=>DX [0] Q Q (gO TK Q Q Q Q he9) ?_);iterate 5 (refine DA [0] TK Q ?_)
  refine VE hm λe10 he10 hm=>DX [0] Q Q (gO TK Q Q Q Q he10) ?_;iterate 4 (refine DA [0] TK Q ?_)
  refine DT ?_ (by kernel_rfl);refine SA TK Q (TN (WT ?_));exact⟨_,[0],(SJ hm),Q,k0,Q⟩
 refine WN [6] Q Q (TR ?_);obtain rfl:=OJ hm;exact EndsS.one _ Q (.d _) (.refl _)
theorem kP:∀ (fu:Nat) {p0:Int} {p1:(List Bool)} {p2:Diagram} {p4:Int} {r0:Bool} {r1:(List Bool)} {r2:Int} (hm:bA fu p0 p1 p2 p4=some (r0,r1,r2)),Ret Try.prog 54 [.box 36 [.msl 1 1 0 p1.length],.flat 4 1 (p1.map D.bool),.box 3 [.d (.int .i64 p4)],.box 78 [.fnc 54 [.mptr 0 0 0 0,.d (.ptr (p2.enc) 0),.mptr 3 0 0 0,.mptr 2 0 0 0]]] (λ_=>false) [.d (.int .i64 p0),.mptr 0 0 0 0,.d (.ptr (p2.enc) 0),.mptr 3 0 0 0,.mptr 2 0 0 0] (.d (.bool (r0))) [.box 36 [.msl 1 1 0 r1.length],.flat 4 1 (r1.map D.bool),.box 3 [.d (.int .i64 r2)],.box 78 [.fnc 54 [.mptr 0 0 0 0,.d (.ptr (p2.enc) 0),.mptr 3 0 0 0,.mptr 2 0 0 0]]]:=by
 intro fu
 induction fu with
 | zero=>
  intro p0 p1 p2 p4 r0 r1 r2 hm;unfold bA at hm;cases hm
 | succ fu ih=>
  intro p0 p1 p2 p4 r0 r1 r2 hm;refine gT qAV Try.func54 Q Try.ntmps54 Q Q (λwX gX=>?_);unfold bA at hm;refine WN [0,1,2,3,4] Q Q (RS (SA TK Q (TN (WN [0,1,2,3,4] Q Q (TQ ?_)))));refine aT hm (λx1=>([(15,.d (.bool (x1)))]:Fr)) (λx1=>([]:List (Nat×Blk))) [15] [0,1,2,3,4] Q (λz2 hm=>?_) (λx1 hm=>?_)
  ·refine TG (SA TK Q (SA TK Q (SB TK Q (λq3 hq3=>?_))));cases q3
   ·replace hm:=JF hq3 hm;refine SA TK Q (SA TK Q (VE hm λe4 he4 hm=>SX Q Q (pB TK Q Q Q Q he4 Q) (SX Q Q (uR TK Q Q Q Q he4.2 Q) (SA TK Q (TN (WT ?_))))));exact⟨_,[0,1,2,3],(SJ hm),Q,(kB Q),Q⟩
   replace hm:=JT hq3 hm;iterate 5 (refine SA TK Q ?_)
   refine TN (WT ?_);exact⟨_,[0,1,2,3],(SJ hm),Q,(kB Q),Q⟩
  refine WN [0,1,2,3,4,15] Q Q ?_;refine TC _ Q (λh5=>?_) (λh5=>?_)
  ·replace hm:=JA h5 hm;refine RS (SA TK Q (TN (WN [6] Q Q (TR (WR ?_)))));obtain⟨rfl,hmj0⟩:=Prod.mk.inj (Option.some.inj hm);obtain⟨rfl,rfl⟩:=Prod.mk.inj (hmj0);exact⟨_,[0,1,2,3],res Q,by decide,(kB Q),Q,Q⟩
  replace hm:=JB h5 hm;refine TS (WT (WN [0,1,2,3,4] Q Q (RS (SA TK Q (SA TK Q (VE hm λe6 he6 hm=>SX Q Q (pB TK Q Q Q Q he6 Q) (qCE (x':=true) TK Q Q Q Q Q he6.2 Q Q Q (xN 16 (p1.set p0.toNat true).length Q List.length_set.symm ?_))))))));refine s_eqB 0 [.msl 1 1 0 (p1.set p0.toNat true).length] Q (by simp only [List.length_set]) ?_;refine TN (WN [0,2,3,4] Q Q (RS (SA TK Q (SA TK Q (SA TK Q (GE hm λg7 hm=>SX Q Q (cK Q Q Q Q g7) (VE hm λe8 he8 hm=>SX Q Q (gO TK Q Q Q Q he8) (SA TK Q ?_))))))));refine cM 4 Q Q bD Q (SA TK Q (TN (WN [0,3,4,7] Q Q (TQ ?_))));refine aT hm (λ(x9,b10,c11)=>([(41,.d (.bool (x9)))]:Fr)) (λ(x9,b10,c11)=>([(0,.box 36 [.msl 1 1 0 b10.length]),(1,.flat 4 1 (b10.map D.bool)),(2,.box 3 [.d (.int .i64 c11)])]:List (Nat×Blk))) [41] [4] Q (λz12 hm=>?_) (λj hm=>?_)
  ·refine TG (SA TK Q (SA TK Q (SA TK Q (BE hm λr13 hr13 hm=>?_))));obtain⟨r14,r15,r16⟩:=r13;refine dY [0,1,2,3] (λ_=>false) Q Q Q (by decide) Q Q Q Q (ih hr13) Q Q Q ?_;refine SA TK Q (SB TK Q (λq17 hq17=>?_));cases q17
   ·replace hm:=JB hq17 hm;refine SA TK Q (SA TK Q (SA TK Q (BE hm λr18 hr18 hm=>?_)));obtain⟨r19,r20,r21⟩:=r18;refine s_on Q ?_;refine dY [0,1,2,3] (λ_=>false) Q Q Q (by decide) Q Q Q Q (ih hr18) Q Q Q ?_;refine SA TK Q (SA TK Q (SB TK Q (λq22 hq22=>?_)));cases q22
    ·replace hm:=JB hq22 hm;iterate 4 (refine SA TK Q ?_)
     refine TN (WT ?_);exact⟨_,[0,1,2,3,4],(SJ hm),Q,(kB Q),Q⟩
    replace hm:=JA hq22 hm;iterate 4 (refine SA TK Q ?_)
    refine TN (WT ?_);exact⟨_,[0,1,2,3,4],(SJ hm),Q,(kB Q),Q⟩
   replace hm:=JA hq17 hm;iterate 11 (refine SA TK Q ?_)
   refine TN (WT ?_);exact⟨_,[0,1,2,3,4],(SJ hm),Q,(kB Q),Q⟩
  obtain⟨x9,b10,c11⟩:=j;refine WN [4,41] Q Q ?_;refine TC _ Q (λh23=>?_) (λh23=>?_)
  ·replace hm:=JA h23 hm;refine RS (SA TK Q (TN (WN [6] Q Q (TR (WR ?_)))));obtain⟨rfl,hmj0⟩:=Prod.mk.inj (Option.some.inj hm);obtain⟨rfl,rfl⟩:=Prod.mk.inj (hmj0);exact⟨_,[0,1,2,3],res Q,by decide,(kB Q),Q,Q⟩
  replace hm:=JB h23 hm;refine TS (WT (WN [4] Q Q (RS (SA TK Q (GE hm λg24 hm=>SX Q Q (cK Q Q Q Q g24) (SA TK Q (TN ?_)))))));refine WN [] Q Q (RS (SA TK Q (TN (WN [6] Q Q (TR ?_)))));obtain⟨rfl,hmj0⟩:=Prod.mk.inj (Option.some.inj hm);obtain⟨rfl,rfl⟩:=Prod.mk.inj (hmj0);exact⟨_,[0,1,2,3],res Q,by decide,(kB Q),Q,Q⟩
theorem lO {p0:Int} {p1:(List Bool)} {p2:Diagram} {p4:Int} {r0:Bool} {r1:(List Bool)} {r2:Int} (hm:fE p0 p1 p2 p4=some (r0,r1,r2)):Ret Try.prog 54 [.box 36 [.msl 1 1 0 p1.length],.flat 4 1 (p1.map D.bool),.box 3 [.d (.int .i64 p4)],.box 78 [.fnc 54 [.mptr 0 0 0 0,.d (.ptr (p2.enc) 0),.mptr 3 0 0 0,.mptr 2 0 0 0]]] (λ_=>false) [.d (.int .i64 p0),.mptr 0 0 0 0,.d (.ptr (p2.enc) 0),.mptr 3 0 0 0,.mptr 2 0 0 0] (.d (.bool (r0))) [.box 36 [.msl 1 1 0 r1.length],.flat 4 1 (r1.map D.bool),.box 3 [.d (.int .i64 r2)],.box 78 [.fnc 54 [.mptr 0 0 0 0,.d (.ptr (p2.enc) 0),.mptr 3 0 0 0,.mptr 2 0 0 0]]]:=kP aN hm
theorem oZ {p0:Diagram} {r:Bool} (hm:eI p0=some r):RetN Try.prog 43 [p0.enc] (.bool (r)):=by
 refine .unit (aY qBB Try.func43 Q Try.ntmps43 Q Q (λwX gX=>?_)) Q;unfold eI at hm;refine WN [0] Q Q (RS (cS 0 Q Q Q (SA TK Q (TN (WN [1] Q Q (RS (SA TK Q (SA TK Q (SX Q Q (dA TK Q Q Q) ?_)))))))));refine GE hm λg1 hm=>SX Q Q (cK Q Q Q Q g1) (GE hm λg2 hm=>qCF (f:=D.bool) (x:=false) 1 TK Q Q Q qCC Q Q Q Q Q g2 Q (cM 2 Q Q zero36 Q (nA (f:=D.bool) 2 0 3 4 1 Q Q Q (SA TK Q (TN (WN [1,3] Q Q ?_))))));refine RS (cM 4 Q Q mU Q (SA TK Q (TN (WN [1,3,4] Q Q (RS (cM 5 Q Q zero78 Q (TN (WN [1,3,4,5] Q Q ?_))))))));refine vQ 0 Q Q Q Q Q (RS (SX Q Q (rM Q) (SA TK Q (TN (WN [1,4,5] Q Q ?_)))));refine aT hm (λ(x3,b4,c5)=>([(2,.d (.bool (x3)))]:Fr)) (λ(x3,b4,c5)=>([(1,.flat 4 1 (b4.map D.bool)),(2,.box 36 [.msl 1 1 0 b4.length]),(4,.box 3 [.d (.int .i64 c5)])]:List (Nat×Blk))) [2] [] Q (λz6 hm=>?_) (λj hm=>?_)
 ·refine TG (SA TK Q (SA TK Q (SA TK Q (BE hm λr7 hr7 hm=>?_))));obtain⟨r8,r9,r10⟩:=r7;refine dY [2,1,4,5] (λ_=>false) Q Q Q (by decide) Q Q Q Q (lO hr7) Q Q Q ?_;refine SB TK Q (λq11 hq11=>?_);cases q11
  ·replace hm:=JB hq11 hm;iterate 8 (refine SA TK Q ?_)
   refine TN (WT ?_);exact⟨_,[0,1,2,3,4,5],(SJ hm),Q,k0,Q⟩
  replace hm:=JA hq11 hm;refine SA TK Q (SA TK Q (SA TK Q (SX Q Q (dA TK Q Q Q) (GE hm λg12 hm=>SX Q Q (cK Q Q Q Q g12) (SA TK Q (SA TK Q (SA TK Q (TN (WT ?_)))))))));exact⟨_,[0,1,2,3,4,5],(SJ hm),Q,k0,Q⟩
 obtain⟨x3,b4,c5⟩:=j;refine WN [2] Q Q (TR ?_);obtain rfl:=OJ hm;exact EndsS.one _ Q (.d _) (.refl _)
theorem dO {p0:Node'} {p1:Node} {r0:Int} {r1:Node'} (hm:aM p0 p1=some (r0,r1)):Ret Try.prog 42 [.box 63 [.mmapN 1 p0.index.length,.msl 2 3 0 p0.list.length],.map 51 3 (aH Node.enc (D.int .i64) p0.index),.flat 51 3 (p0.list.map Node.enc)] (λj=>Nat.beq j 1||Nat.beq j 2) [.mptr 0 0 0 0,.d (p1.enc)] (.d (.int .i64 r0)) [.box 63 [.mmapN 1 r1.index.length,.msl 2 3 0 r1.list.length],.map 51 3 (aH Node.enc (D.int .i64) r1.index),.flat 51 3 (r1.list.map Node.enc)]:=by
 refine gT vP Try.func42 Q Try.ntmps42 Q Q (λwX gX=>?_);unfold aM at hm;refine sV 0 0 1 Q Q Q (λhn=>?_) ?_
 ·replace hm:=yB hn hm;refine WN [0,1] Q Q (RS (cS 3 Q Q Q (SA TK Q (TN (WN [0,3] Q Q (TQ (aO follows  ?_)))))));iterate 5 (refine DA [0,1,2,3] TK Q ?_)
  refine GE hm λg1 hm=>DX [0,1,2,3] Q Q (qY gQ gV (D.int .i64) p1 (0:Int) Q lX mU Q Q Q g1) ?_;iterate 4 (refine DA [0,1,2,3] TK Q ?_)
  refine DT ?_ (by kernel_rfl);refine SA TK Q (TN (WN [0,3,5,6] Q Q (RS (SA TK Q (TN (WN [0,3,5,16] Q Q (TC false Q (λh=>by cases h) (λ_=>TS ?_))))))));refine WT (WN [0,3] Q Q ?_);refine aT hm (λ_=>([]:Fr)) (λ_=>([(0,.box 63 [.mmap 1,.msl 2 3 0 p0.list.length])]:List (Nat×Blk))) [] [0,3] Q (λz2 hm=>?_) (λj hm=>?_)
  ·refine RS ?_;iterate 4 (refine SA TK Q ?_)
   refine SX Q Q (nG Q Try.underlying61 Q Q) (TN (WN [0,3,22] Q Q ?_));refine TC true Q (λ_=>?_) (λh=>by cases h);refine TG (SA TK Q (lS (kf:=Node.enc) (f:=(D.int .i64)) 1 51 3 Q Q (λ_=>Q) Q Q (SA TK Q (SA TK Q (SA TK Q (TN (WT ?_)))))));exact⟨_,[0,1,2,3],(SJ hm),Q,(kB Q),Q⟩
  refine WN [0,3] Q Q (aO follows  ?_);iterate 10 (refine DA [0,1,2,3] TK Q ?_)
  refine DT ?_ (by kernel_rfl);refine GE hm λg3 hm=>kY gQ gV (D.int .i64) lX Q Q Q Q g3 (TN (WN [0,3] Q Q (aO follows  ?_)));iterate 6 (refine DA [0,1,2,3] TK Q ?_)
  refine DX [0,1,2,3] Q Q (jR [.tmp 42] TK Q Q bD Q Q Q Q Q) ?_;refine mP 0 37 ?_ ?_ Q (by kernel_rfl) (by kernel_rfl) (by kernel_rfl)
  ·refine GE hm λg4 hm=>jW (f:=Node.enc) ([p1]:List Node) TK Q Q bD Q Q Q Q Q (λ_=>Q) Q iX g4 Q Q (SA TK Q (SA TK Q (SA TK Q (TN (WN [0] Q Q (RS ?_))))));iterate 5 (refine SA TK Q ?_)
   refine GE hm λg5 hm=>SX Q Q (cK Q Q Q Q g5) (SA TK Q (TN (WN [4] Q Q (jE 0 0 1 (eD ([]:List (Node×Int)) p1 (p0.list.length:Int)).length Q Q (TR ?_)))));obtain⟨rfl,rfl⟩:=Prod.mk.inj (Option.some.inj hm);exact⟨_,[0,1,2],res Q,by decide,(kB Q),Q,Q⟩
  refine GE hm λg6 hm=>jW (f:=Node.enc) ([p1]:List Node) TK Q Q bD Q Q Q Q Q (λ_=>Q) Q iX g6 Q Q ?_;iterate 4 (refine SA TK Q ?_)
  refine TN (WN [0] Q Q (RS ?_));iterate 5 (refine SA TK Q ?_)
  refine GE hm λg7 hm=>SX Q Q (cK Q Q Q Q g7) (SA TK Q (TN (WN [4] Q Q (jE 0 0 1 (eD ([]:List (Node×Int)) p1 (p0.list.length:Int)).length Q Q (TR ?_)))));obtain⟨rfl,rfl⟩:=Prod.mk.inj (Option.some.inj hm);exact⟨_,[0,1,2],res Q,by decide,(kB Q),Q,Q⟩
 replace hm:=qCH hm;refine WN [0,1] Q Q (RS (cS 3 Q Q Q (SA TK Q (TN (WN [0,3] Q Q (TQ (aO follows  ?_)))))));iterate 5 (refine DA [0,1,2,3] TK Q ?_)
 refine GE hm λg8 hm=>DX [0,1,2,3] Q Q (pR gQ gV (D.int .i64) _ _ (0:Int) Q lX mU Q Q Q Q g8) ?_;iterate 4 (refine DA [0,1,2,3] TK Q ?_)
 refine DT ?_ (by kernel_rfl);refine SA TK Q (TN (WN [0,3,5,6] Q Q (RS (SA TK Q (TN (WN [0,3,5,16] Q Q ?_))))));refine TC _ Q (λh9=>?_) (λh9=>?_)
 ·replace hm:=JA h9 hm;refine RS (SA TK Q (SA TK Q (TN (WN [4] Q Q (jE 0 0 1 p0.index.length Q Q (TR (WR ?_)))))));obtain⟨rfl,rfl⟩:=Prod.mk.inj (Option.some.inj hm);exact⟨_,[0,1,2],res Q,by decide,(kB Q),Q,Q⟩
 replace hm:=JB h9 hm;refine TS (WT (WN [0,3] Q Q ?_));refine aT hm (λ_=>([]:Fr)) (λ_=>([]:List (Nat×Blk))) [] [0,3] Q (λz10 hm=>?_) (λj hm=>?_)
 ·refine RS ?_;iterate 4 (refine SA TK Q ?_)
  refine SX Q Q (nH Q Try.underlying61 Q Q) (TN (WN [0,3,22] Q Q (TC false Q (λh=>by cases h) (λ_=>TS (WT ?_)))));exact⟨_,[0,1,2,3],(SJ hm),Q,(kB Q),Q⟩
 refine WN [0,3] Q Q (aO follows  ?_);iterate 10 (refine DA [0,1,2,3] TK Q ?_)
 refine DT ?_ (by kernel_rfl);refine GE hm λg11 hm=>kY gQ gV (D.int .i64) lX Q Q Q Q g11 (TN (WN [0,3] Q Q (aO follows  ?_)));iterate 6 (refine DA [0,1,2,3] TK Q ?_)
 refine DX [0,1,2,3] Q Q (jR [.tmp 42] TK Q Q bD Q Q Q Q Q) ?_;refine mP 0 37 ?_ ?_ Q (by kernel_rfl) (by kernel_rfl) (by kernel_rfl)
 ·refine GE hm λg12 hm=>jW (f:=Node.enc) ([p1]:List Node) TK Q Q bD Q Q Q Q Q (λ_=>Q) Q iX g12 Q Q (SA TK Q (SA TK Q (SA TK Q (TN (WN [0] Q Q (RS ?_))))));iterate 5 (refine SA TK Q ?_)
  refine GE hm λg13 hm=>SX Q Q (cK Q Q Q Q g13) (SA TK Q (TN (WN [4] Q Q (jE 0 0 1 (eD p0.index p1 (p0.list.length:Int)).length Q Q (TR ?_)))));obtain⟨rfl,rfl⟩:=Prod.mk.inj (Option.some.inj hm);exact⟨_,[0,1,2],res Q,by decide,(kB Q),Q,Q⟩
 refine GE hm λg14 hm=>jW (f:=Node.enc) ([p1]:List Node) TK Q Q bD Q Q Q Q Q (λ_=>Q) Q iX g14 Q Q ?_;iterate 4 (refine SA TK Q ?_)
 refine TN (WN [0] Q Q (RS ?_));iterate 5 (refine SA TK Q ?_)
 refine GE hm λg15 hm=>SX Q Q (cK Q Q Q Q g15) (SA TK Q (TN (WN [4] Q Q (jE 0 0 1 (eD p0.index p1 (p0.list.length:Int)).length Q Q (TR ?_)))));obtain⟨rfl,rfl⟩:=Prod.mk.inj (Option.some.inj hm);exact⟨_,[0,1,2],res Q,by decide,(kB Q),Q,Q⟩
theorem bU {p0:Diagram} {r:Bool} (hm:bN p0=some r):RetN Try.prog 19 [p0.enc] (.bool (r)):=by
 refine .unit (aY qBM Try.func19 Q Try.ntmps19 Q Q (λwX gX=>?_)) Q;unfold bN at hm;refine WN [0] Q Q (RS (cS 0 Q Q Q (SA TK Q (TN (WN [1] Q Q (TQ (RS (SA TK Q (SA TK Q ?_)))))))));refine SX Q Q (dA TK Q Q Q) (SA TK Q (TN (WN [1,9] Q Q ?_)));refine TC _ Q (λh1=>?_) (λh1=>?_)
 ·replace hm:=JT h1 hm;refine RS (SA TK Q (TN (WN [2] Q Q (TR (WR ?_)))));obtain rfl:=OJ hm;exact EndsS.one _ Q (.d _) (.refl _)
 replace hm:=JF h1 hm;refine TS (WT (WN [1] Q Q (RS (cM 1 Q Q zero63 Q (uV (kf:=Node.enc) (f:=(D.int .i64)) 1 0 2 51 3 Q Q Q (nA (f:=Node.enc) 1 1 3 51 3 Q Q Q (TN (WN [1,3] Q Q ?_))))))));refine fY hm (λ(m2,b3)=>([]:Fr)) (λ(m2,b3)=>([(1,.box 63 [.mmapN 2 m2.length,.msl 3 3 0 b3.length]),(2,.map 51 3 (aH Node.enc (D.int .i64) m2)),(3,.flat 51 3 (b3.map Node.enc))]:List (Nat×Blk))) [] [1] Q (λz4 hm hz4=>?_) (λj hm=>?_)
 ·refine RS (SA TK Q (SA TK Q (SX Q Q (dA TK Q Q Q) (SA TK Q (TN (WN [1,3,11,12,13] Q Q (TB (fX hm (λ(x9,b10,b11)=>([(13,.d (.int .i64 x9))]:Fr)) (λ(x9,b10,b11)=>([(1,.box 63 [.mmapN 2 b10.length,.msl 3 3 0 b11.length]),(2,.map 51 3 (aH Node.enc (D.int .i64) b10)),(3,.flat 51 3 (b11.map Node.enc))]:List (Nat×Blk))) [13] [1,3,11,12] [0,1,2,3] Q k0 Q Q Q Q Q (λs z12 hm hz12=>?_)))))))));obtain⟨x9,b10,b11⟩:=s;refine WN [1,3,11,12,13] Q Q (RS (SA TK Q (TN (WN [1,3,11,12,13,14] Q Q (TQ ?_)))));refine TC _ Q (λh13=>?_) (λh13=>?_)
  ·replace hm:=JT h13 hm;refine TS (WT (WN [1,3,11,12,13] Q Q (TQ (TB (RS (SA TK Q (VE hm λe14 he14 hm=>SX Q Q (gO TK Q Q Q Q he14) ?_)))))));refine SA TK Q (cM 4 Q Q bD Q (SA TK Q (SA TK Q (TN (WN [1,3,4,5,11,12,13] Q Q (TQ ?_))))));refine aT hm (λx15=>([(48,.d (.bool (x15)))]:Fr)) (λx15=>([]:List (Nat×Blk))) [48] [1,3,4,5,11,12,13] Q (λz16 hm=>?_) (λx15 hm=>?_)
   ·refine TG (SA TK Q (SA TK Q (SA TK Q (SB TK Q (λq17 hq17=>?_)))));cases q17
    ·replace hm:=JF hq17 hm;iterate 4 (refine SA TK Q ?_)
     refine SB TK Q (λq18 hq18=>?_);cases q18
     ·replace hm:=JF hq18 hm;iterate 6 (refine SA TK Q ?_)
      refine SB TK Q (λq19 hq19=>?_);cases q19
      ·replace hm:=JF hq19 hm;iterate 4 (refine SA TK Q ?_)
       refine BE hm λr20 hr20 hm=>SX Q Q (RN Q Q (SC (.d _) (SC (.d _) (SC (.d _) SN))) (mB hr20)) (SA TK Q (SA TK Q (SB TK Q (λq21 hq21=>?_))));cases q21
       ·replace hm:=JB hq21 hm;iterate 4 (refine SA TK Q ?_)
        refine BE hm λr22 hr22 hm=>SX Q Q (RN Q Q (SC (.d _) (SC (.d _) (SC (.d _) SN))) (mB hr22)) (SA TK Q (SA TK Q (TN (WT ?_))));exact⟨_,[0,1,2,3,4],(SJ hm),Q,k0,Q⟩
       replace hm:=JA hq21 hm;iterate 7 (refine SA TK Q ?_)
       refine TN (WT ?_);exact⟨_,[0,1,2,3,4],(SJ hm),Q,k0,Q⟩
      replace hm:=JT hq19 hm;iterate 15 (refine SA TK Q ?_)
      refine TN (WT ?_);exact⟨_,[0,1,2,3,4],(SJ hm),Q,k0,Q⟩
     replace hm:=JT hq18 hm;iterate 22 (refine SA TK Q ?_)
     refine TN (WT ?_);exact⟨_,[0,1,2,3,4],(SJ hm),Q,k0,Q⟩
    replace hm:=JT hq17 hm;iterate 27 (refine SA TK Q ?_)
    refine TN (WT ?_);exact⟨_,[0,1,2,3,4],(SJ hm),Q,k0,Q⟩
   refine WN [1,3,4,5,11,12,13,48] Q Q ?_;refine TC _ Q (λh23=>?_) (λh23=>?_)
   ·replace hm:=JA h23 hm;refine RS (SA TK Q (TN (WN [2] Q Q (TR (WR (WB (WR (IE hm λv24 hm hz=>?_))))))));rw [hz12 _ hz] at hm;refine WR (WB (IE hm λv25 hm hz=>?_));rw [hz4 _ hz] at hm;refine WR ?_;obtain rfl:=OJ hm;exact EndsS.one _ Q (.d _) (.refl _)
   replace hm:=JB h23 hm;refine TS (WT (WN [1,3,4,5,11,12,13] Q Q (RS (SA TK Q (BE hm λr26 hr26 hm=>?_)))));obtain⟨r27,r28⟩:=r26;refine dY [1,2,3] (λj=>Nat.beq j 1||Nat.beq j 2) Q Q Q (by decide) Q Q Q Q (dO hr26) Q Q Q ?_;refine SA TK Q (SA TK Q (TN (WN [1,3,11,12,13,52] Q Q ?_)));refine TC _ Q (λh29=>?_) (λh29=>?_)
   ·replace hm:=jM h29 hm;refine RS (SA TK Q (TN (WN [2] Q Q (TR (WB (WR (IE hm λv30 hm hz=>?_)))))));rw [hz12 _ hz] at hm;refine WR (WB (IE hm λv31 hm hz=>?_));rw [hz4 _ hz] at hm;refine WR ?_;obtain rfl:=OJ hm;exact EndsS.one _ Q (.d _) (.refl _)
   replace hm:=jN h29 hm;refine TS (WK (WT (WN [1,3,11,12,13] Q Q (TG (GE hm λg32 hm=>SX Q Q (cK Q Q Q Q g32) (SA TK Q (TN ?_)))))));refine WT ?_;exact⟨_,[0,1,2,3],(SJ hm),Q,k0,Q⟩
  replace hm:=JF h13 hm;refine dJ (WX (IE hm λv33 hm hz=>?_));rw [hz12 _ hz] at hm;refine WX (WH (WT ?_));exact⟨_,[0,1,2,3],(SJ hm),Q,k0,Q⟩
 obtain⟨m2,b3⟩:=j;refine WN [1] Q Q (TQ (RS (SA TK Q (SA TK Q (SX Q Q (dA TK Q Q Q) (SA TK Q (TN (WN [1,57] Q Q ?_))))))));refine TC _ Q (λh34=>?_) (λh34=>?_)
 ·replace hm:=JT h34 hm;refine iV [(2,.d (.bool (((decide (p0.root=(0:Int)))||(decide (p0.root=(1:Int)))))))] [2] [] Q ?_ ?_
  ·refine TG (SA TK Q (SA TK Q (SA TK Q (SB TK Q (λq35 hq35=>?_)))));cases q35
   ·iterate 5 (refine SA TK Q ?_)
    refine TN (WT ?_);exact⟨[0,1,2,3],Q,k0,bZ (aW (aX (by simp [hq35])) Q) Q⟩
   iterate 5 (refine SA TK Q ?_)
   refine TN (WT ?_);exact⟨[0,1,2,3],Q,k0,bZ (aW (aX (by simp [hq35])) Q) Q⟩
  refine WN [2] Q Q (TR (WR ?_));obtain rfl:=OJ hm;exact EndsS.one _ Q (.d _) (.refl _)
 replace hm:=JF h34 hm;refine TS (WT (WN [1] Q Q ?_));refine aT hm (λx36=>([(2,.d (.bool (x36)))]:Fr)) (λx36=>([]:List (Nat×Blk))) [2] [] Q (λz37 hm=>?_) (λx36 hm=>?_)
 ·refine TG ?_;iterate 4 (refine SA TK Q ?_)
  refine SX Q Q (dA TK Q Q Q) (GE hm λg38 hm=>SX Q Q (cK Q Q Q Q g38) (SA TK Q (SB TK Q (λq39 hq39=>?_))));cases q39
  ·replace hm:=JF hq39 hm;iterate 4 (refine SA TK Q ?_)
   refine TN (WT ?_);exact⟨_,[0,1,2,3],(SJ hm),Q,k0,Q⟩
  replace hm:=JT hq39 hm;refine SA TK Q (BE hm λr40 hr40 hm=>SX Q Q (RN Q Q (SC (.d _) SN) (oZ hr40)) (SA TK Q (SA TK Q (TN (WT ?_)))));exact⟨_,[0,1,2,3],(SJ hm),Q,k0,Q⟩
 refine WN [2] Q Q (TR ?_);obtain rfl:=OJ hm;exact EndsS.one _ Q (.d _) (.refl _)
theorem mC {p0:Diagram} {p1:Int} {r:Bool} (hm:eS p0 p1=some r):RetN Try.prog 38 [p0.enc,.int .i64 p1] (.bool (r)):=by
 refine .unit (aY qBE Try.func38 Q Try.ntmps38 Q Q (λwX gX=>?_)) Q;unfold eS at hm;refine WN [0,1] Q Q (RS (cS 0 Q Q Q (SA TK Q (TN (WN [1,2] Q Q ?_)))));refine fY hm (λ_=>([]:Fr)) (λ_=>([]:List (Nat×Blk))) [] [] Q (λz1 hm hz1=>?_) (λj hm=>?_)
 ·refine RS (SA TK Q (SA TK Q (SX Q Q (dA TK Q Q Q) (SA TK Q (TN (WN [1,8,9,10] Q Q (TB (fX hm (λx3=>([(10,.d (.int .i64 x3))]:Fr)) (λx3=>([]:List (Nat×Blk))) [10] [1,8,9] [0] Q k0 Q Q Q Q Q (λx3 z4 hm hz4=>WN [1,8,9,10] Q Q ?_)))))))));refine RS (SA TK Q (TN (WN [1,8,9,10,11] Q Q (TQ ?_))));refine TC _ Q (λh5=>?_) (λh5=>?_)
  ·replace hm:=JT h5 hm;refine TS (WT (WN [1,8,9,10] Q Q (TQ (TB (RS (VE hm λe6 he6 hm=>SX Q Q (gO TK Q Q Q Q he6) (SA TK Q ?_)))))));refine cM 1 Q Q bD Q (SA TK Q (TN (WN [1,6,8,9,10] Q Q (RS ?_))));iterate 4 (refine SA TK Q ?_)
   refine TN (WN [1,8,9,10,17] Q Q ?_);refine TC _ Q (λh7=>?_) (λh7=>?_)
   ·replace hm:=JT h7 hm;refine RS (SA TK Q (TN (WN [4] Q Q (TR (WB (WR (IE hm λv8 hm hz=>?_)))))));rw [hz4 _ hz] at hm;refine WR (WB (IE hm λv9 hm hz=>?_));rw [hz1 _ hz] at hm;refine WR ?_;obtain rfl:=OJ hm;exact EndsS.one _ Q (.d _) (.refl _)
   replace hm:=JF h7 hm;refine TS (WK (WT (WN [1,8,9,10] Q Q (TG (GE hm λg10 hm=>SX Q Q (cK Q Q Q Q g10) (SA TK Q (TN ?_)))))));refine WT ?_;exact⟨_,[0],(SJ hm),Q,k0,Q⟩
  replace hm:=JF h5 hm;refine dJ (WX (IE hm λv11 hm hz=>?_));rw [hz4 _ hz] at hm;refine WX (WH (WT ?_));exact⟨_,[0],(SJ hm),Q,k0,Q⟩
 refine WN [] Q Q (RS (SA TK Q (TN (WN [4] Q Q (TR ?_)))));obtain rfl:=OJ hm;exact EndsS.one _ Q (.d _) (.refl _)
theorem fG {p0:Int} {p1:Int} {p2:Diagram} {r:Int} (hm:bY p0 p1 p2=some r):RetN Try.prog 40 [.int .i64 p0,.ptr (.agg [.int .i64 p1]) 0,.ptr (p2.enc) 0] (.int .i64 r):=by
 refine .unit (aY qBD Try.func40 Q Try.ntmps40 Q Q (λwX gX=>?_)) Q;unfold bY at hm;refine WN [0,1,2] Q Q (RS (SA TK Q (TN (WN [0,1,2] Q Q (TQ (RS (SA TK Q (SA TK Q (TN ?_)))))))));refine WN [0,1,2,6] Q Q ?_;refine TC _ Q (λh1=>?_) (λh1=>?_)
 ·replace hm:=JT h1 hm;refine RS (SA TK Q (SA TK Q (TN (WN [4] Q Q (TR (WR ?_))))));obtain rfl:=OJ hm;exact EndsS.one _ Q (.d _) (.refl _)
 replace hm:=JF h1 hm;refine TS (WT (WN [0,2] Q Q (RS (SA TK Q (SA TK Q (SA TK Q (GE hm λg2 hm=>SX Q Q (cK Q Q Q Q g2) (VE hm λe3 he3 hm=>SX Q Q (gO TK Q Q Q Q he3) ?_))))))));refine SA TK Q (SA TK Q (SA TK Q (TN (WN [4] Q Q (TR ?_)))));obtain rfl:=OJ hm;exact EndsS.one _ Q (.d _) (.refl _)
theorem iB {p0:Diagram} {p1:Int} {r0:Int} {r1:Int} (hm:dW p0 p1=some (r0,r1)):RetT Try.prog 17 [p0.enc,.int .i64 p1] [.int .u64 r0,.int .i64 r1]:=by
 refine .of (mv:=λ_=>false) (cN qBN Try.func17 Q Try.ntmps17 Q Q (λwX gX=>?_));unfold dW at hm;refine WN [0,1] Q Q (RS (cS 0 Q Q Q (cS 1 Q Q Q (SA TK Q (SA TK Q (TN (WN [2,3] Q Q (TQ ?_))))))));refine iV [(17,.d (.bool (((decide (p1 < (0:Int)))||(decide ((62:Int) < p1))))))] [17] [2,3] Q ?_ ?_
 ·refine TG (SA TK Q (SA TK Q (SB TK Q (λq1 hq1=>?_))));cases q1
  ·refine SA TK Q (SA TK Q (SA TK Q (TN (WT ?_))));exact⟨[0,1],Q,k0,bZ (aW (aX (by simp [hq1])) Q) Q⟩
  refine SA TK Q (SA TK Q (SA TK Q (TN (WT ?_))));exact⟨[0,1],Q,k0,bZ (aW (aX (by simp [hq1])) Q) Q⟩
 refine WN [2,3,17] Q Q ?_;refine TC _ Q (λh2=>?_) (λh2=>?_)
 ·replace hm:=JA h2 hm;refine RS (SA TK Q (SA TK Q (TN (WN [4,5] Q Q (TR (WR ?_))))));obtain⟨rfl,rfl⟩:=Prod.mk.inj (Option.some.inj hm);exact EndsT.two Q (.d _) (.refl _) (.d _) (.refl _)
 replace hm:=JB h2 hm;refine TS (WT (WN [2,3] Q Q (TQ ?_)));refine aT hm (λx3=>([(26,.d (.bool (x3)))]:Fr)) (λx3=>([]:List (Nat×Blk))) [26] [2,3] Q (λz4 hm=>?_) (λx3 hm=>?_)
 ·refine TG (SA TK Q (BE hm λr5 hr5 hm=>SX Q Q (RN Q Q (SC (.d _) SN) (bU hr5)) (SA TK Q (SB TK Q (λq6 hq6=>?_)))));cases q6
  ·replace hm:=JB hq6 hm;refine SA TK Q (SA TK Q (BE hm λr7 hr7 hm=>SX Q Q (RN Q Q (SC (.d _) (SC (.d _) SN)) (mC hr7)) (SA TK Q (SA TK Q (TN (WT ?_))))));exact⟨_,[0,1],(SJ hm),Q,k0,Q⟩
  replace hm:=JA hq6 hm;iterate 5 (refine SA TK Q ?_)
  refine TN (WT ?_);exact⟨_,[0,1],(SJ hm),Q,k0,Q⟩
 refine WN [2,3,26] Q Q ?_;refine TC _ Q (λh8=>?_) (λh8=>?_)
 ·replace hm:=JA h8 hm;refine RS (SA TK Q (SA TK Q (TN (WN [4,5] Q Q (TR (WR ?_))))));obtain⟨rfl,rfl⟩:=Prod.mk.inj (Option.some.inj hm);exact EndsT.two Q (.d _) (.refl _) (.d _) (.refl _)
 replace hm:=JB h8 hm;refine TS (WT (WN [2,3] Q Q (RS (s_litO (f:=(D.int .u64)) 2 [.const (Value.int IntKind.u64 0),.const (Value.int IntKind.u64 1)] ([(0:Int),(1:Int)]:List Int) TK Q Q Q tB Q Q Q Q Q (SA TK Q (TN (WN [2,3,6] Q Q (vQ 1 Q Q Q Q Q ?_))))))));refine vQ 0 Q Q Q Q Q (RS (SA TK Q (SA TK Q (TN (WN [2,6,7] Q Q ?_)))));refine aT hm (λb9=>([(6,.msl 2 1 0 b9.length)]:Fr)) (λb9=>([(2,.flat 39 1 (b9.map (D.int .u64)))]:List (Nat×Blk))) [6] [2,7] Q (λz10 hm=>?_) (λb9 hm=>?_)
 ·refine RS (SA TK Q (SA TK Q (SX Q Q (dA TK Q Q Q) (SA TK Q (TN (WN [2,6,7,30,31,32] Q Q (TB (fX hm (λ(x14,b15)=>([(6,.msl 2 1 0 b15.length),(32,.d (.int .i64 x14))]:Fr)) (λ(x14,b15)=>([(2,.flat 39 1 (b15.map (D.int .u64)))]:List (Nat×Blk))) [6,32] [2,7,30,31] [0,1,2] Q k0 Q Q Q Q Q (λs z16 hm hz16=>?_)))))))));obtain⟨x14,b15⟩:=s;refine WN [2,6,7,30,31,32] Q Q (RS (SA TK Q (TN (WN [2,6,7,30,31,32,33] Q Q (TQ ?_)))));refine TC _ Q (λh17=>?_) (λh17=>?_)
  ·replace hm:=JT h17 hm;refine TS (WT (WN [2,6,7,30,31,32] Q Q (TQ (TB (RS (VE hm λe18 he18 hm=>SX Q Q (gO TK Q Q Q Q he18) (SA TK Q ?_)))))));refine cM 3 Q Q bD Q (SA TK Q (TN (WN [2,6,7,9,30,31,32] Q Q (aO follows  ?_))));iterate 3 (refine DA [0,1,2,3] TK Q ?_)
   refine VE hm λe19 he19 hm=>DX [0,1,2,3] Q Q (pB TK Q Q Q Q he19 Q) (DX [0,1,2,3] Q Q (uR TK Q Q Q Q he19.2 Q) ?_);iterate 3 (refine DA [0,1,2,3] TK Q ?_)
   refine BE hm λr20 hr20 hm=>DX [0,1,2,3] Q Q (nJ (ds:=[.int .i64 e18.lo]) Q Q Q Q ((fG hr20).retD)) ?_;iterate 2 (refine DA [0,1,2,3] TK Q ?_)
   refine GE hm λg21 hm=>DX [0,1,2,3] Q Q (cK Q Q Q Q g21) (GE hm λg22 hm=>DX [0,1,2,3] Q Q (cK Q Q Q Q g22) (GE hm λg23 hm=>DX [0,1,2,3] Q Q (wV Q Q Q Q g23) ?_));refine DT ?_ (by kernel_rfl);refine SA TK Q (TN (WN [2,6,7,9,10,30,31,32] Q Q (aO follows  ?_)));iterate 3 (refine DA [0,1,2,3] TK Q ?_)
   refine VE hm λe24 he24 hm=>DX [0,1,2,3] Q Q (pB TK Q Q Q Q he24 Q) (DX [0,1,2,3] Q Q (uR TK Q Q Q Q he24.2 Q) ?_);iterate 3 (refine DA [0,1,2,3] TK Q ?_)
   refine BE hm λr25 hr25 hm=>DX [0,1,2,3] Q Q (nJ (ds:=[.int .i64 e18.hi]) Q Q Q Q ((fG hr25).retD)) ?_;iterate 2 (refine DA [0,1,2,3] TK Q ?_)
   refine GE hm λg26 hm=>DX [0,1,2,3] Q Q (cK Q Q Q Q g26) (GE hm λg27 hm=>DX [0,1,2,3] Q Q (cK Q Q Q Q g27) (GE hm λg28 hm=>DX [0,1,2,3] Q Q (wV Q Q Q Q g28) ?_));refine DT ?_ (by kernel_rfl);refine SA TK Q (TN (WN [2,6,7,10,11,30,31,32] Q Q (TG (SA TK Q (SA TK Q (SA TK Q (SX Q Q (uS Q Q Q Q) (SX Q Q (jR [.tmp 67] TK Q Q tB Q Q Q Q Q) (GE hm λg29 hm=>jW (f:=(D.int .u64)) ([(IntKind.u64.wrap ((IntKind.u64.wrap (e19 * (2 ^ (min ((r20 - e18.var) - (1:Int)).toNat IntKind.u64.bits))))+(IntKind.u64.wrap (e24 * (2 ^ (min ((r25 - e18.var) - (1:Int)).toNat IntKind.u64.bits))))))]:List Int) TK Q Q tB Q Q Q Q Q (λh=>absurd h (zQV _)) Q iX g29 Q Q ?_)))))))));refine SA TK Q (TN (WK (WT (WN [2,6,7,30,31,32] Q Q (TG (GE hm λg30 hm=>SX Q Q (cK Q Q Q Q g30) (SA TK Q ?_)))))));refine TN (WT ?_);exact⟨_,[0,1,2],(SJ hm),Q,k0,Q⟩
  replace hm:=JF h17 hm;refine dJ (WX (IE hm λv31 hm hz=>?_));rw [hz16 _ hz] at hm;refine WX (WH (WT ?_));exact⟨_,[0,1,2],(SJ hm),Q,k0,Q⟩
 refine WN [2,6,7] Q Q (aO follows  ?_);iterate 3 (refine DA [0,1,2] TK Q ?_)
 refine VE hm λe32 he32 hm=>DX [0,1,2] Q Q (pB TK Q Q Q Q he32 Q) (DX [0,1,2] Q Q (uR TK Q Q Q Q he32.2 Q) ?_);iterate 3 (refine DA [0,1,2] TK Q ?_)
 refine BE hm λr33 hr33 hm=>DX [0,1,2] Q Q (nJ (ds:=[.int .i64 p0.root]) Q Q Q Q ((fG hr33).retD)) (GE hm λg34 hm=>DX [0,1,2] Q Q (wV Q Q Q Q g34) ?_);refine DT ?_ (by kernel_rfl);refine SA TK Q (SA TK Q (TN (WN [4,5] Q Q (TR ?_))));obtain⟨rfl,rfl⟩:=Prod.mk.inj (Option.some.inj hm);exact EndsT.two Q (.d _) (.refl _) (.d _) (.refl _)
theorem sX {p0:Diagram} {p1:Int} {r0:(List Bool)} {r1:Bool} (hm:lP p0 p1=some (r0,r1)):RetT Try.prog 15 [p0.enc,.int .i64 p1] [.sl 1 (r0.map D.bool),.bool (r1)]:=by
 refine .of (mv:=λ_=>false) (cN qBO Try.func15 Q Try.ntmps15 Q Q (λwX gX=>?_));unfold lP at hm;refine WN [0,1] Q Q (RS (cS 0 Q Q Q (SA TK Q (SA TK Q (TN (WN [1,2] Q Q (TQ ?_)))))));refine aT hm (λx1=>([(30,.d (.bool (x1)))]:Fr)) (λx1=>([]:List (Nat×Blk))) [30] [1,2] Q (λz2 hm=>?_) (λx1 hm=>?_)
 ·refine TG (SA TK Q (SA TK Q (SB TK Q (λq3 hq3=>?_))));cases q3
  ·replace hm:=JF hq3 hm;refine SA TK Q (SA TK Q (SA TK Q (SB TK Q (λq4 hq4=>?_))));cases q4
   ·replace hm:=JF hq4 hm;refine SA TK Q (BE hm λr5 hr5 hm=>SX Q Q (RN Q Q (SC (.d _) SN) (bU hr5)) (SA TK Q (SA TK Q (SB TK Q (λq6 hq6=>?_)))));cases q6
    ·replace hm:=JB hq6 hm;refine SA TK Q (SA TK Q (BE hm λr7 hr7 hm=>SX Q Q (RN Q Q (SC (.d _) (SC (.d _) SN)) (mC hr7)) (SA TK Q (SA TK Q (SB TK Q (λq8 hq8=>?_))))));cases q8
     ·replace hm:=JB hq8 hm;iterate 4 (refine SA TK Q ?_)
      refine TN (WT ?_);exact⟨_,[0],(SJ hm),Q,k0,Q⟩
     replace hm:=JA hq8 hm;iterate 4 (refine SA TK Q ?_)
     refine TN (WT ?_);exact⟨_,[0],(SJ hm),Q,k0,Q⟩
    replace hm:=JA hq6 hm;iterate 10 (refine SA TK Q ?_)
    refine TN (WT ?_);exact⟨_,[0],(SJ hm),Q,k0,Q⟩
   replace hm:=JT hq4 hm;iterate 15 (refine SA TK Q ?_)
   refine TN (WT ?_);exact⟨_,[0],(SJ hm),Q,k0,Q⟩
  replace hm:=JT hq3 hm;iterate 19 (refine SA TK Q ?_)
  refine TN (WT ?_);exact⟨_,[0],(SJ hm),Q,k0,Q⟩
 refine WN [1,2,30] Q Q ?_;refine TC _ Q (λh9=>?_) (λh9=>?_)
 ·replace hm:=JA h9 hm;refine RS (SA TK Q (SA TK Q (TN (c_wk 4 [some 1] Q (WN [4,5] Q Q (TR (WR ?_)))))));obtain⟨rfl,rfl⟩:=Prod.mk.inj (Option.some.inj hm);exact EndsT.two Q (.d _) (.refl _) (.d _) (.refl _)
 replace hm:=JB h9 hm;refine TS (WT (WN [1,2] Q Q (RS (SA TK Q (GE hm λg10 hm=>qCF (f:=D.bool) (x:=false) 1 TK Q Q Q qCC Q Q Q Q Q g10 Q (SA TK Q (TN ?_)))))));refine WN [2,6] Q Q (RS (SA TK Q (SA TK Q (SA TK Q (TN (WN [2,6,7] Q Q ?_))))));refine aT hm (λb11=>([(6,.msl 1 1 0 b11.length)]:Fr)) (λb11=>([(1,.flat 4 1 (b11.map D.bool))]:List (Nat×Blk))) [6] [] Q (λz12 hm=>?_) (λb11 hm=>?_)
 ·refine TB (fX hm (λ(at16,b17)=>([(6,.msl 1 1 0 b17.length),(7,.d (.int .i64 at16))]:Fr)) (λ(at16,b17)=>([(1,.flat 4 1 (b17.map D.bool))]:List (Nat×Blk))) [6,7] [2] [0,1] Q k0 Q Q Q Q Q (λs z18 hm hz18=>?_));obtain⟨at16,b17⟩:=s;refine WN [2,6,7] Q Q (TQ (RS (SA TK Q (SA TK Q (TN (WN [2,6,7,36] Q Q ?_))))));refine TC _ Q (λh19=>?_) (λh19=>?_)
  ·replace hm:=JT h19 hm;refine TS (WT (WN [2,6,7] Q Q (TB (RS (SA TK Q (SA TK Q (SA TK Q (GE hm λg20 hm=>SX Q Q (cK Q Q Q Q g20) (VE hm λe21 he21 hm=>?_)))))))));refine SX Q Q (gO TK Q Q Q Q he21) (SA TK Q (cM 2 Q Q bD Q (SA TK Q (TN (WN [2,6,8] Q Q (RS (SA TK Q (SA TK Q (SA TK Q (TN ?_))))))))));refine WN [2,6,8,45] Q Q ?_;refine TC _ Q (λh22=>?_) (λh22=>?_)
   ·replace hm:=jM h22 hm;refine TG (SA TK Q (SA TK Q (SA TK Q (TN (WK (WT ?_))))));exact⟨_,[0,1],(SJ hm),Q,k0,Q⟩
   replace hm:=jN h22 hm;refine RS (SA TK Q (SA TK Q (SA TK Q (VE hm λe23 he23 hm=>SX Q Q (pB TK Q Q Q Q he23 Q) (qCE (x':=true) TK Q Q Q Q Q he23.2 Q Q Q (xN 6 (b17.set e21.var.toNat true).length Q List.length_set.symm (xN 48 (b17.set e21.var.toNat true).length Q List.length_set.symm (TN (WN [2,6,8] Q Q ?_)))))))));refine TG (SA TK Q (SA TK Q (SA TK Q (TN (WK (WT ?_))))));exact⟨_,[0,1],(SJ hm),Q,k0,Q⟩
  replace hm:=JF h19 hm;refine dJ (WX (IE hm λv24 hm hz=>?_));rw [hz18 _ hz] at hm;refine WX (WH (WT ?_));exact⟨_,[0,1],(SJ hm),Q,k0,Q⟩
 refine WN [6] Q Q (RS (SA TK Q (SA TK Q (SA TK Q (TN (WN [4,5] Q Q (TR ?_)))))));obtain⟨rfl,rfl⟩:=Prod.mk.inj (Option.some.inj hm);exact EndsT.two Q (mZ Q) (.refl _) (.d _) (.refl _)
theorem eN {p0:Diagram} {p1:Diagram} {r:Bool} (hm:bP p0 p1=some r):RetN Try.prog 13 [p0.enc,p1.enc] (.bool (r)):=by
 refine .unit (aY qBQ Try.func13 Q Try.ntmps13 Q Q (λwX gX=>?_)) Q;unfold bP at hm;refine WN [0,1] Q Q (RS (cS 0 Q Q Q (cS 1 Q Q Q (SA TK Q (TN (WN [2,3] Q Q (TQ ?_)))))));refine iV [(19,.d (.bool (((!(decide ((p0.nodes.length:Int)=(p1.nodes.length:Int))))||(!(decide (p0.root=p1.root)))))))] [19] [2,3] Q ?_ ?_
 ·refine TG (SA TK Q (SA TK Q (SX Q Q (dA TK Q Q Q) (SA TK Q (SA TK Q (SX Q Q (dA TK Q Q Q) (SA TK Q (SB TK Q (λq1 hq1=>?_)))))))));cases q1
  ·iterate 6 (refine SA TK Q ?_)
   refine TN (WT ?_);exact⟨[0,1],Q,k0,bZ (aW (aX (by simp [hq1])) Q) Q⟩
  iterate 6 (refine SA TK Q ?_)
  refine TN (WT ?_);exact⟨[0,1],Q,k0,bZ (aW (aX (by simp [hq1])) Q) Q⟩
 refine WN [2,3,19] Q Q ?_;refine TC _ Q (λh2=>?_) (λh2=>?_)
 ·replace hm:=JA h2 hm;refine RS (SA TK Q (TN (WN [4] Q Q (TR (WR ?_)))));obtain rfl:=OJ hm;exact EndsS.one _ Q (.d _) (.refl _)
 replace hm:=JB h2 hm;refine TS (WT (WN [2,3] Q Q ?_));refine fY hm (λ_=>([]:Fr)) (λ_=>([]:List (Nat×Blk))) [] [] Q (λz3 hm hz3=>?_) (λj hm=>?_)
 ·refine RS (SA TK Q (SA TK Q (SX Q Q (dA TK Q Q Q) (SA TK Q (TN (WN [2,3,22,23] Q Q (TB (fX hm (λx5=>([(23,.d (.int .i64 x5))]:Fr)) (λx5=>([]:List (Nat×Blk))) [23] [2,3,22] [0,1] Q k0 Q Q Q Q Q (λx5 z6 hm hz6=>WN [2,3,22,23] Q Q ?_)))))))));refine RS (SA TK Q (TN (WN [2,3,22,23,24] Q Q (TQ ?_))));refine TC _ Q (λh7=>?_) (λh7=>?_)
  ·replace hm:=JT h7 hm;refine TS (WT (WN [2,3,22,23] Q Q (TQ (TB (RS (SA TK Q (SA TK Q (TN (WN [2,3,5,22,23] Q Q ?_)))))))));refine aO follows  ?_;iterate 3 (refine DA [0,1] TK Q ?_)
   refine VE hm λe8 he8 hm=>DX [0,1] Q Q (gO TK Q Q Q Q he8) ?_;iterate 4 (refine DA [0,1] TK Q ?_)
   refine VE hm λe9 he9 hm=>DX [0,1] Q Q (gO TK Q Q Q Q he9) (DA [0,1] TK Q (GE hm λg10 hm=>DX [0,1] Q Q (qCA Q Q Q g10.1 g10.2) ?_));refine DT ?_ (by kernel_rfl);refine TN (WN [2,3,22,23,36] Q Q ?_);refine TC _ Q (λh12=>?_) (λh12=>?_)
   ·replace hm:=jM h12 hm;refine RS (SA TK Q (TN (WN [4] Q Q (TR (WB (WR (IE hm λv13 hm hz=>?_)))))));rw [hz6 _ hz] at hm;refine WR (WB (IE hm λv14 hm hz=>?_));rw [hz3 _ hz] at hm;refine WR ?_;obtain rfl:=OJ hm;exact EndsS.one _ Q (.d _) (.refl _)
   replace hm:=jN h12 hm;refine TS (WK (WT (WN [2,3,22,23] Q Q (TG (GE hm λg15 hm=>SX Q Q (cK Q Q Q Q g15) (SA TK Q (TN ?_)))))));refine WT ?_;exact⟨_,[0,1],(SJ hm),Q,k0,Q⟩
  replace hm:=JF h7 hm;refine dJ (WX (IE hm λv16 hm hz=>?_));rw [hz6 _ hz] at hm;refine WX (WH (WT ?_));exact⟨_,[0,1],(SJ hm),Q,k0,Q⟩
 refine WN [] Q Q (RS (SA TK Q (TN (WN [4] Q Q (TR ?_)))));obtain rfl:=OJ hm;exact EndsS.one _ Q (.d _) (.refl _)
theorem jB  {r:Bool} (hm:eH=some r):RetN Try.prog 10 [] (.bool (r)):=by
 refine .unit (aY qBS Try.func10 Q Try.ntmps10 Q Q (λwX gX=>?_)) Q;unfold eH at hm;refine WN [] Q Q (RS (SA TK Q (TN (WN [] Q Q (RS (BE hm λr1 hr1 hm=>SX Q Q (RD Q Q Q (nX hr1)) (BE hm λr2 hr2 hm=>?_)))))));refine SX Q Q (RD Q Q Q (nX hr2)) (SX Q Q (x_litE (f:=Expr.encR) (xs:=([r1,r2]:List Expr)) [.tmp 8,.tmp 9] TK Q Q mV Q (evD_of Q (pL (Expr.encR_eq _) (pL (Expr.encR_eq _) yO))) Q (wI Expr.encR_cells) Q) (SX Q Q (bB Q qCG mV Q Q Q Q) (BE hm λr3 hr3 hm=>?_)));obtain⟨r4,r5⟩:=r3;refine SX Q Q (bO Q Q Q (zC hr3)) (SA TK Q (SA TK Q (SA TK Q (cM 0 Q Q aQ Q (dL 0 [some 3,none] Q Q (SA TK Q (SA TK Q (TN (WN [1,2] Q Q (RS (SA TK Q ?_)))))))))));refine BE hm λr6 hr6 hm=>?_;obtain⟨r7,r8⟩:=r6;refine SX Q Q (bO Q Q Q (iB hr6)) ?_;iterate 5 (refine SA TK Q ?_)
 refine TN (WN [1,2,3,4] Q Q (RS (SA TK Q (BE hm λr9 hr9 hm=>?_))));obtain⟨r10,r11⟩:=r9;refine SX Q Q (bO Q Q Q (sX hr9)) ?_;iterate 5 (refine SA TK Q ?_)
 refine TN (WN [1,2,3,4,5,6] Q Q ?_);refine aT hm (λx12=>([(0,.d (.bool (x12)))]:Fr)) (λx12=>([]:List (Nat×Blk))) [0] [] Q (λz13 hm=>?_) (λx12 hm=>?_)
 ·refine TG (SA TK Q (SA TK Q (SB TK Q (λq14 hq14=>?_))));cases q14
  ·replace hm:=JF hq14 hm;iterate 38 (refine SA TK Q ?_)
   refine TN (WT ?_);exact⟨_,[0],(SJ hm),Q,k0,Q⟩
  replace hm:=JT hq14 hm;refine SA TK Q (SA TK Q (SA TK Q (SB TK Q (λq15 hq15=>?_))));cases q15
  ·replace hm:=JF hq15 hm;iterate 34 (refine SA TK Q ?_)
   refine TN (WT ?_);exact⟨_,[0],(SJ hm),Q,k0,Q⟩
  replace hm:=JT hq15 hm;refine SA TK Q (SA TK Q (SA TK Q (SB TK Q (λq16 hq16=>?_))));cases q16
  ·replace hm:=JF hq16 hm;iterate 30 (refine SA TK Q ?_)
   refine TN (WT ?_);exact⟨_,[0],(SJ hm),Q,k0,Q⟩
  replace hm:=JT hq16 hm;refine SA TK Q (SA TK Q (SB TK Q (λq17 hq17=>?_)));cases q17
  ·replace hm:=JB hq17 hm;iterate 27 (refine SA TK Q ?_)
   refine TN (WT ?_);exact⟨_,[0],(SJ hm),Q,k0,Q⟩
  replace hm:=JA hq17 hm;refine SA TK Q (SX Q Q (dA TK Q Q Q) (SA TK Q (SA TK Q (SB TK Q (λq18 hq18=>?_)))));cases q18
  ·replace hm:=JF hq18 hm;iterate 22 (refine SA TK Q ?_)
   refine TN (WT ?_);exact⟨_,[0],(SJ hm),Q,k0,Q⟩
  replace hm:=JT hq18 hm;refine SA TK Q (VE hm λe19 he19 hm=>SX Q Q (gO TK Q Q Q Q he19) (SA TK Q (SA TK Q (SB TK Q (λq20 hq20=>?_)))));cases q20
  ·replace hm:=JB hq20 hm;iterate 17 (refine SA TK Q ?_)
   refine TN (WT ?_);exact⟨_,[0],(SJ hm),Q,k0,Q⟩
  replace hm:=JA hq20 hm;refine SA TK Q (VE hm λe21 he21 hm=>SX Q Q (gO TK Q Q Q Q he21) (SA TK Q (SA TK Q (SB TK Q (λq22 hq22=>?_)))));cases q22
  ·replace hm:=JB hq22 hm;iterate 12 (refine SA TK Q ?_)
   refine TN (WT ?_);exact⟨_,[0],(SJ hm),Q,k0,Q⟩
  replace hm:=JA hq22 hm;refine SA TK Q (SX Q Q (bB Q rT bD Q Q Q Q) (SX Q Q (bB Q rT bD Q Q Q Q) (SX Q Q (jR [.tmp 55,.tmp 56] TK Q Q bD Q Q Q Q Q) (SX Q Q (bB Q eL aQ Q Q Q Q) (BE hm λr23 hr23 hm=>SX Q Q (RN Q Q (SC (.d _) (SC (.d _) SN)) (eN hr23)) (SA TK Q (SB TK Q (λq24 hq24=>?_))))))));cases q24
  ·replace hm:=JB hq24 hm;iterate 4 (refine SA TK Q ?_)
   refine TN (WT ?_);exact⟨_,[0],(SJ hm),Q,k0,Q⟩
  replace hm:=JA hq24 hm;refine SA TK Q (BE hm λr25 hr25 hm=>SX Q Q (RN Q Q (SC (.d _) SN) (bU hr25)) (SA TK Q (SA TK Q (TN (WT ?_)))));exact⟨_,[0],(SJ hm),Q,k0,Q⟩
 refine WN [0] Q Q (TR ?_);obtain rfl:=OJ hm;exact EndsS.one _ Q (.d _) (.refl _)
theorem oS {p0:Diagram} {r:Int} (hm:eC p0=some r):RetN Try.prog 37 [p0.enc] (.int .i64 r):=by
 refine .unit (aY qBF Try.func37 Q Try.ntmps37 Q Q (λwX gX=>?_)) Q;unfold eC at hm;refine WN [0] Q Q (RS (cS 0 Q Q Q (SA TK Q (TN (WN [1] Q Q (RS (SA TK Q (TN ?_))))))));refine WN [1,3] Q Q ?_;refine aT hm (λw1=>([(3,.d (.int .i64 w1))]:Fr)) (λw1=>([]:List (Nat×Blk))) [3] [] Q (λz2 hm=>?_) (λw1 hm=>?_)
 ·refine RS (SA TK Q (SA TK Q (SX Q Q (dA TK Q Q Q) (SA TK Q (TN (WN [3,7,8,9] Q Q (TB (fX hm (λ(w5,x6)=>([(3,.d (.int .i64 w5)),(9,.d (.int .i64 x6))]:Fr)) (λ(w5,x6)=>([]:List (Nat×Blk))) [3,9] [7,8] [0] Q k0 Q Q Q Q Q (λs z7 hm hz7=>?_)))))))));obtain⟨w5,x6⟩:=s;refine WN [3,7,8,9] Q Q (RS (SA TK Q (TN (WN [3,7,8,9,10] Q Q (TQ ?_)))));refine TC _ Q (λh8=>?_) (λh8=>?_)
  ·replace hm:=JT h8 hm;refine TS (WT (WN [3,7,8,9] Q Q (TQ (TB (RS (VE hm λe9 he9 hm=>SX Q Q (gO TK Q Q Q Q he9) (SA TK Q ?_)))))));refine cM 1 Q Q bD Q (SA TK Q (TN (WN [3,5,7,8,9] Q Q (TG (SA TK Q (SA TK Q (SA TK Q (SX Q Q (uS Q Q Q Q) (SX Q Q (rd_max Q Q Q Q) (SA TK Q ?_))))))))));refine TN (WK (WT (WN [3,7,8,9] Q Q (TG (SX Q Q (uS Q Q Q Q) (SA TK Q (TN (WT ?_))))))));exact⟨_,[0],(SJ hm),Q,k0,Q⟩
  replace hm:=JF h8 hm;refine dJ (WX (IE hm λv10 hm hz=>?_));rw [hz7 _ hz] at hm;refine WX (WH (WT ?_));exact⟨_,[0],(SJ hm),Q,k0,Q⟩
 refine WN [3] Q Q (RS (SA TK Q (SA TK Q (TN (WN [2] Q Q (TR ?_))))));obtain rfl:=OJ hm;exact EndsS.one _ Q (.d _) (.refl _)
theorem jA {p0:Diagram} {r:Bool} (hm:dD p0=some r):RetN Try.prog 14 [p0.enc] (.bool (r)):=by
 refine .unit (aY qBP Try.func14 Q Try.ntmps14 Q Q (λwX gX=>?_)) Q;unfold dD at hm;refine WN [0] Q Q (RS (cS 0 Q Q Q (SA TK Q (TN (WN [1] Q Q ?_)))));refine aT hm (λx1=>([(2,.d (.bool (x1)))]:Fr)) (λx1=>([]:List (Nat×Blk))) [2] [] Q (λz2 hm=>?_) (λx1 hm=>?_)
 ·refine TG (SA TK Q (SA TK Q (SX Q Q (dA TK Q Q Q) (SA TK Q (SB TK Q (λq3 hq3=>?_))))));cases q3
  ·replace hm:=JF hq3 hm;iterate 5 (refine SA TK Q ?_)
   refine TN (WT ?_);exact⟨_,[0],(SJ hm),Q,k0,Q⟩
  replace hm:=JT hq3 hm;refine SA TK Q (BE hm λr4 hr4 hm=>SX Q Q (RN Q Q (SC (.d _) SN) (oS hr4)) (SA TK Q (SA TK Q (SA TK Q (TN (WT ?_))))));exact⟨_,[0],(SJ hm),Q,k0,Q⟩
 refine WN [2] Q Q (TR ?_);obtain rfl:=OJ hm;exact EndsS.one _ Q (.d _) (.refl _)
theorem oN {p0:Diagram} {p1:Diagram} {p2:Bool} {r0:Diagram} {r1:Int} (hm:fU p0 p1 p2=some (r0,r1)):RetT Try.prog 48 [p0.enc,p1.enc,.bool (p2)] [r0.enc,.int .i64 r1]:=by
 refine .of (mv:=λ_=>false) (cN qBA Try.func48 Q Try.ntmps48 Q Q (λwX gX=>?_));unfold fU at hm;refine WN [0,1,2] Q Q (RS (cS 0 Q Q Q (cS 1 Q Q Q (cM 2 Q Q aQ Q (dL 2 [some 3,none] Q Q (SA TK Q (TN (WN [2,3,4,6] Q Q ?_))))))));refine TQ ?_;refine aT hm (λx1=>([(17,.d (.bool (x1)))]:Fr)) (λx1=>([]:List (Nat×Blk))) [17] [2,3,4,6] Q (λz2 hm=>?_) (λx1 hm=>?_)
 ·refine TG (SA TK Q (BE hm λr3 hr3 hm=>SX Q Q (RN Q Q (SC (.d _) SN) (bU hr3)) (SA TK Q (SB TK Q (λq4 hq4=>?_)))));cases q4
  ·replace hm:=JB hq4 hm;refine SA TK Q (BE hm λr5 hr5 hm=>SX Q Q (RN Q Q (SC (.d _) SN) (bU hr5)) (SA TK Q (SA TK Q (TN (WT ?_)))));exact⟨_,[0,1,2],(SJ hm),Q,k0,Q⟩
  replace hm:=JA hq4 hm;iterate 4 (refine SA TK Q ?_)
  refine TN (WT ?_);exact⟨_,[0,1,2],(SJ hm),Q,k0,Q⟩
 refine WN [2,3,4,6,17] Q Q ?_;refine TC _ Q (λh6=>?_) (λh6=>?_)
 ·replace hm:=JA h6 hm;refine RS (SX Q Q (bB Q eL aQ Q Q Q Q) (kX 18 [some 3,none] Q (SA TK Q (SA TK Q (TN (WN [6,7] Q Q (TR (WR ?_))))))));obtain⟨rfl,rfl⟩:=Prod.mk.inj (Option.some.inj hm);exact⟨_,.mk _ (.cons (.agg (TK.lay Q) Q Q Q Q) (.cons (.tmp 7) .nil)) Q,(.cons (.d _) (.refl _) (.cons (.d _) (.refl _) .nil))⟩
 replace hm:=JB h6 hm;refine TS (WT (WN [2,3,4,6] Q Q (RS (SA TK Q (SA TK Q (SA TK Q (BE hm λr7 hr7 hm=>?_)))))));obtain⟨r8,r9⟩:=r7;refine SX Q Q (bO Q Q Q (jF hr7)) (SA TK Q (SA TK Q (SA TK Q (cM 3 Q Q aQ Q (dL 3 [some 3,none] Q Q (SA TK Q (SA TK Q (TN (WN [6,8,9] Q Q (TQ (RS ?_)))))))))));refine SA TK Q (SA TK Q (TN (WN [6,8,27] Q Q ?_)));refine TC _ Q (λh10=>?_) (λh10=>?_)
 ·replace hm:=JA h10 hm;refine RS (SX Q Q (bB Q eL aQ Q Q Q Q) (kX 28 [some 3,none] Q (SA TK Q (SA TK Q (TN (WN [6,7] Q Q (TR (WR ?_))))))));obtain⟨rfl,rfl⟩:=Prod.mk.inj (Option.some.inj hm);exact⟨_,.mk _ (.cons (.agg (TK.lay Q) Q Q Q Q) (.cons (.tmp 7) .nil)) Q,(.cons (.d _) (.refl _) (.cons (.d _) (.refl _) .nil))⟩
 replace hm:=JB h10 hm;refine TS (WT (WN [6,8] Q Q (RS (SA TK Q (SA TK Q (SA TK Q (TN (WN [6,7] Q Q (TR ?_)))))))));obtain⟨rfl,rfl⟩:=Prod.mk.inj (Option.some.inj hm);exact⟨_,.mk _ (.cons (.agg (TK.lay Q) Q Q Q Q) (.cons (.tmp 7) .nil)) Q,(.cons (.d _) (.refl _) (.cons (.d _) (.refl _) .nil))⟩
theorem pN {p0:Diagram} {p1:Diagram} {r0:Diagram} {r1:Int} (hm:kQ p0 p1=some (r0,r1)):RetT Try.prog 25 [p0.enc,p1.enc] [r0.enc,.int .i64 r1]:=by
 refine .of (mv:=λ_=>false) (cN qBL Try.func25 Q Try.ntmps25 Q Q (λwX gX=>?_));unfold kQ at hm;refine WN [0,1] Q Q (RS (cS 0 Q Q Q (cS 1 Q Q Q (cM 2 Q Q aQ Q (dL 2 [some 3,none] Q Q (SA TK Q (TN (WN [2,3,4] Q Q ?_))))))));refine RS (SA TK Q (SA TK Q (BE hm λr1 hr1 hm=>?_)));obtain⟨r2,r3⟩:=r1;refine SX Q Q (bO Q Q Q (oN hr1)) ?_;iterate 4 (refine SA TK Q ?_)
 refine TN (WN [4,5] Q Q (TR ?_));obtain⟨rfl,rfl⟩:=Prod.mk.inj (Option.some.inj hm);exact⟨_,.mk _ (.cons (.agg (TK.lay Q) Q Q Q Q) (.cons (.tmp 5) .nil)) Q,(.cons (.d _) (.refl _) (.cons (.d _) (.refl _) .nil))⟩
theorem zB {p0:Diagram} {p1:Diagram} {r0:Diagram} {r1:Int} (hm:qX p0 p1=some (r0,r1)):RetT Try.prog 27 [p0.enc,p1.enc] [r0.enc,.int .i64 r1]:=by
 refine .of (mv:=λ_=>false) (cN qBK Try.func27 Q Try.ntmps27 Q Q (λwX gX=>?_));unfold qX at hm;refine WN [0,1] Q Q (RS (cS 0 Q Q Q (cS 1 Q Q Q (cM 2 Q Q aQ Q (dL 2 [some 3,none] Q Q (SA TK Q (TN (WN [2,3,4] Q Q ?_))))))));refine RS (SA TK Q (SA TK Q (BE hm λr1 hr1 hm=>?_)));obtain⟨r2,r3⟩:=r1;refine SX Q Q (bO Q Q Q (oN hr1)) ?_;iterate 4 (refine SA TK Q ?_)
 refine TN (WN [4,5] Q Q (TR ?_));obtain⟨rfl,rfl⟩:=Prod.mk.inj (Option.some.inj hm);exact⟨_,.mk _ (.cons (.agg (TK.lay Q) Q Q Q Q) (.cons (.tmp 5) .nil)) Q,(.cons (.d _) (.refl _) (.cons (.d _) (.refl _) .nil))⟩
theorem eT {p0:Diagram} {r:Diagram} (hm:eA p0=some r):RetD Try.prog 29 [p0.enc] (r.enc):=by
 refine .of (mv:=λ_=>false) (aY qBJ Try.func29 Q Try.ntmps29 Q Q (λwX gX=>?_));unfold eA at hm;refine WN [0] Q Q (RS (cS 0 Q Q Q (cM 1 Q Q aQ Q (dL 1 [some 3,none] Q Q (TN (WN [1,2] Q Q (TQ (RS ?_))))))));refine SA TK Q (BE hm λr1 hr1 hm=>SX Q Q (RN Q Q (SC (.d _) SN) (bU hr1)) (SA TK Q (TN (WN [1,2,5] Q Q ?_))));refine TC _ Q (λh2=>?_) (λh2=>?_)
 ·replace hm:=JA h2 hm;refine RS (SX Q Q (bB Q eL aQ Q Q Q Q) (kX 6 [some 3,none] Q (SA TK Q (TN (WN [2] Q Q (TR (WR ?_)))))));obtain rfl:=OJ hm;exact EndsS.cellR _ TK Q Q Q Q Q (.d _)
 replace hm:=JB h2 hm;refine TS (WT (WN [1,2] Q Q (RS (SA TK Q (BE hm λr3 hr3 hm=>SX Q Q (RD Q Q Q (hU hr3)) (SA TK Q (TN ?_)))))));refine WN [2] Q Q (TR ?_);obtain rfl:=OJ hm;exact EndsS.cellR _ TK Q Q Q Q Q (.d _)
theorem jL {p0:Diagram} {p1:Diagram} {r:Bool} (hm:cP p0 p1=some r):Ret Try.prog 8 [] (λ_=>false) ([p0.enc,p1.enc].map .d) (.d (.bool (r))) []:=by
 refine aY callB8 Try.func8 Q Try.ntmps8 Q Q (λwX gX=>?_);unfold cP at hm;refine WN [0,1] Q Q (RS (cS 0 Q Q Q (cS 1 Q Q Q (SA TK Q (TN (WN [2,3] Q Q (TQ ?_)))))));refine aT hm (λx1=>([(32,.d (.bool (x1)))]:Fr)) (λx1=>([]:List (Nat×Blk))) [32] [2,3] Q (λz2 hm=>?_) (λx1 hm=>?_)
 ·refine TG (SA TK Q (BE hm λr3 hr3 hm=>SX Q Q (RN Q Q (SC (.d _) SN) (jA hr3)) (SA TK Q (SB TK Q (λq4 hq4=>?_)))));cases q4
  ·replace hm:=JB hq4 hm;refine SA TK Q (BE hm λr5 hr5 hm=>SX Q Q (RN Q Q (SC (.d _) SN) (jA hr5)) (SA TK Q (SA TK Q (SB TK Q (λq6 hq6=>?_)))));cases q6
   ·replace hm:=JB hq6 hm;refine SA TK Q (BE hm λr7 hr7 hm=>SX Q Q (RN Q Q (SC (.d _) SN) (bU hr7)) (SA TK Q (SA TK Q (SB TK Q (λq8 hq8=>?_)))));cases q8
    ·replace hm:=JB hq8 hm;refine SA TK Q (BE hm λr9 hr9 hm=>SX Q Q (RN Q Q (SC (.d _) SN) (bU hr9)) (SA TK Q (SA TK Q (TN (WT ?_)))));exact⟨_,[0,1],(SJ hm),Q,k0,Q⟩
    replace hm:=JA hq8 hm;iterate 4 (refine SA TK Q ?_)
    refine TN (WT ?_);exact⟨_,[0,1],(SJ hm),Q,k0,Q⟩
   replace hm:=JA hq6 hm;iterate 9 (refine SA TK Q ?_)
   refine TN (WT ?_);exact⟨_,[0,1],(SJ hm),Q,k0,Q⟩
  replace hm:=JA hq4 hm;iterate 14 (refine SA TK Q ?_)
  refine TN (WT ?_);exact⟨_,[0,1],(SJ hm),Q,k0,Q⟩
 refine WN [2,3,32] Q Q ?_;refine TC _ Q (λh10=>?_) (λh10=>?_)
 ·replace hm:=JA h10 hm;refine RS (BE hm λr11 hr11 hm=>SX Q Q (RN Q Q SN (jB hr11)) (SA TK Q (TN (WN [4] Q Q (TR (WR ?_))))));obtain rfl:=OJ hm;exact EndsS.one _ Q (.d _) (.refl _)
 replace hm:=JB h10 hm;refine TS (WT (WN [2,3] Q Q (RS (SA TK Q (SA TK Q (BE hm λr12 hr12 hm=>?_))))));obtain⟨r13,r14⟩:=r12;refine SX Q Q (bO Q Q Q (pN hr12)) (SA TK Q (SA TK Q (SA TK Q (cM 2 Q Q aQ Q (dL 2 [some 3,none] Q Q (SA TK Q (SA TK Q (TN (WN [2,3,5,6] Q Q (RS (SA TK Q (SA TK Q ?_))))))))))));refine BE hm λr15 hr15 hm=>?_;obtain⟨r16,r17⟩:=r15;refine SX Q Q (bO Q Q Q (pN hr15)) (SA TK Q (SA TK Q (SA TK Q (cM 3 Q Q aQ Q (dL 3 [some 3,none] Q Q (SA TK Q (SA TK Q (TN (WN [2,3,5,6,7,8] Q Q (rB (aO follows  ?_)))))))))));refine DA [0] TK Q (BE hm λr18 hr18 hm=>DX [] Q Q (RD Q Q Q (eT hr18)) (DA [1] TK Q (BE hm λr19 hr19 hm=>DX [] Q Q (RD Q Q Q (eT hr19)) (BE hm λr20 hr20 hm=>?_))));obtain⟨r21,r22⟩:=r20;refine DX [] Q Q (bO Q Q Q (zB hr20)) ?_;iterate 3 (refine DA [] TK Q ?_)
 refine d_wr [4] _ (.mptr 4 0 0 0) Q (pF Q) Q (zP Q Q aQ Q Q) (d_st 1000002 [4] [(4,.box 29 [.d (.sl 3 (r21.nodes.map Node.enc)),.d (.int .i64 r21.root)])] (pF Q) Q (w_stoB TK Q Q Q Q Q Q Q Q Q Q) ?_);refine DT ?_ (by kernel_rfl);refine SA TK Q (TN (WN [2,5,6,7,8,9,10] Q Q (RS (SA TK Q (BE hm λr23 hr23 hm=>?_)))));obtain⟨r24,r25⟩:=r23;refine SX Q Q (bO Q Q Q (iB hr23)) ?_;iterate 5 (refine SA TK Q ?_)
 refine TN (WN [2,5,6,7,8,9,10,11,12] Q Q (RS (SA TK Q (BE hm λr26 hr26 hm=>SX Q Q (RD Q Q Q (eT hr26)) (BE hm λr27 hr27 hm=>?_)))));obtain⟨r28,r29⟩:=r27;refine SX Q Q (bO Q Q Q (iB hr27)) ?_;iterate 5 (refine SA TK Q ?_)
 refine TN (WN [2,5,6,7,8,9,10,11,12,13,14] Q Q (TQ ?_));refine iV [(88,.d (.bool (((!(decide (r14=(0:Int))))||((!(decide (r17=(0:Int))))||((!(decide (r22=(0:Int))))||((!(decide (r25=(0:Int))))||((!(decide (r29=(0:Int))))||(!(decide ((IntKind.u64.wrap (r24+r28))=(4611686018427387904:Int))))))))))))] [88] [2,5,7,9] Q ?_ ?_
 ·refine TG (SA TK Q (SA TK Q (SB TK Q (λq30 hq30=>?_))));cases q30
  ·refine SA TK Q (SA TK Q (SA TK Q (SB TK Q (λq31 hq31=>?_))));cases q31
   ·refine SA TK Q (SA TK Q (SA TK Q (SB TK Q (λq32 hq32=>?_))));cases q32
    ·refine SA TK Q (SA TK Q (SA TK Q (SB TK Q (λq33 hq33=>?_))));cases q33
     ·refine SA TK Q (SA TK Q (SA TK Q (SB TK Q (λq34 hq34=>?_))));cases q34
      ·refine SA TK Q (SA TK Q (SX Q Q (uS Q Q Q Q) (SA TK Q (SA TK Q (TN (WT ?_))))));exact⟨[0,1,2,3,4],Q,k0,bZ (aW (aX (by simp [hq30,hq31,hq32,hq33,hq34])) Q) Q⟩
      iterate 5 (refine SA TK Q ?_)
      refine TN (WT ?_);exact⟨[0,1,2,3,4],Q,k0,bZ (aW (aX (by simp [hq30,hq31,hq32,hq33,hq34])) Q) Q⟩
     iterate 9 (refine SA TK Q ?_)
     refine TN (WT ?_);exact⟨[0,1,2,3,4],Q,k0,bZ (aW (aX (by simp [hq30,hq31,hq32,hq33])) Q) Q⟩
    iterate 13 (refine SA TK Q ?_)
    refine TN (WT ?_);exact⟨[0,1,2,3,4],Q,k0,bZ (aW (aX (by simp [hq30,hq31,hq32])) Q) Q⟩
   iterate 17 (refine SA TK Q ?_)
   refine TN (WT ?_);exact⟨[0,1,2,3,4],Q,k0,bZ (aW (aX (by simp [hq30,hq31])) Q) Q⟩
  iterate 21 (refine SA TK Q ?_)
  refine TN (WT ?_);exact⟨[0,1,2,3,4],Q,k0,bZ (aW (aX (by simp [hq30])) Q) Q⟩
 refine WN [2,5,7,9,88] Q Q ?_;refine TC _ Q (λh35=>?_) (λh35=>?_)
 ·replace hm:=JA h35 hm;refine RS (SA TK Q (TN (WN [4] Q Q (TR (WR ?_)))));obtain rfl:=OJ hm;exact EndsS.one _ Q (.d _) (.refl _)
 replace hm:=JB h35 hm;refine TS (WT (WN [2,5,7,9] Q Q ?_));refine aT hm (λx36=>([(4,.d (.bool (x36)))]:Fr)) (λx36=>([]:List (Nat×Blk))) [4] [] Q (λz37 hm=>?_) (λx36 hm=>?_)
 ·refine jU follows  (DA [0,1,2,3,4] TK Q (BE hm λr38 hr38 hm=>DX [0,1,2,3,4] Q Q (RD Q Q Q (eT hr38)) (BE hm λr39 hr39 hm=>DX [0,1,2,3,4] Q Q (RD Q Q Q (eT hr39)) (DA [0,1,2,3,4] TK Q (BE hm λr40 hr40 hm=>DX [0,1,2,3,4] Q Q (RN Q Q (SC (.d _) (SC (.d _) SN)) (eN hr40)) ?_)))));refine d_b [0,1,2,3,4] TK Q (λq41 hq41=>?_);cases q41
  ·replace hm:=JB hq41 hm;iterate 13 (refine DA [0,1,2,3,4] TK Q ?_)
   refine DT ?_ (by kernel_rfl);refine SA TK Q (TN (WT ?_));exact⟨_,[0,1,2,3,4],(SJ hm),Q,k0,Q⟩
  replace hm:=JA hq41 hm;iterate 2 (refine DA [0,1,2,3,4] TK Q ?_)
  refine BE hm λr42 hr42 hm=>DX [0,1,2,3,4] Q Q (RN Q Q (SC (.d _) (SC (.d _) SN)) (eN hr42)) (DA [0,1,2,3,4] TK Q (d_b [0,1,2,3,4] TK Q (λq43 hq43=>?_)));cases q43
  ·replace hm:=JB hq43 hm;iterate 8 (refine DA [0,1,2,3,4] TK Q ?_)
   refine DT ?_ (by kernel_rfl);refine SA TK Q (TN (WT ?_));exact⟨_,[0,1,2,3,4],(SJ hm),Q,k0,Q⟩
  replace hm:=JA hq43 hm;refine DA [0,1,2,3,4] TK Q (BE hm λr44 hr44 hm=>DX [0,1,2,3,4] Q Q (RD Q Q Q (eT hr44)) (DA [0,1,2,3,4] TK Q (BE hm λr45 hr45 hm=>DX [0,1,2,3,4] Q Q (RN Q Q (SC (.d _) (SC (.d _) SN)) (eN hr45)) (DA [0,1,2,3,4] TK Q (d_b [0,1,2,3,4] TK Q (λq46 hq46=>?_))))));cases q46
  ·replace hm:=JB hq46 hm;iterate 2 (refine DA [0,1,2,3,4] TK Q ?_)
   refine DT ?_ (by kernel_rfl);refine SA TK Q (TN (WT ?_));exact⟨_,[0,1,2,3,4],(SJ hm),Q,k0,Q⟩
  replace hm:=JA hq46 hm;refine BE hm λr47 hr47 hm=>DX [0,1,2,3,4] Q Q (RN Q Q SN (jB hr47)) (DA [0,1,2,3,4] TK Q ?_);refine DT ?_ (by kernel_rfl);refine SA TK Q (TN (WT ?_));exact⟨_,[0,1,2,3,4],(SJ hm),Q,k0,Q⟩
 refine WN [4] Q Q (TR ?_);obtain rfl:=OJ hm;exact EndsS.one _ Q (.d _) (.refl _)
@[simp] theorem aB {α:Type} {p:Prop} [Decidable p] {k:Option α} (h:p):aF p k=k:=if_pos h
@[simp] theorem aA {α β:Type} (a:α) (k:α→Option β):aD (some a) k=k a:=rfl
@[simp] theorem pM {α β:Type} (a:α) (k:α→Option β):gM (some (.inl a)) k=k a:=rfl
@[simp] theorem bindS_inr {α β:Type} (b:β) (k:α→Option β):gM (some (.inr b)) k=some b:=rfl
@[simp] theorem inrM_some {α β:Type} (b:β):(bW (some b):Option (α ⊕ β))=some (.inr b):=rfl
theorem eP {α β:Type} {l:List α} {i:Nat} {e:α} {k:α→Option β} (h:l[i]?=some e):cI l (i:Int) k=k e:=by simp [cI,h]
theorem cH {α β:Type} {l:List α} {i:Int} {e:α} {k:α→Option β} (h0:0≤i) (h:l[i.toNat]?=some e):cI l i k=k e:=by simp [cI,h0,h]
@[simp] theorem ite_bindM {α β:Type} {p:Prop} [Decidable p] (a b:α) (k:α→Option β):aD (if p then some a else some b) k=k (if p then a else b):=by split<;>rfl
theorem rD {α:Type} (l:List α) (i:Nat):sub l (i:Int) (l.length:Int)=l.drop i:=by simp [sub,← List.length_drop]
theorem xI {α:Type} (l:List α) (i:Nat):sub l 0 (i:Int)=l.take i:=by simp [sub]
variable {σ ρ:Type}
theorem sI {f:σ→Option (σ ⊕ ρ)} (B:Nat→σ) {o:ρ}:∀ (n k:Nat),(∀ i,k≤i→i < k+n→f (B i)=some (.inl (B (i+1))))→f (B (k+n))=some (.inr o)→gW f (n+1) (B k)=some o
 | 0,k,_,he=>by simp only [Nat.add_zero] at he;simp [gW,he]
 | n+1,k,hf,he=>by
  simp only [gW];rw [hf k (zQW _) (by omega)];exact sI B n (k+1) (λi h1 h2=>hf i (by omega) (by omega)) (by rw [show k+1+n=k+(n+1) by omega];exact he)
theorem iH {f:σ→Option (σ ⊕ ρ)} (B:Nat→σ) (n:Nat) {o:ρ} {s:σ} (hs:s=B 0) (hn:n≤9223372036854775807) (hf:∀ i,i < n→f (B i)=some (.inl (B (i+1)))) (he:f (B n)=some (.inr o)):dC f s=some o:=by
 subst hs;exact yH (sI B n 0 (λi _ h=>hf i (by omega)) (by rw [Nat.zero_add];exact he)) (by unfold aN;omega)
theorem sC {f : Int → Option (Int ⊕ ρ)} (n : Nat) (c : Nat → Option ρ) (o : ρ) (hn : n ≤ 9223372036854775807) (hf : ∀ i, i < n → f (i : Int) = match c i with
  | some r => some (.inr r)
  | none => some (.inl ((i : Int) + 1))) (he : f (n : Int) = some (.inr o)) : dC f 0 = some (((List.range n).findSome? c).getD o) := by
 cases h:(List.range n).findSome? c with
 | none=>
  rw [List.findSome?_eq_none_iff] at h;refine iH (λi=>(i:Int)) n rfl hn (λi hi=>?_) he;rw [hf i hi,h i (List.mem_range.2 hi)];rfl
 | some r=>
  rw [List.findSome?_eq_some_iff] at h;obtain⟨l1,a,l2,h1,h2,h3⟩:=h
  have ha:l1.length=a∧a < n:=by
   have hlen:l1.length < (List.range n).length:=by rw [h1];simp
   have:(List.range n)[l1.length]?=some a:=by rw [h1];simp
   simp only [List.length_range] at hlen;simp [hlen] at this;exact⟨this,by omega⟩
  obtain⟨ha1,ha2⟩:=ha;refine iH (λi=>(i:Int)) a rfl (by omega) (λi hi=>?_) ?_
  ·have hm:i∈l1:=by
    have:(List.range n)[i]?=some i:=List.getElem?_range (by omega);rw [h1,List.getElem?_append_left (by omega)] at this;exact zQM this
   rw [hf i (by omega),h3 i hm];rfl
  rw [hf a ha2,h2];rfl
theorem oD {α β:Type} (l:List α) (c:Nat→Option β) (d:α→Option β) (h:∀ (i:Nat) (e:α),l[i]?=some e→c i=d e):(List.range l.length).findSome? c=l.findSome? d:=by
 induction l generalizing c with
 | nil=>rfl
 | cons x r ih=>
  rw [List.length_cons,List.range_succ_eq_map,List.findSome?_cons,List.findSome?_map,List.findSome?_cons,h 0 x rfl]
  cases d x with
  | some b=>rfl
  | none=>exact ih (c ∘ Nat.succ) λi e he=>h (i+1) e (by simpa using he)
theorem wC {α : Type} {f : Int → Option (Int ⊕ ρ)} (l : List α) (d : α → Option ρ) (o : ρ) (hn : l.length ≤ 9223372036854775807) (hf : ∀ (i : Nat) (e : α), l[i]? = some e → f (i : Int) = match d e with
  | some r => some (.inr r)
  | none => some (.inl ((i : Int) + 1))) (he : f (l.length : Int) = some (.inr o)) : dC f 0 = some ((l.findSome? d).getD o) := by
 rw [sC l.length (λi=>(l[i]?).bind d) o hn (λi hi=>?_) he,oD l _ d (λi e he=>by simp [he])];rw [hf i l[i] (by simp),zQR hi];rfl
theorem qM {α β:Type} (l:List α) (c:α→Bool) (v:β):l.findSome? (λe=>if c e=true then some v else none)=if l.any c=true then some v else none:=by
 induction l with
 | nil=>rfl
 | cons x r ih=>
  rw [List.findSome?_cons,List.any_cons,ih];cases c x<;>simp
theorem yG {α:Type} {f:Int→Option (Int ⊕ ρ)} (l:List α) (c:α→Bool) (v o:ρ) (hn:l.length≤9223372036854775807) (hf:∀ (i:Nat) (e:α),l[i]?=some e→f (i:Int)=if c e=true then some (.inr v) else some (.inl ((i:Int)+1))) (he:f (l.length:Int)=some (.inr o)):dC f 0=some (if l.any c=true then v else o):=by
 rw [wC l (λe=>if c e=true then some v else none) o hn (λi e h=>by rw [hf i e h];cases c e<;>simp) he,qM];split<;>rfl
theorem wD {α:Type} {f:Int→Option (Int ⊕ ρ)} (l:List α) (c:α→Bool) (w:Nat→ρ) (o:ρ) (hn:l.length≤9223372036854775807) (hf:∀ (i:Nat) (e:α),l[i]?=some e→f (i:Int)=if c e=true then some (.inr (w i)) else some (.inl ((i:Int)+1))) (he:f (l.length:Int)=some (.inr o)):dC f 0=some (match l.findIdx? c with|some i=>w i|none=>o):=by
 cases h:l.findIdx? c with
 | none=>
  rw [List.findIdx?_eq_none_iff] at h;refine iH (λi=>(i:Int)) l.length rfl hn (λi hi=>?_) he;rw [hf i l[i] (by simp),if_neg (by rw [h l[i] (by simp)];simp)];rfl
 | some k=>
  rw [List.findIdx?_eq_some_iff_getElem] at h;obtain⟨hk,h1,h2⟩:=h;refine iH (λi=>(i:Int)) k rfl (by omega) (λi hi=>?_) ?_
  ·have hl : i < l.length := by omega
   have:=h2 i hi;rw [hf i l[i] (by simp),if_neg (by simpa using this)];rfl
  rw [hf k l[k] (by simp),if_pos h1]
theorem kH {β:Type} {f:Int×β→Option ((Int×β) ⊕ ρ)} (n:Nat) (B:Nat→β) {o:ρ} {b:β} (hb:b=B 0) (hn:n≤9223372036854775807) (hf:∀ i,i < n→f ((i:Int),B i)=some (.inl ((i:Int)+1,B (i+1)))) (he:f ((n:Int),B n)=some (.inr o)):dC f (0,b)=some o:=
 iH (λi=>((i:Int),B i)) n (by rw [hb];rfl) hn (λi hi=>by rw [hf i hi];rfl) he
theorem wF {β:Type} {f:Int×β→Option ((Int×β) ⊕ ρ)} (n:Nat) (B:Nat→β) (c:Nat→Bool) (v o:ρ) {b:β} (hb:b=B 0) (hn:n≤9223372036854775807) (hf:∀ i,i < n→(∀ j,j < i→c j=false)→f ((i:Int),B i)=if c i=true then some (.inr v) else some (.inl ((i:Int)+1,B (i+1)))) (he:(∀ j,j < n→c j=false)→f ((n:Int),B n)=some (.inr o)):dC f (0,b)=some (if (List.range n).any c=true then v else o):=by
 cases h:(List.range n).findIdx? c with
 | none=>
  rw [List.findIdx?_eq_none_iff] at h;have hall:∀ j,j < n→c j=false:=λj hj=>by simpa using h j (List.mem_range.2 hj)
  have hno:¬ (List.range n).any c=true:=by
   rw [zQU];rintro⟨j,hj,hc⟩;rw [hall j (List.mem_range.1 hj)] at hc;cases hc
  rw [if_neg hno];exact kH n B hb hn (λi hi=>by rw [hf i hi (λj hj=>hall j (by omega)),hall i hi];rfl) (he hall)
 | some k=>
  rw [List.findIdx?_eq_some_iff_getElem] at h;obtain⟨hk,h1,h2⟩:=h;simp only [List.length_range] at hk;simp only [List.getElem_range] at h1;have hb':∀ j,j < k→c j=false:=λj hj=>by have:=h2 j hj;simpa using this
  have hyes:(List.range n).any c=true:=zQU.2 ⟨k,List.mem_range.2 hk,h1⟩;rw [if_pos hyes];exact kH k B hb (by omega) (λi hi=>by rw [hf i (by omega) (λj hj=>hb' j (by omega)),hb' i hi];rfl) (by rw [hf k hk hb',h1];rfl)
def aZ (b:Bool):Int:=if b=true then 1 else 0
def bC (D:List Node) (n:Node):List Node×Int:=
 if n.lo=n.hi then (D,n.lo) else match D.findIdx? (λm=>decide (m=n)) with|some i=>(D,(i:Int)+2)|none=>(D++[n],(D.length:Int)+2)
abbrev Fn:=List Bool→Bool
def aC (D:List Node):Nat→Fn→Int→List Node×Int
 | 0,f,_=>(D,aZ (f []))
 | k+1,f,v=>
  let a:=aC D k (λl=>f (false :: l)) (v+1)
  let b:=aC a.1 k (λl=>f (true :: l)) (v+1)
  bC b.1 ⟨v,a.2,b.2⟩
def Has (D:List Node):Nat→Fn→Int→Int→Prop
 | 0,f,_,x=>x=aZ (f [])
 | k+1,f,v,x=>∃ lo hi,Has D k (λl=>f (false :: l)) (v+1) lo∧Has D k (λl=>f (true :: l)) (v+1) hi∧(if lo=hi then x=lo else 2≤x∧D[(x - 2).toNat]?=some ⟨v,lo,hi⟩)
theorem fL (D:List Node) (n:Node):D <+: (bC D n).1:=by
 unfold bC;split
 ·exact List.prefix_refl _
 split
 ·exact List.prefix_refl _
 exact List.prefix_append _ _
theorem aV:∀ (k:Nat) (D:List Node) (f:Fn) (v:Int),D <+: (aC D k f v).1
 | 0,D,f,v=>List.prefix_refl _
 | k+1,D,f,v=>((aV k D _ _).trans (aV k _ _ _)).trans (fL _ _)
theorem fA {D E:List Node} (h:D <+: E) {i:Nat} {n:Node} (hi:D[i]?=some n):E[i]?=some n:=by
 obtain⟨t,rfl⟩:=h;rw [List.getElem?_append_left (zQQ.1 hi).1];exact hi
theorem Has.mono {D E:List Node} (h:D <+: E):∀ {k:Nat} {f:Fn} {v x:Int},Has D k f v x→Has E k f v x
 | 0,f,v,x,hh=>hh
 | k+1,f,v,x,⟨lo,hi,h1,h2,h3⟩=>by
  refine⟨lo,hi,h1.mono h,h2.mono h,?_⟩;split
  ·rename_i he;rw [if_pos he] at h3;exact h3
  rename_i he;rw [if_neg he] at h3;exact⟨h3.1,fA h h3.2⟩
theorem zK (D:List Node) (n:Node):if n.lo=n.hi then (bC D n).2=n.lo else 2≤(bC D n).2∧(bC D n).1[((bC D n).2 - 2).toNat]?=some n:=by
 unfold bC;by_cases he:n.lo=n.hi
 ·simp only [if_pos he]
 simp only [if_neg he]
 cases hf:D.findIdx? (λm=>decide (m=n)) with
 | some i=>
  rw [List.findIdx?_eq_some_iff_getElem] at hf;obtain⟨hi,hp,_⟩:=hf;dsimp only;refine⟨by omega,?_⟩;rw [show ((i:Int)+2 - 2).toNat=i by omega,zQR hi,of_decide_eq_true hp]
 | none=>
  dsimp only;refine⟨by omega,?_⟩;rw [show ((D.length:Int)+2 - 2).toNat=D.length by omega];simp
theorem bM:∀ (k:Nat) (D:List Node) (f:Fn) (v:Int),Has (aC D k f v).1 k f v (aC D k f v).2
 | 0,D,f,v=>rfl
 | k+1,D,f,v=>by
  have h1:=bM k D (λl=>f (false :: l)) (v+1);have h2:=bM k (aC D k (λl=>f (false :: l)) (v+1)).1 (λl=>f (true :: l)) (v+1);have p2:=aV k (aC D k (λl=>f (false :: l)) (v+1)).1 (λl=>f (true :: l)) (v+1);have p3:=fL (aC (aC D k (λl=>f (false :: l)) (v+1)).1 k (λl=>f (true :: l)) (v+1)).1 ⟨v,(aC D k (λl=>f (false :: l)) (v+1)).2,(aC (aC D k (λl=>f (false :: l)) (v+1)).1 k (λl=>f (true :: l)) (v+1)).2⟩;refine⟨_,_,h1.mono (p2.trans p3),h2.mono p3,?_⟩;exact zK (aC (aC D k (λl=>f (false :: l)) (v+1)).1 k (λl=>f (true :: l)) (v+1)).1 ⟨v,(aC D k (λl=>f (false :: l)) (v+1)).2,(aC (aC D k (λl=>f (false :: l)) (v+1)).1 k (λl=>f (true :: l)) (v+1)).2⟩
theorem oQ {D:List Node} (h:D.Nodup) (n:Node):(bC D n).1.Nodup:=by
 unfold bC;split
 ·exact h
 split
 ·exact h
 rename_i hf;rw [List.findIdx?_eq_none_iff] at hf;rw [List.nodup_append];refine⟨h,by simp,λa ha b hb=>?_⟩;rw [List.mem_singleton] at hb;subst hb;intro he;have:=hf a ha;simp [he] at this
theorem eF:∀ (k:Nat) {D:List Node} (f:Fn) (v:Int),D.Nodup→(aC D k f v).1.Nodup
 | 0,D,f,v,h=>h
 | k+1,D,f,v,h=>oQ (eF k _ _ (eF k _ _ h)) _
theorem tV {D:List Node} (h:D.Nodup) {i:Nat} {n:Node} (hi:D[i]?=some n):D.findIdx? (λm=>decide (m=n))=some i:=by
 rw [List.findIdx?_eq_some_iff_getElem];obtain⟨hl,he⟩:=zQQ.1 hi;refine⟨hl,decide_eq_true he,λj hj=>?_⟩
 have hne:D[j]≠D[i]:=by
  unfold List.Nodup at h;rw [List.pairwise_iff_getElem] at h;exact h j i (by omega) hl hj
 rw [he] at hne;simpa using hne
theorem bQ {D:List Node} (hn:D.Nodup):∀ {k:Nat} {f:Fn} {v x:Int},Has D k f v x→aC D k f v=(D,x)
 | 0,f,v,x,h=>by
  have h:x=aZ (f []):=h;rw [h];rfl
 | k+1,f,v,x,⟨lo,hi,h1,h2,h3⟩=>by
  have e1:=bQ hn h1;have e2:=bQ hn h2;show bC (aC (aC D k (λl=>f (false :: l)) (v+1)).1 k (λl=>f (true :: l)) (v+1)).1 _=_;rw [e1];dsimp only;rw [e2];unfold bC;dsimp only;by_cases he:lo=hi
  ·rw [if_pos he];rw [if_pos he] at h3;rw [h3]
  rw [if_neg he];rw [if_neg he] at h3;rw [tV hn h3.2];dsimp only;rw [show (((x - 2).toNat:Nat):Int)+2=x by omega]
theorem Has.unique {D:List Node} (hn:D.Nodup) {k:Nat} {f:Fn} {v x y:Int} (h1:Has D k f v x) (h2:Has D k f v y):x=y:=by
 have a:=bQ hn h1;have b:=bQ hn h2;rw [a] at b;exact (Prod.mk.inj b).2
theorem Has.congr {D:List Node}:∀ {k:Nat} {f g:Fn} {v x:Int},(∀ l,l.length=k→f l=g l)→Has D k f v x→Has D k g v x
 | 0,f,g,v,x,h,hh=>by
  have hh:x=aZ (f []):=hh;show x=aZ (g []);rw [← h [] rfl];exact hh
 | k+1,f,g,v,x,h,⟨lo,hi,h1,h2,h3⟩=>⟨lo,hi,h1.congr λl hl=>h _ (by simp [hl]),h2.congr λl hl=>h _ (by simp [hl]),h3⟩
theorem bH:∀ {k:Nat} {D:List Node} {f g:Fn} {v:Int},(∀ l,l.length=k→f l=g l)→aC D k f v=aC D k g v
 | 0,D,f,g,v,h=>by show (D,aZ (f []))=(D,aZ (g []));rw [h [] rfl]
 | k+1,D,f,g,v,h=>by
  show bC (aC (aC D k (λl=>f (false :: l)) (v+1)).1 k (λl=>f (true :: l)) (v+1)).1 _=bC (aC (aC D k (λl=>g (false :: l)) (v+1)).1 k (λl=>g (true :: l)) (v+1)).1 _;rw [bH (k:=k) (D:=D) (f:=λl=>f (false :: l)) (g:=λl=>g (false :: l)) λl hl=>h _ (by simp [hl])];rw [bH (k:=k) (f:=λl=>f (true :: l)) (g:=λl=>g (true :: l)) λl hl=>h _ (by simp [hl])]
theorem Has.skip {D:List Node} {k:Nat} {f:Fn} {v x:Int} (h:∀ l,l.length=k→f (false :: l)=f (true :: l)) (hh:Has D k (λl=>f (false :: l)) (v+1) x):Has D (k+1) f v x:=
 ⟨x,x,hh,hh.congr h,by rw [if_pos rfl]⟩
theorem Has.unskip {D:List Node} (hn:D.Nodup) {k:Nat} {f:Fn} {v x:Int} (h:∀ l,l.length=k→f (false :: l)=f (true :: l)) (hh:Has D (k+1) f v x):Has D k (λl=>f (false :: l)) (v+1) x:=by
 obtain⟨lo,hi,h1,h2,h3⟩:=hh;have he:lo=hi:=Has.unique hn (h1.congr h) h2;rw [if_pos he] at h3;rw [h3];exact h1
theorem Has.const {D:List Node} (c:Bool):∀ {k:Nat} {f:Fn} {v:Int},(∀ l,l.length=k→f l=c)→Has D k f v (aZ c)
 | 0,f,v,h=>by show aZ c=aZ (f []);rw [h [] rfl]
 | k+1,f,v,h=>Has.skip (λl hl=>by rw [h _ (by simp [hl]),h _ (by simp [hl])]) (Has.const c λl hl=>h _ (by simp [hl]))
theorem nO {D:List Node} (hn:D.Nodup) {k:Nat} {f:Fn} {v:Int} (h:∀ l,l.length=k→f (false :: l)=f (true :: l)):aC D (k+1) f v=aC D k (λl=>f (false :: l)) (v+1):=by
 have h1:=bM k D (λl=>f (false :: l)) (v+1);have h2:=eF k (λl=>f (false :: l)) (v+1) hn;show bC (aC (aC D k (λl=>f (false :: l)) (v+1)).1 k (λl=>f (true :: l)) (v+1)).1 _=_;rw [bQ h2 (h1.congr h)];unfold bC;rw [if_pos rfl]
theorem lW {D:List Node} (hn:D.Nodup) (c:Bool) {k:Nat} {f:Fn} {v:Int} (h:∀ l,l.length=k→f l=c):aC D k f v=(D,aZ c):=bQ hn (Has.const c h)
def aG (D:List Node) (x:Int):Int:=if x < 2 then 64 else match D[(x - 2).toNat]? with|some n=>n.var|none=>64
def evF (D:List Node) (s:Int→Bool):Nat→Int→Bool
 | 0,x=>decide (x=1)
 | f+1,x=>if x < 2 then decide (x=1) else match D[(x - 2).toNat]? with|some n=>evF D s f (if s n.var=true then n.hi else n.lo)|none=>false
def eJ (D:List Node) (x:Int) (s:Int→Bool):Bool:=evF D s x.toNat x
structure WfD (D:List Node):Prop where
 vars:∀ (i:Nat) (n:Node),D[i]?=some n→0≤n.var∧n.var < 64
 lo:∀ (i:Nat) (n:Node),D[i]?=some n→0≤n.lo∧n.lo < (i:Int)+2∧n.var < aG D n.lo
 hi:∀ (i:Nat) (n:Node),D[i]?=some n→0≤n.hi∧n.hi < (i:Int)+2∧n.var < aG D n.hi
 ne:∀ (i:Nat) (n:Node),D[i]?=some n→n.lo≠n.hi
theorem oG {D:List Node} (h:WfD D) (s:Int→Bool):∀ (f:Nat) (x:Int),0≤x→x≤(f:Int)→evF D s f x=evF D s x.toNat x
 | 0,x,h0,h1=>by rw [show x=0 by omega];rfl
 | f+1,x,h0,h1=>by
  by_cases hx:x < 2
  ·rcases (by omega : x = 0 ∨ x = 1) with e | e <;> subst e
   ·rfl
   rfl
  obtain ⟨m, hm⟩ : ∃ m : Nat, x.toNat = m + 1 := ⟨x.toNat - 1, by omega⟩;rw [hm];unfold evF;rw [if_neg hx,if_neg hx]
  cases hn:D[(x - 2).toNat]? with
  | none=>rfl
  | some n=>
   dsimp only;have hl:=h.lo _ n hn;have hh:=h.hi _ n hn;have hc:0≤(if s n.var=true then n.hi else n.lo)∧(if s n.var=true then n.hi else n.lo) < x:=by split<;>omega
   rw [oG h s f _ hc.1 (by omega),oG h s m _ hc.1 (by omega)]
theorem uT (D:List Node) (s:Int→Bool) (b:Bool):eJ D (aZ b) s=b:=by cases b<;>rfl
theorem eB {D:List Node} (h:WfD D) {x:Int} {n:Node} (hx:2≤x) (hn:D[(x - 2).toNat]?=some n) (s:Int→Bool):eJ D x s=eJ D (if s n.var=true then n.hi else n.lo) s:=by
 have hl:=h.lo _ n hn;have hh:=h.hi _ n hn;have hc:0≤(if s n.var=true then n.hi else n.lo)∧(if s n.var=true then n.hi else n.lo) < x:=by split<;>omega
 obtain⟨m,hm⟩:∃ m:Nat,x.toNat=m+1:=⟨x.toNat - 1,by omega⟩;unfold eJ;rw [hm]
 conv=>lhs;unfold evF
 rw [if_neg (by omega),hn];dsimp only;exact oG h s m _ hc.1 (by omega)
theorem dB {D:List Node} (h:WfD D) {s u:Int→Bool}:∀ (m:Nat) (x:Int),0≤x→x.toNat≤m→(∀ w,aG D x≤w→w < 64→s w=u w)→eJ D x s=eJ D x u
 | m,x,h0,hm,hs=>by
  by_cases hx:x < 2
  ·rcases (by omega:x=0∨x=1) with e|e<;>subst e<;>rfl
  cases hn:D[(x - 2).toNat]? with
  | none=>
   unfold eJ;obtain⟨q,hq⟩:∃ q:Nat,x.toNat=q+1:=⟨x.toNat - 1,by omega⟩;rw [hq];unfold evF;rw [if_neg hx,if_neg hx,hn]
  | some n=>
   have hvx:aG D x=n.var:=by unfold aG;rw [if_neg hx,hn]
   have hl:=h.lo _ n hn;have hh:=h.hi _ n hn;have hv:=h.vars _ n hn;rw [eB h (by omega) hn,eB h (by omega) hn,hs n.var (by omega) hv.2]
   cases m with
   | zero=>omega
   | succ m=>
    split
    ·exact dB h m _ hh.1 (by omega) λw hw hw2=>hs w (by omega) hw2
    exact dB h m _ hl.1 (by omega) λw hw hw2=>hs w (by omega) hw2
def asg (v:Int) (l:List Bool):Int→Bool:=λw=>decide (v≤w)&&l.getD (w - v).toNat false
theorem fV {v:Int} {b:Bool} {l:List Bool} {w:Int} (h:v < w):asg v (b :: l) w=asg (v+1) l w:=by
 unfold asg;rw [decide_eq_true (show v≤w by omega),decide_eq_true (show v+1≤w by omega),show (w - v).toNat=(w - (v+1)).toNat+1 by omega];rfl
theorem kR (v:Int) (b:Bool) (l:List Bool):asg v (b :: l) v=b:=by
 unfold asg;rw [decide_eq_true (Int.le_refl v),Int.sub_self];rfl
def fnD (D:List Node) (x v:Int):Fn:=λl=>eJ D x (asg v l)
def InD (D:List Node) (x:Int):Prop:=0≤x∧x < (D.length:Int)+2
theorem InD.get {D:List Node} {x:Int} (h:InD D x) (hx:2≤x):∃ n,D[(x - 2).toNat]?=some n:=⟨_,zQR (by have:=h.2;omega)⟩
theorem dI {D:List Node} (h:WfD D) (x:Int):aG D x≤64:=by
 unfold aG;split
 ·omega
 split
 ·rename_i n hn;have:=h.vars _ n hn;omega
 omega
theorem gG {D:List Node} (h:WfD D) {x v:Int} (h0:0≤x) (hv:v < aG D x) (b:Bool) (l:List Bool):fnD D x v (b :: l)=fnD D x (v+1) l:=
 dB h x.toNat x h0 (zQW _) λw hw _=>fV (by omega)
theorem fT {D:List Node} (h:WfD D):∀ (k:Nat) (x v:Int),InD D x→v≤aG D x→(aG D x < 64→aG D x < v+k)→(∀ (i:Nat) (n:Node),D[i]?=some n→n.var < v+k)→Has D k (fnD D x v) v x
 | 0,x,v,hx,hv,hw,hall=>by
  have hlt:x < 2:=by
   rcases Int.lt_or_le x 2 with h1|h1
   ·exact h1
   obtain⟨n,hn⟩:=hx.get h1;have hvx:aG D x=n.var:=by unfold aG;rw [if_neg (by omega),hn]
   have:=hall _ n hn;omega
  have h0:=hx.1;rcases (by omega:x=0∨x=1) with e|e<;>subst e<;>rfl
 | k+1,x,v,hx,hv,hw,hall=>by
  by_cases he:aG D x=v∧2≤x
  ·obtain⟨n,hn⟩:=hx.get he.2;have hvx:aG D x=n.var:=by unfold aG;rw [if_neg (by omega),hn]
   have hl:=h.lo _ n hn;have hh:=h.hi _ n hn;have hin:∀ c:Int,0≤c→c < (((x - 2).toNat:Nat):Int)+2→InD D c:=λc a b=>⟨a,by have:=hx.2;omega⟩
   have sub:∀ c:Int,InD D c→aG D c < 64→aG D c < v+1+(k:Int):=λc hc hc2=>by
    unfold aG at hc2 ⊢;by_cases h2:c < 2
    ·rw [if_pos h2] at hc2;omega
    obtain ⟨q, hq⟩ := hc.get (by omega);rw [if_neg h2,hq];have:=hall _ q hq;dsimp only;omega
   have f0:∀ l:List Bool,fnD D x v (false :: l)=fnD D n.lo (v+1) l:=λl=>by
    show eJ D x _=eJ D n.lo _;rw [eB h he.2 hn,show n.var=v by omega,kR,if_neg (by simp)];exact dB h n.lo.toNat n.lo hl.1 (zQW _) λw hw2 _=>fV (by omega)
   have f1:∀ l:List Bool,fnD D x v (true :: l)=fnD D n.hi (v+1) l:=λl=>by
    show eJ D x _=eJ D n.hi _;rw [eB h he.2 hn,show n.var=v by omega,kR,if_pos rfl];exact dB h n.hi.toNat n.hi hh.1 (zQW _) λw hw2 _=>fV (by omega)
   refine⟨n.lo,n.hi,?_,?_,?_⟩
   ·exact (fT h k n.lo (v+1) (hin _ hl.1 hl.2.1) (by omega) (sub _ (hin _ hl.1 hl.2.1)) λi q hq=>by have:=hall i q hq;omega).congr λl _=>(f0 l).symm
   ·exact (fT h k n.hi (v+1) (hin _ hh.1 hh.2.1) (by omega) (sub _ (hin _ hh.1 hh.2.1)) λi q hq=>by have:=hall i q hq;omega).congr λl _=>(f1 l).symm
   rw [if_neg (h.ne _ n hn)];refine⟨he.2,?_⟩;rw [hn,show v=n.var by omega]
  have hlt : v < aG D x ∨ x < 2 := by omega
  have hsk:∀ (b:Bool) (l:List Bool),fnD D x v (b :: l)=fnD D x (v+1) l:=λb l=>by
   rcases hlt with h1|h1
   ·exact gG h hx.1 h1 b l
   have h0:=hx.1;rcases (by omega:x=0∨x=1) with e|e<;>subst e<;>rfl
  have hv2:v+1≤aG D x∨x < 2:=by omega
  refine Has.skip (λl _=>by rw [hsk,hsk]) ?_;by_cases h2:x < 2
  ·have h0:=hx.1;have hb:x=aZ (decide (x=1)):=by rcases (by omega:x=0∨x=1) with e|e<;>subst e<;>rfl
   have hcst:∀ l:List Bool,fnD D x v (false :: l)=decide (x=1):=λl=>by rcases (by omega:x=0∨x=1) with e|e<;>subst e<;>rfl
   have:=Has.const (D:=D) (decide (x=1)) (k:=k) (f:=λl=>fnD D x v (false :: l)) (v:=v+1) (λl _=>hcst l);rw [← hb] at this;exact this
  exact (fT h k x (v+1) hx (by omega) (λh64=>by have:=hw h64;omega) λi q hq=>by have:=hall i q hq;omega).congr λl _=>(hsk false l).symm
def cL (D:List Node):Nat→Int→Int→Option Int
 | 0,_,_=>none
 | f+1,x,left=>if x < 2∨x < left then some left else match D[(x - 2).toNat]? with
  | none=>none
  | some n=>(cL D f n.lo left).bind λl1=>(cL D f n.hi l1).bind λl2=>if x=l2 then some (l2+1) else none
theorem WfD.take {D:List Node} (h:WfD D) (m:Nat):WfD (D.take m):=by
 have hg:∀ (i:Nat) (n:Node),(D.take m)[i]?=some n→D[i]?=some n∧i < m:=λi n hn=>by
  rw [List.getElem?_take] at hn;split at hn
  ·exact⟨hn,by assumption⟩
  cases hn
 have hv:∀ (i:Nat) (c:Int),i < m→c < (i:Int)+2→aG (D.take m) c=aG D c:=λi c hi hc=>by
  unfold aG;split
  ·rfl
  rw [List.getElem?_take,if_pos (by omega)]
 refine⟨λi n hn=>h.vars i n (hg i n hn).1,λi n hn=>?_,λi n hn=>?_,λi n hn=>h.ne i n (hg i n hn).1⟩
 ·have h1:=hg i n hn;have h2:=h.lo i n h1.1;rw [hv i _ h1.2 h2.2.1];exact h2
 have h1:=hg i n hn;have h2:=h.hi i n h1.1;rw [hv i _ h1.2 h2.2.1];exact h2
theorem jT {D:List Node} (h:WfD D) (m:Nat) (s:Int→Bool):∀ (q:Nat) (x:Int),0≤x→x.toNat≤q→x < (m:Int)+2→eJ (D.take m) x s=eJ D x s
 | q,x,h0,hq,hm=>by
  by_cases hx:x < 2
  ·rcases (by omega:x=0∨x=1) with e|e<;>subst e<;>rfl
  have hg : (D.take m)[(x - 2).toNat]? = D[(x - 2).toNat]? := by rw [List.getElem?_take, if_pos (by omega)]
  cases hn:D[(x - 2).toNat]? with
  | none=>
   unfold eJ;obtain⟨z,hz⟩:∃ z:Nat,x.toNat=z+1:=⟨x.toNat - 1,by omega⟩;rw [hz];unfold evF;rw [if_neg hx,if_neg hx,hg,hn]
  | some n=>
   have hl:=h.lo _ n hn;have hh:=h.hi _ n hn;rw [eB (h.take m) (by omega) (hg.trans hn),eB h (by omega) hn]
   cases q with
   | zero=>omega
   | succ q=>
    split
    ·exact jT h m s q _ hh.1 (by omega) (by omega)
    exact jT h m s q _ hl.1 (by omega) (by omega)
theorem pC {D:List Node} {m:Nat} {c:Int} (hc:c < (m:Int)+2):aG (D.take m) c=aG D c:=by
 unfold aG;split
 ·rfl
 rw [List.getElem?_take,if_pos (by omega)]
theorem qAL {D:List Node} (h:WfD D) {m:Nat} {x v:Int} (h0:0≤x) (hx:x < (m:Int)+2) (l:List Bool):fnD (D.take m) x v l=fnD D x v l:=jT h m _ x.toNat x h0 (zQW _) hx
theorem vK {D:List Node} (h:WfD D) {x:Int} {n:Node} (hx:2≤x) (hn:D[(x - 2).toNat]?=some n) (l:List Bool):fnD D x n.var (false :: l)=fnD D n.lo (n.var+1) l:=by
 have hl:=h.lo _ n hn;show eJ D x _=eJ D n.lo _;rw [eB h hx hn,kR,if_neg (by simp)];exact dB h n.lo.toNat n.lo hl.1 (zQW _) λw hw2 _=>fV (by omega)
theorem vL {D:List Node} (h:WfD D) {x:Int} {n:Node} (hx:2≤x) (hn:D[(x - 2).toNat]?=some n) (l:List Bool):fnD D x n.var (true :: l)=fnD D n.hi (n.var+1) l:=by
 have hl:=h.hi _ n hn;show eJ D x _=eJ D n.hi _;rw [eB h hx hn,kR,if_pos rfl];exact dB h n.hi.toNat n.hi hl.1 (zQW _) λw hw2 _=>fV (by omega)
theorem vV {D:List Node} (h:WfD D) (hnd:D.Nodup) {k:Nat} {x v:Int} {m:Nat} (h0:0≤x) (hx:x < (m:Int)+2) (hxl:x < (D.length:Int)+2) (hv:v≤aG D x) (hall:∀ (i:Nat) (n:Node),D[i]?=some n→n.var < v+k):aC (D.take m) k (fnD D x v) v=(D.take m,x):=by
 have hin:InD (D.take m) x:=⟨h0,by rw [List.length_take];omega⟩
 have hall2:∀ (i:Nat) (n:Node),(D.take m)[i]?=some n→n.var < v+k:=λi n hn=>by
  rw [List.getElem?_take] at hn;split at hn
  ·exact hall i n hn
  cases hn
 refine bQ (hnd.sublist (List.take_sublist m D)) ?_;refine (fT (h.take m) k x v hin (by rw [pC hx];exact hv) (λhlt=>?_) hall2).congr λl _=>qAL h h0 hx l;rw [pC hx] at hlt ⊢;unfold aG at hlt ⊢;by_cases h2:x < 2
 ·rw [if_pos h2] at hlt;omega
 obtain ⟨n, hn⟩ := (show InD D x from ⟨h0, hxl⟩).get (by omega);rw [if_neg h2,hn];have:=hall _ n hn;dsimp only;omega
theorem mW {D:List Node} (h:WfD D) (hnd:D.Nodup):∀ (f k:Nat) (x v left left':Int),cL D f x left=some left'→InD D x→2≤left→left≤(D.length:Int)+2→v≤aG D x→(∀ (i:Nat) (n:Node),D[i]?=some n→n.var < v+k)→aC (D.take (left - 2).toNat) k (fnD D x v) v=(D.take (left' - 2).toNat,x)∧left≤left'∧left'≤(D.length:Int)+2
 | 0,k,x,v,left,left',hvis,_,_,_,_,_=>by cases hvis
 | f+1,k,x,v,left,left',hvis,hx,hl1,hl2,hv,hall=>by
  by_cases hs:x < 2∨x < left
  ·unfold cL at hvis;rw [if_pos hs] at hvis;cases hvis;exact⟨vV h hnd hx.1 (by omega) hx.2 hv hall,by omega,hl2⟩
  have hx2 : 2 ≤ x := by omega
  obtain⟨n,hn⟩:=hx.get hx2;have hvx:aG D x=n.var:=by unfold aG;rw [if_neg (by omega),hn]
  have hvis0:=hvis;unfold cL at hvis;rw [if_neg hs,hn] at hvis;dsimp only at hvis
  cases e1:cL D f n.lo left with
  | none=>rw [e1] at hvis;cases hvis
  | some l1=>
   rw [e1] at hvis;simp only [Option.bind_some] at hvis
   cases e2:cL D f n.hi l1 with
   | none=>rw [e2] at hvis;cases hvis
   | some l2=>
    rw [e2] at hvis;simp only [Option.bind_some] at hvis;by_cases hxl:x=l2
    ·rw [if_pos hxl] at hvis;have hl':left'=l2+1:=(Option.some.inj hvis).symm;have hlo:=h.lo _ n hn;have hhi:=h.hi _ n hn;have hvars:=h.vars _ n hn;have inlo:InD D n.lo:=⟨hlo.1,by have:=hx.2;omega⟩;have inhi:InD D n.hi:=⟨hhi.1,by have:=hx.2;omega⟩
     have down:∀ (d:Nat) (v:Int) (k:Nat),n.var=v+d→(∀ (i:Nat) (n:Node),D[i]?=some n→n.var < v+k)→aC (D.take (left - 2).toNat) k (fnD D x v) v=(D.take (left' - 2).toNat,x)∧left≤left'∧left'≤(D.length:Int)+2:=by
      intro d
      induction d with
      | zero=>
       intro v k hd hall;have hvn:v=n.var:=by omega
       subst hvn;have hk:=hall _ n hn;obtain⟨q,rfl⟩:∃ q,k=q+1:=⟨k - 1,by omega⟩;have hall':∀ (i:Nat) (z:Node),D[i]?=some z→z.var < n.var+1+q:=λi z hz=>by have:=hall i z hz;omega
       have r1:=mW h hnd f q n.lo (n.var+1) left l1 e1 inlo hl1 hl2 (by omega) hall';have r2:=mW h hnd f q n.hi (n.var+1) l1 l2 e2 inhi (by omega) r1.2.2 (by omega) hall'
       have f0:aC (D.take (left - 2).toNat) q (λl=>fnD D x n.var (false :: l)) (n.var+1)=(D.take (l1 - 2).toNat,n.lo):=by
        rw [bH (g:=fnD D n.lo (n.var+1)) λl _=>vK h hx2 hn l];exact r1.1
       have f1:aC (D.take (l1 - 2).toNat) q (λl=>fnD D x n.var (true :: l)) (n.var+1)=(D.take (l2 - 2).toNat,n.hi):=by
        rw [bH (g:=fnD D n.hi (n.var+1)) λl _=>vL h hx2 hn l];exact r2.1
       refine⟨?_,by omega,by have:=hx.2;omega⟩;show bC (aC (aC (D.take (left - 2).toNat) q (λl=>fnD D x n.var (false :: l)) (n.var+1)).1 q (λl=>fnD D x n.var (true :: l)) (n.var+1)).1 _=_;rw [f0];dsimp only;rw [f1];unfold bC;dsimp only;rw [if_neg (h.ne _ n hn)]
       have hnf:(D.take (l2 - 2).toNat).findIdx? (λm=>decide (m=n))=none:=by
        rw [List.findIdx?_eq_none_iff];intro z hz;refine decide_eq_false λhe=>?_;subst he;obtain⟨i,hi,hie⟩:=List.mem_take_iff_getElem.1 hz;have hxl2:(x - 2).toNat < D.length:=(zQQ.1 hn).1
        have hne:D[i]'(by omega)≠D[(x - 2).toNat]:=by
         unfold List.Nodup at hnd;rw [List.pairwise_iff_getElem] at hnd;exact hnd i _ (by omega) hxl2 (by omega)
        exact hne (by rw [hie,(zQQ.1 hn).2])
       rw [hnf];dsimp only;have hlen:(D.take (l2 - 2).toNat).length=(l2 - 2).toNat:=by rw [List.length_take];have:=hx.2;omega
       rw [hlen,show (((l2 - 2).toNat:Nat):Int)+2=x by omega,show (left' - 2).toNat=(l2 - 2).toNat+1 by omega,List.take_add_one,show (l2 - 2).toNat=(x - 2).toNat by omega,hn];rfl
      | succ d ih=>
       intro v k hd hall;have hk:=hall _ n hn;obtain⟨q,rfl⟩:∃ q,k=q+1:=⟨k - 1,by omega⟩;have hsk:∀ (b:Bool) (l:List Bool),fnD D x v (b :: l)=fnD D x (v+1) l:=λb l=>gG h hx.1 (by omega) b l;rw [nO (hnd.sublist (List.take_sublist _ D)) λl _=>by rw [hsk,hsk],bH (g:=fnD D x (v+1)) λl _=>hsk false l];exact ih (v+1) q (by omega) λi z hz=>by have:=hall i z hz;omega
     exact down (n.var - v).toNat v k (by omega) hall
    rw [if_neg hxl] at hvis;cases hvis
theorem mX {D:List Node} (h:WfD D) (hnd:D.Nodup) {f:Nat} {root:Int} (hr:InD D root) (hv:cL D f root 2=some ((D.length:Int)+2)) {k:Nat} (hall:∀ (i:Nat) (n:Node),D[i]?=some n→n.var < (k:Int)):aC [] k (fnD D root 0) 0=(D,root):=by
 have h0:(0:Int)≤aG D root:=by
  unfold aG;split
  ·omega
  split
  ·rename_i n hn;exact (h.vars _ n hn).1
  omega
 have:=(mW h hnd f k root 0 2 _ hv hr (by omega) (by omega) h0 λi n hn=>by have:=hall i n hn;omega).1;rw [show (D.take (((2:Int) - 2).toNat))=[] from rfl] at this;rw [this,show ((D.length:Int)+2 - 2).toNat=D.length by omega,List.take_length]
def dE (x:Int):Int:=if x < 2 then 1 - x else x
def dP (n:Node):Node:=⟨n.var,dE n.lo,dE n.hi⟩
def NN (D:List Node):Prop:=∀ n∈D,0≤n.lo∧0≤n.hi
theorem oC {x y:Int} (hx:0≤x) (hy:0≤y):dE x=dE y↔x=y:=by unfold dE;split<;>split<;>omega
theorem xV {n m:Node} (hn:0≤n.lo∧0≤n.hi) (hm:0≤m.lo∧0≤m.hi):dP n=dP m↔n=m:=by
 cases n;cases m;simp only [dP,Node.mk.injEq] at *;rw [oC hn.1 hm.1,oC hn.2 hm.2]
theorem qBZ {D:List Node} (h:NN D) {n:Node} (hn:0≤n.lo∧0≤n.hi):NN (bC D n).1∧0≤(bC D n).2:=by
 unfold bC;split
 ·exact⟨h,hn.1⟩
 split
 ·exact⟨h,by dsimp only;omega⟩
 refine ⟨fun m hm => ?_, by dsimp only; omega⟩;rcases zQN.1 hm with hm|hm
 ·exact h m hm
 rw [List.mem_singleton] at hm;subst hm;exact hn
theorem kD:∀ (k:Nat) {D:List Node} (f:Fn) (v:Int),NN D→NN (aC D k f v).1∧0≤(aC D k f v).2
 | 0,D,f,v,h=>⟨h,by show 0≤aZ _;unfold aZ;split<;>omega⟩
 | k+1,D,f,v,h=>by
  have h1:=kD k (λl=>f (false :: l)) (v+1) h;have h2:=kD k (λl=>f (true :: l)) (v+1) h1.1;exact qBZ h2.1 ⟨h1.2,h2.2⟩
theorem zJ {D:List Node} (h:NN D) {n:Node} (hn:0≤n.lo∧0≤n.hi):bC (D.map dP) (dP n)=((bC D n).1.map dP,dE (bC D n).2):=by
 unfold bC;by_cases he:n.lo=n.hi
 ·rw [if_pos (show (dP n).lo = (dP n).hi by show dE n.lo = dE n.hi; rw [he]), if_pos he];rfl
 rw [if_neg (show ¬ (dP n).lo = (dP n).hi by show ¬ dE n.lo = dE n.hi; rw [oC hn.1 hn.2]; exact he), if_neg he, List.findIdx?_map]
 have hc:D.findIdx? ((λm=>decide (m=dP n)) ∘ dP)=D.findIdx? (λm=>decide (m=n)):=by
  have:∀ E:List Node,NN E→E.findIdx? ((λm=>decide (m=dP n)) ∘ dP)=E.findIdx? (λm=>decide (m=n)):=by
   intro E
   induction E with
   | nil=>intro _;rfl
   | cons m r ih=>
    intro hE;rw [List.findIdx?_cons,List.findIdx?_cons,ih λx hx=>hE x (List.mem_cons_of_mem _ hx)]
    have hm:((λm=>decide (m=dP n)) ∘ dP) m=decide (m=n):=by
     show decide (dP m=dP n)=decide (m=n);rw [Bool.eq_iff_iff,decide_eq_true_eq,decide_eq_true_eq,xV (hE m List.mem_cons_self) hn]
    rw [hm]
  exact this D h
 rw [hc]
 cases D.findIdx? (λm=>decide (m=n)) with
 | some i=>dsimp only;rw [show dE ((i:Int)+2)=(i:Int)+2 by unfold dE;rw [if_neg (by omega)]]
 | none=>
  dsimp only;rw [zQC,List.map_append,show dE ((D.length:Int)+2)=(D.length:Int)+2 by unfold dE;rw [if_neg (by omega)]];rfl
theorem nM : ∀ (k : Nat) {D : List Node} (f : Fn) (v : Int), NN D → aC (D.map dP) k (fun l => !f l) v = ((aC D k f v).1.map dP, dE (aC D k f v).2)
 | 0,D,f,v,h=>by
  show (D.map dP,aZ (!f []))=(D.map dP,dE (aZ (f [])));cases f []<;>rfl
 | k+1,D,f,v,h=>by
  have h1:=kD k (λl=>f (false :: l)) (v+1) h;have h2:=kD k (λl=>f (true :: l)) (v+1) h1.1;show bC (aC (aC (D.map dP) k (λl=>!f (false :: l)) (v+1)).1 k (λl=>!f (true :: l)) (v+1)).1 _=_;rw [nM k (λl=>f (false :: l)) (v+1) h];dsimp only;rw [nM k (λl=>f (true :: l)) (v+1) h1.1];dsimp only;exact zJ h2.1 (n:=⟨v,(aC D k (λl=>f (false :: l)) (v+1)).2,(aC (aC D k (λl=>f (false :: l)) (v+1)).1 k (λl=>f (true :: l)) (v+1)).2⟩) ⟨h1.2,h2.2⟩
theorem kT (D:List Node) (n:Node):(bC D n).1.length≤D.length+1:=by
 unfold bC;split
 ·simp
 split
 ·simp
 simp
theorem dQ:∀ (k:Nat) (D:List Node) (f:Fn) (v:Int),(aC D k f v).1.length+1≤D.length+2 ^ k
 | 0,D,f,v=>by show D.length+1≤D.length+2 ^ 0;simp
 | k+1,D,f,v=>by
  have h1:=dQ k D (λl=>f (false :: l)) (v+1);have h2:=dQ k (aC D k (λl=>f (false :: l)) (v+1)).1 (λl=>f (true :: l)) (v+1);have h3:=kT (aC (aC D k (λl=>f (false :: l)) (v+1)).1 k (λl=>f (true :: l)) (v+1)).1 ⟨v,(aC D k (λl=>f (false :: l)) (v+1)).2,(aC (aC D k (λl=>f (false :: l)) (v+1)).1 k (λl=>f (true :: l)) (v+1)).2⟩;have h4:(aC D (k+1) f v).1.length≤(aC (aC D k (λl=>f (false :: l)) (v+1)).1 k (λl=>f (true :: l)) (v+1)).1.length+1:=h3;rw [Nat.pow_succ];omega
section merge
variable (A B:List Node) (op:Bool→Bool→Bool) (N:Int)
def fn2 (x y v:Int):Fn:=λl=>op (fnD A x v l) (fnD B y v l)
def Has2 (D:List Node) (x y r:Int):Prop:=∀ (v:Int) (k:Nat),v+k=N→v≤aG A x→v≤aG B y→Has D k (fn2 A B op x y v) v r
variable {A B} {op N}
theorem oB (hA:WfD A) (hB:WfD B) {x y v:Int} (hx:0≤x) (hy:0≤y) (h1:v < aG A x) (h2:v < aG B y) (b:Bool) (l:List Bool):fn2 A B op x y v (b :: l)=fn2 A B op x y (v+1) l:=by
 unfold fn2;rw [gG hA hx h1,gG hB hy h2]
theorem qAJ (hA:WfD A) (hB:WfD B) {D:List Node} (hn:D.Nodup) {x y r:Int} (hx:0≤x) (hy:0≤y) {v:Int} {k:Nat} (hN:v+k=N) (h1:v≤aG A x) (h2:v≤aG B y) (h:Has D k (fn2 A B op x y v) v r):Has2 A B op N D x y r:=by
 have up:∀ (d:Nat) (v:Int) (k:Nat),v+d+k=N→v+d≤aG A x→v+d≤aG B y→Has D (d+k) (fn2 A B op x y v) v r→Has D k (fn2 A B op x y (v+d)) (v+d) r:=by
  intro d
  induction d with
  | zero=>intro v k _ _ _ h;simpa using h
  | succ d ih=>
   intro v k hN h1 h2 h;have hs:∀ (b:Bool) (l:List Bool),fn2 A B op x y v (b :: l)=fn2 A B op x y (v+1) l:=λb l=>oB hA hB hx hy (by omega) (by omega) b l;rw [show d+1+k=(d+k)+1 by omega] at h;have h':=Has.unskip hn (λl _=>by rw [hs,hs]) h;have h'':=h'.congr (g:=fn2 A B op x y (v+1)) λl _=>hs false l;have:=ih (v+1) k (by omega) (by omega) (by omega) h'';rw [show v+((d+1:Nat):Int)=v+1+(d:Int) by omega];exact this
 have down:∀ (d:Nat) (v:Int) (k:Nat),v+d+k=N→v+d≤aG A x→v+d≤aG B y→Has D k (fn2 A B op x y (v+d)) (v+d) r→Has D (d+k) (fn2 A B op x y v) v r:=by
  intro d
  induction d with
  | zero=>intro v k _ _ _ h;simpa using h
  | succ d ih=>
   intro v k hN h1 h2 h;have hs:∀ (b:Bool) (l:List Bool),fn2 A B op x y v (b :: l)=fn2 A B op x y (v+1) l:=λb l=>oB hA hB hx hy (by omega) (by omega) b l;rw [show v+((d+1:Nat):Int)=v+1+(d:Int) by omega] at h;have:=ih (v+1) k (by omega) (by omega) (by omega) h;rw [show d+1+k=(d+k)+1 by omega];exact Has.skip (λl _=>by rw [hs,hs]) (this.congr λl _=>(hs false l).symm)
 intro v' k' hN' h1' h2';rcases Int.lt_or_le v v' with hlt|hle
 ·have := up (v' - v).toNat v k' (by omega) (by omega) (by omega) (by rw [show (v' - v).toNat + k' = k by omega]; exact h)
  rwa [show v+((v' - v).toNat:Int)=v' by omega] at this
 have := down (v - v').toNat v' k (by omega) (by omega) (by omega) (by rw [show v' + ((v - v').toNat : Int) = v by omega]; exact h)
 rwa [show (v - v').toNat+k=k' by omega] at this
theorem Has2.mono {D E:List Node} (h:D <+: E) {x y r:Int} (hh:Has2 A B op N D x y r):Has2 A B op N E x y r:=λv k hN h1 h2=>(hh v k hN h1 h2).mono h
end merge
structure MS where
 nodes:List Node
 done:Int×Int→Option Int
 full:Bool
def cF (D:List Node) (x v:Int):Int×Int:=if aG D x=v then (match D[(x - 2).toNat]? with|some n=>(n.lo,n.hi)|none=>(x,x)) else (x,x)
def opQ (all:Bool):Bool→Bool→Bool:=λa b=>if all=true then a&&b else a||b
def cT (A B:List Node) (all:Bool):Nat→MS→Int→Int→MS×Int
 | 0,s,_,_=>(s,0)
 | f+1,s,x,y=>
  if s.full=true then (s,0)
  else if x=aZ (!all)∨y=aZ (!all) then (s,aZ (!all))
  else if x=aZ all∧y=aZ all then (s,aZ all)
  else match s.done (x,y) with
  | some r=>(s,r)
  | none=>
   let w:=min (aG A x) (aG B y)
   let a:=cT A B all f s (cF A x w).1 (cF B y w).1
   let b:=cT A B all f a.1 (cF A x w).2 (cF B y w).2
   let c:=bC b.1.nodes ⟨w,a.2,b.2⟩
   (⟨c.1,λp=>if p=(x,y) then some c.2 else b.1.done p,b.1.full||decide (20000 < c.1.length)⟩,c.2)
section
variable {A B:List Node} {all:Bool} {N:Int}
structure MOk (A B:List Node) (all:Bool) (N:Int) (s:MS):Prop where
 nodup:s.nodes.Nodup
 part:s.full=false
 done:∀ x y r,s.done (x,y)=some r→InD A x∧InD B y∧Has2 A B (opQ all) N s.nodes x y r
theorem kN {D:List Node} {x:Int} (h:InD D x) (hx:x < 2):x=aZ (decide (x=1))∧∀ (v:Int) (l:List Bool),fnD D x v l=decide (x=1):=by
 have h0:=h.1;rcases (by omega:x=0∨x=1) with e|e<;>subst e
 ·exact⟨rfl,λv l=>rfl⟩
 exact⟨rfl,λv l=>rfl⟩
theorem xW (all b:Bool):opQ all (!all) b=!all∧opQ all b (!all)=!all:=by cases all<;>cases b<;>exact⟨rfl,rfl⟩
theorem op_oth (all:Bool):opQ all all all=all:=by cases all<;>rfl
theorem uF (D:List Node) (b:Bool) (v:Int) (l:List Bool):fnD D (aZ b) v l=b:=uT D _ b
theorem vE (hA:WfD A) (hB:WfD B) {op:Bool→Bool→Bool} {D:List Node} (hn:D.Nodup) {x y:Int} (hx:0≤x) (hy:0≤y):∀ (d:Nat) (v:Int) (k:Nat),v+d≤aG A x→v+d≤aG B y→aC D (d+k) (fn2 A B op x y v) v=aC D k (fn2 A B op x y (v+d)) (v+d)
 | 0,v,k,_,_=>by simp
 | d+1,v,k,h1,h2=>by
  have hs:∀ (b:Bool) (l:List Bool),fn2 A B op x y v (b :: l)=fn2 A B op x y (v+1) l:=λb l=>oB hA hB hx hy (by omega) (by omega) b l;rw [show d+1+k=(d+k)+1 by omega,nO hn λl _=>by rw [hs,hs],bH (g:=fn2 A B op x y (v+1)) λl _=>hs false l,vE hA hB hn hx hy d (v+1) k (by omega) (by omega)];rw [show v+1+(d:Int)=v+((d+1:Nat):Int) by omega]
theorem mN {D:List Node} (h:WfD D) {x w:Int} (hx:InD D x) (hw:w≤aG D x) (hw2:w < 64):InD D (cF D x w).1∧InD D (cF D x w).2∧w+1≤aG D (cF D x w).1∧w+1≤aG D (cF D x w).2∧(∀ l,fnD D x w (false :: l)=fnD D (cF D x w).1 (w+1) l)∧(∀ l,fnD D x w (true :: l)=fnD D (cF D x w).2 (w+1) l):=by
 unfold cF;by_cases he:aG D x=w
 ·rw [if_pos he]
  have h2:2≤x:=by
   rcases Int.lt_or_le x 2 with h1|h1
   ·unfold aG at he;rw [if_pos h1] at he;omega
   exact h1
  obtain⟨n,hn⟩:=hx.get h2;have hvx:aG D x=n.var:=by unfold aG;rw [if_neg (by omega),hn]
  have hl:=h.lo _ n hn;have hh:=h.hi _ n hn;rw [hn];dsimp only;have hwn:w=n.var:=by omega
  subst hwn;exact⟨⟨hl.1,by have:=hx.2;omega⟩,⟨hh.1,by have:=hx.2;omega⟩,by omega,by omega,vK h h2 hn,vL h h2 hn⟩
 rw [if_neg he];exact⟨hx,hx,by dsimp only;omega,by dsimp only;omega,λl=>gG h hx.1 (by omega) false l,λl=>gG h hx.1 (by omega) true l⟩
theorem fC (hA:WfD A) (hB:WfD B) (hN:N≤64) (hAN:∀ (i:Nat) (n:Node),A[i]?=some n→n.var < N) (hBN:∀ (i:Nat) (n:Node),B[i]?=some n→n.var < N):∀ (f:Nat) (s:MS) (x y v:Int) (k:Nat),65≤(f:Int)+min (aG A x) (aG B y)→InD A x→InD B y→MOk A B all N s→v+k=N→v≤aG A x→v≤aG B y→s.nodes.length+2 ^ k≤20001→
  ((cT A B all f s x y).1.nodes,(cT A B all f s x y).2)=aC s.nodes k (fn2 A B (opQ all) x y v) v∧MOk A B all N (cT A B all f s x y).1
 | 0,s,x,y,v,k,hf,hx,hy,hs,hv,h1,h2,hlen=>by
  have:=dI hA x;omega
 | f+1,s,x,y,v,k,hf,hx,hy,hs,hv,h1,h2,hlen=>by
  unfold cT;rw [if_neg (by rw [hs.part];exact Bool.false_ne_true)];by_cases hd:x=aZ (!all)∨y=aZ (!all)
  ·rw [if_pos hd];refine⟨?_,hs⟩;rw [lW hs.nodup (!all) λl _=>?_];unfold fn2;rcases hd with e|e<;>rw [e,uF]
   ·exact (xW all _).1
   exact (xW all _).2
  rw [if_neg hd];by_cases ho:x=aZ all∧y=aZ all
  ·rw [if_pos ho];refine⟨?_,hs⟩;rw [lW hs.nodup all λl _=>?_];unfold fn2;rw [ho.1,ho.2,uF,uF];exact op_oth all
  rw [if_neg ho]
  cases hm:s.done (x,y) with
  | some r=>
   dsimp only;refine⟨?_,hs⟩;exact (bQ hs.nodup ((hs.done x y r hm).2.2 v k hv h1 h2)).symm
  | none=>
   dsimp only;have hvA:=dI hA x;have hvB:=dI hB y
   have hlt:min (aG A x) (aG B y) < N:=by
    rcases Int.lt_or_le x 2 with hx2|hx2
    ·rcases Int.lt_or_le y 2 with hy2|hy2
     ·exfalso;have cx:=(kN hx hx2).1;have cy:=(kN hy hy2).1;have bb:∀ b:Bool,aZ b=aZ all∨aZ b=aZ (!all):=λb=>by cases b<;>cases all<;>simp [aZ]
      rcases bb (decide (x=1)) with e1|e1
      ·rcases bb (decide (y=1)) with e2|e2
       ·exact ho ⟨cx.trans e1,cy.trans e2⟩
       exact hd (.inr (cy.trans e2))
      exact hd (.inl (cx.trans e1))
     obtain⟨n,hn⟩:=hy.get hy2;have:aG B y=n.var:=by unfold aG;rw [if_neg (by omega),hn]
     have:=hBN _ n hn;omega
    obtain⟨n,hn⟩:=hx.get hx2;have:aG A x=n.var:=by unfold aG;rw [if_neg (by omega),hn]
    have:=hAN _ n hn;omega
   obtain⟨w,hw⟩:∃ w,w=min (aG A x) (aG B y):=⟨_,rfl⟩;rw [← hw];rw [← hw] at hlt hf;obtain⟨d,hdv⟩:∃ d:Nat,w=v+d:=⟨(w - v).toNat,by omega⟩;obtain⟨q,hq⟩:∃ q:Nat,k=d+(q+1):=⟨k - d - 1,by omega⟩;have KA:=mN hA hx (w:=w) (by omega) (by omega);have KB:=mN hB hy (w:=w) (by omega) (by omega);have hpow:2 ^ (q+1)≤2 ^ k:=Nat.pow_le_pow_right (by omega) (by omega);rw [Nat.pow_succ] at hpow;have h2q:0 < 2 ^ q:=Nat.pos_of_ne_zero (by simp)
   have e0:aC s.nodes k (fn2 A B (opQ all) x y v) v=aC s.nodes (q+1) (fn2 A B (opQ all) x y w) w:=by
    rw [hq,vE hA hB hs.nodup hx.1 hy.1 d v (q+1) (by omega) (by omega),← hdv]
   have f0:∀ l:List Bool,fn2 A B (opQ all) x y w (false :: l)=fn2 A B (opQ all) (cF A x w).1 (cF B y w).1 (w+1) l:=λl=>by unfold fn2;rw [KA.2.2.2.2.1,KB.2.2.2.2.1]
   have f1:∀ l:List Bool,fn2 A B (opQ all) x y w (true :: l)=fn2 A B (opQ all) (cF A x w).2 (cF B y w).2 (w+1) l:=λl=>by unfold fn2;rw [KA.2.2.2.2.2,KB.2.2.2.2.2]
   have r1:=fC hA hB hN hAN hBN f s (cF A x w).1 (cF B y w).1 (w+1) q (by omega) KA.1 KB.1 hs (by omega) KA.2.2.1 KB.2.2.1 (by omega);generalize cT A B all f s (cF A x w).1 (cF B y w).1=a at r1;have l1:=dQ q s.nodes (fn2 A B (opQ all) (cF A x w).1 (cF B y w).1 (w+1)) (w+1);rw [← r1.1] at l1;dsimp only at l1;have r2:=fC hA hB hN hAN hBN f a.1 (cF A x w).2 (cF B y w).2 (w+1) q (by omega) KA.2.1 KB.2.1 r1.2 (by omega) KA.2.2.2.1 KB.2.2.2.1 (by omega);generalize cT A B all f a.1 (cF A x w).2 (cF B y w).2=b at r2;have l2:=dQ q a.1.nodes (fn2 A B (opQ all) (cF A x w).2 (cF B y w).2 (w+1)) (w+1);rw [← r2.1] at l2;dsimp only at l2
   have e1:aC s.nodes (q+1) (fn2 A B (opQ all) x y w) w=bC b.1.nodes ⟨w,a.2,b.2⟩:=by
    show bC (aC (aC s.nodes q (λl=>fn2 A B (opQ all) x y w (false :: l)) (w+1)).1 q (λl=>fn2 A B (opQ all) x y w (true :: l)) (w+1)).1 _=_;rw [bH (g:=fn2 A B (opQ all) (cF A x w).1 (cF B y w).1 (w+1)) λl _=>f0 l,← r1.1];dsimp only;rw [bH (g:=fn2 A B (opQ all) (cF A x w).2 (cF B y w).2 (w+1)) λl _=>f1 l,← r2.1]
   have hp:s.nodes <+: (bC b.1.nodes ⟨w,a.2,b.2⟩).1:=by rw [← e1];exact aV _ _ _ _
   have hp2:=fL b.1.nodes ⟨w,a.2,b.2⟩;have hnd:=oQ r2.2.nodup ⟨w,a.2,b.2⟩;have hl:=kT b.1.nodes ⟨w,a.2,b.2⟩
   have hhas:Has (bC b.1.nodes ⟨w,a.2,b.2⟩).1 k (fn2 A B (opQ all) x y v) v (bC b.1.nodes ⟨w,a.2,b.2⟩).2:=by
    have:=bM k s.nodes (fn2 A B (opQ all) x y v) v;rw [e0,e1] at this;exact this
   refine⟨by rw [e0,e1],hnd,?_,λx' y' r' hr'=>?_⟩
   ·dsimp only;rw [r2.2.part,Bool.false_or];exact decide_eq_false (by omega)
   dsimp only at hr' ⊢;by_cases he:(x',y')=(x,y)
   ·rw [if_pos he] at hr';cases hr';obtain⟨rfl,rfl⟩:=Prod.mk.inj he;exact⟨hx,hy,qAJ hA hB hnd hx.1 hy.1 hv h1 h2 hhas⟩
   rw [if_neg he] at hr';have:=r2.2.done x' y' r' hr';exact⟨this.1,this.2.1,this.2.2.mono hp2⟩
end
theorem eO {D:List Node} (h:WfD D):∀ {k:Nat} {f:Fn} {v x:Int},Has D k f v x→0≤x∧x < (D.length:Int)+2∧(aG D x < 64→v≤aG D x∧aG D x < v+k)∧∀ l,l.length=k→eJ D x (asg v l)=f l
 | 0,f,v,x,hh=>by
  have hx:x=aZ (f []):=hh;have hb:x=0∨x=1:=by rw [hx];unfold aZ;split<;>simp
  have hv:aG D x=64:=by unfold aG;rw [if_pos (by omega)]
  refine⟨by omega,by omega,λh=>by omega,λl hl=>?_⟩;rw [hx,uT,List.eq_nil_of_length_eq_zero hl]
 | k+1,f,v,x,⟨lo,hi,h1,h2,h3⟩=>by
  have r1:=eO h h1;have r2:=eO h h2;by_cases he:lo=hi
  ·rw [if_pos he] at h3;subst h3;refine⟨r1.1,r1.2.1,λhlt=>by have:=r1.2.2.1 hlt;omega,λl hl=>?_⟩
   cases l with
   | nil=>cases hl
   | cons b l=>
    have hl':l.length=k:=by simpa using hl
    have hcg : eJ D x (asg v (b :: l)) = eJ D x (asg (v + 1) l) := dB h x.toNat x r1.1 (zQW _) fun w hw hw2 => fV (by
     have := r1.2.2.1 (by have := dI h x; omega)
     omega)
    rw [hcg];cases b
    ·exact r1.2.2.2 l hl'
    rw [← he] at r2;exact r2.2.2.2 l hl'
  rw [if_neg he] at h3;obtain⟨hx2,hn⟩:=h3;have hvx:aG D x=v:=by unfold aG;rw [if_neg (by omega),hn]
  have hlen:=(zQQ.1 hn).1;refine⟨by omega,by omega,λ_=>by omega,λl hl=>?_⟩
  cases l with
  | nil=>cases hl
  | cons b l=>
   have hl':l.length=k:=by simpa using hl
   cases b
   ·have:=vK h hx2 hn l;dsimp only at this;exact this.trans (r1.2.2.2 l hl')
   have:=vL h hx2 hn l;dsimp only at this;exact this.trans (r2.2.2.2 l hl')
theorem eZ {D E:List Node} (h:D <+: E) {x:Int} (hx:x < (D.length:Int)+2):aG E x=aG D x:=by
 obtain⟨t,rfl⟩:=h;unfold aG;split
 ·rfl
 rw [List.getElem?_append_left (by omega)]
theorem qBX {D:List Node} (h:WfD D) {n:Node} (hv:0≤n.var∧n.var < 64) (hl:0≤n.lo∧n.lo < (D.length:Int)+2∧n.var < aG D n.lo) (hh:0≤n.hi∧n.hi < (D.length:Int)+2∧n.var < aG D n.hi):WfD (bC D n).1:=by
 unfold bC;by_cases he:n.lo=n.hi
 ·rw [if_pos he];exact h
 rw [if_neg he];split
 ·exact h
 dsimp only;have hp:D <+: D++[n]:=List.prefix_append _ _
 have hc:∀ (i:Nat) (m:Node),(D++[n])[i]?=some m→D[i]?=some m∧i < D.length∨i=D.length∧m=n:=λi m hm=>by
  rcases Nat.lt_or_ge i D.length with h1|h1
  ·rw [List.getElem?_append_left h1] at hm;exact .inl ⟨hm,h1⟩
  rw [List.getElem?_append_right h1] at hm;rcases Nat.eq_or_lt_of_le h1 with h2|h2
  ·rw [← h2,Nat.sub_self] at hm;exact .inr ⟨h2.symm,(Option.some.inj hm).symm⟩
  rw [List.getElem?_eq_none (by simp;omega)] at hm;cases hm
 refine⟨λi m hm=>?_,λi m hm=>?_,λi m hm=>?_,λi m hm=>?_⟩
 ·rcases hc i m hm with ⟨h1,_⟩|⟨_,rfl⟩
  ·exact h.vars i m h1
  exact hv
 ·rcases hc i m hm with ⟨h1,h2⟩|⟨rfl,rfl⟩
  ·have:=h.lo i m h1;rw [eZ hp (by omega)];exact this
  rw [eZ hp (by omega)];exact hl
 ·rcases hc i m hm with ⟨h1,h2⟩|⟨rfl,rfl⟩
  ·have:=h.hi i m h1;rw [eZ hp (by omega)];exact this
  rw [eZ hp (by omega)];exact hh
 rcases hc i m hm with ⟨h1,_⟩|⟨_,rfl⟩
 ·exact h.ne i m h1
 exact he
theorem fQ:∀ (k:Nat) {D:List Node} (f:Fn) (v:Int),WfD D→0≤v→v+k≤64→WfD (aC D k f v).1
 | 0,D,f,v,h,_,_=>h
 | k+1,D,f,v,h,h0,h64=>by
  have w1:=fQ k (λl=>f (false :: l)) (v+1) h (by omega) (by omega);have w2:=fQ k (λl=>f (true :: l)) (v+1) w1 (by omega) (by omega);have a1:=(bM k D (λl=>f (false :: l)) (v+1)).mono (aV k (aC D k (λl=>f (false :: l)) (v+1)).1 (λl=>f (true :: l)) (v+1));have a2:=bM k (aC D k (λl=>f (false :: l)) (v+1)).1 (λl=>f (true :: l)) (v+1);have r1:=eO w2 a1;have r2:=eO w2 a2;have q1:=dI w2 (aC D k (λl=>f (false :: l)) (v+1)).2;have q2:=dI w2 (aC (aC D k (λl=>f (false :: l)) (v+1)).1 k (λl=>f (true :: l)) (v+1)).2;refine qBX w2 (n:=⟨v,(aC D k (λl=>f (false :: l)) (v+1)).2,(aC (aC D k (λl=>f (false :: l)) (v+1)).1 k (λl=>f (true :: l)) (v+1)).2⟩) ⟨h0,by show v < 64;omega⟩ ⟨r1.1,r1.2.1,?_⟩ ⟨r2.1,r2.2.1,?_⟩
  ·dsimp only;have:=r1.2.2.1;omega
  dsimp only;have:=r2.2.2.1;omega
theorem fB:∀ (k:Nat) (D:List Node) (f:Fn) (v:Int) (i:Nat) (n:Node),(aC D k f v).1[i]?=some n→i < D.length∨v≤n.var∧n.var < v+k
 | 0,D,f,v,i,n,h=>.inl (zQQ.1 h).1
 | k+1,D,f,v,i,n,h=>by
  have s1:=fB k D (λl=>f (false :: l)) (v+1);have s2:=fB k (aC D k (λl=>f (false :: l)) (v+1)).1 (λl=>f (true :: l)) (v+1);have p1:=aV k D (λl=>f (false :: l)) (v+1);have h':(bC (aC (aC D k (λl=>f (false :: l)) (v+1)).1 k (λl=>f (true :: l)) (v+1)).1 ⟨v,(aC D k (λl=>f (false :: l)) (v+1)).2,(aC (aC D k (λl=>f (false :: l)) (v+1)).1 k (λl=>f (true :: l)) (v+1)).2⟩).1[i]?=some n:=h
  have two:∀ (i:Nat) (n:Node),(aC (aC D k (λl=>f (false :: l)) (v+1)).1 k (λl=>f (true :: l)) (v+1)).1[i]?=some n→i < D.length∨v≤n.var∧n.var < v+((k+1:Nat):Int):=λi n hn=>by
   rcases s2 i n hn with h1|h1
   ·have hp2 := aV k (aC D k (fun l => f (false :: l)) (v + 1)).1 (fun l => f (true :: l)) (v + 1)
    have hn1:(aC D k (λl=>f (false :: l)) (v+1)).1[i]?=some n:=by
     rw [← hn,fA hp2 (zQR h1),zQR h1]
    rcases s1 i n hn1 with h2|h2
    ·exact .inl h2
    exact .inr ⟨by omega,by omega⟩
   exact .inr ⟨by omega,by omega⟩
  unfold bC at h';dsimp only at h';split at h'
  ·exact two i n h'
  split at h'
  ·exact two i n h'
  dsimp only at h';rcases Nat.lt_or_ge i (aC (aC D k (λl=>f (false :: l)) (v+1)).1 k (λl=>f (true :: l)) (v+1)).1.length with h1|h1
  ·rw [List.getElem?_append_left h1] at h';exact two i n h'
  rw [List.getElem?_append_right h1] at h'
  have hi0:i - (aC (aC D k (λl=>f (false :: l)) (v+1)).1 k (λl=>f (true :: l)) (v+1)).1.length=0:=by
   have:=(zQQ.1 h').1;simpa using this
  rw [hi0] at h';have:=Option.some.inj h';subst this;exact .inr ⟨Int.le_refl _,by show v < v+((k+1:Nat):Int);omega⟩
def iR (f:Fn):Nat→List Bool
 | 0=>[f []]
 | k+1=>iR (λl=>f (false :: l)) k++iR (λl=>f (true :: l)) k
theorem jV:∀ (k:Nat) (f:Fn),(iR f k).length=2 ^ k
 | 0,f=>rfl
 | k+1,f=>by rw [iR,zQL,jV k,jV k,Nat.pow_succ];omega
def nW:Nat→List (List Bool)
 | 0=>[[]]
 | k+1=>(nW k).map (false :: ·)++(nW k).map (true :: ·)
theorem pT:∀ (k:Nat) (f:Fn),iR f k=(nW k).map f
 | 0,f=>rfl
 | k+1,f=>by rw [iR,nW,List.map_append,List.map_map,List.map_map,pT k,pT k];rfl
def eE (D:List Node):Nat→List Bool→Int→List Node×Int
 | 0,T,_=>(D,aZ (T.getD 0 false))
 | k+1,T,v=>
  let a:=eE D k (T.take (2 ^ k)) (v+1)
  let b:=eE a.1 k (T.drop (2 ^ k)) (v+1)
  bC b.1 ⟨v,a.2,b.2⟩
theorem nN:∀ (k:Nat) (D:List Node) (f:Fn) (v:Int),eE D k (iR f k) v=aC D k f v
 | 0,D,f,v=>rfl
 | k+1,D,f,v=>by
  show bC (eE (eE D k ((iR f (k+1)).take (2 ^ k)) (v+1)).1 k ((iR f (k+1)).drop (2 ^ k)) (v+1)).1 _=bC (aC (aC D k (λl=>f (false :: l)) (v+1)).1 k (λl=>f (true :: l)) (v+1)).1 _;rw [show (iR f (k+1)).take (2 ^ k)=iR (λl=>f (false :: l)) k by rw [iR,← jV k (λl=>f (false :: l)),List.take_left],show (iR f (k+1)).drop (2 ^ k)=iR (λl=>f (true :: l)) k by rw [iR,← jV k (λl=>f (false :: l)),List.drop_left],nN k,nN k]
theorem mY {D E:List Node} (h:D <+: E) (hE:WfD E) {x:Int} (h0:0≤x) (hx:x < (D.length:Int)+2) (s:Int→Bool):eJ D x s=eJ E x s:=by
 have:D=E.take D.length:=by obtain⟨t,rfl⟩:=h;simp
 conv=>lhs;rw [this]
 exact jT hE D.length s x.toNat x h0 (zQW _) hx
theorem qAI {D E:List Node} (hp:D <+: E) (hD:WfD D) (hE:WfD E) {k:Nat} {f:Fn} {v x:Int} (hall:∀ (i:Nat) (n:Node),D[i]?=some n→n.var < v+k) (h64:v+k≤64) (h:Has E k f v x) (hx:x < (D.length:Int)+2):Has D k f v x:=by
 have r:=eO hE h;have hv:=eZ hp hx;have hvl:=dI hE x;refine (fT hD k x v ⟨r.1,hx⟩ ?_ (λhlt=>?_) hall).congr λl hl=>?_
 ·rw [← hv];rcases Int.lt_or_le (aG E x) 64 with h1|h1
  ·exact (r.2.2.1 h1).1
  omega
 ·rw [← hv] at hlt ⊢;exact (r.2.2.1 hlt).2
 show eJ D x (asg v l)=f l;rw [mY hp hE r.1 hx,r.2.2.2 l hl]
theorem lH:∀ (k:Nat) (D:List Node) (f:Fn) (v:Int) (F:List Node) (q:Nat),WfD D→D.Nodup→0≤v→v+k≤64→(∀ (i:Nat) (n:Node),D[i]?=some n→n.var < v+k)→(aC D k f v).1 <+: F→WfD F→k+1≤q→cL F q (aC D k f v).2 ((D.length:Int)+2)=some (((aC D k f v).1.length:Int)+2)
 | 0,D,f,v,F,q,hD,hn,h0,h64,hall,hF,hFw,hq=>by
  obtain⟨q,rfl⟩:∃ z,q=z+1:=⟨q - 1,by omega⟩;show cL F (q+1) (aZ (f [])) _=some ((D.length:Int)+2);unfold cL;rw [if_pos (.inl (by unfold aZ;split<;>omega))]
 | k+1,D,f,v,F,q,hD,hn,h0,h64,hall,hF,hFw,hq=>by
  obtain⟨q,rfl⟩:∃ z,q=z+1:=⟨q - 1,by omega⟩;have wE:=fQ (k+1) f v hD h0 (by omega);have hhas:=bM (k+1) D f v;have hpD:=aV (k+1) D f v;have rE:=eO wE hhas;by_cases hx:(aC D (k+1) f v).2 < (D.length:Int)+2
  ·have hold := qAI hpD hD wE hall (by omega) hhas hx;have hid:=bQ hn hold;unfold cL;rw [if_pos (.inr hx)];rw [show (aC D (k+1) f v).1=D from by rw [hid]]
  have w1 := fQ k (fun l => f (false :: l)) (v + 1) hD (by omega) (by omega);have n1:=eF k (λl=>f (false :: l)) (v+1) hn;have vs1:=fB k D (λl=>f (false :: l)) (v+1);have hh1:=bM k D (λl=>f (false :: l)) (v+1);have ih1:=lH k D (λl=>f (false :: l)) (v+1)
  have hall1:∀ (i:Nat) (n:Node),(aC D k (λl=>f (false :: l)) (v+1)).1[i]?=some n→n.var < v+1+(k:Int):=λi n hin=>by
   rcases vs1 i n hin with h1|h1
   ·have hp1 := aV k D (fun l => f (false :: l)) (v + 1);have:D[i]?=some n:=by rw [← hin,fA hp1 (zQR h1),zQR h1]
    have:=hall i n this;omega
   omega
  have hp1:=aV k D (λl=>f (false :: l)) (v+1);have hE:aC D (k+1) f v=bC (aC (aC D k (λl=>f (false :: l)) (v+1)).1 k (λl=>f (true :: l)) (v+1)).1 ⟨v,(aC D k (λl=>f (false :: l)) (v+1)).2,(aC (aC D k (λl=>f (false :: l)) (v+1)).1 k (λl=>f (true :: l)) (v+1)).2⟩:=rfl;rw [hE] at hx hF wE rE ⊢;generalize aC D k (λl=>f (false :: l)) (v+1)=a at *;obtain⟨D1,lo⟩:=a;dsimp only at *;have w2:=fQ k (λl=>f (true :: l)) (v+1) w1 (by omega) (by omega);have vs2:=fB k D1 (λl=>f (true :: l)) (v+1);have hh2:=bM k D1 (λl=>f (true :: l)) (v+1);have ih2:=lH k D1 (λl=>f (true :: l)) (v+1);have hp2:=aV k D1 (λl=>f (true :: l)) (v+1);have hid2:∀ x,Has D1 k (λl=>f (true :: l)) (v+1) x→aC D1 k (λl=>f (true :: l)) (v+1)=(D1,x):=λx h=>bQ n1 h;generalize aC D1 k (λl=>f (true :: l)) (v+1)=b at *;obtain⟨D2,hi⟩:=b;dsimp only at *;by_cases he:lo=hi
  ·have hadd : bC D2 ⟨v, lo, hi⟩ = (D2, lo) := by unfold bC; rw [if_pos he]
   rw [hadd] at hx hF wE rE ⊢;dsimp only at *;have r1:=eO w1 hh1;have r2:=eO w2 hh2
   have hsame:Has D1 k (λl=>f (true :: l)) (v+1) lo:=hh1.congr λl hl=>by
    rw [← r1.2.2.2 l hl,← r2.2.2.2 l hl,mY hp2 w2 r1.1 r1.2.1,he]
   have hD2:=(Prod.mk.inj (hid2 lo hsame)).1;rw [hD2] at hF ⊢;exact ih1 F (q+1) hD hn (by omega) (by omega) (λi n hin=>by have:=hall i n hin;omega) hF hFw (by omega)
  have hadd:bC D2 ⟨v,lo,hi⟩=match D2.findIdx? (λm=>decide (m=⟨v,lo,hi⟩)) with|some i=>(D2,(i:Int)+2)|none=>(D2++[⟨v,lo,hi⟩],(D2.length:Int)+2):=by
   unfold bC;dsimp only;exact if_neg he
  cases hf:D2.findIdx? (λm=>decide (m=(⟨v,lo,hi⟩:Node))) with
  | some i=>
   exfalso;rw [hf] at hadd;rw [hadd] at hx;dsimp only at hx;rw [List.findIdx?_eq_some_iff_getElem] at hf;obtain⟨hil,hie,_⟩:=hf;have hin:D2[i]?=some ⟨v,lo,hi⟩:=by rw [zQR hil,of_decide_eq_true hie]
   rcases vs2 i _ hin with h1|h1
   ·have hin1 : D1[i]? = some ⟨v, lo, hi⟩ := by rw [← hin, fA hp2 (zQR h1), zQR h1]
    rcases vs1 i _ hin1 with h2|h2
    ·omega
    dsimp only at h2;omega
   dsimp only at h1;omega
  | none=>
   rw [hf] at hadd;rw [hadd] at hx hF wE rE ⊢;dsimp only at *;have hp3:D2 <+: D2++[(⟨v,lo,hi⟩:Node)]:=List.prefix_append _ _;have g1:=ih1 F q hD hn (by omega) (by omega) (λi n hin=>by have:=hall i n hin;omega) ((hp2.trans hp3).trans hF) hFw (by omega);have g2:=ih2 F q w1 n1 (by omega) (by omega) hall1 (hp3.trans hF) hFw (by omega);unfold cL;rw [if_neg (by omega),show ((D2.length:Int)+2 - 2).toNat=D2.length by omega,fA hF (i:=D2.length) (n:=⟨v,lo,hi⟩) (by simp)];dsimp only;rw [g1];simp only [Option.bind_some];rw [g2];simp only [Option.bind_some];rw [if_pos trivial,zQL];simp only [List.length_cons,List.length_nil]
   congr 1
def cC (f:Fn):Nat→Nat
 | 0=>if f []=true then 1 else 0
 | k+1=>cC (λl=>f (false :: l)) k+cC (λl=>f (true :: l)) k
theorem cZ:∀ {k:Nat} {f g:Fn},(∀ l,l.length=k→f l=g l)→cC f k=cC g k
 | 0,f,g,h=>by unfold cC;rw [h [] rfl]
 | k+1,f,g,h=>by
  unfold cC;rw [cZ (k:=k) (f:=λl=>f (false :: l)) (g:=λl=>g (false :: l)) λl hl=>h _ (by simp [hl]),cZ (k:=k) (f:=λl=>f (true :: l)) (g:=λl=>g (true :: l)) λl hl=>h _ (by simp [hl])]
theorem yS {D:List Node} (h:WfD D) {x:Int} (hx:0≤x):∀ (d:Nat) (v:Int) (k:Nat),v+d≤aG D x→cC (fnD D x v) (d+k)=2 ^ d * cC (fnD D x (v+d)) k
 | 0,v,k,_=>by simp
 | d+1,v,k,hv=>by
  have hs:∀ (b:Bool) (l:List Bool),fnD D x v (b :: l)=fnD D x (v+1) l:=λb l=>gG h hx (by omega) b l;rw [show d+1+k=(d+k)+1 by omega];show cC (λl=>fnD D x v (false :: l)) (d+k)+cC (λl=>fnD D x v (true :: l)) (d+k)=_;rw [cZ (g:=fnD D x (v+1)) λl _=>hs false l,cZ (f:=λl=>fnD D x v (true :: l)) (g:=fnD D x (v+1)) λl _=>hs true l,yS h hx d (v+1) k (by omega),show v+1+(d:Int)=v+((d+1:Nat):Int) by omega,Nat.pow_succ];rw [Nat.mul_right_comm];omega
theorem yV {D:List Node} (h:WfD D) {x:Int} {n:Node} (hx:2≤x) (hn:D[(x - 2).toNat]?=some n) (k:Nat):cC (fnD D x n.var) (k+1)=cC (fnD D n.lo (n.var+1)) k+cC (fnD D n.hi (n.var+1)) k:=by
 show cC (λl=>fnD D x n.var (false :: l)) k+cC (λl=>fnD D x n.var (true :: l)) k=_;rw [cZ (g:=fnD D n.lo (n.var+1)) λl _=>vK h hx hn l,cZ (f:=λl=>fnD D x n.var (true :: l)) (g:=fnD D n.hi (n.var+1)) λl _=>vL h hx hn l]
theorem qR:∀ (k:Nat) (f:Fn),cC f k≤2 ^ k
 | 0,f=>by unfold cC;split<;>simp
 | k+1,f=>by
  have h1:=qR k (λl=>f (false :: l));have h2:=qR k (λl=>f (true :: l));show cC (λl=>f (false :: l)) k+cC (λl=>f (true :: l)) k≤_;rw [Nat.pow_succ];omega
theorem qQ : ∀ (k : Nat) (f : Fn), cC f k + cC (fun l => !f l) k = 2 ^ k
 | 0,f=>by unfold cC;cases f []<;>simp
 | k+1,f=>by
  have h1:=qQ k (λl=>f (false :: l));have h2:=qQ k (λl=>f (true :: l));show (cC (λl=>f (false :: l)) k+cC (λl=>f (true :: l)) k)+(cC (λl=>!f (false :: l)) k+cC (λl=>!f (true :: l)) k)=_;rw [Nat.pow_succ];omega
def bS (N:Nat) (f:Fn):List Node×Int:=aC [] N f 0
theorem xA:WfD []:=⟨λi n h=>by simp at h,λi n h=>by simp at h,λi n h=>by simp at h,λi n h=>by simp at h⟩
structure MakeOk (N:Nat) (f:Fn) (D:List Node) (x:Int):Prop where
 wf:WfD D
 nodup:D.Nodup
 root:InD D x
 vars:∀ (i:Nat) (n:Node),D[i]?=some n→n.var < (N:Int)
 low:0≤aG D x
 val:∀ l,l.length=N→fnD D x 0 l=f l
 len:D.length+1≤2 ^ N
 order:∀ q,N+1≤q→cL D q x 2=some ((D.length:Int)+2)
theorem kG (N:Nat) (f:Fn) (hN:N≤64):MakeOk N f (bS N f).1 (bS N f).2:=by
 have w:=fQ N f 0 xA (by omega) (by omega);have hh:=bM N [] f 0;have r:=eO w hh;have vl:=dI w (aC [] N f 0).2;refine⟨w,eF N f 0 List.nodup_nil,⟨r.1,r.2.1⟩,λi n hn=>?_,?_,r.2.2.2,?_,λq hq=>?_⟩
 ·rcases fB N [] f 0 i n hn with h|h
  ·simp at h
  omega
 ·rcases Int.lt_or_le (aG (aC [] N f 0).1 (aC [] N f 0).2) 64 with h|h
  ·exact (r.2.2.1 h).1
  show 0≤aG (aC [] N f 0).1 (aC [] N f 0).2;omega
 ·have:=dQ N [] f 0;simpa [bS] using this
 exact lH N [] f 0 (aC [] N f 0).1 q xA List.nodup_nil (by omega) (by omega) (λi n h=>by simp at h) (List.prefix_refl _) w hq
theorem vI {N:Nat} {f:Fn} {D:List Node} {x:Int} (h:MakeOk N f D x):bS N f=(D,x):=by
 have:=mX h.wf h.nodup h.root (h.order (N+1) (zQW _)) h.vars;unfold bS;rw [← this];exact bH λl hl=>(h.val l hl).symm
theorem tY {N:Nat} {f g:Fn} (h:∀ l,l.length=N→f l=g l):bS N f=bS N g:=bH h
def ms0:MS:=⟨[],λ_=>none,false⟩
theorem tX {N:Nat} {f g:Fn} {A B:List Node} {x y:Int} (hN:N≤14) (hA:MakeOk N f A x) (hB:MakeOk N g B y) (all:Bool) {q:Nat} (hq:65≤q):((cT A B all q ms0 x y).1.nodes,(cT A B all q ms0 x y).2)=bS N (λl=>opQ all (f l) (g l))∧(cT A B all q ms0 x y).1.full=false:=by
 have hp:2 ^ N≤2 ^ 14:=Nat.pow_le_pow_right (by omega) hN;have m0:MOk A B all (N:Int) ms0:=⟨List.nodup_nil,rfl,λx y r h=>by cases h⟩;have:=fC (all:=all) (N:=(N:Int)) hA.wf hB.wf (by omega) hA.vars hB.vars q ms0 x y 0 N (by have:=hA.low;have:=hB.low;omega) hA.root hB.root m0 (by omega) hA.low hB.low (by show 0+2 ^ N≤20001;omega);refine⟨this.1.trans ?_,this.2.part⟩;unfold bS;exact bH λl hl=>by unfold fn2;rw [hA.val l hl,hB.val l hl]
theorem yE {N:Nat} {f:Fn} {A:List Node} {x:Int} (h:MakeOk N f A x):bS N (λl=>!f l)=(A.map dP,dE x):=by
 have:=vI h;unfold bS at this ⊢;have e:=nM N (D:=[]) f 0 (λn hn=>by cases hn);rw [List.map_nil] at e;rw [e,this]
theorem qJ {D:List Node} (h:WfD D) (x:Int):0≤aG D x:=by
 unfold aG;split
 ·omega
 split
 ·rename_i n hn;exact (h.vars _ n hn).1
 omega
theorem ok_of {D:List Node} (h:WfD D) (hnd:D.Nodup) {q:Nat} {x:Int} (hr:InD D x) (hv:cL D q x 2=some ((D.length:Int)+2)) {N:Nat} (hN:N≤64) (hall:∀ (i:Nat) (n:Node),D[i]?=some n→n.var < (N:Int)):MakeOk N (fnD D x 0) D x:=by
 have e:bS N (fnD D x 0)=(D,x):=mX h hnd hr hv hall;have:=kG N (fnD D x 0) hN;rw [e] at this;exact this
def bJ (D:List Node) (vars x:Int):Int:=if x < 2 then vars else aG D x
def dT (D:List Node) (vars x:Int):Nat:=cC (fnD D x (bJ D vars x)) (vars - bJ D vars x).toNat
def cntS (D:List Node) (vars:Int) (cs:List Nat) (n:Node):List Nat:=
 cs++[cs.getD n.lo.toNat 0 * 2 ^ (bJ D vars n.lo - n.var - 1).toNat+cs.getD n.hi.toNat 0 * 2 ^ (bJ D vars n.hi - n.var - 1).toNat]
theorem uB {D:List Node} {vars x:Int} (h:WfD D) (hx:InD D x) (hv:vars≤64) (hall:∀ (i:Nat) (n:Node),D[i]?=some n→n.var < vars):bJ D vars x≤vars∧bJ D vars x≤aG D x:=by
 unfold bJ;by_cases h2:x < 2
 ·have e : aG D x = 64 := by unfold aG; rw [if_pos h2]
  rw [if_pos h2];omega
 obtain ⟨n, hn⟩ := hx.get (by omega);have:=hall _ n hn;have e:aG D x=n.var:=by unfold aG;rw [if_neg h2,hn]
 rw [if_neg h2];omega
theorem kO {D:List Node} {vars x v:Int} (h:WfD D) (hx:InD D x) (hv:vars≤64) (hall:∀ (i:Nat) (n:Node),D[i]?=some n→n.var < vars) (hl:v≤bJ D vars x):cC (fnD D x v) (vars - v).toNat=dT D vars x * 2 ^ (bJ D vars x - v).toNat:=by
 have hle:=uB h hx hv hall;have:=yS h hx.1 (bJ D vars x - v).toNat v (vars - bJ D vars x).toNat (by omega);rw [show (bJ D vars x - v).toNat+(vars - bJ D vars x).toNat=(vars - v).toNat by omega,show v+((bJ D vars x - v).toNat:Int)=bJ D vars x by omega] at this;rw [this,Nat.mul_comm];rfl
theorem sS {D:List Node} {vars:Int} (h:WfD D) (hv:vars≤64) (hall:∀ (i:Nat) (n:Node),D[i]?=some n→n.var < vars) {m:Nat} {n:Node} (hn:D[m]?=some n):dT D vars ((m:Int)+2)=dT D vars n.lo * 2 ^ (bJ D vars n.lo - n.var - 1).toNat+dT D vars n.hi * 2 ^ (bJ D vars n.hi - n.var - 1).toNat:=by
 have hm:m < D.length:=(zQQ.1 hn).1;have hlo:=h.lo _ n hn;have hhi:=h.hi _ n hn;have hva:=hall _ n hn;have hn':D[((m:Int)+2 - 2).toNat]?=some n:=by rw [show ((m:Int)+2 - 2).toNat=m by omega];exact hn
 have e:bJ D vars ((m:Int)+2)=n.var:=by unfold bJ aG;rw [if_neg (by omega),if_neg (by omega),hn']
 have il:InD D n.lo:=⟨hlo.1,by omega⟩;have ih:InD D n.hi:=⟨hhi.1,by omega⟩;have lv:∀ y:Int,n.var < aG D y→n.var+1≤bJ D vars y:=λy hy=>by unfold bJ;split<;>omega
 unfold dT;rw [e,show (vars - n.var).toNat=(vars - (n.var+1)).toNat+1 by omega,yV h (by omega) hn',kO h il hv hall (lv _ hlo.2.2),kO h ih hv hall (lv _ hhi.2.2)];rw [show bJ D vars n.lo - (n.var+1)=bJ D vars n.lo - n.var - 1 by omega,show bJ D vars n.hi - (n.var+1)=bJ D vars n.hi - n.var - 1 by omega];rfl
theorem sT {D : List Node} {vars : Int} (h : WfD D) (hv : vars ≤ 64) (hall : ∀ (i : Nat) (n : Node), D[i]? = some n → n.var < vars) : ∀ m, m ≤ D.length → (D.take m).foldl (cntS D vars) [0, 1] = (List.range (m + 2)).map fun (i : Nat) => dT D vars (i : Int)
 | 0,_=>by
  have c0:dT D vars 0=0:=by
   unfold dT bJ;rw [if_pos (by omega),Int.sub_self];rfl
  have c1:dT D vars 1=1:=by
   unfold dT bJ;rw [if_pos (by omega),Int.sub_self];rfl
  show [0,1]=[dT D vars 0,dT D vars 1];rw [c0,c1]
 | m+1,hm=>by
  obtain⟨n,hn⟩:∃ n,D[m]?=some n:=⟨_,zQR (by omega)⟩;have hlo:=h.lo _ n hn;have hhi:=h.hi _ n hn
  have g:∀ y:Int,0≤y→y < (m:Int)+2→((List.range (m+2)).map λ(i:Nat)=>dT D vars (i:Int)).getD y.toNat 0=dT D vars y:=λy h0 h1=>by
   rw [zQD,zQP,List.getElem?_range (by omega),show dT D vars y=dT D vars ((y.toNat:Nat):Int) by rw [Int.toNat_of_nonneg h0]];rfl
  rw [List.take_add_one,hn,List.foldl_append,sT h hv hall m (by omega),List.range_succ (n:=m+2),List.map_append];show cntS D vars _ n=_;unfold cntS;rw [g _ hlo.1 hlo.2.1,g _ hhi.1 hhi.2.1,← sS h hv hall hn];rfl
theorem lN {D:List Node} {vars x:Int} (h:WfD D) (hx:InD D x) (hv:vars≤64) (hall:∀ (i:Nat) (n:Node),D[i]?=some n→n.var < vars) {v:Int} (h0:0≤v) (hl:v≤bJ D vars x):dT D vars x * 2 ^ (bJ D vars x - v).toNat≤2 ^ vars.toNat:=by
 rw [← kO h hx hv hall hl];exact Nat.le_trans (qR _ _) (Nat.pow_le_pow_right (by omega) (by omega))
theorem yT {D:List Node} {vars x:Int} (h:WfD D) (hx:InD D x) (hv:vars≤64) (h0:0≤vars) (hall:∀ (i:Nat) (n:Node),D[i]?=some n→n.var < vars):dT D vars x * 2 ^ (bJ D vars x).toNat=cC (fnD D x 0) vars.toNat:=by
 have hl:0≤bJ D vars x:=by
  unfold bJ;split
  ·exact h0
  exact qJ h x
 have:=kO h hx hv hall hl;rw [show bJ D vars x - 0=bJ D vars x by omega,show vars - 0=vars by omega] at this;exact this.symm
def eU (D:List Node):Nat→Int→List Bool×Int→Option (List Bool×Int)
 | 0,_,_=>none
 | f+1,x,s=>if x < 2∨s.1.getD x.toNat false=true then some s else match D[(x - 2).toNat]? with
  | none=>none
  | some n=>(eU D f n.lo (s.1.set x.toNat true,s.2)).bind λs1=>(eU D f n.hi s1).bind λs2=>if x=s2.2 then some (s2.1,s2.2+1) else none
def InvP (B:Int) (vis:List Bool) (left:Int):Prop:=∀ y:Nat,2≤y→(y:Int) < B→(vis.getD y false=true↔(y:Int) < left)
theorem qW {l:List Bool} {i j:Nat} (h:i≠j) (b:Bool):(l.set i b).getD j false=l.getD j false:=by
 rw [zQD,zQD,List.getElem?_set_ne h]
theorem qBT {l:List Bool} {i:Nat} (h:i < l.length) (b:Bool):(l.set i b).getD i false=b:=by
 rw [zQD,List.getElem?_set_self h];rfl
structure OutP (D:List Node) (f:Nat) (x B:Int) (vis:List Bool) (left l':Int) (vis':List Bool):Prop where
 run:eU D f x (vis,left)=some (vis',l')
 inv:InvP B vis' l'
 keep:∀ y:Nat,B≤(y:Int)→vis'.getD y false=vis.getD y false
 len:vis'.length=vis.length
theorem xB {D:List Node} (h:WfD D):∀ (f:Nat) (x B:Int) (vis:List Bool) (left:Int),InD D x→x < B→InvP B vis left→vis.length=D.length+2→match cL D f x left with
  | none=>eU D f x (vis,left)=none
  | some l'=>∃ vis',OutP D f x B vis left l' vis'
 | 0,x,B,vis,left,hx,hB,hi,hl=>rfl
 | f+1,x,B,vis,left,hx,hB,hi,hl=>by
  have hx0:=hx.1;have hx1:=hx.2;by_cases h2:x < 2
  ·have e : cL D (f + 1) x left = some left := by unfold cL; rw [if_pos (Or.inl h2)]
   rw [e];refine⟨vis,?_,hi,λ_ _=>rfl,rfl⟩;unfold eU;rw [if_pos (Or.inl h2)]
  have hxi := hi x.toNat (by omega) (by omega);rw [show ((x.toNat:Nat):Int)=x by omega] at hxi;by_cases hlt:x < left
  ·have e : cL D (f + 1) x left = some left := by unfold cL; rw [if_pos (Or.inr hlt)]
   rw [e];refine⟨vis,?_,hi,λ_ _=>rfl,rfl⟩;unfold eU;rw [if_pos (Or.inr (hxi.2 hlt))]
  obtain ⟨n, hn⟩ := hx.get (by omega);have hlo:=h.lo _ n hn;have hhi:=h.hi _ n hn
  have e:cL D (f+1) x left=(cL D f n.lo left).bind λl1=>(cL D f n.hi l1).bind λl2=>if x=l2 then some (l2+1) else none:=by
   rw [cL,if_neg (by omega),hn]
  have e':eU D (f+1) x (vis,left)=(eU D f n.lo (vis.set x.toNat true,left)).bind λs1=>(eU D f n.hi s1).bind λs2=>if x=s2.2 then some (s2.1,s2.2+1) else none:=by
   rw [eU,if_neg (by intro hc;rcases hc with hc|hc;exact h2 hc;exact hlt (hxi.1 hc)),hn]
  have i0:InvP x (vis.set x.toNat true) left:=λy hy hyx=>by
   rw [qW (by omega)];exact hi y hy (by omega)
  have r1:=xB h f n.lo x (vis.set x.toNat true) left ⟨hlo.1,by omega⟩ (by omega) i0 (by rw [List.length_set];exact hl);rw [e]
  cases h1:cL D f n.lo left with
  | none=>
   rw [h1] at r1;show eU D (f+1) x (vis,left)=none;rw [e',r1];rfl
  | some l1=>
   rw [h1] at r1;obtain⟨v1,o1⟩:=r1;have hl1:v1.length=D.length+2:=by rw [o1.len,List.length_set];exact hl
   have r2:=xB h f n.hi x v1 l1 ⟨hhi.1,by omega⟩ (by omega) o1.inv hl1
   show match (cL D f n.hi l1).bind λl2=>if x=l2 then some (l2+1) else none with
    | none=>eU D (f+1) x (vis,left)=none
    | some l'=>∃ vis',OutP D (f+1) x B vis left l' vis'
   cases h3:cL D f n.hi l1 with
   | none=>
    rw [h3] at r2;show eU D (f+1) x (vis,left)=none;rw [e',o1.run];show (eU D f n.hi (v1,l1)).bind _=none;rw [r2];rfl
   | some l2=>
    rw [h3] at r2;obtain⟨v2,o2⟩:=r2
    have er:eU D (f+1) x (vis,left)=if x=l2 then some (v2,l2+1) else none:=by
     rw [e',o1.run];show (eU D f n.hi (v1,l1)).bind _=_;rw [o2.run];rfl
    show match (if x=l2 then some (l2+1) else none) with
     | none=>eU D (f+1) x (vis,left)=none
     | some l'=>∃ vis',OutP D (f+1) x B vis left l' vis'
    by_cases hq:x=l2
    ·rw [if_pos hq];rw [if_pos hq] at er;refine⟨v2,er,λy hy hyB=>?_,λy hy=>?_,by rw [o2.len,o1.len,List.length_set]⟩
     ·rcases Int.lt_trichotomy (y:Int) x with hc|hc|hc
      ·have:=o2.inv y hy hc;rw [this];omega
      ·have e1:v2.getD y false=true:=by
        rw [o2.keep y (by omega),o1.keep y (by omega),show y=x.toNat by omega,qBT (by omega)]
       rw [e1];simp only [true_iff];omega
      rw [o2.keep y (by omega), o1.keep y (by omega), qW (by omega), hi y hy hyB];omega
     rw [o2.keep y (by omega),o1.keep y (by omega),qW (by omega)]
    rw [if_neg hq];rw [if_neg hq] at er;exact er
theorem zQ {D:List Node} (h:WfD D) (f:Nat) {x:Int} (hx:InD D x):(eU D f x (List.replicate (D.length+2) false,2)).map (·.2)=cL D f x 2:=by
 have := xB h f x ((D.length : Int) + 2) (List.replicate (D.length + 2) false) 2 hx hx.2 (fun y hy hyB => by
  rw [zQD, List.getElem?_replicate, if_pos (by omega)];constructor
  ·intro hc; cases hc
  intro hc; omega) (by simp)
 revert this
 cases cL D f x 2 with
 | none=>intro e;rw [e];rfl
 | some l=>intro ⟨v,o⟩;rw [o.run];rfl
def NOK (D:List Node):Prop:=∀ n∈D,Node.ok n
theorem NOK.at {D:List Node} (h:NOK D) {i:Nat} {n:Node} (hn:D[i]?=some n):Node.ok n:=h n (zQM hn)
theorem vC:NOK []:=λn h=>by cases h
theorem vD {D:List Node} {n:Node} (h:NOK D) (hn:Node.ok n):NOK (D++[n]):=λm hm=>by
 rcases zQN.1 hm with h1|h1
 ·exact h m h1
 rw [List.mem_singleton.1 h1];exact hn
theorem yA {d:Diagram} (h:d.Wf):NOK d.nodes:=λn hn=>⟨(h.nodes.2 n hn).var,(h.nodes.2 n hn).lo,(h.nodes.2 n hn).hi⟩
theorem qAM {a b:Diagram}:a=b↔a.nodes=b.nodes∧a.root=b.root:=by cases a;cases b;simp
theorem vS {a b:Diagram} (ha:NOK a.nodes) (hb:NOK b.nodes) (hl:a.nodes.length≤4611686018427387903):bP a b=some (decide (a=b)):=by
 unfold bP;by_cases h:a.nodes.length=b.nodes.length∧a.root=b.root
 ·obtain⟨h1,h2⟩:=h;rw [if_neg (by simp [h1,h2])];rw [sC (ρ:=Unit ⊕ Bool) a.nodes.length (λi=>if a.nodes[i]?=b.nodes[i]? then none else some (.inr false)) (.inl ()) (by omega) ?hf ?he]
  ·cases hf:(List.range a.nodes.length).findSome? (λi=>if a.nodes[i]?=b.nodes[i]? then none else some (Sum.inr false:Unit ⊕ Bool)) with
   | none=>
    rw [List.findSome?_eq_none_iff] at hf
    have:a=b:=by
     rw [qAM];refine⟨List.ext_getElem? λi=>?_,h2⟩;by_cases hi:i < a.nodes.length
     ·have:=hf i (List.mem_range.2 hi);split at this
      ·assumption
      cases this
     rw [List.getElem?_eq_none (by omega),List.getElem?_eq_none (by omega)]
    simp [this]
   | some r=>
    rw [List.findSome?_eq_some_iff] at hf;obtain⟨l1,i,l2,_,h3,_⟩:=hf;split at h3
    ·cases h3
    rename_i hne;cases h3;have:¬ a=b:=λe=>hne (by rw [e]);simp [this]
  case hf=>
   intro i hi;have hi2:i < b.nodes.length:=by omega
   rw [if_pos (by omega),eP (zQR hi),eP (zQR hi2),aB ⟨ha _ (List.getElem_mem hi),hb _ (List.getElem_mem hi2)⟩,zQR hi,zQR hi2];by_cases he:a.nodes[i]=b.nodes[i]
   ·rw [if_pos he,aB (by unfold I64;omega),if_pos (by rw [he])]
   rw [if_neg he, if_neg (by simpa using he)];rfl
  case he=>
   rw [if_neg (by omega)];rfl
 rw [if_pos (by simp only [Bool.or_eq_true, Bool.not_eq_true', decide_eq_false_iff_not]; omega)];have:¬ a=b:=λe=>h ⟨by rw [e],by rw [e]⟩;simp [this]
def dR (L:List Node):List (Node×Int):=L.zipIdx.map λx=>(x.1,(x.2:Int))
theorem lJ (L:List Node):(dR L).map (·.1)=L:=by
 unfold dR;rw [List.map_map];exact List.zipIdx_map_fst 0 L
theorem sJ (L:List Node) (n:Node):dR (L++[n])=dR L++[(n,(L.length:Int))]:=by
 unfold dR;rw [List.zipIdx_append,List.map_append];simp
theorem yL (L:List Node) (i:Nat):(dR L)[i]?=(L[i]?).map λn=>(n,(i:Int)):=by
 unfold dR;rw [zQP,List.getElem?_zipIdx];cases L[i]?<;>simp
theorem pH (L:List Node) (n:Node):(dR L).findIdx? (λx=>decide (x.1=n))=L.findIdx? λm=>decide (m=n):=by
 have:L.findIdx? (λm=>decide (m=n))=((dR L).map (·.1)).findIdx? (λm=>decide (m=n)):=by rw [lJ]
 rw [this,List.findIdx?_map];rfl
section maps
variable {α β:Type} [DecidableEq α]
theorem wP (q:α):bK ([]:List (α×β)) q=none:=rfl
theorem dX (x:α×β) (r:List (α×β)) (q:α):bK (x :: r) q=if x.1=q then some x.2 else bK r q:=by
 unfold bK;rw [List.find?_cons];by_cases h:x.1=q<;>simp [h]
theorem nK (k:α) (v:β):eD ([]:List (α×β)) k v=[(k,v)]:=rfl
theorem lE (x:α×β) (r:List (α×β)) (k:α) (v:β):eD (x :: r) k v=if x.1=k then (k,v) :: r else x :: eD r k v:=by
 unfold eD;rw [List.findIdx?_cons];by_cases h:x.1=k
 ·simp [h]
 simp only [h,decide_false,Bool.false_eq_true,if_false];cases r.findIdx? (λx=>decide (x.1=k))<;>simp
theorem wO (fs:List (α×β)) (k:α) (v:β) (q:α):bK (eD fs k v) q=if q=k then some v else bK fs q:=by
 induction fs with
 | nil=>rw [nK,dX,wP];by_cases h:k=q<;>simp [h,eq_comm]
 | cons x r ih=>
  rw [lE];by_cases h:x.1=k
  ·rw [if_pos h,dX,dX];by_cases h2:k=q
   ·simp [h2]
   rw [if_neg h2,if_neg (λe=>h2 e.symm),if_neg (by rw [h];exact h2)]
  rw [if_neg h,dX,dX,ih];by_cases h2:x.1=q
  ·rw [if_pos h2,if_pos h2,if_neg (λe=>h (h2.trans e))]
  rw [if_neg h2,if_neg h2]
theorem uY {fs:List (α×β)} {k:α} {v:β} {x:α×β} (h:x∈eD fs k v):x=(k,v)∨x∈fs:=by
 induction fs with
 | nil=>rw [nK] at h;exact .inl (List.mem_singleton.1 h)
 | cons y r ih=>
  rw [lE] at h;split at h
  ·rcases zQB.1 h with h|h
   ·exact .inl h
   exact .inr (List.mem_cons_of_mem _ h)
  rcases zQB.1 h with h|h
  ·exact .inr (h ▸ List.mem_cons_self ..)
  exact (ih h).imp id (List.mem_cons_of_mem _)
theorem vZ {fs:List (α×β)} (h:(fs.map (·.1)).Nodup) (k:α) (v:β):((eD fs k v).map (·.1)).Nodup:=by
 induction fs with
 | nil=>rw [nK];simp
 | cons y r ih=>
  rw [List.map_cons,List.nodup_cons] at h;rw [lE];by_cases e:y.1=k
  ·rw [if_pos e,List.map_cons,List.nodup_cons];exact⟨by rw [← e];exact h.1,h.2⟩
  rw [if_neg e,List.map_cons,List.nodup_cons];refine⟨λhm=>?_,ih h.2⟩;obtain⟨x,hx,he⟩:=List.mem_map.1 hm;rcases uY hx with rfl|hx
  ·exact e he.symm
  exact h.1 (he ▸ List.mem_map_of_mem hx)
theorem uP (fs:List (α×β)) (q:α):bK fs q=(fs.findIdx? λx=>decide (x.1=q)).bind λj=>(fs[j]?).map (·.2):=by
 induction fs with
 | nil=>rfl
 | cons x r ih=>
  rw [dX,List.findIdx?_cons];by_cases h:x.1=q
  ·simp [h]
  simp only [h,decide_false,Bool.false_eq_true,if_false];rw [ih];cases r.findIdx? (λx=>decide (x.1=q))<;>simp
end maps
theorem pO (L:List Node) (n:Node):bK (dR L) n=(L.findIdx? λm=>decide (m=n)).map λi=>(i:Int):=by
 rw [uP,pH]
 cases h:L.findIdx? (λm=>decide (m=n)) with
 | none=>rfl
 | some j=>
  rw [List.findIdx?_eq_some_iff_getElem] at h;obtain⟨hj,_,_⟩:=h;show ((dR L)[j]?).map (·.2)=_;rw [yL,zQR hj];rfl
theorem rR {L:List Node} {n:Node} (h:L.findIdx? (λm=>decide (m=n))=none) (v:Int):eD (dR L) n v=dR L++[(n,v)]:=by
 unfold eD;rw [pH,h]
theorem kK {L:List Node} (hn:L.Nodup) (ho:NOK L) {n:Node} (hk:Node.ok n):cY Node.okb (dR L) n:=
 ⟨by rw [lJ]; exact hn, fun x hx => by
  have : x.1 ∈ (dR L).map (·.1) := List.mem_map_of_mem hx;rw [lJ] at this
  exact decide_eq_true (ho _ this), decide_eq_true hk⟩
theorem vF {α ρ:Type} [DecidableEq ρ] {l:List α} {a b:Option ρ} {x:ρ} (ha:l=[]→a=some x) (hb:b=some x):sA l a b=some x:=by
 cases l with
 | nil=>rw [ha rfl,hb];simp [sA]
 | cons y r=>exact hb
theorem tU {L : List Node} {n : Node} (hn : L.Nodup) (ho : NOK L) (hk : Node.ok n) (hl : L.length + 1 ≤ 1000000000) : aM ⟨dR L, L⟩ n = some (match L.findIdx? (fun m => decide (m = n)) with
  | some j => ((j : Int), ⟨dR L, L⟩)
  | none => ((L.length : Int), ⟨dR (L ++ [n]), L ++ [n]⟩)) := by
 have hlen:((L++[n]).length:Int) - 1=(L.length:Int):=by simp
 have hg1:(L++[n]).length≤1000000000:=by simp;omega
 have hg2:I64 (((L++[n]).length:Int) - 1):=by rw [hlen];unfold I64;omega
 unfold aM;dsimp only;refine vF (λhe=>?_) ?_
 ·have hL : L = [] := by have := congrArg List.length he; simpa [dR] using this
  subst hL;rw [aB (show n.okb=true from decide_eq_true hk),aA,aB ⟨List.nodup_nil,(λx h=>by cases h),decide_eq_true hk⟩,aB hg1,aB hg2];simp only [hlen];rfl
 rw [aB (kK hn ho hk),pO]
 cases h:L.findIdx? (λm=>decide (m=n)) with
 | some j=>simp
 | none=>
  rw [if_neg (by simp),aA,aB (kK hn ho hk),aB hg1,aB hg2];simp only [hlen,rR h,sJ]
theorem wA {m : Merger} {L : List Node} {n : Node} (hm : m.nodes = ⟨dR L, L⟩) (hn : L.Nodup) (ho : NOK L) (hk : Node.ok n) (hl : L.length + 1 ≤ 1000000000) : aI m n = some (match L.findIdx? (fun m => decide (m = n)) with
  | some j => ((j : Int), m)
  | none => ((L.length : Int), ⟨m.a, m.b, m.all, ⟨dR (L ++ [n]), L ++ [n]⟩, m.done, m.full⟩)) := by
 have hlen:((L++[n]).length:Int) - 1=(L.length:Int):=by simp
 have hg1:(L++[n]).length≤1000000000:=by simp;omega
 have hg2:I64 (((L++[n]).length:Int) - 1):=by rw [hlen];unfold I64;omega
 unfold aI;rw [hm];dsimp only;refine vF (λhe=>?_) ?_
 ·have hL : L = [] := by have := congrArg List.length he; simpa [dR] using this
  subst hL;rw [aB (show n.okb=true from decide_eq_true hk),aA,aB ⟨List.nodup_nil,(λx h=>by cases h),decide_eq_true hk⟩,aB hg1,aB hg2];simp only [hlen];rfl
 rw [aB (kK hn ho hk),pO]
 cases h:L.findIdx? (λm=>decide (m=n)) with
 | some j=>simp
 | none=>
  rw [if_neg (by simp),aA,aB (kK hn ho hk),aB hg1,aB hg2];simp only [hlen,rR h,sJ]
theorem InD.i64 {D:List Node} {x:Int} (h:InD D x) (hl:D.length≤4611686018427387903):I64 (x - 2)∧I64 x:=by
 have:=h.1;have:=h.2;unfold I64;omega
theorem gP {d:Diagram} {x:Int} (h:InD d.nodes x) (hl:d.nodes.length≤4611686018427387903):bX d x=some (aG d.nodes x):=by
 unfold bX aG;by_cases hx:x < 2
 ·rw [if_pos hx,if_pos hx]
 obtain ⟨n, hn⟩ := h.get (by omega);rw [if_neg hx,if_neg hx,aB (h.i64 hl).1,cH (by omega) hn,hn]
theorem lZ {d:Diagram} {x w:Int} (h:InD d.nodes x) (hl:d.nodes.length≤4611686018427387903) (hw:w < 64):cR d x w=some (cF d.nodes x w):=by
 unfold cR cF;rw [gP h hl,aA];by_cases he:aG d.nodes x=w
 ·rw [if_pos he,if_pos he];have h2:¬ x < 2:=λh1=>by unfold aG at he;rw [if_pos h1] at he;omega
  obtain⟨n,hn⟩:=h.get (by omega);rw [aB (h.i64 hl).1,cH (by omega) hn,hn]
 rw [if_neg he,if_neg he]
theorem qL {x:Int} (h:I64 x) (h0:0≤x):fF x=some (dE x):=by
 unfold fF dE;split
 ·rw [aB (by unfold I64 at *; omega)]
 rfl
theorem yF {α β ρ:Type} {f:Int×List β→Option ((Int×List β) ⊕ ρ)} (l:List α) (g:α→β) (o:ρ) (hn:l.length≤9223372036854775807) (hf:∀ (i:Nat) (e:α),l[i]?=some e→f ((i:Int),(l.take i).map g)=some (.inl ((i:Int)+1,(l.take i).map g++[g e]))) (he:f ((l.length:Int),l.map g)=some (.inr o)):dC f (0,[])=some o:=by
 refine kH l.length (λi=>(l.take i).map g) rfl hn (λi hi=>?_) (by rw [List.take_length];exact he);rw [hf i l[i] (by simp)]
 have:(l.take (i+1)).map g=(l.take i).map g++[g l[i]]:=by
  rw [List.take_add_one,zQR hi,Option.toList_some,List.map_append];rfl
 rw [this]
theorem rV {d:Diagram} (hn:NN d.nodes) (ho:NOK d.nodes) (h0:0≤d.root) (hr:I64 d.root) (hl:d.nodes.length≤1000000000):cQ d=some ⟨d.nodes.map dP,dE d.root⟩:=by
 unfold cQ;rw [qL hr h0,aA,yF d.nodes dP (d.nodes.map dP) (by omega) ?_ ?_]
 ·rfl
 ·intro i e he;have hi:=(zQQ.1 he).1;have hm:=zQM he;dsimp only;rw [if_pos (by omega),eP he,qL (ho _ hm).2.1 (hn _ hm).1,aA,qL (ho _ hm).2.2 (hn _ hm).2,aA,aB (by simp;omega),aB (by unfold I64;omega)];rfl
 dsimp only;rw [if_neg (by omega)];rfl
theorem lK {D:List Node}:∀ {k:Nat} {f:Fn} {v x:Int},Has D k f v x→0≤x∧x < (D.length:Int)+2
 | 0,f,v,x,h=>by
  have h:x=aZ (f []):=h;rw [h];unfold aZ;split<;>omega
 | k+1,f,v,x,⟨lo,hi,h1,h2,h3⟩=>by
  split at h3
  ·rw [h3];exact lK h1
  have:=(zQQ.1 h3.2).1;omega
structure RelM (m:Merger) (s:MS):Prop where
 nodes:m.nodes=⟨dR s.nodes,s.nodes⟩
 full:m.full=s.full
 keys:(m.done.map (·.1)).Nodup
 okp:∀ p∈m.done,Pair.okb p.1=true
 done:∀ x y,bK m.done ⟨x,y⟩=s.done (x,y)
 ok:NOK s.nodes
theorem nT {m:Merger} {A B:Diagram} {all:Bool} (ha:m.a=A) (hb:m.b=B) (hc:m.all=all):(⟨A,B,all,m.nodes,m.done,m.full⟩:Merger)=m:=by
 subst ha hb hc;rfl
theorem xK {m:Merger} {L:List Node} {n:Node} {F:Bool} {T:List (Pair×Int)} (hm:m.nodes=⟨dR L,L⟩) (hn:L.Nodup) (ho:NOK L) (hk:Node.ok n) (hl:L.length+1≤1000000000):
  (if n.hi = n.lo then some (n.lo, F, m.nodes.index, m.nodes.list, T)
   else aD (aI m n) fun (r34, r35) =>
    aF (I64 (r34 + (2 : Int))) <|
    some ((r34 + (2 : Int)), F, r35.nodes.index, r35.nodes.list, T)) = some ((bC L n).2, F, dR (bC L n).1, (bC L n).1, T) := by
 unfold bC;by_cases h:n.lo=n.hi
 ·rw [if_pos h.symm,if_pos h,hm]
 rw [if_neg (fun e => h e.symm), if_neg h, wA hm hn ho hk hl, aA]
 cases hf:L.findIdx? (λm=>decide (m=n)) with
 | some j=>
  rw [List.findIdx?_eq_some_iff_getElem] at hf;obtain⟨hj,_,_⟩:=hf;dsimp only;rw [aB (by unfold I64;omega),hm]
 | none=>
  dsimp only;rw [aB (by unfold I64;omega)]
theorem nU {A B:Diagram} {all:Bool} {N:Int} (hA:WfD A.nodes) (hB:WfD B.nodes) (hN:N≤64) (hAN:∀ (i:Nat) (n:Node),A.nodes[i]?=some n→n.var < N) (hBN:∀ (i:Nat) (n:Node),B.nodes[i]?=some n→n.var < N) (lA:A.nodes.length≤1000000) (lB:B.nodes.length≤1000000):
  ∀ (f:Nat) (m:Merger) (s:MS) (x y v:Int) (k:Nat),65≤(f:Int)+min (aG A.nodes x) (aG B.nodes y)→InD A.nodes x→InD B.nodes y→MOk A.nodes B.nodes all N s→v+k=N→v≤aG A.nodes x→v≤aG B.nodes y→s.nodes.length+2 ^ k≤20001→RelM m s→m.a=A→m.b=B→m.all=all→
  ∃ m',aR f m ⟨x,y⟩=some ((cT A.nodes B.nodes all f s x y).2,m')∧RelM m' (cT A.nodes B.nodes all f s x y).1∧m'.a=A∧m'.b=B∧m'.all=all
 | 0,m,s,x,y,v,k,hf,hx,hy,hs,hv,h1,h2,hlen,hR,ha,hb,hc=>by
  have:=dI hA x;omega
 | f+1,m,s,x,y,v,k,hf,hx,hy,hs,hv,h1,h2,hlen,hR,ha,hb,hc=>by
  have ix:=(hx.i64 (by omega)).2;have iy:=(hy.i64 (by omega)).2;have hpk:Pair.okb ⟨x,y⟩=true:=decide_eq_true ⟨ix,iy⟩;have hko:cY Pair.okb m.done ⟨x,y⟩:=⟨hR.keys,hR.okp,hpk⟩;have hdo:(if (!(m.all))=true then some ((1:Int),(0:Int)) else some ((0:Int),(1:Int)))=some (aZ (!all),aZ all):=by rw [hc];cases all<;>rfl
  have nf:¬ s.full=true:=by rw [hs.part];exact Bool.false_ne_true
  have ng:¬ m.full=true:=by rw [hR.full];exact nf
  unfold cT aR;rw [if_neg nf,if_neg ng,hdo,aA];dsimp only;by_cases hd:x=aZ (!all)∨y=aZ (!all)
  ·have hd' : (decide (x = aZ (!all)) || decide (y = aZ (!all))) = true := by simpa using hd
   rw [if_pos hd,if_pos hd'];exact⟨m,rfl,hR,ha,hb,hc⟩
  have hd' : ¬ (decide (x = aZ (!all)) || decide (y = aZ (!all))) = true := by simpa using hd
  rw [if_neg hd,if_neg hd'];by_cases ho:x=aZ all∧y=aZ all
  ·have ho' : (decide (x = aZ all) && decide (y = aZ all)) = true := by simpa using ho
   rw [if_pos ho,if_pos ho'];exact⟨m,rfl,hR,ha,hb,hc⟩
  have ho' : ¬ (decide (x = aZ all) && decide (y = aZ all)) = true := by simpa using ho
  rw [if_neg ho,if_neg ho',aB hko,hR.done]
  cases hm:s.done (x,y) with
  | some r=>
   dsimp only;exact⟨m,rfl,hR,ha,hb,hc⟩
  | none=>
   dsimp only;rw [if_neg (by simp)];have hvA:=dI hA x;have hvB:=dI hB y
   have hlt:min (aG A.nodes x) (aG B.nodes y) < N:=by
    rcases Int.lt_or_le x 2 with hx2|hx2
    ·rcases Int.lt_or_le y 2 with hy2|hy2
     ·exfalso;have cx:=(kN hx hx2).1;have cy:=(kN hy hy2).1;have bb:∀ b:Bool,aZ b=aZ all∨aZ b=aZ (!all):=λb=>by cases b<;>cases all<;>simp [aZ]
      rcases bb (decide (x=1)) with e1|e1
      ·rcases bb (decide (y=1)) with e2|e2
       ·exact ho ⟨cx.trans e1,cy.trans e2⟩
       exact hd (.inr (cy.trans e2))
      exact hd (.inl (cx.trans e1))
     obtain⟨n,hn⟩:=hy.get hy2;have:aG B.nodes y=n.var:=by unfold aG;rw [if_neg (by omega),hn]
     have:=hBN _ n hn;omega
    obtain⟨n,hn⟩:=hx.get hx2;have:aG A.nodes x=n.var:=by unfold aG;rw [if_neg (by omega),hn]
    have:=hAN _ n hn;omega
   have hw0:0≤min (aG A.nodes x) (aG B.nodes y):=by
    have:=qJ hA x;have:=qJ hB y;omega
   rw [ha,hb,hc,gP hx (by omega),aA,gP hy (by omega),aA];obtain⟨w,hw⟩:∃ w,w=min (aG A.nodes x) (aG B.nodes y):=⟨_,rfl⟩;rw [← hw];rw [← hw] at hlt hf hw0;rw [lZ hx (by omega) (by omega),aA,lZ hy (by omega) (by omega),aA];obtain⟨d,hdv⟩:∃ d:Nat,w=v+d:=⟨(w - v).toNat,by omega⟩;obtain⟨q,hq⟩:∃ q:Nat,k=d+(q+1):=⟨k - d - 1,by omega⟩;have KA:=mN hA hx (w:=w) (by omega) (by omega);have KB:=mN hB hy (w:=w) (by omega) (by omega);generalize cF A.nodes x w=ka at KA;generalize cF B.nodes y w=kb at KB;obtain⟨xa,xb⟩:=ka;obtain⟨ya,yb⟩:=kb;dsimp only at KA KB ⊢;have hpow:2 ^ (q+1)≤2 ^ k:=Nat.pow_le_pow_right (by omega) (by omega);rw [Nat.pow_succ] at hpow;have h2q:0 < 2 ^ q:=Nat.pos_of_ne_zero (by simp);have n1:=fC (all:=all) hA hB hN hAN hBN f s xa ya (w+1) q (by omega) KA.1 KB.1 hs (by omega) KA.2.2.1 KB.2.2.1 (by omega);obtain⟨m1,e1,R1,a1,b1,c1⟩:=nU hA hB hN hAN hBN lA lB f m s xa ya (w+1) q (by omega) KA.1 KB.1 hs (by omega) KA.2.2.1 KB.2.2.1 (by omega) hR ha hb hc;rw [e1,aA];dsimp only;generalize cT A.nodes B.nodes all f s xa ya=sa at n1 R1;have l1:=dQ q s.nodes (fn2 A.nodes B.nodes (opQ all) xa ya (w+1)) (w+1);have g1:=lK (bM q s.nodes (fn2 A.nodes B.nodes (opQ all) xa ya (w+1)) (w+1));rw [← n1.1] at l1 g1;dsimp only at l1 g1;rw [nT a1 b1 c1];have n2:=fC (all:=all) hA hB hN hAN hBN f sa.1 xb yb (w+1) q (by omega) KA.2.1 KB.2.1 n1.2 (by omega) KA.2.2.2.1 KB.2.2.2.1 (by omega);obtain⟨m2,e2,R2,a2,b2,c2⟩:=nU hA hB hN hAN hBN lA lB f m1 sa.1 xb yb (w+1) q (by omega) KA.2.1 KB.2.1 n1.2 (by omega) KA.2.2.2.1 KB.2.2.2.1 (by omega) R1 a1 b1 c1;rw [e2,aA];dsimp only;generalize cT A.nodes B.nodes all f sa.1 xb yb=sb at n2 R2;have l2:=dQ q sa.1.nodes (fn2 A.nodes B.nodes (opQ all) xb yb (w+1)) (w+1);have g2:=lK (bM q sa.1.nodes (fn2 A.nodes B.nodes (opQ all) xb yb (w+1)) (w+1));rw [← n2.1] at l2 g2;dsimp only at l2 g2;have hpre:=aV q sa.1.nodes (fn2 A.nodes B.nodes (opQ all) xb yb (w+1)) (w+1);rw [← n2.1] at hpre;have hple:=hpre.length_le;dsimp only at hple;rw [nT a2 b2 c2];have hok:Node.ok ⟨w,sa.2,sb.2⟩:=⟨by unfold I64;dsimp only;omega,by unfold I64;dsimp only;omega,by unfold I64;dsimp only;omega⟩;have st:=xK (m:=m2) (n:=⟨w,sa.2,sb.2⟩) (F:=m2.full) (T:=m2.done) R2.nodes n2.2.nodup R2.ok hok (by omega);dsimp only at st;rw [st,aA];dsimp only;have hal:=kT sb.1.nodes ⟨w,sa.2,sb.2⟩
   have hnok:NOK (bC sb.1.nodes ⟨w,sa.2,sb.2⟩).1:=by
    unfold bC;split
    ·exact R2.ok
    split
    ·exact R2.ok
    exact vD R2.ok hok
   rw [if_neg (by omega),aB ⟨R2.keys,R2.okp,hpk⟩];refine⟨_,rfl,⟨rfl,?_,vZ R2.keys _ _,λp hp=>?_,λx' y'=>?_,hnok⟩,rfl,rfl,rfl⟩
   ·dsimp only;rw [R2.full,n2.2.part,Bool.false_or];exact (decide_eq_false (by omega)).symm
   ·rcases uY hp with rfl|hp
    ·exact hpk
    exact R2.okp p hp
   dsimp only;rw [wO,R2.done];by_cases he:(x',y')=(x,y)
   ·rw [if_pos he,if_pos (by obtain⟨rfl,rfl⟩:=Prod.mk.inj he;rfl)]
   rw [if_neg he,if_neg (λe=>he (by cases e;rfl))]
theorem uI {N:Nat} {f g:Fn} {a b:Diagram} (hN:N≤14) (hA:MakeOk N f a.nodes a.root) (hB:MakeOk N g b.nodes b.root) (all:Bool):dF a b all=some (⟨(bS N λl=>opQ all (f l) (g l)).1,(bS N λl=>opQ all (f l) (g l)).2⟩,true):=by
 have hp:2 ^ N≤2 ^ 14:=Nat.pow_le_pow_right (by omega) hN;have la:=hA.len;have lb:=hB.len;have m0:MOk a.nodes b.nodes all (N:Int) ms0:=⟨List.nodup_nil,rfl,λx y r h=>by cases h⟩;have mm:=tX (q:=aN) hN hA hB all (by unfold aN;omega)
 obtain ⟨m', e, R, _, _, _⟩ := nU (all := all) (N := (N : Int)) hA.wf hB.wf (by omega) hA.vars hB.vars (by omega) (by omega) aN ⟨a, b, all, ⟨[], []⟩, [], false⟩ ms0 a.root b.root 0 N
  (by have:=hA.low;have:=hB.low;unfold aN;omega) hA.root hB.root m0 (by omega) hA.low hB.low (by show 0+2 ^ N≤20001;omega)
  ⟨rfl,rfl,List.nodup_nil,λp h=>(by cases h),λx y=>rfl,vC⟩ rfl rfl rfl
 unfold dF dV;rw [e,aA];dsimp only;rw [if_neg (by rw [R.full,mm.2];exact Bool.false_ne_true),← mm.1,R.nodes]
def dS (D:List Node) (i:Nat) (n:Node):Prop:=0≤n.var∧n.var < 64∧n.lo≠n.hi∧(0≤n.lo∧n.lo < (i:Int)+2∧n.var < aG D n.lo)∧(0≤n.hi∧n.hi < (i:Int)+2∧n.var < aG D n.hi)
instance (D:List Node) (i:Nat) (n:Node):Decidable (dS D i n):=by unfold dS;infer_instance
def sY (D:List Node) (i:Nat):Bool:=match D[i]? with
 | some n=>!decide (dS D i n)||decide (n∈D.take i)
 | none=>false
theorem mS {D:List Node} {i:Nat} {n:Node} (h:D[i]?=some n):sY D i=(!decide (dS D i n)||decide (n∈D.take i)):=by unfold sY;rw [h]
theorem gC {D:List Node}:∀ (i:Nat),(∀ j,j < i→sY D j=false)→(D.take i).Nodup
 | 0,_=>by simp
 | i+1,h=>by
  rw [List.take_add_one]
  cases hn:D[i]? with
  | none=>simpa using gC i λj hj=>h j (by omega)
  | some n=>
   have hb:=h i (by omega);rw [mS hn,Bool.or_eq_false_iff] at hb;have hni:n∉D.take i:=by simpa using hb.2
   simp only [Option.toList_some];rw [List.nodup_append];refine⟨gC i λj hj=>h j (by omega),by simp,λa ha b hb e=>?_⟩;rw [List.mem_singleton.1 hb] at e;exact hni (e ▸ ha)
theorem qAK {D:List Node} (h:∀ j,j < D.length→sY D j=false):WfD D∧D.Nodup:=by
 have hg:∀ (i:Nat) (n:Node),D[i]?=some n→dS D i n:=λi n hn=>by
  have hb:=h i (zQQ.1 hn).1;rw [mS hn,Bool.or_eq_false_iff] at hb;simpa using hb.1
 refine⟨⟨λi n hn=>⟨(hg i n hn).1,(hg i n hn).2.1⟩,λi n hn=>(hg i n hn).2.2.2.1,λi n hn=>(hg i n hn).2.2.2.2,λi n hn=>(hg i n hn).2.2.1⟩,?_⟩;have:=gC D.length h
 rwa [List.take_length] at this
theorem zO {D:List Node} (h:WfD D) (hn:D.Nodup):∀ j,j < D.length→sY D j=false:=λj hj=>by
 have e:=zQR hj;rw [mS e,Bool.or_eq_false_iff];refine⟨by rw [decide_eq_true (show dS D j D[j] from ⟨(h.vars j _ e).1,(h.vars j _ e).2,h.ne j _ e,h.lo j _ e,h.hi j _ e⟩)];rfl,?_⟩;rw [decide_eq_false_iff_not];intro hm;obtain⟨q,hq,he⟩:=List.getElem_of_mem hm;simp only [List.length_take] at hq;rw [List.getElem_take] at he;have:=(List.getElem_inj hn).1 he;omega
theorem any_bad {D:List Node}:(List.range D.length).any (sY D)=false↔WfD D∧D.Nodup:=by
 constructor
 ·intro h;rw [List.any_eq_false] at h;exact qAK λj hj=>by simpa using h j (List.mem_range.2 hj)
 rintro⟨h,hn⟩;rw [List.any_eq_false];intro j hj;rw [zO h hn j (List.mem_range.1 hj)];simp
def ValidD (d:Diagram):Prop:=d.nodes.length≤20000∧(WfD d.nodes∧d.nodes.Nodup)∧(if d.nodes.length=0 then d.root=0∨d.root=1 else d.root=(d.nodes.length:Int)+1∧cL d.nodes aN d.root 2=some ((d.nodes.length:Int)+2))
theorem sU {d:Diagram} {i:Nat} {n:Node} {k:Int} (hn:d.nodes[i]?=some n) (hv:n.var < 64) (hl:d.nodes.length≤1000000):dG d i k=some (decide (0≤k∧k < (i:Int)+2∧n.var < aG d.nodes k)):=by
 have hi:=(zQQ.1 hn).1;unfold dG;by_cases h01:k=0∨k=1
 ·rw [if_pos (by simpa using h01)];have hvk:aG d.nodes k=64:=by unfold aG;rw [if_pos (by omega)]
  have:0≤k∧k < (i:Int)+2∧n.var < aG d.nodes k:=by rw [hvk];omega
  rw [decide_eq_true this]
 rw [if_neg (by simpa using h01)];by_cases h2:2≤k
 ·rw [if_pos h2, aB (by unfold I64; omega)];by_cases h3:k < (i:Int)+2
  ·have hkl : (k - 2).toNat < d.nodes.length := by omega
   rw [if_pos h3,aB (by unfold I64;omega),cH (by omega) (zQR hkl),eP hn,aA];have hvk:aG d.nodes k=d.nodes[(k - 2).toNat].var:=by unfold aG;rw [if_neg (by omega),zQR hkl]
   rw [hvk]
   congr 1
   simp only [decide_eq_decide];omega
  rw [if_neg h3,aA]
  congr 1
  symm;rw [decide_eq_false_iff_not];omega
 rw [if_neg h2,aA]
 congr 1
 symm;rw [decide_eq_false_iff_not];omega
theorem oA {l:List Bool} {i:Nat} (h:i < l.length):l[i]?=some (l.getD i false):=by
 rw [zQD,zQR h];rfl
theorem gB {d:Diagram} (h:WfD d.nodes) (hl:d.nodes.length≤1000000):∀ (fu:Nat) (x:Int) (vis:List Bool) (left:Int),InD d.nodes x→x < (fu:Int)→vis.length=d.nodes.length+2→
  ∃ b v l,bA fu x vis d left=some (b,v,l)∧v.length=vis.length∧(match eU d.nodes fu x (vis,left) with|some s=>b=true∧s=(v,l)|none=>b=false)
 | 0,x,vis,left,hx,hf,hv=>by have:=hx.1;omega
 | fu+1,x,vis,left,hx,hf,hv=>by
  have hx0:=hx.1;have hx1:=hx.2;have hxl:x.toNat < vis.length:=by omega
  unfold bA eU
  have hcond:(if x < (2:Int) then some true else cI vis x λe4=>some e4)=some (decide (x < 2∨vis.getD x.toNat false=true)):=by
   by_cases h2:x < 2
   ·rw [if_pos h2];simp [h2]
   rw [if_neg h2,cH hx0 (oA hxl)];simp [h2]
  rw [hcond,aA];dsimp only;by_cases hc:x < 2∨vis.getD x.toNat false=true
  ·rw [if_pos (by simpa using hc), if_pos hc];exact⟨true,vis,left,rfl,rfl,rfl,rfl⟩
  rw [if_neg (by simpa using hc), if_neg hc]
  have h2:2≤x:=by
   rcases Int.lt_or_le x 2 with h2|h2
   ·exact absurd (.inl h2) hc
   exact h2
  obtain⟨n,hn⟩:=hx.get h2;have hlo:=h.lo _ n hn;have hhi:=h.hi _ n hn;rw [cH hx0 (oA hxl),aB (hx.i64 (by omega)).1,cH (by omega) hn,hn];dsimp only;have ilo:InD d.nodes n.lo:=⟨hlo.1,by omega⟩;have ihi:InD d.nodes n.hi:=⟨hhi.1,by omega⟩;obtain⟨b1,v1,l1,e1,w1,r1⟩:=gB h hl fu n.lo (vis.set x.toNat true) left ilo (by omega) (by simpa using hv);rw [e1,aA];dsimp only
  cases hp1:eU d.nodes fu n.lo (vis.set x.toNat true,left) with
  | none=>
   rw [hp1] at r1;dsimp only at r1;subst r1;rw [if_pos (by rfl),aA];dsimp only;rw [if_pos rfl];exact⟨false,v1,l1,rfl,by simpa using w1,rfl⟩
  | some s1=>
   rw [hp1] at r1;dsimp only at r1;obtain⟨rfl,rfl⟩:=r1;rw [if_neg (by simp)];obtain⟨b2,v2,l2,e2,w2,r2⟩:=gB h hl fu n.hi v1 l1 ihi (by omega) (by simpa [hv] using w1);rw [e2,aA];dsimp only;simp only [Option.bind_some]
   cases hp2:eU d.nodes fu n.hi (v1,l1) with
   | none=>
    rw [hp2] at r2;dsimp only at r2;subst r2;rw [if_pos (by rfl),aA];dsimp only;rw [if_pos rfl];exact⟨false,v2,l2,rfl,by simpa using w2.trans w1,rfl⟩
   | some s2=>
    rw [hp2] at r2;dsimp only at r2;obtain⟨rfl,rfl⟩:=r2;rw [if_neg (by simp),aA];dsimp only;simp only [Option.bind_some];by_cases hxe:x=l2
    ·rw [if_pos hxe, if_neg (by simp [hxe]), aB (by unfold I64; omega)];exact⟨true,v2,l2+1,rfl,by simpa using w2.trans w1,rfl,rfl⟩
    rw [if_neg hxe, if_pos (by simp [hxe])];exact⟨false,v2,l2,rfl,by simpa using w2.trans w1,rfl⟩
theorem tR {d:Diagram} (h:WfD d.nodes) (hl:d.nodes.length≤1000000) (hr:InD d.nodes d.root):eI d=some (decide (cL d.nodes aN d.root 2=some ((d.nodes.length:Int)+2))):=by
 unfold eI fE;have ht:((d.nodes.length:Int)+2).toNat=d.nodes.length+2:=by omega
 obtain⟨b,v,l,e,_,r⟩:=gB h hl aN d.root (List.replicate (d.nodes.length+2) false) 2 hr (by have:=hr.2;unfold aN;omega) (by simp);have hv:=zQ h aN hr;rw [aB (by unfold I64;omega),aB (by omega),ht,e,aA];dsimp only;rw [← hv]
 cases hp:eU d.nodes aN d.root (List.replicate (d.nodes.length+2) false,2) with
 | none=>
  rw [hp] at r;dsimp only at r;subst r;rw [if_neg (by simp),aA];simp
 | some s=>
  rw [hp] at r;dsimp only at r;obtain⟨rfl,rfl⟩:=r;rw [if_pos rfl,aB (by unfold I64;omega),aA];simp
theorem mem_find {L:List Node} {n:Node}:(L.findIdx? λm=>decide (m=n))=none↔n∉L:=by
 rw [List.findIdx?_eq_none_iff];constructor
 ·intro h hm;have:=h n hm;simp at this
 intro h x hx;simp only [decide_eq_false_iff_not];exact λe=>h (e ▸ hx)
theorem fW {d:Diagram} (ho:NOK d.nodes):∃ b,bN d=some b∧(b=true↔ValidD d):=by
 unfold bN;by_cases hl:d.nodes.length≤20000
 ·rw [if_neg (by omega)];rw [wF (ρ:=(List (Node×Int)×List Node) ⊕ Bool) (b:=(([]:List (Node×Int)),([]:List Node))) d.nodes.length (λi=>(dR (d.nodes.take i),d.nodes.take i)) (sY d.nodes) (.inr false) (.inl (dR d.nodes,d.nodes)) rfl (by omega) (λi hi hb=>?_) (λhb=>?_)]
  ·cases ha:(List.range d.nodes.length).any (sY d.nodes) with
   | true=>
    refine⟨false,rfl,?_⟩;constructor
    ·intro h;cases h
    intro h;have:=any_bad.2 h.2.1;rw [ha] at this;cases this
   | false=>
    have hw:=any_bad.1 ha;rw [if_neg (by simp),pM];dsimp only;by_cases h0:d.nodes.length=0
    ·rw [if_pos (by omega)];refine⟨_,rfl,?_⟩;unfold ValidD;rw [if_pos h0];simp [hl,hw]
    rw [if_neg (by omega), aB (by unfold I64; omega)];by_cases hr:d.root=(d.nodes.length:Int)+1
    ·rw [if_pos hr, tR hw.1 (by omega) (by unfold InD; omega), aA, aA];refine⟨_,rfl,?_⟩;unfold ValidD;rw [if_neg h0,decide_eq_true_eq];exact⟨λh=>⟨hl,hw,hr,h⟩,λh=>h.2.2.2⟩
    rw [if_neg hr,aA];refine⟨_,rfl,?_⟩;unfold ValidD;rw [if_neg h0];exact⟨λh=>(by cases h),λh=>absurd h.2.2.1 hr⟩
  ·have hn:=zQR hi;have hnt:(d.nodes.take i).Nodup:=gC i hb;have hlt:(d.nodes.take i).length=i:=by simp;omega
   dsimp only;rw [if_pos (by omega),eP hn,mS hn];generalize d.nodes[i]=n at hn
   have hbad : (if n.var < (0 : Int) then some true
      else if (64 : Int) ≤ n.var then some true
       else if n.lo = n.hi then some true
        else aD (dG d i n.lo) fun r20 => if (!(r20)) = true then some true else aD (dG d i n.hi) fun r22 => some (!(r22))) = some (!decide (dS d.nodes i n)) := by
    by_cases h1:n.var < 0
    ·rw [if_pos h1,decide_eq_false (show ¬ dS d.nodes i n from λh=>by have:=h.1;omega)];rfl
    rw [if_neg h1];by_cases h2:64≤n.var
    ·rw [if_pos h2,decide_eq_false (show ¬ dS d.nodes i n from λh=>by have:=h.2.1;omega)];rfl
    rw [if_neg h2];by_cases h3:n.lo=n.hi
    ·rw [if_pos h3,decide_eq_false (show ¬ dS d.nodes i n from λh=>h.2.2.1 h3)];rfl
    rw [if_neg h3, sU hn (by omega) (by omega), aA];by_cases h4:0≤n.lo∧n.lo < (i:Int)+2∧n.var < aG d.nodes n.lo
    ·rw [decide_eq_true h4, if_neg (by simp), sU hn (by omega) (by omega), aA];rw [show decide (dS d.nodes i n)=decide (0≤n.hi∧n.hi < (i:Int)+2∧n.var < aG d.nodes n.hi) from decide_eq_decide.2 ⟨λh=>h.2.2.2.2,λh=>⟨by omega,by omega,h3,h4,h⟩⟩]
    rw [decide_eq_false h4, if_pos (by rfl), decide_eq_false (show ¬ dS d.nodes i n from fun h => h4 h.2.2.2.1)];rfl
   rw [hbad,aA]
   cases hg:decide (dS d.nodes i n) with
   | false=>rw [if_pos (by rfl),if_pos (by rfl)];rfl
   | true=>
    rw [if_neg (by simp),tU hnt (λm hm=>ho m (List.mem_of_mem_take hm)) (ho.at hn) (by omega),aA]
    cases hf:(d.nodes.take i).findIdx? (λm=>decide (m=n)) with
    | some j=>
     have hm:n∈d.nodes.take i:=by
      rcases Classical.em (n∈d.nodes.take i) with h|h
      ·exact h
      rw [mem_find.2 h] at hf;cases hf
     rw [List.findIdx?_eq_some_iff_getElem] at hf;obtain⟨hj,_,_⟩:=hf;dsimp only;rw [if_neg (by omega),if_pos (by simp [hm])];rfl
    | none=>
     have hm:=mem_find.1 hf;dsimp only;rw [if_pos (by omega),aB (by unfold I64;omega),if_neg (by simp [hm])];have:d.nodes.take (i+1)=d.nodes.take i++[n]:=by rw [List.take_add_one,hn];rfl
     rw [this]
  dsimp only;rw [if_neg (by omega),List.take_length];rfl
 rw [if_pos (by omega)];refine⟨false,rfl,?_⟩;constructor
 ·intro h;cases h
 intro h;exact absurd h.1 hl
theorem kS:eH=some true:=by decide+kernel
theorem ValidD.root {d:Diagram} (h:ValidD d):InD d.nodes d.root:=by
 have h3:=h.2.2;unfold InD;split at h3
 ·omega
 have:=h3.1;omega
end Go.Proofs.Ytdkhkhidekpfoaa
