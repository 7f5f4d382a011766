/- Texts of this proof, joined, without what it does not use. No condition. -/
import Derived.Test.YtdkhkhidekpfoaaRows
import Derived.Test.YtdkhkhidekpfoaaQm

set_option maxHeartbeats 8000000
set_option linter.unusedSimpArgs false
set_option linter.unusedVariables false
set_option maxRecDepth 20000
namespace Go.Proofs.Ytdkhkhidekpfoaa
open Go Go.TL
theorem follows:Try.prog.follows .mixedOrders=true:=by kernel_rfl
theorem own:ownKnob Try.prog.godebug=none:=by kernel_rfl
theorem vF:laidOutB Try.prog=true:=by kernel_rfl
def tab:Tab where
 lay:=[(3,false,1),(4,false,1),(22,false,1),(24,true,3),(27,false,1),(29,true,2),(36,false,1),(39,false,1),(51,true,3),(61,false,1),(78,false,1),(79,false,1),(81,true,9),(84,true,2)]
 fs:=[(24,[(0,false,1),(1,false,1),(2,false,1)]),(29,[(0,false,1),(1,false,1)]),(51,[(0,false,1),(1,false,1),(2,false,1)]),(63,[(0,false,1),(1,false,1)]),(81,[(0,true,2),(2,true,2),(4,false,1),(5,true,2),(7,false,1),(8,false,1)]),(84,[(0,false,1),(1,false,1)])]
 sel:=[(22,24,3,40),(27,51,3,24),(36,4,1,1),(54,36,1,24),(59,39,1,8),(66,3,1,8)]
 str:=[]
 boo:=[(4,())]
 con:=[]
theorem TK:TabOk Try.prog tab:=uR (by kernel_rfl)
theorem wN:aY Try.prog 10=true:=by kernel_rfl
theorem wM:aY Try.prog 11=true:=by kernel_rfl
theorem wL:aY Try.prog 13=true:=by kernel_rfl
theorem wK:aY Try.prog 15=true:=by kernel_rfl
theorem wJ:aY Try.prog 17=true:=by kernel_rfl
theorem wI:aY Try.prog 19=true:=by kernel_rfl
theorem wH:aY Try.prog 20=true:=by kernel_rfl
theorem wG:aY Try.prog 21=true:=by kernel_rfl
theorem wF:aY Try.prog 22=true:=by kernel_rfl
theorem wE:aY Try.prog 32=true:=by kernel_rfl
theorem wD:aY Try.prog 33=true:=by kernel_rfl
theorem wC:aY Try.prog 34=true:=by kernel_rfl
theorem wB:aY Try.prog 38=true:=by kernel_rfl
theorem wA:aY Try.prog 40=true:=by kernel_rfl
theorem vZ:aY Try.prog 41=true:=by kernel_rfl
theorem rH:aY Try.prog 42=true:=by kernel_rfl
theorem vY:aY Try.prog 43=true:=by kernel_rfl
theorem vX:aY Try.prog 44=true:=by kernel_rfl
theorem vW:aY Try.prog 45=true:=by kernel_rfl
theorem vV:aY Try.prog 49=true:=by kernel_rfl
theorem callB5:aY Try.prog 5=true:=by kernel_rfl
theorem vU:aY Try.prog 50=true:=by kernel_rfl
theorem vT:aY Try.prog 51=true:=by kernel_rfl
theorem vS:aY Try.prog 52=true:=by kernel_rfl
theorem vR:aY Try.prog 54=true:=by kernel_rfl
theorem vQ:aY Try.prog 55=true:=by kernel_rfl
theorem vP:aY Try.prog 56=true:=by kernel_rfl
theorem vO:aY Try.prog 58=true:=by kernel_rfl
theorem vN:aY Try.prog 59=true:=by kernel_rfl
theorem tS:(Try.prog.keyTypeAt 30 51&&!Try.prog.eqGuardType Try.prog.depth 51&&(match Try.prog.underlying 51 with|some (.struct _)=>true|_=>false)&&[TypeDesc.int .i64,TypeDesc.int .i64,TypeDesc.int .i64].length == Try.prog.cellsOf 51)=true:=by kernel_rfl
theorem rD:hO Try.prog 30 51=some [.int .i64,.int .i64,.int .i64]:=by kernel_rfl
theorem jR:mty Try.prog 61=some (51,(Try.prog.underlying 51).getD .bool,3):=by kernel_rfl
theorem tO:mty Try.prog 79=some (84,(Try.prog.underlying 84).getD .bool,3):=by kernel_rfl
theorem wZ:plc Try.prog 24=some [(0,1),(1,1),(2,1)]:=by kernel_rfl
theorem eH:plc Try.prog 29=some [(0,1),(1,1)]:=by kernel_rfl
theorem oE:plc Try.prog 51=some [(0,1),(1,1),(2,1)]:=by kernel_rfl
theorem plc81:plc Try.prog 81=some [(0,2),(2,2),(4,1),(5,2),(7,1),(8,1)]:=by kernel_rfl
theorem tG:plc Try.prog 84=some [(0,1),(1,1)]:=by kernel_rfl
theorem fL:SKey Try.prog 51 [.int .i64,.int .i64,.int .i64]:=sKey 3 (by decide) (by kernel_rfl) (by kernel_rfl)
theorem pR:SKey Try.prog 84 [.int .i64,.int .i64]:=sKey 3 (by decide) (by kernel_rfl) (by kernel_rfl)
theorem kM:(Try.prog.info? 24).bind (·.zero)=Option.some (Go.Value.agg #[Go.Value.int Go.IntKind.i64 0,Go.Value.int Go.IntKind.i64 0,Go.Value.slice Option.none 0 0]):=by kernel_rfl
theorem bE:(Try.prog.info? 29).bind (·.zero)=Option.some (Go.Value.agg #[Go.Value.slice Option.none 0 0,Go.Value.int Go.IntKind.i64 0]):=by kernel_rfl
theorem gS:(Try.prog.info? 3).bind (·.zero)=Option.some (Go.Value.int Go.IntKind.i64 0):=by kernel_rfl
theorem zero36:(Try.prog.info? 36).bind (·.zero)=Option.some (Go.Value.slice Option.none 0 0):=by kernel_rfl
theorem pM:(Try.prog.info? 39).bind (·.zero)=Option.some (Go.Value.int Go.IntKind.u64 0):=by kernel_rfl
theorem wU:(Try.prog.info? 4).bind (·.zero)=Option.some (Go.Value.bool Bool.false):=by kernel_rfl
theorem aT:(Try.prog.info? 51).bind (·.zero)=Option.some (Go.Value.agg #[Go.Value.int Go.IntKind.i64 0,Go.Value.int Go.IntKind.i64 0,Go.Value.int Go.IntKind.i64 0]):=by kernel_rfl
theorem zero63:(Try.prog.info? 63).bind (·.zero)=Option.some (Go.Value.agg #[Go.Value.map Option.none,Go.Value.slice Option.none 0 0]):=by kernel_rfl
theorem zero78:(Try.prog.info? 78).bind (·.zero)=Option.some Go.Value.nilFunc:=by kernel_rfl
theorem sH:(Try.prog.info? 81).bind (·.zero)=Option.some (Go.Value.agg #[Go.Value.slice Option.none 0 0,Go.Value.int Go.IntKind.i64 0,Go.Value.slice Option.none 0 0,Go.Value.int Go.IntKind.i64 0,Go.Value.bool Bool.false,Go.Value.map Option.none,Go.Value.slice Option.none 0 0,Go.Value.map Option.none,Go.Value.bool Bool.false]):=by kernel_rfl
theorem pL:(Try.prog.info? 84).bind (·.zero)=Option.some (Go.Value.agg #[Go.Value.int Go.IntKind.i64 0,Go.Value.int Go.IntKind.i64 0]):=by kernel_rfl
theorem wT {w:World} {n k:Nat} {g:Gh} {mv:Nat→Bool} {o:Oper} {ev:Operand→AV} {hp:List Blk} {a b:Operand} {t':TypeId} {x y:Node} (ho:o.op=.binOp .eql 51 a b t') (hx:ev a=.d x.enc) (hy:ev b=.d y.enc) (h1:x.ok) (h2:y.ok):RdOk ⟨Try.prog,n,w,k,g,mv⟩ o ev hp (.d (.bool (decide (x=y)))):=
 eq_yes ho hx hy rD tS rfl rfl ⟨⟨rfl,h1.1⟩,⟨rfl,h1.2.1⟩,⟨rfl,h1.2.2⟩,trivial⟩ ⟨⟨rfl,h2.1⟩,⟨rfl,h2.2.1⟩,⟨rfl,h2.2.2⟩,trivial⟩ (mM x y)
theorem wS {w:World} {n k:Nat} {g:Gh} {mv:Nat→Bool} {o:Oper} {ev:Operand→AV} {hp:List Blk} {a b:Operand} {t':TypeId} {x y:Node} (ho:o.op=.binOp .neq 51 a b t') (hx:ev a=.d x.enc) (hy:ev b=.d y.enc) (h1:x.ok) (h2:y.ok):RdOk ⟨Try.prog,n,w,k,g,mv⟩ o ev hp (.d (.bool (!decide (x=y)))):=
 eq_not ho hx hy rD tS rfl rfl ⟨⟨rfl,h1.1⟩,⟨rfl,h1.2.1⟩,⟨rfl,h1.2.2⟩,trivial⟩ ⟨⟨rfl,h2.1⟩,⟨rfl,h2.2.1⟩,⟨rfl,h2.2.2⟩,trivial⟩ (mM x y)
theorem fQ : KeyG [.int .i64, .int .i64, .int .i64] Node.enc Node.okb := ⟨fun x h => by
 have h : Node.ok x := of_decide_eq_true h
 exact ⟨_, [.int .i64 x.var, .int .i64 x.lo, .int .i64 x.hi], rfl, rfl, ⟨⟨rfl, h.1⟩, ⟨rfl, h.2.1⟩, ⟨rfl, h.2.2⟩, trivial⟩⟩, fun a b h => by
 cases a; cases b; simpa [Node.enc] using h⟩
theorem qI : KeyG [.int .i64, .int .i64] Pair.enc Pair.okb := ⟨fun x h => by
 have h : Pair.ok x := of_decide_eq_true h
 exact ⟨_, [.int .i64 x.a, .int .i64 x.b], rfl, rfl, ⟨⟨rfl, h.1⟩, ⟨rfl, h.2⟩, trivial⟩⟩, fun a b h => by
 cases a; cases b; simpa [Pair.enc] using h⟩
theorem HasTy.fld {P:Go.Program} {cs:List D} {fs:Array Field} (h2:∀ (i:Nat) (f:Field),fs[i]?=some f→HasTy P f.type ((cs.drop f.offset).take (P.cellsOf f.type))) {i off n:Nat} {f:Field} {t:TypeId} (hf:fs[i]?=some f) (ht:f.type=t) (ho:f.offset=off) (hc:P.cellsOf t=n):HasTy P t ((cs.drop off).take n):=by
 have:=h2 i f hf;rw [ht,ho,hc] at this;exact this
theorem nN:Try.prog.cellsOf 3=1:=by kernel_rfl
theorem rG:Try.prog.cellsOf 51=3:=by kernel_rfl
theorem vD {cs:List D} (h:cs.length=3):∃ a0 a1 a2,cs=[a0,a1,a2]:=by
 match cs,h with
 | [a0,a1,a2],_=>exact⟨a0,a1,a2,rfl⟩
theorem ty51c (cs:List D) (h:HasTy Try.prog 51 cs):∃ x:Node,x.Wf∧cs=[.int .i64 x.var,.int .i64 x.lo,.int .i64 x.hi]:=by
 obtain⟨h1,h2⟩:=h.struct_inv Try.underlying51;rw [rG] at h1;obtain⟨a0,a1,a2,rfl⟩:=vD h1;obtain⟨x0,e0,w0⟩:=(show HasTy Try.prog 3 [a0] from HasTy.fld h2 (i:=0) rfl rfl rfl nN).int_inv Try.underlying3;replace e0:[a0]=[D.int .i64 x0]:=e0;simp only [List.cons.injEq,and_true] at e0;obtain⟨x1,e1,w1⟩:=(show HasTy Try.prog 3 [a1] from HasTy.fld h2 (i:=1) rfl rfl rfl nN).int_inv Try.underlying3;replace e1:[a1]=[D.int .i64 x1]:=e1;simp only [List.cons.injEq,and_true] at e1;obtain⟨x2,e2,w2⟩:=(show HasTy Try.prog 3 [a2] from HasTy.fld h2 (i:=2) rfl rfl rfl nN).int_inv Try.underlying3;replace e2:[a2]=[D.int .i64 x2]:=e2;simp only [List.cons.injEq,and_true] at e2;subst e0 e1 e2;exact⟨⟨x0,x1,x2⟩,⟨w0,w1,w2⟩,rfl⟩
theorem ty51 (cs:List D) (h:HasTy Try.prog 51 cs):∃ x:Node,x.Wf∧aG Try.prog 51 cs=x.enc:=by
 obtain⟨x,w,rfl⟩:=ty51c cs h;exact⟨x,w,by simp [aG,Try.underlying51,Node.enc]⟩
theorem vL:Try.prog.cellsOf 29=2:=by kernel_rfl
theorem vM:Try.prog.cellsOf 27=1:=by kernel_rfl
theorem vE {cs:List D} (h:cs.length=2):∃ a0 a1,cs=[a0,a1]:=by
 match cs,h with
 | [a0,a1],_=>exact⟨a0,a1,rfl⟩
theorem ty29c (cs:List D) (h:HasTy Try.prog 29 cs):∃ x:Diagram,x.Wf∧cs=[.sl 3 (x.nodes.map Node.enc),.int .i64 x.root]:=by
 obtain⟨h1,h2⟩:=h.struct_inv Try.underlying29;rw [vL] at h1;obtain⟨a0,a1,rfl⟩:=vE h1;obtain⟨x0,e0,l0,m0⟩:=(show HasTy Try.prog 27 [a0] from HasTy.fld h2 (i:=0) rfl rfl rfl vM).list Try.underlying27 Node.enc Node.Wf (λcs _ h=>ty51 cs h);rw [rG] at e0;have w0:=And.intro l0 m0;replace e0:[a0]=[D.sl 3 (x0.map Node.enc)]:=e0;simp only [List.cons.injEq,and_true] at e0;obtain⟨x1,e1,w1⟩:=(show HasTy Try.prog 3 [a1] from HasTy.fld h2 (i:=1) rfl rfl rfl nN).int_inv Try.underlying3;replace e1:[a1]=[D.int .i64 x1]:=e1;simp only [List.cons.injEq,and_true] at e1;subst e0 e1;exact⟨⟨x0,x1⟩,⟨w0,w1⟩,rfl⟩
theorem ty29 (cs:List D) (h:HasTy Try.prog 29 cs):∃ x:Diagram,x.Wf∧aG Try.prog 29 cs=x.enc:=by
 obtain⟨x,w,rfl⟩:=ty29c cs h;exact⟨x,w,by simp [aG,Try.underlying29,Diagram.enc]⟩
theorem ty4 (cs:List D) (h:HasTy Try.prog 4 cs):∃ x:Bool,(λ_=>True) x∧aG Try.prog 4 cs=D.bool x:=by
 obtain⟨x,rfl⟩:=h.bool_inv Try.underlying4;exact⟨x,trivial,by simp [aG,Try.underlying4]⟩
theorem cells4:Try.prog.cellsOf 4=1:=by kernel_rfl
theorem ty36 (cs:List D) (h:HasTy Try.prog 36 cs):∃ l:(List Bool),(λl=>l.length≤reachBytes∧∀ x∈l,(λ_=>True) x) l∧aG Try.prog 36 cs=(λ(l:List Bool)=>D.sl 1 (l.map D.bool)) l:=by
 obtain⟨l,rfl,h1,h2⟩:=h.list Try.underlying36 D.bool (λ_=>True) (λcs _ h=>ty4 cs h);exact⟨l,⟨h1,h2⟩,by simp [aG,Try.underlying36,cells4]⟩
def iP (p0:Int):Option Expr:=
 some (⟨(3:Int),p0,([]:List Expr)⟩:Expr)
def cP:Nat→Expr→Int→Int→Int→Option (Bool×Int)
 | 0,_,_,_,_=>none
 | fu+1,p0,p1,p2,p3=>
 if ((decide ((12:Int) < p2))||(decide (p3=(0:Int))))=true then
 some (false,p3)
 else
 aB (I64 (p3 - (1:Int))) <|
 dT (
 aE (
 if p0.op=(1:Int) then
 some (decide (p0.op=(1:Int)))
 else
 some (decide (p0.op=(2:Int)))) λx5=>
 if x5=true then
 aV (
 some (((decide (p0.var=(0:Int)))&&(decide ((p0.args.length:Int)=(0:Int)))),(p3 - (1:Int))))
 else
 if p0.op=(3:Int) then
 aV (
 some (((decide ((0:Int)≤p0.var))&&((decide (p0.var < p1))&&(decide ((p0.args.length:Int)=(0:Int))))),(p3 - (1:Int))))
 else
 if p0.op=(4:Int) then
 if (p0.args.length:Int)=(1:Int) then
 some (.inl ())
 else
 aV (
 some (false,(p3 - (1:Int))))
 else
 if p0.op=(5:Int) then
 some (.inl ())
 else
 if p0.op=(6:Int) then
 some (.inl ())
 else
 aV (
 some (false,(p3 - (1:Int))))) λ_=>
 if p0.var=(0:Int) then
 dT (
 bO (λ(x27,c28)=>
 if x27 < (p0.args.length:Int) then
 bG p0.args x27 λe31=>
 aB (I64 (p2+(1:Int))) <|
 aE ((cP fu) e31 p1 (p2+(1:Int)) c28) λ(r34,r35)=>
 if (!(r34))=true then
 aV (
 aV (
 some (false,r35)))
 else
 aB (I64 (x27+(1:Int))) <|
 some (.inl ((x27+(1:Int)),r35))
 else
 aV (
 some (.inl c28))) ((0:Int),(p3 - (1:Int)))) λc22=>
 some (true,c22)
 else
 some (false,(p3 - (1:Int)))
def lF (p0:Expr) (p1:Int) (p2:Int) (p3:Int):Option (Bool×Int):=cP aN p0 p1 p2 p3
def iG (p0:Expr) (p1:Int):Option Bool:=
 aE (lF p0 p1 (1:Int) (20000:Int)) λ(r2,r3)=>
 some r2
def fV (p0:Int):Option Int:=
 if p0 < (2:Int) then
 aB (I64 ((1:Int) - p0)) <|
 some ((1:Int) - p0)
 else
 some p0
def eW (p0:Diagram):Option Diagram:=
 aE (fV p0.root) λr1=>
 aE (
 bO (λ(x7,b8)=>
 if x7 < (p0.nodes.length:Int) then
 bG p0.nodes x7 λe11=>
 aE (fV e11.lo) λr12=>
 aE (fV e11.hi) λr13=>
 aB ((b8++([(⟨e11.var,r12,r13⟩:Node)]:List Node)).length≤1000000000) <|
 aB (I64 (x7+(1:Int))) <|
 some (.inl ((x7+(1:Int)),(b8++([(⟨e11.var,r12,r13⟩:Node)]:List Node))))
 else
 aV (
 some b8)) ((0:Int),([]:List Node))) λb2=>
 some (⟨b2,r1⟩:Diagram)
def dH (p0:Bool):Option Diagram:=
 if p0=true then
 some (⟨([]:List Node),(1:Int)⟩:Diagram)
 else
 some (⟨([]:List Node),(0:Int)⟩:Diagram)
def cQ (p0:Diagram) (p1:Int):Option Int:=
 if p1 < (2:Int) then
 some (64:Int)
 else
 aB (I64 (p1 - (2:Int))) <|
 bG p0.nodes (p1 - (2:Int)) λe3=>
 some e3.var
def dI (p0:Diagram) (p1:Int) (p2:Int):Option (Int×Int):=
 aE (cQ p0 p1) λr1=>
 if r1=p2 then
 aB (I64 (p1 - (2:Int))) <|
 bG p0.nodes (p1 - (2:Int)) λe4=>
 some (e4.lo,e4.hi)
 else
 some (p1,p1)
def bD (p0:Merger) (p1:Node):Option (Int×Merger):=
 oK p0.nodes.index (
 aB (Node.okb p1=true) <|
 aE (
 some ()) λ_=>
 aB (cN Node.okb ([]:List (Node×Int)) p1) <|
 aB ((p0.nodes.list++([p1]:List Node)).length≤1000000000) <|
 aB (I64 (((p0.nodes.list++([p1]:List Node)).length:Int) - (1:Int))) <|
 some ((((p0.nodes.list++([p1]:List Node)).length:Int) - (1:Int)),(⟨p0.a,p0.b,p0.all,(⟨(eO ([]:List (Node×Int)) p1 (p0.nodes.list.length:Int)),(p0.nodes.list++([p1]:List Node))⟩:Node'),p0.done,p0.full⟩:Merger))) (
 aB (cN Node.okb p0.nodes.index p1) <|
 if ((bL p0.nodes.index p1).isSome)=true then
 some (((bL p0.nodes.index p1).getD (0:Int)),p0)
 else
 aE (
 some ()) λ_=>
 aB (cN Node.okb p0.nodes.index p1) <|
 aB ((p0.nodes.list++([p1]:List Node)).length≤1000000000) <|
 aB (I64 (((p0.nodes.list++([p1]:List Node)).length:Int) - (1:Int))) <|
 some ((((p0.nodes.list++([p1]:List Node)).length:Int) - (1:Int)),(⟨p0.a,p0.b,p0.all,(⟨(eO p0.nodes.index p1 (p0.nodes.list.length:Int)),(p0.nodes.list++([p1]:List Node))⟩:Node'),p0.done,p0.full⟩:Merger)))
def aX:Nat→Merger→Pair→Option (Int×Merger)
 | 0,_,_=>none
 | fu+1,p0,p1=>
 if (p0.full)=true then
 some ((0:Int),p0)
 else
 aE (
 if (!(p0.all))=true then
 some ((1:Int),(0:Int))
 else
 some ((0:Int),(1:Int))) λ(decides2,other3)=>
 if ((decide (p1.a=decides2))||(decide (p1.b=decides2)))=true then
 some (decides2,p0)
 else
 if ((decide (p1.a=other3))&&(decide (p1.b=other3)))=true then
 some (other3,p0)
 else
 aB (cN Pair.okb p0.done p1) <|
 if ((bL p0.done p1).isSome)=true then
 some (((bL p0.done p1).getD (0:Int)),p0)
 else
 aE (cQ p0.a p1.a) λr12=>
 aE (cQ p0.b p1.b) λr13=>
 aE (dI p0.a p1.a (min r12 r13)) λ(r15,r16)=>
 aE (dI p0.b p1.b (min r12 r13)) λ(r18,r19)=>
 aE ((aX fu) p0 (⟨r15,r18⟩:Pair)) λ(r21,r22)=>
 aE (
 aE ((aX fu) (⟨p0.a,p0.b,p0.all,r22.nodes,r22.done,r22.full⟩:Merger) (⟨r16,r19⟩:Pair)) λ(r30,r31)=>
 if r30=r21 then
 some (r21,r31.full,r31.nodes.index,r31.nodes.list,r31.done)
 else
 aE (bD (⟨p0.a,p0.b,p0.all,r31.nodes,r31.done,r31.full⟩:Merger) (⟨(min r12 r13),r21,r30⟩:Node)) λ(r34,r35)=>
 aB (I64 (r34+(2:Int))) <|
 some ((r34+(2:Int)),r31.full,r35.nodes.index,r35.nodes.list,r31.done)) λ(x23,c24,m25,b26,m27)=>
 if (20000:Int) < (b26.length:Int) then
 aB (cN Pair.okb m27 p1) <|
 some (x23,(⟨p0.a,p0.b,p0.all,(⟨m25,b26⟩:Node'),(eO m27 p1 x23),true⟩:Merger))
 else
 aB (cN Pair.okb m27 p1) <|
 some (x23,(⟨p0.a,p0.b,p0.all,(⟨m25,b26⟩:Node'),(eO m27 p1 x23),c24⟩:Merger))
def eL (p0:Merger) (p1:Pair):Option (Int×Merger):=aX aN p0 p1
def fX (p0:Diagram) (p1:Diagram) (p2:Bool):Option (Diagram×Bool):=
 aE (eL (⟨p0,p1,p2,(⟨([]:List (Node×Int)),([]:List Node)⟩:Node'),([]:List (Pair×Int)),false⟩:Merger) (⟨p0.root,p1.root⟩:Pair)) λ(r2,r3)=>
 if (r3.full)=true then
 some ((⟨([]:List Node),(0:Int)⟩:Diagram),false)
 else
 some ((⟨r3.nodes.list,r2⟩:Diagram),true)
def bQ:Nat→Expr→Option (Diagram×Bool)
 | 0,_=>none
 | fu+1,p0=>
 dT (
 if p0.op=(1:Int) then
 aV (
 some ((⟨([]:List Node),(0:Int)⟩:Diagram),true))
 else
 if p0.op=(3:Int) then
 aV (
 some ((⟨([(⟨p0.var,(0:Int),(1:Int)⟩:Node)]:List Node),(2:Int)⟩:Diagram),true))
 else
 if p0.op=(4:Int) then
 bG p0.args (0:Int) λe7=>
 aE ((bQ fu) e7) λ(r9,r10)=>
 aE (eW r9) λr11=>
 aV (
 some (r11,r10))
 else
 aE (
 if p0.op=(5:Int) then
 some (decide (p0.op=(5:Int)))
 else
 some (decide (p0.op=(6:Int)))) λx13=>
 if x13=true then
 aE (dH (decide (p0.op=(5:Int)))) λr17=>
 dT (
 bO (λ(x25,c26,c27)=>
 if x25 < (p0.args.length:Int) then
 bG p0.args x25 λe30=>
 aE ((bQ fu) e30) λ(r32,r33)=>
 if (!(r33))=true then
 aV (
 aV (
 aV (
 some ((⟨([]:List Node),(0:Int)⟩:Diagram),false))))
 else
 aE (fX (⟨c26,c27⟩:Diagram) r32 (decide (p0.op=(5:Int)))) λ(r39,r40)=>
 if (!(r40))=true then
 aV (
 aV (
 aV (
 some ((⟨([]:List Node),(0:Int)⟩:Diagram),false))))
 else
 aB (I64 (x25+(1:Int))) <|
 some (.inl ((x25+(1:Int)),r39.nodes,r39.root))
 else
 aV (
 some (.inl (c26,c27)))) ((0:Int),r17.nodes,r17.root)) λ(c18,c19)=>
 aV (
 some ((⟨c18,c19⟩:Diagram),true))
 else
 some (.inl ())) λ_=>
 aE (dH true) λr48=>
 some (r48,true)
def jT (p0:Expr):Option (Diagram×Bool):=bQ aN p0
def qP (p0:Expr) (p1:Int):Option (Diagram×Int):=
 if (64:Int) < p1 then
 some ((⟨([]:List Node),(0:Int)⟩:Diagram),(2:Int))
 else
 aE (
 if p1 < (0:Int) then
 some true
 else
 aE (iG p0 p1) λr5=>
 some (!(r5))) λx2=>
 if x2=true then
 some ((⟨([]:List Node),(0:Int)⟩:Diagram),(1:Int))
 else
 aE (jT p0) λ(r8,r9)=>
 if (!(r9))=true then
 some ((⟨([]:List Node),(0:Int)⟩:Diagram),(2:Int))
 else
 some (r8,(0:Int))
def cF (p0:Diagram) (p1:Int) (p2:Int):Option Bool:=
 if ((decide (p2=(0:Int)))||(decide (p2=(1:Int))))=true then
 some true
 else
 aE (
 if (2:Int)≤p2 then
 aB (I64 (p1+(2:Int))) <|
 if p2 < (p1+(2:Int)) then
 aB (I64 (p2 - (2:Int))) <|
 bG p0.nodes (p2 - (2:Int)) λe9=>
 bG p0.nodes p1 λe10=>
 some (decide (e10.var < e9.var))
 else
 some false
 else
 some false) λx3=>
 some x3
def aU:Nat→Int→(List Bool)→Diagram→Int→Option (Bool×(List Bool)×Int)
 | 0,_,_,_,_=>none
 | fu+1,p0,p1,p2,p4=>
 aE (
 if p0 < (2:Int) then
 some true
 else
 bG p1 p0 λe4=>
 some e4) λx1=>
 if x1=true then
 some (true,p1,p4)
 else
 bG p1 p0 λe6=>
 aB (I64 (p0 - (2:Int))) <|
 bG p2.nodes (p0 - (2:Int)) λe8=>
 aE (
 aE ((aU fu) e8.lo (p1.set p0.toNat true) p2 p4) λ(r14,r15,r16)=>
 if (!(r14))=true then
 some (true,r15,r16)
 else
 aE ((aU fu) e8.hi r15 p2 r16) λ(r19,r20,r21)=>
 if (!(r19))=true then
 some (true,r20,r21)
 else
 some (!(decide (p0=r21)),r20,r21)) λ(x9,b10,c11)=>
 if x9=true then
 some (false,b10,c11)
 else
 aB (I64 (c11+(1:Int))) <|
 some (true,b10,(c11+(1:Int)))
def dV (p0:Int) (p1:(List Bool)) (p2:Diagram) (p4:Int):Option (Bool×(List Bool)×Int):=aU aN p0 p1 p2 p4
def dB (p0:Diagram):Option Bool:=
 aB (I64 ((p0.nodes.length:Int)+(2:Int))) <|
 aB (0≤((p0.nodes.length:Int)+(2:Int))∧((p0.nodes.length:Int)+(2:Int))≤1000000000) <|
 aE (
 aE (dV p0.root (List.replicate ((p0.nodes.length:Int)+(2:Int)).toNat false) p0 (2:Int)) λ(r8,r9,r10)=>
 if r8=true then
 aB (I64 ((p0.nodes.length:Int)+(2:Int))) <|
 some (decide (r10=((p0.nodes.length:Int)+(2:Int))),r9,r10)
 else
 some (false,r9,r10)) λ(x3,b4,c5)=>
 some x3
def aL (p0:Node') (p1:Node):Option (Int×Node'):=
 oK p0.index (
 aB (Node.okb p1=true) <|
 aE (
 some ()) λ_=>
 aB (cN Node.okb ([]:List (Node×Int)) p1) <|
 aB ((p0.list++([p1]:List Node)).length≤1000000000) <|
 aB (I64 (((p0.list++([p1]:List Node)).length:Int) - (1:Int))) <|
 some ((((p0.list++([p1]:List Node)).length:Int) - (1:Int)),(⟨(eO ([]:List (Node×Int)) p1 (p0.list.length:Int)),(p0.list++([p1]:List Node))⟩:Node'))) (
 aB (cN Node.okb p0.index p1) <|
 if ((bL p0.index p1).isSome)=true then
 some (((bL p0.index p1).getD (0:Int)),p0)
 else
 aE (
 some ()) λ_=>
 aB (cN Node.okb p0.index p1) <|
 aB ((p0.list++([p1]:List Node)).length≤1000000000) <|
 aB (I64 (((p0.list++([p1]:List Node)).length:Int) - (1:Int))) <|
 some ((((p0.list++([p1]:List Node)).length:Int) - (1:Int)),(⟨(eO p0.index p1 (p0.list.length:Int)),(p0.list++([p1]:List Node))⟩:Node')))
def bW (p0:Diagram):Option Bool:=
 if (20000:Int) < (p0.nodes.length:Int) then
 some false
 else
 dT (
 bO (λ(x9,b10,b11)=>
 if x9 < (p0.nodes.length:Int) then
 bG p0.nodes x9 λe14=>
 aE (
 if e14.var < (0:Int) then
 some true
 else
 if (64:Int)≤e14.var then
 some true
 else
 if e14.lo=e14.hi then
 some true
 else
 aE (cF p0 x9 e14.lo) λr20=>
 if (!(r20))=true then
 some true
 else
 aE (cF p0 x9 e14.hi) λr22=>
 some (!(r22))) λx15=>
 if x15=true then
 aV (
 aV (
 some false))
 else
 aE (aL (⟨b10,b11⟩:Node') e14) λ(r27,r28)=>
 if r27=x9 then
 aB (I64 (x9+(1:Int))) <|
 some (.inl ((x9+(1:Int)),r28.index,r28.list))
 else
 aV (
 aV (
 some false))
 else
 aV (
 some (.inl (b10,b11)))) ((0:Int),([]:List (Node×Int)),([]:List Node))) λ(m2,b3)=>
 if (p0.nodes.length:Int)=(0:Int) then
 some ((decide (p0.root=(0:Int)))||(decide (p0.root=(1:Int))))
 else
 aE (
 aB (I64 ((p0.nodes.length:Int)+(1:Int))) <|
 if p0.root=((p0.nodes.length:Int)+(1:Int)) then
 aE (dB p0) λr40=>
 some r40
 else
 some false) λx36=>
 some x36
def gM (p0:Diagram) (p1:Int):Option Bool:=
 dT (
 bO (λx3=>
 if x3 < (p0.nodes.length:Int) then
 bG p0.nodes x3 λe6=>
 if p1≤e6.var then
 aV (
 aV (
 some false))
 else
 aB (I64 (x3+(1:Int))) <|
 some (.inl (x3+(1:Int)))
 else
 aV (
 some (.inl ()))) (0:Int)) λ_=>
 some true
def cR (p0:Int) (p1:Int) (p2:Diagram):Option Int:=
 if p0 < (2:Int) then
 some p1
 else
 aB (I64 (p0 - (2:Int))) <|
 bG p2.nodes (p0 - (2:Int)) λe3=>
 some e3.var
def jJ (p0:Diagram) (p1:Int):Option (Int×Int):=
 if ((decide (p1 < (0:Int)))||(decide ((62:Int) < p1)))=true then
 some ((0:Int),(2:Int))
 else
 aE (
 aE (bW p0) λr5=>
 if (!(r5))=true then
 some true
 else
 aE (gM p0 p1) λr7=>
 some (!(r7))) λx3=>
 if x3=true then
 some ((0:Int),(1:Int))
 else
 aE (
 bO (λ(x14,b15)=>
 if x14 < (p0.nodes.length:Int) then
 bG p0.nodes x14 λe18=>
 bG b15 e18.lo λe19=>
 aE (cR e18.lo p1 p0) λr20=>
 aB (I64 (r20 - e18.var)) <|
 aB (I64 ((r20 - e18.var) - (1:Int))) <|
 aB (0≤((r20 - e18.var) - (1:Int))) <|
 bG b15 e18.hi λe24=>
 aE (cR e18.hi p1 p0) λr25=>
 aB (I64 (r25 - e18.var)) <|
 aB (I64 ((r25 - e18.var) - (1:Int))) <|
 aB (0≤((r25 - e18.var) - (1:Int))) <|
 aB ((b15++([(IntKind.u64.wrap ((IntKind.u64.wrap (e19 * (2 ^ (min ((r20 - e18.var) - (1:Int)).toNat IntKind.u64.bits))))+(IntKind.u64.wrap (e24 * (2 ^ (min ((r25 - e18.var) - (1:Int)).toNat IntKind.u64.bits))))))]:List Int)).length≤1000000000) <|
 aB (I64 (x14+(1:Int))) <|
 some (.inl ((x14+(1:Int)),(b15++([(IntKind.u64.wrap ((IntKind.u64.wrap (e19 * (2 ^ (min ((r20 - e18.var) - (1:Int)).toNat IntKind.u64.bits))))+(IntKind.u64.wrap (e24 * (2 ^ (min ((r25 - e18.var) - (1:Int)).toNat IntKind.u64.bits))))))]:List Int))))
 else
 aV (
 some b15)) ((0:Int),([(0:Int),(1:Int)]:List Int))) λb9=>
 bG b9 p0.root λe32=>
 aE (cR p0.root p1 p0) λr33=>
 aB (0≤r33) <|
 some ((IntKind.u64.wrap (e32 * (2 ^ (min r33.toNat IntKind.u64.bits)))),(0:Int))
def jI (p0:Diagram) (p1:Int):Option ((List Bool)×Bool):=
 aE (
 if p1 < (0:Int) then
 some true
 else
 if (64:Int) < p1 then
 some true
 else
 aE (bW p0) λr5=>
 if (!(r5))=true then
 some true
 else
 aE (gM p0 p1) λr7=>
 if (!(r7))=true then
 some true
 else
 some (decide (p0.root=(0:Int)))) λx1=>
 if x1=true then
 some (([]:List Bool),false)
 else
 aB (0≤p1∧p1≤1000000000) <|
 aE (
 bO (λ(at16,b17)=>
 if (1:Int) < at16 then
 aB (I64 (at16 - (2:Int))) <|
 bG p0.nodes (at16 - (2:Int)) λe21=>
 if e21.lo=(0:Int) then
 bG b17 e21.var λe23=>
 some (.inl (e21.hi,(b17.set e21.var.toNat true)))
 else
 some (.inl (e21.lo,b17))
 else
 aV (
 some b17)) (p0.root,(List.replicate p1.toNat false))) λb11=>
 some (b11,true)
def iA (p0:Diagram) (p1:Diagram):Option Bool:=
 if ((!(decide ((p0.nodes.length:Int)=(p1.nodes.length:Int))))||(!(decide (p0.root=p1.root))))=true then
 some false
 else
 dT (
 bO (λx5=>
 if x5 < (p0.nodes.length:Int) then
 bG p0.nodes x5 λe8=>
 bG p1.nodes x5 λe9=>
 aB (Node.ok e8∧Node.ok e9) <|
 if e8=e9 then
 aB (I64 (x5+(1:Int))) <|
 some (.inl (x5+(1:Int)))
 else
 aV (
 aV (
 some false))
 else
 aV (
 some (.inl ()))) (0:Int)) λ_=>
 some true
def dA:Option Bool:=
 aE (iP (0:Int)) λr1=>
 aE (iP (1:Int)) λr2=>
 aE (qP (⟨(5:Int),(0:Int),([r1,r2]:List Expr)⟩:Expr) (2:Int)) λ(r4,r5)=>
 aE (jJ r4 (3:Int)) λ(r7,r8)=>
 aE (jI r4 (2:Int)) λ(r10,r11)=>
 aE (
 if r5=(0:Int) then
 if r8=(0:Int) then
 if r7=(2:Int) then
 if r11=true then
 if (r10.length:Int)=(2:Int) then
 bG r10 (0:Int) λe19=>
 if e19=true then
 bG r10 (1:Int) λe21=>
 if e21=true then
 aE (iA r4 (⟨([(⟨(1:Int),(0:Int),(1:Int)⟩:Node),(⟨(0:Int),(0:Int),(2:Int)⟩:Node)]:List Node),(3:Int)⟩:Diagram)) λr23=>
 if r23=true then
 aE (bW r4) λr25=>
 some r25
 else
 some false
 else
 some false
 else
 some false
 else
 some false
 else
 some false
 else
 some false
 else
 some false
 else
 some false) λx12=>
 some x12
def bA:Nat→Diagram→Int→(List Int)→Option ((List Int))
 | 0,_,_,_=>none
 | fu+1,p0,p1,p2=>
 if p1 < (2:Int) then
 some p2
 else
 dT (
 bO (λx4=>
 if x4 < (p2.length:Int) then
 bG p2 x4 λe7=>
 if e7=p1 then
 aV (
 aV (
 some p2))
 else
 aB (I64 (x4+(1:Int))) <|
 some (.inl (x4+(1:Int)))
 else
 aV (
 some (.inl ()))) (0:Int)) λ_=>
 aB (I64 (p1 - (2:Int))) <|
 bG p0.nodes (p1 - (2:Int)) λe14=>
 aE ((bA fu) p0 e14.lo p2) λr15=>
 aB (I64 (p1 - (2:Int))) <|
 bG p0.nodes (p1 - (2:Int)) λe17=>
 aE ((bA fu) p0 e17.hi r15) λr18=>
 aB ((r18++([p1]:List Int)).length≤1000000000) <|
 some (r18++([p1]:List Int))
def dG (p0:Diagram) (p1:Int) (p2:(List Int)):Option ((List Int)):=bA aN p0 p1 p2
def cD (p0:Diagram):Option Bool:=
 if (p0.nodes.length:Int)=(0:Int) then
 some ((decide (p0.root=(0:Int)))||(decide (p0.root=(1:Int))))
 else
 aE (
 if (20000:Int) < (p0.nodes.length:Int) then
 some true
 else
 aB (I64 ((p0.nodes.length:Int)+(1:Int))) <|
 some (!(decide (p0.root=((p0.nodes.length:Int)+(1:Int)))))) λx3=>
 if x3=true then
 some false
 else
 dT (
 bO (λx10=>
 if x10 < (p0.nodes.length:Int) then
 dT (
 bG p0.nodes x10 λe14=>
 if ((decide (e14.var < (0:Int)))||((decide ((63:Int) < e14.var))||(decide (e14.lo=e14.hi))))=true then
 aV (
 aV (
 aV (
 some false)))
 else
 dT (
 bO (λx23=>
 if x23 < (([e14.lo,e14.hi]:List Int).length:Int) then
 bG ([e14.lo,e14.hi]:List Int) x23 λe26=>
 aE (
 if e26 < (0:Int) then
 some true
 else
 aB (I64 (x10+(2:Int))) <|
 if (x10+(2:Int))≤e26 then
 some true
 else
 if (1:Int) < e26 then
 aB (I64 (e26 - (2:Int))) <|
 bG p0.nodes (e26 - (2:Int)) λe34=>
 some (decide (e34.var≤e14.var))
 else
 some false) λx27=>
 if x27=true then
 aV (
 aV (
 aV (
 aV (
 aV (
 some false)))))
 else
 aB (I64 (x23+(1:Int))) <|
 some (.inl (x23+(1:Int)))
 else
 aV (
 some (.inl ()))) (0:Int)) λ_=>
 bO (λx44=>
 if x44 < x10 then
 bG p0.nodes x44 λe47=>
 aB (Node.ok e47∧Node.ok e14) <|
 if e47=e14 then
 aV (
 aV (
 aV (
 aV (
 some false))))
 else
 aB (I64 (x44+(1:Int))) <|
 some (.inl (x44+(1:Int)))
 else
 aV (
 some (.inl ()))) (0:Int)) λ_=>
 aB (I64 (x10+(1:Int))) <|
 some (.inl (x10+(1:Int)))
 else
 aV (
 some (.inl ()))) (0:Int)) λ_=>
 aE (dG p0 p0.root ([]:List Int)) λr59=>
 dT (
 bO (λx62=>
 if x62 < (r59.length:Int) then
 bG r59 x62 λe65=>
 aB (I64 (x62+(2:Int))) <|
 if e65=(x62+(2:Int)) then
 aB (I64 (x62+(1:Int))) <|
 some (.inl (x62+(1:Int)))
 else
 aV (
 aV (
 some false))
 else
 aV (
 some (.inl ()))) (0:Int)) λ_=>
 some (decide ((r59.length:Int)=(p0.nodes.length:Int)))
def cZ (p0:Diagram) (p1:(List Bool)):Option Bool:=
 aE (
 bO (λn4=>
 if (1:Int) < n4 then
 aB (I64 (n4 - (2:Int))) <|
 bG p0.nodes (n4 - (2:Int)) λe8=>
 aE (
 if e8.var < (p1.length:Int) then
 bG p1 e8.var λe12=>
 some e12
 else
 some false) λx9=>
 if x9=true then
 some (.inl e8.hi)
 else
 some (.inl e8.lo)
 else
 aV (
 some n4)) p0.root) λn1=>
 some (decide (n1=(1:Int)))
def fZ (p0:Diagram) (p1:(List Bool)):Option Bool:=
 aE (bW p0) λr1=>
 if (!(r1))=true then
 some false
 else
 aE (
 bO (λat6=>
 if (1:Int) < at6 then
 aB (I64 (at6 - (2:Int))) <|
 bG p0.nodes (at6 - (2:Int)) λe10=>
 aE (
 if e10.var < (p1.length:Int) then
 bG p1 e10.var λe14=>
 some e14
 else
 some false) λx11=>
 if x11=true then
 some (.inl e10.hi)
 else
 some (.inl e10.lo)
 else
 aV (
 some at6)) p0.root) λat3=>
 some (decide (at3=(1:Int)))
def dR (p0:Diagram) (p1:(List Bool)):Option Bool:=
 aE (
 aE (cD p0) λr3=>
 if r3=true then
 aE (cZ p0 p1) λr5=>
 some r5
 else
 some false) λx1=>
 some x1
def cM (p0:Diagram) (p1:(List Bool)):Option Bool:=
 if ((decide ((200:Int) < (p0.nodes.length:Int)))||(decide ((100:Int) < (p1.length:Int))))=true then
 aE (dA) λr3=>
 some r3
 else
 aE (
 aE (bW p0) λr6=>
 aE (cD p0) λr7=>
 if ((r6 == r7))=true then
 aE (fZ p0 p1) λr9=>
 aE (dR p0 p1) λr10=>
 if ((r9 == r10))=true then
 aE (dA) λr12=>
 some r12
 else
 some false
 else
 some false) λx4=>
 some x4
theorem kZ {p0:Int} {r:Expr} (hm:iP p0=some r):RetD Try.prog 32 [.int .i64 p0] (r.enc):=by
 refine .of (mv:=λ_=>false) (aR wE Try.func32 Q Try.ntmps32 Q Q (λwX gX=>?_));unfold iP at hm;refine WN [0] Q Q (RS (cI 0 Q Q kM Q (eY 0 [none,none,some 3] Q Q (TN (WN [0,2] Q Q (RS (SA TK Q (SX Q Q (aZ Q wZ kM Q Q Q Q) ?_))))))));refine lP 4 [none,none,some 3] Q (SA TK Q (TN (WN [2] Q Q (TR ?_))));obtain rfl:=OJ hm;exact EndsS.cellR _ TK Q Q Q Q Q (.d _)
theorem lV:∀ (fu:Nat) {p0:Expr} {p1:Int} {p2:Int} {p3:Int} {r0:Bool} {r1:Int} (hm:cP fu p0 p1 p2 p3=some (r0,r1)),Ret Try.prog 50 [.box 3 [.d (.int .i64 p3)]] (λ_=>false) [.d (.ptr (p0.enc) 0),.d (.int .i64 p1),.d (.int .i64 p2),.mptr 0 0 0 0] (.d (.bool (r0))) [.box 3 [.d (.int .i64 r1)]]:=by
 intro fu
 induction fu with
 | zero=>
  intro p0 p1 p2 p3 r0 r1 hm;unfold cP at hm;cases hm
 | succ fu ih=>
  intro p0 p1 p2 p3 r0 r1 hm;refine eG vU Try.func50 Q Try.ntmps50 Q Q (λwX gX=>?_);unfold cP at hm;refine WN [0,1,2,3] Q Q (RS (SA TK Q (TN (WN [0,1,2,3] Q Q (TQ ?_)))));refine eX [(17,.d (.bool (((decide ((12:Int) < p2))||(decide (p3=(0:Int)))))))] [17] [0,1,2,3] Q ?_ ?_
  ·refine TG (SA TK Q (SA TK Q (SB TK Q (λq1 hq1=>?_))));cases q1
   ·iterate 5 (refine SA TK Q ?_)
    refine TN (WT ?_);exact⟨[0],Q,(kB Q),bN (aP (aQ (by simp [hq1])) Q) Q⟩
   iterate 5 (refine SA TK Q ?_)
   refine TN (WT ?_);exact⟨[0],Q,(kB Q),bN (aP (aQ (by simp [hq1])) Q) Q⟩
  refine WN [0,1,2,3,17] Q Q ?_;refine TC _ Q (λh2=>?_) (λh2=>?_)
  ·replace hm:=JA h2 hm;refine RS (SA TK Q (TN (WN [8] Q Q (TR (WR ?_)))));obtain⟨rfl,rfl⟩:=Prod.mk.inj (Option.some.inj hm);exact⟨_,[0],res Q,by decide,(kB Q),Q,Q⟩
  replace hm:=JB h2 hm;refine TS (WT (WN [0,1,2,3] Q Q (RS (SA TK Q (SA TK Q (SA TK Q (GE hm λg3 hm=>SX Q Q (bH Q Q Q Q g3) (SA TK Q (SA TK Q (TN ?_))))))))));refine WN [0,1,2,3] Q Q ?_;refine bY hm (λ_=>([]:Fr)) (λ_=>([]:List (Nat×Blk))) [] [0,1,2,3] Q (λz4 hm hz4=>?_) (λj hm=>?_)
  ·refine RS ?_;iterate 4 (refine SA TK Q ?_)
   refine TN (WN [0,1,2,3,26] Q Q (TB ?_));refine aM hm (λx5=>([(27,.d (.bool (x5)))]:Fr)) (λx5=>([]:List (Nat×Blk))) [27] [0,1,2,3,26] Q (λz6 hm=>?_) (λx5 hm=>?_)
   ·refine RS (SA TK Q (SA TK Q (TN (WN [0,1,2,3,26,27] Q Q ?_))));refine TC _ Q (λh7=>?_) (λh7=>?_)
    ·replace hm:=JT h7 hm;refine TS (WT ?_);exact⟨_,[0],(SJ hm),Q,(kB Q),Q⟩
    replace hm:=JF h7 hm;refine TG (SA TK Q (SA TK Q (TN (WT ?_))));exact⟨_,[0],(SJ hm),Q,(kB Q),Q⟩
   refine WN [0,1,2,3,26,27] Q Q ?_;refine TC _ Q (λh8=>?_) (λh8=>?_)
   ·replace hm:=JA h8 hm;refine eX [(8,.d (.bool (((decide (p0.var=(0:Int)))&&(decide ((p0.args.length:Int)=(0:Int)))))))] [8] [] Q ?_ ?_
    ·refine TG ?_;iterate 5 (refine SA TK Q ?_)
     refine SB TK Q (λq9 hq9=>?_);cases q9
     ·iterate 8 (refine SA TK Q ?_)
      refine TN (WT ?_);exact⟨[0],Q,(kB Q),bN (aP (aQ (by simp [hq9])) Q) Q⟩
     iterate 4 (refine SA TK Q ?_)
     refine SX Q Q (bM TK Q Q Q) (SA TK Q (SA TK Q (SA TK Q (TN (WT ?_)))));exact⟨[0],Q,(kB Q),bN (aP (aQ (by simp [hq9])) Q) Q⟩
    refine WN [8] Q Q (TR (WB (IE hm λv10 hm hz=>?_)));rw [hz4 _ hz] at hm;refine WR ?_;obtain⟨rfl,rfl⟩:=Prod.mk.inj (Option.some.inj hm);exact⟨_,[0],res Q,by decide,(kB Q),Q,Q⟩
   replace hm:=JB h8 hm;refine RS (SA TK Q (SA TK Q (TN (WN [0,1,2,3,26,43] Q Q ?_))));refine TC _ Q (λh11=>?_) (λh11=>?_)
   ·replace hm:=JT h11 hm;refine eX [(8,.d (.bool (((decide ((0:Int)≤p0.var))&&((decide (p0.var < p1))&&(decide ((p0.args.length:Int)=(0:Int))))))))] [8] [] Q ?_ ?_
    ·refine TG ?_;iterate 5 (refine SA TK Q ?_)
     refine SB TK Q (λq12 hq12=>?_);cases q12
     ·iterate 16 (refine SA TK Q ?_)
      refine TN (WT ?_);exact⟨[0],Q,(kB Q),bN (aP (aQ (by simp [hq12])) Q) Q⟩
     iterate 7 (refine SA TK Q ?_)
     refine SB TK Q (λq13 hq13=>?_);cases q13
     ·iterate 8 (refine SA TK Q ?_)
      refine TN (WT ?_);exact⟨[0],Q,(kB Q),bN (aP (aQ (by simp [hq12,hq13])) Q) Q⟩
     iterate 4 (refine SA TK Q ?_)
     refine SX Q Q (bM TK Q Q Q) (SA TK Q (SA TK Q (SA TK Q (TN (WT ?_)))));exact⟨[0],Q,(kB Q),bN (aP (aQ (by simp [hq12,hq13])) Q) Q⟩
    refine WN [8] Q Q (TR (WB (IE hm λv14 hm hz=>?_)));rw [hz4 _ hz] at hm;refine WR ?_;obtain⟨rfl,rfl⟩:=Prod.mk.inj (Option.some.inj hm);exact⟨_,[0],res Q,by decide,(kB Q),Q,Q⟩
   replace hm:=JF h11 hm;refine RS (SA TK Q (SA TK Q (TN (WN [0,1,2,3,26,66] Q Q ?_))));refine TC _ Q (λh15=>?_) (λh15=>?_)
   ·replace hm:=JT h15 hm;refine RS ?_;iterate 4 (refine SA TK Q ?_)
    refine SX Q Q (bM TK Q Q Q) (SA TK Q (TN (WN [0,1,2,3,73] Q Q ?_)));refine TC _ Q (λh16=>?_) (λh16=>?_)
    ·replace hm:=fR h16 hm;refine RS (SA TK Q (TN (WN [8] Q Q (TR (WB (IE hm λv17 hm hz=>?_))))));rw [hz4 _ hz] at hm;refine WR ?_;obtain⟨rfl,rfl⟩:=Prod.mk.inj (Option.some.inj hm);exact⟨_,[0],res Q,by decide,(kB Q),Q,Q⟩
    replace hm:=fS h16 hm;refine TS (WK (WT ?_));exact⟨_,[0],(SJ hm),Q,(kB Q),Q⟩
   replace hm:=JF h15 hm;refine TQ (RS (SA TK Q (SA TK Q (TN (WN [0,1,2,3,26,74] Q Q ?_)))));refine TC _ Q (λh18=>?_) (λh18=>?_)
   ·replace hm:=JT h18 hm;refine TS (WT (WN [0,1,2,3,74] Q Q (uQ Q true h18 (TS (WK (WT ?_))))));exact⟨_,[0],(SJ hm),Q,(kB Q),Q⟩
   replace hm:=JF h18 hm;refine TG (SA TK Q (SA TK Q (TN (WT (WN [0,1,2,3,74] Q Q ?_)))));refine TC _ Q (λh19=>?_) (λh19=>?_)
   ·replace hm:=JT h19 hm;refine TS (WK (WT ?_));exact⟨_,[0],(SJ hm),Q,(kB Q),Q⟩
   replace hm:=JF h19 hm;refine RS (SA TK Q (TN (WN [8] Q Q (TR (WB (IE hm λv20 hm hz=>?_))))));rw [hz4 _ hz] at hm;refine WR ?_;obtain⟨rfl,rfl⟩:=Prod.mk.inj (Option.some.inj hm);exact⟨_,[0],res Q,by decide,(kB Q),Q,Q⟩
  refine WN [0,1,2,3] Q Q (TQ (RS ?_));iterate 5 (refine SA TK Q ?_)
  refine TN (WN [0,1,2,3,81] Q Q ?_);refine TC _ Q (λh21=>?_) (λh21=>?_)
  ·replace hm:=fR h21 hm;refine RS (SA TK Q (TN (WN [8] Q Q (TR (WR ?_)))));obtain⟨rfl,rfl⟩:=Prod.mk.inj (Option.some.inj hm);exact⟨_,[0],res Q,by decide,(kB Q),Q,Q⟩
  replace hm:=fS h21 hm;refine TS (WT (WN [0,1,2,3] Q Q ?_));refine bY hm (λc22=>([]:Fr)) (λc22=>([(0,.box 3 [.d (.int .i64 c22)])]:List (Nat×Blk))) [] [] Q (λz23 hm hz23=>?_) (λc22 hm=>?_)
  ·refine RS ?_;iterate 4 (refine SA TK Q ?_)
   refine SX Q Q (bM TK Q Q Q) (SA TK Q (TN (WN [0,1,2,3,86,87] Q Q (TB (cB hm (λ(x27,c28)=>([(87,.d (.int .i64 x27))]:Fr)) (λ(x27,c28)=>([(0,.box 3 [.d (.int .i64 c28)])]:List (Nat×Blk))) [87] [0,1,2,3,86] [0] Q (kB Q) Q Q Q Q Q (λs z29 hm hz29=>?_))))));obtain⟨x27,c28⟩:=s;refine WN [0,1,2,3,86,87] Q Q (RS (SA TK Q (TN (WN [0,1,2,3,86,87,88] Q Q (TQ ?_)))));refine TC _ Q (λh30=>?_) (λh30=>?_)
   ·replace hm:=JT h30 hm;refine TS (WT (WN [0,1,2,3,86,87] Q Q (TQ (TB (RS (SA TK Q (SA TK Q (TN (WN [0,1,2,3,9,86,87] Q Q ?_)))))))));refine RS ?_;iterate 5 (refine SA TK Q ?_)
    refine VE hm λe31 he31 hm=>SX Q Q (sJ TK Q Q Q Q he31 (Expr.encR_eq _)) (SA TK Q (SA TK Q (GE hm λg32 hm=>SX Q Q (bH Q Q Q Q g32) (SA TK Q (BE hm λr33 hr33 hm=>?_)))));obtain⟨r34,r35⟩:=r33;refine bV [0] (λ_=>false) Q Q Q (by decide) Q Q Q Q (ih hr33) Q Q Q ?_;refine SA TK Q (TN (WN [0,1,2,3,86,87,101] Q Q ?_));refine TC _ Q (λh36=>?_) (λh36=>?_)
    ·replace hm:=JA h36 hm;refine RS (SA TK Q (TN (WN [8] Q Q (TR (WB (WR (IE hm λv37 hm hz=>?_)))))));rw [hz29 _ hz] at hm;refine WR (WB (IE hm λv38 hm hz=>?_));rw [hz23 _ hz] at hm;refine WR ?_;obtain⟨rfl,rfl⟩:=Prod.mk.inj (Option.some.inj hm);exact⟨_,[0],res Q,by decide,(kB Q),Q,Q⟩
    replace hm:=JB h36 hm;refine TS (WK (WT (WN [0,1,2,3,86,87] Q Q (TG (GE hm λg39 hm=>SX Q Q (bH Q Q Q Q g39) (SA TK Q (TN ?_)))))));refine WT ?_;exact⟨_,[0],(SJ hm),Q,(kB Q),Q⟩
   replace hm:=JF h30 hm;refine bI (WX (IE hm λv40 hm hz=>?_));rw [hz29 _ hz] at hm;refine WX (WH (WT ?_));exact⟨_,[0],(SJ hm),Q,(kB Q),Q⟩
  refine WN [] Q Q (RS (SA TK Q (TN (WN [8] Q Q (TR ?_)))));obtain⟨rfl,rfl⟩:=Prod.mk.inj (Option.some.inj hm);exact⟨_,[0],res Q,by decide,(kB Q),Q,Q⟩
theorem nJ {p0:Expr} {p1:Int} {p2:Int} {p3:Int} {r0:Bool} {r1:Int} (hm:lF p0 p1 p2 p3=some (r0,r1)):Ret Try.prog 50 [.box 3 [.d (.int .i64 p3)]] (λ_=>false) [.d (.ptr (p0.enc) 0),.d (.int .i64 p1),.d (.int .i64 p2),.mptr 0 0 0 0] (.d (.bool (r0))) [.box 3 [.d (.int .i64 r1)]]:=lV aN hm
theorem nK {p0:Expr} {p1:Int} {r:Bool} (hm:iG p0 p1=some r):RetN Try.prog 33 [p0.enc,.int .i64 p1] (.bool (r)):=by
 refine .unit (aR wD Try.func33 Q Try.ntmps33 Q Q (λwX gX=>?_)) Q;unfold iG at hm;refine WN [0,1] Q Q (RS (cS 0 Q Q Q (SA TK Q (TN (WN [1,2] Q Q (RS (cI 1 Q Q gS Q (SA TK Q ?_))))))));refine TN (WN [1,2,5] Q Q (rI 0 Q Q Q Q Q (RS (SA TK Q (BE hm λr1 hr1 hm=>?_)))));obtain⟨r2,r3⟩:=r1;refine bV [1] (λ_=>false) Q Q Q (by decide) Q Q Q Q (nJ hr1) Q Q Q ?_;refine SA TK Q (TN (WN [4] Q Q (TR ?_)));obtain rfl:=OJ hm;exact EndsS.one _ Q (.d _) (.refl _)
theorem iI {p0:Int} {r:Int} (hm:fV p0=some r):RetN Try.prog 55 [.int .i64 p0] (.int .i64 r):=by
 refine .unit (aR vQ Try.func55 Q Try.ntmps55 Q Q (λwX gX=>?_)) Q;unfold fV at hm;refine WN [0] Q Q (RS (SA TK Q (TN (WN [0] Q Q (TQ (RS (SA TK Q (SA TK Q (TN ?_)))))))));refine WN [0,4] Q Q ?_;refine TC _ Q (λh1=>?_) (λh1=>?_)
 ·replace hm:=JT h1 hm;refine RS (SA TK Q (GE hm λg2 hm=>SX Q Q (bH Q Q Q Q g2) (SA TK Q (TN (WN [2] Q Q (TR (WR ?_)))))));obtain rfl:=OJ hm;exact EndsS.one _ Q (.d _) (.refl _)
 replace hm:=JF h1 hm;refine TS (WT (WN [0] Q Q (RS (SA TK Q (SA TK Q (TN (WN [2] Q Q (TR ?_))))))));obtain rfl:=OJ hm;exact EndsS.one _ Q (.d _) (.refl _)
theorem lK {p0:Diagram} {r:Diagram} (hm:eW p0=some r):RetD Try.prog 49 [p0.enc] (r.enc):=by
 refine .of (mv:=λ_=>false) (aR vV Try.func49 Q Try.ntmps49 Q Q (λwX gX=>?_));unfold eW at hm;refine WN [0] Q Q (RS (cS 0 Q Q Q (cI 1 Q Q bE Q (kO (f:=Node.enc) 1 0 2 51 3 Q Q Q (TN (WN [1,2] Q Q (RS (SA TK Q (SA TK Q ?_)))))))));refine BE hm λr1 hr1 hm=>SX Q Q (RN Q Q (SC (.d _) SN) (iI hr1)) (SX Q Q (iK Q eH bE Q Q Q Q) (cI 3 Q Q bE Q (kO (f:=Node.enc) 3 0 4 51 3 Q Q Q (SA TK Q (kO (f:=Node.enc) 3 0 5 51 3 Q Q Q (TN (WN [1,2,3] Q Q ?_)))))));refine aM hm (λb2=>([]:Fr)) (λb2=>([(3,.box 29 [.msl 5 3 0 b2.length,.d (.int .i64 r1)]),(5,.flat 51 3 (b2.map Node.enc))]:List (Nat×Blk))) [] [2,3] Q (λz3 hm=>?_) (λb2 hm=>?_)
 ·refine RS (SA TK Q (SA TK Q (SX Q Q (bM TK Q Q Q) (SA TK Q (TN (WN [2,3,11,12,13] Q Q (TB (cB hm (λ(x7,b8)=>([(13,.d (.int .i64 x7))]:Fr)) (λ(x7,b8)=>([(3,.box 29 [.msl 5 3 0 b8.length,.d (.int .i64 r1)]),(5,.flat 51 3 (b8.map Node.enc))]:List (Nat×Blk))) [13] [2,3,11,12] [0,1,2,3,4,5] Q k0 Q Q Q Q Q (λs z9 hm hz9=>?_)))))))));obtain⟨x7,b8⟩:=s;refine WN [2,3,11,12,13] Q Q (RS (SA TK Q (TN (WN [2,3,11,12,13,14] Q Q (TQ ?_)))));refine TC _ Q (λh10=>?_) (λh10=>?_)
  ·replace hm:=JT h10 hm;refine TS (WT (WN [2,3,11,12,13] Q Q (TQ (TB (RS (VE hm λe11 he11 hm=>SX Q Q (cX TK Q Q Q Q he11) (SA TK Q ?_)))))));refine cI 6 Q Q aT Q (SA TK Q (TN (WN [2,3,5,11,12,13] Q Q (sS (fG follows  (DA [] TK Q (DA [3] TK Q (DA [] TK Q ?_))))))));refine DA [6] TK Q (DA [] TK Q (DA [6] TK Q (BE hm λr12 hr12 hm=>DX [] Q Q (RN Q Q (SC (.d _) SN) (iI hr12)) (DA [] TK Q (DA [6] TK Q (BE hm λr13 hr13 hm=>DX [] Q Q (RN Q Q (SC (.d _) SN) (iI hr13)) ?_))))));refine DX [] Q Q (aZ Q oE aT Q Q Q Q) (DX [] Q Q (fF [.tmp 27] TK Q Q aT Q Q Q Q Q) (GE hm λg14 hm=>d_wr [5,7] _ (.msl 7 3 0 (b8++([(⟨e11.var,r12,r13⟩:Node)]:List Node)).length) Q (qY Q) Q (w_appD (f:=Node.enc) (xs:=b8) ([(⟨e11.var,r12,r13⟩:Node)]:List Node) Q Q Q TK Q aT Q Q Q Q Q Q fK g14) (DA [] TK Q ?_)));refine DT ?_ (by kernel_rfl);refine SA TK Q (TN (WK (WT (WN [2,3,11,12,13] Q Q (TG (GE hm λg15 hm=>SX Q Q (bH Q Q Q Q g15) (SA TK Q ?_)))))));refine TN (WT ?_);exact⟨_,[0,1,2,3,4,7],(SJ hm),Q,k0,Q⟩
  replace hm:=JF h10 hm;refine bI (WX (IE hm λv16 hm hz=>?_));rw [hz9 _ hz] at hm;refine WX (WH (WT ?_));exact⟨_,[0,1,2,3,4,5],(SJ hm),Q,k0,Q⟩
 refine WN [2,3] Q Q (RS (SA TK Q (SA TK Q (TN (WN [2] Q Q (TR ?_))))));obtain rfl:=OJ hm;exact EndsS.cellR _ TK Q Q Q Q Q (nR (.cons (kN Q) Q (.cons (.d _) Q .nil)))
theorem fW {p0:Bool} {r:Diagram} (hm:dH p0=some r):RetD Try.prog 51 [.bool (p0)] (r.enc):=by
 refine .of (mv:=λ_=>false) (aR vT Try.func51 Q Try.ntmps51 Q Q (λwX gX=>?_));unfold dH at hm;refine WN [0] Q Q (RS (cI 0 Q Q bE Q (eY 0 [some 3,none] Q Q (TN (WN [0,2] Q Q (TQ (RS (SA TK Q ?_))))))));refine TN (WN [2,3] Q Q ?_);refine TC _ Q (λh1=>?_) (λh1=>?_)
 ·replace hm:=JA h1 hm;refine RS (SX Q Q (aZ Q eH bE Q Q Q Q) (lP 4 [some 3,none] Q (SA TK Q (TN (WN [2] Q Q (TR (WR ?_)))))));obtain rfl:=OJ hm;exact EndsS.cellR _ TK Q Q Q Q Q (.d _)
 replace hm:=JB h1 hm;refine TS (WT (WN [2] Q Q (RS (SX Q Q (aZ Q eH bE Q Q Q Q) (lP 5 [some 3,none] Q (SA TK Q (TN (WN [2] Q Q ?_))))))));refine TR ?_;obtain rfl:=OJ hm;exact EndsS.cellR _ TK Q Q Q Q Q (.d _)
theorem dU {p0:Diagram} {p1:Int} {r:Int} (hm:cQ p0 p1=some r):RetN Try.prog 58 [p0.enc,.int .i64 p1] (.int .i64 r):=by
 refine .unit (aR vO Try.func58 Q Try.ntmps58 Q Q (λwX gX=>?_)) Q;unfold cQ at hm;refine WN [0,1] Q Q (RS (cS 0 Q Q Q (SA TK Q (TN (WN [1,2] Q Q (TQ (RS (SA TK Q (SA TK Q ?_)))))))));refine TN (WN [1,2,6] Q Q ?_);refine TC _ Q (λh1=>?_) (λh1=>?_)
 ·replace hm:=JT h1 hm;refine RS (SA TK Q (TN (WN [4] Q Q (TR (WR ?_)))));obtain rfl:=OJ hm;exact EndsS.one _ Q (.d _) (.refl _)
 replace hm:=JF h1 hm;refine TS (WT (WN [1,2] Q Q (RS (SA TK Q (SA TK Q (SA TK Q (GE hm λg2 hm=>SX Q Q (bH Q Q Q Q g2) (VE hm λe3 he3 hm=>SX Q Q (cX TK Q Q Q Q he3) ?_))))))));refine SA TK Q (SA TK Q (SA TK Q (TN (WN [4] Q Q (TR ?_)))));obtain rfl:=OJ hm;exact EndsS.one _ Q (.d _) (.refl _)
theorem fY {p0:Diagram} {p1:Int} {p2:Int} {r0:Int} {r1:Int} (hm:dI p0 p1 p2=some (r0,r1)):RetT Try.prog 59 [p0.enc,.int .i64 p1,.int .i64 p2] [.int .i64 r0,.int .i64 r1]:=by
 refine .of (mv:=λ_=>false) (dJ vN Try.func59 Q Try.ntmps59 Q Q (λwX gX=>?_));unfold dI at hm;refine WN [0,1,2] Q Q (RS (cS 0 Q Q Q (SA TK Q (SA TK Q (TN (WN [1,2,3] Q Q (TQ (RS (SA TK Q (SA TK Q ?_))))))))));refine BE hm λr1 hr1 hm=>SX Q Q (RN Q Q (SC (.d _) (SC (.d _) SN)) (dU hr1)) (SA TK Q (SA TK Q (TN (WN [1,3,13] Q Q ?_))));refine TC _ Q (λh2=>?_) (λh2=>?_)
 ·replace hm:=fR h2 hm;refine RS ?_;iterate 4 (refine SA TK Q ?_)
  refine TN (WN [6,7] Q Q (TR (WR ?_)));obtain⟨rfl,rfl⟩:=Prod.mk.inj (Option.some.inj hm);exact EndsT.two Q (.d _) (.refl _) (.d _) (.refl _)
 replace hm:=fS h2 hm;refine TS (WT (WN [1,3] Q Q (RS (SA TK Q (SA TK Q (SA TK Q (GE hm λg3 hm=>SX Q Q (bH Q Q Q Q g3) (VE hm λe4 he4 hm=>SX Q Q (cX TK Q Q Q Q he4) ?_))))))));refine SA TK Q (cI 1 Q Q aT Q (SA TK Q (TN (WN [8] Q Q (aK follows  ?_)))));iterate 5 (refine DA [0,1] TK Q ?_)
 refine DT ?_ (by kernel_rfl);refine SA TK Q (TN (WN [6,7] Q Q (TR ?_)));obtain⟨rfl,rfl⟩:=Prod.mk.inj (Option.some.inj hm);exact EndsT.two Q (.d _) (.refl _) (.d _) (.refl _)
theorem cV {p0:Merger} {p1:Node} {r0:Int} {r1:Merger} (hm:bD p0 p1=some (r0,r1)):Ret Try.prog 42 [.box 81 [.d (.sl 3 (p0.a.nodes.map Node.enc)),.d (.int .i64 p0.a.root),.d (.sl 3 (p0.b.nodes.map Node.enc)),.d (.int .i64 p0.b.root),.d (.bool (p0.all)),.mmapN 1 p0.nodes.index.length,.msl 2 3 0 p0.nodes.list.length,.mmap 3,.d (.bool (p0.full))],.map 51 3 (aF Node.enc (D.int .i64) p0.nodes.index),.flat 51 3 (p0.nodes.list.map Node.enc),.map 84 3 (aF Pair.enc (D.int .i64) p0.done)] (λj=>Nat.beq j 1||Nat.beq j 2) [.mptr 0 0 0 5,.d (p1.enc)] (.d (.int .i64 r0)) [.box 81 [.d (.sl 3 (p0.a.nodes.map Node.enc)),.d (.int .i64 p0.a.root),.d (.sl 3 (p0.b.nodes.map Node.enc)),.d (.int .i64 p0.b.root),.d (.bool (p0.all)),.mmapN 1 r1.nodes.index.length,.msl 2 3 0 r1.nodes.list.length,.mmap 3,.d (.bool (p0.full))],.map 51 3 (aF Node.enc (D.int .i64) r1.nodes.index),.flat 51 3 (r1.nodes.list.map Node.enc),.map 84 3 (aF Pair.enc (D.int .i64) p0.done)]:=by
 refine eG rH Try.func42 Q Try.ntmps42 Q Q (λwX gX=>?_);unfold bD at hm;refine pG 0 5 1 Q Q Q (λhn=>?_) ?_
 ·replace hm:=tM hn hm;refine WN [0,1] Q Q (RS (cS 4 Q Q Q (SA TK Q (TN (WN [0,3] Q Q (TQ (aK follows  ?_)))))));iterate 5 (refine DA [0,1,2,3,4] TK Q ?_)
  refine GE hm λg1 hm=>DX [0,1,2,3,4] Q Q (nQ fL fQ (D.int .i64) p1 (0:Int) Q jR gS Q Q Q g1) ?_;iterate 4 (refine DA [0,1,2,3,4] TK Q ?_)
  refine DT ?_ (by kernel_rfl);refine SA TK Q (TN (WN [0,3,5,6] Q Q (RS (SA TK Q (TN (WN [0,3,5,16] Q Q (TC false Q (λh=>by cases h) (λ_=>TS ?_))))))));refine WT (WN [0,3] Q Q ?_);refine aM hm (λ_=>([]:Fr)) (λ_=>([(0,.box 81 [.d (.sl 3 (p0.a.nodes.map Node.enc)),.d (.int .i64 p0.a.root),.d (.sl 3 (p0.b.nodes.map Node.enc)),.d (.int .i64 p0.b.root),.d (.bool (p0.all)),.mmap 1,.msl 2 3 0 p0.nodes.list.length,.mmap 3,.d (.bool (p0.full))])]:List (Nat×Blk))) [] [0,3] Q (λz2 hm=>?_) (λj hm=>?_)
  ·refine RS ?_;iterate 4 (refine SA TK Q ?_)
   refine SX Q Q (kT Q Try.underlying61 Q Q) (TN (WN [0,3,22] Q Q ?_));refine TC true Q (λ_=>?_) (λh=>by cases h);refine TG (SA TK Q (jN (kf:=Node.enc) (f:=(D.int .i64)) 1 51 3 Q Q (λ_=>Q) Q Q (SA TK Q (SA TK Q (SA TK Q (TN (WT ?_)))))));exact⟨_,[0,1,2,3,4],(SJ hm),Q,(kB Q),Q⟩
  refine WN [0,3] Q Q (aK follows  ?_);iterate 10 (refine DA [0,1,2,3,4] TK Q ?_)
  refine DT ?_ (by kernel_rfl);refine GE hm λg3 hm=>iX fL fQ (D.int .i64) jR Q Q Q Q g3 (TN (WN [0,3] Q Q (aK follows  ?_)));iterate 6 (refine DA [0,1,2,3,4] TK Q ?_)
  refine DX [0,1,2,3,4] Q Q (fF [.tmp 42] TK Q Q aT Q Q Q Q Q) ?_;refine kI 0 37 ?_ ?_ Q (by kernel_rfl) (by kernel_rfl) (by kernel_rfl)
  ·refine GE hm λg4 hm=>gV (f:=Node.enc) ([p1]:List Node) TK Q Q aT Q Q Q Q Q (λ_=>Q) Q fK g4 Q Q (SA TK Q (SA TK Q (SA TK Q (TN (WN [0] Q Q (RS ?_))))));iterate 5 (refine SA TK Q ?_)
   refine GE hm λg5 hm=>SX Q Q (bH Q Q Q Q g5) (SA TK Q (TN (WN [4] Q Q (hU 0 5 1 (eO ([]:List (Node×Int)) p1 (p0.nodes.list.length:Int)).length Q Q (TR ?_)))));obtain⟨rfl,rfl⟩:=Prod.mk.inj (Option.some.inj hm);exact⟨_,[0,1,2,3],res Q,by decide,(kB Q),Q,Q⟩
  refine GE hm λg6 hm=>gV (f:=Node.enc) ([p1]:List Node) TK Q Q aT Q Q Q Q Q (λ_=>Q) Q fK g6 Q Q ?_;iterate 4 (refine SA TK Q ?_)
  refine TN (WN [0] Q Q (RS ?_));iterate 5 (refine SA TK Q ?_)
  refine GE hm λg7 hm=>SX Q Q (bH Q Q Q Q g7) (SA TK Q (TN (WN [4] Q Q (hU 0 5 1 (eO ([]:List (Node×Int)) p1 (p0.nodes.list.length:Int)).length Q Q (TR ?_)))));obtain⟨rfl,rfl⟩:=Prod.mk.inj (Option.some.inj hm);exact⟨_,[0,1,2,3],res Q,by decide,(kB Q),Q,Q⟩
 replace hm:=xA hm;refine WN [0,1] Q Q (RS (cS 4 Q Q Q (SA TK Q (TN (WN [0,3] Q Q (TQ (aK follows  ?_)))))));iterate 5 (refine DA [0,1,2,3,4] TK Q ?_)
 refine GE hm λg8 hm=>DX [0,1,2,3,4] Q Q (mN fL fQ (D.int .i64) _ _ (0:Int) Q jR gS Q Q Q Q g8) ?_;iterate 4 (refine DA [0,1,2,3,4] TK Q ?_)
 refine DT ?_ (by kernel_rfl);refine SA TK Q (TN (WN [0,3,5,6] Q Q (RS (SA TK Q (TN (WN [0,3,5,16] Q Q ?_))))));refine TC _ Q (λh9=>?_) (λh9=>?_)
 ·replace hm:=JA h9 hm;refine RS (SA TK Q (SA TK Q (TN (WN [4] Q Q (hU 0 5 1 p0.nodes.index.length Q Q (TR (WR ?_)))))));obtain⟨rfl,rfl⟩:=Prod.mk.inj (Option.some.inj hm);exact⟨_,[0,1,2,3],res Q,by decide,(kB Q),Q,Q⟩
 replace hm:=JB h9 hm;refine TS (WT (WN [0,3] Q Q ?_));refine aM hm (λ_=>([]:Fr)) (λ_=>([]:List (Nat×Blk))) [] [0,3] Q (λz10 hm=>?_) (λj hm=>?_)
 ·refine RS ?_;iterate 4 (refine SA TK Q ?_)
  refine SX Q Q (kU Q Try.underlying61 Q Q) (TN (WN [0,3,22] Q Q (TC false Q (λh=>by cases h) (λ_=>TS (WT ?_)))));exact⟨_,[0,1,2,3,4],(SJ hm),Q,(kB Q),Q⟩
 refine WN [0,3] Q Q (aK follows  ?_);iterate 10 (refine DA [0,1,2,3,4] TK Q ?_)
 refine DT ?_ (by kernel_rfl);refine GE hm λg11 hm=>iX fL fQ (D.int .i64) jR Q Q Q Q g11 (TN (WN [0,3] Q Q (aK follows  ?_)));iterate 6 (refine DA [0,1,2,3,4] TK Q ?_)
 refine DX [0,1,2,3,4] Q Q (fF [.tmp 42] TK Q Q aT Q Q Q Q Q) ?_;refine kI 0 37 ?_ ?_ Q (by kernel_rfl) (by kernel_rfl) (by kernel_rfl)
 ·refine GE hm λg12 hm=>gV (f:=Node.enc) ([p1]:List Node) TK Q Q aT Q Q Q Q Q (λ_=>Q) Q fK g12 Q Q (SA TK Q (SA TK Q (SA TK Q (TN (WN [0] Q Q (RS ?_))))));iterate 5 (refine SA TK Q ?_)
  refine GE hm λg13 hm=>SX Q Q (bH Q Q Q Q g13) (SA TK Q (TN (WN [4] Q Q (hU 0 5 1 (eO p0.nodes.index p1 (p0.nodes.list.length:Int)).length Q Q (TR ?_)))));obtain⟨rfl,rfl⟩:=Prod.mk.inj (Option.some.inj hm);exact⟨_,[0,1,2,3],res Q,by decide,(kB Q),Q,Q⟩
 refine GE hm λg14 hm=>gV (f:=Node.enc) ([p1]:List Node) TK Q Q aT Q Q Q Q Q (λ_=>Q) Q fK g14 Q Q ?_;iterate 4 (refine SA TK Q ?_)
 refine TN (WN [0] Q Q (RS ?_));iterate 5 (refine SA TK Q ?_)
 refine GE hm λg15 hm=>SX Q Q (bH Q Q Q Q g15) (SA TK Q (TN (WN [4] Q Q (hU 0 5 1 (eO p0.nodes.index p1 (p0.nodes.list.length:Int)).length Q Q (TR ?_)))));obtain⟨rfl,rfl⟩:=Prod.mk.inj (Option.some.inj hm);exact⟨_,[0,1,2,3],res Q,by decide,(kB Q),Q,Q⟩
theorem gR:∀ (fu:Nat) {p0:Merger} {p1:Pair} {r0:Int} {r1:Merger} (hm:aX fu p0 p1=some (r0,r1)),Ret Try.prog 56 [.box 81 [.d (.sl 3 (p0.a.nodes.map Node.enc)),.d (.int .i64 p0.a.root),.d (.sl 3 (p0.b.nodes.map Node.enc)),.d (.int .i64 p0.b.root),.d (.bool (p0.all)),.mmapN 1 p0.nodes.index.length,.msl 2 3 0 p0.nodes.list.length,.mmap 3,.d (.bool (p0.full))],.map 51 3 (aF Node.enc (D.int .i64) p0.nodes.index),.flat 51 3 (p0.nodes.list.map Node.enc),.map 84 3 (aF Pair.enc (D.int .i64) p0.done)] (λj=>Nat.beq j 1||Nat.beq j 2) [.mptr 0 0 0 0,.d (p1.enc)] (.d (.int .i64 r0)) [.box 81 [.d (.sl 3 (p0.a.nodes.map Node.enc)),.d (.int .i64 p0.a.root),.d (.sl 3 (p0.b.nodes.map Node.enc)),.d (.int .i64 p0.b.root),.d (.bool (p0.all)),.mmapN 1 r1.nodes.index.length,.msl 2 3 0 r1.nodes.list.length,.mmap 3,.d (.bool (r1.full))],.map 51 3 (aF Node.enc (D.int .i64) r1.nodes.index),.flat 51 3 (r1.nodes.list.map Node.enc),.map 84 3 (aF Pair.enc (D.int .i64) r1.done)]:=by
 intro fu
 induction fu with
 | zero=>
  intro p0 p1 r0 r1 hm;unfold aX at hm;cases hm
 | succ fu ih=>
  intro p0 p1 r0 r1 hm;refine eG vP Try.func56 Q Try.ntmps56 Q Q (λwX gX=>?_);unfold aX at hm;refine WN [0,1] Q Q (RS (cS 4 Q Q Q (SA TK Q (TN (WN [0,3] Q Q (TQ (RS ?_)))))));iterate 4 (refine SA TK Q ?_)
  refine TN (WN [0,3,19] Q Q ?_);refine TC _ Q (λh1=>?_) (λh1=>?_)
  ·replace hm:=JA h1 hm;refine RS (SA TK Q (TN (WN [4] Q Q (TR (WR ?_)))));obtain⟨rfl,rfl⟩:=Prod.mk.inj (Option.some.inj hm);exact⟨_,[0,1,2,3],res Q,by decide,(kB Q),Q,Q⟩
  replace hm:=JB h1 hm;refine TS (WT (WN [0,3] Q Q (RS (SA TK Q (SA TK Q (TN (WN [0,3,5,6] Q Q ?_)))))));refine aM hm (λ(decides2,other3)=>([(5,.d (.int .i64 decides2)),(6,.d (.int .i64 other3))]:Fr)) (λ(decides2,other3)=>([]:List (Nat×Blk))) [5,6] [0,3] Q (λz4 hm=>?_) (λj hm=>?_)
  ·refine RS ?_;iterate 5 (refine SA TK Q ?_)
   refine TN (WN [0,3,5,6,24] Q Q ?_);refine TC _ Q (λh5=>?_) (λh5=>?_)
   ·replace hm:=JA h5 hm;refine TG (SA TK Q (SA TK Q (TN (WT ?_))));exact⟨_,[0,1,2,3,4],(SJ hm),Q,(kB Q),Q⟩
   replace hm:=JB h5 hm;refine TS (WT ?_);exact⟨_,[0,1,2,3,4],(SJ hm),Q,(kB Q),Q⟩
  obtain⟨decides2,other3⟩:=j;refine WN [0,3,5,6] Q Q (TQ ?_);refine eX [(34,.d (.bool (((decide (p1.a=decides2))||(decide (p1.b=decides2))))))] [34] [0,3,5,6] Q ?_ ?_
  ·refine TG ?_;iterate 4 (refine SA TK Q ?_)
   refine SB TK Q (λq6 hq6=>?_);cases q6
   ·iterate 5 (refine SA TK Q ?_)
    refine TN (WT ?_);exact⟨[0,1,2,3,4],Q,(kB Q),bN (aP (aQ (by simp [hq6])) Q) Q⟩
   iterate 5 (refine SA TK Q ?_)
   refine TN (WT ?_);exact⟨[0,1,2,3,4],Q,(kB Q),bN (aP (aQ (by simp [hq6])) Q) Q⟩
  refine WN [0,3,5,6,34] Q Q ?_;refine TC _ Q (λh7=>?_) (λh7=>?_)
  ·replace hm:=JA h7 hm;refine RS (SA TK Q (SA TK Q (TN (WN [4] Q Q (TR (WR ?_))))));obtain⟨rfl,rfl⟩:=Prod.mk.inj (Option.some.inj hm);exact⟨_,[0,1,2,3],res Q,by decide,(kB Q),Q,Q⟩
  replace hm:=JB h7 hm;refine TS (WT (WN [0,3,6] Q Q (TQ ?_)));refine eX [(45,.d (.bool (((decide (p1.a=other3))&&(decide (p1.b=other3))))))] [45] [0,3,6] Q ?_ ?_
  ·refine TG ?_;iterate 4 (refine SA TK Q ?_)
   refine SB TK Q (λq8 hq8=>?_);cases q8
   ·iterate 5 (refine SA TK Q ?_)
    refine TN (WT ?_);exact⟨[0,1,2,3,4],Q,(kB Q),bN (aP (aQ (by simp [hq8])) Q) Q⟩
   iterate 5 (refine SA TK Q ?_)
   refine TN (WT ?_);exact⟨[0,1,2,3,4],Q,(kB Q),bN (aP (aQ (by simp [hq8])) Q) Q⟩
  refine WN [0,3,6,45] Q Q ?_;refine TC _ Q (λh9=>?_) (λh9=>?_)
  ·replace hm:=JA h9 hm;refine RS (SA TK Q (SA TK Q (TN (WN [4] Q Q (TR (WR ?_))))));obtain⟨rfl,rfl⟩:=Prod.mk.inj (Option.some.inj hm);exact⟨_,[0,1,2,3],res Q,by decide,(kB Q),Q,Q⟩
  replace hm:=JB h9 hm;refine TS (WT (WN [0,3] Q Q (TQ (aK follows  ?_))));iterate 5 (refine DA [0,1,2,3,4] TK Q ?_)
  refine GE hm λg10 hm=>DX [0,1,2,3,4] Q Q (mN pR qI (D.int .i64) _ _ (0:Int) Q tO gS Q Q Q Q g10) ?_;iterate 4 (refine DA [0,1,2,3,4] TK Q ?_)
  refine DT ?_ (by kernel_rfl);refine SA TK Q (TN (WN [0,3,7,8] Q Q (RS (SA TK Q (TN (WN [0,3,7,56] Q Q ?_))))));refine TC _ Q (λh11=>?_) (λh11=>?_)
  ·replace hm:=JA h11 hm;refine RS (SA TK Q (SA TK Q (TN (WN [4] Q Q (TR (WR ?_))))));obtain⟨rfl,rfl⟩:=Prod.mk.inj (Option.some.inj hm);exact⟨_,[0,1,2,3],res Q,by decide,(kB Q),Q,Q⟩
  replace hm:=JB h11 hm;refine TS (WT (WN [0,3] Q Q (aK follows  ?_)));iterate 6 (refine DA [0,1,2,3,4] TK Q ?_)
  refine BE hm λr12 hr12 hm=>DX [0,1,2,3,4] Q Q (RN Q Q (SC (.d _) (SC (.d _) SN)) (dU hr12)) ?_;iterate 6 (refine DA [0,1,2,3,4] TK Q ?_)
  refine BE hm λr13 hr13 hm=>DX [0,1,2,3,4] Q Q (RN Q Q (SC (.d _) (SC (.d _) SN)) (dU hr13)) (DX [0,1,2,3,4] Q Q (rd_min Q Q Q Q) ?_);refine DT ?_ (by kernel_rfl);refine SA TK Q (TN (WN [0,3,9] Q Q (aK follows  ?_)));iterate 7 (refine DA [0,1,2,3,4] TK Q ?_)
  refine BE hm λr14 hr14 hm=>?_;obtain⟨r15,r16⟩:=r14;refine DX [0,1,2,3,4] Q Q (dF Q Q Q (fY hr14)) ?_;iterate 4 (refine DA [0,1,2,3,4] TK Q ?_)
  refine DT ?_ (by kernel_rfl);refine SA TK Q (TN (WN [0,3,9,10,11] Q Q (aK follows  ?_)));iterate 7 (refine DA [0,1,2,3,4] TK Q ?_)
  refine BE hm λr17 hr17 hm=>?_;obtain⟨r18,r19⟩:=r17;refine DX [0,1,2,3,4] Q Q (dF Q Q Q (fY hr17)) ?_;iterate 4 (refine DA [0,1,2,3,4] TK Q ?_)
  refine DT ?_ (by kernel_rfl);refine SA TK Q (TN (WN [0,3,9,10,11,12,13] Q Q (RS (SA TK Q (SA TK Q (SA TK Q (SX Q Q (aZ Q tG pL Q Q Q Q) (BE hm λr20 hr20 hm=>?_))))))));obtain⟨r21,r22⟩:=r20;refine bV [0,1,2,3] (λj=>Nat.beq j 1||Nat.beq j 2) Q Q Q (by decide) Q Q Q Q (ih hr20) Q Q Q ?_;refine SA TK Q (TN (WN [0,3,9,11,13,14] Q Q ?_));refine aM hm (λ(x23,c24,m25,b26,m27)=>([(14,.d (.int .i64 x23))]:Fr)) (λ(x23,c24,m25,b26,m27)=>([(0,.box 81 [.d (.sl 3 (p0.a.nodes.map Node.enc)),.d (.int .i64 p0.a.root),.d (.sl 3 (p0.b.nodes.map Node.enc)),.d (.int .i64 p0.b.root),.d (.bool (p0.all)),.mmapN 1 m25.length,.msl 2 3 0 b26.length,.mmap 3,.d (.bool (c24))]),(1,.map 51 3 (aF Node.enc (D.int .i64) m25)),(2,.flat 51 3 (b26.map Node.enc)),(3,.map 84 3 (aF Pair.enc (D.int .i64) m27))]:List (Nat×Blk))) [14] [0,3] Q (λz28 hm=>?_) (λj hm=>?_)
  ·refine RS (SA TK Q (SA TK Q (SA TK Q (SX Q Q (aZ Q tG pL Q Q Q Q) (BE hm λr29 hr29 hm=>?_)))));obtain⟨r30,r31⟩:=r29;refine bV [0,1,2,3] (λj=>Nat.beq j 1||Nat.beq j 2) Q Q Q (by decide) Q Q Q Q (ih hr29) Q Q Q ?_;refine SA TK Q (TN (WN [0,3,9,14,15] Q Q (RS (SA TK Q (SA TK Q (SA TK Q (TN (WN [0,3,9,14,15,107] Q Q ?_))))))));refine TC _ Q (λh32=>?_) (λh32=>?_)
   ·replace hm:=fR h32 hm;refine TG ?_;iterate 6 (refine SA TK Q ?_)
    refine SX Q Q (aZ Q oE aT Q Q Q Q) (BE hm λr33 hr33 hm=>?_);obtain⟨r34,r35⟩:=r33;refine bV [0,1,2,3] (λj=>Nat.beq j 1||Nat.beq j 2) Q Q Q (by decide) Q Q Q Q (cV hr33) Q Q Q ?_;refine GE hm λg36 hm=>SX Q Q (bH Q Q Q Q g36) (SA TK Q (TN (WT ?_)));exact⟨_,[0,1,2,3,4],(SJ hm),Q,(kB Q),Q⟩
   replace hm:=fS h32 hm;refine TS (WT ?_);exact⟨_,[0,1,2,3,4],(SJ hm),Q,(kB Q),Q⟩
  obtain⟨x23,c24,m25,b26,m27⟩:=j;refine WN [0,3,14] Q Q (TQ (RS ?_));iterate 7 (refine SA TK Q ?_)
  refine TN (WN [0,3,14,123] Q Q ?_);refine TC _ Q (λh37=>?_) (λh37=>?_)
  ·replace hm:=JT h37 hm;refine TG ?_;iterate 4 (refine SA TK Q ?_)
   refine TN (WT (WN [0,3,14] Q Q (aK follows  ?_)));iterate 6 (refine DA [0,1,2,3,4] TK Q ?_)
   refine DT ?_ (by kernel_rfl);refine GE hm λg38 hm=>iX pR qI (D.int .i64) tO Q Q Q Q g38 (TN (WN [14] Q Q (RS (SA TK Q (SA TK Q (TN (WN [4] Q Q (TR ?_))))))));obtain⟨rfl,rfl⟩:=Prod.mk.inj (Option.some.inj hm);exact⟨_,[0,1,2,3],res Q,by decide,(kB Q),Q,Q⟩
  replace hm:=JF h37 hm;refine TS (WT (WN [0,3,14] Q Q (aK follows  ?_)));iterate 6 (refine DA [0,1,2,3,4] TK Q ?_)
  refine DT ?_ (by kernel_rfl);refine GE hm λg39 hm=>iX pR qI (D.int .i64) tO Q Q Q Q g39 (TN (WN [14] Q Q (RS (SA TK Q (SA TK Q (TN (WN [4] Q Q (TR ?_))))))));obtain⟨rfl,rfl⟩:=Prod.mk.inj (Option.some.inj hm);exact⟨_,[0,1,2,3],res Q,by decide,(kB Q),Q,Q⟩
theorem iH {p0:Merger} {p1:Pair} {r0:Int} {r1:Merger} (hm:eL p0 p1=some (r0,r1)):Ret Try.prog 56 [.box 81 [.d (.sl 3 (p0.a.nodes.map Node.enc)),.d (.int .i64 p0.a.root),.d (.sl 3 (p0.b.nodes.map Node.enc)),.d (.int .i64 p0.b.root),.d (.bool (p0.all)),.mmapN 1 p0.nodes.index.length,.msl 2 3 0 p0.nodes.list.length,.mmap 3,.d (.bool (p0.full))],.map 51 3 (aF Node.enc (D.int .i64) p0.nodes.index),.flat 51 3 (p0.nodes.list.map Node.enc),.map 84 3 (aF Pair.enc (D.int .i64) p0.done)] (λj=>Nat.beq j 1||Nat.beq j 2) [.mptr 0 0 0 0,.d (p1.enc)] (.d (.int .i64 r0)) [.box 81 [.d (.sl 3 (p0.a.nodes.map Node.enc)),.d (.int .i64 p0.a.root),.d (.sl 3 (p0.b.nodes.map Node.enc)),.d (.int .i64 p0.b.root),.d (.bool (p0.all)),.mmapN 1 r1.nodes.index.length,.msl 2 3 0 r1.nodes.list.length,.mmap 3,.d (.bool (r1.full))],.map 51 3 (aF Node.enc (D.int .i64) r1.nodes.index),.flat 51 3 (r1.nodes.list.map Node.enc),.map 84 3 (aF Pair.enc (D.int .i64) r1.done)]:=gR aN hm
theorem lY {p0:Diagram} {p1:Diagram} {p2:Bool} {r0:Diagram} {r1:Bool} (hm:fX p0 p1 p2=some (r0,r1)):RetT Try.prog 52 [p0.enc,p1.enc,.bool (p2)] [r0.enc,.bool (r1)]:=by
 refine .of (mv:=λ_=>false) (dJ vS Try.func52 Q Try.ntmps52 Q Q (λwX gX=>?_));unfold fX at hm;refine WN [0,1,2] Q Q (RS (cS 0 Q Q Q (cS 1 Q Q Q (cI 2 Q Q bE Q (eY 2 [some 3,none] Q Q (SA TK Q (TN (WN [2,3,4,6] Q Q ?_))))))));refine RS (SA TK Q (SA TK Q (SA TK Q (rO 84 3 Q (s_eq 13 (.mmap 3) Q Q (SX Q Q (iK Q plc81 sH Q Q Q Q) (cI 4 Q Q sH Q (qV (kf:=Node.enc) (f:=(D.int .i64)) 4 5 5 51 3 Q Q Q (kO (f:=Node.enc) 4 6 6 51 3 Q Q Q (qV (kf:=Pair.enc) (f:=(D.int .i64)) 4 7 7 84 3 Q Q Q ?_))))))))));refine eY 4 [some 3,none,some 3,none,none,none,none,none,none] Q Q (SA TK Q (qV (kf:=Node.enc) (f:=(D.int .i64)) 4 5 8 51 3 Q Q Q (kO (f:=Node.enc) 4 6 9 51 3 Q Q Q (TN (WN [3,4,6,8] Q Q (RS ?_))))));iterate 4 (refine SA TK Q ?_)
 refine SX Q Q (aZ Q tG pL Q Q Q Q) (BE hm λr1 hr1 hm=>?_);obtain⟨r2,r3⟩:=r1;refine bV [4,8,9,3] (λj=>Nat.beq j 1||Nat.beq j 2) Q Q Q (by decide) Q Q Q Q (iH hr1) Q Q Q ?_;refine SA TK Q (TN (WN [6,8,9] Q Q (TQ (RS (SA TK Q (SA TK Q (TN (WN [6,8,9,22] Q Q ?_))))))));refine TC _ Q (λh4=>?_) (λh4=>?_)
 ·replace hm:=JA h4 hm;refine RS (SX Q Q (aZ Q eH bE Q Q Q Q) (lP 23 [some 3,none] Q (SA TK Q (SA TK Q (TN (WN [6,7] Q Q (TR (WR ?_))))))));obtain⟨rfl,rfl⟩:=Prod.mk.inj (Option.some.inj hm);exact⟨_,.mk _ (.cons (.agg (TK.lay Q) Q Q Q Q) (.cons (.tmp 7) .nil)) Q,(.cons (.d _) (.refl _) (.cons (.d _) (.refl _) .nil))⟩
 replace hm:=JB h4 hm;refine TS (WT (WN [6,8,9] Q Q (RS ?_)));iterate 4 (refine SA TK Q ?_)
 refine SX Q Q (iK Q eH bE Q Q Q Q) (SA TK Q (SA TK Q (TN (WN [6,7] Q Q (TR ?_)))));obtain⟨rfl,rfl⟩:=Prod.mk.inj (Option.some.inj hm);exact⟨_,.mk _ (.cons (.agg (TK.lay Q) Q Q Q Q) (.cons (.tmp 7) .nil)) Q,(.cons (nR (.cons (kN Q) Q (.cons (.d _) Q .nil))) (.refl _) (.cons (.d _) (.refl _) .nil))⟩
theorem lL:∀ (fu:Nat) {p0:Expr} {r0:Diagram} {r1:Bool} (hm:bQ fu p0=some (r0,r1)),RetT Try.prog 34 [p0.enc] [r0.enc,.bool (r1)]:=by
 intro fu
 induction fu with
 | zero=>
  intro p0 r0 r1 hm;unfold bQ at hm;cases hm
 | succ fu ih=>
  intro p0 r0 r1 hm;refine .of (mv:=λ_=>false) (dJ wC Try.func34 Q Try.ntmps34 Q Q (λwX gX=>?_));unfold bQ at hm;refine WN [0] Q Q (RS (cS 0 Q Q Q (cI 1 Q Q bE Q (eY 1 [some 3,none] Q Q (SA TK Q (TN (WN [1,2] Q Q ?_)))))));refine bY hm (λ_=>([]:Fr)) (λ_=>([]:List (Nat×Blk))) [] [2] Q (λz1 hm hz1=>?_) (λj hm=>?_)
  ·refine RS (SA TK Q (SA TK Q (TN (WN [1,2,13] Q Q (TB (RS (SA TK Q (SA TK Q (TN (WN [1,2,13,14] Q Q ?_))))))))));refine TC _ Q (λh2=>?_) (λh2=>?_)
   ·replace hm:=JT h2 hm;refine RS (SX Q Q (aZ Q eH bE Q Q Q Q) (lP 16 [some 3,none] Q (SA TK Q (SA TK Q (TN (WN [2,3] Q Q (TR (WB (IE hm λv3 hm hz=>?_)))))))));rw [hz1 _ hz] at hm;refine WR ?_;obtain⟨rfl,rfl⟩:=Prod.mk.inj (Option.some.inj hm);exact⟨_,.mk _ (.cons (.agg (TK.lay Q) Q Q Q Q) (.cons (.tmp 3) .nil)) Q,(.cons (.d _) (.refl _) (.cons (.d _) (.refl _) .nil))⟩
   replace hm:=JF h2 hm;refine RS (SA TK Q (SA TK Q (TN (WN [1,2,13,17] Q Q ?_))));refine TC _ Q (λh4=>?_) (λh4=>?_)
   ·replace hm:=JT h4 hm;refine RS (SA TK Q (SA TK Q (SX Q Q (aZ Q oE aT Q Q Q Q) (SX Q Q (fF [.tmp 21] TK Q Q aT Q Q Q Q Q) (SX Q Q (aZ Q eH bE Q Q Q Q) (SA TK Q (SA TK Q (TN (WN [2,3] Q Q (TR ?_))))))))));refine WB (IE hm λv5 hm hz=>?_);rw [hz1 _ hz] at hm;refine WR ?_;obtain⟨rfl,rfl⟩:=Prod.mk.inj (Option.some.inj hm);exact⟨_,.mk _ (.cons (.agg (TK.lay Q) Q Q Q Q) (.cons (.tmp 3) .nil)) Q,(.cons (.d _) (.refl _) (.cons (.d _) (.refl _) .nil))⟩
   replace hm:=JF h4 hm;refine RS (SA TK Q (SA TK Q (TN (WN [1,2,13,24] Q Q ?_))));refine TC _ Q (λh6=>?_) (λh6=>?_)
   ·replace hm:=JT h6 hm;refine RS (SA TK Q (SA TK Q (VE hm λe7 he7 hm=>SX Q Q (sJ TK Q Q Q Q he7 (Expr.encR_eq _)) (SA TK Q (BE hm λr8 hr8 hm=>?_)))));obtain⟨r9,r10⟩:=r8;refine SX Q Q (dF Q Q Q (ih hr8)) (SA TK Q (SA TK Q (SA TK Q (cI 2 Q Q bE Q (eY 2 [some 3,none] Q Q (SA TK Q (SA TK Q (TN (WN [2,4,5] Q Q (RS (SA TK Q ?_)))))))))));refine BE hm λr11 hr11 hm=>SX Q Q (RD Q Q Q (lK hr11)) (SA TK Q (SA TK Q (SA TK Q (TN (WN [2,3] Q Q (TR (WB (IE hm λv12 hm hz=>?_))))))));rw [hz1 _ hz] at hm;refine WR ?_;obtain⟨rfl,rfl⟩:=Prod.mk.inj (Option.some.inj hm);exact⟨_,.mk _ (.cons (.agg (TK.lay Q) Q Q Q Q) (.cons (.tmp 3) .nil)) Q,(.cons (.d _) (.refl _) (.cons (.d _) (.refl _) .nil))⟩
   replace hm:=JF h6 hm;refine aM hm (λx13=>([(37,.d (.bool (x13)))]:Fr)) (λx13=>([]:List (Nat×Blk))) [37] [1,2] Q (λz14 hm=>?_) (λx13 hm=>?_)
   ·refine RS (SA TK Q (SA TK Q (TN (WN [1,2,13,37] Q Q ?_))));refine TC _ Q (λh15=>?_) (λh15=>?_)
    ·replace hm:=JT h15 hm;refine TS (WT ?_);exact⟨_,[0,1],(SJ hm),Q,k0,Q⟩
    replace hm:=JF h15 hm;refine TG (SA TK Q (SA TK Q (TN (WT ?_))));exact⟨_,[0,1],(SJ hm),Q,k0,Q⟩
   refine WN [1,2,37] Q Q ?_;refine TC _ Q (λh16=>?_) (λh16=>?_)
   ·replace hm:=JA h16 hm;refine RS ?_;iterate 4 (refine SA TK Q ?_)
    refine TN (WN [1,2,6] Q Q (RS (SA TK Q (BE hm λr17 hr17 hm=>SX Q Q (RD Q Q Q (fW hr17)) (cI 2 Q Q bE Q (eY 2 [some 3,none] Q Q (SA TK Q ?_)))))));refine TN (WN [1,2,6,7] Q Q ?_);refine bY hm (λ(c18,c19)=>([]:Fr)) (λ(c18,c19)=>([(2,.box 29 [.d (.sl 3 (c18.map Node.enc)),.d (.int .i64 c19)])]:List (Nat×Blk))) [] [2,7] Q (λz20 hm hz20=>?_) (λj hm=>?_)
    ·refine RS (SA TK Q (SA TK Q (SX Q Q (bM TK Q Q Q) (SA TK Q (TN (WN [2,6,7,46,47,48] Q Q (TB (cB hm (λ(x25,c26,c27)=>([(48,.d (.int .i64 x25))]:Fr)) (λ(x25,c26,c27)=>([(2,.box 29 [.d (.sl 3 (c26.map Node.enc)),.d (.int .i64 c27)])]:List (Nat×Blk))) [48] [2,6,7,46,47] [0,1,2] Q k0 Q Q Q Q Q (λs z28 hm hz28=>?_)))))))));obtain⟨x25,c26,c27⟩:=s;refine WN [2,6,7,46,47,48] Q Q (RS (SA TK Q (TN (WN [2,6,7,46,47,48,49] Q Q (TQ ?_)))));refine TC _ Q (λh29=>?_) (λh29=>?_)
     ·replace hm:=JT h29 hm;refine TS (WT (WN [2,6,7,46,47,48] Q Q (TQ (TB (RS (VE hm λe30 he30 hm=>SX Q Q (sJ TK Q Q Q Q he30 (Expr.encR_eq _)) (SA TK Q ?_)))))));refine cI 3 Q Q kM Q (eY 3 [none,none,some 3] Q Q (SA TK Q (TN (WN [2,6,7,9,46,47,48] Q Q (RS (SA TK Q (BE hm λr31 hr31 hm=>?_)))))));obtain⟨r32,r33⟩:=r31;refine SX Q Q (dF Q Q Q (ih hr31)) (SA TK Q (SA TK Q (SA TK Q (cI 4 Q Q bE Q (eY 4 [some 3,none] Q Q (SA TK Q (SA TK Q (TN (WN [2,6,7,10,11,46,47,48] Q Q (TQ (RS ?_)))))))))));refine SA TK Q (SA TK Q (TN (WN [2,6,7,10,46,47,48,58] Q Q ?_)));refine TC _ Q (λh34=>?_) (λh34=>?_)
      ·replace hm:=JA h34 hm;refine RS (SX Q Q (aZ Q eH bE Q Q Q Q) (lP 59 [some 3,none] Q (SA TK Q (SA TK Q (TN (WN [2,3] Q Q (TR (WR (WB ?_)))))))));refine WR (IE hm λv35 hm hz=>?_);rw [hz28 _ hz] at hm;refine WR (WB (IE hm λv36 hm hz=>?_));rw [hz20 _ hz] at hm;refine WR (WB (IE hm λv37 hm hz=>?_));rw [hz1 _ hz] at hm;refine WR ?_;obtain⟨rfl,rfl⟩:=Prod.mk.inj (Option.some.inj hm);exact⟨_,.mk _ (.cons (.agg (TK.lay Q) Q Q Q Q) (.cons (.tmp 3) .nil)) Q,(.cons (.d _) (.refl _) (.cons (.d _) (.refl _) .nil))⟩
      replace hm:=JB h34 hm;refine TS (WT (WN [2,6,7,10,46,47,48] Q Q (RS (SA TK Q (SA TK Q (SA TK Q (BE hm λr38 hr38 hm=>?_)))))));obtain⟨r39,r40⟩:=r38;refine SX Q Q (dF Q Q Q (lY hr38)) ?_;iterate 5 (refine SA TK Q ?_)
      refine TN (WN [2,6,7,11,46,47,48] Q Q (RS (SA TK Q (SA TK Q (TN (WN [2,6,7,46,47,48,68] Q Q ?_))))));refine TC _ Q (λh41=>?_) (λh41=>?_)
      ·replace hm:=JA h41 hm;refine RS (SX Q Q (aZ Q eH bE Q Q Q Q) (lP 69 [some 3,none] Q (SA TK Q (SA TK Q (TN (WN [2,3] Q Q (TR (WB (WR ?_)))))))));refine IE hm λv42 hm hz=>?_;rw [hz28 _ hz] at hm;refine WR (WB (IE hm λv43 hm hz=>?_));rw [hz20 _ hz] at hm;refine WR (WB (IE hm λv44 hm hz=>?_));rw [hz1 _ hz] at hm;refine WR ?_;obtain⟨rfl,rfl⟩:=Prod.mk.inj (Option.some.inj hm);exact⟨_,.mk _ (.cons (.agg (TK.lay Q) Q Q Q Q) (.cons (.tmp 3) .nil)) Q,(.cons (.d _) (.refl _) (.cons (.d _) (.refl _) .nil))⟩
      replace hm:=JB h41 hm;refine TS (WK (WT (WN [2,6,7,46,47,48] Q Q (TG (GE hm λg45 hm=>SX Q Q (bH Q Q Q Q g45) (SA TK Q (TN ?_)))))));refine WT ?_;exact⟨_,[0,1,2],(SJ hm),Q,k0,Q⟩
     replace hm:=JF h29 hm;refine bI (WX (IE hm λv46 hm hz=>?_));rw [hz28 _ hz] at hm;refine WX (WH (WT ?_));exact⟨_,[0,1,2],(SJ hm),Q,k0,Q⟩
    obtain⟨c18,c19⟩:=j;refine WN [2,7] Q Q (RS (SA TK Q (SA TK Q (SA TK Q (TN (WN [2,3] Q Q (TR (WB (IE hm λv47 hm hz=>?_)))))))));rw [hz1 _ hz] at hm;refine WR ?_;obtain⟨rfl,rfl⟩:=Prod.mk.inj (Option.some.inj hm);exact⟨_,.mk _ (.cons (.agg (TK.lay Q) Q Q Q Q) (.cons (.tmp 3) .nil)) Q,(.cons (.d _) (.refl _) (.cons (.d _) (.refl _) .nil))⟩
   replace hm:=JB h16 hm;refine TS (WK (WT ?_));exact⟨_,[0,1],(SJ hm),Q,k0,Q⟩
  refine WN [2] Q Q (RS (BE hm λr48 hr48 hm=>SX Q Q (RD Q Q Q (fW hr48)) (SA TK Q (SA TK Q (TN (WN [2,3] Q Q (TR ?_)))))));obtain⟨rfl,rfl⟩:=Prod.mk.inj (Option.some.inj hm);exact⟨_,.mk _ (.cons (.agg (TK.lay Q) Q Q Q Q) (.cons (.tmp 3) .nil)) Q,(.cons (.d _) (.refl _) (.cons (.d _) (.refl _) .nil))⟩
theorem lX {p0:Expr} {r0:Diagram} {r1:Bool} (hm:jT p0=some (r0,r1)):RetT Try.prog 34 [p0.enc] [r0.enc,.bool (r1)]:=lL aN hm
theorem uF {p0:Expr} {p1:Int} {r0:Diagram} {r1:Int} (hm:qP p0 p1=some (r0,r1)):RetT Try.prog 11 [p0.enc,.int .i64 p1] [r0.enc,.int .i64 r1]:=by
 refine .of (mv:=λ_=>false) (dJ wM Try.func11 Q Try.ntmps11 Q Q (λwX gX=>?_));unfold qP at hm;refine WN [0,1] Q Q (RS (cS 0 Q Q Q (cI 1 Q Q bE Q (eY 1 [some 3,none] Q Q (SA TK Q (TN (WN [1,2,4] Q Q (TQ ?_))))))));refine RS (SA TK Q (SA TK Q (TN (WN [1,2,4,9] Q Q ?_))));refine TC _ Q (λh1=>?_) (λh1=>?_)
 ·replace hm:=JT h1 hm;refine RS (SX Q Q (aZ Q eH bE Q Q Q Q) (lP 10 [some 3,none] Q (SA TK Q (SA TK Q (TN (WN [4,5] Q Q (TR (WR ?_))))))));obtain⟨rfl,rfl⟩:=Prod.mk.inj (Option.some.inj hm);exact⟨_,.mk _ (.cons (.agg (TK.lay Q) Q Q Q Q) (.cons (.tmp 5) .nil)) Q,(.cons (.d _) (.refl _) (.cons (.d _) (.refl _) .nil))⟩
 replace hm:=JF h1 hm;refine TS (WT (WN [1,2,4] Q Q (TQ ?_)));refine aM hm (λx2=>([(18,.d (.bool (x2)))]:Fr)) (λx2=>([]:List (Nat×Blk))) [18] [2,4] Q (λz3 hm=>?_) (λx2 hm=>?_)
 ·refine TG (SA TK Q (SA TK Q (SB TK Q (λq4 hq4=>?_))));cases q4
  ·replace hm:=JF hq4 hm;refine SA TK Q (SA TK Q (BE hm λr5 hr5 hm=>SX Q Q (RN Q Q (SC (.d _) (SC (.d _) SN)) (nK hr5)) (SA TK Q (SA TK Q (TN (WT ?_))))));exact⟨_,[0,1],(SJ hm),Q,k0,Q⟩
  replace hm:=JT hq4 hm;iterate 5 (refine SA TK Q ?_)
  refine TN (WT ?_);exact⟨_,[0,1],(SJ hm),Q,k0,Q⟩
 refine WN [2,4,18] Q Q ?_;refine TC _ Q (λh6=>?_) (λh6=>?_)
 ·replace hm:=JA h6 hm;refine RS (SX Q Q (aZ Q eH bE Q Q Q Q) (lP 19 [some 3,none] Q (SA TK Q (SA TK Q (TN (WN [4,5] Q Q (TR (WR ?_))))))));obtain⟨rfl,rfl⟩:=Prod.mk.inj (Option.some.inj hm);exact⟨_,.mk _ (.cons (.agg (TK.lay Q) Q Q Q Q) (.cons (.tmp 5) .nil)) Q,(.cons (.d _) (.refl _) (.cons (.d _) (.refl _) .nil))⟩
 replace hm:=JB h6 hm;refine TS (WT (WN [2,4] Q Q (RS (SA TK Q (BE hm λr7 hr7 hm=>?_)))));obtain⟨r8,r9⟩:=r7;refine SX Q Q (dF Q Q Q (lX hr7)) (SA TK Q (SA TK Q (SA TK Q (cI 2 Q Q bE Q (eY 2 [some 3,none] Q Q (SA TK Q (SA TK Q (TN (WN [4,6,7] Q Q (TQ (RS ?_)))))))))));refine SA TK Q (SA TK Q (TN (WN [4,6,26] Q Q ?_)));refine TC _ Q (λh10=>?_) (λh10=>?_)
 ·replace hm:=JA h10 hm;refine RS (SX Q Q (aZ Q eH bE Q Q Q Q) (lP 27 [some 3,none] Q (SA TK Q (SA TK Q (TN (WN [4,5] Q Q (TR (WR ?_))))))));obtain⟨rfl,rfl⟩:=Prod.mk.inj (Option.some.inj hm);exact⟨_,.mk _ (.cons (.agg (TK.lay Q) Q Q Q Q) (.cons (.tmp 5) .nil)) Q,(.cons (.d _) (.refl _) (.cons (.d _) (.refl _) .nil))⟩
 replace hm:=JB h10 hm;refine TS (WT (WN [4,6] Q Q (RS (SA TK Q (SA TK Q (SA TK Q (TN (WN [4,5] Q Q (TR ?_)))))))));obtain⟨rfl,rfl⟩:=Prod.mk.inj (Option.some.inj hm);exact⟨_,.mk _ (.cons (.agg (TK.lay Q) Q Q Q Q) (.cons (.tmp 5) .nil)) Q,(.cons (.d _) (.refl _) (.cons (.d _) (.refl _) .nil))⟩
theorem jU {p0:Diagram} {p1:Int} {p2:Int} {r:Bool} (hm:cF p0 p1 p2=some r):RetN Try.prog 41 [p0.enc,.int .i64 p1,.int .i64 p2] (.bool (r)):=by
 refine .unit (aR vZ Try.func41 Q Try.ntmps41 Q Q (λwX gX=>?_)) Q;unfold cF at hm;refine WN [0,1,2] Q Q (RS (cS 0 Q Q Q (SA TK Q (TN (WN [1,2,3] Q Q (TQ ?_))))));refine eX [(12,.d (.bool (((decide (p2=(0:Int)))||(decide (p2=(1:Int)))))))] [12] [1,2,3] Q ?_ ?_
 ·refine TG (SA TK Q (SA TK Q (SB TK Q (λq1 hq1=>?_))));cases q1
  ·refine SA TK Q (SA TK Q (SA TK Q (TN (WT ?_))));exact⟨[0],Q,k0,bN (aP (aQ (by simp [hq1])) Q) Q⟩
  refine SA TK Q (SA TK Q (SA TK Q (TN (WT ?_))));exact⟨[0],Q,k0,bN (aP (aQ (by simp [hq1])) Q) Q⟩
 refine WN [1,2,3,12] Q Q ?_;refine TC _ Q (λh2=>?_) (λh2=>?_)
 ·replace hm:=JA h2 hm;refine RS (SA TK Q (TN (WN [6] Q Q (TR (WR ?_)))));obtain rfl:=OJ hm;exact EndsS.one _ Q (.d _) (.refl _)
 replace hm:=JB h2 hm;refine TS (WT (WN [1,2,3] Q Q ?_));refine aM hm (λx3=>([(6,.d (.bool (x3)))]:Fr)) (λx3=>([]:List (Nat×Blk))) [6] [] Q (λz4 hm=>?_) (λx3 hm=>?_)
 ·refine fG follows  ?_;iterate 2 (refine DA [0] TK Q ?_)
  refine d_b [0] TK Q (λq5 hq5=>?_);cases q5
  ·replace hm:=JF hq5 hm;iterate 21 (refine DA [0] TK Q ?_)
   refine DT ?_ (by kernel_rfl);refine SA TK Q (TN (WT ?_));exact⟨_,[0],(SJ hm),Q,k0,Q⟩
  replace hm:=JT hq5 hm;iterate 2 (refine DA [0] TK Q ?_)
  refine GE hm λg6 hm=>DX [0] Q Q (bH Q Q Q Q g6) ?_;iterate 2 (refine DA [0] TK Q ?_)
  refine d_b [0] TK Q (λq7 hq7=>?_);cases q7
  ·replace hm:=JF hq7 hm;iterate 15 (refine DA [0] TK Q ?_)
   refine DT ?_ (by kernel_rfl);refine SA TK Q (TN (WT ?_));exact⟨_,[0],(SJ hm),Q,k0,Q⟩
  replace hm:=JT hq7 hm;iterate 3 (refine DA [0] TK Q ?_)
  refine GE hm λg8 hm=>DX [0] Q Q (bH Q Q Q Q g8) (VE hm λe9 he9 hm=>DX [0] Q Q (cX TK Q Q Q Q he9) ?_);iterate 5 (refine DA [0] TK Q ?_)
  refine VE hm λe10 he10 hm=>DX [0] Q Q (cX TK Q Q Q Q he10) ?_;iterate 4 (refine DA [0] TK Q ?_)
  refine DT ?_ (by kernel_rfl);refine SA TK Q (TN (WT ?_));exact⟨_,[0],(SJ hm),Q,k0,Q⟩
 refine WN [6] Q Q (TR ?_);obtain rfl:=OJ hm;exact EndsS.one _ Q (.d _) (.refl _)
theorem iT:∀ (fu:Nat) {p0:Int} {p1:(List Bool)} {p2:Diagram} {p4:Int} {r0:Bool} {r1:(List Bool)} {r2:Int} (hm:aU fu p0 p1 p2 p4=some (r0,r1,r2)),Ret Try.prog 54 [.box 36 [.msl 1 1 0 p1.length],.flat 4 1 (p1.map D.bool),.box 3 [.d (.int .i64 p4)],.box 78 [.fnc 54 [.mptr 0 0 0 0,.d (.ptr (p2.enc) 0),.mptr 3 0 0 0,.mptr 2 0 0 0]]] (λ_=>false) [.d (.int .i64 p0),.mptr 0 0 0 0,.d (.ptr (p2.enc) 0),.mptr 3 0 0 0,.mptr 2 0 0 0] (.d (.bool (r0))) [.box 36 [.msl 1 1 0 r1.length],.flat 4 1 (r1.map D.bool),.box 3 [.d (.int .i64 r2)],.box 78 [.fnc 54 [.mptr 0 0 0 0,.d (.ptr (p2.enc) 0),.mptr 3 0 0 0,.mptr 2 0 0 0]]]:=by
 intro fu
 induction fu with
 | zero=>
  intro p0 p1 p2 p4 r0 r1 r2 hm;unfold aU at hm;cases hm
 | succ fu ih=>
  intro p0 p1 p2 p4 r0 r1 r2 hm;refine eG vR Try.func54 Q Try.ntmps54 Q Q (λwX gX=>?_);unfold aU at hm;refine WN [0,1,2,3,4] Q Q (RS (SA TK Q (TN (WN [0,1,2,3,4] Q Q (TQ ?_)))));refine aM hm (λx1=>([(15,.d (.bool (x1)))]:Fr)) (λx1=>([]:List (Nat×Blk))) [15] [0,1,2,3,4] Q (λz2 hm=>?_) (λx1 hm=>?_)
  ·refine TG (SA TK Q (SA TK Q (SB TK Q (λq3 hq3=>?_))));cases q3
   ·replace hm:=JF hq3 hm;refine SA TK Q (SA TK Q (VE hm λe4 he4 hm=>SX Q Q (jL TK Q Q Q Q he4 Q) (SX Q Q (mA TK Q Q Q Q he4.2 Q) (SA TK Q (TN (WT ?_))))));exact⟨_,[0,1,2,3],(SJ hm),Q,(kB Q),Q⟩
   replace hm:=JT hq3 hm;iterate 5 (refine SA TK Q ?_)
   refine TN (WT ?_);exact⟨_,[0,1,2,3],(SJ hm),Q,(kB Q),Q⟩
  refine WN [0,1,2,3,4,15] Q Q ?_;refine TC _ Q (λh5=>?_) (λh5=>?_)
  ·replace hm:=JA h5 hm;refine RS (SA TK Q (TN (WN [6] Q Q (TR (WR ?_)))));obtain⟨rfl,hmj0⟩:=Prod.mk.inj (Option.some.inj hm);obtain⟨rfl,rfl⟩:=Prod.mk.inj (hmj0);exact⟨_,[0,1,2,3],res Q,by decide,(kB Q),Q,Q⟩
  replace hm:=JB h5 hm;refine TS (WT (WN [0,1,2,3,4] Q Q (RS (SA TK Q (SA TK Q (VE hm λe6 he6 hm=>SX Q Q (jL TK Q Q Q Q he6 Q) (wW (x':=true) TK Q Q Q Q Q he6.2 Q Q Q (sX 16 (p1.set p0.toNat true).length Q List.length_set.symm ?_))))))));refine s_eqB 0 [.msl 1 1 0 (p1.set p0.toNat true).length] Q (by simp only [List.length_set]) ?_;refine TN (WN [0,2,3,4] Q Q (RS (SA TK Q (SA TK Q (SA TK Q (GE hm λg7 hm=>SX Q Q (bH Q Q Q Q g7) (VE hm λe8 he8 hm=>SX Q Q (cX TK Q Q Q Q he8) (SA TK Q ?_))))))));refine cI 4 Q Q aT Q (SA TK Q (TN (WN [0,3,4,7] Q Q (TQ ?_))));refine aM hm (λ(x9,b10,c11)=>([(41,.d (.bool (x9)))]:Fr)) (λ(x9,b10,c11)=>([(0,.box 36 [.msl 1 1 0 b10.length]),(1,.flat 4 1 (b10.map D.bool)),(2,.box 3 [.d (.int .i64 c11)])]:List (Nat×Blk))) [41] [4] Q (λz12 hm=>?_) (λj hm=>?_)
  ·refine TG (SA TK Q (SA TK Q (SA TK Q (BE hm λr13 hr13 hm=>?_))));obtain⟨r14,r15,r16⟩:=r13;refine bV [0,1,2,3] (λ_=>false) Q Q Q (by decide) Q Q Q Q (ih hr13) Q Q Q ?_;refine SA TK Q (SB TK Q (λq17 hq17=>?_));cases q17
   ·replace hm:=JB hq17 hm;refine SA TK Q (SA TK Q (SA TK Q (BE hm λr18 hr18 hm=>?_)));obtain⟨r19,r20,r21⟩:=r18;refine s_on Q ?_;refine bV [0,1,2,3] (λ_=>false) Q Q Q (by decide) Q Q Q Q (ih hr18) Q Q Q ?_;refine SA TK Q (SA TK Q (SB TK Q (λq22 hq22=>?_)));cases q22
    ·replace hm:=JB hq22 hm;iterate 4 (refine SA TK Q ?_)
     refine TN (WT ?_);exact⟨_,[0,1,2,3,4],(SJ hm),Q,(kB Q),Q⟩
    replace hm:=JA hq22 hm;iterate 4 (refine SA TK Q ?_)
    refine TN (WT ?_);exact⟨_,[0,1,2,3,4],(SJ hm),Q,(kB Q),Q⟩
   replace hm:=JA hq17 hm;iterate 11 (refine SA TK Q ?_)
   refine TN (WT ?_);exact⟨_,[0,1,2,3,4],(SJ hm),Q,(kB Q),Q⟩
  obtain⟨x9,b10,c11⟩:=j;refine WN [4,41] Q Q ?_;refine TC _ Q (λh23=>?_) (λh23=>?_)
  ·replace hm:=JA h23 hm;refine RS (SA TK Q (TN (WN [6] Q Q (TR (WR ?_)))));obtain⟨rfl,hmj0⟩:=Prod.mk.inj (Option.some.inj hm);obtain⟨rfl,rfl⟩:=Prod.mk.inj (hmj0);exact⟨_,[0,1,2,3],res Q,by decide,(kB Q),Q,Q⟩
  replace hm:=JB h23 hm;refine TS (WT (WN [4] Q Q (RS (SA TK Q (GE hm λg24 hm=>SX Q Q (bH Q Q Q Q g24) (SA TK Q (TN ?_)))))));refine WN [] Q Q (RS (SA TK Q (TN (WN [6] Q Q (TR ?_)))));obtain⟨rfl,hmj0⟩:=Prod.mk.inj (Option.some.inj hm);obtain⟨rfl,rfl⟩:=Prod.mk.inj (hmj0);exact⟨_,[0,1,2,3],res Q,by decide,(kB Q),Q,Q⟩
theorem jH {p0:Int} {p1:(List Bool)} {p2:Diagram} {p4:Int} {r0:Bool} {r1:(List Bool)} {r2:Int} (hm:dV p0 p1 p2 p4=some (r0,r1,r2)):Ret Try.prog 54 [.box 36 [.msl 1 1 0 p1.length],.flat 4 1 (p1.map D.bool),.box 3 [.d (.int .i64 p4)],.box 78 [.fnc 54 [.mptr 0 0 0 0,.d (.ptr (p2.enc) 0),.mptr 3 0 0 0,.mptr 2 0 0 0]]] (λ_=>false) [.d (.int .i64 p0),.mptr 0 0 0 0,.d (.ptr (p2.enc) 0),.mptr 3 0 0 0,.mptr 2 0 0 0] (.d (.bool (r0))) [.box 36 [.msl 1 1 0 r1.length],.flat 4 1 (r1.map D.bool),.box 3 [.d (.int .i64 r2)],.box 78 [.fnc 54 [.mptr 0 0 0 0,.d (.ptr (p2.enc) 0),.mptr 3 0 0 0,.mptr 2 0 0 0]]]:=iT aN hm
theorem lW {p0:Diagram} {r:Bool} (hm:dB p0=some r):RetN Try.prog 43 [p0.enc] (.bool (r)):=by
 refine .unit (aR vY Try.func43 Q Try.ntmps43 Q Q (λwX gX=>?_)) Q;unfold dB at hm;refine WN [0] Q Q (RS (cS 0 Q Q Q (SA TK Q (TN (WN [1] Q Q (RS (SA TK Q (SA TK Q (SX Q Q (bM TK Q Q Q) ?_)))))))));refine GE hm λg1 hm=>SX Q Q (bH Q Q Q Q g1) (GE hm λg2 hm=>wY (f:=D.bool) (x:=false) 1 TK Q Q Q wU Q Q Q Q Q g2 Q (cI 2 Q Q zero36 Q (kO (f:=D.bool) 2 0 3 4 1 Q Q Q (SA TK Q (TN (WN [1,3] Q Q ?_))))));refine RS (cI 4 Q Q gS Q (SA TK Q (TN (WN [1,3,4] Q Q (RS (cI 5 Q Q zero78 Q (TN (WN [1,3,4,5] Q Q ?_))))))));refine rI 0 Q Q Q Q Q (RS (SX Q Q (nY Q) (SA TK Q (TN (WN [1,4,5] Q Q ?_)))));refine aM hm (λ(x3,b4,c5)=>([(2,.d (.bool (x3)))]:Fr)) (λ(x3,b4,c5)=>([(1,.flat 4 1 (b4.map D.bool)),(2,.box 36 [.msl 1 1 0 b4.length]),(4,.box 3 [.d (.int .i64 c5)])]:List (Nat×Blk))) [2] [] Q (λz6 hm=>?_) (λj hm=>?_)
 ·refine TG (SA TK Q (SA TK Q (SA TK Q (BE hm λr7 hr7 hm=>?_))));obtain⟨r8,r9,r10⟩:=r7;refine bV [2,1,4,5] (λ_=>false) Q Q Q (by decide) Q Q Q Q (jH hr7) Q Q Q ?_;refine SB TK Q (λq11 hq11=>?_);cases q11
  ·replace hm:=JB hq11 hm;iterate 8 (refine SA TK Q ?_)
   refine TN (WT ?_);exact⟨_,[0,1,2,3,4,5],(SJ hm),Q,k0,Q⟩
  replace hm:=JA hq11 hm;refine SA TK Q (SA TK Q (SA TK Q (SX Q Q (bM TK Q Q Q) (GE hm λg12 hm=>SX Q Q (bH Q Q Q Q g12) (SA TK Q (SA TK Q (SA TK Q (TN (WT ?_)))))))));exact⟨_,[0,1,2,3,4,5],(SJ hm),Q,k0,Q⟩
 obtain⟨x3,b4,c5⟩:=j;refine WN [2] Q Q (TR ?_);obtain rfl:=OJ hm;exact EndsS.one _ Q (.d _) (.refl _)
theorem cT {p0:Node'} {p1:Node} {r0:Int} {r1:Node'} (hm:aL p0 p1=some (r0,r1)):Ret Try.prog 42 [.box 63 [.mmapN 1 p0.index.length,.msl 2 3 0 p0.list.length],.map 51 3 (aF Node.enc (D.int .i64) p0.index),.flat 51 3 (p0.list.map Node.enc)] (λj=>Nat.beq j 1||Nat.beq j 2) [.mptr 0 0 0 0,.d (p1.enc)] (.d (.int .i64 r0)) [.box 63 [.mmapN 1 r1.index.length,.msl 2 3 0 r1.list.length],.map 51 3 (aF Node.enc (D.int .i64) r1.index),.flat 51 3 (r1.list.map Node.enc)]:=by
 refine eG rH Try.func42 Q Try.ntmps42 Q Q (λwX gX=>?_);unfold aL at hm;refine pG 0 0 1 Q Q Q (λhn=>?_) ?_
 ·replace hm:=tM hn hm;refine WN [0,1] Q Q (RS (cS 3 Q Q Q (SA TK Q (TN (WN [0,3] Q Q (TQ (aK follows  ?_)))))));iterate 5 (refine DA [0,1,2,3] TK Q ?_)
  refine GE hm λg1 hm=>DX [0,1,2,3] Q Q (nQ fL fQ (D.int .i64) p1 (0:Int) Q jR gS Q Q Q g1) ?_;iterate 4 (refine DA [0,1,2,3] TK Q ?_)
  refine DT ?_ (by kernel_rfl);refine SA TK Q (TN (WN [0,3,5,6] Q Q (RS (SA TK Q (TN (WN [0,3,5,16] Q Q (TC false Q (λh=>by cases h) (λ_=>TS ?_))))))));refine WT (WN [0,3] Q Q ?_);refine aM hm (λ_=>([]:Fr)) (λ_=>([(0,.box 63 [.mmap 1,.msl 2 3 0 p0.list.length])]:List (Nat×Blk))) [] [0,3] Q (λz2 hm=>?_) (λj hm=>?_)
  ·refine RS ?_;iterate 4 (refine SA TK Q ?_)
   refine SX Q Q (kT Q Try.underlying61 Q Q) (TN (WN [0,3,22] Q Q ?_));refine TC true Q (λ_=>?_) (λh=>by cases h);refine TG (SA TK Q (jN (kf:=Node.enc) (f:=(D.int .i64)) 1 51 3 Q Q (λ_=>Q) Q Q (SA TK Q (SA TK Q (SA TK Q (TN (WT ?_)))))));exact⟨_,[0,1,2,3],(SJ hm),Q,(kB Q),Q⟩
  refine WN [0,3] Q Q (aK follows  ?_);iterate 10 (refine DA [0,1,2,3] TK Q ?_)
  refine DT ?_ (by kernel_rfl);refine GE hm λg3 hm=>iX fL fQ (D.int .i64) jR Q Q Q Q g3 (TN (WN [0,3] Q Q (aK follows  ?_)));iterate 6 (refine DA [0,1,2,3] TK Q ?_)
  refine DX [0,1,2,3] Q Q (fF [.tmp 42] TK Q Q aT Q Q Q Q Q) ?_;refine kI 0 37 ?_ ?_ Q (by kernel_rfl) (by kernel_rfl) (by kernel_rfl)
  ·refine GE hm λg4 hm=>gV (f:=Node.enc) ([p1]:List Node) TK Q Q aT Q Q Q Q Q (λ_=>Q) Q fK g4 Q Q (SA TK Q (SA TK Q (SA TK Q (TN (WN [0] Q Q (RS ?_))))));iterate 5 (refine SA TK Q ?_)
   refine GE hm λg5 hm=>SX Q Q (bH Q Q Q Q g5) (SA TK Q (TN (WN [4] Q Q (hU 0 0 1 (eO ([]:List (Node×Int)) p1 (p0.list.length:Int)).length Q Q (TR ?_)))));obtain⟨rfl,rfl⟩:=Prod.mk.inj (Option.some.inj hm);exact⟨_,[0,1,2],res Q,by decide,(kB Q),Q,Q⟩
  refine GE hm λg6 hm=>gV (f:=Node.enc) ([p1]:List Node) TK Q Q aT Q Q Q Q Q (λ_=>Q) Q fK g6 Q Q ?_;iterate 4 (refine SA TK Q ?_)
  refine TN (WN [0] Q Q (RS ?_));iterate 5 (refine SA TK Q ?_)
  refine GE hm λg7 hm=>SX Q Q (bH Q Q Q Q g7) (SA TK Q (TN (WN [4] Q Q (hU 0 0 1 (eO ([]:List (Node×Int)) p1 (p0.list.length:Int)).length Q Q (TR ?_)))));obtain⟨rfl,rfl⟩:=Prod.mk.inj (Option.some.inj hm);exact⟨_,[0,1,2],res Q,by decide,(kB Q),Q,Q⟩
 replace hm:=xA hm;refine WN [0,1] Q Q (RS (cS 3 Q Q Q (SA TK Q (TN (WN [0,3] Q Q (TQ (aK follows  ?_)))))));iterate 5 (refine DA [0,1,2,3] TK Q ?_)
 refine GE hm λg8 hm=>DX [0,1,2,3] Q Q (mN fL fQ (D.int .i64) _ _ (0:Int) Q jR gS Q Q Q Q g8) ?_;iterate 4 (refine DA [0,1,2,3] TK Q ?_)
 refine DT ?_ (by kernel_rfl);refine SA TK Q (TN (WN [0,3,5,6] Q Q (RS (SA TK Q (TN (WN [0,3,5,16] Q Q ?_))))));refine TC _ Q (λh9=>?_) (λh9=>?_)
 ·replace hm:=JA h9 hm;refine RS (SA TK Q (SA TK Q (TN (WN [4] Q Q (hU 0 0 1 p0.index.length Q Q (TR (WR ?_)))))));obtain⟨rfl,rfl⟩:=Prod.mk.inj (Option.some.inj hm);exact⟨_,[0,1,2],res Q,by decide,(kB Q),Q,Q⟩
 replace hm:=JB h9 hm;refine TS (WT (WN [0,3] Q Q ?_));refine aM hm (λ_=>([]:Fr)) (λ_=>([]:List (Nat×Blk))) [] [0,3] Q (λz10 hm=>?_) (λj hm=>?_)
 ·refine RS ?_;iterate 4 (refine SA TK Q ?_)
  refine SX Q Q (kU Q Try.underlying61 Q Q) (TN (WN [0,3,22] Q Q (TC false Q (λh=>by cases h) (λ_=>TS (WT ?_)))));exact⟨_,[0,1,2,3],(SJ hm),Q,(kB Q),Q⟩
 refine WN [0,3] Q Q (aK follows  ?_);iterate 10 (refine DA [0,1,2,3] TK Q ?_)
 refine DT ?_ (by kernel_rfl);refine GE hm λg11 hm=>iX fL fQ (D.int .i64) jR Q Q Q Q g11 (TN (WN [0,3] Q Q (aK follows  ?_)));iterate 6 (refine DA [0,1,2,3] TK Q ?_)
 refine DX [0,1,2,3] Q Q (fF [.tmp 42] TK Q Q aT Q Q Q Q Q) ?_;refine kI 0 37 ?_ ?_ Q (by kernel_rfl) (by kernel_rfl) (by kernel_rfl)
 ·refine GE hm λg12 hm=>gV (f:=Node.enc) ([p1]:List Node) TK Q Q aT Q Q Q Q Q (λ_=>Q) Q fK g12 Q Q (SA TK Q (SA TK Q (SA TK Q (TN (WN [0] Q Q (RS ?_))))));iterate 5 (refine SA TK Q ?_)
  refine GE hm λg13 hm=>SX Q Q (bH Q Q Q Q g13) (SA TK Q (TN (WN [4] Q Q (hU 0 0 1 (eO p0.index p1 (p0.list.length:Int)).length Q Q (TR ?_)))));obtain⟨rfl,rfl⟩:=Prod.mk.inj (Option.some.inj hm);exact⟨_,[0,1,2],res Q,by decide,(kB Q),Q,Q⟩
 refine GE hm λg14 hm=>gV (f:=Node.enc) ([p1]:List Node) TK Q Q aT Q Q Q Q Q (λ_=>Q) Q fK g14 Q Q ?_;iterate 4 (refine SA TK Q ?_)
 refine TN (WN [0] Q Q (RS ?_));iterate 5 (refine SA TK Q ?_)
 refine GE hm λg15 hm=>SX Q Q (bH Q Q Q Q g15) (SA TK Q (TN (WN [4] Q Q (hU 0 0 1 (eO p0.index p1 (p0.list.length:Int)).length Q Q (TR ?_)))));obtain⟨rfl,rfl⟩:=Prod.mk.inj (Option.some.inj hm);exact⟨_,[0,1,2],res Q,by decide,(kB Q),Q,Q⟩
theorem dC {p0:Diagram} {r:Bool} (hm:bW p0=some r):RetN Try.prog 19 [p0.enc] (.bool (r)):=by
 refine .unit (aR wI Try.func19 Q Try.ntmps19 Q Q (λwX gX=>?_)) Q;unfold bW at hm;refine WN [0] Q Q (RS (cS 0 Q Q Q (SA TK Q (TN (WN [1] Q Q (TQ (RS (SA TK Q (SA TK Q ?_)))))))));refine SX Q Q (bM TK Q Q Q) (SA TK Q (TN (WN [1,9] Q Q ?_)));refine TC _ Q (λh1=>?_) (λh1=>?_)
 ·replace hm:=JT h1 hm;refine RS (SA TK Q (TN (WN [2] Q Q (TR (WR ?_)))));obtain rfl:=OJ hm;exact EndsS.one _ Q (.d _) (.refl _)
 replace hm:=JF h1 hm;refine TS (WT (WN [1] Q Q (RS (cI 1 Q Q zero63 Q (qV (kf:=Node.enc) (f:=(D.int .i64)) 1 0 2 51 3 Q Q Q (kO (f:=Node.enc) 1 1 3 51 3 Q Q Q (TN (WN [1,3] Q Q ?_))))))));refine bY hm (λ(m2,b3)=>([]:Fr)) (λ(m2,b3)=>([(1,.box 63 [.mmapN 2 m2.length,.msl 3 3 0 b3.length]),(2,.map 51 3 (aF Node.enc (D.int .i64) m2)),(3,.flat 51 3 (b3.map Node.enc))]:List (Nat×Blk))) [] [1] Q (λz4 hm hz4=>?_) (λj hm=>?_)
 ·refine RS (SA TK Q (SA TK Q (SX Q Q (bM TK Q Q Q) (SA TK Q (TN (WN [1,3,11,12,13] Q Q (TB (cB hm (λ(x9,b10,b11)=>([(13,.d (.int .i64 x9))]:Fr)) (λ(x9,b10,b11)=>([(1,.box 63 [.mmapN 2 b10.length,.msl 3 3 0 b11.length]),(2,.map 51 3 (aF Node.enc (D.int .i64) b10)),(3,.flat 51 3 (b11.map Node.enc))]:List (Nat×Blk))) [13] [1,3,11,12] [0,1,2,3] Q k0 Q Q Q Q Q (λs z12 hm hz12=>?_)))))))));obtain⟨x9,b10,b11⟩:=s;refine WN [1,3,11,12,13] Q Q (RS (SA TK Q (TN (WN [1,3,11,12,13,14] Q Q (TQ ?_)))));refine TC _ Q (λh13=>?_) (λh13=>?_)
  ·replace hm:=JT h13 hm;refine TS (WT (WN [1,3,11,12,13] Q Q (TQ (TB (RS (SA TK Q (VE hm λe14 he14 hm=>SX Q Q (cX TK Q Q Q Q he14) ?_)))))));refine SA TK Q (cI 4 Q Q aT Q (SA TK Q (SA TK Q (TN (WN [1,3,4,5,11,12,13] Q Q (TQ ?_))))));refine aM hm (λx15=>([(48,.d (.bool (x15)))]:Fr)) (λx15=>([]:List (Nat×Blk))) [48] [1,3,4,5,11,12,13] Q (λz16 hm=>?_) (λx15 hm=>?_)
   ·refine TG (SA TK Q (SA TK Q (SA TK Q (SB TK Q (λq17 hq17=>?_)))));cases q17
    ·replace hm:=JF hq17 hm;iterate 4 (refine SA TK Q ?_)
     refine SB TK Q (λq18 hq18=>?_);cases q18
     ·replace hm:=JF hq18 hm;iterate 6 (refine SA TK Q ?_)
      refine SB TK Q (λq19 hq19=>?_);cases q19
      ·replace hm:=JF hq19 hm;iterate 4 (refine SA TK Q ?_)
       refine BE hm λr20 hr20 hm=>SX Q Q (RN Q Q (SC (.d _) (SC (.d _) (SC (.d _) SN))) (jU hr20)) (SA TK Q (SA TK Q (SB TK Q (λq21 hq21=>?_))));cases q21
       ·replace hm:=JB hq21 hm;iterate 4 (refine SA TK Q ?_)
        refine BE hm λr22 hr22 hm=>SX Q Q (RN Q Q (SC (.d _) (SC (.d _) (SC (.d _) SN))) (jU hr22)) (SA TK Q (SA TK Q (TN (WT ?_))));exact⟨_,[0,1,2,3,4],(SJ hm),Q,k0,Q⟩
       replace hm:=JA hq21 hm;iterate 7 (refine SA TK Q ?_)
       refine TN (WT ?_);exact⟨_,[0,1,2,3,4],(SJ hm),Q,k0,Q⟩
      replace hm:=JT hq19 hm;iterate 15 (refine SA TK Q ?_)
      refine TN (WT ?_);exact⟨_,[0,1,2,3,4],(SJ hm),Q,k0,Q⟩
     replace hm:=JT hq18 hm;iterate 22 (refine SA TK Q ?_)
     refine TN (WT ?_);exact⟨_,[0,1,2,3,4],(SJ hm),Q,k0,Q⟩
    replace hm:=JT hq17 hm;iterate 27 (refine SA TK Q ?_)
    refine TN (WT ?_);exact⟨_,[0,1,2,3,4],(SJ hm),Q,k0,Q⟩
   refine WN [1,3,4,5,11,12,13,48] Q Q ?_;refine TC _ Q (λh23=>?_) (λh23=>?_)
   ·replace hm:=JA h23 hm;refine RS (SA TK Q (TN (WN [2] Q Q (TR (WR (WB (WR (IE hm λv24 hm hz=>?_))))))));rw [hz12 _ hz] at hm;refine WR (WB (IE hm λv25 hm hz=>?_));rw [hz4 _ hz] at hm;refine WR ?_;obtain rfl:=OJ hm;exact EndsS.one _ Q (.d _) (.refl _)
   replace hm:=JB h23 hm;refine TS (WT (WN [1,3,4,5,11,12,13] Q Q (RS (SA TK Q (BE hm λr26 hr26 hm=>?_)))));obtain⟨r27,r28⟩:=r26;refine bV [1,2,3] (λj=>Nat.beq j 1||Nat.beq j 2) Q Q Q (by decide) Q Q Q Q (cT hr26) Q Q Q ?_;refine SA TK Q (SA TK Q (TN (WN [1,3,11,12,13,52] Q Q ?_)));refine TC _ Q (λh29=>?_) (λh29=>?_)
   ·replace hm:=fR h29 hm;refine RS (SA TK Q (TN (WN [2] Q Q (TR (WB (WR (IE hm λv30 hm hz=>?_)))))));rw [hz12 _ hz] at hm;refine WR (WB (IE hm λv31 hm hz=>?_));rw [hz4 _ hz] at hm;refine WR ?_;obtain rfl:=OJ hm;exact EndsS.one _ Q (.d _) (.refl _)
   replace hm:=fS h29 hm;refine TS (WK (WT (WN [1,3,11,12,13] Q Q (TG (GE hm λg32 hm=>SX Q Q (bH Q Q Q Q g32) (SA TK Q (TN ?_)))))));refine WT ?_;exact⟨_,[0,1,2,3],(SJ hm),Q,k0,Q⟩
  replace hm:=JF h13 hm;refine bI (WX (IE hm λv33 hm hz=>?_));rw [hz12 _ hz] at hm;refine WX (WH (WT ?_));exact⟨_,[0,1,2,3],(SJ hm),Q,k0,Q⟩
 obtain⟨m2,b3⟩:=j;refine WN [1] Q Q (TQ (RS (SA TK Q (SA TK Q (SX Q Q (bM TK Q Q Q) (SA TK Q (TN (WN [1,57] Q Q ?_))))))));refine TC _ Q (λh34=>?_) (λh34=>?_)
 ·replace hm:=JT h34 hm;refine eX [(2,.d (.bool (((decide (p0.root=(0:Int)))||(decide (p0.root=(1:Int)))))))] [2] [] Q ?_ ?_
  ·refine TG (SA TK Q (SA TK Q (SA TK Q (SB TK Q (λq35 hq35=>?_)))));cases q35
   ·iterate 5 (refine SA TK Q ?_)
    refine TN (WT ?_);exact⟨[0,1,2,3],Q,k0,bN (aP (aQ (by simp [hq35])) Q) Q⟩
   iterate 5 (refine SA TK Q ?_)
   refine TN (WT ?_);exact⟨[0,1,2,3],Q,k0,bN (aP (aQ (by simp [hq35])) Q) Q⟩
  refine WN [2] Q Q (TR (WR ?_));obtain rfl:=OJ hm;exact EndsS.one _ Q (.d _) (.refl _)
 replace hm:=JF h34 hm;refine TS (WT (WN [1] Q Q ?_));refine aM hm (λx36=>([(2,.d (.bool (x36)))]:Fr)) (λx36=>([]:List (Nat×Blk))) [2] [] Q (λz37 hm=>?_) (λx36 hm=>?_)
 ·refine TG ?_;iterate 4 (refine SA TK Q ?_)
  refine SX Q Q (bM TK Q Q Q) (GE hm λg38 hm=>SX Q Q (bH Q Q Q Q g38) (SA TK Q (SB TK Q (λq39 hq39=>?_))));cases q39
  ·replace hm:=JF hq39 hm;iterate 4 (refine SA TK Q ?_)
   refine TN (WT ?_);exact⟨_,[0,1,2,3],(SJ hm),Q,k0,Q⟩
  replace hm:=JT hq39 hm;refine SA TK Q (BE hm λr40 hr40 hm=>SX Q Q (RN Q Q (SC (.d _) SN) (lW hr40)) (SA TK Q (SA TK Q (TN (WT ?_)))));exact⟨_,[0,1,2,3],(SJ hm),Q,k0,Q⟩
 refine WN [2] Q Q (TR ?_);obtain rfl:=OJ hm;exact EndsS.one _ Q (.d _) (.refl _)
theorem jV {p0:Diagram} {p1:Int} {r:Bool} (hm:gM p0 p1=some r):RetN Try.prog 38 [p0.enc,.int .i64 p1] (.bool (r)):=by
 refine .unit (aR wB Try.func38 Q Try.ntmps38 Q Q (λwX gX=>?_)) Q;unfold gM at hm;refine WN [0,1] Q Q (RS (cS 0 Q Q Q (SA TK Q (TN (WN [1,2] Q Q ?_)))));refine bY hm (λ_=>([]:Fr)) (λ_=>([]:List (Nat×Blk))) [] [] Q (λz1 hm hz1=>?_) (λj hm=>?_)
 ·refine RS (SA TK Q (SA TK Q (SX Q Q (bM TK Q Q Q) (SA TK Q (TN (WN [1,8,9,10] Q Q (TB (cB hm (λx3=>([(10,.d (.int .i64 x3))]:Fr)) (λx3=>([]:List (Nat×Blk))) [10] [1,8,9] [0] Q k0 Q Q Q Q Q (λx3 z4 hm hz4=>WN [1,8,9,10] Q Q ?_)))))))));refine RS (SA TK Q (TN (WN [1,8,9,10,11] Q Q (TQ ?_))));refine TC _ Q (λh5=>?_) (λh5=>?_)
  ·replace hm:=JT h5 hm;refine TS (WT (WN [1,8,9,10] Q Q (TQ (TB (RS (VE hm λe6 he6 hm=>SX Q Q (cX TK Q Q Q Q he6) (SA TK Q ?_)))))));refine cI 1 Q Q aT Q (SA TK Q (TN (WN [1,6,8,9,10] Q Q (RS ?_))));iterate 4 (refine SA TK Q ?_)
   refine TN (WN [1,8,9,10,17] Q Q ?_);refine TC _ Q (λh7=>?_) (λh7=>?_)
   ·replace hm:=JT h7 hm;refine RS (SA TK Q (TN (WN [4] Q Q (TR (WB (WR (IE hm λv8 hm hz=>?_)))))));rw [hz4 _ hz] at hm;refine WR (WB (IE hm λv9 hm hz=>?_));rw [hz1 _ hz] at hm;refine WR ?_;obtain rfl:=OJ hm;exact EndsS.one _ Q (.d _) (.refl _)
   replace hm:=JF h7 hm;refine TS (WK (WT (WN [1,8,9,10] Q Q (TG (GE hm λg10 hm=>SX Q Q (bH Q Q Q Q g10) (SA TK Q (TN ?_)))))));refine WT ?_;exact⟨_,[0],(SJ hm),Q,k0,Q⟩
  replace hm:=JF h5 hm;refine bI (WX (IE hm λv11 hm hz=>?_));rw [hz4 _ hz] at hm;refine WX (WH (WT ?_));exact⟨_,[0],(SJ hm),Q,k0,Q⟩
 refine WN [] Q Q (RS (SA TK Q (TN (WN [4] Q Q (TR ?_)))));obtain rfl:=OJ hm;exact EndsS.one _ Q (.d _) (.refl _)
theorem dW {p0:Int} {p1:Int} {p2:Diagram} {r:Int} (hm:cR p0 p1 p2=some r):RetN Try.prog 40 [.int .i64 p0,.ptr (.agg [.int .i64 p1]) 0,.ptr (p2.enc) 0] (.int .i64 r):=by
 refine .unit (aR wA Try.func40 Q Try.ntmps40 Q Q (λwX gX=>?_)) Q;unfold cR at hm;refine WN [0,1,2] Q Q (RS (SA TK Q (TN (WN [0,1,2] Q Q (TQ (RS (SA TK Q (SA TK Q (TN ?_)))))))));refine WN [0,1,2,6] Q Q ?_;refine TC _ Q (λh1=>?_) (λh1=>?_)
 ·replace hm:=JT h1 hm;refine RS (SA TK Q (SA TK Q (TN (WN [4] Q Q (TR (WR ?_))))));obtain rfl:=OJ hm;exact EndsS.one _ Q (.d _) (.refl _)
 replace hm:=JF h1 hm;refine TS (WT (WN [0,2] Q Q (RS (SA TK Q (SA TK Q (SA TK Q (GE hm λg2 hm=>SX Q Q (bH Q Q Q Q g2) (VE hm λe3 he3 hm=>SX Q Q (cX TK Q Q Q Q he3) ?_))))))));refine SA TK Q (SA TK Q (SA TK Q (TN (WN [4] Q Q (TR ?_)))));obtain rfl:=OJ hm;exact EndsS.one _ Q (.d _) (.refl _)
theorem pI {p0:Diagram} {p1:Int} {r0:Int} {r1:Int} (hm:jJ p0 p1=some (r0,r1)):RetT Try.prog 17 [p0.enc,.int .i64 p1] [.int .u64 r0,.int .i64 r1]:=by
 refine .of (mv:=λ_=>false) (dJ wJ Try.func17 Q Try.ntmps17 Q Q (λwX gX=>?_));unfold jJ at hm;refine WN [0,1] Q Q (RS (cS 0 Q Q Q (cS 1 Q Q Q (SA TK Q (SA TK Q (TN (WN [2,3] Q Q (TQ ?_))))))));refine eX [(17,.d (.bool (((decide (p1 < (0:Int)))||(decide ((62:Int) < p1))))))] [17] [2,3] Q ?_ ?_
 ·refine TG (SA TK Q (SA TK Q (SB TK Q (λq1 hq1=>?_))));cases q1
  ·refine SA TK Q (SA TK Q (SA TK Q (TN (WT ?_))));exact⟨[0,1],Q,k0,bN (aP (aQ (by simp [hq1])) Q) Q⟩
  refine SA TK Q (SA TK Q (SA TK Q (TN (WT ?_))));exact⟨[0,1],Q,k0,bN (aP (aQ (by simp [hq1])) Q) Q⟩
 refine WN [2,3,17] Q Q ?_;refine TC _ Q (λh2=>?_) (λh2=>?_)
 ·replace hm:=JA h2 hm;refine RS (SA TK Q (SA TK Q (TN (WN [4,5] Q Q (TR (WR ?_))))));obtain⟨rfl,rfl⟩:=Prod.mk.inj (Option.some.inj hm);exact EndsT.two Q (.d _) (.refl _) (.d _) (.refl _)
 replace hm:=JB h2 hm;refine TS (WT (WN [2,3] Q Q (TQ ?_)));refine aM hm (λx3=>([(26,.d (.bool (x3)))]:Fr)) (λx3=>([]:List (Nat×Blk))) [26] [2,3] Q (λz4 hm=>?_) (λx3 hm=>?_)
 ·refine TG (SA TK Q (BE hm λr5 hr5 hm=>SX Q Q (RN Q Q (SC (.d _) SN) (dC hr5)) (SA TK Q (SB TK Q (λq6 hq6=>?_)))));cases q6
  ·replace hm:=JB hq6 hm;refine SA TK Q (SA TK Q (BE hm λr7 hr7 hm=>SX Q Q (RN Q Q (SC (.d _) (SC (.d _) SN)) (jV hr7)) (SA TK Q (SA TK Q (TN (WT ?_))))));exact⟨_,[0,1],(SJ hm),Q,k0,Q⟩
  replace hm:=JA hq6 hm;iterate 5 (refine SA TK Q ?_)
  refine TN (WT ?_);exact⟨_,[0,1],(SJ hm),Q,k0,Q⟩
 refine WN [2,3,26] Q Q ?_;refine TC _ Q (λh8=>?_) (λh8=>?_)
 ·replace hm:=JA h8 hm;refine RS (SA TK Q (SA TK Q (TN (WN [4,5] Q Q (TR (WR ?_))))));obtain⟨rfl,rfl⟩:=Prod.mk.inj (Option.some.inj hm);exact EndsT.two Q (.d _) (.refl _) (.d _) (.refl _)
 replace hm:=JB h8 hm;refine TS (WT (WN [2,3] Q Q (RS (s_litO (f:=(D.int .u64)) 2 [.const (Value.int IntKind.u64 0),.const (Value.int IntKind.u64 1)] ([(0:Int),(1:Int)]:List Int) TK Q Q Q pM Q Q Q Q Q (SA TK Q (TN (WN [2,3,6] Q Q (rI 1 Q Q Q Q Q ?_))))))));refine rI 0 Q Q Q Q Q (RS (SA TK Q (SA TK Q (TN (WN [2,6,7] Q Q ?_)))));refine aM hm (λb9=>([(6,.msl 2 1 0 b9.length)]:Fr)) (λb9=>([(2,.flat 39 1 (b9.map (D.int .u64)))]:List (Nat×Blk))) [6] [2,7] Q (λz10 hm=>?_) (λb9 hm=>?_)
 ·refine RS (SA TK Q (SA TK Q (SX Q Q (bM TK Q Q Q) (SA TK Q (TN (WN [2,6,7,30,31,32] Q Q (TB (cB hm (λ(x14,b15)=>([(6,.msl 2 1 0 b15.length),(32,.d (.int .i64 x14))]:Fr)) (λ(x14,b15)=>([(2,.flat 39 1 (b15.map (D.int .u64)))]:List (Nat×Blk))) [6,32] [2,7,30,31] [0,1,2] Q k0 Q Q Q Q Q (λs z16 hm hz16=>?_)))))))));obtain⟨x14,b15⟩:=s;refine WN [2,6,7,30,31,32] Q Q (RS (SA TK Q (TN (WN [2,6,7,30,31,32,33] Q Q (TQ ?_)))));refine TC _ Q (λh17=>?_) (λh17=>?_)
  ·replace hm:=JT h17 hm;refine TS (WT (WN [2,6,7,30,31,32] Q Q (TQ (TB (RS (VE hm λe18 he18 hm=>SX Q Q (cX TK Q Q Q Q he18) (SA TK Q ?_)))))));refine cI 3 Q Q aT Q (SA TK Q (TN (WN [2,6,7,9,30,31,32] Q Q (aK follows  ?_))));iterate 3 (refine DA [0,1,2,3] TK Q ?_)
   refine VE hm λe19 he19 hm=>DX [0,1,2,3] Q Q (jL TK Q Q Q Q he19 Q) (DX [0,1,2,3] Q Q (mA TK Q Q Q Q he19.2 Q) ?_);iterate 3 (refine DA [0,1,2,3] TK Q ?_)
   refine BE hm λr20 hr20 hm=>DX [0,1,2,3] Q Q (kW (ds:=[.int .i64 e18.lo]) Q Q Q Q ((dW hr20).retD)) ?_;iterate 2 (refine DA [0,1,2,3] TK Q ?_)
   refine GE hm λg21 hm=>DX [0,1,2,3] Q Q (bH Q Q Q Q g21) (GE hm λg22 hm=>DX [0,1,2,3] Q Q (bH Q Q Q Q g22) (GE hm λg23 hm=>DX [0,1,2,3] Q Q (sI Q Q Q Q g23) ?_));refine DT ?_ (by kernel_rfl);refine SA TK Q (TN (WN [2,6,7,9,10,30,31,32] Q Q (aK follows  ?_)));iterate 3 (refine DA [0,1,2,3] TK Q ?_)
   refine VE hm λe24 he24 hm=>DX [0,1,2,3] Q Q (jL TK Q Q Q Q he24 Q) (DX [0,1,2,3] Q Q (mA TK Q Q Q Q he24.2 Q) ?_);iterate 3 (refine DA [0,1,2,3] TK Q ?_)
   refine BE hm λr25 hr25 hm=>DX [0,1,2,3] Q Q (kW (ds:=[.int .i64 e18.hi]) Q Q Q Q ((dW hr25).retD)) ?_;iterate 2 (refine DA [0,1,2,3] TK Q ?_)
   refine GE hm λg26 hm=>DX [0,1,2,3] Q Q (bH Q Q Q Q g26) (GE hm λg27 hm=>DX [0,1,2,3] Q Q (bH Q Q Q Q g27) (GE hm λg28 hm=>DX [0,1,2,3] Q Q (sI Q Q Q Q g28) ?_));refine DT ?_ (by kernel_rfl);refine SA TK Q (TN (WN [2,6,7,10,11,30,31,32] Q Q (TG (SA TK Q (SA TK Q (SA TK Q (SX Q Q (x_arK Q Q Q Q) (SX Q Q (fF [.tmp 67] TK Q Q pM Q Q Q Q Q) (GE hm λg29 hm=>gV (f:=(D.int .u64)) ([(IntKind.u64.wrap ((IntKind.u64.wrap (e19 * (2 ^ (min ((r20 - e18.var) - (1:Int)).toNat IntKind.u64.bits))))+(IntKind.u64.wrap (e24 * (2 ^ (min ((r25 - e18.var) - (1:Int)).toNat IntKind.u64.bits))))))]:List Int) TK Q Q pM Q Q Q Q Q (λh=>absurd h (zQV _)) Q fK g29 Q Q ?_)))))))));refine SA TK Q (TN (WK (WT (WN [2,6,7,30,31,32] Q Q (TG (GE hm λg30 hm=>SX Q Q (bH Q Q Q Q g30) (SA TK Q ?_)))))));refine TN (WT ?_);exact⟨_,[0,1,2],(SJ hm),Q,k0,Q⟩
  replace hm:=JF h17 hm;refine bI (WX (IE hm λv31 hm hz=>?_));rw [hz16 _ hz] at hm;refine WX (WH (WT ?_));exact⟨_,[0,1,2],(SJ hm),Q,k0,Q⟩
 refine WN [2,6,7] Q Q (aK follows  ?_);iterate 3 (refine DA [0,1,2] TK Q ?_)
 refine VE hm λe32 he32 hm=>DX [0,1,2] Q Q (jL TK Q Q Q Q he32 Q) (DX [0,1,2] Q Q (mA TK Q Q Q Q he32.2 Q) ?_);iterate 3 (refine DA [0,1,2] TK Q ?_)
 refine BE hm λr33 hr33 hm=>DX [0,1,2] Q Q (kW (ds:=[.int .i64 p0.root]) Q Q Q Q ((dW hr33).retD)) (GE hm λg34 hm=>DX [0,1,2] Q Q (sI Q Q Q Q g34) ?_);refine DT ?_ (by kernel_rfl);refine SA TK Q (SA TK Q (TN (WN [4,5] Q Q (TR ?_))));obtain⟨rfl,rfl⟩:=Prod.mk.inj (Option.some.inj hm);exact EndsT.two Q (.d _) (.refl _) (.d _) (.refl _)
theorem pH {p0:Diagram} {p1:Int} {r0:(List Bool)} {r1:Bool} (hm:jI p0 p1=some (r0,r1)):RetT Try.prog 15 [p0.enc,.int .i64 p1] [.sl 1 (r0.map D.bool),.bool (r1)]:=by
 refine .of (mv:=λ_=>false) (dJ wK Try.func15 Q Try.ntmps15 Q Q (λwX gX=>?_));unfold jI at hm;refine WN [0,1] Q Q (RS (cS 0 Q Q Q (SA TK Q (SA TK Q (TN (WN [1,2] Q Q (TQ ?_)))))));refine aM hm (λx1=>([(30,.d (.bool (x1)))]:Fr)) (λx1=>([]:List (Nat×Blk))) [30] [1,2] Q (λz2 hm=>?_) (λx1 hm=>?_)
 ·refine TG (SA TK Q (SA TK Q (SB TK Q (λq3 hq3=>?_))));cases q3
  ·replace hm:=JF hq3 hm;refine SA TK Q (SA TK Q (SA TK Q (SB TK Q (λq4 hq4=>?_))));cases q4
   ·replace hm:=JF hq4 hm;refine SA TK Q (BE hm λr5 hr5 hm=>SX Q Q (RN Q Q (SC (.d _) SN) (dC hr5)) (SA TK Q (SA TK Q (SB TK Q (λq6 hq6=>?_)))));cases q6
    ·replace hm:=JB hq6 hm;refine SA TK Q (SA TK Q (BE hm λr7 hr7 hm=>SX Q Q (RN Q Q (SC (.d _) (SC (.d _) SN)) (jV hr7)) (SA TK Q (SA TK Q (SB TK Q (λq8 hq8=>?_))))));cases q8
     ·replace hm:=JB hq8 hm;iterate 4 (refine SA TK Q ?_)
      refine TN (WT ?_);exact⟨_,[0],(SJ hm),Q,k0,Q⟩
     replace hm:=JA hq8 hm;iterate 4 (refine SA TK Q ?_)
     refine TN (WT ?_);exact⟨_,[0],(SJ hm),Q,k0,Q⟩
    replace hm:=JA hq6 hm;iterate 10 (refine SA TK Q ?_)
    refine TN (WT ?_);exact⟨_,[0],(SJ hm),Q,k0,Q⟩
   replace hm:=JT hq4 hm;iterate 15 (refine SA TK Q ?_)
   refine TN (WT ?_);exact⟨_,[0],(SJ hm),Q,k0,Q⟩
  replace hm:=JT hq3 hm;iterate 19 (refine SA TK Q ?_)
  refine TN (WT ?_);exact⟨_,[0],(SJ hm),Q,k0,Q⟩
 refine WN [1,2,30] Q Q ?_;refine TC _ Q (λh9=>?_) (λh9=>?_)
 ·replace hm:=JA h9 hm;refine RS (SA TK Q (SA TK Q (TN (c_wk 4 [some 1] Q (WN [4,5] Q Q (TR (WR ?_)))))));obtain⟨rfl,rfl⟩:=Prod.mk.inj (Option.some.inj hm);exact EndsT.two Q (.d _) (.refl _) (.d _) (.refl _)
 replace hm:=JB h9 hm;refine TS (WT (WN [1,2] Q Q (RS (SA TK Q (GE hm λg10 hm=>wY (f:=D.bool) (x:=false) 1 TK Q Q Q wU Q Q Q Q Q g10 Q (SA TK Q (TN ?_)))))));refine WN [2,6] Q Q (RS (SA TK Q (SA TK Q (SA TK Q (TN (WN [2,6,7] Q Q ?_))))));refine aM hm (λb11=>([(6,.msl 1 1 0 b11.length)]:Fr)) (λb11=>([(1,.flat 4 1 (b11.map D.bool))]:List (Nat×Blk))) [6] [] Q (λz12 hm=>?_) (λb11 hm=>?_)
 ·refine TB (cB hm (λ(at16,b17)=>([(6,.msl 1 1 0 b17.length),(7,.d (.int .i64 at16))]:Fr)) (λ(at16,b17)=>([(1,.flat 4 1 (b17.map D.bool))]:List (Nat×Blk))) [6,7] [2] [0,1] Q k0 Q Q Q Q Q (λs z18 hm hz18=>?_));obtain⟨at16,b17⟩:=s;refine WN [2,6,7] Q Q (TQ (RS (SA TK Q (SA TK Q (TN (WN [2,6,7,36] Q Q ?_))))));refine TC _ Q (λh19=>?_) (λh19=>?_)
  ·replace hm:=JT h19 hm;refine TS (WT (WN [2,6,7] Q Q (TB (RS (SA TK Q (SA TK Q (SA TK Q (GE hm λg20 hm=>SX Q Q (bH Q Q Q Q g20) (VE hm λe21 he21 hm=>?_)))))))));refine SX Q Q (cX TK Q Q Q Q he21) (SA TK Q (cI 2 Q Q aT Q (SA TK Q (TN (WN [2,6,8] Q Q (RS (SA TK Q (SA TK Q (SA TK Q (TN ?_))))))))));refine WN [2,6,8,45] Q Q ?_;refine TC _ Q (λh22=>?_) (λh22=>?_)
   ·replace hm:=fR h22 hm;refine TG (SA TK Q (SA TK Q (SA TK Q (TN (WK (WT ?_))))));exact⟨_,[0,1],(SJ hm),Q,k0,Q⟩
   replace hm:=fS h22 hm;refine RS (SA TK Q (SA TK Q (SA TK Q (VE hm λe23 he23 hm=>SX Q Q (jL TK Q Q Q Q he23 Q) (wW (x':=true) TK Q Q Q Q Q he23.2 Q Q Q (sX 6 (b17.set e21.var.toNat true).length Q List.length_set.symm (sX 48 (b17.set e21.var.toNat true).length Q List.length_set.symm (TN (WN [2,6,8] Q Q ?_)))))))));refine TG (SA TK Q (SA TK Q (SA TK Q (TN (WK (WT ?_))))));exact⟨_,[0,1],(SJ hm),Q,k0,Q⟩
  replace hm:=JF h19 hm;refine bI (WX (IE hm λv24 hm hz=>?_));rw [hz18 _ hz] at hm;refine WX (WH (WT ?_));exact⟨_,[0,1],(SJ hm),Q,k0,Q⟩
 refine WN [6] Q Q (RS (SA TK Q (SA TK Q (SA TK Q (TN (WN [4,5] Q Q (TR ?_)))))));obtain⟨rfl,rfl⟩:=Prod.mk.inj (Option.some.inj hm);exact EndsT.two Q (kN Q) (.refl _) (.d _) (.refl _)
theorem mT {p0:Diagram} {p1:Diagram} {r:Bool} (hm:iA p0 p1=some r):RetN Try.prog 13 [p0.enc,p1.enc] (.bool (r)):=by
 refine .unit (aR wL Try.func13 Q Try.ntmps13 Q Q (λwX gX=>?_)) Q;unfold iA at hm;refine WN [0,1] Q Q (RS (cS 0 Q Q Q (cS 1 Q Q Q (SA TK Q (TN (WN [2,3] Q Q (TQ ?_)))))));refine eX [(19,.d (.bool (((!(decide ((p0.nodes.length:Int)=(p1.nodes.length:Int))))||(!(decide (p0.root=p1.root)))))))] [19] [2,3] Q ?_ ?_
 ·refine TG (SA TK Q (SA TK Q (SX Q Q (bM TK Q Q Q) (SA TK Q (SA TK Q (SX Q Q (bM TK Q Q Q) (SA TK Q (SB TK Q (λq1 hq1=>?_)))))))));cases q1
  ·iterate 6 (refine SA TK Q ?_)
   refine TN (WT ?_);exact⟨[0,1],Q,k0,bN (aP (aQ (by simp [hq1])) Q) Q⟩
  iterate 6 (refine SA TK Q ?_)
  refine TN (WT ?_);exact⟨[0,1],Q,k0,bN (aP (aQ (by simp [hq1])) Q) Q⟩
 refine WN [2,3,19] Q Q ?_;refine TC _ Q (λh2=>?_) (λh2=>?_)
 ·replace hm:=JA h2 hm;refine RS (SA TK Q (TN (WN [4] Q Q (TR (WR ?_)))));obtain rfl:=OJ hm;exact EndsS.one _ Q (.d _) (.refl _)
 replace hm:=JB h2 hm;refine TS (WT (WN [2,3] Q Q ?_));refine bY hm (λ_=>([]:Fr)) (λ_=>([]:List (Nat×Blk))) [] [] Q (λz3 hm hz3=>?_) (λj hm=>?_)
 ·refine RS (SA TK Q (SA TK Q (SX Q Q (bM TK Q Q Q) (SA TK Q (TN (WN [2,3,22,23] Q Q (TB (cB hm (λx5=>([(23,.d (.int .i64 x5))]:Fr)) (λx5=>([]:List (Nat×Blk))) [23] [2,3,22] [0,1] Q k0 Q Q Q Q Q (λx5 z6 hm hz6=>WN [2,3,22,23] Q Q ?_)))))))));refine RS (SA TK Q (TN (WN [2,3,22,23,24] Q Q (TQ ?_))));refine TC _ Q (λh7=>?_) (λh7=>?_)
  ·replace hm:=JT h7 hm;refine TS (WT (WN [2,3,22,23] Q Q (TQ (TB (RS (SA TK Q (SA TK Q (TN (WN [2,3,5,22,23] Q Q ?_)))))))));refine aK follows  ?_;iterate 3 (refine DA [0,1] TK Q ?_)
   refine VE hm λe8 he8 hm=>DX [0,1] Q Q (cX TK Q Q Q Q he8) ?_;iterate 4 (refine DA [0,1] TK Q ?_)
   refine VE hm λe9 he9 hm=>DX [0,1] Q Q (cX TK Q Q Q Q he9) (DA [0,1] TK Q (GE hm λg10 hm=>DX [0,1] Q Q (wS Q Q Q g10.1 g10.2) ?_));refine DT ?_ (by kernel_rfl);refine TN (WN [2,3,22,23,36] Q Q ?_);refine TC _ Q (λh12=>?_) (λh12=>?_)
   ·replace hm:=fR h12 hm;refine RS (SA TK Q (TN (WN [4] Q Q (TR (WB (WR (IE hm λv13 hm hz=>?_)))))));rw [hz6 _ hz] at hm;refine WR (WB (IE hm λv14 hm hz=>?_));rw [hz3 _ hz] at hm;refine WR ?_;obtain rfl:=OJ hm;exact EndsS.one _ Q (.d _) (.refl _)
   replace hm:=fS h12 hm;refine TS (WK (WT (WN [2,3,22,23] Q Q (TG (GE hm λg15 hm=>SX Q Q (bH Q Q Q Q g15) (SA TK Q (TN ?_)))))));refine WT ?_;exact⟨_,[0,1],(SJ hm),Q,k0,Q⟩
  replace hm:=JF h7 hm;refine bI (WX (IE hm λv16 hm hz=>?_));rw [hz6 _ hz] at hm;refine WX (WH (WT ?_));exact⟨_,[0,1],(SJ hm),Q,k0,Q⟩
 refine WN [] Q Q (RS (SA TK Q (TN (WN [4] Q Q (TR ?_)))));obtain rfl:=OJ hm;exact EndsS.one _ Q (.d _) (.refl _)
theorem hJ  {r:Bool} (hm:dA=some r):RetN Try.prog 10 [] (.bool (r)):=by
 refine .unit (aR wN Try.func10 Q Try.ntmps10 Q Q (λwX gX=>?_)) Q;unfold dA at hm;refine WN [] Q Q (RS (SA TK Q (TN (WN [] Q Q (RS (BE hm λr1 hr1 hm=>SX Q Q (RD Q Q Q (kZ hr1)) (BE hm λr2 hr2 hm=>?_)))))));refine SX Q Q (RD Q Q Q (kZ hr2)) (SX Q Q (x_litE (f:=Expr.encR) (xs:=([r1,r2]:List Expr)) [.tmp 8,.tmp 9] TK Q Q kM Q (evD_of Q (mJ (Expr.encR_eq _) (mJ (Expr.encR_eq _) tZ))) Q (rX Expr.encR_cells) Q) (SX Q Q (aZ Q wZ kM Q Q Q Q) (BE hm λr3 hr3 hm=>?_)));obtain⟨r4,r5⟩:=r3;refine SX Q Q (dF Q Q Q (uF hr3)) (SA TK Q (SA TK Q (SA TK Q (cI 0 Q Q bE Q (eY 0 [some 3,none] Q Q (SA TK Q (SA TK Q (TN (WN [1,2] Q Q (RS (SA TK Q ?_)))))))))));refine BE hm λr6 hr6 hm=>?_;obtain⟨r7,r8⟩:=r6;refine SX Q Q (dF Q Q Q (pI hr6)) ?_;iterate 5 (refine SA TK Q ?_)
 refine TN (WN [1,2,3,4] Q Q (RS (SA TK Q (BE hm λr9 hr9 hm=>?_))));obtain⟨r10,r11⟩:=r9;refine SX Q Q (dF Q Q Q (pH hr9)) ?_;iterate 5 (refine SA TK Q ?_)
 refine TN (WN [1,2,3,4,5,6] Q Q ?_);refine aM hm (λx12=>([(0,.d (.bool (x12)))]:Fr)) (λx12=>([]:List (Nat×Blk))) [0] [] Q (λz13 hm=>?_) (λx12 hm=>?_)
 ·refine TG (SA TK Q (SA TK Q (SB TK Q (λq14 hq14=>?_))));cases q14
  ·replace hm:=JF hq14 hm;iterate 38 (refine SA TK Q ?_)
   refine TN (WT ?_);exact⟨_,[0],(SJ hm),Q,k0,Q⟩
  replace hm:=JT hq14 hm;refine SA TK Q (SA TK Q (SA TK Q (SB TK Q (λq15 hq15=>?_))));cases q15
  ·replace hm:=JF hq15 hm;iterate 34 (refine SA TK Q ?_)
   refine TN (WT ?_);exact⟨_,[0],(SJ hm),Q,k0,Q⟩
  replace hm:=JT hq15 hm;refine SA TK Q (SA TK Q (SA TK Q (SB TK Q (λq16 hq16=>?_))));cases q16
  ·replace hm:=JF hq16 hm;iterate 30 (refine SA TK Q ?_)
   refine TN (WT ?_);exact⟨_,[0],(SJ hm),Q,k0,Q⟩
  replace hm:=JT hq16 hm;refine SA TK Q (SA TK Q (SB TK Q (λq17 hq17=>?_)));cases q17
  ·replace hm:=JB hq17 hm;iterate 27 (refine SA TK Q ?_)
   refine TN (WT ?_);exact⟨_,[0],(SJ hm),Q,k0,Q⟩
  replace hm:=JA hq17 hm;refine SA TK Q (SX Q Q (bM TK Q Q Q) (SA TK Q (SA TK Q (SB TK Q (λq18 hq18=>?_)))));cases q18
  ·replace hm:=JF hq18 hm;iterate 22 (refine SA TK Q ?_)
   refine TN (WT ?_);exact⟨_,[0],(SJ hm),Q,k0,Q⟩
  replace hm:=JT hq18 hm;refine SA TK Q (VE hm λe19 he19 hm=>SX Q Q (cX TK Q Q Q Q he19) (SA TK Q (SA TK Q (SB TK Q (λq20 hq20=>?_)))));cases q20
  ·replace hm:=JB hq20 hm;iterate 17 (refine SA TK Q ?_)
   refine TN (WT ?_);exact⟨_,[0],(SJ hm),Q,k0,Q⟩
  replace hm:=JA hq20 hm;refine SA TK Q (VE hm λe21 he21 hm=>SX Q Q (cX TK Q Q Q Q he21) (SA TK Q (SA TK Q (SB TK Q (λq22 hq22=>?_)))));cases q22
  ·replace hm:=JB hq22 hm;iterate 12 (refine SA TK Q ?_)
   refine TN (WT ?_);exact⟨_,[0],(SJ hm),Q,k0,Q⟩
  replace hm:=JA hq22 hm;refine SA TK Q (SX Q Q (aZ Q oE aT Q Q Q Q) (SX Q Q (aZ Q oE aT Q Q Q Q) (SX Q Q (fF [.tmp 55,.tmp 56] TK Q Q aT Q Q Q Q Q) (SX Q Q (aZ Q eH bE Q Q Q Q) (BE hm λr23 hr23 hm=>SX Q Q (RN Q Q (SC (.d _) (SC (.d _) SN)) (mT hr23)) (SA TK Q (SB TK Q (λq24 hq24=>?_))))))));cases q24
  ·replace hm:=JB hq24 hm;iterate 4 (refine SA TK Q ?_)
   refine TN (WT ?_);exact⟨_,[0],(SJ hm),Q,k0,Q⟩
  replace hm:=JA hq24 hm;refine SA TK Q (BE hm λr25 hr25 hm=>SX Q Q (RN Q Q (SC (.d _) SN) (dC hr25)) (SA TK Q (SA TK Q (TN (WT ?_)))));exact⟨_,[0],(SJ hm),Q,k0,Q⟩
 refine WN [0] Q Q (TR ?_);obtain rfl:=OJ hm;exact EndsS.one _ Q (.d _) (.refl _)
theorem jY:∀ (fu:Nat) {p0:Diagram} {p1:Int} {p2:(List Int)} {r:(List Int)} (hm:bA fu p0 p1 p2=some r),Ret Try.prog 44 [.flat 3 1 (p2.map (D.int .i64))] (λj=>Nat.beq j 0) [.d (p0.enc),.d (.int .i64 p1),.msl 0 1 0 p2.length] (.msl 0 1 0 r.length) [.flat 3 1 (r.map (D.int .i64))]:=by
 intro fu
 induction fu with
 | zero=>
  intro p0 p1 p2 r hm;unfold bA at hm;cases hm
 | succ fu ih=>
  intro p0 p1 p2 r hm;refine eG vX Try.func44 Q Try.ntmps44 Q Q (λwX gX=>?_);unfold bA at hm;refine WN [0,1,2] Q Q (RS (cS 1 Q Q Q (s_nilO (f:=(D.int .i64)) 2 3 1 Q Q Q (TN (WN [1,2,3] Q Q (TQ (RS (SA TK Q (SA TK Q ?_)))))))));refine TN (WN [1,2,3,10] Q Q ?_);refine TC _ Q (λh1=>?_) (λh1=>?_)
  ·replace hm:=JT h1 hm;refine RS (SA TK Q (SA TK Q (TN (WN [6] Q Q (TR (WR ?_))))));obtain rfl:=OJ hm;exact⟨_,[0],res Q,by decide,(kB Q),Q,Q⟩
  replace hm:=JF h1 hm;refine TS (WT (WN [1,2,3] Q Q ?_));refine bY hm (λ_=>([]:Fr)) (λ_=>([]:List (Nat×Blk))) [] [1,2,3] Q (λz2 hm hz2=>?_) (λj hm=>?_)
  ·refine RS (SA TK Q (SA TK Q (SA TK Q (TN (WN [1,2,3,12,13,14] Q Q (TB (cB hm (λx4=>([(14,.d (.int .i64 x4))]:Fr)) (λx4=>([]:List (Nat×Blk))) [14] [1,2,3,12,13] [0,1,2] Q (kB Q) Q Q Q Q Q (λx4 z5 hm hz5=>WN [1,2,3,12,13,14] Q Q (RS (SA TK Q ?_))))))))));refine TN (WN [1,2,3,12,13,14,15] Q Q (TQ ?_));refine TC _ Q (λh6=>?_) (λh6=>?_)
   ·replace hm:=JT h6 hm;refine TS (WT (WN [1,2,3,12,13,14] Q Q (TQ (TB (RS (VE hm λe7 he7 hm=>SX Q Q (jL TK Q Q Q Q he7 Q) (SX Q Q (mA TK Q Q Q Q he7.2 Q) ?_)))))));refine SA TK Q (TN (WN [1,2,3,8,12,13,14] Q Q (RS (SA TK Q (SA TK Q (SA TK Q (TN (WN [1,2,3,12,13,14,20] Q Q ?_))))))));refine TC _ Q (λh8=>?_) (λh8=>?_)
    ·replace hm:=JT h8 hm;refine RS (SA TK Q (SA TK Q (TN (WN [6] Q Q (TR (WB (WR (IE hm λv9 hm hz=>?_))))))));rw [hz5 _ hz] at hm;refine WR (WB (IE hm λv10 hm hz=>?_));rw [hz2 _ hz] at hm;refine WR ?_;obtain rfl:=OJ hm;exact⟨_,[0],res Q,by decide,(kB Q),Q,Q⟩
    replace hm:=JF h8 hm;refine TS (WK (WT (WN [1,2,3,12,13,14] Q Q (TG (GE hm λg11 hm=>SX Q Q (bH Q Q Q Q g11) (SA TK Q (TN ?_)))))));refine WT ?_;exact⟨_,[0,1,2],(SJ hm),Q,(kB Q),Q⟩
   replace hm:=JF h6 hm;refine bI (WX (IE hm λv12 hm hz=>?_));rw [hz5 _ hz] at hm;refine WX (WH (WT ?_));exact⟨_,[0,1,2],(SJ hm),Q,(kB Q),Q⟩
  refine WN [1,2,3] Q Q (aK follows  ?_);iterate 4 (refine DA [0,1,2] TK Q ?_)
  refine GE hm λg13 hm=>DX [0,1,2] Q Q (bH Q Q Q Q g13) (VE hm λe14 he14 hm=>DX [0,1,2] Q Q (cX TK Q Q Q Q he14) ?_);iterate 3 (refine DA [0,1,2] TK Q ?_)
  refine DT ?_ (by kernel_rfl);refine BE hm λr15 hr15 hm=>?_;refine bV [0] (λj=>Nat.beq j 0) Q Q Q (by decide) Q Q Q Q (ih hr15) Q Q Q ?_;refine SA TK Q (TN (WN [1,2,3] Q Q (aK follows  ?_)));iterate 4 (refine DA [0,1,2] TK Q ?_)
  refine GE hm λg16 hm=>DX [0,1,2] Q Q (bH Q Q Q Q g16) (VE hm λe17 he17 hm=>DX [0,1,2] Q Q (cX TK Q Q Q Q he17) ?_);iterate 3 (refine DA [0,1,2] TK Q ?_)
  refine DT ?_ (by kernel_rfl);refine BE hm λr18 hr18 hm=>?_;refine bV [0] (λj=>Nat.beq j 0) Q Q Q (by decide) Q Q Q Q (ih hr18) Q Q Q ?_;refine SA TK Q (TN (WN [1,2] Q Q (RS (SA TK Q (SA TK Q (SX Q Q (fF [.tmp 44] TK Q Q gS Q Q Q Q Q) (GE hm λg19 hm=>gV (f:=(D.int .i64)) ([p1]:List Int) TK Q Q gS Q Q Q Q Q (λ_=>Q) Q fK g19 Q Q (SA TK Q ?_))))))));refine TN (WN [6] Q Q (TR ?_));obtain rfl:=OJ hm;exact⟨_,[0],res Q,by decide,(kB Q),Q,Q⟩
theorem kS {p0:Diagram} {p1:Int} {p2:(List Int)} {r:(List Int)} (hm:dG p0 p1 p2=some r):Ret Try.prog 44 [.flat 3 1 (p2.map (D.int .i64))] (λj=>Nat.beq j 0) [.d (p0.enc),.d (.int .i64 p1),.msl 0 1 0 p2.length] (.msl 0 1 0 r.length) [.flat 3 1 (r.map (D.int .i64))]:=jY aN hm
theorem gY {p0:Diagram} {r:Bool} (hm:cD p0=some r):RetN Try.prog 20 [p0.enc] (.bool (r)):=by
 refine .unit (aR wH Try.func20 Q Try.ntmps20 Q Q (λwX gX=>?_)) Q;unfold cD at hm;refine WN [0] Q Q (RS (cS 0 Q Q Q (SA TK Q (TN (WN [1] Q Q (TQ (RS (SA TK Q (SA TK Q ?_)))))))));refine SX Q Q (bM TK Q Q Q) (SA TK Q (TN (WN [1,14] Q Q ?_)));refine TC _ Q (λh1=>?_) (λh1=>?_)
 ·replace hm:=JT h1 hm;refine eX [(2,.d (.bool (((decide (p0.root=(0:Int)))||(decide (p0.root=(1:Int)))))))] [2] [] Q ?_ ?_
  ·refine TG (SA TK Q (SA TK Q (SA TK Q (SB TK Q (λq2 hq2=>?_)))));cases q2
   ·iterate 5 (refine SA TK Q ?_)
    refine TN (WT ?_);exact⟨[0],Q,k0,bN (aP (aQ (by simp [hq2])) Q) Q⟩
   iterate 5 (refine SA TK Q ?_)
   refine TN (WT ?_);exact⟨[0],Q,k0,bN (aP (aQ (by simp [hq2])) Q) Q⟩
  refine WN [2] Q Q (TR (WR ?_));obtain rfl:=OJ hm;exact EndsS.one _ Q (.d _) (.refl _)
 replace hm:=JF h1 hm;refine TS (WT (WN [1] Q Q (TQ ?_)));refine aM hm (λx3=>([(35,.d (.bool (x3)))]:Fr)) (λx3=>([]:List (Nat×Blk))) [35] [1] Q (λz4 hm=>?_) (λx3 hm=>?_)
 ·refine TG (SA TK Q (SA TK Q (SX Q Q (bM TK Q Q Q) (SA TK Q (SB TK Q (λq5 hq5=>?_))))));cases q5
  ·replace hm:=JF hq5 hm;iterate 4 (refine SA TK Q ?_)
   refine SX Q Q (bM TK Q Q Q) (GE hm λg6 hm=>SX Q Q (bH Q Q Q Q g6) (SA TK Q (SA TK Q (TN (WT ?_)))));exact⟨_,[0],(SJ hm),Q,k0,Q⟩
  replace hm:=JT hq5 hm;iterate 8 (refine SA TK Q ?_)
  refine TN (WT ?_);exact⟨_,[0],(SJ hm),Q,k0,Q⟩
 refine WN [1,35] Q Q ?_;refine TC _ Q (λh7=>?_) (λh7=>?_)
 ·replace hm:=JA h7 hm;refine RS (SA TK Q (TN (WN [2] Q Q (TR (WR ?_)))));obtain rfl:=OJ hm;exact EndsS.one _ Q (.d _) (.refl _)
 replace hm:=JB h7 hm;refine TS (WT (WN [1] Q Q ?_));refine bY hm (λ_=>([]:Fr)) (λ_=>([]:List (Nat×Blk))) [] [1] Q (λz8 hm hz8=>?_) (λj hm=>?_)
 ·refine RS (SA TK Q (SA TK Q (SX Q Q (bM TK Q Q Q) (SA TK Q (TN (WN [1,37,38,39] Q Q (TB (cB hm (λx10=>([(39,.d (.int .i64 x10))]:Fr)) (λx10=>([]:List (Nat×Blk))) [39] [1,37,38] [0] Q k0 Q Q Q Q Q (λx10 z11 hm hz11=>WN [1,37,38,39] Q Q ?_)))))))));refine RS (SA TK Q (TN (WN [1,37,38,39,40] Q Q (TQ ?_))));refine TC _ Q (λh12=>?_) (λh12=>?_)
  ·replace hm:=JT h12 hm;refine TS (WT (WN [1,37,38,39] Q Q ?_));refine bY hm (λ_=>([]:Fr)) (λ_=>([]:List (Nat×Blk))) [] [1,37,38,39] Q (λz13 hm hz13=>?_) (λj hm=>?_)
   ·refine TB (RS (SA TK Q (VE hm λe14 he14 hm=>SX Q Q (cX TK Q Q Q Q he14) (SA TK Q (cI 1 Q Q aT Q (SA TK Q (SA TK Q (TN ?_))))))));refine WN [1,3,4,37,38,39] Q Q (TQ ?_);refine eX [(58,.d (.bool (((decide (e14.var < (0:Int)))||((decide ((63:Int) < e14.var))||(decide (e14.lo=e14.hi)))))))] [58] [1,3,4,37,38,39] Q ?_ ?_
    ·refine TG (SA TK Q (SA TK Q (SA TK Q (SB TK Q (λq15 hq15=>?_)))));cases q15
     ·iterate 4 (refine SA TK Q ?_)
      refine SB TK Q (λq16 hq16=>?_);cases q16
      ·iterate 6 (refine SA TK Q ?_)
       refine TN (WT ?_);exact⟨[0,1],Q,k0,bN (aP (aQ (by simp [hq15,hq16])) Q) Q⟩
      iterate 6 (refine SA TK Q ?_)
      refine TN (WT ?_);exact⟨[0,1],Q,k0,bN (aP (aQ (by simp [hq15,hq16])) Q) Q⟩
     iterate 11 (refine SA TK Q ?_)
     refine TN (WT ?_);exact⟨[0,1],Q,k0,bN (aP (aQ (by simp [hq15])) Q) Q⟩
    refine WN [1,3,4,37,38,39,58] Q Q ?_;refine TC _ Q (λh17=>?_) (λh17=>?_)
    ·replace hm:=JA h17 hm;refine RS (SA TK Q (TN (WN [2] Q Q (TR (WR (WB (IE hm λv18 hm hz=>?_)))))));rw [hz13 _ hz] at hm;refine WR (IE hm λv19 hm hz=>?_);rw [hz11 _ hz] at hm;refine WR (WB (IE hm λv20 hm hz=>?_));rw [hz8 _ hz] at hm;refine WR ?_;obtain rfl:=OJ hm;exact EndsS.one _ Q (.d _) (.refl _)
    replace hm:=JB h17 hm;refine TS (WT (WN [1,3,4,37,38,39] Q Q ?_));refine bY hm (λ_=>([]:Fr)) (λ_=>([]:List (Nat×Blk))) [] [1,3,4,37,38,39] Q (λz21 hm hz21=>?_) (λj hm=>?_)
    ·refine RS ?_;iterate 4 (refine SA TK Q ?_)
     refine SX Q Q (fF [.tmp 60,.tmp 62] TK Q Q gS Q Q Q Q Q) (SX Q Q (bM (f:=(D.int .i64)) (xs:=([e14.lo,e14.hi]:List Int)) TK Q Q Q) (SA TK Q (TN (WN [1,3,4,37,38,39,63,64,65] Q Q (TB (cB hm (λx23=>([(65,.d (.int .i64 x23))]:Fr)) (λx23=>([]:List (Nat×Blk))) [65] [1,3,4,37,38,39,63,64] [0,1] Q k0 Q Q Q Q Q (λx23 z24 hm hz24=>WN [1,3,4,37,38,39,63,64,65] Q Q (RS ?_))))))));refine SA TK Q (TN (WN [1,3,4,37,38,39,63,64,65,66] Q Q (TQ ?_)));refine TC _ Q (λh25=>?_) (λh25=>?_)
     ·replace hm:=JT h25 hm;refine TS (WT (WN [1,3,4,37,38,39,63,64,65] Q Q (TQ (TB (RS (VE hm λe26 he26 hm=>SX Q Q (cX (f:=(D.int .i64)) (xs:=([e14.lo,e14.hi]:List Int)) TK Q Q Q Q he26) (SA TK Q (SA TK Q ?_))))))));refine TN (WN [1,3,4,6,37,38,39,63,64,65] Q Q ?_);refine aM hm (λx27=>([(92,.d (.bool (x27)))]:Fr)) (λx27=>([]:List (Nat×Blk))) [92] [1,3,4,37,38,39,63,64,65] Q (λz28 hm=>?_) (λx27 hm=>?_)
      ·refine fG follows  ?_;iterate 2 (refine DA [0,1] TK Q ?_)
       refine d_b [0,1] TK Q (λq29 hq29=>?_);cases q29
       ·replace hm:=JF hq29 hm;iterate 2 (refine DA [0,1] TK Q ?_)
        refine GE hm λg30 hm=>DX [0,1] Q Q (bH Q Q Q Q g30) ?_;iterate 2 (refine DA [0,1] TK Q ?_)
        refine d_b [0,1] TK Q (λq31 hq31=>?_);cases q31
        ·replace hm:=JF hq31 hm;iterate 2 (refine DA [0,1] TK Q ?_)
         refine d_b [0,1] TK Q (λq32 hq32=>?_);cases q32
         ·replace hm:=JF hq32 hm;iterate 12 (refine DA [0,1] TK Q ?_)
          refine DT ?_ (by kernel_rfl);refine TN (WT ?_);exact⟨_,[0,1],(SJ hm),Q,k0,Q⟩
         replace hm:=JT hq32 hm;iterate 3 (refine DA [0,1] TK Q ?_)
         refine GE hm λg33 hm=>DX [0,1] Q Q (bH Q Q Q Q g33) (VE hm λe34 he34 hm=>DX [0,1] Q Q (cX TK Q Q Q Q he34) ?_);iterate 7 (refine DA [0,1] TK Q ?_)
         refine DT ?_ (by kernel_rfl);refine TN (WT ?_);exact⟨_,[0,1],(SJ hm),Q,k0,Q⟩
        replace hm:=JT hq31 hm;iterate 15 (refine DA [0,1] TK Q ?_)
        refine DT ?_ (by kernel_rfl);refine TN (WT ?_);exact⟨_,[0,1],(SJ hm),Q,k0,Q⟩
       replace hm:=JT hq29 hm;iterate 21 (refine DA [0,1] TK Q ?_)
       refine DT ?_ (by kernel_rfl);refine TN (WT ?_);exact⟨_,[0,1],(SJ hm),Q,k0,Q⟩
      refine WN [1,3,4,37,38,39,63,64,65,92] Q Q ?_;refine TC _ Q (λh35=>?_) (λh35=>?_)
      ·replace hm:=JA h35 hm;refine RS (SA TK Q (TN (WN [2] Q Q (TR (WB (WR (IE hm λv36 hm hz=>?_)))))));rw [hz24 _ hz] at hm;refine WR (WB (IE hm λv37 hm hz=>?_));rw [hz21 _ hz] at hm;refine WR (WB (IE hm λv38 hm hz=>?_));rw [hz13 _ hz] at hm;refine WR (IE hm λv39 hm hz=>?_);rw [hz11 _ hz] at hm;refine WR (WB (IE hm λv40 hm hz=>?_));rw [hz8 _ hz] at hm;refine WR ?_;obtain rfl:=OJ hm;exact EndsS.one _ Q (.d _) (.refl _)
      replace hm:=JB h35 hm;refine TS (WK (WT (WN [1,3,4,37,38,39,63,64,65] Q Q (TG (GE hm λg41 hm=>SX Q Q (bH Q Q Q Q g41) (SA TK Q (TN ?_)))))));refine WT ?_;exact⟨_,[0,1],(SJ hm),Q,k0,Q⟩
     replace hm:=JF h25 hm;refine bI (WX (IE hm λv42 hm hz=>?_));rw [hz24 _ hz] at hm;refine WX (WH (WT ?_));exact⟨_,[0,1],(SJ hm),Q,k0,Q⟩
    refine WN [1,3,4,37,38,39] Q Q (RS (SA TK Q (SA TK Q (TN (WN [1,4,37,38,39,94,95] Q Q (TB (cB hm (λx44=>([(95,.d (.int .i64 x44))]:Fr)) (λx44=>([]:List (Nat×Blk))) [95] [1,4,37,38,39,94] [0,1] Q k0 Q Q Q Q Q (λx44 z45 hm hz45=>WN [1,4,37,38,39,94,95] Q Q (RS ?_)))))))));refine SA TK Q (TN (WN [1,4,37,38,39,94,95,96] Q Q (TQ ?_)));refine TC _ Q (λh46=>?_) (λh46=>?_)
    ·replace hm:=JT h46 hm;refine TS (WT (WN [1,4,37,38,39,94,95] Q Q (TQ (TB (RS (SA TK Q (SA TK Q (TN (WN [1,4,7,37,38,39,94,95] Q Q ?_)))))))));refine aK follows  ?_;iterate 3 (refine DA [0,1] TK Q ?_)
     refine VE hm λe47 he47 hm=>DX [0,1] Q Q (cX TK Q Q Q Q he47) ?_;iterate 2 (refine DA [0,1] TK Q ?_)
     refine GE hm λg48 hm=>DX [0,1] Q Q (wT Q Q Q g48.1 g48.2) ?_;refine DT ?_ (by kernel_rfl);refine TN (WN [1,4,37,38,39,94,95,104] Q Q ?_);refine TC _ Q (λh50=>?_) (λh50=>?_)
     ·replace hm:=JT h50 hm;refine RS (SA TK Q (TN (WN [2] Q Q (TR (WB (WR (IE hm λv51 hm hz=>?_)))))));rw [hz45 _ hz] at hm;refine WR (WB (WB (IE hm λv52 hm hz=>?_)));rw [hz13 _ hz] at hm;refine WR (IE hm λv53 hm hz=>?_);rw [hz11 _ hz] at hm;refine WR (WB (IE hm λv54 hm hz=>?_));rw [hz8 _ hz] at hm;refine WR ?_;obtain rfl:=OJ hm;exact EndsS.one _ Q (.d _) (.refl _)
     replace hm:=JF h50 hm;refine TS (WK (WT (WN [1,4,37,38,39,94,95] Q Q (TG (GE hm λg55 hm=>SX Q Q (bH Q Q Q Q g55) (SA TK Q (TN ?_)))))));refine WT ?_;exact⟨_,[0,1],(SJ hm),Q,k0,Q⟩
    replace hm:=JF h46 hm;refine bI (WX (IE hm λv56 hm hz=>?_));rw [hz45 _ hz] at hm;refine WX (WH (WK (WT ?_)));exact⟨_,[0],(SJ hm),Q,k0,Q⟩
   refine WN [1,37,38,39] Q Q (TG (GE hm λg57 hm=>SX Q Q (bH Q Q Q Q g57) (SA TK Q (TN (WT ?_)))));exact⟨_,[0],(SJ hm),Q,k0,Q⟩
  replace hm:=JF h12 hm;refine bI (WX (IE hm λv58 hm hz=>?_));rw [hz11 _ hz] at hm;refine WX (WH (WT ?_));exact⟨_,[0],(SJ hm),Q,k0,Q⟩
 refine WN [1] Q Q (RS (SA TK Q (SA TK Q (SA TK Q (uT (f:=(D.int .i64)) 1 3 1 Q (BE hm λr59 hr59 hm=>?_))))));refine sY [1] (λj=>Nat.beq j 0) Q Q Q (by decide) Q Q Q Q (kS hr59) (.cons (.refl _) (.cons (.refl _) (.cons (.nil _ _) .nil))) Q Q Q ?_;refine SA TK Q (TN (WN [1,8] Q Q ?_));refine bY hm (λ_=>([]:Fr)) (λ_=>([]:List (Nat×Blk))) [] [1,8] Q (λz60 hm hz60=>?_) (λj hm=>?_)
 ·refine RS (SA TK Q (SA TK Q (SA TK Q (TN (WN [1,8,111,112,113] Q Q (TB (cB hm (λx62=>([(113,.d (.int .i64 x62))]:Fr)) (λx62=>([]:List (Nat×Blk))) [113] [1,8,111,112] [0,1] Q k0 Q Q Q Q Q (λx62 z63 hm hz63=>WN [1,8,111,112,113] Q Q (RS (SA TK Q ?_))))))))));refine TN (WN [1,8,111,112,113,114] Q Q (TQ ?_));refine TC _ Q (λh64=>?_) (λh64=>?_)
  ·replace hm:=JT h64 hm;refine TS (WT (WN [1,8,111,112,113] Q Q (TQ (TB (RS (SA TK Q (VE hm λe65 he65 hm=>SX Q Q (jL TK Q Q Q Q he65 Q) ?_)))))));refine SX Q Q (mA TK Q Q Q Q he65.2 Q) (SA TK Q (SA TK Q (TN (WN [1,8,9,10,111,112,113] Q Q (RS (SA TK Q (SA TK Q (GE hm λg66 hm=>SX Q Q (bH Q Q Q Q g66) (SA TK Q ?_)))))))));refine TN (WN [1,8,111,112,113,121] Q Q ?_);refine TC _ Q (λh67=>?_) (λh67=>?_)
   ·replace hm:=fR h67 hm;refine RS (SA TK Q (TN (WN [2] Q Q (TR (WB (WR (IE hm λv68 hm hz=>?_)))))));rw [hz63 _ hz] at hm;refine WR (WB (IE hm λv69 hm hz=>?_));rw [hz60 _ hz] at hm;refine WR ?_;obtain rfl:=OJ hm;exact EndsS.one _ Q (.d _) (.refl _)
   replace hm:=fS h67 hm;refine TS (WK (WT (WN [1,8,111,112,113] Q Q (TG (GE hm λg70 hm=>SX Q Q (bH Q Q Q Q g70) (SA TK Q (TN ?_)))))));refine WT ?_;exact⟨_,[0,1],(SJ hm),Q,k0,Q⟩
  replace hm:=JF h64 hm;refine bI (WX (IE hm λv71 hm hz=>?_));rw [hz63 _ hz] at hm;refine WX (WH (WT ?_));exact⟨_,[0,1],(SJ hm),Q,k0,Q⟩
 refine WN [1,8] Q Q (RS ?_);iterate 4 (refine SA TK Q ?_)
 refine SX Q Q (bM TK Q Q Q) (SA TK Q (SA TK Q (TN (WN [2] Q Q (TR ?_)))));obtain rfl:=OJ hm;exact EndsS.one _ Q (.d _) (.refl _)
theorem lQ {p0:Diagram} {p1:(List Bool)} {r:Bool} (hm:cZ p0 p1=some r):RetN Try.prog 45 [p0.enc,.sl 1 (p1.map D.bool)] (.bool (r)):=by
 refine .unit (aR vW Try.func45 Q Try.ntmps45 Q Q (λwX gX=>?_)) Q;unfold cZ at hm;refine WN [0,1] Q Q (RS (cS 0 Q Q Q (SA TK Q (TN (WN [1,2] Q Q (RS (SA TK Q (SA TK Q (SA TK Q (TN ?_))))))))));refine WN [1,2,5] Q Q ?_;refine aM hm (λn1=>([(5,.d (.int .i64 n1))]:Fr)) (λn1=>([]:List (Nat×Blk))) [5] [] Q (λz2 hm=>?_) (λn1 hm=>?_)
 ·refine TB (cB hm (λn4=>([(5,.d (.int .i64 n4))]:Fr)) (λn4=>([]:List (Nat×Blk))) [5] [1,2] [0] Q k0 Q Q Q Q Q (λn4 z5 hm hz5=>WN [1,2,5] Q Q (TQ (RS (SA TK Q (SA TK Q (TN (WN [1,2,5,10] Q Q ?_))))))));refine TC _ Q (λh6=>?_) (λh6=>?_)
  ·replace hm:=JT h6 hm;refine TS (WT (WN [1,2,5] Q Q (TB (RS (SA TK Q (SA TK Q (SA TK Q (GE hm λg7 hm=>SX Q Q (bH Q Q Q Q g7) (VE hm λe8 he8 hm=>?_)))))))));refine SX Q Q (cX TK Q Q Q Q he8) (SA TK Q (cI 1 Q Q aT Q (SA TK Q (TN (WN [1,2,6] Q Q (RS (SA TK Q (SA TK Q (SA TK Q (TN ?_))))))))));refine WN [1,2,5,6] Q Q ?_;refine aM hm (λx9=>([(30,.d (.bool (x9)))]:Fr)) (λx9=>([]:List (Nat×Blk))) [30] [1,2,5,6] Q (λz10 hm=>?_) (λx9 hm=>?_)
   ·refine TG (SA TK Q (SA TK Q (SA TK Q (SX Q Q (bM TK Q Q Q) (SA TK Q (SB TK Q (λq11 hq11=>?_)))))));cases q11
    ·replace hm:=JF hq11 hm;iterate 6 (refine SA TK Q ?_)
     refine TN (WT ?_);exact⟨_,[0,1],(SJ hm),Q,k0,Q⟩
    replace hm:=JT hq11 hm;refine SA TK Q (SA TK Q (SA TK Q (VE hm λe12 he12 hm=>SX Q Q (cX TK Q Q Q Q he12) (SA TK Q (SA TK Q (TN (WT ?_)))))));exact⟨_,[0,1],(SJ hm),Q,k0,Q⟩
   refine WN [1,2,5,6,30] Q Q ?_;refine TC _ Q (λh13=>?_) (λh13=>?_)
   ·replace hm:=JA h13 hm;refine TG (SA TK Q (SA TK Q (SA TK Q (TN (WK (WT ?_))))));exact⟨_,[0],(SJ hm),Q,k0,Q⟩
   replace hm:=JB h13 hm;refine TS (WK (WT ?_));exact⟨_,[0],(SJ hm),Q,k0,Q⟩
  replace hm:=JF h6 hm;refine bI (WX (IE hm λv14 hm hz=>?_));rw [hz5 _ hz] at hm;refine WX (WH (WT ?_));exact⟨_,[0],(SJ hm),Q,k0,Q⟩
 refine WN [5] Q Q (RS (SA TK Q (SA TK Q (SA TK Q (TN (WN [4] Q Q (TR ?_)))))));obtain rfl:=OJ hm;exact EndsS.one _ Q (.d _) (.refl _)
theorem qQ {p0:Diagram} {p1:(List Bool)} {r:Bool} (hm:fZ p0 p1=some r):RetN Try.prog 21 [p0.enc,.sl 1 (p1.map D.bool)] (.bool (r)):=by
 refine .unit (aR wG Try.func21 Q Try.ntmps21 Q Q (λwX gX=>?_)) Q;unfold fZ at hm;refine WN [0,1] Q Q (RS (cS 0 Q Q Q (SA TK Q (TN (WN [1,2] Q Q (TQ (RS (SA TK Q ?_))))))));refine BE hm λr1 hr1 hm=>SX Q Q (RN Q Q (SC (.d _) SN) (dC hr1)) (SA TK Q (TN (WN [1,2,9] Q Q ?_)));refine TC _ Q (λh2=>?_) (λh2=>?_)
 ·replace hm:=JA h2 hm;refine RS (SA TK Q (TN (WN [4] Q Q (TR (WR ?_)))));obtain rfl:=OJ hm;exact EndsS.one _ Q (.d _) (.refl _)
 replace hm:=JB h2 hm;refine TS (WT (WN [1,2] Q Q (RS (SA TK Q (SA TK Q (SA TK Q (TN (WN [1,2,5] Q Q ?_))))))));refine aM hm (λat3=>([(5,.d (.int .i64 at3))]:Fr)) (λat3=>([]:List (Nat×Blk))) [5] [] Q (λz4 hm=>?_) (λat3 hm=>?_)
 ·refine TB (cB hm (λat6=>([(5,.d (.int .i64 at6))]:Fr)) (λat6=>([]:List (Nat×Blk))) [5] [1,2] [0] Q k0 Q Q Q Q Q (λat6 z7 hm hz7=>WN [1,2,5] Q Q (TQ (RS (SA TK Q (SA TK Q (TN (WN [1,2,5,13] Q Q ?_))))))));refine TC _ Q (λh8=>?_) (λh8=>?_)
  ·replace hm:=JT h8 hm;refine TS (WT (WN [1,2,5] Q Q (TB (RS (SA TK Q (SA TK Q (SA TK Q (GE hm λg9 hm=>SX Q Q (bH Q Q Q Q g9) (VE hm λe10 he10 hm=>?_)))))))));refine SX Q Q (cX TK Q Q Q Q he10) (SA TK Q (cI 1 Q Q aT Q (SA TK Q (TN (WN [1,2,6] Q Q ?_)))));refine aM hm (λx11=>([(31,.d (.bool (x11)))]:Fr)) (λx11=>([]:List (Nat×Blk))) [31] [1,2,6] Q (λz12 hm=>?_) (λx11 hm=>?_)
   ·refine TG (SA TK Q (SA TK Q (SA TK Q (SX Q Q (bM TK Q Q Q) (SA TK Q (SB TK Q (λq13 hq13=>?_)))))));cases q13
    ·replace hm:=JF hq13 hm;iterate 6 (refine SA TK Q ?_)
     refine TN (WT ?_);exact⟨_,[0,1],(SJ hm),Q,k0,Q⟩
    replace hm:=JT hq13 hm;refine SA TK Q (SA TK Q (SA TK Q (VE hm λe14 he14 hm=>SX Q Q (cX TK Q Q Q Q he14) (SA TK Q (SA TK Q (TN (WT ?_)))))));exact⟨_,[0,1],(SJ hm),Q,k0,Q⟩
   refine WN [1,2,6,31] Q Q ?_;refine TC _ Q (λh15=>?_) (λh15=>?_)
   ·replace hm:=JA h15 hm;refine TG (SA TK Q (SA TK Q (SA TK Q (TN (WK (WT ?_))))));exact⟨_,[0],(SJ hm),Q,k0,Q⟩
   replace hm:=JB h15 hm;refine TG (SA TK Q (SA TK Q (SA TK Q (TN (WK (WT ?_))))));exact⟨_,[0],(SJ hm),Q,k0,Q⟩
  replace hm:=JF h8 hm;refine bI (WX (IE hm λv16 hm hz=>?_));rw [hz7 _ hz] at hm;refine WX (WH (WT ?_));exact⟨_,[0],(SJ hm),Q,k0,Q⟩
 refine WN [5] Q Q (RS (SA TK Q (SA TK Q (SA TK Q (TN (WN [4] Q Q (TR ?_)))))));obtain rfl:=OJ hm;exact EndsS.one _ Q (.d _) (.refl _)
theorem mU {p0:Diagram} {p1:(List Bool)} {r:Bool} (hm:dR p0 p1=some r):RetN Try.prog 22 [p0.enc,.sl 1 (p1.map D.bool)] (.bool (r)):=by
 refine .unit (aR wF Try.func22 Q Try.ntmps22 Q Q (λwX gX=>?_)) Q;unfold dR at hm;refine WN [0,1] Q Q (RS (cS 0 Q Q Q (SA TK Q (TN (WN [1,2] Q Q ?_)))));refine aM hm (λx1=>([(4,.d (.bool (x1)))]:Fr)) (λx1=>([]:List (Nat×Blk))) [4] [] Q (λz2 hm=>?_) (λx1 hm=>?_)
 ·refine TG (SA TK Q (BE hm λr3 hr3 hm=>SX Q Q (RN Q Q (SC (.d _) SN) (gY hr3)) (SB TK Q (λq4 hq4=>?_))));cases q4
  ·replace hm:=JB hq4 hm;iterate 5 (refine SA TK Q ?_)
   refine TN (WT ?_);exact⟨_,[0],(SJ hm),Q,k0,Q⟩
  replace hm:=JA hq4 hm;refine SA TK Q (SA TK Q (BE hm λr5 hr5 hm=>SX Q Q (RN Q Q (SC (.d _) (SC (.d _) SN)) (lQ hr5)) (SA TK Q (SA TK Q (TN (WT ?_))))));exact⟨_,[0],(SJ hm),Q,k0,Q⟩
 refine WN [4] Q Q (TR ?_);obtain rfl:=OJ hm;exact EndsS.one _ Q (.d _) (.refl _)
theorem jD {p0:Diagram} {p1:(List Bool)} {r:Bool} (hm:cM p0 p1=some r):Ret Try.prog 5 [] (λ_=>false) ([p0.enc,.sl 1 (p1.map D.bool)].map .d) (.d (.bool (r))) []:=by
 refine aR callB5 Try.func5 Q Try.ntmps5 Q Q (λwX gX=>?_);unfold cM at hm;refine WN [0,1] Q Q (RS (cS 0 Q Q Q (SA TK Q (TN (WN [1,2] Q Q (TQ ?_))))));refine eX [(13,.d (.bool (((decide ((200:Int) < (p0.nodes.length:Int)))||(decide ((100:Int) < (p1.length:Int)))))))] [13] [1,2] Q ?_ ?_
 ·refine TG (SA TK Q (SA TK Q (SX Q Q (bM TK Q Q Q) (SA TK Q (SB TK Q (λq1 hq1=>?_))))));cases q1
  ·refine SA TK Q (SX Q Q (bM TK Q Q Q) (SA TK Q (SA TK Q (TN (WT ?_)))));exact⟨[0],Q,k0,bN (aP (aQ (by simp [hq1])) Q) Q⟩
  iterate 4 (refine SA TK Q ?_)
  refine TN (WT ?_);exact⟨[0],Q,k0,bN (aP (aQ (by simp [hq1])) Q) Q⟩
 refine WN [1,2,13] Q Q ?_;refine TC _ Q (λh2=>?_) (λh2=>?_)
 ·replace hm:=JA h2 hm;refine RS (BE hm λr3 hr3 hm=>SX Q Q (RN Q Q SN (hJ hr3)) (SA TK Q (TN (WN [4] Q Q (TR (WR ?_))))));obtain rfl:=OJ hm;exact EndsS.one _ Q (.d _) (.refl _)
 replace hm:=JB h2 hm;refine TS (WT (WN [1,2] Q Q ?_));refine aM hm (λx4=>([(4,.d (.bool (x4)))]:Fr)) (λx4=>([]:List (Nat×Blk))) [4] [] Q (λz5 hm=>?_) (λx4 hm=>?_)
 ·refine fG follows  (DA [0] TK Q (BE hm λr6 hr6 hm=>DX [0] Q Q (RN Q Q (SC (.d _) SN) (dC hr6)) (DA [0] TK Q (BE hm λr7 hr7 hm=>DX [0] Q Q (RN Q Q (SC (.d _) SN) (gY hr7)) (DA [0] TK Q (d_b [0] TK Q (λq8 hq8=>?_)))))));cases q8
  ·replace hm:=JB hq8 hm;iterate 11 (refine DA [0] TK Q ?_)
   refine DT ?_ (by kernel_rfl);refine SA TK Q (TN (WT ?_));exact⟨_,[0],(SJ hm),Q,k0,Q⟩
  replace hm:=JA hq8 hm;iterate 2 (refine DA [0] TK Q ?_)
  refine BE hm λr9 hr9 hm=>DX [0] Q Q (RN Q Q (SC (.d _) (SC (.d _) SN)) (qQ hr9)) ?_;iterate 2 (refine DA [0] TK Q ?_)
  refine BE hm λr10 hr10 hm=>DX [0] Q Q (RN Q Q (SC (.d _) (SC (.d _) SN)) (mU hr10)) ?_;iterate 2 (refine DA [0] TK Q ?_)
  refine d_b [0] TK Q (λq11 hq11=>?_);cases q11
  ·replace hm:=JB hq11 hm;iterate 2 (refine DA [0] TK Q ?_)
   refine DT ?_ (by kernel_rfl);refine SA TK Q (TN (WT ?_));exact⟨_,[0],(SJ hm),Q,k0,Q⟩
  replace hm:=JA hq11 hm;refine BE hm λr12 hr12 hm=>DX [0] Q Q (RN Q Q SN (hJ hr12)) (DA [0] TK Q ?_);refine DT ?_ (by kernel_rfl);refine SA TK Q (TN (WT ?_));exact⟨_,[0],(SJ hm),Q,k0,Q⟩
 refine WN [4] Q Q (TR ?_);obtain rfl:=OJ hm;exact EndsS.one _ Q (.d _) (.refl _)
@[simp] theorem aC {α:Type} {p:Prop} [Decidable p] {k:Option α} (h:p):aB p k=k:=if_pos h
@[simp] theorem aA {α β:Type} (a:α) (k:α→Option β):aE (some a) k=k a:=rfl
@[simp] theorem dL {α β:Type} (a:α) (k:α→Option β):dT (some (.inl a)) k=k a:=rfl
@[simp] theorem bindS_inr {α β:Type} (b:β) (k:α→Option β):dT (some (.inr b)) k=some b:=rfl
@[simp] theorem inrM_some {α β:Type} (b:β):(aV (some b):Option (α ⊕ β))=some (.inr b):=rfl
theorem eV {α β:Type} {l:List α} {i:Nat} {e:α} {k:α→Option β} (h:l[i]?=some e):bG l (i:Int) k=k e:=by simp [bG,h]
theorem cO {α β:Type} {l:List α} {i:Int} {e:α} {k:α→Option β} (h0:0≤i) (h:l[i.toNat]?=some e):bG l i k=k e:=by simp [bG,h0,h]
@[simp] theorem ite_bindM {α β:Type} {p:Prop} [Decidable p] (a b:α) (k:α→Option β):aE (if p then some a else some b) k=k (if p then a else b):=by split<;>rfl
variable {σ ρ:Type}
theorem oW {f:σ→Option (σ ⊕ ρ)} (B:Nat→σ) {o:ρ}:∀ (n k:Nat),(∀ i,k≤i→i < k+n→f (B i)=some (.inl (B (i+1))))→f (B (k+n))=some (.inr o)→eJ f (n+1) (B k)=some o
 | 0,k,_,he=>by simp only [Nat.add_zero] at he;simp [eJ,he]
 | n+1,k,hf,he=>by
  simp only [eJ];rw [hf k (zQW _) (by omega)];exact oW B n (k+1) (λi h1 h2=>hf i (by omega) (by omega)) (by rw [show k+1+n=k+(n+1) by omega];exact he)
theorem nI {f:σ→Option (σ ⊕ ρ)} (B:Nat→σ) (n:Nat) {o:ρ} {s:σ} (hs:s=B 0) (hn:n≤9223372036854775807) (hf:∀ i,i < n→f (B i)=some (.inl (B (i+1)))) (he:f (B n)=some (.inr o)):bO f s=some o:=by
 subst hs;exact tP (oW B n 0 (λi _ h=>hf i (by omega)) (by rw [Nat.zero_add];exact he)) (by unfold aN;omega)
theorem oN {f : Int → Option (Int ⊕ ρ)} (n : Nat) (c : Nat → Option ρ) (o : ρ) (hn : n ≤ 9223372036854775807) (hf : ∀ i, i < n → f (i : Int) = match c i with
  | some r => some (.inr r)
  | none => some (.inl ((i : Int) + 1))) (he : f (n : Int) = some (.inr o)) : bO f 0 = some (((List.range n).findSome? c).getD o) := by
 cases h:(List.range n).findSome? c with
 | none=>
  rw [List.findSome?_eq_none_iff] at h;refine nI (λi=>(i:Int)) n rfl hn (λi hi=>?_) he;rw [hf i hi,h i (List.mem_range.2 hi)];rfl
 | some r=>
  rw [List.findSome?_eq_some_iff] at h;obtain⟨l1,a,l2,h1,h2,h3⟩:=h
  have ha:l1.length=a∧a < n:=by
   have hlen:l1.length < (List.range n).length:=by rw [h1];simp
   have:(List.range n)[l1.length]?=some a:=by rw [h1];simp
   simp only [List.length_range] at hlen;simp [hlen] at this;exact⟨this,by omega⟩
  obtain⟨ha1,ha2⟩:=ha;refine nI (λi=>(i:Int)) a rfl (by omega) (λi hi=>?_) ?_
  ·have hm:i∈l1:=by
    have:(List.range n)[i]?=some i:=List.getElem?_range (by omega);rw [h1,List.getElem?_append_left (by omega)] at this;exact zQM this
   rw [hf i (by omega),h3 i hm];rfl
  rw [hf a ha2,h2];rfl
theorem lD {α β:Type} (l:List α) (c:Nat→Option β) (d:α→Option β) (h:∀ (i:Nat) (e:α),l[i]?=some e→c i=d e):(List.range l.length).findSome? c=l.findSome? d:=by
 induction l generalizing c with
 | nil=>rfl
 | cons x r ih=>
  rw [List.length_cons,List.range_succ_eq_map,List.findSome?_cons,List.findSome?_map,List.findSome?_cons,h 0 x rfl]
  cases d x with
  | some b=>rfl
  | none=>exact ih (c ∘ Nat.succ) λi e he=>h (i+1) e (by simpa using he)
theorem rT {α : Type} {f : Int → Option (Int ⊕ ρ)} (l : List α) (d : α → Option ρ) (o : ρ) (hn : l.length ≤ 9223372036854775807) (hf : ∀ (i : Nat) (e : α), l[i]? = some e → f (i : Int) = match d e with
  | some r => some (.inr r)
  | none => some (.inl ((i : Int) + 1))) (he : f (l.length : Int) = some (.inr o)) : bO f 0 = some ((l.findSome? d).getD o) := by
 rw [oN l.length (λi=>(l[i]?).bind d) o hn (λi hi=>?_) he,lD l _ d (λi e he=>by simp [he])];rw [hf i l[i] (by simp),zQR hi];rfl
theorem iQ {α β:Type} (l:List α) (c:α→Bool) (v:β):l.findSome? (λe=>if c e=true then some v else none)=if l.any c=true then some v else none:=by
 induction l with
 | nil=>rfl
 | cons x r ih=>
  rw [List.findSome?_cons,List.any_cons,ih];cases c x<;>simp
theorem oO {α:Type} {f:Int→Option (Int ⊕ ρ)} (l:List α) (c:α→Bool) (v o:ρ) (hn:l.length≤9223372036854775807) (hf:∀ (i:Nat) (e:α),l[i]?=some e→f (i:Int)=if c e=true then some (.inr v) else some (.inl ((i:Int)+1))) (he:f (l.length:Int)=some (.inr o)):bO f 0=some (if l.any c=true then v else o):=by
 rw [rT l (λe=>if c e=true then some v else none) o hn (λi e h=>by rw [hf i e h];cases c e<;>simp) he,iQ];split<;>rfl
theorem jB {f:Int→Option (Int ⊕ ρ)} (n:Nat) (c:Nat→Bool) (v o:ρ) (hn:n≤9223372036854775807) (hf:∀ i,i < n→f (i:Int)=if c i=true then some (.inr v) else some (.inl ((i:Int)+1))) (he:f (n:Int)=some (.inr o)):bO f 0=some (if (List.range n).any c=true then v else o):=by
 rw [oN n (λe=>if c e=true then some v else none) o hn (λi h=>by rw [hf i h];cases c i<;>simp) he,iQ];split<;>rfl
theorem oP {β:Type} {f:Int×β→Option ((Int×β) ⊕ ρ)} (n:Nat) (B:Nat→β) {o:ρ} {b:β} (hb:b=B 0) (hn:n≤9223372036854775807) (hf:∀ i,i < n→f ((i:Int),B i)=some (.inl ((i:Int)+1,B (i+1)))) (he:f ((n:Int),B n)=some (.inr o)):bO f (0,b)=some o:=
 nI (λi=>((i:Int),B i)) n (by rw [hb];rfl) hn (λi hi=>by rw [hf i hi];rfl) he
theorem rU {β:Type} {f:Int×β→Option ((Int×β) ⊕ ρ)} (n:Nat) (B:Nat→β) (c:Nat→Bool) (v o:ρ) {b:β} (hb:b=B 0) (hn:n≤9223372036854775807) (hf:∀ i,i < n→(∀ j,j < i→c j=false)→f ((i:Int),B i)=if c i=true then some (.inr v) else some (.inl ((i:Int)+1,B (i+1)))) (he:(∀ j,j < n→c j=false)→f ((n:Int),B n)=some (.inr o)):bO f (0,b)=some (if (List.range n).any c=true then v else o):=by
 cases h:(List.range n).findIdx? c with
 | none=>
  rw [List.findIdx?_eq_none_iff] at h;have hall:∀ j,j < n→c j=false:=λj hj=>by simpa using h j (List.mem_range.2 hj)
  have hno:¬ (List.range n).any c=true:=by
   rw [zQU];rintro⟨j,hj,hc⟩;rw [hall j (List.mem_range.1 hj)] at hc;cases hc
  rw [if_neg hno];exact oP n B hb hn (λi hi=>by rw [hf i hi (λj hj=>hall j (by omega)),hall i hi];rfl) (he hall)
 | some k=>
  rw [List.findIdx?_eq_some_iff_getElem] at h;obtain⟨hk,h1,h2⟩:=h;simp only [List.length_range] at hk;simp only [List.getElem_range] at h1;have hb':∀ j,j < k→c j=false:=λj hj=>by have:=h2 j hj;simpa using this
  have hyes:(List.range n).any c=true:=zQU.2 ⟨k,List.mem_range.2 hk,h1⟩;rw [if_pos hyes];exact oP k B hb (by omega) (λi hi=>by rw [hf i (by omega) (λj hj=>hb' j (by omega)),hb' i hi];rfl) (by rw [hf k hk hb',h1];rfl)
def bitI (b:Bool):Int:=if b=true then 1 else 0
abbrev Fn:=List Bool→Bool
def Has (D:List Node):Nat→Fn→Int→Int→Prop
 | 0,f,_,x=>x=bitI (f [])
 | k+1,f,v,x=>∃ lo hi,Has D k (λl=>f (false :: l)) (v+1) lo∧Has D k (λl=>f (true :: l)) (v+1) hi∧(if lo=hi then x=lo else 2≤x∧D[(x - 2).toNat]?=some ⟨v,lo,hi⟩)
def cY (D:List Node) (x:Int):Int:=if x < 2 then 64 else match D[(x - 2).toNat]? with|some n=>n.var|none=>64
def evF (D:List Node) (s:Int→Bool):Nat→Int→Bool
 | 0,x=>decide (x=1)
 | f+1,x=>if x < 2 then decide (x=1) else match D[(x - 2).toNat]? with|some n=>evF D s f (if s n.var=true then n.hi else n.lo)|none=>false
def sN (D:List Node) (x:Int) (s:Int→Bool):Bool:=evF D s x.toNat x
structure WfD (D:List Node):Prop where
 vars:∀ (i:Nat) (n:Node),D[i]?=some n→0≤n.var∧n.var < 64
 lo:∀ (i:Nat) (n:Node),D[i]?=some n→0≤n.lo∧n.lo < (i:Int)+2∧n.var < cY D n.lo
 hi:∀ (i:Nat) (n:Node),D[i]?=some n→0≤n.hi∧n.hi < (i:Int)+2∧n.var < cY D n.hi
 ne:∀ (i:Nat) (n:Node),D[i]?=some n→n.lo≠n.hi
theorem lG {D:List Node} (h:WfD D) (s:Int→Bool):∀ (f:Nat) (x:Int),0≤x→x≤(f:Int)→evF D s f x=evF D s x.toNat x
 | 0,x,h0,h1=>by rw [show x=0 by omega];rfl
 | f+1,x,h0,h1=>by
  by_cases hx:x < 2
  ·rcases (by omega : x = 0 ∨ x = 1) with e | e <;> subst e
   ·rfl
   rfl
  obtain ⟨m, hm⟩ : ∃ m : Nat, x.toNat = m + 1 := ⟨x.toNat - 1, by omega⟩;rw [hm];unfold evF;rw [if_neg hx,if_neg hx]
  cases hn:D[(x - 2).toNat]? with
  | none=>rfl
  | some n=>
   dsimp only;have hl:=h.lo _ n hn;have hh:=h.hi _ n hn;have hc:0≤(if s n.var=true then n.hi else n.lo)∧(if s n.var=true then n.hi else n.lo) < x:=by split<;>omega
   rw [lG h s f _ hc.1 (by omega),lG h s m _ hc.1 (by omega)]
theorem sM {D:List Node} (h:WfD D) {x:Int} {n:Node} (hx:2≤x) (hn:D[(x - 2).toNat]?=some n) (s:Int→Bool):sN D x s=sN D (if s n.var=true then n.hi else n.lo) s:=by
 have hl:=h.lo _ n hn;have hh:=h.hi _ n hn;have hc:0≤(if s n.var=true then n.hi else n.lo)∧(if s n.var=true then n.hi else n.lo) < x:=by split<;>omega
 obtain⟨m,hm⟩:∃ m:Nat,x.toNat=m+1:=⟨x.toNat - 1,by omega⟩;unfold sN;rw [hm]
 conv=>lhs;unfold evF
 rw [if_neg (by omega),hn];dsimp only;exact lG h s m _ hc.1 (by omega)
def asg (v:Int) (l:List Bool):Int→Bool:=λw=>decide (v≤w)&&l.getD (w - v).toNat false
def fnD (D:List Node) (x v:Int):Fn:=λl=>sN D x (asg v l)
def InD (D:List Node) (x:Int):Prop:=0≤x∧x < (D.length:Int)+2
theorem InD.get {D:List Node} {x:Int} (h:InD D x) (hx:2≤x):∃ n,D[(x - 2).toNat]?=some n:=⟨_,zQR (by have:=h.2;omega)⟩
def cU (D:List Node):Nat→Int→Int→Option Int
 | 0,_,_=>none
 | f+1,x,left=>if x < 2∨x < left then some left else match D[(x - 2).toNat]? with
  | none=>none
  | some n=>(cU D f n.lo left).bind λl1=>(cU D f n.hi l1).bind λl2=>if x=l2 then some (l2+1) else none
section merge
variable (A B:List Node) (op:Bool→Bool→Bool) (N:Int)
def fn2 (x y v:Int):Fn:=λl=>op (fnD A x v l) (fnD B y v l)
def Has2 (D:List Node) (x y r:Int):Prop:=∀ (v:Int) (k:Nat),v+k=N→v≤cY A x→v≤cY B y→Has D k (fn2 A B op x y v) v r
variable {A B} {op N}
end merge
structure MS where
 nodes:List Node
 done:Int×Int→Option Int
 full:Bool
def opQ (all:Bool):Bool→Bool→Bool:=λa b=>if all=true then a&&b else a||b
section
variable {A B:List Node} {all:Bool} {N:Int}
structure MOk (A B:List Node) (all:Bool) (N:Int) (s:MS):Prop where
 nodup:s.nodes.Nodup
 part:s.full=false
 done:∀ x y r,s.done (x,y)=some r→InD A x∧InD B y∧Has2 A B (opQ all) N s.nodes x y r
end
def dZ (D:List Node):Nat→Int→List Int→List Int
 | 0,_,left=>left
 | f+1,x,left=>if x < 2 then left else if x∈left then left else match D[(x - 2).toNat]? with
  | none=>left
  | some n=>dZ D f n.hi (dZ D f n.lo left)++[x]
def dS (m:Nat):List Int:=(List.range m).map λ(i:Nat)=>(i:Int)+2
theorem cK (m:Nat):(dS m).length=m:=by simp [dS]
theorem ordL_mem {m:Nat} {x:Int}:x∈dS m↔2≤x∧x < (m:Int)+2:=by
 unfold dS;rw [List.mem_map];constructor
 ·rintro⟨i,hi,rfl⟩;have:=List.mem_range.1 hi;omega
 rintro⟨h1,h2⟩;exact⟨(x - 2).toNat,List.mem_range.2 (by omega),by omega⟩
theorem mD (m:Nat):dS (m+1)=dS m++[(m:Int)+2]:=by unfold dS;rw [List.range_succ];simp
theorem fI (D:List Node):∀ (f:Nat) (x:Int) (left:List Int),left <+: dZ D f x left
 | 0,x,left=>List.prefix_refl _
 | f+1,x,left=>by
  unfold dZ;split
  ·exact List.prefix_refl _
  split
  ·exact List.prefix_refl _
  split
  ·exact List.prefix_refl _
  exact ((fI D f _ left).trans (fI D f _ _)).trans (List.prefix_append _ _)
theorem oG {l:List Int} {m:Nat} (h:l <+: dS m):l=dS l.length:=by
 obtain⟨t,ht⟩:=h;have hl:l.length≤m:=by have:=congrArg List.length ht;rw [zQL,cK] at this;omega
 have h1:l=(dS m).take l.length:=by rw [← ht,List.take_left]
 have h2:(dS m).take l.length=dS l.length:=by unfold dS;rw [← List.map_take,List.take_range,Nat.min_eq_left hl]
 exact h1.trans h2
theorem fH {D:List Node} (h:WfD D):∀ (f:Nat) (x:Int) (m m':Nat),InD D x→x < (f:Int)→(dZ D f x (dS m)=dS m'↔cU D f x ((m:Int)+2)=some ((m':Int)+2))
 | 0,x,m,m',hx,hf=>by have:=hx.1;omega
 | f+1,x,m,m',hx,hf=>by
  unfold dZ cU;by_cases h2:x < 2
  ·rw [if_pos h2,if_pos (.inl h2)];constructor
   ·intro he;have:=congrArg List.length he;rw [cK,cK] at this;rw [this]
   intro he;have:=Option.some.inj he;rw [show m=m' by omega]
  rw [if_neg h2];by_cases hm:x < (m:Int)+2
  ·rw [if_pos (ordL_mem.2 ⟨by omega, hm⟩), if_pos (.inr hm)];constructor
   ·intro he;have:=congrArg List.length he;rw [cK,cK] at this;rw [this]
   intro he;have:=Option.some.inj he;rw [show m=m' by omega]
  rw [if_neg (fun hc => hm (ordL_mem.1 hc).2), if_neg (by omega)];obtain⟨n,hn⟩:=hx.get (by omega);have hl:=h.lo _ n hn;have hh:=h.hi _ n hn;have inlo:InD D n.lo:=⟨hl.1,by have:=hx.2;omega⟩;have inhi:InD D n.hi:=⟨hh.1,by have:=hx.2;omega⟩;rw [hn];dsimp only;constructor
  ·intro he
   obtain ⟨q, hq⟩ : ∃ q, m' = q + 1 := ⟨m' - 1, by
    have := congrArg List.length he;rw [zQL, cK] at this;simp at this
    omega⟩
   subst hq;rw [mD] at he;have hin:=List.append_inj' he rfl;have hxq:x=(q:Int)+2:=by have:=hin.2;simpa using this
   have hp:dZ D f n.lo (dS m) <+: dS q:=by rw [← hin.1];exact fI D f n.hi _
   have e1:=oG hp;obtain⟨m1,hm1⟩:∃ m1,m1=(dZ D f n.lo (dS m)).length:=⟨_,rfl⟩;rw [← hm1] at e1;have v1:=(fH h f n.lo m m1 inlo (by omega)).1 e1;have v2:=(fH h f n.hi m1 q inhi (by omega)).1 (by rw [← e1];exact hin.1);rw [v1];simp only [Option.bind_some];rw [v2];simp only [Option.bind_some];rw [if_pos hxq]
   congr 1
  intro he
  cases e1:cU D f n.lo ((m:Int)+2) with
  | none=>rw [e1] at he;cases he
  | some l1=>
   rw [e1] at he;simp only [Option.bind_some] at he
   cases e2:cU D f n.hi l1 with
   | none=>rw [e2] at he;cases he
   | some l2=>
    rw [e2] at he;simp only [Option.bind_some] at he
    have mono:∀ (f:Nat) (x l l':Int),cU D f x l=some l'→l≤l':=by
     intro f
     induction f with
     | zero=>intro x l l' hv;cases hv
     | succ f ih=>
      intro x l l' hv;unfold cU at hv;split at hv
      ·cases hv;omega
      split at hv
      ·cases hv
      rename_i z hz
      cases ha:cU D f z.lo l with
      | none=>rw [ha] at hv;cases hv
      | some a=>
       rw [ha] at hv;simp only [Option.bind_some] at hv
       cases hb:cU D f z.hi a with
       | none=>rw [hb] at hv;cases hv
       | some b=>
        rw [hb] at hv;simp only [Option.bind_some] at hv;split at hv
        ·have:=Option.some.inj hv;have:=ih _ _ _ ha;have:=ih _ _ _ hb;omega
        cases hv
    have g1:=mono f _ _ _ e1;have g2:=mono f _ _ _ e2;split at he
    ·rename_i hxl;have hl2:=Option.some.inj he;obtain⟨a,ha⟩:∃ a:Nat,l1=(a:Int)+2:=⟨(l1 - 2).toNat,by omega⟩;obtain⟨b,hb⟩:∃ b:Nat,l2=(b:Int)+2:=⟨(l2 - 2).toNat,by omega⟩;subst ha hb;rw [(fH h f n.lo m a inlo (by omega)).2 e1,(fH h f n.hi a b inhi (by omega)).2 e2,show m'=b+1 by omega,mD,hxl]
    cases he
structure MakeOk (N:Nat) (f:Fn) (D:List Node) (x:Int):Prop where
 wf:WfD D
 nodup:D.Nodup
 root:InD D x
 vars:∀ (i:Nat) (n:Node),D[i]?=some n→n.var < (N:Int)
 low:0≤cY D x
 val:∀ l,l.length=N→fnD D x 0 l=f l
 len:D.length+1≤2 ^ N
 order:∀ q,N+1≤q→cU D q x 2=some ((D.length:Int)+2)
def dM (D:List Node):Nat→Int→List Bool×Int→Option (List Bool×Int)
 | 0,_,_=>none
 | f+1,x,s=>if x < 2∨s.1.getD x.toNat false=true then some s else match D[(x - 2).toNat]? with
  | none=>none
  | some n=>(dM D f n.lo (s.1.set x.toNat true,s.2)).bind λs1=>(dM D f n.hi s1).bind λs2=>if x=s2.2 then some (s2.1,s2.2+1) else none
def InvP (B:Int) (vis:List Bool) (left:Int):Prop:=∀ y:Nat,2≤y→(y:Int) < B→(vis.getD y false=true↔(y:Int) < left)
theorem nP {l:List Bool} {i j:Nat} (h:i≠j) (b:Bool):(l.set i b).getD j false=l.getD j false:=by
 rw [zQD,zQD,List.getElem?_set_ne h]
theorem wO {l:List Bool} {i:Nat} (h:i < l.length) (b:Bool):(l.set i b).getD i false=b:=by
 rw [zQD,List.getElem?_set_self h];rfl
structure OutP (D:List Node) (f:Nat) (x B:Int) (vis:List Bool) (left l':Int) (vis':List Bool):Prop where
 run:dM D f x (vis,left)=some (vis',l')
 inv:InvP B vis' l'
 keep:∀ y:Nat,B≤(y:Int)→vis'.getD y false=vis.getD y false
 len:vis'.length=vis.length
theorem sK {D:List Node} (h:WfD D):∀ (f:Nat) (x B:Int) (vis:List Bool) (left:Int),InD D x→x < B→InvP B vis left→vis.length=D.length+2→match cU D f x left with
  | none=>dM D f x (vis,left)=none
  | some l'=>∃ vis',OutP D f x B vis left l' vis'
 | 0,x,B,vis,left,hx,hB,hi,hl=>rfl
 | f+1,x,B,vis,left,hx,hB,hi,hl=>by
  have hx0:=hx.1;have hx1:=hx.2;by_cases h2:x < 2
  ·have e : cU D (f + 1) x left = some left := by unfold cU; rw [if_pos (Or.inl h2)]
   rw [e];refine⟨vis,?_,hi,λ_ _=>rfl,rfl⟩;unfold dM;rw [if_pos (Or.inl h2)]
  have hxi := hi x.toNat (by omega) (by omega);rw [show ((x.toNat:Nat):Int)=x by omega] at hxi;by_cases hlt:x < left
  ·have e : cU D (f + 1) x left = some left := by unfold cU; rw [if_pos (Or.inr hlt)]
   rw [e];refine⟨vis,?_,hi,λ_ _=>rfl,rfl⟩;unfold dM;rw [if_pos (Or.inr (hxi.2 hlt))]
  obtain ⟨n, hn⟩ := hx.get (by omega);have hlo:=h.lo _ n hn;have hhi:=h.hi _ n hn
  have e:cU D (f+1) x left=(cU D f n.lo left).bind λl1=>(cU D f n.hi l1).bind λl2=>if x=l2 then some (l2+1) else none:=by
   rw [cU,if_neg (by omega),hn]
  have e':dM D (f+1) x (vis,left)=(dM D f n.lo (vis.set x.toNat true,left)).bind λs1=>(dM D f n.hi s1).bind λs2=>if x=s2.2 then some (s2.1,s2.2+1) else none:=by
   rw [dM,if_neg (by intro hc;rcases hc with hc|hc;exact h2 hc;exact hlt (hxi.1 hc)),hn]
  have i0:InvP x (vis.set x.toNat true) left:=λy hy hyx=>by
   rw [nP (by omega)];exact hi y hy (by omega)
  have r1:=sK h f n.lo x (vis.set x.toNat true) left ⟨hlo.1,by omega⟩ (by omega) i0 (by rw [List.length_set];exact hl);rw [e]
  cases h1:cU D f n.lo left with
  | none=>
   rw [h1] at r1;show dM D (f+1) x (vis,left)=none;rw [e',r1];rfl
  | some l1=>
   rw [h1] at r1;obtain⟨v1,o1⟩:=r1;have hl1:v1.length=D.length+2:=by rw [o1.len,List.length_set];exact hl
   have r2:=sK h f n.hi x v1 l1 ⟨hhi.1,by omega⟩ (by omega) o1.inv hl1
   show match (cU D f n.hi l1).bind λl2=>if x=l2 then some (l2+1) else none with
    | none=>dM D (f+1) x (vis,left)=none
    | some l'=>∃ vis',OutP D (f+1) x B vis left l' vis'
   cases h3:cU D f n.hi l1 with
   | none=>
    rw [h3] at r2;show dM D (f+1) x (vis,left)=none;rw [e',o1.run];show (dM D f n.hi (v1,l1)).bind _=none;rw [r2];rfl
   | some l2=>
    rw [h3] at r2;obtain⟨v2,o2⟩:=r2
    have er:dM D (f+1) x (vis,left)=if x=l2 then some (v2,l2+1) else none:=by
     rw [e',o1.run];show (dM D f n.hi (v1,l1)).bind _=_;rw [o2.run];rfl
    show match (if x=l2 then some (l2+1) else none) with
     | none=>dM D (f+1) x (vis,left)=none
     | some l'=>∃ vis',OutP D (f+1) x B vis left l' vis'
    by_cases hq:x=l2
    ·rw [if_pos hq];rw [if_pos hq] at er;refine⟨v2,er,λy hy hyB=>?_,λy hy=>?_,by rw [o2.len,o1.len,List.length_set]⟩
     ·rcases Int.lt_trichotomy (y:Int) x with hc|hc|hc
      ·have:=o2.inv y hy hc;rw [this];omega
      ·have e1:v2.getD y false=true:=by
        rw [o2.keep y (by omega),o1.keep y (by omega),show y=x.toNat by omega,wO (by omega)]
       rw [e1];simp only [true_iff];omega
      rw [o2.keep y (by omega), o1.keep y (by omega), nP (by omega), hi y hy hyB];omega
     rw [o2.keep y (by omega),o1.keep y (by omega),nP (by omega)]
    rw [if_neg hq];rw [if_neg hq] at er;exact er
theorem uP {D:List Node} (h:WfD D) (f:Nat) {x:Int} (hx:InD D x):(dM D f x (List.replicate (D.length+2) false,2)).map (·.2)=cU D f x 2:=by
 have := sK h f x ((D.length : Int) + 2) (List.replicate (D.length + 2) false) 2 hx hx.2 (fun y hy hyB => by
  rw [zQD, List.getElem?_replicate, if_pos (by omega)];constructor
  ·intro hc; cases hc
  intro hc; omega) (by simp)
 revert this
 cases cU D f x 2 with
 | none=>intro e;rw [e];rfl
 | some l=>intro ⟨v,o⟩;rw [o.run];rfl
def NOK (D:List Node):Prop:=∀ n∈D,Node.ok n
theorem NOK.at {D:List Node} (h:NOK D) {i:Nat} {n:Node} (hn:D[i]?=some n):Node.ok n:=h n (zQM hn)
theorem nok_wf {d:Diagram} (h:d.Wf):NOK d.nodes:=λn hn=>⟨(h.nodes.2 n hn).var,(h.nodes.2 n hn).lo,(h.nodes.2 n hn).hi⟩
def eA (L:List Node):List (Node×Int):=L.zipIdx.map λx=>(x.1,(x.2:Int))
theorem jE (L:List Node):(eA L).map (·.1)=L:=by
 unfold eA;rw [List.map_map];exact List.zipIdx_map_fst 0 L
theorem tV (L:List Node) (n:Node):eA (L++[n])=eA L++[(n,(L.length:Int))]:=by
 unfold eA;rw [List.zipIdx_append,List.map_append];simp
theorem tU (L:List Node) (i:Nat):(eA L)[i]?=(L[i]?).map λn=>(n,(i:Int)):=by
 unfold eA;rw [zQP,List.getElem?_zipIdx];cases L[i]?<;>simp
theorem mF (L:List Node) (n:Node):(eA L).findIdx? (λx=>decide (x.1=n))=L.findIdx? λm=>decide (m=n):=by
 have:L.findIdx? (λm=>decide (m=n))=((eA L).map (·.1)).findIdx? (λm=>decide (m=n)):=by rw [jE]
 rw [this,List.findIdx?_map];rfl
section maps
variable {α β:Type} [DecidableEq α]
theorem qT (x:α×β) (r:List (α×β)) (q:α):bL (x :: r) q=if x.1=q then some x.2 else bL r q:=by
 unfold bL;rw [List.find?_cons];by_cases h:x.1=q<;>simp [h]
theorem qS (fs:List (α×β)) (q:α):bL fs q=(fs.findIdx? λx=>decide (x.1=q)).bind λj=>(fs[j]?).map (·.2):=by
 induction fs with
 | nil=>rfl
 | cons x r ih=>
  rw [qT,List.findIdx?_cons];by_cases h:x.1=q
  ·simp [h]
  simp only [h,decide_false,Bool.false_eq_true,if_false];rw [ih];cases r.findIdx? (λx=>decide (x.1=q))<;>simp
end maps
theorem sC (L:List Node) (n:Node):bL (eA L) n=(L.findIdx? λm=>decide (m=n)).map λi=>(i:Int):=by
 rw [qS,mF]
 cases h:L.findIdx? (λm=>decide (m=n)) with
 | none=>rfl
 | some j=>
  rw [List.findIdx?_eq_some_iff_getElem] at h;obtain⟨hj,_,_⟩:=h;show ((eA L)[j]?).map (·.2)=_;rw [tU,zQR hj];rfl
theorem tF {L:List Node} {n:Node} (h:L.findIdx? (λm=>decide (m=n))=none) (v:Int):eO (eA L) n v=eA L++[(n,v)]:=by
 unfold eO;rw [mF,h]
theorem oU {L:List Node} (hn:L.Nodup) (ho:NOK L) {n:Node} (hk:Node.ok n):cN Node.okb (eA L) n:=
 ⟨by rw [jE]; exact hn, fun x hx => by
  have : x.1 ∈ (eA L).map (·.1) := List.mem_map_of_mem hx;rw [jE] at this
  exact decide_eq_true (ho _ this), decide_eq_true hk⟩
theorem vB {α ρ:Type} [DecidableEq ρ] {l:List α} {a b:Option ρ} {x:ρ} (ha:l=[]→a=some x) (hb:b=some x):oK l a b=some x:=by
 cases l with
 | nil=>rw [ha rfl,hb];simp [oK]
 | cons y r=>exact hb
theorem qD {L : List Node} {n : Node} (hn : L.Nodup) (ho : NOK L) (hk : Node.ok n) (hl : L.length + 1 ≤ 1000000000) : aL ⟨eA L, L⟩ n = some (match L.findIdx? (fun m => decide (m = n)) with
  | some j => ((j : Int), ⟨eA L, L⟩)
  | none => ((L.length : Int), ⟨eA (L ++ [n]), L ++ [n]⟩)) := by
 have hlen:((L++[n]).length:Int) - 1=(L.length:Int):=by simp
 have hg1:(L++[n]).length≤1000000000:=by simp;omega
 have hg2:I64 (((L++[n]).length:Int) - 1):=by rw [hlen];unfold I64;omega
 unfold aL;dsimp only;refine vB (λhe=>?_) ?_
 ·have hL : L = [] := by have := congrArg List.length he; simpa [eA] using this
  subst hL;rw [aC (show n.okb=true from decide_eq_true hk),aA,aC ⟨List.nodup_nil,(λx h=>by cases h),decide_eq_true hk⟩,aC hg1,aC hg2];simp only [hlen];rfl
 rw [aC (oU hn ho hk),sC]
 cases h:L.findIdx? (λm=>decide (m=n)) with
 | some j=>simp
 | none=>
  rw [if_neg (by simp),aA,aC (oU hn ho hk),aC hg1,aC hg2];simp only [hlen,tF h,tV]
theorem InD.i64 {D:List Node} {x:Int} (h:InD D x) (hl:D.length≤4611686018427387903):I64 (x - 2)∧I64 x:=by
 have:=h.1;have:=h.2;unfold I64;omega
structure RelM (m:Merger) (s:MS):Prop where
 nodes:m.nodes=⟨eA s.nodes,s.nodes⟩
 full:m.full=s.full
 keys:(m.done.map (·.1)).Nodup
 okp:∀ p∈m.done,Pair.okb p.1=true
 done:∀ x y,bL m.done ⟨x,y⟩=s.done (x,y)
 ok:NOK s.nodes
def cC (D:List Node) (i:Nat) (n:Node):Prop:=0≤n.var∧n.var < 64∧n.lo≠n.hi∧(0≤n.lo∧n.lo < (i:Int)+2∧n.var < cY D n.lo)∧(0≤n.hi∧n.hi < (i:Int)+2∧n.var < cY D n.hi)
instance (D:List Node) (i:Nat) (n:Node):Decidable (cC D i n):=by unfold cC;infer_instance
def lZ (D:List Node) (i:Nat):Bool:=match D[i]? with
 | some n=>!decide (cC D i n)||decide (n∈D.take i)
 | none=>false
theorem iU {D:List Node} {i:Nat} {n:Node} (h:D[i]?=some n):lZ D i=(!decide (cC D i n)||decide (n∈D.take i)):=by unfold lZ;rw [h]
theorem eQ {D:List Node}:∀ (i:Nat),(∀ j,j < i→lZ D j=false)→(D.take i).Nodup
 | 0,_=>by simp
 | i+1,h=>by
  rw [List.take_add_one]
  cases hn:D[i]? with
  | none=>simpa using eQ i λj hj=>h j (by omega)
  | some n=>
   have hb:=h i (by omega);rw [iU hn,Bool.or_eq_false_iff] at hb;have hni:n∉D.take i:=by simpa using hb.2
   simp only [Option.toList_some];rw [List.nodup_append];refine⟨eQ i λj hj=>h j (by omega),by simp,λa ha b hb e=>?_⟩;rw [List.mem_singleton.1 hb] at e;exact hni (e ▸ ha)
theorem vI {D:List Node} (h:∀ j,j < D.length→lZ D j=false):WfD D∧D.Nodup:=by
 have hg:∀ (i:Nat) (n:Node),D[i]?=some n→cC D i n:=λi n hn=>by
  have hb:=h i (zQQ.1 hn).1;rw [iU hn,Bool.or_eq_false_iff] at hb;simpa using hb.1
 refine⟨⟨λi n hn=>⟨(hg i n hn).1,(hg i n hn).2.1⟩,λi n hn=>(hg i n hn).2.2.2.1,λi n hn=>(hg i n hn).2.2.2.2,λi n hn=>(hg i n hn).2.2.1⟩,?_⟩;have:=eQ D.length h
 rwa [List.take_length] at this
theorem uO {D:List Node} (h:WfD D) (hn:D.Nodup):∀ j,j < D.length→lZ D j=false:=λj hj=>by
 have e:=zQR hj;rw [iU e,Bool.or_eq_false_iff];refine⟨by rw [decide_eq_true (show cC D j D[j] from ⟨(h.vars j _ e).1,(h.vars j _ e).2,h.ne j _ e,h.lo j _ e,h.hi j _ e⟩)];rfl,?_⟩;rw [decide_eq_false_iff_not];intro hm;obtain⟨q,hq,he⟩:=List.getElem_of_mem hm;simp only [List.length_take] at hq;rw [List.getElem_take] at he;have:=(List.getElem_inj hn).1 he;omega
theorem any_bad {D:List Node}:(List.range D.length).any (lZ D)=false↔WfD D∧D.Nodup:=by
 constructor
 ·intro h;rw [List.any_eq_false] at h;exact vI λj hj=>by simpa using h j (List.mem_range.2 hj)
 rintro⟨h,hn⟩;rw [List.any_eq_false];intro j hj;rw [uO h hn j (List.mem_range.1 hj)];simp
def ValidD (d:Diagram):Prop:=d.nodes.length≤20000∧(WfD d.nodes∧d.nodes.Nodup)∧(if d.nodes.length=0 then d.root=0∨d.root=1 else d.root=(d.nodes.length:Int)+1∧cU d.nodes aN d.root 2=some ((d.nodes.length:Int)+2))
theorem pF {d:Diagram} {i:Nat} {n:Node} {k:Int} (hn:d.nodes[i]?=some n) (hv:n.var < 64) (hl:d.nodes.length≤1000000):cF d i k=some (decide (0≤k∧k < (i:Int)+2∧n.var < cY d.nodes k)):=by
 have hi:=(zQQ.1 hn).1;unfold cF;by_cases h01:k=0∨k=1
 ·rw [if_pos (by simpa using h01)];have hvk:cY d.nodes k=64:=by unfold cY;rw [if_pos (by omega)]
  have:0≤k∧k < (i:Int)+2∧n.var < cY d.nodes k:=by rw [hvk];omega
  rw [decide_eq_true this]
 rw [if_neg (by simpa using h01)];by_cases h2:2≤k
 ·rw [if_pos h2, aC (by unfold I64; omega)];by_cases h3:k < (i:Int)+2
  ·have hkl : (k - 2).toNat < d.nodes.length := by omega
   rw [if_pos h3,aC (by unfold I64;omega),cO (by omega) (zQR hkl),eV hn,aA];have hvk:cY d.nodes k=d.nodes[(k - 2).toNat].var:=by unfold cY;rw [if_neg (by omega),zQR hkl]
   rw [hvk]
   congr 1
   simp only [decide_eq_decide];omega
  rw [if_neg h3,aA]
  congr 1
  symm;rw [decide_eq_false_iff_not];omega
 rw [if_neg h2,aA]
 congr 1
 symm;rw [decide_eq_false_iff_not];omega
theorem lC {l:List Bool} {i:Nat} (h:i < l.length):l[i]?=some (l.getD i false):=by
 rw [zQD,zQR h];rfl
theorem eP {d:Diagram} (h:WfD d.nodes) (hl:d.nodes.length≤1000000):∀ (fu:Nat) (x:Int) (vis:List Bool) (left:Int),InD d.nodes x→x < (fu:Int)→vis.length=d.nodes.length+2→
  ∃ b v l,aU fu x vis d left=some (b,v,l)∧v.length=vis.length∧(match dM d.nodes fu x (vis,left) with|some s=>b=true∧s=(v,l)|none=>b=false)
 | 0,x,vis,left,hx,hf,hv=>by have:=hx.1;omega
 | fu+1,x,vis,left,hx,hf,hv=>by
  have hx0:=hx.1;have hx1:=hx.2;have hxl:x.toNat < vis.length:=by omega
  unfold aU dM
  have hcond:(if x < (2:Int) then some true else bG vis x λe4=>some e4)=some (decide (x < 2∨vis.getD x.toNat false=true)):=by
   by_cases h2:x < 2
   ·rw [if_pos h2];simp [h2]
   rw [if_neg h2,cO hx0 (lC hxl)];simp [h2]
  rw [hcond,aA];dsimp only;by_cases hc:x < 2∨vis.getD x.toNat false=true
  ·rw [if_pos (by simpa using hc), if_pos hc];exact⟨true,vis,left,rfl,rfl,rfl,rfl⟩
  rw [if_neg (by simpa using hc), if_neg hc]
  have h2:2≤x:=by
   rcases Int.lt_or_le x 2 with h2|h2
   ·exact absurd (.inl h2) hc
   exact h2
  obtain⟨n,hn⟩:=hx.get h2;have hlo:=h.lo _ n hn;have hhi:=h.hi _ n hn;rw [cO hx0 (lC hxl),aC (hx.i64 (by omega)).1,cO (by omega) hn,hn];dsimp only;have ilo:InD d.nodes n.lo:=⟨hlo.1,by omega⟩;have ihi:InD d.nodes n.hi:=⟨hhi.1,by omega⟩;obtain⟨b1,v1,l1,e1,w1,r1⟩:=eP h hl fu n.lo (vis.set x.toNat true) left ilo (by omega) (by simpa using hv);rw [e1,aA];dsimp only
  cases hp1:dM d.nodes fu n.lo (vis.set x.toNat true,left) with
  | none=>
   rw [hp1] at r1;dsimp only at r1;subst r1;rw [if_pos (by rfl),aA];dsimp only;rw [if_pos rfl];exact⟨false,v1,l1,rfl,by simpa using w1,rfl⟩
  | some s1=>
   rw [hp1] at r1;dsimp only at r1;obtain⟨rfl,rfl⟩:=r1;rw [if_neg (by simp)];obtain⟨b2,v2,l2,e2,w2,r2⟩:=eP h hl fu n.hi v1 l1 ihi (by omega) (by simpa [hv] using w1);rw [e2,aA];dsimp only;simp only [Option.bind_some]
   cases hp2:dM d.nodes fu n.hi (v1,l1) with
   | none=>
    rw [hp2] at r2;dsimp only at r2;subst r2;rw [if_pos (by rfl),aA];dsimp only;rw [if_pos rfl];exact⟨false,v2,l2,rfl,by simpa using w2.trans w1,rfl⟩
   | some s2=>
    rw [hp2] at r2;dsimp only at r2;obtain⟨rfl,rfl⟩:=r2;rw [if_neg (by simp),aA];dsimp only;simp only [Option.bind_some];by_cases hxe:x=l2
    ·rw [if_pos hxe, if_neg (by simp [hxe]), aC (by unfold I64; omega)];exact⟨true,v2,l2+1,rfl,by simpa using w2.trans w1,rfl,rfl⟩
    rw [if_neg hxe, if_pos (by simp [hxe])];exact⟨false,v2,l2,rfl,by simpa using w2.trans w1,rfl⟩
theorem qA {d:Diagram} (h:WfD d.nodes) (hl:d.nodes.length≤1000000) (hr:InD d.nodes d.root):dB d=some (decide (cU d.nodes aN d.root 2=some ((d.nodes.length:Int)+2))):=by
 unfold dB dV;have ht:((d.nodes.length:Int)+2).toNat=d.nodes.length+2:=by omega
 obtain⟨b,v,l,e,_,r⟩:=eP h hl aN d.root (List.replicate (d.nodes.length+2) false) 2 hr (by have:=hr.2;unfold aN;omega) (by simp);have hv:=uP h aN hr;rw [aC (by unfold I64;omega),aC (by omega),ht,e,aA];dsimp only;rw [← hv]
 cases hp:dM d.nodes aN d.root (List.replicate (d.nodes.length+2) false,2) with
 | none=>
  rw [hp] at r;dsimp only at r;subst r;rw [if_neg (by simp),aA];simp
 | some s=>
  rw [hp] at r;dsimp only at r;obtain⟨rfl,rfl⟩:=r;rw [if_pos rfl,aC (by unfold I64;omega),aA];simp
theorem mem_find {L:List Node} {n:Node}:(L.findIdx? λm=>decide (m=n))=none↔n∉L:=by
 rw [List.findIdx?_eq_none_iff];constructor
 ·intro h hm;have:=h n hm;simp at this
 intro h x hx;simp only [decide_eq_false_iff_not];exact λe=>h (e ▸ hx)
theorem pK {d:Diagram} (ho:NOK d.nodes):∃ b,bW d=some b∧(b=true↔ValidD d):=by
 unfold bW;by_cases hl:d.nodes.length≤20000
 ·rw [if_neg (by omega)];rw [rU (ρ:=(List (Node×Int)×List Node) ⊕ Bool) (b:=(([]:List (Node×Int)),([]:List Node))) d.nodes.length (λi=>(eA (d.nodes.take i),d.nodes.take i)) (lZ d.nodes) (.inr false) (.inl (eA d.nodes,d.nodes)) rfl (by omega) (λi hi hb=>?_) (λhb=>?_)]
  ·cases ha:(List.range d.nodes.length).any (lZ d.nodes) with
   | true=>
    refine⟨false,rfl,?_⟩;constructor
    ·intro h;cases h
    intro h;have:=any_bad.2 h.2.1;rw [ha] at this;cases this
   | false=>
    have hw:=any_bad.1 ha;rw [if_neg (by simp),dL];dsimp only;by_cases h0:d.nodes.length=0
    ·rw [if_pos (by omega)];refine⟨_,rfl,?_⟩;unfold ValidD;rw [if_pos h0];simp [hl,hw]
    rw [if_neg (by omega), aC (by unfold I64; omega)];by_cases hr:d.root=(d.nodes.length:Int)+1
    ·rw [if_pos hr, qA hw.1 (by omega) (by unfold InD; omega), aA, aA];refine⟨_,rfl,?_⟩;unfold ValidD;rw [if_neg h0,decide_eq_true_eq];exact⟨λh=>⟨hl,hw,hr,h⟩,λh=>h.2.2.2⟩
    rw [if_neg hr,aA];refine⟨_,rfl,?_⟩;unfold ValidD;rw [if_neg h0];exact⟨λh=>(by cases h),λh=>absurd h.2.2.1 hr⟩
  ·have hn:=zQR hi;have hnt:(d.nodes.take i).Nodup:=eQ i hb;have hlt:(d.nodes.take i).length=i:=by simp;omega
   dsimp only;rw [if_pos (by omega),eV hn,iU hn];generalize d.nodes[i]=n at hn
   have hbad : (if n.var < (0 : Int) then some true
      else if (64 : Int) ≤ n.var then some true
       else if n.lo = n.hi then some true
        else aE (cF d i n.lo) fun r20 => if (!(r20)) = true then some true else aE (cF d i n.hi) fun r22 => some (!(r22))) = some (!decide (cC d.nodes i n)) := by
    by_cases h1:n.var < 0
    ·rw [if_pos h1,decide_eq_false (show ¬ cC d.nodes i n from λh=>by have:=h.1;omega)];rfl
    rw [if_neg h1];by_cases h2:64≤n.var
    ·rw [if_pos h2,decide_eq_false (show ¬ cC d.nodes i n from λh=>by have:=h.2.1;omega)];rfl
    rw [if_neg h2];by_cases h3:n.lo=n.hi
    ·rw [if_pos h3,decide_eq_false (show ¬ cC d.nodes i n from λh=>h.2.2.1 h3)];rfl
    rw [if_neg h3, pF hn (by omega) (by omega), aA];by_cases h4:0≤n.lo∧n.lo < (i:Int)+2∧n.var < cY d.nodes n.lo
    ·rw [decide_eq_true h4, if_neg (by simp), pF hn (by omega) (by omega), aA];rw [show decide (cC d.nodes i n)=decide (0≤n.hi∧n.hi < (i:Int)+2∧n.var < cY d.nodes n.hi) from decide_eq_decide.2 ⟨λh=>h.2.2.2.2,λh=>⟨by omega,by omega,h3,h4,h⟩⟩]
    rw [decide_eq_false h4, if_pos (by rfl), decide_eq_false (show ¬ cC d.nodes i n from fun h => h4 h.2.2.2.1)];rfl
   rw [hbad,aA]
   cases hg:decide (cC d.nodes i n) with
   | false=>rw [if_pos (by rfl),if_pos (by rfl)];rfl
   | true=>
    rw [if_neg (by simp),qD hnt (λm hm=>ho m (List.mem_of_mem_take hm)) (ho.at hn) (by omega),aA]
    cases hf:(d.nodes.take i).findIdx? (λm=>decide (m=n)) with
    | some j=>
     have hm:n∈d.nodes.take i:=by
      rcases Classical.em (n∈d.nodes.take i) with h|h
      ·exact h
      rw [mem_find.2 h] at hf;cases hf
     rw [List.findIdx?_eq_some_iff_getElem] at hf;obtain⟨hj,_,_⟩:=hf;dsimp only;rw [if_neg (by omega),if_pos (by simp [hm])];rfl
    | none=>
     have hm:=mem_find.1 hf;dsimp only;rw [if_pos (by omega),aC (by unfold I64;omega),if_neg (by simp [hm])];have:d.nodes.take (i+1)=d.nodes.take i++[n]:=by rw [List.take_add_one,hn];rfl
     rw [this]
  dsimp only;rw [if_neg (by omega),List.take_length];rfl
 rw [if_pos (by omega)];refine⟨false,rfl,?_⟩;constructor
 ·intro h;cases h
 intro h;exact absurd h.1 hl
theorem gE:∀ (m:Nat) (l:List Int),l.Nodup→(∀ y∈l,2≤y∧y < (m:Int)+2)→l.length≤m
 | 0,l,_,h=>by
  cases l with
  | nil=>exact zQW _
  | cons x r=>have:=h x (List.mem_cons_self ..);omega
 | m+1,l,hn,h=>by
  have h1:=gE m (l.erase ((m:Int)+2)) (hn.erase _) λy hy=>by
   rw [hn.mem_erase_iff] at hy;have:=h y hy.2;have hne:=hy.1;omega
  rw [List.length_erase] at h1;split at h1<;>omega
theorem fJ {D:List Node} (h:WfD D):∀ (f:Nat) (x:Int) (left:List Int),InD D x→left.Nodup→(dZ D f x left).Nodup∧∀ y∈dZ D f x left,y∈left∨2≤y∧y≤x
 | 0,x,left,hx,hn=>⟨hn,λy hy=>.inl hy⟩
 | f+1,x,left,hx,hn=>by
  unfold dZ;split
  ·exact⟨hn,λy hy=>.inl hy⟩
  split
  ·exact⟨hn,λy hy=>.inl hy⟩
  rename_i h2 hm;obtain⟨n,hn'⟩:=hx.get (by omega);have hlo:=h.lo _ n hn';have hhi:=h.hi _ n hn';have hx1:=hx.2;rw [hn'];dsimp only;have r1:=fJ h f n.lo left ⟨hlo.1,by omega⟩ hn;have r2:=fJ h f n.hi (dZ D f n.lo left) ⟨hhi.1,by omega⟩ r1.1
  have hxn:x∉dZ D f n.hi (dZ D f n.lo left):=λhmem=>by
   rcases r2.2 x hmem with h3|h3
   ·rcases r1.2 x h3 with h4|h4
    ·exact hm h4
    omega
   omega
  refine⟨?_,λy hy=>?_⟩
  ·rw [List.nodup_append];refine⟨r2.1,by simp,λa ha b hb e=>?_⟩;rw [List.mem_singleton.1 hb] at e;exact hxn (e ▸ ha)
  rcases zQN.1 hy with h3|h3
  ·rcases r2.2 y h3 with h4|h4
   ·rcases r1.2 y h4 with h5|h5
    ·exact .inl h5
    exact .inr (by omega)
   exact .inr (by omega)
  rw [List.mem_singleton.1 h3];exact .inr (by omega)
theorem fM {d:Diagram} (h:WfD d.nodes) (hl:d.nodes.length≤1000000):∀ (fu:Nat) (x:Int) (left:List Int),InD d.nodes x→x < (fu:Int)→left.Nodup→(∀ y∈left,2≤y∧y < (d.nodes.length:Int)+2)→bA fu d x left=some (dZ d.nodes fu x left)
 | 0,x,left,hx,hf,hn,hr=>by have:=hx.1;omega
 | fu+1,x,left,hx,hf,hn,hr=>by
  have hx1:=hx.2;have hll:=gE _ left hn hr;unfold bA dZ;by_cases h2:x < 2
  ·rw [if_pos h2,if_pos h2]
  rw [if_neg h2,if_neg h2];rw [oO (ρ:=Unit ⊕ List Int) left (λe=>decide (e=x)) (.inr left) (.inl ()) (by omega) ?_ ?_]
  ·by_cases hm:x∈left
   ·rw [if_pos (by rw [zQU]; exact ⟨x, hm, by simp⟩), if_pos hm];rfl
   rw [if_neg (by rw [zQU]; rintro ⟨y, hy, e⟩; exact hm (of_decide_eq_true e ▸ hy)), if_neg hm, dL];obtain⟨n,hn'⟩:=hx.get (by omega);have hlo:=h.lo _ n hn';have hhi:=h.hi _ n hn';have ilo:InD d.nodes n.lo:=⟨hlo.1,by omega⟩;have ihi:InD d.nodes n.hi:=⟨hhi.1,by omega⟩;have r1:=fJ h fu n.lo left ilo hn;have r2:=fJ h fu n.hi (dZ d.nodes fu n.lo left) ihi r1.1
   have g1:∀ y∈dZ d.nodes fu n.lo left,2≤y∧y < (d.nodes.length:Int)+2:=λy hy=>by
    rcases r1.2 y hy with h3|h3
    ·exact hr y h3
    omega
   have g2:∀ y∈dZ d.nodes fu n.hi (dZ d.nodes fu n.lo left),2≤y∧y < (d.nodes.length:Int)+2:=λy hy=>by
    rcases r2.2 y hy with h3|h3
    ·exact g1 y h3
    omega
   have hl2:=gE _ _ r2.1 g2;rw [aC (hx.i64 (by omega)).1,cO (by omega) hn',hn',fM h hl fu n.lo left ilo (by omega) hn hr,aA];rw [aC (hx.i64 (by omega)).1,cO (by omega) hn',fM h hl fu n.hi _ ihi (by omega) r1.1 g1,aA,aC (by simp;omega)]
  ·intro i e he;have hi:=(zQQ.1 he).1;rw [if_pos (by omega),eV he];by_cases hex:e=x
   ·rw [if_pos hex, if_pos (by simpa using hex)];rfl
   rw [if_neg hex,if_neg (by simpa using hex),aC (by unfold I64;omega)]
  rw [if_neg (by omega)];rfl
theorem rN {d:Diagram} (h:WfD d.nodes) (hl:d.nodes.length≤1000000) {x:Int} (hx:InD d.nodes x):dG d x []=some (dZ d.nodes aN x []):=by
 unfold dG;exact fM h hl aN x [] hx (by have:=hx.2;unfold aN;omega) List.nodup_nil λy hy=>by cases hy
theorem tI {l:List Int} {m:Nat}:(l=dS m)↔((List.range l.length).any (λi=>!decide (l[i]?=some ((i:Int)+2)))=false∧l.length=m):=by
 constructor
 ·intro h;subst h;refine⟨?_,cK m⟩;rw [List.any_eq_false];intro i hi;have hi:=List.mem_range.1 hi;rw [cK] at hi;simp [dS,hi]
 rintro⟨h1,h2⟩;rw [List.any_eq_false] at h1;refine List.ext_getElem? λi=>?_;by_cases hi:i < l.length
 ·have:=h1 i (List.mem_range.2 hi);simp only [Bool.not_eq_true,Bool.not_eq_false',decide_eq_true_eq] at this;rw [this];simp [dS,h2 ▸ hi]
 rw [List.getElem?_eq_none (by omega),List.getElem?_eq_none (by rw [cK];omega)]
theorem mL {d:Diagram} (ho:NOK d.nodes):∃ b,cD d=some b∧(b=true↔ValidD d):=by
 unfold cD;by_cases h0:d.nodes.length=0
 ·rw [if_pos (by omega)];refine⟨_,rfl,?_⟩;have hnil:d.nodes=[]:=List.length_eq_zero_iff.1 h0;unfold ValidD;rw [if_pos h0];have hw:=(any_bad (D:=d.nodes)).1 (by rw [h0];rfl);simp [h0,hw]
 rw [if_neg (by omega)];by_cases hl:d.nodes.length≤20000
 ·rw [if_neg (by omega), aC (by unfold I64; omega), aA];by_cases hr:d.root=(d.nodes.length:Int)+1
  ·rw [if_neg (by simp [hr])];rw [jB (ρ:=Unit ⊕ Bool) d.nodes.length (lZ d.nodes) (.inr false) (.inl ()) (by omega) ?_ ?_]
   ·cases ha:(List.range d.nodes.length).any (lZ d.nodes) with
    | true=>
     refine⟨false,rfl,?_⟩;constructor
     ·intro h;cases h
     intro h;have:=any_bad.2 h.2.1;rw [ha] at this;cases this
    | false=>
     have hw:=any_bad.1 ha;have hin:InD d.nodes d.root:=by unfold InD;omega
     rw [if_neg (by simp),dL,rN hw.1 (by omega) hin,aA];have inv:=fJ hw.1 aN d.root [] hin List.nodup_nil
     have hlen:=gE d.nodes.length _ inv.1 λy hy=>by
      rcases inv.2 y hy with h|h
      ·cases h
      omega
     have hvis:=fH hw.1 aN d.root 0 d.nodes.length hin (by unfold aN;omega);rw [show dS 0=[] from rfl,show ((0:Nat):Int)+2=2 from rfl] at hvis;generalize dZ d.nodes aN d.root []=l at hlen hvis;rw [jB (ρ:=Unit ⊕ Bool) l.length (λi=>!decide (l[i]?=some ((i:Int)+2))) (.inr false) (.inl ()) (by omega) ?_ ?_]
     ·have hV:ValidD d↔l=dS d.nodes.length:=by
       unfold ValidD;rw [if_neg h0,hvis];exact⟨λh=>h.2.2.2,λh=>⟨hl,hw,hr,h⟩⟩
      rw [hV,tI]
      cases hb:(List.range l.length).any λi=>!decide (l[i]?=some ((i:Int)+2)) with
      | true=>
       refine⟨false,rfl,?_⟩;simp
      | false=>
       rw [if_neg (by simp),dL];refine⟨_,rfl,?_⟩;rw [decide_eq_true_eq];constructor
       ·intro h;exact⟨rfl,by omega⟩
       intro h;have:=h.2;omega
     ·intro i hi;rw [if_pos (by omega),eV (zQR hi),aC (by unfold I64;omega),zQR hi];by_cases he:l[i]=(i:Int)+2
      ·rw [if_pos he,aC (by unfold I64;omega),if_neg (by simp [he])]
      rw [if_neg he, if_pos (by simp [he])];rfl
     rw [if_neg (by omega)];rfl
   ·intro i hi;have hn:=zQR hi;rw [if_pos (by omega),eV hn,iU hn];generalize d.nodes[i]=n at hn;by_cases hb1:n.var < 0∨63 < n.var∨n.lo=n.hi
    ·have hng:¬ cC d.nodes i n:=λh=>by
      rcases hb1 with h'|h'|h'
      ·have:=h.1;omega
      ·have:=h.2.1;omega
      exact h.2.2.1 h'
     rw [if_pos (by simpa using hb1),decide_eq_false hng,if_pos (by rfl)];rfl
    rw [if_neg (by simpa using hb1)];have hv:0≤n.var∧n.var < 64∧n.lo≠n.hi:=⟨by omega,by omega,λe=>hb1 (.inr (.inr e))⟩
    have hcond : ∀ k : Int, I64 k → (if k < (0 : Int) then some true
          else
           aB (I64 ((i : Int) + (2 : Int))) <|
           if ((i : Int) + (2 : Int)) ≤ k then some true
           else
            if (1 : Int) < k then
             aB (I64 (k - (2 : Int))) <|
             bG d.nodes (k - (2 : Int)) fun e34 => some (decide (e34.var ≤ n.var))
            else some false) = some (!decide (0 ≤ k ∧ k < (i : Int) + 2 ∧ n.var < cY d.nodes k)) := fun k hk => by
     by_cases k0:k < 0
     ·rw [if_pos k0,decide_eq_false (by omega)];rfl
     rw [if_neg k0, aC (by unfold I64; omega)];by_cases k1:(i:Int)+2≤k
     ·rw [if_pos k1,decide_eq_false (by omega)];rfl
     rw [if_neg k1];by_cases k2:1 < k
     ·have hkl : (k - 2).toNat < d.nodes.length := by omega
      have hvk:cY d.nodes k=d.nodes[(k - 2).toNat].var:=by unfold cY;rw [if_neg (by omega),zQR hkl]
      rw [if_pos k2,aC (by unfold I64 at *; omega),cO (by omega) (zQR hkl),hvk]
      congr 1
      rw [← decide_not];simp only [decide_eq_decide];omega
     rw [if_neg k2];have hvk:cY d.nodes k=64:=by unfold cY;rw [if_pos (by omega)]
     rw [hvk,decide_eq_true (by omega)];rfl
    have hi64:I64 n.lo∧I64 n.hi:=⟨(ho.at hn).2.1,(ho.at hn).2.2⟩;rw [oO [n.lo,n.hi] (λk=>!decide (0≤k∧k < (i:Int)+2∧n.var < cY d.nodes k)) (Sum.inr (Sum.inr (Sum.inr (Sum.inr false)))) (Sum.inl ()) (by simp) ?_ ?_]
    ·by_cases hg:cC d.nodes i n
     ·have hany:([n.lo,n.hi].any λk=>!decide (0≤k∧k < (i:Int)+2∧n.var < cY d.nodes k))=false:=by
       rw [List.any_cons,List.any_cons,List.any_nil,decide_eq_true hg.2.2.2.1,decide_eq_true hg.2.2.2.2];rfl
      rw [if_neg (by rw [hany];simp),dL];rw [jB i (λq=>decide (d.nodes[q]?=some n)) (Sum.inr (Sum.inr (Sum.inr false))) (Sum.inl ()) (by omega) ?_ ?_]
      ·have hmem:((List.range i).any λq=>decide (d.nodes[q]?=some n))=decide (n∈d.nodes.take i):=by
        rw [Bool.eq_iff_iff,zQU,decide_eq_true_eq];constructor
        ·rintro⟨q,hq,e⟩;have hq:=List.mem_range.1 hq;have e:=of_decide_eq_true e;exact zQM (i:=q) (by rw [List.getElem?_take,if_pos hq];exact e)
        intro hm;obtain⟨q,hq⟩:=List.getElem?_of_mem hm;rw [List.getElem?_take] at hq;split at hq
        ·exact⟨q,List.mem_range.2 (by assumption),decide_eq_true hq⟩
        cases hq
       rw [hmem,decide_eq_true hg];by_cases hm:n∈d.nodes.take i
       ·rw [decide_eq_true hm,if_pos rfl];rfl
       rw [decide_eq_false hm,if_neg (by simp),if_neg (by simp),dL,aC (by unfold I64;omega)]
      ·intro q hq;have hql:q < d.nodes.length:=by omega
       rw [if_pos (by omega),eV (zQR hql),aC ⟨ho _ (List.getElem_mem hql),ho.at hn⟩,zQR hql];by_cases he:d.nodes[q]=n
       ·rw [if_pos he, if_pos (by simp [he])];rfl
       rw [if_neg he,if_neg (by simp [he]),aC (by unfold I64;omega)]
      rw [if_neg (by omega)];rfl
     have hany:([n.lo,n.hi].any λk=>!decide (0≤k∧k < (i:Int)+2∧n.var < cY d.nodes k))=true:=by
      rw [List.any_cons,List.any_cons,List.any_nil,Bool.or_false];rcases Classical.em (0≤n.lo∧n.lo < (i:Int)+2∧n.var < cY d.nodes n.lo) with h1|h1
      ·rcases Classical.em (0≤n.hi∧n.hi < (i:Int)+2∧n.var < cY d.nodes n.hi) with h2|h2
       ·exact absurd ⟨hv.1,hv.2.1,hv.2.2,h1,h2⟩ hg
       rw [decide_eq_false h2];simp
      rw [decide_eq_false h1];simp
     rw [if_pos hany,decide_eq_false hg,if_pos (by rfl)];rfl
    ·intro j e he;have hj:=(zQQ.1 he).1
     have hie:I64 e:=by
      have:=zQM he;simp only [zQB,List.not_mem_nil,or_false] at this;rcases this with rfl|rfl
      ·exact hi64.1
      exact hi64.2
     rw [if_pos (by omega),eV he,hcond e hie,aA];by_cases hk:0≤e∧e < (i:Int)+2∧n.var < cY d.nodes e
     ·rw [decide_eq_true hk,if_neg (by simp),if_neg (by simp),aC (by simp only [List.length_cons,List.length_nil] at hj;unfold I64;omega)]
     rw [decide_eq_false hk, if_pos (by rfl), if_pos (by rfl)];rfl
    rw [if_neg (by omega)];rfl
   rw [if_neg (by omega)];rfl
  rw [if_pos (by simp [hr])];refine⟨false,rfl,?_⟩;unfold ValidD;rw [if_neg h0];exact⟨λh=>(by cases h),λh=>absurd h.2.2.1 hr⟩
 rw [if_pos (by omega), aA, if_pos rfl];refine⟨false,rfl,?_⟩;constructor
 ·intro h;cases h
 intro h;exact absurd h.1 hl
theorem rK:dA=some true:=by decide+kernel
theorem mP {D:List Node} (h:WfD D) (vals:List Bool) (F:Int→Option (Int ⊕ Int)) (hF:∀ x,InD D x→F x=if 1 < x then (match D[(x - 2).toNat]? with|some n=>some (.inl (if asg 0 vals n.var=true then n.hi else n.lo))|none=>none) else some (.inr x)):
  ∀ (f:Nat) (x:Int),InD D x→x < (f:Int)→∃ y,eJ F f x=some y∧decide (y=1)=sN D x (asg 0 vals)
 | 0,x,hx,hf=>by have:=hx.1;omega
 | f+1,x,hx,hf=>by
  simp only [eJ];rw [hF x hx];by_cases h1:1 < x
  ·obtain ⟨n, hn⟩ := hx.get (by omega);have hlo:=h.lo _ n hn;have hhi:=h.hi _ n hn;have hx1:=hx.2;rw [if_pos h1,hn];dsimp only;rw [sM h (by omega) hn]
   cases asg 0 vals n.var with
   | true=>rw [if_pos rfl];exact mP h vals F hF f n.hi ⟨hhi.1,by omega⟩ (by omega)
   | false=>rw [if_neg (by simp)];exact mP h vals F hF f n.lo ⟨hlo.1,by omega⟩ (by omega)
  rw [if_neg h1];refine⟨x,rfl,?_⟩;have hx0:=hx.1;rcases (by omega:x=0∨x=1) with e|e<;>subst e<;>rfl
theorem asg_at (vals:List Bool) {v:Int} (h:0≤v):(if v < (vals.length:Int) then bG vals v λe=>some e else some false)=some (asg 0 vals v):=by
 unfold asg;by_cases hv:v < (vals.length:Int)
 ·rw [if_pos hv, cO h (lC (by omega))];simp [h]
 rw [if_neg hv, decide_eq_true h, zQD, List.getElem?_eq_none (by omega)];rfl
theorem oM {d : Diagram} (h : WfD d.nodes) (hl : d.nodes.length ≤ 1000000) (hr : InD d.nodes d.root) (vals : List Bool) : ∃ y, bO (fun n4 =>
   if (1 : Int) < n4 then
    aB (I64 (n4 - (2 : Int))) <|
    bG d.nodes (n4 - (2 : Int)) fun e8 =>
    aE (
     if e8.var < (vals.length : Int) then
      bG vals e8.var fun e12 =>
      some e12
     else
      some false) fun x9 =>
    if x9 = true then
     some (.inl e8.hi)
    else
     some (.inl e8.lo)
   else
    aV (
     some n4)) d.root = some y ∧ decide (y = 1) = fnD d.nodes d.root 0 vals := by
 unfold fnD bO;refine mP h vals _ (λx hx=>?_) aN d.root hr (by have:=hr.2;unfold aN;omega);by_cases h1:1 < x
 ·obtain ⟨n, hn⟩ := hx.get (by omega);rw [if_pos h1,if_pos h1,aC (hx.i64 (by omega)).1,cO (by omega) hn,hn,asg_at vals (h.vars _ n hn).1,aA];dsimp only;split<;>rfl
 rw [if_neg h1,if_neg h1];rfl
theorem sL {d:Diagram} (h:WfD d.nodes) (hl:d.nodes.length≤1000000) (hr:InD d.nodes d.root) (vals:List Bool):cZ d vals=some (fnD d.nodes d.root 0 vals):=by
 unfold cZ;obtain⟨y,e,hy⟩:=oM h hl hr vals;rw [e,aA,hy]
theorem ValidD.root {d:Diagram} (h:ValidD d):InD d.nodes d.root:=by
 have h3:=h.2.2;unfold InD;split at h3
 ·omega
 have:=h3.1;omega
theorem sG {d:Diagram} (ho:NOK d.nodes) (vals:List Bool):∃ b,fZ d vals=some b∧dR d vals=some b∧(ValidD d→b=fnD d.nodes d.root 0 vals):=by
 obtain⟨b,e1,h1⟩:=pK ho;obtain⟨c,e2,h2⟩:=mL ho;have hbc:c=b:=by rw [Bool.eq_iff_iff,h1,h2]
 subst hbc;unfold fZ dR;rw [e1,e2,aA,aA]
 cases c with
 | false=>
  rw [if_pos (by rfl),if_neg (by simp),aA];exact⟨false,rfl,rfl,λh=>absurd (h1.2 h) (by simp)⟩
 | true=>
  have hV:=h1.1 rfl;obtain⟨y,e,hy⟩:=oM hV.2.1.1 (by have:=hV.1;omega) hV.root vals;rw [if_neg (by simp),if_pos rfl,sL hV.2.1.1 (by have:=hV.1;omega) hV.root,e,aA,aA,aA,hy];exact⟨_,rfl,rfl,λ_=>rfl⟩
theorem rP {d:Diagram} {vals:List Bool} (wd:d.Wf) (wv:vals.length≤reachBytes∧∀ y∈vals,True):cM d vals=some true:=by
 have ho:=nok_wf wd;unfold cM;obtain⟨b,e1,h1⟩:=pK ho;obtain⟨c,e2,h2⟩:=mL ho;have hbc:c=b:=by rw [Bool.eq_iff_iff,h1,h2]
 subst hbc;obtain⟨b,e3,e4,_⟩:=sG ho vals;split
 ·rw [rK];rfl
 rw [e1, e2, aA, aA, if_pos (by simp), e3, e4, aA, aA, if_pos (by simp), rK];rfl
end Go.Proofs.Ytdkhkhidekpfoaa
