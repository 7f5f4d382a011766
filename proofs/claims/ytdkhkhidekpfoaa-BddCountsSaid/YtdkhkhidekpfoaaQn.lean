/- Texts of this proof, joined, without what it does not use. No condition. -/
import Derived.Test.YtdkhkhidekpfoaaRows
import Derived.Test.YtdkhkhidekpfoaaQm

set_option maxHeartbeats 8000000
set_option linter.unusedSimpArgs false
set_option linter.unusedVariables false
set_option maxRecDepth 20000
namespace Go.Proofs.Ytdkhkhidekpfoaa
open Go Go.TL
noncomputable abbrev TP := Try.prog
def cb_l:List Nat:=[4,10,11,13,14,15,16,17,18,19,20,32,33,34,35,37,38,39,40,41,42,43,44,45,49,50,51,52,54,55,56,58,59]
theorem cb_all:cb_l.all (hU TP)=true:=by kernel_rfl
theorem bD {F:Nat} (h:cb_l.elem F=true):hU TP F=true:=zQT.1 cb_all F (List.elem_iff.1 h)
theorem follows:TP.follows .mixedOrders=true:=by kernel_rfl
theorem own:ownKnob TP.godebug=none:=by kernel_rfl
theorem zJ:laidOutB TP=true:=by kernel_rfl
def tab:Tab where
 lay:=[(3,false,1),(4,false,1),(22,false,1),(24,true,3),(27,false,1),(29,true,2),(36,false,1),(39,false,1),(51,true,3),(61,false,1),(78,false,1),(79,false,1),(81,true,9),(84,true,2)]
 fs:=[(24,[(0,false,1),(1,false,1),(2,false,1)]),(29,[(0,false,1),(1,false,1)]),(51,[(0,false,1),(1,false,1),(2,false,1)]),(63,[(0,false,1),(1,false,1)]),(81,[(0,true,2),(2,true,2),(4,false,1),(5,true,2),(7,false,1),(8,false,1)]),(84,[(0,false,1),(1,false,1)])]
 sel:=[(22,24,3,40),(27,51,3,24),(36,4,1,1),(54,36,1,24),(59,39,1,8),(66,3,1,8)]
 str:=[]
 boo:=[(4,())]
 con:=[]
theorem TK:TabOk TP tab:=yT (by kernel_rfl)
theorem xK:(TP.keyTypeAt 30 51&&!TP.eqGuardType TP.depth 51&&(match TP.underlying 51 with|some (.struct _)=>true|_=>false)&&[TypeDesc.int .i64,TypeDesc.int .i64,TypeDesc.int .i64].length == TP.cellsOf 51)=true:=by kernel_rfl
theorem uP:jC TP 30 51=some [.int .i64,.int .i64,.int .i64]:=by kernel_rfl
theorem lM:mty TP 61=some (51,(TP.underlying 51).getD .bool,3):=by kernel_rfl
theorem xF:mty TP 79=some (84,(TP.underlying 84).getD .bool,3):=by kernel_rfl
theorem qAB:plc TP 24=some [(0,1),(1,1),(2,1)]:=by kernel_rfl
theorem fP:plc TP 29=some [(0,1),(1,1)]:=by kernel_rfl
theorem rE:plc TP 51=some [(0,1),(1,1),(2,1)]:=by kernel_rfl
theorem plc81:plc TP 81=some [(0,2),(2,2),(4,1),(5,2),(7,1),(8,1)]:=by kernel_rfl
theorem wV:plc TP 84=some [(0,1),(1,1)]:=by kernel_rfl
theorem gT:SKey TP 51 [.int .i64,.int .i64,.int .i64]:=sKey 3 (by decide) (by kernel_rfl) (by kernel_rfl)
theorem sX:SKey TP 84 [.int .i64,.int .i64]:=sKey 3 (by decide) (by kernel_rfl) (by kernel_rfl)
theorem mL:(TP.info? 24).bind (·.zero)=Option.some (Go.Value.agg #[Go.Value.int Go.IntKind.i64 0,Go.Value.int Go.IntKind.i64 0,Go.Value.slice Option.none 0 0]):=by kernel_rfl
theorem bN:(TP.info? 29).bind (·.zero)=Option.some (Go.Value.agg #[Go.Value.slice Option.none 0 0,Go.Value.int Go.IntKind.i64 0]):=by kernel_rfl
theorem iU:(TP.info? 3).bind (·.zero)=Option.some (Go.Value.int Go.IntKind.i64 0):=by kernel_rfl
theorem fY:(TP.info? 36).bind (·.zero)=Option.some (Go.Value.slice Option.none 0 0):=by kernel_rfl
theorem sQ:(TP.info? 39).bind (·.zero)=Option.some (Go.Value.int Go.IntKind.u64 0):=by kernel_rfl
theorem mK:(TP.info? 4).bind (·.zero)=Option.some (Go.Value.bool Bool.false):=by kernel_rfl
theorem aY:(TP.info? 51).bind (·.zero)=Option.some (Go.Value.agg #[Go.Value.int Go.IntKind.i64 0,Go.Value.int Go.IntKind.i64 0,Go.Value.int Go.IntKind.i64 0]):=by kernel_rfl
theorem zero63:(TP.info? 63).bind (·.zero)=Option.some (Go.Value.agg #[Go.Value.map Option.none,Go.Value.slice Option.none 0 0]):=by kernel_rfl
theorem zero78:(TP.info? 78).bind (·.zero)=Option.some Go.Value.nilFunc:=by kernel_rfl
theorem vW:(TP.info? 81).bind (·.zero)=Option.some (Go.Value.agg #[Go.Value.slice Option.none 0 0,Go.Value.int Go.IntKind.i64 0,Go.Value.slice Option.none 0 0,Go.Value.int Go.IntKind.i64 0,Go.Value.bool Bool.false,Go.Value.map Option.none,Go.Value.slice Option.none 0 0,Go.Value.map Option.none,Go.Value.bool Bool.false]):=by kernel_rfl
theorem sP:(TP.info? 84).bind (·.zero)=Option.some (Go.Value.agg #[Go.Value.int Go.IntKind.i64 0,Go.Value.int Go.IntKind.i64 0]):=by kernel_rfl
theorem zX {w:World} {n k:Nat} {g:Gh} {mv:Nat->Bool} {o:Oper} {ev:Operand->AV} {hp:List Blk} {a b:Operand} {t':TypeId} {x y:Aa} (ho:o.op=.binOp .eql 51 a b t') (hx:ev a=.d x.enc) (hy:ev b=.d y.enc) (h1:x.ok) (h2:y.ok):RdOk ⟨TP,n,w,k,g,mv⟩ o ev hp (.d (.bool (decide (x=y)))):=
 eq_yes ho hx hy uP xK rfl rfl ⟨⟨rfl,h1.1⟩,⟨rfl,h1.2.1⟩,⟨rfl,h1.2.2⟩,trivial⟩ ⟨⟨rfl,h2.1⟩,⟨rfl,h2.2.1⟩,⟨rfl,h2.2.2⟩,trivial⟩ (pJ x y)
theorem zW {w:World} {n k:Nat} {g:Gh} {mv:Nat->Bool} {o:Oper} {ev:Operand->AV} {hp:List Blk} {a b:Operand} {t':TypeId} {x y:Aa} (ho:o.op=.binOp .neq 51 a b t') (hx:ev a=.d x.enc) (hy:ev b=.d y.enc) (h1:x.ok) (h2:y.ok):RdOk ⟨TP,n,w,k,g,mv⟩ o ev hp (.d (.bool (!decide (x=y)))):=
 eq_not ho hx hy uP xK rfl rfl ⟨⟨rfl,h1.1⟩,⟨rfl,h1.2.1⟩,⟨rfl,h1.2.2⟩,trivial⟩ ⟨⟨rfl,h2.1⟩,⟨rfl,h2.2.1⟩,⟨rfl,h2.2.2⟩,trivial⟩ (pJ x y)
theorem hJ : KeyG [.int .i64, .int .i64, .int .i64] Aa.enc Aa.okb := ⟨fun x h => by
 have h : Aa.ok x := of_decide_eq_true h
 exact ⟨_, [.int .i64 x.var, .int .i64 x.lo, .int .i64 x.hi], rfl, rfl, ⟨⟨rfl, h.1⟩, ⟨rfl, h.2.1⟩, ⟨rfl, h.2.2⟩, trivial⟩⟩, fun a b h => by
 cases a; cases b; simpa [Aa.enc] using h⟩
theorem tS : KeyG [.int .i64, .int .i64] Ae.enc Ae.okb := ⟨fun x h => by
 have h : Ae.ok x := of_decide_eq_true h
 exact ⟨_, [.int .i64 x.a, .int .i64 x.b], rfl, rfl, ⟨⟨rfl, h.1⟩, ⟨rfl, h.2⟩, trivial⟩⟩, fun a b h => by
 cases a; cases b; simpa [Ae.enc] using h⟩
theorem HasTy.fld {P:Go.Program} {cs:List D} {fs:Array Field} (h2:∀ (i:Nat) (f:Field),fs[i]?=some f->HasTy P f.type ((cs.drop f.offset).take (P.cellsOf f.type))) {i off n:Nat} {f:Field} {t:TypeId} (hf:fs[i]?=some f) (ht:f.type=t) (ho:f.offset=off) (hc:P.cellsOf t=n):HasTy P t ((cs.drop off).take n):=by
 have:=h2 i f hf;rw [ht,ho,hc] at this;exact this
theorem qK:TP.cellsOf 3=1:=by kernel_rfl
theorem ty3 (cs:List D) (h:HasTy TP 3 cs):∃ x:Int,I64 x/\aL TP 3 cs=(D.int .i64) x:=by
 obtain⟨x,rfl,w⟩:=h.int_inv Try.underlying3;exact⟨x,w,by simp [aL,Try.underlying3]⟩
theorem uT:TP.cellsOf 51=3:=by kernel_rfl
theorem zG {cs:List D} (h:cs.length=3):∃ a0 a1 a2,cs=[a0,a1,a2]:=by
 match cs,h with
 | [a0,a1,a2],_=>exact⟨a0,a1,a2,rfl⟩
theorem ty51c (cs:List D) (h:HasTy TP 51 cs):∃ x:Aa,x.Wf/\cs=[.int .i64 x.var,.int .i64 x.lo,.int .i64 x.hi]:=by
 obtain⟨h1,h2⟩:=h.struct_inv Try.underlying51;rw [uT] at h1;obtain⟨a0,a1,a2,rfl⟩:=zG h1;obtain⟨x0,e0,w0⟩:=(show HasTy TP 3 [a0] from HasTy.fld h2 (i:=0) rfl rfl rfl qK).int_inv Try.underlying3;replace e0:[a0]=[D.int .i64 x0]:=e0;simp only [List.cons.injEq,and_true] at e0;obtain⟨x1,e1,w1⟩:=(show HasTy TP 3 [a1] from HasTy.fld h2 (i:=1) rfl rfl rfl qK).int_inv Try.underlying3;replace e1:[a1]=[D.int .i64 x1]:=e1;simp only [List.cons.injEq,and_true] at e1;obtain⟨x2,e2,w2⟩:=(show HasTy TP 3 [a2] from HasTy.fld h2 (i:=2) rfl rfl rfl qK).int_inv Try.underlying3;replace e2:[a2]=[D.int .i64 x2]:=e2;simp only [List.cons.injEq,and_true] at e2;subst e0 e1 e2;exact⟨⟨x0,x1,x2⟩,⟨w0,w1,w2⟩,rfl⟩
theorem ty51 (cs:List D) (h:HasTy TP 51 cs):∃ x:Aa,x.Wf/\aL TP 51 cs=x.enc:=by
 obtain⟨x,w,rfl⟩:=ty51c cs h;exact⟨x,w,by simp [aL,Try.underlying51,Aa.enc]⟩
theorem zP:TP.cellsOf 29=2:=by kernel_rfl
theorem zQ:TP.cellsOf 27=1:=by kernel_rfl
theorem zH {cs:List D} (h:cs.length=2):∃ a0 a1,cs=[a0,a1]:=by
 match cs,h with
 | [a0,a1],_=>exact⟨a0,a1,rfl⟩
theorem ty29c (cs:List D) (h:HasTy TP 29 cs):∃ x:Ab,x.Wf/\cs=[.sl 3 (x.nodes.map Aa.enc),.int .i64 x.root]:=by
 obtain⟨h1,h2⟩:=h.struct_inv Try.underlying29;rw [zP] at h1;obtain⟨a0,a1,rfl⟩:=zH h1;obtain⟨x0,e0,l0,m0⟩:=(show HasTy TP 27 [a0] from HasTy.fld h2 (i:=0) rfl rfl rfl zQ).list Try.underlying27 Aa.enc Aa.Wf (λcs _ h=>ty51 cs h);rw [uT] at e0;have w0:=And.intro l0 m0;replace e0:[a0]=[D.sl 3 (x0.map Aa.enc)]:=e0;simp only [List.cons.injEq,and_true] at e0;obtain⟨x1,e1,w1⟩:=(show HasTy TP 3 [a1] from HasTy.fld h2 (i:=1) rfl rfl rfl qK).int_inv Try.underlying3;replace e1:[a1]=[D.int .i64 x1]:=e1;simp only [List.cons.injEq,and_true] at e1;subst e0 e1;exact⟨⟨x0,x1⟩,⟨w0,w1⟩,rfl⟩
theorem ty29 (cs:List D) (h:HasTy TP 29 cs):∃ x:Ab,x.Wf/\aL TP 29 cs=x.enc:=by
 obtain⟨x,w,rfl⟩:=ty29c cs h;exact⟨x,w,by simp [aL,Try.underlying29,Ab.enc]⟩
def kD (p0:Int):Option Ac:=
 some (⟨(3:Int),p0,([]:List Ac)⟩:Ac)
def dK:Nat->Ac->Int->Int->Int->Option (Bool×Int)
 | 0,_,_,_,_=>none
 | fu+1,p0,p1,p2,p3=>
 if ((decide ((12:Int) < p2))||(decide (p3=(0:Int))))=true then
 some (false,p3)
 else
 aC (I64 (p3 - (1:Int))) <|
 eJ (
 aD (
 if p0.op=(1:Int) then
 some (decide (p0.op=(1:Int)))
 else
 some (decide (p0.op=(2:Int)))) λx5=>
 if x5=true then
 aX (
 some (((decide (p0.var=(0:Int)))&&(decide ((p0.args.length:Int)=(0:Int)))),(p3 - (1:Int))))
 else
 if p0.op=(3:Int) then
 aX (
 some (((decide ((0:Int)<=p0.var))&&((decide (p0.var < p1))&&(decide ((p0.args.length:Int)=(0:Int))))),(p3 - (1:Int))))
 else
 if p0.op=(4:Int) then
 if (p0.args.length:Int)=(1:Int) then
 some (.inl ())
 else
 aX (
 some (false,(p3 - (1:Int))))
 else
 if p0.op=(5:Int) then
 some (.inl ())
 else
 if p0.op=(6:Int) then
 some (.inl ())
 else
 aX (
 some (false,(p3 - (1:Int))))) λ_=>
 if p0.var=(0:Int) then
 eJ (
 bR (λ(x27,c28)=>
 if x27 < (p0.args.length:Int) then
 bH p0.args x27 λe31=>
 aC (I64 (p2+(1:Int))) <|
 aD ((dK fu) e31 p1 (p2+(1:Int)) c28) λ(r34,r35)=>
 if (!(r34))=true then
 aX (
 aX (
 some (false,r35)))
 else
 aC (I64 (x27+(1:Int))) <|
 some (.inl ((x27+(1:Int)),r35))
 else
 aX (
 some (.inl c28))) ((0:Int),(p3 - (1:Int)))) λc22=>
 some (true,c22)
 else
 some (false,(p3 - (1:Int)))
def nM (p0:Ac) (p1:Int) (p2:Int) (p3:Int):Option (Bool×Int):=dK aO p0 p1 p2 p3
def jO (p0:Ac) (p1:Int):Option Bool:=
 aD (nM p0 p1 (1:Int) (20000:Int)) λ(r2,r3)=>
 some r2
def iB (p0:Int):Option Int:=
 if p0 < (2:Int) then
 aC (I64 ((1:Int) - p0)) <|
 some ((1:Int) - p0)
 else
 some p0
def gJ (p0:Ab):Option Ab:=
 aD (iB p0.root) λr1=>
 aD (
 bR (λ(x7,b8)=>
 if x7 < (p0.nodes.length:Int) then
 bH p0.nodes x7 λe11=>
 aD (iB e11.lo) λr12=>
 aD (iB e11.hi) λr13=>
 aC ((b8++([(⟨e11.var,r12,r13⟩:Aa)]:List Aa)).length<=1000000000) <|
 aC (I64 (x7+(1:Int))) <|
 some (.inl ((x7+(1:Int)),(b8++([(⟨e11.var,r12,r13⟩:Aa)]:List Aa))))
 else
 aX (
 some b8)) ((0:Int),([]:List Aa))) λb2=>
 some (⟨b2,r1⟩:Ab)
def eM (p0:Bool):Option Ab:=
 if p0=true then
 some (⟨([]:List Aa),(1:Int)⟩:Ab)
 else
 some (⟨([]:List Aa),(0:Int)⟩:Ab)
def dL (p0:Ab) (p1:Int):Option Int:=
 if p1 < (2:Int) then
 some (64:Int)
 else
 aC (I64 (p1 - (2:Int))) <|
 bH p0.nodes (p1 - (2:Int)) λe3=>
 some e3.var
def dM (p0:Ab) (p1:Int) (p2:Int):Option (Int×Int):=
 aD (dL p0 p1) λr1=>
 if r1=p2 then
 aC (I64 (p1 - (2:Int))) <|
 bH p0.nodes (p1 - (2:Int)) λe4=>
 some (e4.lo,e4.hi)
 else
 some (p1,p1)
def bL (p0:Ad) (p1:Aa):Option (Int×Ad):=
 rK p0.nodes.index (
 aC (Aa.okb p1=true) <|
 aD (
 some ()) λ_=>
 aC (dJ Aa.okb ([]:List (Aa×Int)) p1) <|
 aC ((p0.nodes.list++([p1]:List Aa)).length<=1000000000) <|
 aC (I64 (((p0.nodes.list++([p1]:List Aa)).length:Int) - (1:Int))) <|
 some ((((p0.nodes.list++([p1]:List Aa)).length:Int) - (1:Int)),(⟨p0.a,p0.b,p0.all,(⟨(gA ([]:List (Aa×Int)) p1 (p0.nodes.list.length:Int)),(p0.nodes.list++([p1]:List Aa))⟩:Node'),p0.done,p0.full⟩:Ad))) (
 aC (dJ Aa.okb p0.nodes.index p1) <|
 if ((cA p0.nodes.index p1).isSome)=true then
 some (((cA p0.nodes.index p1).getD (0:Int)),p0)
 else
 aD (
 some ()) λ_=>
 aC (dJ Aa.okb p0.nodes.index p1) <|
 aC ((p0.nodes.list++([p1]:List Aa)).length<=1000000000) <|
 aC (I64 (((p0.nodes.list++([p1]:List Aa)).length:Int) - (1:Int))) <|
 some ((((p0.nodes.list++([p1]:List Aa)).length:Int) - (1:Int)),(⟨p0.a,p0.b,p0.all,(⟨(gA p0.nodes.index p1 (p0.nodes.list.length:Int)),(p0.nodes.list++([p1]:List Aa))⟩:Node'),p0.done,p0.full⟩:Ad)))
def bC:Nat->Ad->Ae->Option (Int×Ad)
 | 0,_,_=>none
 | fu+1,p0,p1=>
 if (p0.full)=true then
 some ((0:Int),p0)
 else
 aD (
 if (!(p0.all))=true then
 some ((1:Int),(0:Int))
 else
 some ((0:Int),(1:Int))) λ(decides2,other3)=>
 if ((decide (p1.a=decides2))||(decide (p1.b=decides2)))=true then
 some (decides2,p0)
 else
 if ((decide (p1.a=other3))&&(decide (p1.b=other3)))=true then
 some (other3,p0)
 else
 aC (dJ Ae.okb p0.done p1) <|
 if ((cA p0.done p1).isSome)=true then
 some (((cA p0.done p1).getD (0:Int)),p0)
 else
 aD (dL p0.a p1.a) λr12=>
 aD (dL p0.b p1.b) λr13=>
 aD (dM p0.a p1.a (min r12 r13)) λ(r15,r16)=>
 aD (dM p0.b p1.b (min r12 r13)) λ(r18,r19)=>
 aD ((bC fu) p0 (⟨r15,r18⟩:Ae)) λ(r21,r22)=>
 aD (
 aD ((bC fu) (⟨p0.a,p0.b,p0.all,r22.nodes,r22.done,r22.full⟩:Ad) (⟨r16,r19⟩:Ae)) λ(r30,r31)=>
 if r30=r21 then
 some (r21,r31.full,r31.nodes.index,r31.nodes.list,r31.done)
 else
 aD (bL (⟨p0.a,p0.b,p0.all,r31.nodes,r31.done,r31.full⟩:Ad) (⟨(min r12 r13),r21,r30⟩:Aa)) λ(r34,r35)=>
 aC (I64 (r34+(2:Int))) <|
 some ((r34+(2:Int)),r31.full,r35.nodes.index,r35.nodes.list,r31.done)) λ(x23,c24,m25,b26,m27)=>
 if (20000:Int) < (b26.length:Int) then
 aC (dJ Ae.okb m27 p1) <|
 some (x23,(⟨p0.a,p0.b,p0.all,(⟨m25,b26⟩:Node'),(gA m27 p1 x23),true⟩:Ad))
 else
 aC (dJ Ae.okb m27 p1) <|
 some (x23,(⟨p0.a,p0.b,p0.all,(⟨m25,b26⟩:Node'),(gA m27 p1 x23),c24⟩:Ad))
def fV (p0:Ad) (p1:Ae):Option (Int×Ad):=bC aO p0 p1
def iD (p0:Ab) (p1:Ab) (p2:Bool):Option (Ab×Bool):=
 aD (fV (⟨p0,p1,p2,(⟨([]:List (Aa×Int)),([]:List Aa)⟩:Node'),([]:List (Ae×Int)),false⟩:Ad) (⟨p0.root,p1.root⟩:Ae)) λ(r2,r3)=>
 if (r3.full)=true then
 some ((⟨([]:List Aa),(0:Int)⟩:Ab),false)
 else
 some ((⟨r3.nodes.list,r2⟩:Ab),true)
def cH:Nat->Ac->Option (Ab×Bool)
 | 0,_=>none
 | fu+1,p0=>
 eJ (
 if p0.op=(1:Int) then
 aX (
 some ((⟨([]:List Aa),(0:Int)⟩:Ab),true))
 else
 if p0.op=(3:Int) then
 aX (
 some ((⟨([(⟨p0.var,(0:Int),(1:Int)⟩:Aa)]:List Aa),(2:Int)⟩:Ab),true))
 else
 if p0.op=(4:Int) then
 bH p0.args (0:Int) λe7=>
 aD ((cH fu) e7) λ(r9,r10)=>
 aD (gJ r9) λr11=>
 aX (
 some (r11,r10))
 else
 aD (
 if p0.op=(5:Int) then
 some (decide (p0.op=(5:Int)))
 else
 some (decide (p0.op=(6:Int)))) λx13=>
 if x13=true then
 aD (eM (decide (p0.op=(5:Int)))) λr17=>
 eJ (
 bR (λ(x25,c26,c27)=>
 if x25 < (p0.args.length:Int) then
 bH p0.args x25 λe30=>
 aD ((cH fu) e30) λ(r32,r33)=>
 if (!(r33))=true then
 aX (
 aX (
 aX (
 some ((⟨([]:List Aa),(0:Int)⟩:Ab),false))))
 else
 aD (iD (⟨c26,c27⟩:Ab) r32 (decide (p0.op=(5:Int)))) λ(r39,r40)=>
 if (!(r40))=true then
 aX (
 aX (
 aX (
 some ((⟨([]:List Aa),(0:Int)⟩:Ab),false))))
 else
 aC (I64 (x25+(1:Int))) <|
 some (.inl ((x25+(1:Int)),r39.nodes,r39.root))
 else
 aX (
 some (.inl (c26,c27)))) ((0:Int),r17.nodes,r17.root)) λ(c18,c19)=>
 aX (
 some ((⟨c18,c19⟩:Ab),true))
 else
 some (.inl ())) λ_=>
 aD (eM true) λr48=>
 some (r48,true)
def lP (p0:Ac):Option (Ab×Bool):=cH aO p0
def uC (p0:Ac) (p1:Int):Option (Ab×Int):=
 if (64:Int) < p1 then
 some ((⟨([]:List Aa),(0:Int)⟩:Ab),(2:Int))
 else
 aD (
 if p1 < (0:Int) then
 some true
 else
 aD (jO p0 p1) λr5=>
 some (!(r5))) λx2=>
 if x2=true then
 some ((⟨([]:List Aa),(0:Int)⟩:Ab),(1:Int))
 else
 aD (lP p0) λ(r8,r9)=>
 if (!(r9))=true then
 some ((⟨([]:List Aa),(0:Int)⟩:Ab),(2:Int))
 else
 some (r8,(0:Int))
def dB (p0:Ab) (p1:Int) (p2:Int):Option Bool:=
 if ((decide (p2=(0:Int)))||(decide (p2=(1:Int))))=true then
 some true
 else
 aD (
 if (2:Int)<=p2 then
 aC (I64 (p1+(2:Int))) <|
 if p2 < (p1+(2:Int)) then
 aC (I64 (p2 - (2:Int))) <|
 bH p0.nodes (p2 - (2:Int)) λe9=>
 bH p0.nodes p1 λe10=>
 some (decide (e10.var < e9.var))
 else
 some false
 else
 some false) λx3=>
 some x3
def aZ:Nat->Int->(List Bool)->Ab->Int->Option (Bool×(List Bool)×Int)
 | 0,_,_,_,_=>none
 | fu+1,p0,p1,p2,p4=>
 aD (
 if p0 < (2:Int) then
 some true
 else
 bH p1 p0 λe4=>
 some e4) λx1=>
 if x1=true then
 some (true,p1,p4)
 else
 bH p1 p0 λe6=>
 aC (I64 (p0 - (2:Int))) <|
 bH p2.nodes (p0 - (2:Int)) λe8=>
 aD (
 aD ((aZ fu) e8.lo (p1.set p0.toNat true) p2 p4) λ(r14,r15,r16)=>
 if (!(r14))=true then
 some (true,r15,r16)
 else
 aD ((aZ fu) e8.hi r15 p2 r16) λ(r19,r20,r21)=>
 if (!(r19))=true then
 some (true,r20,r21)
 else
 some (!(decide (p0=r21)),r20,r21)) λ(x9,b10,c11)=>
 if x9=true then
 some (false,b10,c11)
 else
 aC (I64 (c11+(1:Int))) <|
 some (true,b10,(c11+(1:Int)))
def eY (p0:Int) (p1:(List Bool)) (p2:Ab) (p4:Int):Option (Bool×(List Bool)×Int):=aZ aO p0 p1 p2 p4
def eE (p0:Ab):Option Bool:=
 aC (I64 ((p0.nodes.length:Int)+(2:Int))) <|
 aC (0<=((p0.nodes.length:Int)+(2:Int))/\((p0.nodes.length:Int)+(2:Int))<=1000000000) <|
 aD (
 aD (eY p0.root (List.replicate ((p0.nodes.length:Int)+(2:Int)).toNat false) p0 (2:Int)) λ(r8,r9,r10)=>
 if r8=true then
 aC (I64 ((p0.nodes.length:Int)+(2:Int))) <|
 some (decide (r10=((p0.nodes.length:Int)+(2:Int))),r9,r10)
 else
 some (false,r9,r10)) λ(x3,b4,c5)=>
 some x3
def aN (p0:Node') (p1:Aa):Option (Int×Node'):=
 rK p0.index (
 aC (Aa.okb p1=true) <|
 aD (
 some ()) λ_=>
 aC (dJ Aa.okb ([]:List (Aa×Int)) p1) <|
 aC ((p0.list++([p1]:List Aa)).length<=1000000000) <|
 aC (I64 (((p0.list++([p1]:List Aa)).length:Int) - (1:Int))) <|
 some ((((p0.list++([p1]:List Aa)).length:Int) - (1:Int)),(⟨(gA ([]:List (Aa×Int)) p1 (p0.list.length:Int)),(p0.list++([p1]:List Aa))⟩:Node'))) (
 aC (dJ Aa.okb p0.index p1) <|
 if ((cA p0.index p1).isSome)=true then
 some (((cA p0.index p1).getD (0:Int)),p0)
 else
 aD (
 some ()) λ_=>
 aC (dJ Aa.okb p0.index p1) <|
 aC ((p0.list++([p1]:List Aa)).length<=1000000000) <|
 aC (I64 (((p0.list++([p1]:List Aa)).length:Int) - (1:Int))) <|
 some ((((p0.list++([p1]:List Aa)).length:Int) - (1:Int)),(⟨(gA p0.index p1 (p0.list.length:Int)),(p0.list++([p1]:List Aa))⟩:Node')))
def dT (p0:Ab):Option Bool:=
 if (20000:Int) < (p0.nodes.length:Int) then
 some false
 else
 eJ (
 bR (λ(x9,b10,b11)=>
 if x9 < (p0.nodes.length:Int) then
 bH p0.nodes x9 λe14=>
 aD (
 if e14.var < (0:Int) then
 some true
 else
 if (64:Int)<=e14.var then
 some true
 else
 if e14.lo=e14.hi then
 some true
 else
 aD (dB p0 x9 e14.lo) λr20=>
 if (!(r20))=true then
 some true
 else
 aD (dB p0 x9 e14.hi) λr22=>
 some (!(r22))) λx15=>
 if x15=true then
 aX (
 aX (
 some false))
 else
 aD (aN (⟨b10,b11⟩:Node') e14) λ(r27,r28)=>
 if r27=x9 then
 aC (I64 (x9+(1:Int))) <|
 some (.inl ((x9+(1:Int)),r28.index,r28.list))
 else
 aX (
 aX (
 some false))
 else
 aX (
 some (.inl (b10,b11)))) ((0:Int),([]:List (Aa×Int)),([]:List Aa))) λ(m2,b3)=>
 if (p0.nodes.length:Int)=(0:Int) then
 some ((decide (p0.root=(0:Int)))||(decide (p0.root=(1:Int))))
 else
 aD (
 aC (I64 ((p0.nodes.length:Int)+(1:Int))) <|
 if p0.root=((p0.nodes.length:Int)+(1:Int)) then
 aD (eE p0) λr40=>
 some r40
 else
 some false) λx36=>
 some x36
def eP (p0:Ab) (p1:Int):Option Bool:=
 eJ (
 bR (λx3=>
 if x3 < (p0.nodes.length:Int) then
 bH p0.nodes x3 λe6=>
 if p1<=e6.var then
 aX (
 aX (
 some false))
 else
 aC (I64 (x3+(1:Int))) <|
 some (.inl (x3+(1:Int)))
 else
 aX (
 some (.inl ()))) (0:Int)) λ_=>
 some true
def cE (p0:Int) (p1:Int) (p2:Ab):Option Int:=
 if p0 < (2:Int) then
 some p1
 else
 aC (I64 (p0 - (2:Int))) <|
 bH p2.nodes (p0 - (2:Int)) λe3=>
 some e3.var
def cD (p0:Ab) (p1:Int):Option (Int×Int):=
 if ((decide (p1 < (0:Int)))||(decide ((62:Int) < p1)))=true then
 some ((0:Int),(2:Int))
 else
 aD (
 aD (dT p0) λr5=>
 if (!(r5))=true then
 some true
 else
 aD (eP p0 p1) λr7=>
 some (!(r7))) λx3=>
 if x3=true then
 some ((0:Int),(1:Int))
 else
 aD (
 bR (λ(x14,b15)=>
 if x14 < (p0.nodes.length:Int) then
 bH p0.nodes x14 λe18=>
 bH b15 e18.lo λe19=>
 aD (cE e18.lo p1 p0) λr20=>
 aC (I64 (r20 - e18.var)) <|
 aC (I64 ((r20 - e18.var) - (1:Int))) <|
 aC (0<=((r20 - e18.var) - (1:Int))) <|
 bH b15 e18.hi λe24=>
 aD (cE e18.hi p1 p0) λr25=>
 aC (I64 (r25 - e18.var)) <|
 aC (I64 ((r25 - e18.var) - (1:Int))) <|
 aC (0<=((r25 - e18.var) - (1:Int))) <|
 aC ((b15++([(IntKind.u64.wrap ((IntKind.u64.wrap (e19 * (2 ^ (min ((r20 - e18.var) - (1:Int)).toNat IntKind.u64.bits))))+(IntKind.u64.wrap (e24 * (2 ^ (min ((r25 - e18.var) - (1:Int)).toNat IntKind.u64.bits))))))]:List Int)).length<=1000000000) <|
 aC (I64 (x14+(1:Int))) <|
 some (.inl ((x14+(1:Int)),(b15++([(IntKind.u64.wrap ((IntKind.u64.wrap (e19 * (2 ^ (min ((r20 - e18.var) - (1:Int)).toNat IntKind.u64.bits))))+(IntKind.u64.wrap (e24 * (2 ^ (min ((r25 - e18.var) - (1:Int)).toNat IntKind.u64.bits))))))]:List Int))))
 else
 aX (
 some b15)) ((0:Int),([(0:Int),(1:Int)]:List Int))) λb9=>
 bH b9 p0.root λe32=>
 aD (cE p0.root p1 p0) λr33=>
 aC (0<=r33) <|
 some ((IntKind.u64.wrap (e32 * (2 ^ (min r33.toNat IntKind.u64.bits)))),(0:Int))
def bX (p0:Ab) (p1:Int):Option ((List Bool)×Bool):=
 aD (
 if p1 < (0:Int) then
 some true
 else
 if (64:Int) < p1 then
 some true
 else
 aD (dT p0) λr5=>
 if (!(r5))=true then
 some true
 else
 aD (eP p0 p1) λr7=>
 if (!(r7))=true then
 some true
 else
 some (decide (p0.root=(0:Int)))) λx1=>
 if x1=true then
 some (([]:List Bool),false)
 else
 aC (0<=p1/\p1<=1000000000) <|
 aD (
 bR (λ(at16,b17)=>
 if (1:Int) < at16 then
 aC (I64 (at16 - (2:Int))) <|
 bH p0.nodes (at16 - (2:Int)) λe21=>
 if e21.lo=(0:Int) then
 bH b17 e21.var λe23=>
 some (.inl (e21.hi,(b17.set e21.var.toNat true)))
 else
 some (.inl (e21.lo,b17))
 else
 aX (
 some b17)) (p0.root,(List.replicate p1.toNat false))) λb11=>
 some (b11,true)
def jI (p0:Ab) (p1:Ab):Option Bool:=
 if ((!(decide ((p0.nodes.length:Int)=(p1.nodes.length:Int))))||(!(decide (p0.root=p1.root))))=true then
 some false
 else
 eJ (
 bR (λx5=>
 if x5 < (p0.nodes.length:Int) then
 bH p0.nodes x5 λe8=>
 bH p1.nodes x5 λe9=>
 aC (Aa.ok e8/\Aa.ok e9) <|
 if e8=e9 then
 aC (I64 (x5+(1:Int))) <|
 some (.inl (x5+(1:Int)))
 else
 aX (
 aX (
 some false))
 else
 aX (
 some (.inl ()))) (0:Int)) λ_=>
 some true
def eC:Option Bool:=
 aD (kD (0:Int)) λr1=>
 aD (kD (1:Int)) λr2=>
 aD (uC (⟨(5:Int),(0:Int),([r1,r2]:List Ac)⟩:Ac) (2:Int)) λ(r4,r5)=>
 aD (cD r4 (3:Int)) λ(r7,r8)=>
 aD (bX r4 (2:Int)) λ(r10,r11)=>
 aD (
 if r5=(0:Int) then
 if r8=(0:Int) then
 if r7=(2:Int) then
 if r11=true then
 if (r10.length:Int)=(2:Int) then
 bH r10 (0:Int) λe19=>
 if e19=true then
 bH r10 (1:Int) λe21=>
 if e21=true then
 aD (jI r4 (⟨([(⟨(1:Int),(0:Int),(1:Int)⟩:Aa),(⟨(0:Int),(0:Int),(2:Int)⟩:Aa)]:List Aa),(3:Int)⟩:Ab)) λr23=>
 if r23=true then
 aD (dT r4) λr25=>
 some r25
 else
 some false
 else
 some false
 else
 some false
 else
 some false
 else
 some false
 else
 some false
 else
 some false
 else
 some false) λx12=>
 some x12
def cJ (p0:Int):Option ((List (List Bool))):=
 aD (
 bR (λ(k6,b7)=>
 aC (0<=p0) <|
 if k6 < (IntKind.i64.wrap ((1:Int) * (2 ^ (min p0.toNat IntKind.i64.bits)))) then
 aD (
 aD (
 aC (I64 (p0 - (1:Int))) <|
 bR (λ(i19,b20)=>
 if (0:Int)<=i19 then
 aC (0<=i19) <|
 aC ((b20++([decide ((IntKind.i64.wrap (BitVec.ofInt IntKind.i64.bits (k6.fdiv (2 ^ (min i19.toNat IntKind.i64.bits))) &&& BitVec.ofInt IntKind.i64.bits (1:Int)).toNat)=(1:Int))]:List Bool)).length<=1000000000) <|
 aC (I64 (i19 - (1:Int))) <|
 some (.inl ((i19 - (1:Int)),(b20++([decide ((IntKind.i64.wrap (BitVec.ofInt IntKind.i64.bits (k6.fdiv (2 ^ (min i19.toNat IntKind.i64.bits))) &&& BitVec.ofInt IntKind.i64.bits (1:Int)).toNat)=(1:Int))]:List Bool))))
 else
 aX (
 some b20)) ((p0 - (1:Int)),([]:List Bool))) λb13=>
 aC ((b7++([b13]:List (List Bool))).length<=1000000000) <|
 some (b7++([b13]:List (List Bool)))) λb11=>
 aC (I64 (k6+(1:Int))) <|
 some (.inl ((k6+(1:Int)),b11))
 else
 aX (
 some b7)) ((0:Int),([]:List (List Bool)))) λb1=>
 some b1
def bB (p0:Ab):Option Int:=
 aD (
 bR (λ(w5,x6)=>
 if x6 < (p0.nodes.length:Int) then
 bH p0.nodes x6 λe9=>
 some (.inl ((max w5 (IntKind.i64.wrap (e9.var+(1:Int)))),(IntKind.i64.wrap (x6+(1:Int)))))
 else
 aX (
 some w5)) ((0:Int),(0:Int))) λw1=>
 some w1
def eB (p0:Ab):Option Bool:=
 aD (
 if (p0.nodes.length:Int)<=(200:Int) then
 aD (bB p0) λr4=>
 some (decide (r4<=(10:Int)))
 else
 some false) λx1=>
 some x1
def bF:Nat->Ab->Int->(List Int)->Option ((List Int))
 | 0,_,_,_=>none
 | fu+1,p0,p1,p2=>
 if p1 < (2:Int) then
 some p2
 else
 eJ (
 bR (λx4=>
 if x4 < (p2.length:Int) then
 bH p2 x4 λe7=>
 if e7=p1 then
 aX (
 aX (
 some p2))
 else
 aC (I64 (x4+(1:Int))) <|
 some (.inl (x4+(1:Int)))
 else
 aX (
 some (.inl ()))) (0:Int)) λ_=>
 aC (I64 (p1 - (2:Int))) <|
 bH p0.nodes (p1 - (2:Int)) λe14=>
 aD ((bF fu) p0 e14.lo p2) λr15=>
 aC (I64 (p1 - (2:Int))) <|
 bH p0.nodes (p1 - (2:Int)) λe17=>
 aD ((bF fu) p0 e17.hi r15) λr18=>
 aC ((r18++([p1]:List Int)).length<=1000000000) <|
 some (r18++([p1]:List Int))
def eL (p0:Ab) (p1:Int) (p2:(List Int)):Option ((List Int)):=bF aO p0 p1 p2
def cZ (p0:Ab):Option Bool:=
 if (p0.nodes.length:Int)=(0:Int) then
 some ((decide (p0.root=(0:Int)))||(decide (p0.root=(1:Int))))
 else
 aD (
 if (20000:Int) < (p0.nodes.length:Int) then
 some true
 else
 aC (I64 ((p0.nodes.length:Int)+(1:Int))) <|
 some (!(decide (p0.root=((p0.nodes.length:Int)+(1:Int)))))) λx3=>
 if x3=true then
 some false
 else
 eJ (
 bR (λx10=>
 if x10 < (p0.nodes.length:Int) then
 eJ (
 bH p0.nodes x10 λe14=>
 if ((decide (e14.var < (0:Int)))||((decide ((63:Int) < e14.var))||(decide (e14.lo=e14.hi))))=true then
 aX (
 aX (
 aX (
 some false)))
 else
 eJ (
 bR (λx23=>
 if x23 < (([e14.lo,e14.hi]:List Int).length:Int) then
 bH ([e14.lo,e14.hi]:List Int) x23 λe26=>
 aD (
 if e26 < (0:Int) then
 some true
 else
 aC (I64 (x10+(2:Int))) <|
 if (x10+(2:Int))<=e26 then
 some true
 else
 if (1:Int) < e26 then
 aC (I64 (e26 - (2:Int))) <|
 bH p0.nodes (e26 - (2:Int)) λe34=>
 some (decide (e34.var<=e14.var))
 else
 some false) λx27=>
 if x27=true then
 aX (
 aX (
 aX (
 aX (
 aX (
 some false)))))
 else
 aC (I64 (x23+(1:Int))) <|
 some (.inl (x23+(1:Int)))
 else
 aX (
 some (.inl ()))) (0:Int)) λ_=>
 bR (λx44=>
 if x44 < x10 then
 bH p0.nodes x44 λe47=>
 aC (Aa.ok e47/\Aa.ok e14) <|
 if e47=e14 then
 aX (
 aX (
 aX (
 aX (
 some false))))
 else
 aC (I64 (x44+(1:Int))) <|
 some (.inl (x44+(1:Int)))
 else
 aX (
 some (.inl ()))) (0:Int)) λ_=>
 aC (I64 (x10+(1:Int))) <|
 some (.inl (x10+(1:Int)))
 else
 aX (
 some (.inl ()))) (0:Int)) λ_=>
 aD (eL p0 p0.root ([]:List Int)) λr59=>
 eJ (
 bR (λx62=>
 if x62 < (r59.length:Int) then
 bH r59 x62 λe65=>
 aC (I64 (x62+(2:Int))) <|
 if e65=(x62+(2:Int)) then
 aC (I64 (x62+(1:Int))) <|
 some (.inl (x62+(1:Int)))
 else
 aX (
 aX (
 some false))
 else
 aX (
 some (.inl ()))) (0:Int)) λ_=>
 some (decide ((r59.length:Int)=(p0.nodes.length:Int)))
def eA (p0:Ab) (p1:(List Bool)):Option Bool:=
 aD (
 bR (λn4=>
 if (1:Int) < n4 then
 aC (I64 (n4 - (2:Int))) <|
 bH p0.nodes (n4 - (2:Int)) λe8=>
 aD (
 if e8.var < (p1.length:Int) then
 bH p1 e8.var λe12=>
 some e12
 else
 some false) λx9=>
 if x9=true then
 some (.inl e8.hi)
 else
 some (.inl e8.lo)
 else
 aX (
 some n4)) p0.root) λn1=>
 some (decide (n1=(1:Int)))
def bO (p0:Ab):Option ((List (List Bool))):=
 aD (
 aD (bB p0) λr3=>
 aD (cJ r3) λr4=>
 bR (λ(x8,b9)=>
 if x8 < (r4.length:Int) then
 bH r4 x8 λe12=>
 aD (eA p0 e12) λr13=>
 if r13=true then
 aC ((b9++([e12]:List (List Bool))).length<=1000000000) <|
 aC (I64 (x8+(1:Int))) <|
 some (.inl ((x8+(1:Int)),(b9++([e12]:List (List Bool)))))
 else
 aC (I64 (x8+(1:Int))) <|
 some (.inl ((x8+(1:Int)),b9))
 else
 aX (
 some b9)) ((0:Int),([]:List (List Bool)))) λb1=>
 some b1
def bP (p0:Ab) (p1:Int):Option ((List Bool)×Bool):=
 aD (
 aD (cZ p0) λr3=>
 if (!(r3))=true then
 some true
 else
 if p1 < (0:Int) then
 some true
 else
 if (64:Int) < p1 then
 some true
 else
 aD (bB p0) λr7=>
 some (decide (p1 < r7))) λx1=>
 if x1=true then
 some (([]:List Bool),false)
 else
 aD (bO p0) λr9=>
 if (r9.length:Int)=(0:Int) then
 some (([]:List Bool),false)
 else
 bH r9 (0:Int) λe11=>
 aD (bB p0) λr12=>
 aC (I64 (p1 - r12)) <|
 aC (0<=(p1 - r12)/\(e11++List.replicate ((p1 - r12)).toNat false).length<=1000000000) <|
 some ((e11++List.replicate ((p1 - r12)).toNat false),true)
def bY (p0:Ab) (p1:Int):Option (Int×Int):=
 if ((decide (p1 < (0:Int)))||(decide ((62:Int) < p1)))=true then
 some ((0:Int),(2:Int))
 else
 aD (
 aD (cZ p0) λr5=>
 if (!(r5))=true then
 some true
 else
 aD (bB p0) λr7=>
 some (decide (p1 < r7))) λx3=>
 if x3=true then
 some ((0:Int),(1:Int))
 else
 aD (bO p0) λr9=>
 aD (
 aD (bB p0) λr12=>
 bR (λ(n15,i16)=>
 if i16 < p1 then
 aC (I64 (i16+(1:Int))) <|
 some (.inl ((IntKind.u64.wrap (n15 * (2:Int))),(i16+(1:Int))))
 else
 aX (
 some n15)) ((IntKind.u64.wrap (r9.length:Int)),r12)) λn10=>
 some (n10,(0:Int))
def cV (p0:Ab) (p1:Int):Option Bool:=
 aD (eB p0) λr1=>
 if (!(r1))=true then
 aD (eC) λr3=>
 some r3
 else
 aD (bX p0 p1) λ(r5,r6)=>
 aD (bP p0 p1) λ(r8,r9)=>
 aD (cD p0 p1) λ(r11,r12)=>
 aD (bY p0 p1) λ(r14,r15)=>
 if ((!((r6 == r9)))||((!(decide ((r5.length:Int)=(r8.length:Int))))||((!(decide (r11=r14)))||(!(decide (r12=r15))))))=true then
 some false
 else
 eJ (
 bR (λx22=>
 if x22 < (r5.length:Int) then
 bH r5 x22 λe25=>
 bH r8 x22 λe26=>
 if (!((e25 == e26)))=true then
 aX (
 aX (
 some false))
 else
 aC (I64 (x22+(1:Int))) <|
 some (.inl (x22+(1:Int)))
 else
 aX (
 some (.inl ()))) (0:Int)) λ_=>
 aD (eC) λr32=>
 some r32
end Go.Proofs.Ytdkhkhidekpfoaa
