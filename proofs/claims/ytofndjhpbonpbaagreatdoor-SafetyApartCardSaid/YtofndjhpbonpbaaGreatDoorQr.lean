/- Texts of this proof, joined, without what it does not use. No condition. -/
import Derived.Lib.LaidU8
import Derived.Test.YtofndjhpbonpbaaGreatDoorQq

set_option maxHeartbeats 1000000
set_option maxRecDepth 100000
namespace Go.Proofs.YtofndjhpbonpbaaGreatDoor
open Go Go.TL Go.Lib
theorem ldN : TP.globalNamed "signalling/rail.passages" = some 0 := by kernel_rfl
theorem ldY:(TP.globals[0]?).map (·.type)=some 229:=by kernel_rfl
theorem ldCA:TP.cellsOf 229=40:=by kernel_rfl
theorem ldCS:TP.cellsOf 228=4:=by kernel_rfl
theorem zCQ:TP.cellsOf 3=1:=by kernel_rfl
def passZ:List (List Int):=[[1,0,1,0],[1,1,0,0],[2,0,1,1],[2,0,2,2],[2,1,0,1],[2,2,0,2],[3,0,1,0],[3,1,0,0],[3,2,3,0],[3,3,2,0]]
theorem qYW:∀ m:Fin 40,(passZ.getD (m.val / 4) [])[m.val % 4]?=passZ.flatten[m.val]?:=by decide
theorem datum:(Rows.laid_signalling_rail_passages:DataW _root_.Unit)=.agg (passZ.map λr=>.agg (r.map λz=>.lit (.int .i64 z))):=rfl
theorem qWD (W : Go.World) (h : laidMetH TP [("signalling/rail.passages", Rows.laid_signalling_rail_passages)] W) : qXG W (cT fun b => b < W.heap.size) := by
 have h : laidMet TP [("signalling/rail.passages", Rows.laid_signalling_rail_passages)] W := h;obtain⟨g,t,cs,fuel,p,hg,hty,hvar,hd⟩:=laidMet.reads h (List.mem_singleton.2 rfl);obtain rfl:=Option.some.inj (ldN.symm.trans hg);obtain rfl:=Option.some.inj (ldY.symm.trans hty);rw [datum] at hd
 have hlen:cs.toList.length=40:=by
  cases fuel with
  | zero=>simp [DataW.trod] at hd
  | succ fuel=>
   simp only [DataW.trod,Tryz.underlying229] at hd;split at hd
   ·rename_i e;rw [e];exact ldCA
   cases hd
 have hrow:∀ i,i < 10->∀ zs,passZ[i]?=some zs->(cs.toList.drop (i * 4)).take 4=zs.map λz=>Value.int .i64 z:=λi hi zs hz=>by
  obtain⟨fuel',d,q,hdi,he⟩:=array_elem Tryz.underlying229 hd i hi;rw [zQP,hz] at hdi;cases hdi;rw [ldCS] at he
  exact ints_of_struct Tryz.underlying228 (fun j f hj => by
   match j, hj with
   | 0, hj => cases hj; exact ⟨Tryz.underlying3, rfl, zCQ⟩
   | 1, hj => cases hj; exact ⟨Tryz.underlying3, rfl, zCQ⟩
   | 2, hj => cases hj; exact ⟨Tryz.underlying3, rfl, zCQ⟩
   | 3, hj => cases hj; exact ⟨Tryz.underlying3, rfl, zCQ⟩
   | j + 4, hj => simp at hj) (by rw [ldCS]; rfl) he
 have hall:cs.toList=passZ.flatten.map λz=>Value.int .i64 z:=by
  apply List.ext_getElem?;intro m;by_cases hm:m < 40
  ·have hi : m / 4 < 10 := by omega
   have hz:passZ[m / 4]?=some (passZ.getD (m / 4) []):=by rw [zQD,zQR (show m / 4 < passZ.length from hi)];rfl
   have h1:=congrArg (·[m % 4]?) (hrow (m / 4) hi _ hz);simp only [List.getElem?_take,if_pos (Nat.mod_lt m (show 0 < 4 by decide)),List.getElem?_drop] at h1;rw [show m / 4 * 4+m % 4=m by omega] at h1;rw [h1];rw [zQP,zQP,qYW ⟨m,hm⟩]
  rw [List.getElem?_eq_none (by omega),List.getElem?_eq_none (by simp only [zQC];show 40<=m;omega)]
 unfold World.var? at hvar;rw [ldN] at hvar;simp only [Option.bind_some] at hvar;split at hvar
 ·rename_i cs' t fz hh;cases hvar;intro x hx;obtain rfl:=List.mem_singleton.1 hx;refine⟨⟨t,fz,?_⟩,λi hp=>by simp [cT] at hp⟩;rw [hh]
  congr 2
  apply Array.toList_inj.1;exact hall
 cases hvar
end Go.Proofs.YtofndjhpbonpbaaGreatDoor
set_option maxHeartbeats 8000000
set_option linter.unusedSimpArgs false
set_option linter.unusedVariables false
set_option maxRecDepth 20000
namespace Go.Proofs.YtofndjhpbonpbaaGreatDoor
open Go Go.TL
theorem HasTy.fld {P:Go.Program} {cs:List D} {fs:Array Field} (h2:∀ (i:Nat) (f:Field),fs[i]?=some f->HasTy P f.type ((cs.drop f.offset).take (P.cellsOf f.type))) {i off n:Nat} {f:Field} {t:TypeId} (hf:fs[i]?=some f) (ht:f.type=t) (ho:f.offset=off) (hc:P.cellsOf t=n):HasTy P t ((cs.drop off).take n):=by
 have:=h2 i f hf;rw [ht,ho,hc] at this;exact this
theorem ty9 (cs:List D) (h:HasTy TP 9 cs):∃ x:BA,(λs=>s.size<=reachBytes) x/\aY TP 9 cs=D.str x:=by
 obtain⟨x,rfl,w⟩:=h.str_inv Tryz.underlying9;exact⟨x,w,by simp [aY,Tryz.underlying9]⟩
theorem rT:TP.cellsOf 9=1:=by kernel_rfl
theorem ty3 (cs:List D) (h:HasTy TP 3 cs):∃ x:Int,I64 x/\aY TP 3 cs=(D.int .i64) x:=by
 obtain⟨x,rfl,w⟩:=h.int_inv Tryz.underlying3;exact⟨x,w,by simp [aY,Tryz.underlying3]⟩
theorem qPV:TP.cellsOf 151=7:=by kernel_rfl
theorem bH:TP.cellsOf 3=1:=by kernel_rfl
theorem zCP {cs:List D} (h:cs.length=7):∃ a0 a1 a2 a3 a4 a5 a6,cs=[a0,a1,a2,a3,a4,a5,a6]:=by
 match cs,h with
 | [a0,a1,a2,a3,a4,a5,a6],_=>exact⟨a0,a1,a2,a3,a4,a5,a6,rfl⟩
theorem ty151c (cs:List D) (h:HasTy TP 151 cs):∃ x:Aw,x.Wf/\cs=[.str x.name,.int .i64 x.kind,.int .i64 x.length,.int .i64 x.grade,.int .i64 x.speed,.int .i64 x.slow,.int .i64 x.Aq]:=by
 obtain⟨h1,h2⟩:=h.struct_inv Tryz.underlying151;rw [qPV] at h1;obtain⟨a0,a1,a2,a3,a4,a5,a6,rfl⟩:=zCP h1;obtain⟨x0,e0,w0⟩:=(show HasTy TP 9 [a0] from HasTy.fld h2 (i:=0) rfl rfl rfl rT).str_inv Tryz.underlying9;replace e0:[a0]=[D.str x0]:=e0;simp only [List.cons.injEq,and_true] at e0;obtain⟨x1,e1,w1⟩:=(show HasTy TP 3 [a1] from HasTy.fld h2 (i:=1) rfl rfl rfl bH).int_inv Tryz.underlying3;replace e1:[a1]=[D.int .i64 x1]:=e1;simp only [List.cons.injEq,and_true] at e1;obtain⟨x2,e2,w2⟩:=(show HasTy TP 3 [a2] from HasTy.fld h2 (i:=2) rfl rfl rfl bH).int_inv Tryz.underlying3;replace e2:[a2]=[D.int .i64 x2]:=e2;simp only [List.cons.injEq,and_true] at e2;obtain⟨x3,e3,w3⟩:=(show HasTy TP 3 [a3] from HasTy.fld h2 (i:=3) rfl rfl rfl bH).int_inv Tryz.underlying3;replace e3:[a3]=[D.int .i64 x3]:=e3;simp only [List.cons.injEq,and_true] at e3;obtain⟨x4,e4,w4⟩:=(show HasTy TP 3 [a4] from HasTy.fld h2 (i:=4) rfl rfl rfl bH).int_inv Tryz.underlying3;replace e4:[a4]=[D.int .i64 x4]:=e4;simp only [List.cons.injEq,and_true] at e4;obtain⟨x5,e5,w5⟩:=(show HasTy TP 3 [a5] from HasTy.fld h2 (i:=5) rfl rfl rfl bH).int_inv Tryz.underlying3;replace e5:[a5]=[D.int .i64 x5]:=e5;simp only [List.cons.injEq,and_true] at e5;obtain⟨x6,e6,w6⟩:=(show HasTy TP 3 [a6] from HasTy.fld h2 (i:=6) rfl rfl rfl bH).int_inv Tryz.underlying3;replace e6:[a6]=[D.int .i64 x6]:=e6;simp only [List.cons.injEq,and_true] at e6;subst e0 e1 e2 e3 e4 e5 e6;exact⟨⟨x0,x1,x2,x3,x4,x5,x6⟩,⟨w0,w1,w2,w3,w4,w5,w6⟩,rfl⟩
theorem ty151 (cs:List D) (h:HasTy TP 151 cs):∃ x:Aw,x.Wf/\aY TP 151 cs=x.enc:=by
 obtain⟨x,w,rfl⟩:=ty151c cs h;exact⟨x,w,by simp [aY,Tryz.underlying151,Aw.enc]⟩
theorem vM:TP.cellsOf 147=2:=by kernel_rfl
theorem rB {cs:List D} (h:cs.length=2):∃ a0 a1,cs=[a0,a1]:=by
 match cs,h with
 | [a0,a1],_=>exact⟨a0,a1,rfl⟩
theorem qJL (cs:List D) (h:HasTy TP 147 cs):∃ x:End,x.Wf/\cs=[.int .i64 x.el,.int .i64 x.side]:=by
 obtain⟨h1,h2⟩:=h.struct_inv Tryz.underlying147;rw [vM] at h1;obtain⟨a0,a1,rfl⟩:=rB h1;obtain⟨x0,e0,w0⟩:=(show HasTy TP 3 [a0] from HasTy.fld h2 (i:=0) rfl rfl rfl bH).int_inv Tryz.underlying3;replace e0:[a0]=[D.int .i64 x0]:=e0;simp only [List.cons.injEq,and_true] at e0;obtain⟨x1,e1,w1⟩:=(show HasTy TP 3 [a1] from HasTy.fld h2 (i:=1) rfl rfl rfl bH).int_inv Tryz.underlying3;replace e1:[a1]=[D.int .i64 x1]:=e1;simp only [List.cons.injEq,and_true] at e1;subst e0 e1;exact⟨⟨x0,x1⟩,⟨w0,w1⟩,rfl⟩
theorem ty147 (cs:List D) (h:HasTy TP 147 cs):∃ x:End,x.Wf/\aY TP 147 cs=x.enc:=by
 obtain⟨x,w,rfl⟩:=qJL cs h;exact⟨x,w,by simp [aY,Tryz.underlying147,End.enc]⟩
theorem qPU:TP.cellsOf 153=4:=by kernel_rfl
theorem oJ {cs:List D} (h:cs.length=4):∃ a0 a1 a2 a3,cs=[a0,a1,a2,a3]:=by
 match cs,h with
 | [a0,a1,a2,a3],_=>exact⟨a0,a1,a2,a3,rfl⟩
theorem ty153c (cs:List D) (h:HasTy TP 153 cs):∃ x:Ba,x.Wf/\cs=[.int .i64 x.a.el,.int .i64 x.a.side,.int .i64 x.b.el,.int .i64 x.b.side]:=by
 obtain⟨h1,h2⟩:=h.struct_inv Tryz.underlying153;rw [qPU] at h1;obtain⟨a0,a1,a2,a3,rfl⟩:=oJ h1;obtain⟨x0,w0,e0⟩:=qJL _ (show HasTy TP 147 [a0,a1] from HasTy.fld h2 (i:=0) rfl rfl rfl vM);replace e0:[a0,a1]=[D.int .i64 x0.el,D.int .i64 x0.side]:=e0;simp only [List.cons.injEq,and_true] at e0;obtain⟨f0x0,f0x1⟩:=e0;obtain⟨x1,w1,e1⟩:=qJL _ (show HasTy TP 147 [a2,a3] from HasTy.fld h2 (i:=1) rfl rfl rfl vM);replace e1:[a2,a3]=[D.int .i64 x1.el,D.int .i64 x1.side]:=e1;simp only [List.cons.injEq,and_true] at e1;obtain⟨f1x0,f1x1⟩:=e1;subst f0x0 f0x1 f1x0 f1x1;exact⟨⟨x0,x1⟩,⟨w0,w1⟩,rfl⟩
theorem ty153 (cs:List D) (h:HasTy TP 153 cs):∃ x:Ba,x.Wf/\aY TP 153 cs=x.enc:=by
 obtain⟨x,w,rfl⟩:=ty153c cs h;exact⟨x,w,by simp [aY,Tryz.underlying153,Ba.enc]⟩
theorem qPW:TP.cellsOf 149=4:=by kernel_rfl
theorem ty149c (cs:List D) (h:HasTy TP 149 cs):∃ x:A0,x.Wf/\cs=[.str x.name,.int .i64 x.atV.el,.int .i64 x.atV.side,.int .i64 x.overlap]:=by
 obtain⟨h1,h2⟩:=h.struct_inv Tryz.underlying149;rw [qPW] at h1;obtain⟨a0,a1,a2,a3,rfl⟩:=oJ h1;obtain⟨x0,e0,w0⟩:=(show HasTy TP 9 [a0] from HasTy.fld h2 (i:=0) rfl rfl rfl rT).str_inv Tryz.underlying9;replace e0:[a0]=[D.str x0]:=e0;simp only [List.cons.injEq,and_true] at e0;obtain⟨x1,w1,e1⟩:=qJL _ (show HasTy TP 147 [a1,a2] from HasTy.fld h2 (i:=1) rfl rfl rfl vM);replace e1:[a1,a2]=[D.int .i64 x1.el,D.int .i64 x1.side]:=e1;simp only [List.cons.injEq,and_true] at e1;obtain⟨f1x0,f1x1⟩:=e1;obtain⟨x2,e2,w2⟩:=(show HasTy TP 3 [a3] from HasTy.fld h2 (i:=2) rfl rfl rfl bH).int_inv Tryz.underlying3;replace e2:[a3]=[D.int .i64 x2]:=e2;simp only [List.cons.injEq,and_true] at e2;subst e0 f1x0 f1x1 e2;exact⟨⟨x0,x1,x2⟩,⟨w0,w1,w2⟩,rfl⟩
theorem ty149 (cs:List D) (h:HasTy TP 149 cs):∃ x:A0,x.Wf/\aY TP 149 cs=x.enc:=by
 obtain⟨x,w,rfl⟩:=ty149c cs h;exact⟨x,w,by simp [aY,Tryz.underlying149,A0.enc]⟩
theorem qPS:TP.cellsOf 182=3:=by kernel_rfl
theorem rA {cs:List D} (h:cs.length=3):∃ a0 a1 a2,cs=[a0,a1,a2]:=by
 match cs,h with
 | [a0,a1,a2],_=>exact⟨a0,a1,a2,rfl⟩
theorem ty182c (cs:List D) (h:HasTy TP 182 cs):∃ x:A4,x.Wf/\cs=[.int .i64 x.id,.int .i64 x.el,.int .i64 x.offset]:=by
 obtain⟨h1,h2⟩:=h.struct_inv Tryz.underlying182;rw [qPS] at h1;obtain⟨a0,a1,a2,rfl⟩:=rA h1;obtain⟨x0,e0,w0⟩:=(show HasTy TP 3 [a0] from HasTy.fld h2 (i:=0) rfl rfl rfl bH).int_inv Tryz.underlying3;replace e0:[a0]=[D.int .i64 x0]:=e0;simp only [List.cons.injEq,and_true] at e0;obtain⟨x1,e1,w1⟩:=(show HasTy TP 3 [a1] from HasTy.fld h2 (i:=1) rfl rfl rfl bH).int_inv Tryz.underlying3;replace e1:[a1]=[D.int .i64 x1]:=e1;simp only [List.cons.injEq,and_true] at e1;obtain⟨x2,e2,w2⟩:=(show HasTy TP 3 [a2] from HasTy.fld h2 (i:=2) rfl rfl rfl bH).int_inv Tryz.underlying3;replace e2:[a2]=[D.int .i64 x2]:=e2;simp only [List.cons.injEq,and_true] at e2;subst e0 e1 e2;exact⟨⟨x0,x1,x2⟩,⟨w0,w1,w2⟩,rfl⟩
theorem ty182 (cs:List D) (h:HasTy TP 182 cs):∃ x:A4,x.Wf/\aY TP 182 cs=x.enc:=by
 obtain⟨x,w,rfl⟩:=ty182c cs h;exact⟨x,w,by simp [aY,Tryz.underlying182,A4.enc]⟩
theorem qUL:TP.cellsOf 28=6:=by kernel_rfl
theorem zEF:TP.cellsOf 22=1:=by kernel_rfl
theorem zEE:TP.cellsOf 23=1:=by kernel_rfl
theorem zED:TP.cellsOf 24=1:=by kernel_rfl
theorem zEC:TP.cellsOf 25=1:=by kernel_rfl
theorem zEB:TP.cellsOf 26=1:=by kernel_rfl
theorem qTQ {cs:List D} (h:cs.length=6):∃ a0 a1 a2 a3 a4 a5,cs=[a0,a1,a2,a3,a4,a5]:=by
 match cs,h with
 | [a0,a1,a2,a3,a4,a5],_=>exact⟨a0,a1,a2,a3,a4,a5,rfl⟩
theorem ty28c (cs:List D) (h:HasTy TP 28 cs):∃ x:Ag,x.Wf/\cs=[.str x.name,.sl 1 (x.Ac.map D.str),.sl 7 (x.Ae.map Aw.enc),.sl 4 (x.joints.map Ba.enc),.sl 4 (x.Ah.map A0.enc),.sl 3 (x.balises.map A4.enc)]:=by
 obtain⟨h1,h2⟩:=h.struct_inv Tryz.underlying28;rw [qUL] at h1;obtain⟨a0,a1,a2,a3,a4,a5,rfl⟩:=qTQ h1;obtain⟨x0,e0,w0⟩:=(show HasTy TP 9 [a0] from HasTy.fld h2 (i:=0) rfl rfl rfl rT).str_inv Tryz.underlying9;replace e0:[a0]=[D.str x0]:=e0;simp only [List.cons.injEq,and_true] at e0;obtain⟨x1,e1,l1,m1⟩:=(show HasTy TP 22 [a1] from HasTy.fld h2 (i:=1) rfl rfl rfl zEF).list Tryz.underlying22 D.str (λs=>s.size<=reachBytes) (λcs _ h=>ty9 cs h);rw [rT] at e1;have w1:=And.intro l1 m1;replace e1:[a1]=[D.sl 1 (x1.map D.str)]:=e1;simp only [List.cons.injEq,and_true] at e1;obtain⟨x2,e2,l2,m2⟩:=(show HasTy TP 23 [a2] from HasTy.fld h2 (i:=2) rfl rfl rfl zEE).list Tryz.underlying23 Aw.enc Aw.Wf (λcs _ h=>ty151 cs h);rw [qPV] at e2;have w2:=And.intro l2 m2;replace e2:[a2]=[D.sl 7 (x2.map Aw.enc)]:=e2;simp only [List.cons.injEq,and_true] at e2;obtain⟨x3,e3,l3,m3⟩:=(show HasTy TP 24 [a3] from HasTy.fld h2 (i:=3) rfl rfl rfl zED).list Tryz.underlying24 Ba.enc Ba.Wf (λcs _ h=>ty153 cs h);rw [qPU] at e3;have w3:=And.intro l3 m3;replace e3:[a3]=[D.sl 4 (x3.map Ba.enc)]:=e3;simp only [List.cons.injEq,and_true] at e3;obtain⟨x4,e4,l4,m4⟩:=(show HasTy TP 25 [a4] from HasTy.fld h2 (i:=4) rfl rfl rfl zEC).list Tryz.underlying25 A0.enc A0.Wf (λcs _ h=>ty149 cs h);rw [qPW] at e4;have w4:=And.intro l4 m4;replace e4:[a4]=[D.sl 4 (x4.map A0.enc)]:=e4;simp only [List.cons.injEq,and_true] at e4;obtain⟨x5,e5,l5,m5⟩:=(show HasTy TP 26 [a5] from HasTy.fld h2 (i:=5) rfl rfl rfl zEB).list Tryz.underlying26 A4.enc A4.Wf (λcs _ h=>ty182 cs h);rw [qPS] at e5;have w5:=And.intro l5 m5;replace e5:[a5]=[D.sl 3 (x5.map A4.enc)]:=e5;simp only [List.cons.injEq,and_true] at e5;subst e0 e1 e2 e3 e4 e5;exact⟨⟨x0,x1,x2,x3,x4,x5⟩,⟨w0,w1,w2,w3,w4,w5⟩,rfl⟩
theorem vN:TP.cellsOf 106=3:=by kernel_rfl
theorem ty106c (cs:List D) (h:HasTy TP 106 cs):∃ x:Am,x.Wf/\cs=[.int .i64 x.el,.int .i64 x.inV,.int .i64 x.out]:=by
 obtain⟨h1,h2⟩:=h.struct_inv Tryz.underlying106;rw [vN] at h1;obtain⟨a0,a1,a2,rfl⟩:=rA h1;obtain⟨x0,e0,w0⟩:=(show HasTy TP 3 [a0] from HasTy.fld h2 (i:=0) rfl rfl rfl bH).int_inv Tryz.underlying3;replace e0:[a0]=[D.int .i64 x0]:=e0;simp only [List.cons.injEq,and_true] at e0;obtain⟨x1,e1,w1⟩:=(show HasTy TP 3 [a1] from HasTy.fld h2 (i:=1) rfl rfl rfl bH).int_inv Tryz.underlying3;replace e1:[a1]=[D.int .i64 x1]:=e1;simp only [List.cons.injEq,and_true] at e1;obtain⟨x2,e2,w2⟩:=(show HasTy TP 3 [a2] from HasTy.fld h2 (i:=2) rfl rfl rfl bH).int_inv Tryz.underlying3;replace e2:[a2]=[D.int .i64 x2]:=e2;simp only [List.cons.injEq,and_true] at e2;subst e0 e1 e2;exact⟨⟨x0,x1,x2⟩,⟨w0,w1,w2⟩,rfl⟩
theorem qSY (cs:List D) (h:HasTy TP 106 cs):∃ x:Am,x.Wf/\aY TP 106 cs=x.enc:=by
 obtain⟨x,w,rfl⟩:=ty106c cs h;exact⟨x,w,by simp [aY,Tryz.underlying106,Am.enc]⟩
theorem zU:TP.cellsOf 126=2:=by kernel_rfl
theorem ty126c (cs:List D) (h:HasTy TP 126 cs):∃ x:Aa,x.Wf/\cs=[.int .i64 x.el,.int .i64 x.pos]:=by
 obtain⟨h1,h2⟩:=h.struct_inv Tryz.underlying126;rw [zU] at h1;obtain⟨a0,a1,rfl⟩:=rB h1;obtain⟨x0,e0,w0⟩:=(show HasTy TP 3 [a0] from HasTy.fld h2 (i:=0) rfl rfl rfl bH).int_inv Tryz.underlying3;replace e0:[a0]=[D.int .i64 x0]:=e0;simp only [List.cons.injEq,and_true] at e0;obtain⟨x1,e1,w1⟩:=(show HasTy TP 3 [a1] from HasTy.fld h2 (i:=1) rfl rfl rfl bH).int_inv Tryz.underlying3;replace e1:[a1]=[D.int .i64 x1]:=e1;simp only [List.cons.injEq,and_true] at e1;subst e0 e1;exact⟨⟨x0,x1⟩,⟨w0,w1⟩,rfl⟩
theorem qXQ (cs:List D) (h:HasTy TP 126 cs):∃ x:Aa,x.Wf/\aY TP 126 cs=x.enc:=by
 obtain⟨x,w,rfl⟩:=ty126c cs h;exact⟨x,w,by simp [aY,Tryz.underlying126,Aa.enc]⟩
theorem ty30 (cs:List D) (h:HasTy TP 30 cs):∃ l:(List Int),(λl=>l.length<=reachBytes/\∀ x∈l,I64 x) l/\aY TP 30 cs=(λ(l:List Int)=>D.sl 1 (l.map (D.int .i64))) l:=by
 obtain⟨l,rfl,h1,h2⟩:=h.list Tryz.underlying30 (D.int .i64) I64 (λcs _ h=>ty3 cs h);exact⟨l,⟨h1,h2⟩,by simp [aY,Tryz.underlying30,bH]⟩
theorem qQA:TP.cellsOf 113=14:=by kernel_rfl
theorem qDQ:TP.cellsOf 77=1:=by kernel_rfl
theorem qFX:TP.cellsOf 110=1:=by kernel_rfl
theorem kD:TP.cellsOf 30=1:=by kernel_rfl
theorem zAR:TP.cellsOf 111=1:=by kernel_rfl
theorem qOI {cs:List D} (h:cs.length=14):∃ a0 a1 a2 a3 a4 a5 a6 a7 a8 a9 a10 a11 a12 a13,cs=[a0,a1,a2,a3,a4,a5,a6,a7,a8,a9,a10,a11,a12,a13]:=by
 match cs,h with
 | [a0,a1,a2,a3,a4,a5,a6,a7,a8,a9,a10,a11,a12,a13],_=>exact⟨a0,a1,a2,a3,a4,a5,a6,a7,a8,a9,a10,a11,a12,a13,rfl⟩
theorem ty113c (cs:List D) (h:HasTy TP 113 cs):∃ x:Ai,x.Wf/\cs=[.str x.name,.int .i64 x.entry,.int .i64 x.exit,.sl 3 (x.path.map Am.enc),.sl 2 (x.Ad.map Aa.enc),.sl 1 (x.Ac.map (D.int .i64)),.int .i64 x.A2,.int .i64 x.length,.sl 3 (x.over.map Am.enc),.sl 2 (x.Aj.map Aa.enc),.sl 1 (x.Ao.map (D.int .i64)),.sl 2 (x.At.map Aa.enc),.sl 1 (x.guards.map (D.int .i64)),.sl 2 (x.gaps.map End.enc)]:=by
 obtain⟨h1,h2⟩:=h.struct_inv Tryz.underlying113;rw [qQA] at h1;obtain⟨a0,a1,a2,a3,a4,a5,a6,a7,a8,a9,a10,a11,a12,a13,rfl⟩:=qOI h1;obtain⟨x0,e0,w0⟩:=(show HasTy TP 9 [a0] from HasTy.fld h2 (i:=0) rfl rfl rfl rT).str_inv Tryz.underlying9;replace e0:[a0]=[D.str x0]:=e0;simp only [List.cons.injEq,and_true] at e0;obtain⟨x1,e1,w1⟩:=(show HasTy TP 3 [a1] from HasTy.fld h2 (i:=1) rfl rfl rfl bH).int_inv Tryz.underlying3;replace e1:[a1]=[D.int .i64 x1]:=e1;simp only [List.cons.injEq,and_true] at e1;obtain⟨x2,e2,w2⟩:=(show HasTy TP 3 [a2] from HasTy.fld h2 (i:=2) rfl rfl rfl bH).int_inv Tryz.underlying3;replace e2:[a2]=[D.int .i64 x2]:=e2;simp only [List.cons.injEq,and_true] at e2;obtain⟨x3,e3,l3,m3⟩:=(show HasTy TP 77 [a3] from HasTy.fld h2 (i:=3) rfl rfl rfl qDQ).list Tryz.underlying77 Am.enc Am.Wf (λcs _ h=>qSY cs h);rw [vN] at e3;have w3:=And.intro l3 m3;replace e3:[a3]=[D.sl 3 (x3.map Am.enc)]:=e3;simp only [List.cons.injEq,and_true] at e3;obtain⟨x4,e4,l4,m4⟩:=(show HasTy TP 110 [a4] from HasTy.fld h2 (i:=4) rfl rfl rfl qFX).list Tryz.underlying110 Aa.enc Aa.Wf (λcs _ h=>qXQ cs h);rw [zU] at e4;have w4:=And.intro l4 m4;replace e4:[a4]=[D.sl 2 (x4.map Aa.enc)]:=e4;simp only [List.cons.injEq,and_true] at e4;obtain⟨x5,e5,l5,m5⟩:=(show HasTy TP 30 [a5] from HasTy.fld h2 (i:=5) rfl rfl rfl kD).list Tryz.underlying30 (D.int .i64) I64 (λcs _ h=>ty3 cs h);rw [bH] at e5;have w5:=And.intro l5 m5;replace e5:[a5]=[D.sl 1 (x5.map (D.int .i64))]:=e5;simp only [List.cons.injEq,and_true] at e5;obtain⟨x6,e6,w6⟩:=(show HasTy TP 3 [a6] from HasTy.fld h2 (i:=6) rfl rfl rfl bH).int_inv Tryz.underlying3;replace e6:[a6]=[D.int .i64 x6]:=e6;simp only [List.cons.injEq,and_true] at e6;obtain⟨x7,e7,w7⟩:=(show HasTy TP 3 [a7] from HasTy.fld h2 (i:=7) rfl rfl rfl bH).int_inv Tryz.underlying3;replace e7:[a7]=[D.int .i64 x7]:=e7;simp only [List.cons.injEq,and_true] at e7;obtain⟨x8,e8,l8,m8⟩:=(show HasTy TP 77 [a8] from HasTy.fld h2 (i:=8) rfl rfl rfl qDQ).list Tryz.underlying77 Am.enc Am.Wf (λcs _ h=>qSY cs h);rw [vN] at e8;have w8:=And.intro l8 m8;replace e8:[a8]=[D.sl 3 (x8.map Am.enc)]:=e8;simp only [List.cons.injEq,and_true] at e8;obtain⟨x9,e9,l9,m9⟩:=(show HasTy TP 110 [a9] from HasTy.fld h2 (i:=9) rfl rfl rfl qFX).list Tryz.underlying110 Aa.enc Aa.Wf (λcs _ h=>qXQ cs h);rw [zU] at e9;have w9:=And.intro l9 m9;replace e9:[a9]=[D.sl 2 (x9.map Aa.enc)]:=e9;simp only [List.cons.injEq,and_true] at e9;obtain⟨x10,e10,l10,m10⟩:=(show HasTy TP 30 [a10] from HasTy.fld h2 (i:=10) rfl rfl rfl kD).list Tryz.underlying30 (D.int .i64) I64 (λcs _ h=>ty3 cs h);rw [bH] at e10;have w10:=And.intro l10 m10;replace e10:[a10]=[D.sl 1 (x10.map (D.int .i64))]:=e10;simp only [List.cons.injEq,and_true] at e10;obtain⟨x11,e11,l11,m11⟩:=(show HasTy TP 110 [a11] from HasTy.fld h2 (i:=11) rfl rfl rfl qFX).list Tryz.underlying110 Aa.enc Aa.Wf (λcs _ h=>qXQ cs h)
 rw [zU] at e11;have w11:=And.intro l11 m11;replace e11:[a11]=[D.sl 2 (x11.map Aa.enc)]:=e11;simp only [List.cons.injEq,and_true] at e11;obtain⟨x12,e12,l12,m12⟩:=(show HasTy TP 30 [a12] from HasTy.fld h2 (i:=12) rfl rfl rfl kD).list Tryz.underlying30 (D.int .i64) I64 (λcs _ h=>ty3 cs h);rw [bH] at e12;have w12:=And.intro l12 m12;replace e12:[a12]=[D.sl 1 (x12.map (D.int .i64))]:=e12;simp only [List.cons.injEq,and_true] at e12;obtain⟨x13,e13,l13,m13⟩:=(show HasTy TP 111 [a13] from HasTy.fld h2 (i:=13) rfl rfl rfl zAR).list Tryz.underlying111 End.enc End.Wf (λcs _ h=>ty147 cs h);rw [vM] at e13;have w13:=And.intro l13 m13;replace e13:[a13]=[D.sl 2 (x13.map End.enc)]:=e13;simp only [List.cons.injEq,and_true] at e13;subst e0 e1 e2 e3 e4 e5 e6 e7 e8 e9 e10 e11 e12 e13;exact⟨⟨x0,x1,x2,x3,x4,x5,x6,x7,x8,x9,x10,x11,x12,x13⟩,⟨w0,w1,w2,w3,w4,w5,w6,w7,w8,w9,w10,w11,w12,w13⟩,rfl⟩
theorem ty113 (cs:List D) (h:HasTy TP 113 cs):∃ x:Ai,x.Wf/\aY TP 113 cs=x.enc:=by
 obtain⟨x,w,rfl⟩:=ty113c cs h;exact⟨x,w,by simp [aY,Tryz.underlying113,Ai.enc]⟩
theorem qUK:TP.cellsOf 32=5:=by kernel_rfl
theorem zEA:TP.cellsOf 29=1:=by kernel_rfl
theorem qTR {cs:List D} (h:cs.length=5):∃ a0 a1 a2 a3 a4,cs=[a0,a1,a2,a3,a4]:=by
 match cs,h with
 | [a0,a1,a2,a3,a4],_=>exact⟨a0,a1,a2,a3,a4,rfl⟩
theorem ty32c (cs:List D) (h:HasTy TP 32 cs):∃ x:Al,x.Wf/\cs=[.sl 14 (x.Ab.map Ai.enc),.sl 1 (x.Ad.map (D.int .i64)),.sl 1 (x.A1.map (D.int .i64)),.int .i64 x.Ac,.int .i64 x.Ah]:=by
 obtain⟨h1,h2⟩:=h.struct_inv Tryz.underlying32;rw [qUK] at h1;obtain⟨a0,a1,a2,a3,a4,rfl⟩:=qTR h1;obtain⟨x0,e0,l0,m0⟩:=(show HasTy TP 29 [a0] from HasTy.fld h2 (i:=0) rfl rfl rfl zEA).list Tryz.underlying29 Ai.enc Ai.Wf (λcs _ h=>ty113 cs h);rw [qQA] at e0;have w0:=And.intro l0 m0;replace e0:[a0]=[D.sl 14 (x0.map Ai.enc)]:=e0;simp only [List.cons.injEq,and_true] at e0;obtain⟨x1,e1,l1,m1⟩:=(show HasTy TP 30 [a1] from HasTy.fld h2 (i:=1) rfl rfl rfl kD).list Tryz.underlying30 (D.int .i64) I64 (λcs _ h=>ty3 cs h);rw [bH] at e1;have w1:=And.intro l1 m1;replace e1:[a1]=[D.sl 1 (x1.map (D.int .i64))]:=e1;simp only [List.cons.injEq,and_true] at e1;obtain⟨x2,e2,l2,m2⟩:=(show HasTy TP 30 [a2] from HasTy.fld h2 (i:=2) rfl rfl rfl kD).list Tryz.underlying30 (D.int .i64) I64 (λcs _ h=>ty3 cs h);rw [bH] at e2;have w2:=And.intro l2 m2;replace e2:[a2]=[D.sl 1 (x2.map (D.int .i64))]:=e2;simp only [List.cons.injEq,and_true] at e2;obtain⟨x3,e3,w3⟩:=(show HasTy TP 3 [a3] from HasTy.fld h2 (i:=3) rfl rfl rfl bH).int_inv Tryz.underlying3;replace e3:[a3]=[D.int .i64 x3]:=e3;simp only [List.cons.injEq,and_true] at e3;obtain⟨x4,e4,w4⟩:=(show HasTy TP 3 [a4] from HasTy.fld h2 (i:=4) rfl rfl rfl bH).int_inv Tryz.underlying3;replace e4:[a4]=[D.int .i64 x4]:=e4;simp only [List.cons.injEq,and_true] at e4;subst e0 e1 e2 e3 e4;exact⟨⟨x0,x1,x2,x3,x4⟩,⟨w0,w1,w2,w3,w4⟩,rfl⟩
theorem qPT:TP.cellsOf 158=3:=by kernel_rfl
theorem ty158c (cs:List D) (h:HasTy TP 158 cs):∃ x:Ak,x.Wf/\cs=[.int .i64 x.state,.int .i64 x.rel,.int .i64 x.timer]:=by
 obtain⟨h1,h2⟩:=h.struct_inv Tryz.underlying158;rw [qPT] at h1;obtain⟨a0,a1,a2,rfl⟩:=rA h1;obtain⟨x0,e0,w0⟩:=(show HasTy TP 3 [a0] from HasTy.fld h2 (i:=0) rfl rfl rfl bH).int_inv Tryz.underlying3;replace e0:[a0]=[D.int .i64 x0]:=e0;simp only [List.cons.injEq,and_true] at e0;obtain⟨x1,e1,w1⟩:=(show HasTy TP 3 [a1] from HasTy.fld h2 (i:=1) rfl rfl rfl bH).int_inv Tryz.underlying3;replace e1:[a1]=[D.int .i64 x1]:=e1;simp only [List.cons.injEq,and_true] at e1;obtain⟨x2,e2,w2⟩:=(show HasTy TP 3 [a2] from HasTy.fld h2 (i:=2) rfl rfl rfl bH).int_inv Tryz.underlying3;replace e2:[a2]=[D.int .i64 x2]:=e2;simp only [List.cons.injEq,and_true] at e2;subst e0 e1 e2;exact⟨⟨x0,x1,x2⟩,⟨w0,w1,w2⟩,rfl⟩
theorem ty158 (cs:List D) (h:HasTy TP 158 cs):∃ x:Ak,x.Wf/\aY TP 158 cs=x.enc:=by
 obtain⟨x,w,rfl⟩:=ty158c cs h;exact⟨x,w,by simp [aY,Tryz.underlying158,Ak.enc]⟩
theorem qUJ:TP.cellsOf 35=2:=by kernel_rfl
theorem zDZ:TP.cellsOf 33=1:=by kernel_rfl
theorem ty35c (cs:List D) (h:HasTy TP 35 cs):∃ x:Az,x.Wf/\cs=[.sl 3 (x.Ab.map Ak.enc),.sl 1 (x.lies.map (D.int .i64))]:=by
 obtain⟨h1,h2⟩:=h.struct_inv Tryz.underlying35;rw [qUJ] at h1;obtain⟨a0,a1,rfl⟩:=rB h1;obtain⟨x0,e0,l0,m0⟩:=(show HasTy TP 33 [a0] from HasTy.fld h2 (i:=0) rfl rfl rfl zDZ).list Tryz.underlying33 Ak.enc Ak.Wf (λcs _ h=>ty158 cs h);rw [qPT] at e0;have w0:=And.intro l0 m0;replace e0:[a0]=[D.sl 3 (x0.map Ak.enc)]:=e0;simp only [List.cons.injEq,and_true] at e0;obtain⟨x1,e1,l1,m1⟩:=(show HasTy TP 30 [a1] from HasTy.fld h2 (i:=1) rfl rfl rfl kD).list Tryz.underlying30 (D.int .i64) I64 (λcs _ h=>ty3 cs h);rw [bH] at e1;have w1:=And.intro l1 m1;replace e1:[a1]=[D.sl 1 (x1.map (D.int .i64))]:=e1;simp only [List.cons.injEq,and_true] at e1;subst e0 e1;exact⟨⟨x0,x1⟩,⟨w0,w1⟩,rfl⟩
theorem qPY:TP.cellsOf 129=3:=by kernel_rfl
theorem ty129c (cs:List D) (h:HasTy TP 129 cs):∃ x:As,x.Wf/\cs=[.int .i64 x.pos,.int .i64 x.goal,.int .i64 x.timer]:=by
 obtain⟨h1,h2⟩:=h.struct_inv Tryz.underlying129;rw [qPY] at h1;obtain⟨a0,a1,a2,rfl⟩:=rA h1;obtain⟨x0,e0,w0⟩:=(show HasTy TP 3 [a0] from HasTy.fld h2 (i:=0) rfl rfl rfl bH).int_inv Tryz.underlying3;replace e0:[a0]=[D.int .i64 x0]:=e0;simp only [List.cons.injEq,and_true] at e0;obtain⟨x1,e1,w1⟩:=(show HasTy TP 3 [a1] from HasTy.fld h2 (i:=1) rfl rfl rfl bH).int_inv Tryz.underlying3;replace e1:[a1]=[D.int .i64 x1]:=e1;simp only [List.cons.injEq,and_true] at e1;obtain⟨x2,e2,w2⟩:=(show HasTy TP 3 [a2] from HasTy.fld h2 (i:=2) rfl rfl rfl bH).int_inv Tryz.underlying3;replace e2:[a2]=[D.int .i64 x2]:=e2;simp only [List.cons.injEq,and_true] at e2;subst e0 e1 e2;exact⟨⟨x0,x1,x2⟩,⟨w0,w1,w2⟩,rfl⟩
theorem ty129 (cs:List D) (h:HasTy TP 129 cs):∃ x:As,x.Wf/\aY TP 129 cs=x.enc:=by
 obtain⟨x,w,rfl⟩:=ty129c cs h;exact⟨x,w,by simp [aY,Tryz.underlying129,As.enc]⟩
theorem ty4 (cs:List D) (h:HasTy TP 4 cs):∃ x:Bool,(λ_=>True) x/\aY TP 4 cs=D.bool x:=by
 obtain⟨x,rfl⟩:=h.bool_inv Tryz.underlying4;exact⟨x,trivial,by simp [aY,Tryz.underlying4]⟩
theorem qSL:TP.cellsOf 4=1:=by kernel_rfl
theorem qUB:TP.cellsOf 79=3:=by kernel_rfl
theorem ty79c (cs:List D) (h:HasTy TP 79 cs):∃ x:Bc,x.Wf/\cs=[.sl 3 (x.steps.map Am.enc),.int .i64 x.head,.int .i64 x.length]:=by
 obtain⟨h1,h2⟩:=h.struct_inv Tryz.underlying79;rw [qUB] at h1;obtain⟨a0,a1,a2,rfl⟩:=rA h1;obtain⟨x0,e0,l0,m0⟩:=(show HasTy TP 77 [a0] from HasTy.fld h2 (i:=0) rfl rfl rfl qDQ).list Tryz.underlying77 Am.enc Am.Wf (λcs _ h=>qSY cs h);rw [vN] at e0;have w0:=And.intro l0 m0;replace e0:[a0]=[D.sl 3 (x0.map Am.enc)]:=e0;simp only [List.cons.injEq,and_true] at e0;obtain⟨x1,e1,w1⟩:=(show HasTy TP 3 [a1] from HasTy.fld h2 (i:=1) rfl rfl rfl bH).int_inv Tryz.underlying3;replace e1:[a1]=[D.int .i64 x1]:=e1;simp only [List.cons.injEq,and_true] at e1;obtain⟨x2,e2,w2⟩:=(show HasTy TP 3 [a2] from HasTy.fld h2 (i:=2) rfl rfl rfl bH).int_inv Tryz.underlying3;replace e2:[a2]=[D.int .i64 x2]:=e2;simp only [List.cons.injEq,and_true] at e2;subst e0 e1 e2;exact⟨⟨x0,x1,x2⟩,⟨w0,w1,w2⟩,rfl⟩
theorem qUG:TP.cellsOf 64=10:=by kernel_rfl
theorem qZT {cs:List D} (h:cs.length=10):∃ a0 a1 a2 a3 a4 a5 a6 a7 a8 a9,cs=[a0,a1,a2,a3,a4,a5,a6,a7,a8,a9]:=by
 match cs,h with
 | [a0,a1,a2,a3,a4,a5,a6,a7,a8,a9],_=>exact⟨a0,a1,a2,a3,a4,a5,a6,a7,a8,a9,rfl⟩
theorem ty64c (cs:List D) (h:HasTy TP 64 cs):∃ x:Bd,x.Wf/\cs=[.int .i64 x.id,.str x.name,.int .i64 x.length,.int .i64 x.speed,.int .i64 x.accel,.int .i64 x.service,.int .i64 x.emergency,.int .i64 x.delay,.int .i64 x.const,.int .i64 x.rate]:=by
 obtain⟨h1,h2⟩:=h.struct_inv Tryz.underlying64;rw [qUG] at h1;obtain⟨a0,a1,a2,a3,a4,a5,a6,a7,a8,a9,rfl⟩:=qZT h1;obtain⟨x0,e0,w0⟩:=(show HasTy TP 3 [a0] from HasTy.fld h2 (i:=0) rfl rfl rfl bH).int_inv Tryz.underlying3;replace e0:[a0]=[D.int .i64 x0]:=e0;simp only [List.cons.injEq,and_true] at e0;obtain⟨x1,e1,w1⟩:=(show HasTy TP 9 [a1] from HasTy.fld h2 (i:=1) rfl rfl rfl rT).str_inv Tryz.underlying9;replace e1:[a1]=[D.str x1]:=e1;simp only [List.cons.injEq,and_true] at e1;obtain⟨x2,e2,w2⟩:=(show HasTy TP 3 [a2] from HasTy.fld h2 (i:=2) rfl rfl rfl bH).int_inv Tryz.underlying3;replace e2:[a2]=[D.int .i64 x2]:=e2;simp only [List.cons.injEq,and_true] at e2;obtain⟨x3,e3,w3⟩:=(show HasTy TP 3 [a3] from HasTy.fld h2 (i:=3) rfl rfl rfl bH).int_inv Tryz.underlying3;replace e3:[a3]=[D.int .i64 x3]:=e3;simp only [List.cons.injEq,and_true] at e3;obtain⟨x4,e4,w4⟩:=(show HasTy TP 3 [a4] from HasTy.fld h2 (i:=4) rfl rfl rfl bH).int_inv Tryz.underlying3;replace e4:[a4]=[D.int .i64 x4]:=e4;simp only [List.cons.injEq,and_true] at e4;obtain⟨x5,e5,w5⟩:=(show HasTy TP 3 [a5] from HasTy.fld h2 (i:=5) rfl rfl rfl bH).int_inv Tryz.underlying3;replace e5:[a5]=[D.int .i64 x5]:=e5;simp only [List.cons.injEq,and_true] at e5;obtain⟨x6,e6,w6⟩:=(show HasTy TP 3 [a6] from HasTy.fld h2 (i:=6) rfl rfl rfl bH).int_inv Tryz.underlying3;replace e6:[a6]=[D.int .i64 x6]:=e6;simp only [List.cons.injEq,and_true] at e6;obtain⟨x7,e7,w7⟩:=(show HasTy TP 3 [a7] from HasTy.fld h2 (i:=7) rfl rfl rfl bH).int_inv Tryz.underlying3;replace e7:[a7]=[D.int .i64 x7]:=e7;simp only [List.cons.injEq,and_true] at e7;obtain⟨x8,e8,w8⟩:=(show HasTy TP 3 [a8] from HasTy.fld h2 (i:=8) rfl rfl rfl bH).int_inv Tryz.underlying3;replace e8:[a8]=[D.int .i64 x8]:=e8;simp only [List.cons.injEq,and_true] at e8;obtain⟨x9,e9,w9⟩:=(show HasTy TP 3 [a9] from HasTy.fld h2 (i:=9) rfl rfl rfl bH).int_inv Tryz.underlying3;replace e9:[a9]=[D.int .i64 x9]:=e9;simp only [List.cons.injEq,and_true] at e9;subst e0 e1 e2 e3 e4 e5 e6 e7 e8 e9;exact⟨⟨x0,x1,x2,x3,x4,x5,x6,x7,x8,x9⟩,⟨w0,w1,w2,w3,w4,w5,w6,w7,w8,w9⟩,rfl⟩
theorem qUF:TP.cellsOf 66=3:=by kernel_rfl
theorem ty66c (cs:List D) (h:HasTy TP 66 cs):∃ x:Bq,x.Wf/\cs=[.int .i64 x.min,.int .i64 x.max,.int .i64 x.speed]:=by
 obtain⟨h1,h2⟩:=h.struct_inv Tryz.underlying66;rw [qUF] at h1;obtain⟨a0,a1,a2,rfl⟩:=rA h1;obtain⟨x0,e0,w0⟩:=(show HasTy TP 3 [a0] from HasTy.fld h2 (i:=0) rfl rfl rfl bH).int_inv Tryz.underlying3;replace e0:[a0]=[D.int .i64 x0]:=e0;simp only [List.cons.injEq,and_true] at e0;obtain⟨x1,e1,w1⟩:=(show HasTy TP 3 [a1] from HasTy.fld h2 (i:=1) rfl rfl rfl bH).int_inv Tryz.underlying3;replace e1:[a1]=[D.int .i64 x1]:=e1;simp only [List.cons.injEq,and_true] at e1;obtain⟨x2,e2,w2⟩:=(show HasTy TP 3 [a2] from HasTy.fld h2 (i:=2) rfl rfl rfl bH).int_inv Tryz.underlying3;replace e2:[a2]=[D.int .i64 x2]:=e2;simp only [List.cons.injEq,and_true] at e2;subst e0 e1 e2;exact⟨⟨x0,x1,x2⟩,⟨w0,w1,w2⟩,rfl⟩
theorem qPL:TP.cellsOf 332=4:=by kernel_rfl
theorem ty332c (cs:List D) (h:HasTy TP 332 cs):∃ x:A8,x.Wf/\cs=[.int .i64 x.fromV,.int .i64 x.to,.int .i64 x.grade,.int .i64 x.speed]:=by
 obtain⟨h1,h2⟩:=h.struct_inv Tryz.underlying332;rw [qPL] at h1;obtain⟨a0,a1,a2,a3,rfl⟩:=oJ h1;obtain⟨x0,e0,w0⟩:=(show HasTy TP 3 [a0] from HasTy.fld h2 (i:=0) rfl rfl rfl bH).int_inv Tryz.underlying3;replace e0:[a0]=[D.int .i64 x0]:=e0;simp only [List.cons.injEq,and_true] at e0;obtain⟨x1,e1,w1⟩:=(show HasTy TP 3 [a1] from HasTy.fld h2 (i:=1) rfl rfl rfl bH).int_inv Tryz.underlying3;replace e1:[a1]=[D.int .i64 x1]:=e1;simp only [List.cons.injEq,and_true] at e1;obtain⟨x2,e2,w2⟩:=(show HasTy TP 3 [a2] from HasTy.fld h2 (i:=2) rfl rfl rfl bH).int_inv Tryz.underlying3;replace e2:[a2]=[D.int .i64 x2]:=e2;simp only [List.cons.injEq,and_true] at e2;obtain⟨x3,e3,w3⟩:=(show HasTy TP 3 [a3] from HasTy.fld h2 (i:=3) rfl rfl rfl bH).int_inv Tryz.underlying3;replace e3:[a3]=[D.int .i64 x3]:=e3;simp only [List.cons.injEq,and_true] at e3;subst e0 e1 e2 e3;exact⟨⟨x0,x1,x2,x3⟩,⟨w0,w1,w2,w3⟩,rfl⟩
theorem ty332 (cs:List D) (h:HasTy TP 332 cs):∃ x:A8,x.Wf/\aY TP 332 cs=x.enc:=by
 obtain⟨x,w,rfl⟩:=ty332c cs h;exact⟨x,w,by simp [aY,Tryz.underlying332,A8.enc]⟩
theorem qPK:TP.cellsOf 334=2:=by kernel_rfl
theorem ty334c (cs:List D) (h:HasTy TP 334 cs):∃ x:Bb,x.Wf/\cs=[.int .i64 x.id,.int .i64 x.atV]:=by
 obtain⟨h1,h2⟩:=h.struct_inv Tryz.underlying334;rw [qPK] at h1;obtain⟨a0,a1,rfl⟩:=rB h1;obtain⟨x0,e0,w0⟩:=(show HasTy TP 3 [a0] from HasTy.fld h2 (i:=0) rfl rfl rfl bH).int_inv Tryz.underlying3;replace e0:[a0]=[D.int .i64 x0]:=e0;simp only [List.cons.injEq,and_true] at e0;obtain⟨x1,e1,w1⟩:=(show HasTy TP 3 [a1] from HasTy.fld h2 (i:=1) rfl rfl rfl bH).int_inv Tryz.underlying3;replace e1:[a1]=[D.int .i64 x1]:=e1;simp only [List.cons.injEq,and_true] at e1;subst e0 e1;exact⟨⟨x0,x1⟩,⟨w0,w1⟩,rfl⟩
theorem ty334 (cs:List D) (h:HasTy TP 334 cs):∃ x:Bb,x.Wf/\aY TP 334 cs=x.enc:=by
 obtain⟨x,w,rfl⟩:=ty334c cs h;exact⟨x,w,by simp [aY,Tryz.underlying334,Bb.enc]⟩
theorem qUE:TP.cellsOf 70=4:=by kernel_rfl
theorem zDJ:TP.cellsOf 67=1:=by kernel_rfl
theorem zDI:TP.cellsOf 68=1:=by kernel_rfl
theorem ty70c (cs:List D) (h:HasTy TP 70 cs):∃ x:Bo,x.Wf/\cs=[.int .i64 x.seq,.int .i64 x.endV,.sl 4 (x.profile.map A8.enc),.sl 2 (x.links.map Bb.enc)]:=by
 obtain⟨h1,h2⟩:=h.struct_inv Tryz.underlying70;rw [qUE] at h1;obtain⟨a0,a1,a2,a3,rfl⟩:=oJ h1;obtain⟨x0,e0,w0⟩:=(show HasTy TP 3 [a0] from HasTy.fld h2 (i:=0) rfl rfl rfl bH).int_inv Tryz.underlying3;replace e0:[a0]=[D.int .i64 x0]:=e0;simp only [List.cons.injEq,and_true] at e0;obtain⟨x1,e1,w1⟩:=(show HasTy TP 3 [a1] from HasTy.fld h2 (i:=1) rfl rfl rfl bH).int_inv Tryz.underlying3;replace e1:[a1]=[D.int .i64 x1]:=e1;simp only [List.cons.injEq,and_true] at e1;obtain⟨x2,e2,l2,m2⟩:=(show HasTy TP 67 [a2] from HasTy.fld h2 (i:=2) rfl rfl rfl zDJ).list Tryz.underlying67 A8.enc A8.Wf (λcs _ h=>ty332 cs h);rw [qPL] at e2;have w2:=And.intro l2 m2;replace e2:[a2]=[D.sl 4 (x2.map A8.enc)]:=e2;simp only [List.cons.injEq,and_true] at e2;obtain⟨x3,e3,l3,m3⟩:=(show HasTy TP 68 [a3] from HasTy.fld h2 (i:=3) rfl rfl rfl zDI).list Tryz.underlying68 Bb.enc Bb.Wf (λcs _ h=>ty334 cs h);rw [qPK] at e3;have w3:=And.intro l3 m3;replace e3:[a3]=[D.sl 2 (x3.map Bb.enc)]:=e3;simp only [List.cons.injEq,and_true] at e3;subst e0 e1 e2 e3;exact⟨⟨x0,x1,x2,x3⟩,⟨w0,w1,w2,w3⟩,rfl⟩
theorem qLU:TP.cellsOf 72=4:=by kernel_rfl
theorem zEY (cs:List D) (h:HasTy TP 72 cs):∃ x:Ax,x.Wf/\cs=[.int .i64 x.peer,.int .i64 x.out,.int .i64 x.inV,.int .i64 x.heard]:=by
 obtain⟨h1,h2⟩:=h.struct_inv Tryz.underlying72;rw [qLU] at h1;obtain⟨a0,a1,a2,a3,rfl⟩:=oJ h1;obtain⟨x0,e0,w0⟩:=(show HasTy TP 3 [a0] from HasTy.fld h2 (i:=0) rfl rfl rfl bH).int_inv Tryz.underlying3;replace e0:[a0]=[D.int .i64 x0]:=e0;simp only [List.cons.injEq,and_true] at e0;obtain⟨x1,e1,w1⟩:=(show HasTy TP 3 [a1] from HasTy.fld h2 (i:=1) rfl rfl rfl bH).int_inv Tryz.underlying3;replace e1:[a1]=[D.int .i64 x1]:=e1;simp only [List.cons.injEq,and_true] at e1;obtain⟨x2,e2,w2⟩:=(show HasTy TP 3 [a2] from HasTy.fld h2 (i:=2) rfl rfl rfl bH).int_inv Tryz.underlying3;replace e2:[a2]=[D.int .i64 x2]:=e2;simp only [List.cons.injEq,and_true] at e2;obtain⟨x3,e3,w3⟩:=(show HasTy TP 3 [a3] from HasTy.fld h2 (i:=3) rfl rfl rfl bH).int_inv Tryz.underlying3;replace e3:[a3]=[D.int .i64 x3]:=e3;simp only [List.cons.injEq,and_true] at e3;subst e0 e1 e2 e3;exact⟨⟨x0,x1,x2,x3⟩,⟨w0,w1,w2,w3⟩,rfl⟩
theorem ty72 (cs:List D) (h:HasTy TP 72 cs):∃ x:Ax,x.Wf/\aY TP 72 cs=x.enc:=by
 obtain⟨x,w,rfl⟩:=zEY cs h;exact⟨x,w,by simp [aY,Tryz.underlying72,Ax.enc]⟩
theorem qUD:TP.cellsOf 74=2:=by kernel_rfl
theorem ty74c (cs:List D) (h:HasTy TP 74 cs):∃ x:Bt,x.Wf/\cs=[.bool x.known,.int .i64 x.since]:=by
 obtain⟨h1,h2⟩:=h.struct_inv Tryz.underlying74;rw [qUD] at h1;obtain⟨a0,a1,rfl⟩:=rB h1;obtain⟨x0,e0⟩:=(show HasTy TP 4 [a0] from HasTy.fld h2 (i:=0) rfl rfl rfl qSL).bool_inv Tryz.underlying4;have w0:=trivial;replace e0:[a0]=[D.bool x0]:=e0;simp only [List.cons.injEq,and_true] at e0;obtain⟨x1,e1,w1⟩:=(show HasTy TP 3 [a1] from HasTy.fld h2 (i:=1) rfl rfl rfl bH).int_inv Tryz.underlying3;replace e1:[a1]=[D.int .i64 x1]:=e1;simp only [List.cons.injEq,and_true] at e1;subst e0 e1;exact⟨⟨x0,x1⟩,⟨w0,w1⟩,rfl⟩
theorem qUC:TP.cellsOf 76=26:=by kernel_rfl
theorem qZS {cs:List D} (h:cs.length=26):∃ a0 a1 a2 a3 a4 a5 a6 a7 a8 a9 a10 a11 a12 a13 a14 a15 a16 a17 a18 a19 a20 a21 a22 a23 a24 a25,cs=[a0,a1,a2,a3,a4,a5,a6,a7,a8,a9,a10,a11,a12,a13,a14,a15,a16,a17,a18,a19,a20,a21,a22,a23,a24,a25]:=by
 match cs,h with
 | [a0,a1,a2,a3,a4,a5,a6,a7,a8,a9,a10,a11,a12,a13,a14,a15,a16,a17,a18,a19,a20,a21,a22,a23,a24,a25],_=>exact⟨a0,a1,a2,a3,a4,a5,a6,a7,a8,a9,a10,a11,a12,a13,a14,a15,a16,a17,a18,a19,a20,a21,a22,a23,a24,a25,rfl⟩
theorem ty76c (cs:List D) (h:HasTy TP 76 cs):∃ x:Cab,x.Wf/\cs=[.int .i64 x.train.id,.str x.train.name,.int .i64 x.train.length,.int .i64 x.train.speed,.int .i64 x.train.accel,.int .i64 x.train.service,.int .i64 x.train.emergency,.int .i64 x.train.delay,.int .i64 x.train.const,.int .i64 x.train.rate,.int .i64 x.mode,.int .i64 x.brake,.int .i64 x.next,.int .i64 x.est.min,.int .i64 x.est.max,.int .i64 x.est.speed,.int .i64 x.auth.seq,.int .i64 x.auth.endV,.sl 4 (x.auth.profile.map A8.enc),.sl 2 (x.auth.links.map Bb.enc),.int .i64 x.session.peer,.int .i64 x.session.out,.int .i64 x.session.inV,.int .i64 x.session.heard,.bool x.tail.known,.int .i64 x.tail.since]:=by
 obtain⟨h1,h2⟩:=h.struct_inv Tryz.underlying76;rw [qUC] at h1;obtain⟨a0,a1,a2,a3,a4,a5,a6,a7,a8,a9,a10,a11,a12,a13,a14,a15,a16,a17,a18,a19,a20,a21,a22,a23,a24,a25,rfl⟩:=qZS h1;obtain⟨x0,w0,e0⟩:=ty64c _ (show HasTy TP 64 [a0,a1,a2,a3,a4,a5,a6,a7,a8,a9] from HasTy.fld h2 (i:=0) rfl rfl rfl qUG);replace e0:[a0,a1,a2,a3,a4,a5,a6,a7,a8,a9]=[D.int .i64 x0.id,D.str x0.name,D.int .i64 x0.length,D.int .i64 x0.speed,D.int .i64 x0.accel,D.int .i64 x0.service,D.int .i64 x0.emergency,D.int .i64 x0.delay,D.int .i64 x0.const,D.int .i64 x0.rate]:=e0;simp only [List.cons.injEq,and_true] at e0;obtain⟨f0x0,f0x1,f0x2,f0x3,f0x4,f0x5,f0x6,f0x7,f0x8,f0x9⟩:=e0;obtain⟨x1,e1,w1⟩:=(show HasTy TP 3 [a10] from HasTy.fld h2 (i:=1) rfl rfl rfl bH).int_inv Tryz.underlying3;replace e1:[a10]=[D.int .i64 x1]:=e1;simp only [List.cons.injEq,and_true] at e1;obtain⟨x2,e2,w2⟩:=(show HasTy TP 3 [a11] from HasTy.fld h2 (i:=2) rfl rfl rfl bH).int_inv Tryz.underlying3;replace e2:[a11]=[D.int .i64 x2]:=e2;simp only [List.cons.injEq,and_true] at e2;obtain⟨x3,e3,w3⟩:=(show HasTy TP 3 [a12] from HasTy.fld h2 (i:=3) rfl rfl rfl bH).int_inv Tryz.underlying3;replace e3:[a12]=[D.int .i64 x3]:=e3;simp only [List.cons.injEq,and_true] at e3;obtain⟨x4,w4,e4⟩:=ty66c _ (show HasTy TP 66 [a13,a14,a15] from HasTy.fld h2 (i:=4) rfl rfl rfl qUF);replace e4:[a13,a14,a15]=[D.int .i64 x4.min,D.int .i64 x4.max,D.int .i64 x4.speed]:=e4;simp only [List.cons.injEq,and_true] at e4;obtain⟨f4x0,f4x1,f4x2⟩:=e4;obtain⟨x5,w5,e5⟩:=ty70c _ (show HasTy TP 70 [a16,a17,a18,a19] from HasTy.fld h2 (i:=5) rfl rfl rfl qUE);replace e5:[a16,a17,a18,a19]=[D.int .i64 x5.seq,D.int .i64 x5.endV,D.sl 4 (x5.profile.map A8.enc),D.sl 2 (x5.links.map Bb.enc)]:=e5;simp only [List.cons.injEq,and_true] at e5;obtain⟨f5x0,f5x1,f5x2,f5x3⟩:=e5;obtain⟨x6,w6,e6⟩:=zEY _ (show HasTy TP 72 [a20,a21,a22,a23] from HasTy.fld h2 (i:=6) rfl rfl rfl qLU);replace e6:[a20,a21,a22,a23]=[D.int .i64 x6.peer,D.int .i64 x6.out,D.int .i64 x6.inV,D.int .i64 x6.heard]:=e6;simp only [List.cons.injEq,and_true] at e6;obtain⟨f6x0,f6x1,f6x2,f6x3⟩:=e6;obtain⟨x7,w7,e7⟩:=ty74c _ (show HasTy TP 74 [a24,a25] from HasTy.fld h2 (i:=7) rfl rfl rfl qUD);replace e7:[a24,a25]=[D.bool x7.known,D.int .i64 x7.since]:=e7;simp only [List.cons.injEq,and_true] at e7;obtain⟨f7x0,f7x1⟩:=e7;subst f0x0 f0x1 f0x2 f0x3 f0x4 f0x5 f0x6 f0x7 f0x8 f0x9 e1 e2 e3 f4x0 f4x1 f4x2 f5x0 f5x1 f5x2 f5x3 f6x0 f6x1 f6x2 f6x3 f7x0 f7x1;exact⟨⟨x0,x1,x2,x3,x4,x5,x6,x7⟩,⟨w0,w1,w2,w3,w4,w5,w6,w7⟩,rfl⟩
theorem qUA:TP.cellsOf 81=32:=by kernel_rfl
theorem qZQ {cs:List D} (h:cs.length=32):∃ a0 a1 a2 a3 a4 a5 a6 a7 a8 a9 a10 a11 a12 a13 a14 a15 a16 a17 a18 a19 a20 a21 a22 a23 a24 a25 a26 a27 a28 a29 a30 a31,cs=[a0,a1,a2,a3,a4,a5,a6,a7,a8,a9,a10,a11,a12,a13,a14,a15,a16,a17,a18,a19,a20,a21,a22,a23,a24,a25,a26,a27,a28,a29,a30,a31]:=by
 match cs,h with
 | [a0,a1,a2,a3,a4,a5,a6,a7,a8,a9,a10,a11,a12,a13,a14,a15,a16,a17,a18,a19,a20,a21,a22,a23,a24,a25,a26,a27,a28,a29,a30,a31],_=>exact⟨a0,a1,a2,a3,a4,a5,a6,a7,a8,a9,a10,a11,a12,a13,a14,a15,a16,a17,a18,a19,a20,a21,a22,a23,a24,a25,a26,a27,a28,a29,a30,a31,rfl⟩
theorem ty81c (cs:List D) (h:HasTy TP 81 cs):∃ x:Av,x.Wf/\cs=[.sl 3 (x.body.steps.map Am.enc),.int .i64 x.body.head,.int .i64 x.body.length,.int .i64 x.speed,.int .i64 x.xV,.int .i64 x.braking,.int .i64 x.cab.train.id,.str x.cab.train.name,.int .i64 x.cab.train.length,.int .i64 x.cab.train.speed,.int .i64 x.cab.train.accel,.int .i64 x.cab.train.service,.int .i64 x.cab.train.emergency,.int .i64 x.cab.train.delay,.int .i64 x.cab.train.const,.int .i64 x.cab.train.rate,.int .i64 x.cab.mode,.int .i64 x.cab.brake,.int .i64 x.cab.next,.int .i64 x.cab.est.min,.int .i64 x.cab.est.max,.int .i64 x.cab.est.speed,.int .i64 x.cab.auth.seq,.int .i64 x.cab.auth.endV,.sl 4 (x.cab.auth.profile.map A8.enc),.sl 2 (x.cab.auth.links.map Bb.enc),.int .i64 x.cab.session.peer,.int .i64 x.cab.session.out,.int .i64 x.cab.session.inV,.int .i64 x.cab.session.heard,.bool x.cab.tail.known,.int .i64 x.cab.tail.since]:=by
 obtain⟨h1,h2⟩:=h.struct_inv Tryz.underlying81;rw [qUA] at h1;obtain⟨a0,a1,a2,a3,a4,a5,a6,a7,a8,a9,a10,a11,a12,a13,a14,a15,a16,a17,a18,a19,a20,a21,a22,a23,a24,a25,a26,a27,a28,a29,a30,a31,rfl⟩:=qZQ h1;obtain⟨x0,w0,e0⟩:=ty79c _ (show HasTy TP 79 [a0,a1,a2] from HasTy.fld h2 (i:=0) rfl rfl rfl qUB);replace e0:[a0,a1,a2]=[D.sl 3 (x0.steps.map Am.enc),D.int .i64 x0.head,D.int .i64 x0.length]:=e0;simp only [List.cons.injEq,and_true] at e0;obtain⟨f0x0,f0x1,f0x2⟩:=e0;obtain⟨x1,e1,w1⟩:=(show HasTy TP 3 [a3] from HasTy.fld h2 (i:=1) rfl rfl rfl bH).int_inv Tryz.underlying3;replace e1:[a3]=[D.int .i64 x1]:=e1;simp only [List.cons.injEq,and_true] at e1;obtain⟨x2,e2,w2⟩:=(show HasTy TP 3 [a4] from HasTy.fld h2 (i:=2) rfl rfl rfl bH).int_inv Tryz.underlying3;replace e2:[a4]=[D.int .i64 x2]:=e2;simp only [List.cons.injEq,and_true] at e2;obtain⟨x3,e3,w3⟩:=(show HasTy TP 3 [a5] from HasTy.fld h2 (i:=3) rfl rfl rfl bH).int_inv Tryz.underlying3;replace e3:[a5]=[D.int .i64 x3]:=e3;simp only [List.cons.injEq,and_true] at e3;obtain⟨x4,w4,e4⟩:=ty76c _ (show HasTy TP 76 [a6,a7,a8,a9,a10,a11,a12,a13,a14,a15,a16,a17,a18,a19,a20,a21,a22,a23,a24,a25,a26,a27,a28,a29,a30,a31] from HasTy.fld h2 (i:=4) rfl rfl rfl qUC);replace e4:[a6,a7,a8,a9,a10,a11,a12,a13,a14,a15,a16,a17,a18,a19,a20,a21,a22,a23,a24,a25,a26,a27,a28,a29,a30,a31]=[D.int .i64 x4.train.id,D.str x4.train.name,D.int .i64 x4.train.length,D.int .i64 x4.train.speed,D.int .i64 x4.train.accel,D.int .i64 x4.train.service,D.int .i64 x4.train.emergency,D.int .i64 x4.train.delay,D.int .i64 x4.train.const,D.int .i64 x4.train.rate,D.int .i64 x4.mode,D.int .i64 x4.brake,D.int .i64 x4.next,D.int .i64 x4.est.min,D.int .i64 x4.est.max,D.int .i64 x4.est.speed,D.int .i64 x4.auth.seq,D.int .i64 x4.auth.endV,D.sl 4 (x4.auth.profile.map A8.enc),D.sl 2 (x4.auth.links.map Bb.enc),D.int .i64 x4.session.peer,D.int .i64 x4.session.out,D.int .i64 x4.session.inV,D.int .i64 x4.session.heard,D.bool x4.tail.known,D.int .i64 x4.tail.since]:=e4;simp only [List.cons.injEq,and_true] at e4;obtain⟨f4x0,f4x1,f4x2,f4x3,f4x4,f4x5,f4x6,f4x7,f4x8,f4x9,f4x10,f4x11,f4x12,f4x13,f4x14,f4x15,f4x16,f4x17,f4x18,f4x19,f4x20,f4x21,f4x22,f4x23,f4x24,f4x25⟩:=e4;subst f0x0 f0x1 f0x2 e1 e2 e3 f4x0 f4x1 f4x2 f4x3 f4x4 f4x5 f4x6 f4x7 f4x8 f4x9 f4x10 f4x11 f4x12 f4x13 f4x14 f4x15 f4x16 f4x17 f4x18 f4x19 f4x20 f4x21 f4x22 f4x23 f4x24 f4x25;exact⟨⟨x0,x1,x2,x3,x4⟩,⟨w0,w1,w2,w3,w4⟩,rfl⟩
theorem ty81 (cs:List D) (h:HasTy TP 81 cs):∃ x:Av,x.Wf/\aY TP 81 cs=x.enc:=by
 obtain⟨x,w,rfl⟩:=ty81c cs h;exact⟨x,w,by simp [aY,Tryz.underlying81,Av.enc]⟩
theorem qPZ:TP.cellsOf 115=14:=by kernel_rfl
theorem ty115c (cs:List D) (h:HasTy TP 115 cs):∃ x:A5,x.Wf/\cs=[.int .i64 x.id,.int .i64 x.origin,.int .i64 x.endV,.int .i64 x.atV,.sl 3 (x.steps.map Am.enc),.sl 1 (x.Ab.map (D.int .i64)),.sl 1 (x.starts.map (D.int .i64)),.sl 1 (x.ends.map (D.int .i64)),.sl 1 (x.done.map (D.int .i64)),.int .i64 x.min,.int .i64 x.sent,.int .i64 x.accepted,.int .i64 x.cut,.int .i64 x.cutSeq]:=by
 obtain⟨h1,h2⟩:=h.struct_inv Tryz.underlying115;rw [qPZ] at h1;obtain⟨a0,a1,a2,a3,a4,a5,a6,a7,a8,a9,a10,a11,a12,a13,rfl⟩:=qOI h1;obtain⟨x0,e0,w0⟩:=(show HasTy TP 3 [a0] from HasTy.fld h2 (i:=0) rfl rfl rfl bH).int_inv Tryz.underlying3;replace e0:[a0]=[D.int .i64 x0]:=e0;simp only [List.cons.injEq,and_true] at e0;obtain⟨x1,e1,w1⟩:=(show HasTy TP 3 [a1] from HasTy.fld h2 (i:=1) rfl rfl rfl bH).int_inv Tryz.underlying3;replace e1:[a1]=[D.int .i64 x1]:=e1;simp only [List.cons.injEq,and_true] at e1;obtain⟨x2,e2,w2⟩:=(show HasTy TP 3 [a2] from HasTy.fld h2 (i:=2) rfl rfl rfl bH).int_inv Tryz.underlying3;replace e2:[a2]=[D.int .i64 x2]:=e2;simp only [List.cons.injEq,and_true] at e2;obtain⟨x3,e3,w3⟩:=(show HasTy TP 3 [a3] from HasTy.fld h2 (i:=3) rfl rfl rfl bH).int_inv Tryz.underlying3;replace e3:[a3]=[D.int .i64 x3]:=e3;simp only [List.cons.injEq,and_true] at e3;obtain⟨x4,e4,l4,m4⟩:=(show HasTy TP 77 [a4] from HasTy.fld h2 (i:=4) rfl rfl rfl qDQ).list Tryz.underlying77 Am.enc Am.Wf (λcs _ h=>qSY cs h);rw [vN] at e4;have w4:=And.intro l4 m4;replace e4:[a4]=[D.sl 3 (x4.map Am.enc)]:=e4;simp only [List.cons.injEq,and_true] at e4;obtain⟨x5,e5,l5,m5⟩:=(show HasTy TP 30 [a5] from HasTy.fld h2 (i:=5) rfl rfl rfl kD).list Tryz.underlying30 (D.int .i64) I64 (λcs _ h=>ty3 cs h);rw [bH] at e5;have w5:=And.intro l5 m5;replace e5:[a5]=[D.sl 1 (x5.map (D.int .i64))]:=e5;simp only [List.cons.injEq,and_true] at e5;obtain⟨x6,e6,l6,m6⟩:=(show HasTy TP 30 [a6] from HasTy.fld h2 (i:=6) rfl rfl rfl kD).list Tryz.underlying30 (D.int .i64) I64 (λcs _ h=>ty3 cs h);rw [bH] at e6;have w6:=And.intro l6 m6;replace e6:[a6]=[D.sl 1 (x6.map (D.int .i64))]:=e6;simp only [List.cons.injEq,and_true] at e6;obtain⟨x7,e7,l7,m7⟩:=(show HasTy TP 30 [a7] from HasTy.fld h2 (i:=7) rfl rfl rfl kD).list Tryz.underlying30 (D.int .i64) I64 (λcs _ h=>ty3 cs h);rw [bH] at e7;have w7:=And.intro l7 m7;replace e7:[a7]=[D.sl 1 (x7.map (D.int .i64))]:=e7;simp only [List.cons.injEq,and_true] at e7;obtain⟨x8,e8,l8,m8⟩:=(show HasTy TP 30 [a8] from HasTy.fld h2 (i:=8) rfl rfl rfl kD).list Tryz.underlying30 (D.int .i64) I64 (λcs _ h=>ty3 cs h);rw [bH] at e8;have w8:=And.intro l8 m8;replace e8:[a8]=[D.sl 1 (x8.map (D.int .i64))]:=e8;simp only [List.cons.injEq,and_true] at e8;obtain⟨x9,e9,w9⟩:=(show HasTy TP 3 [a9] from HasTy.fld h2 (i:=9) rfl rfl rfl bH).int_inv Tryz.underlying3;replace e9:[a9]=[D.int .i64 x9]:=e9;simp only [List.cons.injEq,and_true] at e9;obtain⟨x10,e10,w10⟩:=(show HasTy TP 3 [a10] from HasTy.fld h2 (i:=10) rfl rfl rfl bH).int_inv Tryz.underlying3;replace e10:[a10]=[D.int .i64 x10]:=e10;simp only [List.cons.injEq,and_true] at e10;obtain⟨x11,e11,w11⟩:=(show HasTy TP 3 [a11] from HasTy.fld h2 (i:=11) rfl rfl rfl bH).int_inv Tryz.underlying3;replace e11:[a11]=[D.int .i64 x11]:=e11;simp only [List.cons.injEq,and_true] at e11
 obtain⟨x12,e12,w12⟩:=(show HasTy TP 3 [a12] from HasTy.fld h2 (i:=12) rfl rfl rfl bH).int_inv Tryz.underlying3;replace e12:[a12]=[D.int .i64 x12]:=e12;simp only [List.cons.injEq,and_true] at e12;obtain⟨x13,e13,w13⟩:=(show HasTy TP 3 [a13] from HasTy.fld h2 (i:=13) rfl rfl rfl bH).int_inv Tryz.underlying3;replace e13:[a13]=[D.int .i64 x13]:=e13;simp only [List.cons.injEq,and_true] at e13;subst e0 e1 e2 e3 e4 e5 e6 e7 e8 e9 e10 e11 e12 e13;exact⟨⟨x0,x1,x2,x3,x4,x5,x6,x7,x8,x9,x10,x11,x12,x13⟩,⟨w0,w1,w2,w3,w4,w5,w6,w7,w8,w9,w10,w11,w12,w13⟩,rfl⟩
theorem ty115 (cs:List D) (h:HasTy TP 115 cs):∃ x:A5,x.Wf/\aY TP 115 cs=x.enc:=by
 obtain⟨x,w,rfl⟩:=ty115c cs h;exact⟨x,w,by simp [aY,Tryz.underlying115,A5.enc]⟩
theorem qUI:TP.cellsOf 42=2:=by kernel_rfl
theorem zDV:TP.cellsOf 39=1:=by kernel_rfl
theorem zDU:TP.cellsOf 40=1:=by kernel_rfl
theorem ty42c (cs:List D) (h:HasTy TP 42 cs):∃ x:Bg,x.Wf/\cs=[.sl 14 (x.tracks.map A5.enc),.sl 4 (x.sessions.map Ax.enc)]:=by
 obtain⟨h1,h2⟩:=h.struct_inv Tryz.underlying42;rw [qUI] at h1;obtain⟨a0,a1,rfl⟩:=rB h1;obtain⟨x0,e0,l0,m0⟩:=(show HasTy TP 39 [a0] from HasTy.fld h2 (i:=0) rfl rfl rfl zDV).list Tryz.underlying39 A5.enc A5.Wf (λcs _ h=>ty115 cs h);rw [qPZ] at e0;have w0:=And.intro l0 m0;replace e0:[a0]=[D.sl 14 (x0.map A5.enc)]:=e0;simp only [List.cons.injEq,and_true] at e0;obtain⟨x1,e1,l1,m1⟩:=(show HasTy TP 40 [a1] from HasTy.fld h2 (i:=1) rfl rfl rfl zDU).list Tryz.underlying40 Ax.enc Ax.Wf (λcs _ h=>ty72 cs h);rw [qLU] at e1;have w1:=And.intro l1 m1;replace e1:[a1]=[D.sl 4 (x1.map Ax.enc)]:=e1;simp only [List.cons.injEq,and_true] at e1;subst e0 e1;exact⟨⟨x0,x1⟩,⟨w0,w1⟩,rfl⟩
theorem qTY:TP.cellsOf 89=4:=by kernel_rfl
theorem ty89c (cs:List D) (h:HasTy TP 89 cs):∃ x:A9,x.Wf/\cs=[.int .i64 x.fromV,.int .i64 x.to,.int .i64 x.age,.str x.data]:=by
 obtain⟨h1,h2⟩:=h.struct_inv Tryz.underlying89;rw [qTY] at h1;obtain⟨a0,a1,a2,a3,rfl⟩:=oJ h1;obtain⟨x0,e0,w0⟩:=(show HasTy TP 3 [a0] from HasTy.fld h2 (i:=0) rfl rfl rfl bH).int_inv Tryz.underlying3;replace e0:[a0]=[D.int .i64 x0]:=e0;simp only [List.cons.injEq,and_true] at e0;obtain⟨x1,e1,w1⟩:=(show HasTy TP 3 [a1] from HasTy.fld h2 (i:=1) rfl rfl rfl bH).int_inv Tryz.underlying3;replace e1:[a1]=[D.int .i64 x1]:=e1;simp only [List.cons.injEq,and_true] at e1;obtain⟨x2,e2,w2⟩:=(show HasTy TP 3 [a2] from HasTy.fld h2 (i:=2) rfl rfl rfl bH).int_inv Tryz.underlying3;replace e2:[a2]=[D.int .i64 x2]:=e2;simp only [List.cons.injEq,and_true] at e2;obtain⟨x3,e3,w3⟩:=(show HasTy TP 9 [a3] from HasTy.fld h2 (i:=3) rfl rfl rfl rT).str_inv Tryz.underlying9;replace e3:[a3]=[D.str x3]:=e3;simp only [List.cons.injEq,and_true] at e3;subst e0 e1 e2 e3;exact⟨⟨x0,x1,x2,x3⟩,⟨w0,w1,w2,w3⟩,rfl⟩
theorem ty89 (cs:List D) (h:HasTy TP 89 cs):∃ x:A9,x.Wf/\aY TP 89 cs=x.enc:=by
 obtain⟨x,w,rfl⟩:=ty89c cs h;exact⟨x,w,by simp [aY,Tryz.underlying89,A9.enc]⟩
theorem qPR:TP.cellsOf 320=3:=by kernel_rfl
theorem ty320c (cs:List D) (h:HasTy TP 320 cs):∃ x:Be,x.Wf/\cs=[.int .i64 x.kind,.int .i64 x.atV,.int .i64 x.untilV]:=by
 obtain⟨h1,h2⟩:=h.struct_inv Tryz.underlying320;rw [qPR] at h1;obtain⟨a0,a1,a2,rfl⟩:=rA h1;obtain⟨x0,e0,w0⟩:=(show HasTy TP 3 [a0] from HasTy.fld h2 (i:=0) rfl rfl rfl bH).int_inv Tryz.underlying3;replace e0:[a0]=[D.int .i64 x0]:=e0;simp only [List.cons.injEq,and_true] at e0;obtain⟨x1,e1,w1⟩:=(show HasTy TP 3 [a1] from HasTy.fld h2 (i:=1) rfl rfl rfl bH).int_inv Tryz.underlying3;replace e1:[a1]=[D.int .i64 x1]:=e1;simp only [List.cons.injEq,and_true] at e1;obtain⟨x2,e2,w2⟩:=(show HasTy TP 3 [a2] from HasTy.fld h2 (i:=2) rfl rfl rfl bH).int_inv Tryz.underlying3;replace e2:[a2]=[D.int .i64 x2]:=e2;simp only [List.cons.injEq,and_true] at e2;subst e0 e1 e2;exact⟨⟨x0,x1,x2⟩,⟨w0,w1,w2⟩,rfl⟩
theorem ty320 (cs:List D) (h:HasTy TP 320 cs):∃ x:Be,x.Wf/\aY TP 320 cs=x.enc:=by
 obtain⟨x,w,rfl⟩:=ty320c cs h;exact⟨x,w,by simp [aY,Tryz.underlying320,Be.enc]⟩
theorem qPQ:TP.cellsOf 322=4:=by kernel_rfl
theorem ty322c (cs:List D) (h:HasTy TP 322 cs):∃ x:Bl,x.Wf/\cs=[.int .i64 x.kind,.int .i64 x.subject,.int .i64 x.since,.str x.byV]:=by
 obtain⟨h1,h2⟩:=h.struct_inv Tryz.underlying322;rw [qPQ] at h1;obtain⟨a0,a1,a2,a3,rfl⟩:=oJ h1;obtain⟨x0,e0,w0⟩:=(show HasTy TP 3 [a0] from HasTy.fld h2 (i:=0) rfl rfl rfl bH).int_inv Tryz.underlying3;replace e0:[a0]=[D.int .i64 x0]:=e0;simp only [List.cons.injEq,and_true] at e0;obtain⟨x1,e1,w1⟩:=(show HasTy TP 3 [a1] from HasTy.fld h2 (i:=1) rfl rfl rfl bH).int_inv Tryz.underlying3;replace e1:[a1]=[D.int .i64 x1]:=e1;simp only [List.cons.injEq,and_true] at e1;obtain⟨x2,e2,w2⟩:=(show HasTy TP 3 [a2] from HasTy.fld h2 (i:=2) rfl rfl rfl bH).int_inv Tryz.underlying3;replace e2:[a2]=[D.int .i64 x2]:=e2;simp only [List.cons.injEq,and_true] at e2;obtain⟨x3,e3,w3⟩:=(show HasTy TP 9 [a3] from HasTy.fld h2 (i:=3) rfl rfl rfl rT).str_inv Tryz.underlying9;replace e3:[a3]=[D.str x3]:=e3;simp only [List.cons.injEq,and_true] at e3;subst e0 e1 e2 e3;exact⟨⟨x0,x1,x2,x3⟩,⟨w0,w1,w2,w3⟩,rfl⟩
theorem ty322 (cs:List D) (h:HasTy TP 322 cs):∃ x:Bl,x.Wf/\aY TP 322 cs=x.enc:=by
 obtain⟨x,w,rfl⟩:=ty322c cs h;exact⟨x,w,by simp [aY,Tryz.underlying322,Bl.enc]⟩
theorem qPP:TP.cellsOf 324=4:=by kernel_rfl
theorem ty324c (cs:List D) (h:HasTy TP 324 cs):∃ x:Ay,x.Wf/\cs=[.int .i64 x.Aq,.int .i64 x.since,.str x.byV,.str x.withV]:=by
 obtain⟨h1,h2⟩:=h.struct_inv Tryz.underlying324;rw [qPP] at h1;obtain⟨a0,a1,a2,a3,rfl⟩:=oJ h1;obtain⟨x0,e0,w0⟩:=(show HasTy TP 3 [a0] from HasTy.fld h2 (i:=0) rfl rfl rfl bH).int_inv Tryz.underlying3;replace e0:[a0]=[D.int .i64 x0]:=e0;simp only [List.cons.injEq,and_true] at e0;obtain⟨x1,e1,w1⟩:=(show HasTy TP 3 [a1] from HasTy.fld h2 (i:=1) rfl rfl rfl bH).int_inv Tryz.underlying3;replace e1:[a1]=[D.int .i64 x1]:=e1;simp only [List.cons.injEq,and_true] at e1;obtain⟨x2,e2,w2⟩:=(show HasTy TP 9 [a2] from HasTy.fld h2 (i:=2) rfl rfl rfl rT).str_inv Tryz.underlying9;replace e2:[a2]=[D.str x2]:=e2;simp only [List.cons.injEq,and_true] at e2;obtain⟨x3,e3,w3⟩:=(show HasTy TP 9 [a3] from HasTy.fld h2 (i:=3) rfl rfl rfl rT).str_inv Tryz.underlying9;replace e3:[a3]=[D.str x3]:=e3;simp only [List.cons.injEq,and_true] at e3;subst e0 e1 e2 e3;exact⟨⟨x0,x1,x2,x3⟩,⟨w0,w1,w2,w3⟩,rfl⟩
theorem ty324 (cs:List D) (h:HasTy TP 324 cs):∃ x:Ay,x.Wf/\aY TP 324 cs=x.enc:=by
 obtain⟨x,w,rfl⟩:=ty324c cs h;exact⟨x,w,by simp [aY,Tryz.underlying324,Ay.enc]⟩
theorem qPO:TP.cellsOf 326=6:=by kernel_rfl
theorem ty326c (cs:List D) (h:HasTy TP 326 cs):∃ x:Au,x.Wf/\cs=[.int .i64 x.id,.int .i64 x.el,.int .i64 x.fromV,.int .i64 x.to,.int .i64 x.speed,.bool x.active]:=by
 obtain⟨h1,h2⟩:=h.struct_inv Tryz.underlying326;rw [qPO] at h1;obtain⟨a0,a1,a2,a3,a4,a5,rfl⟩:=qTQ h1;obtain⟨x0,e0,w0⟩:=(show HasTy TP 3 [a0] from HasTy.fld h2 (i:=0) rfl rfl rfl bH).int_inv Tryz.underlying3;replace e0:[a0]=[D.int .i64 x0]:=e0;simp only [List.cons.injEq,and_true] at e0;obtain⟨x1,e1,w1⟩:=(show HasTy TP 3 [a1] from HasTy.fld h2 (i:=1) rfl rfl rfl bH).int_inv Tryz.underlying3;replace e1:[a1]=[D.int .i64 x1]:=e1;simp only [List.cons.injEq,and_true] at e1;obtain⟨x2,e2,w2⟩:=(show HasTy TP 3 [a2] from HasTy.fld h2 (i:=2) rfl rfl rfl bH).int_inv Tryz.underlying3;replace e2:[a2]=[D.int .i64 x2]:=e2;simp only [List.cons.injEq,and_true] at e2;obtain⟨x3,e3,w3⟩:=(show HasTy TP 3 [a3] from HasTy.fld h2 (i:=3) rfl rfl rfl bH).int_inv Tryz.underlying3;replace e3:[a3]=[D.int .i64 x3]:=e3;simp only [List.cons.injEq,and_true] at e3;obtain⟨x4,e4,w4⟩:=(show HasTy TP 3 [a4] from HasTy.fld h2 (i:=4) rfl rfl rfl bH).int_inv Tryz.underlying3;replace e4:[a4]=[D.int .i64 x4]:=e4;simp only [List.cons.injEq,and_true] at e4;obtain⟨x5,e5⟩:=(show HasTy TP 4 [a5] from HasTy.fld h2 (i:=5) rfl rfl rfl qSL).bool_inv Tryz.underlying4;have w5:=trivial;replace e5:[a5]=[D.bool x5]:=e5;simp only [List.cons.injEq,and_true] at e5;subst e0 e1 e2 e3 e4 e5;exact⟨⟨x0,x1,x2,x3,x4,x5⟩,⟨w0,w1,w2,w3,w4,w5⟩,rfl⟩
theorem ty326 (cs:List D) (h:HasTy TP 326 cs):∃ x:Au,x.Wf/\aY TP 326 cs=x.enc:=by
 obtain⟨x,w,rfl⟩:=ty326c cs h;exact⟨x,w,by simp [aY,Tryz.underlying326,Au.enc]⟩
theorem qPN:TP.cellsOf 328=3:=by kernel_rfl
theorem ty328c (cs:List D) (h:HasTy TP 328 cs):∃ x:Bf,x.Wf/\cs=[.int .i64 x.train,.int .i64 x.kind,.int .i64 x.untilV]:=by
 obtain⟨h1,h2⟩:=h.struct_inv Tryz.underlying328;rw [qPN] at h1;obtain⟨a0,a1,a2,rfl⟩:=rA h1;obtain⟨x0,e0,w0⟩:=(show HasTy TP 3 [a0] from HasTy.fld h2 (i:=0) rfl rfl rfl bH).int_inv Tryz.underlying3;replace e0:[a0]=[D.int .i64 x0]:=e0;simp only [List.cons.injEq,and_true] at e0;obtain⟨x1,e1,w1⟩:=(show HasTy TP 3 [a1] from HasTy.fld h2 (i:=1) rfl rfl rfl bH).int_inv Tryz.underlying3;replace e1:[a1]=[D.int .i64 x1]:=e1;simp only [List.cons.injEq,and_true] at e1;obtain⟨x2,e2,w2⟩:=(show HasTy TP 3 [a2] from HasTy.fld h2 (i:=2) rfl rfl rfl bH).int_inv Tryz.underlying3;replace e2:[a2]=[D.int .i64 x2]:=e2;simp only [List.cons.injEq,and_true] at e2;subst e0 e1 e2;exact⟨⟨x0,x1,x2⟩,⟨w0,w1,w2⟩,rfl⟩
theorem ty328 (cs:List D) (h:HasTy TP 328 cs):∃ x:Bf,x.Wf/\aY TP 328 cs=x.enc:=by
 obtain⟨x,w,rfl⟩:=ty328c cs h;exact⟨x,w,by simp [aY,Tryz.underlying328,Bf.enc]⟩
theorem qPX:TP.cellsOf 135=4:=by kernel_rfl
theorem ty135c (cs:List D) (h:HasTy TP 135 cs):∃ x:Stop,x.Wf/\cs=[.int .i64 x.route,.int .i64 x.due,.int .i64 x.run,.int .i64 x.weight]:=by
 obtain⟨h1,h2⟩:=h.struct_inv Tryz.underlying135;rw [qPX] at h1;obtain⟨a0,a1,a2,a3,rfl⟩:=oJ h1;obtain⟨x0,e0,w0⟩:=(show HasTy TP 3 [a0] from HasTy.fld h2 (i:=0) rfl rfl rfl bH).int_inv Tryz.underlying3;replace e0:[a0]=[D.int .i64 x0]:=e0;simp only [List.cons.injEq,and_true] at e0;obtain⟨x1,e1,w1⟩:=(show HasTy TP 3 [a1] from HasTy.fld h2 (i:=1) rfl rfl rfl bH).int_inv Tryz.underlying3;replace e1:[a1]=[D.int .i64 x1]:=e1;simp only [List.cons.injEq,and_true] at e1;obtain⟨x2,e2,w2⟩:=(show HasTy TP 3 [a2] from HasTy.fld h2 (i:=2) rfl rfl rfl bH).int_inv Tryz.underlying3;replace e2:[a2]=[D.int .i64 x2]:=e2;simp only [List.cons.injEq,and_true] at e2;obtain⟨x3,e3,w3⟩:=(show HasTy TP 3 [a3] from HasTy.fld h2 (i:=3) rfl rfl rfl bH).int_inv Tryz.underlying3;replace e3:[a3]=[D.int .i64 x3]:=e3;simp only [List.cons.injEq,and_true] at e3;subst e0 e1 e2 e3;exact⟨⟨x0,x1,x2,x3⟩,⟨w0,w1,w2,w3⟩,rfl⟩
theorem ty135 (cs:List D) (h:HasTy TP 135 cs):∃ x:Stop,x.Wf/\aY TP 135 cs=x.enc:=by
 obtain⟨x,w,rfl⟩:=ty135c cs h;exact⟨x,w,by simp [aY,Tryz.underlying135,Stop.enc]⟩
theorem qTZ:TP.cellsOf 87=2:=by kernel_rfl
theorem zDH:TP.cellsOf 85=1:=by kernel_rfl
theorem ty87c (cs:List D) (h:HasTy TP 87 cs):∃ x:A6,x.Wf/\cs=[.int .i64 x.train,.sl 4 (x.stops.map Stop.enc)]:=by
 obtain⟨h1,h2⟩:=h.struct_inv Tryz.underlying87;rw [qTZ] at h1;obtain⟨a0,a1,rfl⟩:=rB h1;obtain⟨x0,e0,w0⟩:=(show HasTy TP 3 [a0] from HasTy.fld h2 (i:=0) rfl rfl rfl bH).int_inv Tryz.underlying3;replace e0:[a0]=[D.int .i64 x0]:=e0;simp only [List.cons.injEq,and_true] at e0;obtain⟨x1,e1,l1,m1⟩:=(show HasTy TP 85 [a1] from HasTy.fld h2 (i:=1) rfl rfl rfl zDH).list Tryz.underlying85 Stop.enc Stop.Wf (λcs _ h=>ty135 cs h);rw [qPX] at e1;have w1:=And.intro l1 m1;replace e1:[a1]=[D.sl 4 (x1.map Stop.enc)]:=e1;simp only [List.cons.injEq,and_true] at e1;subst e0 e1;exact⟨⟨x0,x1⟩,⟨w0,w1⟩,rfl⟩
theorem ty87 (cs:List D) (h:HasTy TP 87 cs):∃ x:A6,x.Wf/\aY TP 87 cs=x.enc:=by
 obtain⟨x,w,rfl⟩:=ty87c cs h;exact⟨x,w,by simp [aY,Tryz.underlying87,A6.enc]⟩
theorem qUH:TP.cellsOf 52=2:=by kernel_rfl
theorem zDM:TP.cellsOf 50=1:=by kernel_rfl
theorem ty52c (cs:List D) (h:HasTy TP 52 cs):∃ x:A7,x.Wf/\cs=[.sl 1 (x.starts.map (λ(l:List Int)=>D.sl 1 (l.map (D.int .i64)))),.int .i64 x.cost]:=by
 obtain⟨h1,h2⟩:=h.struct_inv Tryz.underlying52;rw [qUH] at h1;obtain⟨a0,a1,rfl⟩:=rB h1;obtain⟨x0,e0,l0,m0⟩:=(show HasTy TP 50 [a0] from HasTy.fld h2 (i:=0) rfl rfl rfl zDM).list Tryz.underlying50 (λ(l:List Int)=>D.sl 1 (l.map (D.int .i64))) (λl=>l.length<=reachBytes/\∀ x∈l,I64 x) (λcs _ h=>ty30 cs h);rw [kD] at e0;have w0:=And.intro l0 m0;replace e0:[a0]=[D.sl 1 (x0.map (λ(l:List Int)=>D.sl 1 (l.map (D.int .i64))))]:=e0;simp only [List.cons.injEq,and_true] at e0;obtain⟨x1,e1,w1⟩:=(show HasTy TP 3 [a1] from HasTy.fld h2 (i:=1) rfl rfl rfl bH).int_inv Tryz.underlying3;replace e1:[a1]=[D.int .i64 x1]:=e1;simp only [List.cons.injEq,and_true] at e1;subst e0 e1;exact⟨⟨x0,x1⟩,⟨w0,w1⟩,rfl⟩
theorem qPM:TP.cellsOf 330=5:=by kernel_rfl
theorem ty330c (cs:List D) (h:HasTy TP 330 cs):∃ x:A3,x.Wf/\cs=[.int .i64 x.atV,.int .i64 x.trip,.int .i64 x.stop,.int .i64 x.route,.int .i64 x.delay]:=by
 obtain⟨h1,h2⟩:=h.struct_inv Tryz.underlying330;rw [qPM] at h1;obtain⟨a0,a1,a2,a3,a4,rfl⟩:=qTR h1;obtain⟨x0,e0,w0⟩:=(show HasTy TP 3 [a0] from HasTy.fld h2 (i:=0) rfl rfl rfl bH).int_inv Tryz.underlying3;replace e0:[a0]=[D.int .i64 x0]:=e0;simp only [List.cons.injEq,and_true] at e0;obtain⟨x1,e1,w1⟩:=(show HasTy TP 3 [a1] from HasTy.fld h2 (i:=1) rfl rfl rfl bH).int_inv Tryz.underlying3;replace e1:[a1]=[D.int .i64 x1]:=e1;simp only [List.cons.injEq,and_true] at e1;obtain⟨x2,e2,w2⟩:=(show HasTy TP 3 [a2] from HasTy.fld h2 (i:=2) rfl rfl rfl bH).int_inv Tryz.underlying3;replace e2:[a2]=[D.int .i64 x2]:=e2;simp only [List.cons.injEq,and_true] at e2;obtain⟨x3,e3,w3⟩:=(show HasTy TP 3 [a3] from HasTy.fld h2 (i:=3) rfl rfl rfl bH).int_inv Tryz.underlying3;replace e3:[a3]=[D.int .i64 x3]:=e3;simp only [List.cons.injEq,and_true] at e3;obtain⟨x4,e4,w4⟩:=(show HasTy TP 3 [a4] from HasTy.fld h2 (i:=4) rfl rfl rfl bH).int_inv Tryz.underlying3;replace e4:[a4]=[D.int .i64 x4]:=e4;simp only [List.cons.injEq,and_true] at e4;subst e0 e1 e2 e3 e4;exact⟨⟨x0,x1,x2,x3,x4⟩,⟨w0,w1,w2,w3,w4⟩,rfl⟩
theorem ty330 (cs:List D) (h:HasTy TP 330 cs):∃ x:A3,x.Wf/\aY TP 330 cs=x.enc:=by
 obtain⟨x,w,rfl⟩:=ty330c cs h;exact⟨x,w,by simp [aY,Tryz.underlying330,A3.enc]⟩
theorem zDK:TP.cellsOf 55=30:=by kernel_rfl
theorem zDY:TP.cellsOf 36=1:=by kernel_rfl
theorem zDX:TP.cellsOf 37=1:=by kernel_rfl
theorem zDW:TP.cellsOf 38=1:=by kernel_rfl
theorem zDT:TP.cellsOf 43=1:=by kernel_rfl
theorem zDS:TP.cellsOf 44=1:=by kernel_rfl
theorem zDR:TP.cellsOf 45=1:=by kernel_rfl
theorem zDQ:TP.cellsOf 46=1:=by kernel_rfl
theorem zDP:TP.cellsOf 47=1:=by kernel_rfl
theorem zDO:TP.cellsOf 48=1:=by kernel_rfl
theorem zDN:TP.cellsOf 49=1:=by kernel_rfl
theorem zDL:TP.cellsOf 53=1:=by kernel_rfl
theorem qZR {cs:List D} (h:cs.length=30):∃ a0 a1 a2 a3 a4 a5 a6 a7 a8 a9 a10 a11 a12 a13 a14 a15 a16 a17 a18 a19 a20 a21 a22 a23 a24 a25 a26 a27 a28 a29,cs=[a0,a1,a2,a3,a4,a5,a6,a7,a8,a9,a10,a11,a12,a13,a14,a15,a16,a17,a18,a19,a20,a21,a22,a23,a24,a25,a26,a27,a28,a29]:=by
 match cs,h with
 | [a0,a1,a2,a3,a4,a5,a6,a7,a8,a9,a10,a11,a12,a13,a14,a15,a16,a17,a18,a19,a20,a21,a22,a23,a24,a25,a26,a27,a28,a29],_=>exact⟨a0,a1,a2,a3,a4,a5,a6,a7,a8,a9,a10,a11,a12,a13,a14,a15,a16,a17,a18,a19,a20,a21,a22,a23,a24,a25,a26,a27,a28,a29,rfl⟩
theorem ty55c (cs:List D) (h:HasTy TP 55 cs):∃ x:An,x.Wf/\cs=[.str x.layout.name,.sl 1 (x.layout.Ac.map D.str),.sl 7 (x.layout.Ae.map Aw.enc),.sl 4 (x.layout.joints.map Ba.enc),.sl 4 (x.layout.Ah.map A0.enc),.sl 3 (x.layout.balises.map A4.enc),.sl 14 (x.Ar.Ab.map Ai.enc),.sl 1 (x.Ar.Ad.map (D.int .i64)),.sl 1 (x.Ar.A1.map (D.int .i64)),.int .i64 x.Ar.Ac,.int .i64 x.Ar.Ah,.sl 3 (x.inter.Ab.map Ak.enc),.sl 1 (x.inter.lies.map (D.int .i64)),.sl 3 (x.machines.map As.enc),.sl 1 (x.clear.map D.bool),.sl 32 (x.units.map Av.enc),.sl 14 (x.center.tracks.map A5.enc),.sl 4 (x.center.sessions.map Ax.enc),.sl 4 (x.air.map A9.enc),.sl 3 (x.faults.map Be.enc),.sl 4 (x.pending.map Bl.enc),.sl 4 (x.possessions.map Ay.enc),.sl 6 (x.restrictions.map Au.enc),.sl 3 (x.orders.map Bf.enc),.sl 2 (x.trips.map A6.enc),.sl 1 (x.plan.starts.map (λ(l:List Int)=>D.sl 1 (l.map (D.int .i64)))),.int .i64 x.plan.cost,.sl 1 (x.progress.map (D.int .i64)),.sl 5 (x.decisions.map A3.enc),.int .i64 x.now]:=by
 obtain⟨h1,h2⟩:=h.struct_inv Tryz.underlying55;rw [zDK] at h1;obtain⟨a0,a1,a2,a3,a4,a5,a6,a7,a8,a9,a10,a11,a12,a13,a14,a15,a16,a17,a18,a19,a20,a21,a22,a23,a24,a25,a26,a27,a28,a29,rfl⟩:=qZR h1;obtain⟨x0,w0,e0⟩:=ty28c _ (show HasTy TP 28 [a0,a1,a2,a3,a4,a5] from HasTy.fld h2 (i:=0) rfl rfl rfl qUL);replace e0:[a0,a1,a2,a3,a4,a5]=[D.str x0.name,D.sl 1 (x0.Ac.map D.str),D.sl 7 (x0.Ae.map Aw.enc),D.sl 4 (x0.joints.map Ba.enc),D.sl 4 (x0.Ah.map A0.enc),D.sl 3 (x0.balises.map A4.enc)]:=e0;simp only [List.cons.injEq,and_true] at e0;obtain⟨f0x0,f0x1,f0x2,f0x3,f0x4,f0x5⟩:=e0;obtain⟨x1,w1,e1⟩:=ty32c _ (show HasTy TP 32 [a6,a7,a8,a9,a10] from HasTy.fld h2 (i:=1) rfl rfl rfl qUK);replace e1:[a6,a7,a8,a9,a10]=[D.sl 14 (x1.Ab.map Ai.enc),D.sl 1 (x1.Ad.map (D.int .i64)),D.sl 1 (x1.A1.map (D.int .i64)),D.int .i64 x1.Ac,D.int .i64 x1.Ah]:=e1;simp only [List.cons.injEq,and_true] at e1;obtain⟨f1x0,f1x1,f1x2,f1x3,f1x4⟩:=e1;obtain⟨x2,w2,e2⟩:=ty35c _ (show HasTy TP 35 [a11,a12] from HasTy.fld h2 (i:=2) rfl rfl rfl qUJ);replace e2:[a11,a12]=[D.sl 3 (x2.Ab.map Ak.enc),D.sl 1 (x2.lies.map (D.int .i64))]:=e2;simp only [List.cons.injEq,and_true] at e2;obtain⟨f2x0,f2x1⟩:=e2;obtain⟨x3,e3,l3,m3⟩:=(show HasTy TP 36 [a13] from HasTy.fld h2 (i:=3) rfl rfl rfl zDY).list Tryz.underlying36 As.enc As.Wf (λcs _ h=>ty129 cs h);rw [qPY] at e3;have w3:=And.intro l3 m3;replace e3:[a13]=[D.sl 3 (x3.map As.enc)]:=e3;simp only [List.cons.injEq,and_true] at e3;obtain⟨x4,e4,l4,m4⟩:=(show HasTy TP 37 [a14] from HasTy.fld h2 (i:=4) rfl rfl rfl zDX).list Tryz.underlying37 D.bool (λ_=>True) (λcs _ h=>ty4 cs h);rw [qSL] at e4;have w4:=And.intro l4 m4;replace e4:[a14]=[D.sl 1 (x4.map D.bool)]:=e4;simp only [List.cons.injEq,and_true] at e4;obtain⟨x5,e5,l5,m5⟩:=(show HasTy TP 38 [a15] from HasTy.fld h2 (i:=5) rfl rfl rfl zDW).list Tryz.underlying38 Av.enc Av.Wf (λcs _ h=>ty81 cs h);rw [qUA] at e5;have w5:=And.intro l5 m5;replace e5:[a15]=[D.sl 32 (x5.map Av.enc)]:=e5;simp only [List.cons.injEq,and_true] at e5;obtain⟨x6,w6,e6⟩:=ty42c _ (show HasTy TP 42 [a16,a17] from HasTy.fld h2 (i:=6) rfl rfl rfl qUI);replace e6:[a16,a17]=[D.sl 14 (x6.tracks.map A5.enc),D.sl 4 (x6.sessions.map Ax.enc)]:=e6;simp only [List.cons.injEq,and_true] at e6;obtain⟨f6x0,f6x1⟩:=e6;obtain⟨x7,e7,l7,m7⟩:=(show HasTy TP 43 [a18] from HasTy.fld h2 (i:=7) rfl rfl rfl zDT).list Tryz.underlying43 A9.enc A9.Wf (λcs _ h=>ty89 cs h);rw [qTY] at e7;have w7:=And.intro l7 m7;replace e7:[a18]=[D.sl 4 (x7.map A9.enc)]:=e7;simp only [List.cons.injEq,and_true] at e7;obtain⟨x8,e8,l8,m8⟩:=(show HasTy TP 44 [a19] from HasTy.fld h2 (i:=8) rfl rfl rfl zDS).list Tryz.underlying44 Be.enc Be.Wf (λcs _ h=>ty320 cs h);rw [qPR] at e8;have w8:=And.intro l8 m8;replace e8:[a19]=[D.sl 3 (x8.map Be.enc)]:=e8
 simp only [List.cons.injEq,and_true] at e8;obtain⟨x9,e9,l9,m9⟩:=(show HasTy TP 45 [a20] from HasTy.fld h2 (i:=9) rfl rfl rfl zDR).list Tryz.underlying45 Bl.enc Bl.Wf (λcs _ h=>ty322 cs h);rw [qPQ] at e9;have w9:=And.intro l9 m9;replace e9:[a20]=[D.sl 4 (x9.map Bl.enc)]:=e9;simp only [List.cons.injEq,and_true] at e9;obtain⟨x10,e10,l10,m10⟩:=(show HasTy TP 46 [a21] from HasTy.fld h2 (i:=10) rfl rfl rfl zDQ).list Tryz.underlying46 Ay.enc Ay.Wf (λcs _ h=>ty324 cs h);rw [qPP] at e10;have w10:=And.intro l10 m10;replace e10:[a21]=[D.sl 4 (x10.map Ay.enc)]:=e10;simp only [List.cons.injEq,and_true] at e10;obtain⟨x11,e11,l11,m11⟩:=(show HasTy TP 47 [a22] from HasTy.fld h2 (i:=11) rfl rfl rfl zDP).list Tryz.underlying47 Au.enc Au.Wf (λcs _ h=>ty326 cs h);rw [qPO] at e11;have w11:=And.intro l11 m11;replace e11:[a22]=[D.sl 6 (x11.map Au.enc)]:=e11;simp only [List.cons.injEq,and_true] at e11;obtain⟨x12,e12,l12,m12⟩:=(show HasTy TP 48 [a23] from HasTy.fld h2 (i:=12) rfl rfl rfl zDO).list Tryz.underlying48 Bf.enc Bf.Wf (λcs _ h=>ty328 cs h);rw [qPN] at e12;have w12:=And.intro l12 m12;replace e12:[a23]=[D.sl 3 (x12.map Bf.enc)]:=e12;simp only [List.cons.injEq,and_true] at e12;obtain⟨x13,e13,l13,m13⟩:=(show HasTy TP 49 [a24] from HasTy.fld h2 (i:=13) rfl rfl rfl zDN).list Tryz.underlying49 A6.enc A6.Wf (λcs _ h=>ty87 cs h);rw [qTZ] at e13;have w13:=And.intro l13 m13;replace e13:[a24]=[D.sl 2 (x13.map A6.enc)]:=e13;simp only [List.cons.injEq,and_true] at e13;obtain⟨x14,w14,e14⟩:=ty52c _ (show HasTy TP 52 [a25,a26] from HasTy.fld h2 (i:=14) rfl rfl rfl qUH);replace e14:[a25,a26]=[D.sl 1 (x14.starts.map (λ(l:List Int)=>D.sl 1 (l.map (D.int .i64)))),D.int .i64 x14.cost]:=e14;simp only [List.cons.injEq,and_true] at e14;obtain⟨f14x0,f14x1⟩:=e14;obtain⟨x15,e15,l15,m15⟩:=(show HasTy TP 30 [a27] from HasTy.fld h2 (i:=15) rfl rfl rfl kD).list Tryz.underlying30 (D.int .i64) I64 (λcs _ h=>ty3 cs h);rw [bH] at e15;have w15:=And.intro l15 m15;replace e15:[a27]=[D.sl 1 (x15.map (D.int .i64))]:=e15;simp only [List.cons.injEq,and_true] at e15;obtain⟨x16,e16,l16,m16⟩:=(show HasTy TP 53 [a28] from HasTy.fld h2 (i:=16) rfl rfl rfl zDL).list Tryz.underlying53 A3.enc A3.Wf (λcs _ h=>ty330 cs h);rw [qPM] at e16;have w16:=And.intro l16 m16;replace e16:[a28]=[D.sl 5 (x16.map A3.enc)]:=e16;simp only [List.cons.injEq,and_true] at e16;obtain⟨x17,e17,w17⟩:=(show HasTy TP 3 [a29] from HasTy.fld h2 (i:=17) rfl rfl rfl bH).int_inv Tryz.underlying3;replace e17:[a29]=[D.int .i64 x17]:=e17;simp only [List.cons.injEq,and_true] at e17;subst f0x0 f0x1 f0x2 f0x3 f0x4 f0x5 f1x0 f1x1 f1x2 f1x3 f1x4 f2x0 f2x1 e3 e4 e5 f6x0 f6x1 e7 e8 e9 e10 e11 e12 e13 f14x0 f14x1 e15 e16 e17;exact⟨⟨x0,x1,x2,x3,x4,x5,x6,x7,x8,x9,x10,x11,x12,x13,x14,x15,x16,x17⟩,⟨w0,w1,w2,w3,w4,w5,w6,w7,w8,w9,w10,w11,w12,w13,w14,w15,w16,w17⟩,rfl⟩
theorem ty55 (cs:List D) (h:HasTy TP 55 cs):∃ x:An,x.Wf/\aY TP 55 cs=x.enc:=by
 obtain⟨x,w,rfl⟩:=ty55c cs h;exact⟨x,w,by simp [aY,Tryz.underlying55,An.enc]⟩
def uZ (p0:Ag):Option Bool:=
 some ((decide ((p0.Ae.length:Int)<=(40:Int)))&&((decide ((p0.joints.length:Int)<=(80:Int)))&&((decide ((p0.Ah.length:Int)<=(30:Int)))&&((decide ((p0.balises.length:Int)<=(40:Int)))&&(decide ((p0.Ac.length:Int)<=(40:Int)))))))
def nQ (p0:Al) (p1:Az):Option Bool:=
 bR (
 aZ (λx3=>
 if x3 < (p0.Ab.length:Int) then
 aU p0.Ab x3 λe6=>
 if ((decide ((30:Int) < (e6.Ac.length:Int)))||((decide ((30:Int) < (e6.Ao.length:Int)))||((decide ((30:Int) < (e6.Ad.length:Int)))||((decide ((30:Int) < (e6.Aj.length:Int)))||((decide ((30:Int) < (e6.At.length:Int)))||(decide ((30:Int) < (e6.path.length:Int))))))))=true then
 aP (
 aP (
 some false))
 else
 aC (I64 (x3+(1:Int))) <|
 some (.inl (x3+(1:Int)))
 else
 aP (
 some (.inl ()))) (0:Int)) λ_=>
 some ((decide ((p0.Ab.length:Int)<=(50:Int)))&&((decide ((p0.Ad.length:Int)<=(40:Int)))&&((decide ((p0.A1.length:Int)<=(40:Int)))&&((decide ((p1.Ab.length:Int)<=(50:Int)))&&(decide ((p1.lies.length:Int)<=(40:Int)))))))
def sI (p0:Bg):Option Bool:=
 bR (
 aZ (λx3=>
 if x3 < (p0.tracks.length:Int) then
 aU p0.tracks x3 λe6=>
 if ((decide ((100:Int) < (e6.steps.length:Int)))||((decide ((60:Int) < (e6.Ab.length:Int)))||((decide ((60:Int) < (e6.starts.length:Int)))||((decide ((60:Int) < (e6.ends.length:Int)))||(decide ((60:Int) < (e6.done.length:Int)))))))=true then
 aP (
 aP (
 some false))
 else
 aC (I64 (x3+(1:Int))) <|
 some (.inl (x3+(1:Int)))
 else
 aP (
 some (.inl ()))) (0:Int)) λ_=>
 some ((decide ((p0.tracks.length:Int)<=(10:Int)))&&(decide ((p0.sessions.length:Int)<=(10:Int))))
def sH (p0:An):Option Bool:=
 if ((decide ((10:Int) < (p0.units.length:Int)))||((decide ((40:Int) < (p0.machines.length:Int)))||((decide ((40:Int) < (p0.clear.length:Int)))||((decide ((100:Int) < (p0.air.length:Int)))||((decide ((30:Int) < (p0.faults.length:Int)))||((decide ((30:Int) < (p0.pending.length:Int)))||((decide ((40:Int) < (p0.possessions.length:Int)))||((decide ((30:Int) < (p0.restrictions.length:Int)))||((decide ((30:Int) < (p0.orders.length:Int)))||((decide ((6:Int) < (p0.trips.length:Int)))||((decide ((10:Int) < (p0.plan.starts.length:Int)))||((decide ((10:Int) < (p0.progress.length:Int)))||(decide ((200:Int) < (p0.decisions.length:Int)))))))))))))))=true then
 some false
 else
 bR (
 aZ (λx16=>
 if x16 < (p0.units.length:Int) then
 aB (
 aU p0.units x16 λe21=>
 if (100:Int) < (e21.body.steps.length:Int) then
 some true
 else
 aU p0.units x16 λe23=>
 if (200:Int) < (e23.cab.auth.profile.length:Int) then
 some true
 else
 aU p0.units x16 λe25=>
 some (decide ((100:Int) < (e25.cab.auth.links.length:Int)))) λx19=>
 if x19=true then
 aP (
 aP (
 some false))
 else
 aC (I64 (x16+(1:Int))) <|
 some (.inl (x16+(1:Int)))
 else
 aP (
 some (.inl ()))) (0:Int)) λ_=>
 bR (
 aZ (λx33=>
 if x33 < (p0.trips.length:Int) then
 aU p0.trips x33 λe36=>
 if (6:Int) < (e36.stops.length:Int) then
 aP (
 aP (
 some false))
 else
 aC (I64 (x33+(1:Int))) <|
 some (.inl (x33+(1:Int)))
 else
 aP (
 some (.inl ()))) (0:Int)) λ_=>
 bR (
 aZ (λx44=>
 if x44 < (p0.air.length:Int) then
 aU p0.air x44 λe47=>
 if (5000:Int) < (e47.data.size:Int) then
 aP (
 aP (
 some false))
 else
 aC (I64 (x44+(1:Int))) <|
 some (.inl (x44+(1:Int)))
 else
 aP (
 some (.inl ()))) (0:Int)) λ_=>
 aB (
 aB (uZ p0.layout) λr55=>
 if r55=true then
 aB (nQ p0.Ar p0.inter) λr57=>
 if r57=true then
 aB (sI p0.center) λr59=>
 some r59
 else
 some false
 else
 some false) λx53=>
 some x53
def nF (p0:Ag):Option Bh:=
 aC ((([]:List BA)++p0.Ac).length<=1000000000) <|
 aB (
 aZ (λ(x7,b8)=>
 if x7 < (p0.Ae.length:Int) then
 aU p0.Ae x7 λe11=>
 aC ((b8++([e11.name]:List BA)).length<=1000000000) <|
 aC (I64 (x7+(1:Int))) <|
 some (.inl ((x7+(1:Int)),(b8++([e11.name]:List BA))))
 else
 aP (
 some b8)) ((0:Int),([]:List BA))) λb2=>
 aB (
 aZ (λ(x20,b21)=>
 if x20 < (p0.Ah.length:Int) then
 aU p0.Ah x20 λe24=>
 aC ((b21++([e24.name]:List BA)).length<=1000000000) <|
 aC (I64 (x20+(1:Int))) <|
 some (.inl ((x20+(1:Int)),(b21++([e24.name]:List BA))))
 else
 aP (
 some b21)) ((0:Int),([]:List BA))) λb15=>
 some (⟨(([]:List BA)++p0.Ac),b2,b15⟩:Bh)
def mG (p0:BA):Option Bool:=
 bR (
 aZ (λi3=>
 if i3 < (p0.size:Int) then
 aB (
 aU p0.data.toList i3 λe8=>
 if (97:Int)<=(e8.toNat:Int) then
 aU p0.data.toList i3 λe10=>
 some (decide ((e10.toNat:Int)<=(122:Int)))
 else
 some false) λletter6=>
 aB (
 aU p0.data.toList i3 λe13=>
 if (48:Int)<=(e13.toNat:Int) then
 aU p0.data.toList i3 λe16=>
 if (e16.toNat:Int)<=(57:Int) then
 some true
 else
 aU p0.data.toList i3 λe18=>
 some (decide ((e18.toNat:Int)=(95:Int)))
 else
 aU p0.data.toList i3 λe15=>
 some (decide ((e15.toNat:Int)=(95:Int)))) λdigit11=>
 if ((!(letter6))&&((!(digit11))||(decide (i3=(0:Int)))))=true then
 aP (
 aP (
 some false))
 else
 aC (I64 (i3+(1:Int))) <|
 some (.inl (i3+(1:Int)))
 else
 aP (
 some (.inl ()))) (0:Int)) λ_=>
 some ((decide ((1:Int)<=(p0.size:Int)))&&(decide ((p0.size:Int)<=(12:Int))))
def iW (p0:(List BA)):Option Bool:=
 bR (
 aZ (λx3=>
 if x3 < (p0.length:Int) then
 bR (
 aZ (λx8=>
 if x8 < x3 then
 aU p0 x3 λe11=>
 aU p0 x8 λe12=>
 if e11=e12 then
 aP (
 aP (
 aP (
 aP (
 some true))))
 else
 aC (I64 (x8+(1:Int))) <|
 some (.inl (x8+(1:Int)))
 else
 aP (
 some (.inl ()))) (0:Int)) λ_=>
 aC (I64 (x3+(1:Int))) <|
 some (.inl (x3+(1:Int)))
 else
 aP (
 some (.inl ()))) (0:Int)) λ_=>
 some false
def nG (p0:Ag):Option Int:=
 if ((decide ((p0.Ae.length:Int) < (1:Int)))||((decide ((32:Int) < (p0.Ae.length:Int)))||((decide ((p0.Ac.length:Int) < (1:Int)))||((decide ((24:Int) < (p0.Ac.length:Int)))||((decide ((20:Int) < (p0.Ah.length:Int)))||(decide ((24:Int) < (p0.balises.length:Int))))))))=true then
 some (2:Int)
 else
 aB (nF p0) λr7=>
 bR (
 aC ((([p0.name]:List BA)++r7.a0).length<=1000000000) <|
 aC (((([p0.name]:List BA)++r7.a0)++r7.a1).length<=1000000000) <|
 aC ((((([p0.name]:List BA)++r7.a0)++r7.a1)++r7.a2).length<=1000000000) <|
 aZ (λx13=>
 if x13 < ((((([p0.name]:List BA)++r7.a0)++r7.a1)++r7.a2).length:Int) then
 aU (((([p0.name]:List BA)++r7.a0)++r7.a1)++r7.a2) x13 λe16=>
 aB (mG e16) λr17=>
 if (!(r17))=true then
 aP (
 aP (
 some (3:Int)))
 else
 aC (I64 (x13+(1:Int))) <|
 some (.inl (x13+(1:Int)))
 else
 aP (
 some (.inl ()))) (0:Int)) λ_=>
 aB (
 aB (iW r7.a0) λr25=>
 if r25=true then
 some true
 else
 aB (iW r7.a1) λr27=>
 if r27=true then
 some true
 else
 aB (iW r7.a2) λr29=>
 some r29) λx23=>
 if x23=true then
 some (8:Int)
 else
 some (0:Int)
def nE (p0:Ag) (p1:Aw):Option Bool:=
 if ((decide (p1.kind < (1:Int)))||((decide ((3:Int) < p1.kind))||((decide (p1.length < (500:Int)))||((decide ((1000000:Int) < p1.length))||((decide (p1.grade < (-50:Int)))||((decide ((50:Int) < p1.grade))||((decide (p1.speed < (100:Int)))||((decide ((10000:Int) < p1.speed))||((decide (p1.Aq < (0:Int)))||(decide ((p0.Ac.length:Int)<=p1.Aq)))))))))))=true then
 some false
 else
 if p1.kind=(2:Int) then
 some ((decide ((100:Int)<=p1.slow))&&(decide (p1.slow<=p1.speed)))
 else
 some (decide (p1.slow=(0:Int)))
def jX (p0:Ag) (p1:Int):Option ((List Int)):=
 aB (
 aZ (λ(x6,b7)=>
 if x6 < (p0.Ae.length:Int) then
 aU p0.Ae x6 λe10=>
 if ((decide (e10.Aq=p1))&&((decide ((0:Int)<=p1))&&(decide (p1 < (p0.Ac.length:Int)))))=true then
 aC ((b7++([x6]:List Int)).length<=1000000000) <|
 aC (I64 (x6+(1:Int))) <|
 some (.inl ((x6+(1:Int)),(b7++([x6]:List Int))))
 else
 aC (I64 (x6+(1:Int))) <|
 some (.inl ((x6+(1:Int)),b7))
 else
 aP (
 some b7)) ((0:Int),([]:List Int))) λb1=>
 some b1
def jA (p0:Int):Option Int:=
 if p0=(1:Int) then
 some (2:Int)
 else
 if p0=(2:Int) then
 some (3:Int)
 else
 if p0=(3:Int) then
 some (4:Int)
 else
 some (0:Int)
def gU (p0:Ag) (p1:End):Option Bool:=
 aB (
 if (0:Int)<=p1.el then
 if p1.el < (p0.Ae.length:Int) then
 if (0:Int)<=p1.side then
 aU p0.Ae p1.el λe6=>
 aB (jA e6.kind) λr7=>
 some (decide (p1.side < r7))
 else
 some false
 else
 some false
 else
 some false) λx1=>
 some x1
def mE (p0:(List End)):Option Bool:=
 bR (
 aZ (λx3=>
 if x3 < (p0.length:Int) then
 bR (
 aZ (λx8=>
 if x8 < x3 then
 aU p0 x3 λe11=>
 aU p0 x8 λe12=>
 aC (End.ok e11/\End.ok e12) <|
 if e11=e12 then
 aP (
 aP (
 aP (
 aP (
 some true))))
 else
 aC (I64 (x8+(1:Int))) <|
 some (.inl (x8+(1:Int)))
 else
 aP (
 some (.inl ()))) (0:Int)) λ_=>
 aC (I64 (x3+(1:Int))) <|
 some (.inl (x3+(1:Int)))
 else
 aP (
 some (.inl ()))) (0:Int)) λ_=>
 some false
def iX (p0:Ag):Option Int:=
 bR (
 aZ (λx3=>
 if x3 < (p0.Ae.length:Int) then
 aU p0.Ae x3 λe6=>
 aB (nE p0 e6) λr7=>
 if (!(r7))=true then
 aP (
 aP (
 some (1:Int)))
 else
 aC (I64 (x3+(1:Int))) <|
 some (.inl (x3+(1:Int)))
 else
 aP (
 some (.inl ()))) (0:Int)) λ_=>
 bR (
 aZ (λx15=>
 if x15 < (p0.Ac.length:Int) then
 aB (jX p0 x15) λr18=>
 if (r18.length:Int)=(0:Int) then
 aP (
 aP (
 some (1:Int)))
 else
 aC (I64 (x15+(1:Int))) <|
 some (.inl (x15+(1:Int)))
 else
 aP (
 some (.inl ()))) (0:Int)) λ_=>
 bR (
 aZ (λ(x29,b30)=>
 if x29 < (p0.joints.length:Int) then
 aU p0.joints x29 λe33=>
 aB (
 aB (gU p0 e33.a) λr36=>
 if (!(r36))=true then
 some true
 else
 aB (gU p0 e33.b) λr38=>
 if (!(r38))=true then
 some true
 else
 aC (End.ok e33.a/\End.ok e33.b) <|
 some (decide (e33.a=e33.b))) λx34=>
 if x34=true then
 aP (
 aP (
 some (1:Int)))
 else
 aC ((b30++([e33.a,e33.b]:List End)).length<=1000000000) <|
 aC (I64 (x29+(1:Int))) <|
 some (.inl ((x29+(1:Int)),(b30++([e33.a,e33.b]:List End))))
 else
 aP (
 some (.inl b30))) ((0:Int),([]:List End))) λb24=>
 aB (mE b24) λr48=>
 if r48=true then
 some (8:Int)
 else
 some (0:Int)
def dV (p0:Ag) (p1:End):Option (End×Bool):=
 bR (
 aZ (λx3=>
 if x3 < (p0.joints.length:Int) then
 aU p0.joints x3 λe6=>
 aC (End.ok e6.a/\End.ok p1) <|
 if e6.a=p1 then
 aP (
 aP (
 some (e6.b,true)))
 else
 aC (End.ok e6.b/\End.ok p1) <|
 if e6.b=p1 then
 aP (
 aP (
 some (e6.a,true)))
 else
 aC (I64 (x3+(1:Int))) <|
 some (.inl (x3+(1:Int)))
 else
 aP (
 some (.inl ()))) (0:Int)) λ_=>
 some ((⟨(0:Int),(0:Int)⟩:End),false)
def jU (p0:Ag):Option Int:=
 bR (
 aZ (λ(x6,b7)=>
 if x6 < (p0.Ah.length:Int) then
 aU p0.Ah x6 λe10=>
 aB (
 aB (gU p0 e10.atV) λr13=>
 if (!(r13))=true then
 some true
 else
 if e10.overlap < (0:Int) then
 some true
 else
 some (decide ((1000000:Int) < e10.overlap))) λx11=>
 if x11=true then
 aP (
 aP (
 some (1:Int)))
 else
 aC ((b7++([e10.atV]:List End)).length<=1000000000) <|
 aC (I64 (x6+(1:Int))) <|
 some (.inl ((x6+(1:Int)),(b7++([e10.atV]:List End))))
 else
 aP (
 some (.inl b7))) ((0:Int),([]:List End))) λb1=>
 aB (mE b1) λr22=>
 if r22=true then
 some (8:Int)
 else
 bR (
 aZ (λx26=>
 if x26 < (b1.length:Int) then
 aU b1 x26 λe29=>
 aB (dV p0 e29) λ(r31,r32)=>
 aB (
 if (!(r32))=true then
 some true
 else
 aU p0.Ae r31.el λe36=>
 aU p0.Ae e29.el λe37=>
 some (decide (e36.Aq=e37.Aq))) λx33=>
 if x33=true then
 aP (
 aP (
 some (14:Int)))
 else
 aC (I64 (x26+(1:Int))) <|
 some (.inl (x26+(1:Int)))
 else
 aP (
 some (.inl ()))) (0:Int)) λ_=>
 some (0:Int)
def jV (p0:(List Int)):Option Bool:=
 bR (
 aZ (λx3=>
 if x3 < (p0.length:Int) then
 bR (
 aZ (λx8=>
 if x8 < x3 then
 aU p0 x3 λe11=>
 aU p0 x8 λe12=>
 if e11=e12 then
 aP (
 aP (
 aP (
 aP (
 some true))))
 else
 aC (I64 (x8+(1:Int))) <|
 some (.inl (x8+(1:Int)))
 else
 aP (
 some (.inl ()))) (0:Int)) λ_=>
 aC (I64 (x3+(1:Int))) <|
 some (.inl (x3+(1:Int)))
 else
 aP (
 some (.inl ()))) (0:Int)) λ_=>
 some false
def jW (p0:Ag):Option Int:=
 bR (
 aZ (λ(x6,b7)=>
 if x6 < (p0.balises.length:Int) then
 aU p0.balises x6 λe10=>
 aB (
 if e10.id < (1:Int) then
 some true
 else
 if (1073741824:Int) < e10.id then
 some true
 else
 if e10.el < (0:Int) then
 some true
 else
 if (p0.Ae.length:Int)<=e10.el then
 some true
 else
 if e10.offset < (0:Int) then
 some true
 else
 aU p0.Ae e10.el λe18=>
 some (decide (e18.length < e10.offset))) λx11=>
 if x11=true then
 aP (
 aP (
 some (1:Int)))
 else
 aC ((b7++([e10.id]:List Int)).length<=1000000000) <|
 aC (I64 (x6+(1:Int))) <|
 some (.inl ((x6+(1:Int)),(b7++([e10.id]:List Int))))
 else
 aP (
 some (.inl b7))) ((0:Int),([]:List Int))) λb1=>
 aB (jV b1) λr25=>
 if r25=true then
 some (8:Int)
 else
 some (0:Int)
def iZ (p0:Ag):Option Int:=
 aB (nG p0) λr1=>
 if r1=(0:Int) then
 aB (iX p0) λr3=>
 if r3=(0:Int) then
 aB (jU p0) λr5=>
 if r5=(0:Int) then
 aB (jW p0) λr7=>
 some r7
 else
 some r5
 else
 some r3
 else
 some r1
def fU (p0:Ag) (p1:Int):Option Bool:=
 some ((decide ((0:Int)<=p1))&&(decide (p1 < (p0.Ae.length:Int))))
def eO (p0:Int) (p1:Int) (p2:Int):Option (Int×Bool):=
 if ((decide (p0=(1:Int)))||(decide (p0=(3:Int))))=true then
 some ((0:Int),(bif decide ((min p1 p2)=(0:Int)) then ((decide ((max p1 p2)=(1:Int)))||((decide (p0=(3:Int)))&&((decide ((min p1 p2)=(2:Int)))&&(decide ((max p1 p2)=(3:Int)))))) else ((decide (p0=(3:Int)))&&((decide ((min p1 p2)=(2:Int)))&&(decide ((max p1 p2)=(3:Int)))))))
 else
 if ((decide (p0=(2:Int)))&&((decide ((min p1 p2)=(0:Int)))&&(decide ((max p1 p2)=(1:Int)))))=true then
 some ((1:Int),true)
 else
 if ((decide (p0=(2:Int)))&&((decide ((min p1 p2)=(0:Int)))&&(decide ((max p1 p2)=(2:Int)))))=true then
 some ((2:Int),true)
 else
 some ((0:Int),false)
def mF (p0:Int) (p1:Int):Option ((List Int)):=
 aB (
 aZ (λ(side6,b7)=>
 if side6 < (4:Int) then
 aB (eO p0 p1 side6) λ(r11,r12)=>
 if r12=true then
 aC ((b7++([side6]:List Int)).length<=1000000000) <|
 aC (I64 (side6+(1:Int))) <|
 some (.inl ((side6+(1:Int)),(b7++([side6]:List Int))))
 else
 aC (I64 (side6+(1:Int))) <|
 some (.inl ((side6+(1:Int)),b7))
 else
 aP (
 some b7)) ((0:Int),([]:List Int))) λb1=>
 some b1
def gE (p0:Ag) (p1:End):Option ((List Am)):=
 aB (fU p0 p1.el) λr1=>
 if (!(r1))=true then
 some ([]:List Am)
 else
 aU p0.Ae p1.el λe3=>
 aB (mF e3.kind p1.side) λr4=>
 aB (
 aZ (λ(i10,b11)=>
 if i10 < (r4.length:Int) then
 aU r4 i10 λe14=>
 aC ((b11++([(⟨p1.el,p1.side,e14⟩:Am)]:List Am)).length<=1000000000) <|
 aC (I64 (i10+(1:Int))) <|
 some (.inl ((i10+(1:Int)),(b11++([(⟨p1.el,p1.side,e14⟩:Am)]:List Am))))
 else
 aP (
 some b11)) ((0:Int),([]:List Am))) λb5=>
 some b5
def kJ (p0:Ag) (p1:Am):Option (Int×Bool):=
 aB (fU p0 p1.el) λr1=>
 if (!(r1))=true then
 some ((0:Int),false)
 else
 aU p0.Ae p1.el λe3=>
 aB (eO e3.kind p1.inV p1.out) λ(r5,r6)=>
 some (r5,r6)
def fD (p0:Ag) (p1:Am):Option (End×Bool):=
 aB (dV p0 (⟨p1.el,p1.out⟩:End)) λ(r2,r3)=>
 some (r2,r3)
def gO (p0:Ag) (p1:(List Am)):Option Bool:=
 if ((decide ((p1.length:Int)=(0:Int)))||(decide ((64:Int) < (p1.length:Int))))=true then
 some false
 else
 bR (
 aZ (λi5=>
 if i5 < (p1.length:Int) then
 bR (
 aU p1 i5 λe9=>
 aB (kJ p0 e9) λ(r11,r12)=>
 if (!(r12))=true then
 aP (
 aP (
 aP (
 some false)))
 else
 bR (
 if (0:Int) < i5 then
 aC (I64 (i5 - (1:Int))) <|
 aU p1 (i5 - (1:Int)) λe20=>
 aB (fD p0 e20) λ(r22,r23)=>
 aB (
 if (!(r23))=true then
 some true
 else
 aU p1 i5 λe27=>
 if r22.el=e27.el then
 aU p1 i5 λe29=>
 some (!(decide (r22.side=e29.inV)))
 else
 some true) λx24=>
 if x24=true then
 aP (
 aP (
 aP (
 aP (
 some false))))
 else
 some (.inl ())
 else
 some (.inl ())) λ_=>
 aZ (λk36=>
 if k36 < i5 then
 aU p1 k36 λe39=>
 aU p1 i5 λe40=>
 if e39.el=e40.el then
 aP (
 aP (
 aP (
 aP (
 some false))))
 else
 aC (I64 (k36+(1:Int))) <|
 some (.inl (k36+(1:Int)))
 else
 aP (
 some (.inl ()))) (0:Int)) λ_=>
 aC (I64 (i5+(1:Int))) <|
 some (.inl (i5+(1:Int)))
 else
 aP (
 some (.inl ()))) (0:Int)) λ_=>
 some true
def dA (p0:Ag) (p1:Int):Option Int:=
 if ((decide (p1 < (0:Int)))||(decide ((p0.Ae.length:Int)<=p1)))=true then
 some (-1:Int)
 else
 aU p0.Ae p1 λe3=>
 some e3.Aq
def sB (p0:(List Int)) (p1:Int):Option Bool:=
 bR (
 aZ (λi3=>
 if i3 < (p0.length:Int) then
 aU p0 i3 λe6=>
 if e6=p1 then
 aP (
 aP (
 some true))
 else
 aC (I64 (i3+(1:Int))) <|
 some (.inl (i3+(1:Int)))
 else
 aP (
 some (.inl ()))) (0:Int)) λ_=>
 some false
def fC (p0:Ag) (p1:(List Am)):Option ((List Int)):=
 aB (
 aZ (λ(i6,b7)=>
 if i6 < (p1.length:Int) then
 aB (
 aU p1 i6 λe12=>
 aB (fU p0 e12.el) λr13=>
 if r13=true then
 aU p1 i6 λe15=>
 aU p0.Ae e15.el λe16=>
 aB (sB b7 e16.Aq) λr17=>
 some (!(r17))
 else
 some false) λx10=>
 if x10=true then
 aU p1 i6 λe19=>
 aU p0.Ae e19.el λe20=>
 aC ((b7++([e20.Aq]:List Int)).length<=1000000000) <|
 aC (I64 (i6+(1:Int))) <|
 some (.inl ((i6+(1:Int)),(b7++([e20.Aq]:List Int))))
 else
 aC (I64 (i6+(1:Int))) <|
 some (.inl ((i6+(1:Int)),b7))
 else
 aP (
 some b7)) ((0:Int),([]:List Int))) λb1=>
 some b1
def pQ (p0:Ag) (p1:End) (p2:(List Am)):Option Bool:=
 aB (
 if (p2.length:Int)=(0:Int) then
 some true
 else
 if (12:Int) < (p2.length:Int) then
 some true
 else
 aU p2 (0:Int) λe5=>
 if e5.el=p1.el then
 aU p2 (0:Int) λe7=>
 if e7.inV=p1.side then
 aB (gO p0 p2) λr9=>
 some (!(r9))
 else
 some true
 else
 some true) λx1=>
 if x1=true then
 some false
 else
 aB (
 aZ (λ(changes15,i16)=>
 if i16 < (p2.length:Int) then
 aU p2 i16 λe19=>
 aB (dA p0 e19.el) λr20=>
 aC (I64 (i16 - (1:Int))) <|
 aU p2 (i16 - (1:Int)) λe22=>
 aB (dA p0 e22.el) λr23=>
 if r20=r23 then
 aC (I64 (i16+(1:Int))) <|
 some (.inl (changes15,(i16+(1:Int))))
 else
 aC (I64 (changes15+(1:Int))) <|
 aC (I64 (i16+(1:Int))) <|
 some (.inl ((changes15+(1:Int)),(i16+(1:Int))))
 else
 aP (
 some changes15)) ((1:Int),(1:Int))) λchanges11=>
 aB (fC p0 p2) λr29=>
 some (decide (changes11=(r29.length:Int)))
def gV (p0:Ag) (p1:End):Option Int:=
 bR (
 aZ (λx3=>
 if x3 < (p0.Ah.length:Int) then
 aU p0.Ah x3 λe6=>
 aC (End.ok e6.atV/\End.ok p1) <|
 if e6.atV=p1 then
 aP (
 aP (
 some x3))
 else
 aC (I64 (x3+(1:Int))) <|
 some (.inl (x3+(1:Int)))
 else
 aP (
 some (.inl ()))) (0:Int)) λ_=>
 some (-1:Int)
def iV (p0:Ag) (p1:Am):Option (Int×Bool):=
 aB (gV p0 (⟨p1.el,p1.out⟩:End)) λr1=>
 aB (fD p0 p1) λ(r3,r4)=>
 some (r1,((decide ((0:Int)<=r1))||(!(r4))))
def kG (p0:Ag) (p1:Int) (p2:Int):Option BA:=
 if p2 < (0:Int) then
 aU p0.Ah p1 λe2=>
 aC (e2.name.size+(⟨#[45,101,110,100]⟩:BA).size<=9223372036854775807) <|
 some (e2.name++(⟨#[45,101,110,100]⟩:BA))
 else
 aU p0.Ah p1 λe4=>
 aC (e4.name.size+(⟨#[45]⟩:BA).size<=9223372036854775807) <|
 aU p0.Ah p2 λe6=>
 aC ((e4.name++(⟨#[45]⟩:BA)).size+e6.name.size<=9223372036854775807) <|
 some ((e4.name++(⟨#[45]⟩:BA))++e6.name)
def lK (p0:(List Aa)) (p1:Aa):Option ((List Aa)):=
 aB (
 aZ (λ(i7,b8)=>
 aB (
 if i7 < (p0.length:Int) then
 aU p0 i7 λe13=>
 if e13.el < p1.el then
 some true
 else
 aU p0 i7 λe15=>
 if e15.el=p1.el then
 aU p0 i7 λe17=>
 some (decide (e17.pos < p1.pos))
 else
 some false
 else
 some false) λx10=>
 if x10=true then
 aU p0 i7 λe19=>
 aC ((b8++([e19]:List Aa)).length<=1000000000) <|
 aC (I64 (i7+(1:Int))) <|
 some (.inl ((i7+(1:Int)),(b8++([e19]:List Aa))))
 else
 aP (
 some (i7,b8))) ((0:Int),([]:List Aa))) λ(i1,b2)=>
 aB (
 aB (
 if i1=(p0.length:Int) then
 some true
 else
 aU p0 i1 λe28=>
 aC (Aa.ok e28/\Aa.ok p1) <|
 some (!(decide (e28=p1)))) λx25=>
 if x25=true then
 aC ((b2++([p1]:List Aa)).length<=1000000000) <|
 some (b2++([p1]:List Aa))
 else
 some b2) λb23=>
 aC (0<=i1/\i1<=(p0.length:Int)/\(p0.length:Int)<=(p0.length:Int)) <|
 aC ((b23++(sub p0 i1 (p0.length:Int))).length<=1000000000) <|
 some (b23++(sub p0 i1 (p0.length:Int)))
def gD (p0:Ag) (p1:(List Am)):Option ((List Aa)):=
 aB (
 aZ (λ(out5,i6)=>
 if i6 < (p1.length:Int) then
 aU p1 i6 λe9=>
 aB (kJ p0 e9) λ(r11,r12)=>
 if (r12&&(!(decide (r11=(0:Int)))))=true then
 aU p1 i6 λe15=>
 aB (lK out5 (⟨e15.el,r11⟩:Aa)) λr16=>
 aC (I64 (i6+(1:Int))) <|
 some (.inl (r16,(i6+(1:Int))))
 else
 aC (I64 (i6+(1:Int))) <|
 some (.inl (out5,(i6+(1:Int))))
 else
 aP (
 some out5)) (([]:List Aa),(0:Int))) λout1=>
 some out1
def gT (p0:Ag) (p1:(List Am)):Option Int:=
 aB (
 aZ (λ(sum5,i6)=>
 if i6 < (p1.length:Int) then
 aU p1 i6 λe9=>
 aB (fU p0 e9.el) λr10=>
 if r10=true then
 aU p1 i6 λe12=>
 aU p0.Ae e12.el λe13=>
 aC (I64 (sum5+e13.length)) <|
 aC (I64 (i6+(1:Int))) <|
 some (.inl ((sum5+e13.length),(i6+(1:Int))))
 else
 aC (I64 (i6+(1:Int))) <|
 some (.inl (sum5,(i6+(1:Int))))
 else
 aP (
 some sum5)) ((0:Int),(0:Int))) λsum1=>
 some sum1
def jS (p0:Int):Option BA:=
 aB (
 aZ (λ(n5,s6)=>
 if (0:Int) < n5 then
 aC (¬ (10:Int)=0) <|
 aC (I64 ((48:Int)+(n5.tmod (10:Int)))) <|
 aC ((strOfNums ([(IntKind.u8.wrap ((48:Int)+(n5.tmod (10:Int))))]:List Int)).size+s6.size<=9223372036854775807) <|
 aC (¬ (10:Int)=0) <|
 some (.inl ((IntKind.i64.wrap (n5.tdiv (10:Int))),((strOfNums ([(IntKind.u8.wrap ((48:Int)+(n5.tmod (10:Int))))]:List Int))++s6)))
 else
 aP (
 some s6)) (p0,(⟨#[]⟩:BA))) λs1=>
 some s1
def cY:Nat->Bp->Ag->End->End->(List Am)->Option Bp
 | 0,_,_,_,_,_=>none
 | fu+1,p0,p1,p2,p3,p4=>
 aB (gE p1 p3) λr1=>
 aZ (λ(i5,b6)=>
 if i5 < (r1.length:Int) then
 aC ((([]:List Am)++p4).length<=1000000000) <|
 aU r1 i5 λe10=>
 aC (((([]:List Am)++p4)++([e10]:List Am)).length<=1000000000) <|
 aB (pQ p1 p2 ((([]:List Am)++p4)++([e10]:List Am))) λr12=>
 if (!(r12))=true then
 aC (I64 (i5+(1:Int))) <|
 some (.inl ((i5+(1:Int)),b6))
 else
 aU r1 i5 λe15=>
 aB (iV p1 e15) λ(r17,r18)=>
 if r18=true then
 aC ((b6++([((([]:List Am)++p4)++([e10]:List Am))]:List (List Am))).length<=1000000000) <|
 aC (I64 (i5+(1:Int))) <|
 some (.inl ((i5+(1:Int)),(b6++([((([]:List Am)++p4)++([e10]:List Am))]:List (List Am)))))
 else
 aU r1 i5 λe22=>
 aB (fD p1 e22) λ(r24,r25)=>
 aB ((cY fu) (⟨b6⟩:Bp) p1 p2 r24 ((([]:List Am)++p4)++([e10]:List Am))) λr26=>
 aC (I64 (i5+(1:Int))) <|
 some (.inl ((i5+(1:Int)),r26.l))
 else
 aP (
 some (⟨b6⟩:Bp))) ((0:Int),p0.l)
def kH (p0:Bp) (p1:Ag) (p2:End) (p3:End) (p4:(List Am)):Option Bp:=cY lG p0 p1 p2 p3 p4
def pP (p0:Ag) (p1:Int):Option ((List Ai)):=
 if ((decide (p1 < (0:Int)))||(decide ((p0.Ah.length:Int)<=p1)))=true then
 some ([]:List Ai)
 else
 aU p0.Ah p1 λe3=>
 aB (dV p0 e3.atV) λ(r5,r6)=>
 if (!(r6))=true then
 some ([]:List Ai)
 else
 aB (kH (⟨([]:List (List Am))⟩:Bp) p0 r5 r5 []) λr8=>
 aB (
 aZ (λ(i14,b15)=>
 if i14 < (r8.l.length:Int) then
 aB (
 aU r8.l i14 λe20=>
 aC (I64 ((e20.length:Int) - (1:Int))) <|
 aU e20 ((e20.length:Int) - (1:Int)) λe22=>
 aB (iV p0 e22) λ(r24,r25)=>
 aB (kG p0 p1 r24) λr26=>
 aB (gD p0 e20) λr27=>
 aB (fC p0 e20) λr28=>
 aB (gT p0 e20) λr29=>
 aU p0.Ah p1 λe30=>
 aB (dA p0 e30.atV.el) λr31=>
 aB (
 aZ (λ(before36,k37)=>
 if k37 < i14 then
 aU r8.l k37 λe40=>
 aU r8.l k37 λe41=>
 aC (I64 ((e41.length:Int) - (1:Int))) <|
 aU e40 ((e41.length:Int) - (1:Int)) λe43=>
 aB (iV p0 e43) λ(r45,r46)=>
 aB (kG p0 p1 r45) λr47=>
 aB (kG p0 p1 r24) λr48=>
 if r47=r48 then
 aC (I64 (before36+(1:Int))) <|
 aC (I64 (k37+(1:Int))) <|
 some (.inl ((before36+(1:Int)),(k37+(1:Int))))
 else
 aC (I64 (k37+(1:Int))) <|
 some (.inl (before36,(k37+(1:Int))))
 else
 aP (
 some before36)) ((1:Int),(0:Int))) λbefore32=>
 aB (
 if (1:Int) < before32 then
 aC (r26.size+(⟨#[46]⟩:BA).size<=9223372036854775807) <|
 aB (jS before32) λr58=>
 aC ((r26++(⟨#[46]⟩:BA)).size+r58.size<=9223372036854775807) <|
 some ((r26++(⟨#[46]⟩:BA))++r58)
 else
 some r26) λc54=>
 aC ((b15++([(⟨c54,p1,r24,e20,r27,r28,r31,r29,([]:List Am),([]:List Aa),([]:List Int),([]:List Aa),([]:List Int),([]:List End)⟩:Ai)]:List Ai)).length<=1000000000) <|
 some (b15++([(⟨c54,p1,r24,e20,r27,r28,r31,r29,([]:List Am),([]:List Aa),([]:List Int),([]:List Aa),([]:List Int),([]:List End)⟩:Ai)]:List Ai))) λb18=>
 aC (I64 (i14+(1:Int))) <|
 some (.inl ((i14+(1:Int)),b18))
 else
 aP (
 some b15)) ((0:Int),([]:List Ai))) λb9=>
 some b9
def sA (p0:Ag):Option ((List Ai)×Int):=
 aB (iZ p0) λr1=>
 if r1=(0:Int) then
 aB (
 aZ (λ(i8,b9)=>
 if i8 < (p0.Ah.length:Int) then
 aB (pP p0 i8) λr12=>
 aC ((b9++r12).length<=1000000000) <|
 aC (I64 (i8+(1:Int))) <|
 some (.inl ((i8+(1:Int)),(b9++r12)))
 else
 aP (
 some b9)) ((0:Int),([]:List Ai))) λb3=>
 if (48:Int) < (b3.length:Int) then
 some (([]:List Ai),(2:Int))
 else
 some (b3,(0:Int))
 else
 some (([]:List Ai),r1)
def lN (p0:Ag):Option ((List Int)):=
 aB (
 aZ (λ(x6,b7)=>
 if x6 < (p0.Ae.length:Int) then
 aU p0.Ae x6 λe10=>
 if e10.kind=(2:Int) then
 aC ((b7++([x6]:List Int)).length<=1000000000) <|
 aC (I64 (x6+(1:Int))) <|
 some (.inl ((x6+(1:Int)),(b7++([x6]:List Int))))
 else
 aC (I64 (x6+(1:Int))) <|
 some (.inl ((x6+(1:Int)),b7))
 else
 aP (
 some b7)) ((0:Int),([]:List Int))) λb1=>
 some b1
def tF (p0:Ag) (p1:Ai):Option (A0×Bool):=
 if ((decide (p1.exit < (0:Int)))||(decide ((p0.Ah.length:Int)<=p1.exit)))=true then
 some ((⟨(⟨#[]⟩:BA),(⟨(0:Int),(0:Int)⟩:End),(0:Int)⟩:A0),false)
 else
 aU p0.Ah p1.exit λe3=>
 some (e3,true)
def jR (p0:Ag) (p1:Ai) (p2:(List Am)) (p3:Int):Option Bool:=
 bR (
 aZ (λx3=>
 if x3 < (p2.length:Int) then
 aU p2 x3 λe6=>
 if e6.el=p3 then
 aP (
 aP (
 some true))
 else
 aC (I64 (x3+(1:Int))) <|
 some (.inl (x3+(1:Int)))
 else
 aP (
 some (.inl ()))) (0:Int)) λ_=>
 bR (
 aZ (λx14=>
 if x14 < (p1.Ac.length:Int) then
 aU p1.Ac x14 λe17=>
 aB (dA p0 p3) λr18=>
 if e17=r18 then
 aP (
 aP (
 some true))
 else
 aC (I64 (x14+(1:Int))) <|
 some (.inl (x14+(1:Int)))
 else
 aP (
 some (.inl ()))) (0:Int)) λ_=>
 some false
def pN (p0:Ag) (p1:Ai):Option Ai:=
 aB (tF p0 (⟨p1.name,p1.entry,p1.exit,p1.path,p1.Ad,p1.Ac,p1.A2,p1.length,([]:List Am),([]:List Aa),([]:List Int),p1.At,p1.guards,p1.gaps⟩:Ai)) λ(r2,r3)=>
 if (!(r3))=true then
 some (⟨p1.name,p1.entry,p1.exit,p1.path,p1.Ad,p1.Ac,p1.A2,p1.length,([]:List Am),([]:List Aa),([]:List Int),p1.At,p1.guards,p1.gaps⟩:Ai)
 else
 aB (dV p0 r2.atV) λ(r6,r7)=>
 aB (
 aZ (λ(joined17,c18,c19,b20)=>
 aB (
 if joined17=true then
 aB (gT p0 b20) λr25=>
 if r25 < r2.overlap then
 if (b20.length:Int) < (12:Int) then
 aB (jR p0 (⟨p1.name,p1.entry,p1.exit,p1.path,p1.Ad,p1.Ac,p1.A2,p1.length,b20,([]:List Aa),([]:List Int),p1.At,p1.guards,p1.gaps⟩:Ai) b20 c18) λr28=>
 some (!(r28))
 else
 some false
 else
 some false
 else
 some false) λx22=>
 if x22=true then
 aB (gE p0 (⟨c18,c19⟩:End)) λr30=>
 if (r30.length:Int)=(0:Int) then
 aP (
 some (b20,c18,c19))
 else
 aU r30 (0:Int) λe33=>
 aC ((b20++([e33]:List Am)).length<=1000000000) <|
 aU r30 (0:Int) λe35=>
 aB (fD p0 e35) λ(r37,r38)=>
 some (.inl (r38,r37.el,r37.side,(b20++([e33]:List Am))))
 else
 aP (
 some (b20,c18,c19))) (r7,r6.el,r6.side,([]:List Am))) λ(b8,c9,c10)=>
 aB (gD p0 b8) λr40=>
 aB (fC p0 b8) λr41=>
 some (⟨p1.name,p1.entry,p1.exit,p1.path,p1.Ad,p1.Ac,p1.A2,p1.length,b8,r40,r41,p1.At,p1.guards,p1.gaps⟩:Ai)
def gR (p0:Ag) (p1:Am):Option ((List End)):=
 if ((decide (p1.el < (0:Int)))||(decide ((p0.Ae.length:Int)<=p1.el)))=true then
 some ([]:List End)
 else
 aU p0.Ae p1.el λe3=>
 aB (eO e3.kind p1.inV p1.out) λ(r5,r6)=>
 aB (
 aZ (λ(side12,b13)=>
 aB (jA e3.kind) λr15=>
 if side12 < r15 then
 if (r6&&((!(decide (side12=p1.inV)))&&(!(decide (side12=p1.out)))))=true then
 aC ((b13++([(⟨p1.el,side12⟩:End)]:List End)).length<=1000000000) <|
 aC (I64 (side12+(1:Int))) <|
 some (.inl ((side12+(1:Int)),(b13++([(⟨p1.el,side12⟩:End)]:List End))))
 else
 aC (I64 (side12+(1:Int))) <|
 some (.inl ((side12+(1:Int)),b13))
 else
 aP (
 some b13)) ((0:Int),([]:List End))) λb7=>
 some b7
def nD (p0:Ag) (p1:Ai):Option ((List End)):=
 aB (
 aZ (λ(i6,b7)=>
 if i6 < (p1.path.length:Int) then
 aU p1.path i6 λe10=>
 aB (gR p0 e10) λr11=>
 aC ((b7++r11).length<=1000000000) <|
 aC (I64 (i6+(1:Int))) <|
 some (.inl ((i6+(1:Int)),(b7++r11)))
 else
 aP (
 some b7)) ((0:Int),([]:List End))) λb1=>
 aB (
 aZ (λ(i20,b21)=>
 if i20 < (p1.over.length:Int) then
 aU p1.over i20 λe24=>
 aB (gR p0 e24) λr25=>
 aC ((b21++r25).length<=1000000000) <|
 aC (I64 (i20+(1:Int))) <|
 some (.inl ((i20+(1:Int)),(b21++r25)))
 else
 aP (
 some b21)) ((0:Int),b1)) λb15=>
 some b15
def mB (p0:(List Am)) (p1:Int):Option Bool:=
 bR (
 aZ (λi3=>
 if i3 < (p0.length:Int) then
 aU p0 i3 λe6=>
 if e6.el=p1 then
 aP (
 aP (
 some true))
 else
 aC (I64 (i3+(1:Int))) <|
 some (.inl (i3+(1:Int)))
 else
 aP (
 some (.inl ()))) (0:Int)) λ_=>
 some false
def kT (p0:(List Aa)) (p1:Aa):Option Bool:=
 bR (
 aZ (λi3=>
 if i3 < (p0.length:Int) then
 aU p0 i3 λe6=>
 aC (Aa.ok e6/\Aa.ok p1) <|
 if e6=p1 then
 aP (
 aP (
 some true))
 else
 aC (I64 (i3+(1:Int))) <|
 some (.inl (i3+(1:Int)))
 else
 aP (
 some (.inl ()))) (0:Int)) λ_=>
 some false
def qU (p0:Ai) (p1:Aa):Option Bool:=
 aB (
 aB (kT p0.Ad p1) λr3=>
 if r3=true then
 some true
 else
 aB (kT p0.Aj p1) λr5=>
 if r5=true then
 some true
 else
 aB (kT p0.At p1) λr7=>
 some r7) λx1=>
 some x1
def oN (p0:Ai) (p1:End):Option (Aa×Int×Bool):=
 aB (
 if p1.side=(2:Int) then
 some ((2:Int),(1:Int))
 else
 some ((1:Int),(2:Int))) λ(c1,c2)=>
 aB (qU p0 (⟨p1.el,c1⟩:Aa)) λr5=>
 if r5=true then
 some ((⟨(0:Int),(0:Int)⟩:Aa),(-1:Int),false)
 else
 some ((⟨p1.el,c2⟩:Aa),(-1:Int),true)
def oO (p0:Int) (p1:Int) (p2:Int):Option (Int×Bool):=
 bR (
 aZ (λout3=>
 if out3 < (4:Int) then
 aB (eO p0 p1 out3) λ(r7,r8)=>
 if (r8&&((decide (r7=(0:Int)))||(decide (r7=p2))))=true then
 aP (
 aP (
 some (out3,true)))
 else
 aC (I64 (out3+(1:Int))) <|
 some (.inl (out3+(1:Int)))
 else
 aP (
 some (.inl ()))) (0:Int)) λ_=>
 some ((0:Int),false)
def lJ (p0:Ag) (p1:Ai) (p2:End):Option (Aa×Int×Bool):=
 bR (
 aZ (λ(n8,c9,c10)=>
 if n8 < (4:Int) then
 aB (dV p0 (⟨c9,c10⟩:End)) λ(r14,r15)=>
 if (!(r15))=true then
 aP (
 aP (
 some ((⟨(0:Int),(0:Int)⟩:Aa),(-1:Int),true)))
 else
 aB (gV p0 r14) λr19=>
 if (0:Int)<=r19 then
 aP (
 aP (
 some ((⟨(0:Int),(0:Int)⟩:Aa),r19,true)))
 else
 aB (
 aB (mB p1.path r14.el) λr25=>
 if r25=true then
 some true
 else
 aB (mB p1.over r14.el) λr27=>
 some r27) λx23=>
 if x23=true then
 aP (
 aP (
 some ((⟨(0:Int),(0:Int)⟩:Aa),(-1:Int),true)))
 else
 aB (
 if r14.el < (0:Int) then
 some true
 else
 if (p0.Ae.length:Int)<=r14.el then
 some true
 else
 aU p0.Ae r14.el λe35=>
 if e35.kind=(2:Int) then
 some (decide (r14.side=(0:Int)))
 else
 some false) λx31=>
 if x31=true then
 aP (
 aP (
 some ((⟨(0:Int),(0:Int)⟩:Aa),(-1:Int),false)))
 else
 aU p0.Ae r14.el λe40=>
 if e40.kind=(2:Int) then
 aB (oN p1 r14) λ(r43,r44,r45)=>
 aP (
 aP (
 some (r43,r44,r45)))
 else
 aU p0.Ae r14.el λe48=>
 aB (oO e48.kind r14.side (0:Int)) λ(r50,r51)=>
 aC (I64 (n8+(1:Int))) <|
 some (.inl ((n8+(1:Int)),r14.el,r50))
 else
 aP (
 some (.inl (c9,c10)))) ((0:Int),p2.el,p2.side)) λ(c1,c2)=>
 some ((⟨(0:Int),(0:Int)⟩:Aa),(-1:Int),false)
def rZ (p0:(List Aa)) (p1:Aa):Option ((List Aa)):=
 aB (kT p0 p1) λr1=>
 if r1=true then
 some p0
 else
 aB (
 aZ (λ(done11,i12,b13)=>
 if i12 < (p0.length:Int) then
 aB (
 aB (
 if (!(done11))=true then
 aU p0 i12 λe22=>
 some (decide (p1.el < e22.el))
 else
 some false) λx19=>
 if x19=true then
 aC ((b13++([p1]:List Aa)).length<=1000000000) <|
 some (true,(b13++([p1]:List Aa)))
 else
 some (done11,b13)) λ(done16,b17)=>
 aU p0 i12 λe25=>
 aC ((b17++([e25]:List Aa)).length<=1000000000) <|
 aC (I64 (i12+(1:Int))) <|
 some (.inl (done16,(i12+(1:Int)),(b17++([e25]:List Aa))))
 else
 aP (
 some (done11,b13))) (false,(0:Int),([]:List Aa))) λ(done3,b4)=>
 if (!(done3))=true then
 aC ((b4++([p1]:List Aa)).length<=1000000000) <|
 some (b4++([p1]:List Aa))
 else
 some b4
def gG (p0:(List Int)) (p1:Int):Option Bool:=
 bR (
 aZ (λi3=>
 if i3 < (p0.length:Int) then
 aU p0 i3 λe6=>
 if e6=p1 then
 aP (
 aP (
 some true))
 else
 aC (I64 (i3+(1:Int))) <|
 some (.inl (i3+(1:Int)))
 else
 aP (
 some (.inl ()))) (0:Int)) λ_=>
 some false
def eS (p0:(List Int)) (p1:Int):Option ((List Int)):=
 aB (gG p0 p1) λr1=>
 if r1=true then
 some p0
 else
 aB (
 aZ (λ(done11,i12,b13)=>
 if i12 < (p0.length:Int) then
 aB (
 aB (
 if (!(done11))=true then
 aU p0 i12 λe22=>
 some (decide (p1 < e22))
 else
 some false) λx19=>
 if x19=true then
 aC ((b13++([p1]:List Int)).length<=1000000000) <|
 some (true,(b13++([p1]:List Int)))
 else
 some (done11,b13)) λ(done16,b17)=>
 aU p0 i12 λe25=>
 aC ((b17++([e25]:List Int)).length<=1000000000) <|
 aC (I64 (i12+(1:Int))) <|
 some (.inl (done16,(i12+(1:Int)),(b17++([e25]:List Int))))
 else
 aP (
 some (done11,b13))) (false,(0:Int),([]:List Int))) λ(done3,b4)=>
 if (!(done3))=true then
 aC ((b4++([p1]:List Int)).length<=1000000000) <|
 some (b4++([p1]:List Int))
 else
 some b4
def kK (p0:(List Int)):Option ((List Int)):=
 aB (
 aZ (λ(out5,i6)=>
 if i6 < (p0.length:Int) then
 aU p0 i6 λe9=>
 aB (eS out5 e9) λr10=>
 aC (I64 (i6+(1:Int))) <|
 some (.inl (r10,(i6+(1:Int))))
 else
 aP (
 some out5)) (([]:List Int),(0:Int))) λout1=>
 some out1
def nH (p0:(List Int)) (p1:(List Int)):Option ((List Int)):=
 aB (kK p0) λr1=>
 aB (
 aZ (λ(out6,i7)=>
 if i7 < (p1.length:Int) then
 aU p1 i7 λe10=>
 aB (eS out6 e10) λr11=>
 aC (I64 (i7+(1:Int))) <|
 some (.inl (r11,(i7+(1:Int))))
 else
 aP (
 some out6)) (r1,(0:Int))) λout2=>
 some out2
def pM (p0:Ag) (p1:Ai):Option Ai:=
 aB (nD p0 (⟨p1.name,p1.entry,p1.exit,p1.path,p1.Ad,p1.Ac,p1.A2,p1.length,p1.over,p1.Aj,p1.Ao,([]:List Aa),([]:List Int),([]:List End)⟩:Ai)) λr1=>
 aB (
 aZ (λ(i11,c12,c13,b14)=>
 if i11 < (r1.length:Int) then
 aU r1 i11 λe17=>
 aB (lJ p0 (⟨p1.name,p1.entry,p1.exit,p1.path,p1.Ad,p1.Ac,p1.A2,p1.length,p1.over,p1.Aj,p1.Ao,c12,c13,b14⟩:Ai) e17) λ(r19,r20,r21)=>
 aB (
 if (!(r21))=true then
 aU r1 i11 λe25=>
 aC ((b14++([e25]:List End)).length<=1000000000) <|
 some (b14++([e25]:List End))
 else
 some b14) λb22=>
 aB (
 if r19.pos=(0:Int) then
 some c12
 else
 aB (rZ c12 r19) λr30=>
 some r30) λc27=>
 if (0:Int)<=r20 then
 aB (nH c13 ([r20]:List Int)) λr32=>
 aC (I64 (i11+(1:Int))) <|
 some (.inl ((i11+(1:Int)),c27,r32,b22))
 else
 aC (I64 (i11+(1:Int))) <|
 some (.inl ((i11+(1:Int)),c27,c13,b22))
 else
 aP (
 some (c12,c13,b14))) ((0:Int),([]:List Aa),([]:List Int),([]:List End))) λ(c2,c3,b4)=>
 some (⟨p1.name,p1.entry,p1.exit,p1.path,p1.Ad,p1.Ac,p1.A2,p1.length,p1.over,p1.Aj,p1.Ao,c2,c3,b4⟩:Ai)
def kS (p0:Ag):Option (Al×Int):=
 aB (sA p0) λ(r2,r3)=>
 if r3=(0:Int) then
 aB (lN p0) λr5=>
 aB (
 aZ (λ(x11,b12)=>
 if x11 < (r2.length:Int) then
 aU r2 x11 λe15=>
 aB (pN p0 e15) λr16=>
 aB (pM p0 r16) λr17=>
 aC ((b12++([r17]:List Ai)).length<=1000000000) <|
 aC (I64 (x11+(1:Int))) <|
 some (.inl ((x11+(1:Int)),(b12++([r17]:List Ai))))
 else
 aP (
 some b12)) ((0:Int),([]:List Ai))) λb6=>
 aB (
 aZ (λ(x26,b27)=>
 if x26 < (r5.length:Int) then
 aU r5 x26 λe30=>
 aB (dA p0 e30) λr31=>
 aC ((b27++([r31]:List Int)).length<=1000000000) <|
 aC (I64 (x26+(1:Int))) <|
 some (.inl ((x26+(1:Int)),(b27++([r31]:List Int))))
 else
 aP (
 some b27)) ((0:Int),([]:List Int))) λb21=>
 some ((⟨b6,r5,b21,(p0.Ac.length:Int),(p0.Ah.length:Int)⟩:Al),(0:Int))
 else
 some ((⟨([]:List Ai),([]:List Int),([]:List Int),(0:Int),(0:Int)⟩:Al),r3)
def gF (p0:(List Int)) (p1:(List Int)):Option Bool:=
 if (p0.length:Int)=(p1.length:Int) then
 bR (
 aZ (λx4=>
 if x4 < (p0.length:Int) then
 aU p0 x4 λe7=>
 aU p1 x4 λe8=>
 if e7=e8 then
 aC (I64 (x4+(1:Int))) <|
 some (.inl (x4+(1:Int)))
 else
 aP (
 aP (
 some false))
 else
 aP (
 some (.inl ()))) (0:Int)) λ_=>
 some true
 else
 some false
def kC (p0:(List Am)) (p1:(List Am)):Option Bool:=
 if (p0.length:Int)=(p1.length:Int) then
 bR (
 aZ (λi4=>
 if i4 < (p0.length:Int) then
 aU p0 i4 λe7=>
 aU p1 i4 λe8=>
 aC (Am.ok e7/\Am.ok e8) <|
 if e7=e8 then
 aC (I64 (i4+(1:Int))) <|
 some (.inl (i4+(1:Int)))
 else
 aP (
 aP (
 some false))
 else
 aP (
 some (.inl ()))) (0:Int)) λ_=>
 some true
 else
 some false
def fN (p0:(List Am)) (p1:(List Am)):Option Bool:=
 aB (kC p0 p1) λr1=>
 some r1
def gS (p0:(List Aa)) (p1:(List Aa)):Option Bool:=
 if (p0.length:Int)=(p1.length:Int) then
 bR (
 aZ (λi4=>
 if i4 < (p0.length:Int) then
 aU p0 i4 λe7=>
 aU p1 i4 λe8=>
 aC (Aa.ok e7/\Aa.ok e8) <|
 if e7=e8 then
 aC (I64 (i4+(1:Int))) <|
 some (.inl (i4+(1:Int)))
 else
 aP (
 aP (
 some false))
 else
 aP (
 some (.inl ()))) (0:Int)) λ_=>
 some true
 else
 some false
def dO (p0:(List Aa)) (p1:(List Aa)):Option Bool:=
 aB (gS p0 p1) λr1=>
 some r1
def lM (p0:(List Int)) (p1:(List Int)):Option Bool:=
 if (p0.length:Int)=(p1.length:Int) then
 bR (
 aZ (λi4=>
 if i4 < (p0.length:Int) then
 aU p0 i4 λe7=>
 aU p1 i4 λe8=>
 if e7=e8 then
 aC (I64 (i4+(1:Int))) <|
 some (.inl (i4+(1:Int)))
 else
 aP (
 aP (
 some false))
 else
 aP (
 some (.inl ()))) (0:Int)) λ_=>
 some true
 else
 some false
def fB (p0:(List Int)) (p1:(List Int)):Option Bool:=
 aB (lM p0 p1) λr1=>
 some r1
def iT (p0:(List End)) (p1:(List End)):Option Bool:=
 if (p0.length:Int)=(p1.length:Int) then
 bR (
 aZ (λi4=>
 if i4 < (p0.length:Int) then
 aU p0 i4 λe7=>
 aU p1 i4 λe8=>
 aC (End.ok e7/\End.ok e8) <|
 if e7=e8 then
 aC (I64 (i4+(1:Int))) <|
 some (.inl (i4+(1:Int)))
 else
 aP (
 aP (
 some false))
 else
 aP (
 some (.inl ()))) (0:Int)) λ_=>
 some true
 else
 some false
def pO (p0:Ai) (p1:Ai):Option Bool:=
 if ((!(decide (p0.name=p1.name)))||((!(decide (p0.entry=p1.entry)))||((!(decide (p0.exit=p1.exit)))||((!(decide (p0.A2=p1.A2)))||(!(decide (p0.length=p1.length)))))))=true then
 some false
 else
 aB (
 aB (fN p0.path p1.path) λr8=>
 if (!(r8))=true then
 some true
 else
 aB (dO p0.Ad p1.Ad) λr10=>
 if (!(r10))=true then
 some true
 else
 aB (fB p0.Ac p1.Ac) λr12=>
 some (!(r12))) λx6=>
 if x6=true then
 some false
 else
 aB (
 aB (fN p0.over p1.over) λr16=>
 if r16=true then
 aB (dO p0.Aj p1.Aj) λr18=>
 if r18=true then
 aB (fB p0.Ao p1.Ao) λr20=>
 if r20=true then
 aB (dO p0.At p1.At) λr22=>
 if r22=true then
 aB (fB p0.guards p1.guards) λr24=>
 if r24=true then
 aB (iT p0.gaps p1.gaps) λr26=>
 some r26
 else
 some false
 else
 some false
 else
 some false
 else
 some false
 else
 some false) λx14=>
 some x14
def pL (p0:Al) (p1:Al):Option Bool:=
 aB (
 if (p0.Ab.length:Int)=(p1.Ab.length:Int) then
 aB (gF p0.Ad p1.Ad) λr4=>
 if (!(r4))=true then
 some true
 else
 aB (gF p0.A1 p1.A1) λr6=>
 if (!(r6))=true then
 some true
 else
 if p0.Ac=p1.Ac then
 some (!(decide (p0.Ah=p1.Ah)))
 else
 some true
 else
 some true) λx1=>
 if x1=true then
 some false
 else
 bR (
 aZ (λx12=>
 if x12 < (p0.Ab.length:Int) then
 aU p0.Ab x12 λe15=>
 aU p1.Ab x12 λe16=>
 aB (pO e15 e16) λr17=>
 if (!(r17))=true then
 aP (
 aP (
 some false))
 else
 aC (I64 (x12+(1:Int))) <|
 some (.inl (x12+(1:Int)))
 else
 aP (
 some (.inl ()))) (0:Int)) λ_=>
 some true
def iQ (p0:Al) (p1:(List Int)):Option Bool:=
 bR (
 aZ (λx3=>
 if x3 < (p1.length:Int) then
 bR (
 aU p1 x3 λe7=>
 if ((decide (e7 < (0:Int)))||(decide (p0.Ac<=e7)))=true then
 aP (
 aP (
 aP (
 some false)))
 else
 aZ (λx14=>
 if x14 < x3 then
 aU p1 x14 λe17=>
 if e17=e7 then
 aP (
 aP (
 aP (
 aP (
 some false))))
 else
 aC (I64 (x14+(1:Int))) <|
 some (.inl (x14+(1:Int)))
 else
 aP (
 some (.inl ()))) (0:Int)) λ_=>
 aC (I64 (x3+(1:Int))) <|
 some (.inl (x3+(1:Int)))
 else
 aP (
 some (.inl ()))) (0:Int)) λ_=>
 some true
def kQ (p0:Al) (p1:Ai):Option Bool:=
 if ((decide (p1.entry < (0:Int)))||((decide (p0.Ah<=p1.entry))||((decide (p1.exit < (-1:Int)))||((decide (p0.Ah<=p1.exit))||((decide ((p1.path.length:Int) < (1:Int)))||((decide ((12:Int) < (p1.path.length:Int)))||(decide (p1.length < (1:Int)))))))))=true then
 some false
 else
 aC ((([]:List Int)++p1.Ac).length<=1000000000) <|
 aC (((([]:List Int)++p1.Ac)++p1.Ao).length<=1000000000) <|
 aB (
 if (0:Int) < (p1.Ac.length:Int) then
 aB (iQ p0 ((([]:List Int)++p1.Ac)++p1.Ao)) λr13=>
 if r13=true then
 if (0:Int)<=p1.A2 then
 some (decide (p1.A2 < p0.Ac))
 else
 some false
 else
 some false
 else
 some false) λx10=>
 some x10
def iS (p0:Al) (p1:Int):Option Int:=
 bR (
 aZ (λx3=>
 if x3 < (p0.Ad.length:Int) then
 aU p0.Ad x3 λe6=>
 if e6=p1 then
 aP (
 aP (
 some x3))
 else
 aC (I64 (x3+(1:Int))) <|
 some (.inl (x3+(1:Int)))
 else
 aP (
 some (.inl ()))) (0:Int)) λ_=>
 some (-1:Int)
def dK (p0:Al) (p1:(List Aa)):Option Bool:=
 bR (
 aZ (λx3=>
 if x3 < (p1.length:Int) then
 aU p1 x3 λe6=>
 aB (
 aB (iS p0 e6.el) λr9=>
 if r9 < (0:Int) then
 some true
 else
 if e6.pos < (1:Int) then
 some true
 else
 if (2:Int) < e6.pos then
 some true
 else
 if (0:Int) < x3 then
 aC (I64 (x3 - (1:Int))) <|
 aU p1 (x3 - (1:Int)) λe15=>
 some (decide (e6.el<=e15.el))
 else
 some false) λx7=>
 if x7=true then
 aP (
 aP (
 some false))
 else
 aC (I64 (x3+(1:Int))) <|
 some (.inl (x3+(1:Int)))
 else
 aP (
 some (.inl ()))) (0:Int)) λ_=>
 some true
def eV (p0:(List Aa)) (p1:(List Aa)):Option Bool:=
 bR (
 aZ (λx3=>
 if x3 < (p0.length:Int) then
 bR (
 aU p0 x3 λe7=>
 aZ (λx9=>
 if x9 < (p1.length:Int) then
 aU p1 x9 λe12=>
 if ((decide (e7.el=e12.el))&&(!(decide (e7.pos=e12.pos))))=true then
 aP (
 aP (
 aP (
 aP (
 some false))))
 else
 aC (I64 (x9+(1:Int))) <|
 some (.inl (x9+(1:Int)))
 else
 aP (
 some (.inl ()))) (0:Int)) λ_=>
 aC (I64 (x3+(1:Int))) <|
 some (.inl (x3+(1:Int)))
 else
 aP (
 some (.inl ()))) (0:Int)) λ_=>
 some true
def mA (p0:Al) (p1:BA):Option Int:=
 bR (
 aZ (λx3=>
 if x3 < (p0.Ab.length:Int) then
 aU p0.Ab x3 λe6=>
 if e6.name=p1 then
 aP (
 aP (
 some x3))
 else
 aC (I64 (x3+(1:Int))) <|
 some (.inl (x3+(1:Int)))
 else
 aP (
 some (.inl ()))) (0:Int)) λ_=>
 some (-1:Int)
def kR (p0:Al):Option Int:=
 if ((decide ((48:Int) < (p0.Ab.length:Int)))||((decide ((32:Int) < (p0.Ad.length:Int)))||((decide (p0.Ac < (0:Int)))||((decide ((24:Int) < p0.Ac))||((decide (p0.Ah < (0:Int)))||(decide ((20:Int) < p0.Ah)))))))=true then
 some (2:Int)
 else
 if (p0.A1.length:Int)=(p0.Ad.length:Int) then
 bR (
 aZ (λx10=>
 if x10 < (p0.Ad.length:Int) then
 aU p0.Ad x10 λe13=>
 aB (
 if e13 < (0:Int) then
 some true
 else
 if (0:Int) < x10 then
 aC (I64 (x10 - (1:Int))) <|
 aU p0.Ad (x10 - (1:Int)) λe22=>
 if e13<=e22 then
 some true
 else
 aU p0.A1 x10 λe24=>
 if e24 < (0:Int) then
 some true
 else
 aU p0.A1 x10 λe26=>
 some (decide (p0.Ac<=e26))
 else
 aU p0.A1 x10 λe18=>
 if e18 < (0:Int) then
 some true
 else
 aU p0.A1 x10 λe20=>
 some (decide (p0.Ac<=e20))) λx14=>
 if x14=true then
 aP (
 aP (
 some (1:Int)))
 else
 aC (I64 (x10+(1:Int))) <|
 some (.inl (x10+(1:Int)))
 else
 aP (
 some (.inl ()))) (0:Int)) λ_=>
 bR (
 aZ (λx34=>
 if x34 < (p0.Ab.length:Int) then
 aU p0.Ab x34 λe37=>
 aB (
 aB (kQ p0 e37) λr40=>
 if (!(r40))=true then
 some true
 else
 aB (dK p0 e37.Ad) λr42=>
 if (!(r42))=true then
 some true
 else
 aB (dK p0 e37.Aj) λr44=>
 if (!(r44))=true then
 some true
 else
 aB (dK p0 e37.At) λr46=>
 some (!(r46))) λx38=>
 if x38=true then
 aP (
 aP (
 some (1:Int)))
 else
 aC (I64 (x34+(1:Int))) <|
 some (.inl (x34+(1:Int)))
 else
 aP (
 some (.inl ()))) (0:Int)) λ_=>
 bR (
 aZ (λx54=>
 if x54 < (p0.Ab.length:Int) then
 aU p0.Ab x54 λe57=>
 aB (
 aB (eV e57.Ad e57.Aj) λr60=>
 if (!(r60))=true then
 some true
 else
 aB (eV e57.Ad e57.At) λr62=>
 if (!(r62))=true then
 some true
 else
 aB (eV e57.Aj e57.At) λr64=>
 some (!(r64))) λx58=>
 if x58=true then
 aP (
 aP (
 some (10:Int)))
 else
 aC (I64 (x54+(1:Int))) <|
 some (.inl (x54+(1:Int)))
 else
 aP (
 some (.inl ()))) (0:Int)) λ_=>
 bR (
 aZ (λx72=>
 if x72 < (p0.Ab.length:Int) then
 aU p0.Ab x72 λe75=>
 aB (mA p0 e75.name) λr76=>
 if r76=x72 then
 aC (I64 (x72+(1:Int))) <|
 some (.inl (x72+(1:Int)))
 else
 aP (
 aP (
 some (8:Int)))
 else
 aP (
 some (.inl ()))) (0:Int)) λ_=>
 some (0:Int)
 else
 some (1:Int)
def hO (p0:Ak) (p1:Int):Option Bool:=
 aB (
 if p0.state=(0:Int) then
 some (decide (p0.state=(0:Int)))
 else
 if p0.state=(1:Int) then
 some (decide (p0.state=(1:Int)))
 else
 some (decide (p0.state=(2:Int)))) λx1=>
 if x1=true then
 some ((decide (p0.rel=(0:Int)))&&(decide (p0.timer=(0:Int))))
 else
 if p0.state=(3:Int) then
 aB (
 if (0:Int)<=p0.rel then
 if p0.rel < p1 then
 if (0:Int)<=p0.timer then
 if p0.timer < (4:Int) then
 if p0.timer=(0:Int) then
 some true
 else
 aC (I64 (p1 - (1:Int))) <|
 some (decide (p0.rel=(p1 - (1:Int))))
 else
 some false
 else
 some false
 else
 some false
 else
 some false) λx8=>
 some x8
 else
 if p0.state=(4:Int) then
 some ((decide ((0:Int)<=p0.rel))&&((decide (p0.rel < p1))&&((decide ((0:Int)<=p0.timer))&&(decide (p0.timer < (12:Int))))))
 else
 some false
def pK (p0:Al) (p1:Az):Option Bool:=
 aB (
 aB (kR p0) λr3=>
 if r3=(0:Int) then
 if (p1.Ab.length:Int)=(p0.Ab.length:Int) then
 some (!(decide ((p1.lies.length:Int)=(p0.Ad.length:Int))))
 else
 some true
 else
 some true) λx1=>
 if x1=true then
 some false
 else
 bR (
 aZ (λi9=>
 if i9 < (p1.Ab.length:Int) then
 aU p1.Ab i9 λe12=>
 aU p0.Ab i9 λe13=>
 aB (hO e12 (e13.Ac.length:Int)) λr14=>
 if (!(r14))=true then
 aP (
 aP (
 some false))
 else
 aC (I64 (i9+(1:Int))) <|
 some (.inl (i9+(1:Int)))
 else
 aP (
 some (.inl ()))) (0:Int)) λ_=>
 bR (
 aZ (λi22=>
 if i22 < (p1.lies.length:Int) then
 aB (
 aU p1.lies i22 λe27=>
 if e27=(1:Int) then
 some false
 else
 aU p1.lies i22 λe29=>
 some (!(decide (e29=(2:Int))))) λx25=>
 if x25=true then
 aP (
 aP (
 some false))
 else
 aC (I64 (i22+(1:Int))) <|
 some (.inl (i22+(1:Int)))
 else
 aP (
 some (.inl ()))) (0:Int)) λ_=>
 some true
def eB (p0:Aa) (p1:Aa):Option Bool:=
 some ((decide (p0.el < p1.el))||((decide (p0.el=p1.el))&&(decide (p0.pos < p1.pos))))
def iR (p0:Ai):Option ((List Aa)):=
 aC ((([]:List Aa)++p0.Ad).length<=1000000000) <|
 aC (((([]:List Aa)++p0.Ad)++p0.Aj).length<=1000000000) <|
 aC ((((([]:List Aa)++p0.Ad)++p0.Aj)++p0.At).length<=1000000000) <|
 aZ (λb5=>
 aB (
 aZ (λ(found11,x12)=>
 if x12 < ((((([]:List Aa)++p0.Ad)++p0.Aj)++p0.At).length:Int) then
 aU (((([]:List Aa)++p0.Ad)++p0.Aj)++p0.At) x12 λe15=>
 aB (
 if (b5.length:Int)=(0:Int) then
 if found11 < (0:Int) then
 some true
 else
 aU (((([]:List Aa)++p0.Ad)++p0.Aj)++p0.At) found11 λe27=>
 aB (eB e15 e27) λr28=>
 some r28
 else
 aC (I64 ((b5.length:Int) - (1:Int))) <|
 aU b5 ((b5.length:Int) - (1:Int)) λe20=>
 aB (eB e20 e15) λr21=>
 if r21=true then
 if found11 < (0:Int) then
 some true
 else
 aU (((([]:List Aa)++p0.Ad)++p0.Aj)++p0.At) found11 λe24=>
 aB (eB e15 e24) λr25=>
 some r25
 else
 some false) λx16=>
 if x16=true then
 aC (I64 (x12+(1:Int))) <|
 some (.inl (x12,(x12+(1:Int))))
 else
 aC (I64 (x12+(1:Int))) <|
 some (.inl (found11,(x12+(1:Int))))
 else
 aP (
 some found11)) ((-1:Int),(0:Int))) λfound7=>
 if found7 < (0:Int) then
 aP (
 some b5)
 else
 aU (((([]:List Aa)++p0.Ad)++p0.Aj)++p0.At) found7 λe35=>
 aC ((b5++([e35]:List Aa)).length<=1000000000) <|
 some (.inl (b5++([e35]:List Aa)))) ([]:List Aa)
def jG (p0:(List Aa)) (p1:Aa):Option Bool:=
 bR (
 aZ (λi3=>
 if i3 < (p0.length:Int) then
 aU p0 i3 λe6=>
 aC (Aa.ok e6/\Aa.ok p1) <|
 if e6=p1 then
 aP (
 aP (
 some true))
 else
 aC (I64 (i3+(1:Int))) <|
 some (.inl (i3+(1:Int)))
 else
 aP (
 some (.inl ()))) (0:Int)) λ_=>
 some false
def nB (p0:Al) (p1:Az) (p2:Int):Option ((List Aa)):=
 aU p1.Ab p2 λe1=>
 if e1.state=(0:Int) then
 some ([]:List Aa)
 else
 aU p0.Ab p2 λe3=>
 aU p1.Ab p2 λe4=>
 aC (0<=(0:Int)/\(0:Int)<=e4.rel/\e4.rel<=(e3.Ac.length:Int)) <|
 aB (iR e3) λr6=>
 aB (
 aZ (λ(i12,b13)=>
 if i12 < (r6.length:Int) then
 aU r6 i12 λe16=>
 aB (iS p0 e16.el) λr17=>
 aB (
 aU r6 i12 λe20=>
 aB (jG e3.Ad e20) λr21=>
 if r21=true then
 aU p0.A1 r17 λe23=>
 aB (gG (sub e3.Ac (0:Int) e4.rel) e23) λr24=>
 some (!(r24))
 else
 some false) λinPath18=>
 aB (
 if inPath18=true then
 some true
 else
 aU r6 i12 λe28=>
 aB (jG e3.Aj e28) λr29=>
 if r29=true then
 some true
 else
 aU r6 i12 λe31=>
 aB (jG e3.At e31) λr32=>
 some r32) λx25=>
 if x25=true then
 aU r6 i12 λe34=>
 aC ((b13++([e34]:List Aa)).length<=1000000000) <|
 aC (I64 (i12+(1:Int))) <|
 some (.inl ((i12+(1:Int)),(b13++([e34]:List Aa))))
 else
 aC (I64 (i12+(1:Int))) <|
 some (.inl ((i12+(1:Int)),b13))
 else
 aP (
 some b13)) ((0:Int),([]:List Aa))) λb7=>
 some b7
def iO (p0:Al) (p1:Az) (p2:Int):Option ((List Int)):=
 aU p1.Ab p2 λe1=>
 if e1.state=(0:Int) then
 some ([]:List Int)
 else
 aU p0.Ab p2 λe3=>
 aU p1.Ab p2 λe4=>
 aC (0<=e4.rel/\e4.rel<=(e3.Ac.length:Int)/\(e3.Ac.length:Int)<=(e3.Ac.length:Int)) <|
 aC ((([]:List Int)++(sub e3.Ac e4.rel (e3.Ac.length:Int))).length<=1000000000) <|
 some (([]:List Int)++(sub e3.Ac e4.rel (e3.Ac.length:Int)))
def kF (p0:(List Int)) (p1:(List Int)):Option Bool:=
 bR (
 aZ (λi3=>
 if i3 < (p0.length:Int) then
 aU p0 i3 λe6=>
 aB (gG p1 e6) λr7=>
 if r7=true then
 aP (
 aP (
 some true))
 else
 aC (I64 (i3+(1:Int))) <|
 some (.inl (i3+(1:Int)))
 else
 aP (
 some (.inl ()))) (0:Int)) λ_=>
 some false
def iP (p0:Al) (p1:Az) (p2:Int):Option ((List Int)):=
 aU p1.Ab p2 λe1=>
 if e1.state=(0:Int) then
 some ([]:List Int)
 else
 aU p0.Ab p2 λe3=>
 aC ((([]:List Int)++e3.Ao).length<=1000000000) <|
 some (([]:List Int)++e3.Ao)
def fZ (p0:Al) (p1:Int) (p2:Int):Option Bool:=
 aB (
 aU p0.Ab p1 λe3=>
 if (0:Int)<=e3.exit then
 aU p0.Ab p2 λe5=>
 aU p0.Ab p1 λe6=>
 some (decide (e5.entry=e6.exit))
 else
 some false) λx1=>
 some x1
def nC (p0:Al) (p1:Az) (p2:Int) (p3:Int):Option Bool:=
 aB (
 aB (iO p0 p1 p2) λr3=>
 aB (iO p0 p1 p3) λr4=>
 aB (kF r3 r4) λr5=>
 if r5=true then
 some true
 else
 aB (iP p0 p1 p2) λr7=>
 aB (iO p0 p1 p3) λr8=>
 aB (kF r7 r8) λr9=>
 if r9=true then
 aB (fZ p0 p2 p3) λr11=>
 some (!(r11))
 else
 some false) λx1=>
 if x1=true then
 some false
 else
 aB (
 aB (iP p0 p1 p2) λr15=>
 aB (iP p0 p1 p3) λr16=>
 aB (kF r15 r16) λr17=>
 if (!(r17))=true then
 some true
 else
 aB (fZ p0 p2 p3) λr19=>
 if r19=true then
 some true
 else
 aB (fZ p0 p3 p2) λr21=>
 some r21) λx13=>
 some x13
def kP (p0:Al) (p1:Az):Option Bool:=
 aB (pK p0 p1) λr1=>
 if (!(r1))=true then
 some false
 else
 bR (
 aZ (λa5=>
 if a5 < (p0.Ab.length:Int) then
 bR (
 aB (nB p0 p1 a5) λr9=>
 bR (
 aZ (λi12=>
 if i12 < (r9.length:Int) then
 aU r9 i12 λe15=>
 aB (iS p0 e15.el) λr16=>
 aU p1.lies r16 λe17=>
 aU r9 i12 λe18=>
 if e17=e18.pos then
 aC (I64 (i12+(1:Int))) <|
 some (.inl (i12+(1:Int)))
 else
 aP (
 aP (
 aP (
 aP (
 aP (
 some false)))))
 else
 aP (
 some (.inl ()))) (0:Int)) λ_=>
 aZ (λb28=>
 if b28 < (p0.Ab.length:Int) then
 aB (
 if a5=b28 then
 some false
 else
 aB (nC p0 p1 a5 b28) λr34=>
 some (!(r34))) λx31=>
 if x31=true then
 aP (
 aP (
 aP (
 aP (
 some false))))
 else
 aC (I64 (b28+(1:Int))) <|
 some (.inl (b28+(1:Int)))
 else
 aP (
 some (.inl ()))) (0:Int)) λ_=>
 aC (I64 (a5+(1:Int))) <|
 some (.inl (a5+(1:Int)))
 else
 aP (
 some (.inl ()))) (0:Int)) λ_=>
 some true
def iM (p0:An):Option Bool:=
 bR (
 aZ (λi3=>
 if i3 < (p0.machines.length:Int) then
 aU p0.machines i3 λe6=>
 if ((decide (e6.pos < (0:Int)))||((decide ((2:Int) < e6.pos))||((decide (e6.goal < (1:Int)))||((decide ((2:Int) < e6.goal))||((decide (e6.timer < (0:Int)))||(decide ((3:Int) < e6.timer)))))))=true then
 aP (
 aP (
 some false))
 else
 aC (I64 (i3+(1:Int))) <|
 some (.inl (i3+(1:Int)))
 else
 aP (
 some (.inl ()))) (0:Int)) λ_=>
 some ((decide ((p0.machines.length:Int)=(p0.Ar.Ad.length:Int)))&&(decide ((p0.clear.length:Int)=(p0.layout.Ah.length:Int))))
def hJ (p0:Int) (p1:Int) (p2:Int):Option Bool:=
 some ((decide (p1<=p0))&&(decide (p0<=p2)))
def gM (p0:Bd):Option Int:=
 aB (mG p0.name) λr1=>
 if (!(r1))=true then
 some (3:Int)
 else
 aB (
 aB (hJ p0.id (1:Int) (99:Int)) λr5=>
 if (!(r5))=true then
 some true
 else
 aB (hJ p0.length (1:Int) (50000:Int)) λr7=>
 if (!(r7))=true then
 some true
 else
 aB (hJ p0.speed (1:Int) (10000:Int)) λr9=>
 if (!(r9))=true then
 some true
 else
 aB (hJ p0.accel (1:Int) (200:Int)) λr11=>
 if (!(r11))=true then
 some true
 else
 aB (hJ p0.service (1:Int) (200:Int)) λr13=>
 some (!(r13))) λx3=>
 if x3=true then
 some (1:Int)
 else
 aB (
 aB (hJ p0.emergency p0.service (200:Int)) λr17=>
 if (!(r17))=true then
 some true
 else
 aB (hJ p0.delay (0:Int) (5:Int)) λr19=>
 if (!(r19))=true then
 some true
 else
 aB (hJ p0.const (0:Int) (500:Int)) λr21=>
 if (!(r21))=true then
 some true
 else
 aB (hJ p0.rate (0:Int) (100:Int)) λr23=>
 some (!(r23))) λx15=>
 if x15=true then
 some (1:Int)
 else
 some (0:Int)
def kI (p0:Ag) (p1:Am):Option Int:=
 aU p0.Ae p1.el λe1=>
 some e1.length
def jT (p0:Ag) (p1:Bc):Option Int:=
 aB (
 aZ (λ(n5,i6)=>
 aC (I64 (i6+(1:Int))) <|
 if (i6+(1:Int)) < (p1.steps.length:Int) then
 aU p1.steps i6 λe10=>
 aB (kI p0 e10) λr11=>
 aC (I64 (n5+r11)) <|
 aC (I64 (i6+(1:Int))) <|
 some (.inl ((n5+r11),(i6+(1:Int))))
 else
 aP (
 some n5)) (p1.head,(0:Int))) λn1=>
 some n1
def gN (p0:Ag) (p1:Bc):Option Int:=
 aB (
 aB (gO p0 p1.steps) λr3=>
 if (!(r3))=true then
 some true
 else
 if p1.length < (1:Int) then
 some true
 else
 if (1000000:Int) < p1.length then
 some true
 else
 if p1.head < (1:Int) then
 some true
 else
 aC (I64 ((p1.steps.length:Int) - (1:Int))) <|
 aU p1.steps ((p1.steps.length:Int) - (1:Int)) λe9=>
 aB (kI p0 e9) λr10=>
 some (decide (r10 < p1.head))) λx1=>
 if x1=true then
 some (1:Int)
 else
 aB (jT p0 p1) λr12=>
 aB (
 if r12 < p1.length then
 some true
 else
 if (1:Int) < (p1.steps.length:Int) then
 aU p1.steps (0:Int) λe17=>
 aB (kI p0 e17) λr18=>
 aC (I64 (r12 - r18)) <|
 some (decide (p1.length<=(r12 - r18)))
 else
 some false) λx13=>
 if x13=true then
 some (10:Int)
 else
 some (0:Int)
def mX (p0:An):Option Bool:=
 bR (
 aZ (λi3=>
 if i3 < (p0.units.length:Int) then
 aU p0.units i3 λe6=>
 aB (
 if (0:Int) < i3 then
 aC (I64 (i3 - (1:Int))) <|
 aU p0.units (i3 - (1:Int)) λe15=>
 if e6.cab.train.id<=e15.cab.train.id then
 some true
 else
 aB (gM e6.cab.train) λr17=>
 if r17=(0:Int) then
 aB (gN p0.layout e6.body) λr19=>
 if r19=(0:Int) then
 some (!(decide (e6.body.length=e6.cab.train.length)))
 else
 some true
 else
 some true
 else
 aB (gM e6.cab.train) λr10=>
 if r10=(0:Int) then
 aB (gN p0.layout e6.body) λr12=>
 if r12=(0:Int) then
 some (!(decide (e6.body.length=e6.cab.train.length)))
 else
 some true
 else
 some true) λx7=>
 if x7=true then
 aP (
 aP (
 some false))
 else
 aC (I64 (i3+(1:Int))) <|
 some (.inl (i3+(1:Int)))
 else
 aP (
 some (.inl ()))) (0:Int)) λ_=>
 some ((decide ((1:Int)<=(p0.units.length:Int)))&&(decide ((p0.units.length:Int)<=(6:Int))))
def lI (p0:An):Option Bool:=
 if ((!(decide ((p0.center.tracks.length:Int)=(p0.units.length:Int))))||(!(decide ((p0.center.sessions.length:Int)=(p0.units.length:Int)))))=true then
 some false
 else
 bR (
 aZ (λi5=>
 if i5 < (p0.units.length:Int) then
 aU p0.units i5 λe8=>
 aB (
 aU p0.center.tracks i5 λe11=>
 if e11.id=e8.cab.train.id then
 aU p0.center.sessions i5 λe13=>
 some (!(decide (e13.peer=e8.cab.train.id)))
 else
 some true) λx9=>
 if x9=true then
 aP (
 aP (
 some false))
 else
 aC (I64 (i5+(1:Int))) <|
 some (.inl (i5+(1:Int)))
 else
 aP (
 some (.inl ()))) (0:Int)) λ_=>
 some true
def mZ (p0:Al) (p1:A6):Option Bool:=
 if ((decide (p1.train < (1:Int)))||(decide ((99:Int) < p1.train)))=true then
 some false
 else
 bR (
 aZ (λi5=>
 if i5 < (p1.stops.length:Int) then
 aU p1.stops i5 λe8=>
 if ((decide (e8.route < (0:Int)))||((decide ((p0.Ab.length:Int)<=e8.route))||((decide (e8.due < (0:Int)))||((decide ((1073741824:Int) < e8.due))||((decide (e8.run < (1:Int)))||((decide ((1000:Int) < e8.run))||((decide (e8.weight < (0:Int)))||(decide ((100:Int) < e8.weight)))))))))=true then
 aP (
 aP (
 some false))
 else
 aC (I64 (i5+(1:Int))) <|
 some (.inl (i5+(1:Int)))
 else
 aP (
 some (.inl ()))) (0:Int)) λ_=>
 some true
def pJ (p0:Al) (p1:(List A6)) (p2:Int):Option Int:=
 bR (
 aZ (λi3=>
 if i3 < (p1.length:Int) then
 aU p1 i3 λe6=>
 if e6.train=p2 then
 aP (
 aP (
 some i3))
 else
 aC (I64 (i3+(1:Int))) <|
 some (.inl (i3+(1:Int)))
 else
 aP (
 some (.inl ()))) (0:Int)) λ_=>
 some (-1:Int)
def rN (p0:Ai) (p1:Ai):Option Bool:=
 some ((decide ((0:Int)<=p0.exit))&&(decide (p1.entry=p0.exit)))
def iN (p0:Al) (p1:(List A6)):Option Int:=
 if (4:Int) < (p1.length:Int) then
 some (2:Int)
 else
 bR (
 aZ (λi4=>
 if i4 < (p1.length:Int) then
 aB (
 aU p1 i4 λe9=>
 if (e9.stops.length:Int) < (1:Int) then
 some true
 else
 aU p1 i4 λe11=>
 some (decide ((4:Int) < (e11.stops.length:Int)))) λx7=>
 if x7=true then
 aP (
 aP (
 some (2:Int)))
 else
 aC (I64 (i4+(1:Int))) <|
 some (.inl (i4+(1:Int)))
 else
 aP (
 some (.inl ()))) (0:Int)) λ_=>
 bR (
 aZ (λi19=>
 if i19 < (p1.length:Int) then
 aU p1 i19 λe22=>
 aB (mZ p0 e22) λr23=>
 if (!(r23))=true then
 aP (
 aP (
 some (1:Int)))
 else
 aC (I64 (i19+(1:Int))) <|
 some (.inl (i19+(1:Int)))
 else
 aP (
 some (.inl ()))) (0:Int)) λ_=>
 bR (
 aZ (λi31=>
 if i31 < (p1.length:Int) then
 aU p1 i31 λe34=>
 aB (pJ p0 p1 e34.train) λr35=>
 if r35=i31 then
 aC (I64 (i31+(1:Int))) <|
 some (.inl (i31+(1:Int)))
 else
 aP (
 aP (
 some (8:Int)))
 else
 aP (
 some (.inl ()))) (0:Int)) λ_=>
 bR (
 aZ (λi43=>
 if i43 < (p1.length:Int) then
 bR (
 aU p1 i43 λe47=>
 aZ (λk49=>
 if k49 < (e47.stops.length:Int) then
 aC (I64 (k49 - (1:Int))) <|
 aU e47.stops (k49 - (1:Int)) λe53=>
 aU p0.Ab e53.route λe54=>
 aU e47.stops k49 λe55=>
 aU p0.Ab e55.route λe56=>
 aB (rN e54 e56) λr57=>
 if (!(r57))=true then
 aP (
 aP (
 aP (
 aP (
 some (10:Int)))))
 else
 aC (I64 (k49+(1:Int))) <|
 some (.inl (k49+(1:Int)))
 else
 aP (
 some (.inl ()))) (1:Int)) λ_=>
 aC (I64 (i43+(1:Int))) <|
 some (.inl (i43+(1:Int)))
 else
 aP (
 some (.inl ()))) (0:Int)) λ_=>
 bR (
 aZ (λi69=>
 if i69 < (p1.length:Int) then
 bR (
 aU p1 i69 λe73=>
 aZ (λk75=>
 if k75 < (e73.stops.length:Int) then
 aU e73.stops k75 λe78=>
 aC (I64 (k75 - (1:Int))) <|
 aU e73.stops (k75 - (1:Int)) λe80=>
 if e78.due<=e80.due then
 aP (
 aP (
 aP (
 aP (
 some (7:Int)))))
 else
 aC (I64 (k75+(1:Int))) <|
 some (.inl (k75+(1:Int)))
 else
 aP (
 some (.inl ()))) (1:Int)) λ_=>
 aC (I64 (i69+(1:Int))) <|
 some (.inl (i69+(1:Int)))
 else
 aP (
 some (.inl ()))) (0:Int)) λ_=>
 some (0:Int)
def nA (p0:(List A6)) (p1:(List (List Int))):Option Bool:=
 if (p0.length:Int)=(p1.length:Int) then
 bR (
 aZ (λi4=>
 if i4 < (p0.length:Int) then
 aU p0 i4 λe7=>
 aU p1 i4 λe8=>
 if (e7.stops.length:Int)=(e8.length:Int) then
 aC (I64 (i4+(1:Int))) <|
 some (.inl (i4+(1:Int)))
 else
 aP (
 aP (
 some false))
 else
 aP (
 some (.inl ()))) (0:Int)) λ_=>
 some true
 else
 some false
def kO (p0:(List A6)) (p1:(List (List Int))):Option (Int×Int):=
 aB (nA p0 p1) λr1=>
 if (!(r1))=true then
 some ((0:Int),(1:Int))
 else
 bR (
 aZ (λ(sum9,early10,i11)=>
 if i11 < (p0.length:Int) then
 bR (
 aZ (λ(sum20,early21,k22)=>
 aU p0 i11 λe24=>
 if k22 < (e24.stops.length:Int) then
 aU p0 i11 λe26=>
 aU e26.stops k22 λe27=>
 aU p1 i11 λe28=>
 aU e28 k22 λe29=>
 if ((decide (e29 < (0:Int)))||((decide ((2147483648:Int) < e29))||((decide (e27.due < (0:Int)))||((decide ((1073741824:Int) < e27.due))||((decide (e27.weight < (0:Int)))||(decide ((100:Int) < e27.weight)))))))=true then
 aP (
 aP (
 aP (
 aP (
 some ((0:Int),(1:Int))))))
 else
 aC (I64 (e29 - e27.due)) <|
 aC (I64 (e27.weight * (e29 - e27.due))) <|
 aC (I64 (sum20+(e27.weight * (e29 - e27.due)))) <|
 aC (I64 (k22+(1:Int))) <|
 some (.inl ((sum20+(e27.weight * (e29 - e27.due))),(early21||(decide (e29 < e27.due))),(k22+(1:Int))))
 else
 aP (
 some (.inl (sum20,early21)))) (sum9,early10,(0:Int))) λ(sum14,early15)=>
 aC (I64 (i11+(1:Int))) <|
 some (.inl (sum14,early15,(i11+(1:Int))))
 else
 aP (
 some (.inl (sum9,early10)))) ((0:Int),false,(0:Int))) λ(sum3,early4)=>
 if early4=true then
 some ((0:Int),(7:Int))
 else
 some (sum3,(0:Int))
def jQ (p0:An):Option Bool:=
 aB (kO p0.trips p0.plan.starts) λ(r2,r3)=>
 bR (
 aZ (λi6=>
 if i6 < (p0.progress.length:Int) then
 aB (
 aU p0.progress i6 λe11=>
 if e11 < (0:Int) then
 some true
 else
 aU p0.progress i6 λe13=>
 some (decide ((4:Int) < e13))) λx9=>
 if x9=true then
 aP (
 aP (
 some false))
 else
 aC (I64 (i6+(1:Int))) <|
 some (.inl (i6+(1:Int)))
 else
 aP (
 some (.inl ()))) (0:Int)) λ_=>
 some ((decide (r3=(0:Int)))&&((decide ((p0.progress.length:Int)=(p0.trips.length:Int)))&&((decide ((0:Int)<=p0.now))&&(decide (p0.now<=(1073741824:Int))))))
def mY (p0:An):Option Int:=
 aB (iZ p0.layout) λr1=>
 if r1=(0:Int) then
 aB (kS p0.layout) λ(r4,r5)=>
 aB (
 if r5=(0:Int) then
 aB (pL r4 p0.Ar) λr9=>
 some (!(r9))
 else
 some true) λx6=>
 if x6=true then
 some (10:Int)
 else
 aB (
 aB (kP p0.Ar p0.inter) λr13=>
 if (!(r13))=true then
 some true
 else
 aB (iM p0) λr15=>
 some (!(r15))) λx11=>
 if x11=true then
 some (11:Int)
 else
 aB (
 aB (mX p0) λr19=>
 if (!(r19))=true then
 some true
 else
 aB (lI p0) λr21=>
 some (!(r21))) λx17=>
 if x17=true then
 some (1:Int)
 else
 aB (iN p0.Ar p0.trips) λr23=>
 if r23=(0:Int) then
 aB (jQ p0) λr25=>
 if (!(r25))=true then
 some (1:Int)
 else
 some (0:Int)
 else
 some r23
 else
 some r1
def uY:Option (Bd×Bc):=
 some ((⟨(3:Int),(⟨#[105,99,101]⟩:BA),(5000:Int),(900:Int),(50:Int),(50:Int),(100:Int),(0:Int),(0:Int),(0:Int)⟩:Bd),(⟨([(⟨(0:Int),(0:Int),(1:Int)⟩:Am)]:List Am),(15000:Int),(5000:Int)⟩:Bc))
def tM:Option Ag:=
 aB (
 aZ (λ(x6,b7)=>
 if x6 < (([(⟨#[97]⟩:BA),(⟨#[98]⟩:BA),(⟨#[99]⟩:BA)]:List BA).length:Int) then
 aU ([(⟨#[97]⟩:BA),(⟨#[98]⟩:BA),(⟨#[99]⟩:BA)]:List BA) x6 λe10=>
 aC ((b7++([(⟨e10,(1:Int),(20000:Int),(0:Int),(1000:Int),(0:Int),x6⟩:Aw)]:List Aw)).length<=1000000000) <|
 aC (I64 (x6+(1:Int))) <|
 some (.inl ((x6+(1:Int)),(b7++([(⟨e10,(1:Int),(20000:Int),(0:Int),(1000:Int),(0:Int),x6⟩:Aw)]:List Aw))))
 else
 aP (
 some b7)) ((0:Int),([]:List Aw))) λb1=>
 some (⟨(⟨#[108,105,110,101]⟩:BA),([(⟨#[97]⟩:BA),(⟨#[98]⟩:BA),(⟨#[99]⟩:BA)]:List BA),b1,([(⟨(⟨(0:Int),(1:Int)⟩:End),(⟨(1:Int),(0:Int)⟩:End)⟩:Ba),(⟨(⟨(1:Int),(1:Int)⟩:End),(⟨(2:Int),(0:Int)⟩:End)⟩:Ba)]:List Ba),([(⟨(⟨#[115,49]⟩:BA),(⟨(0:Int),(1:Int)⟩:End),(0:Int)⟩:A0),(⟨(⟨#[115,50]⟩:BA),(⟨(1:Int),(1:Int)⟩:End),(0:Int)⟩:A0)]:List A0),([]:List A4)⟩:Ag)
def uK (p0:Ag) (p1:Bd) (p2:Bc):Option (A5×Int):=
 aB (
 aB (iZ p0) λr3=>
 if r3=(0:Int) then
 aB (gM p1) λr5=>
 if r5=(0:Int) then
 aB (gN p0 p2) λr7=>
 if r7=(0:Int) then
 some (!(decide (p2.length=p1.length)))
 else
 some true
 else
 some true
 else
 some true) λx1=>
 if x1=true then
 none
 else
 aC (I64 ((p2.steps.length:Int) - (1:Int))) <|
 aU p2.steps ((p2.steps.length:Int) - (1:Int)) λe11=>
 aB (gV p0 (⟨e11.el,e11.out⟩:End)) λr12=>
 if r12 < (0:Int) then
 none
 else
 aU p0.Ae e11.el λe14=>
 aC (I64 (e14.length - p2.head)) <|
 aB (gT p0 p2.steps) λr16=>
 aC (I64 (e14.length - r16)) <|
 aC (I64 ((e14.length - r16) - p2.head)) <|
 aC ((([]:List Am)++p2.steps).length<=1000000000) <|
 some ((⟨p1.id,((e14.length - r16) - p2.head),r12,(e14.length - p2.head),(([]:List Am)++p2.steps),([]:List Int),([]:List Int),([]:List Int),([]:List Int),(0:Int),(0:Int),(0:Int),(0:Int),(0:Int)⟩:A5),(0:Int))
def wA (p0:Int) (p1:Int):Option Ax:=
 some (⟨p0,(0:Int),(0:Int),p1⟩:Ax)
def dL (p0:Ag) (p1:Bc):Option ((List Int)):=
 aB (
 aZ (λ(i6,b7)=>
 if i6 < (p1.steps.length:Int) then
 aU p1.steps i6 λe10=>
 aB (dA p0 e10.el) λr11=>
 if (0:Int)<=r11 then
 aC ((b7++([r11]:List Int)).length<=1000000000) <|
 aC (I64 (i6+(1:Int))) <|
 some (.inl ((i6+(1:Int)),(b7++([r11]:List Int))))
 else
 aC (I64 (i6+(1:Int))) <|
 some (.inl ((i6+(1:Int)),b7))
 else
 aP (
 some b7)) ((0:Int),([]:List Int))) λb1=>
 aB (kK b1) λr17=>
 some r17
def oF (p0:(List Int)) (p1:(List Int)) (p2:Bool):Option ((List Int)):=
 aB (
 aZ (λ(out5,i6)=>
 if i6 < (p0.length:Int) then
 aU p0 i6 λe9=>
 aB (gG p1 e9) λr10=>
 if ((r10 == p2))=true then
 aU p0 i6 λe12=>
 aB (eS out5 e12) λr13=>
 aC (I64 (i6+(1:Int))) <|
 some (.inl (r13,(i6+(1:Int))))
 else
 aC (I64 (i6+(1:Int))) <|
 some (.inl (out5,(i6+(1:Int))))
 else
 aP (
 some out5)) (([]:List Int),(0:Int))) λout1=>
 some out1
def gW (p0:(List Int)) (p1:(List Int)):Option ((List Int)):=
 aB (oF p0 p1 true) λr1=>
 some r1
def uJ (p0:Ag) (p1:(List Bc)):Option Bool:=
 bR (
 aZ (λi3=>
 if i3 < (p1.length:Int) then
 bR (
 aZ (λk8=>
 if k8 < i3 then
 aU p1 i3 λe11=>
 aB (dL p0 e11) λr12=>
 aU p1 k8 λe13=>
 aB (dL p0 e13) λr14=>
 aB (gW r12 r14) λr15=>
 if (0:Int) < (r15.length:Int) then
 none
 else
 aC (I64 (k8+(1:Int))) <|
 some (.inl (k8+(1:Int)))
 else
 aP (
 some (.inl ()))) (0:Int)) λ_=>
 aC (I64 (i3+(1:Int))) <|
 some (.inl (i3+(1:Int)))
 else
 aP (
 some (.inl ()))) (0:Int)) λ_=>
 some true
def qAQ (p0:Ag) (p1:(List Bd)) (p2:(List Bc)):Option (Bg×Int):=
 if ((decide ((p1.length:Int) < (1:Int)))||((decide ((6:Int) < (p1.length:Int)))||(!(decide ((p2.length:Int)=(p1.length:Int))))))=true then
 none
 else
 bR (
 aZ (λi6=>
 if i6 < (p1.length:Int) then
 aU p1 i6 λe9=>
 aC (I64 (i6 - (1:Int))) <|
 aU p1 (i6 - (1:Int)) λe11=>
 if e9.id<=e11.id then
 none
 else
 aC (I64 (i6+(1:Int))) <|
 some (.inl (i6+(1:Int)))
 else
 aP (
 some (.inl ()))) (1:Int)) λ_=>
 bR (
 aZ (λ(i22,b23,b24)=>
 if i22 < (p1.length:Int) then
 aU p1 i22 λe27=>
 aU p2 i22 λe28=>
 aB (uK p0 e27 e28) λ(r30,r31)=>
 if r31=(0:Int) then
 aC ((b23++([r30]:List A5)).length<=1000000000) <|
 aU p1 i22 λe34=>
 aB (wA e34.id (0:Int)) λr35=>
 aC ((b24++([r35]:List Ax)).length<=1000000000) <|
 aC (I64 (i22+(1:Int))) <|
 some (.inl ((i22+(1:Int)),(b23++([r30]:List A5)),(b24++([r35]:List Ax))))
 else
 none
 else
 aP (
 some (.inl (b23,b24)))) ((0:Int),([]:List A5),([]:List Ax))) λ(b15,b16)=>
 aB (uJ p0 p2) λr39=>
 if (!(r39))=true then
 none
 else
 some ((⟨b15,b16⟩:Bg),(0:Int))
def uM (p0:Al):Option Az:=
 aB (kR p0) λr1=>
 if r1=(0:Int) then
 aC (0<=(p0.Ad.length:Int)/\(p0.Ad.length:Int)<=1000000000) <|
 aB (
 aZ (λi6=>
 if i6 < ((List.replicate (p0.Ad.length:Int).toNat (0:Int)).length:Int) then
 none
 else
 aP (
 some ())) (0:Int)) λ_=>
 aC (0<=(p0.Ab.length:Int)/\(p0.Ab.length:Int)<=1000000000) <|
 some (⟨(List.replicate (p0.Ab.length:Int).toNat (⟨(0:Int),(0:Int),(0:Int)⟩:Ak)),(List.replicate (p0.Ad.length:Int).toNat (0:Int))⟩:Az)
 else
 none
def uL (p0:Al):Option ((List As)):=
 aB (
 aZ (λi3=>
 if i3 < (p0.Ad.length:Int) then
 none
 else
 aP (
 some ())) (0:Int)) λ_=>
 some ([]:List As)
def pI (p0:Ag) (p1:Bc):Option Bool:=
 bR (
 aZ (λi3=>
 if i3 < (p1.steps.length:Int) then
 aU p1.steps i3 λe6=>
 if ((decide (e6.el < (0:Int)))||(decide ((p0.Ae.length:Int)<=e6.el)))=true then
 none
 else
 aU p0.Ae e6.el λe9=>
 aB (eO e9.kind e6.inV e6.out) λ(r11,r12)=>
 if ((!(r12))||(decide (r11=(2:Int))))=true then
 none
 else
 aC (I64 (i3+(1:Int))) <|
 some (.inl (i3+(1:Int)))
 else
 aP (
 some (.inl ()))) (0:Int)) λ_=>
 some true
def qAR (p0:Bd) (p1:Int):Option Cab:=
 aB (wA (0:Int) p1) λr1=>
 some (⟨p0,(1:Int),(2:Int),(0:Int),(⟨(0:Int),(0:Int),(0:Int)⟩:Bq),(⟨(0:Int),(0:Int),([]:List A8),([]:List Bb)⟩:Bo),r1,(⟨false,(0:Int)⟩:Bt)⟩:Cab)
def tA (p0:A7) (p1:A7):Option Bool:=
 if p0.cost=p1.cost then
 none
 else
 none
def fJ:Nat->Bn->(List (List Int))->Int->Option Bn
 | 0,_,_,_=>none
 | fu+1,p0,p1,p2=>
 aB (
 aZ (λ(done5,i6)=>
 if i6 < (p1.length:Int) then
 none
 else
 aP (
 some done5)) (true,(0:Int))) λdone1=>
 if (!(done1))=true then
 none
 else
 aB (
 if (!(p0.found))=true then
 some true
 else
 aB (tA (⟨p1,p2⟩:A7) p0.best) λr14=>
 some r14) λx11=>
 if x11=true then
 some (⟨p0.t,p0.trips,(⟨p1,p2⟩:A7),true⟩:Bn)
 else
 none
def nY (p0:Bn) (p1:(List (List Int))) (p2:Int):Option Bn:=fJ lG p0 p1 p2
def uI (p0:Al) (p1:(List A6)):Option (A7×Int):=
 aB (iN p0 p1) λr1=>
 if r1=(0:Int) then
 aC (0<=(p1.length:Int)/\(p1.length:Int)<=1000000000) <|
 aB (nY (⟨p0,p1,(⟨([]:List (List Int)),(0:Int)⟩:A7),false⟩:Bn) (List.replicate (p1.length:Int).toNat ([]:List Int)) (0:Int)) λr4=>
 some (r4.best,(0:Int))
 else
 none
def vZ (p0:Ag) (p1:(List Bd)) (p2:(List Bc)) (p3:(List A6)):Option (An×Int):=
 aB (kS p0) λ(r2,r3)=>
 if r3=(0:Int) then
 aB (qAQ p0 p1 p2) λ(r6,r7)=>
 if r7=(0:Int) then
 aB (uM r2) λr9=>
 aB (uL r2) λr10=>
 aC (0<=(p0.Ah.length:Int)/\(p0.Ah.length:Int)<=1000000000) <|
 aC (0<=(p3.length:Int)/\(p3.length:Int)<=1000000000) <|
 bR (
 aZ (λ(i18,b19)=>
 if i18 < (p1.length:Int) then
 aU p2 i18 λe22=>
 aB (pI p0 e22) λr23=>
 if (!(r23))=true then
 none
 else
 aU p2 i18 λe25=>
 aU p1 i18 λe26=>
 aB (qAR e26 (0:Int)) λr27=>
 aC ((b19++([(⟨e25,(0:Int),(0:Int),(0:Int),r27⟩:Av)]:List Av)).length<=1000000000) <|
 aC (I64 (i18+(1:Int))) <|
 some (.inl ((i18+(1:Int)),(b19++([(⟨e25,(0:Int),(0:Int),(0:Int),r27⟩:Av)]:List Av))))
 else
 aP (
 some (.inl b19))) ((0:Int),([]:List Av))) λb13=>
 aB (iN r2 p3) λr31=>
 if r31=(0:Int) then
 aB (uI r2 p3) λ(r34,r35)=>
 if r35=(0:Int) then
 some ((⟨p0,r2,r9,r10,(List.replicate (p0.Ah.length:Int).toNat false),b13,r6,([]:List A9),([]:List Be),([]:List Bl),([]:List Ay),([]:List Au),([]:List Bf),p3,r34,(List.replicate (p3.length:Int).toNat (0:Int)),([]:List A3),(0:Int)⟩:An),(0:Int))
 else
 none
 else
 none
 else
 none
 else
 none
def qP (p0:Ag) (p1:Int):Option Bool:=
 some ((decide ((0:Int)<=p1))&&(decide (p1 < (p0.Ae.length:Int))))
def jN (p0:Ag) (p1:(List Am)):Option ((List Int)):=
 aB (
 aZ (λ(x8,b9,b10)=>
 if x8 < (p1.length:Int) then
 aU p1 x8 λe13=>
 aB (qP p0 e13.el) λr14=>
 if (!(r14))=true then
 aC (I64 (x8+(1:Int))) <|
 some (.inl ((x8+(1:Int)),b9,b10))
 else
 aU p0.Ae e13.el λe17=>
 aC (b10.map (·.1)).Nodup <|
 if (!(((cM b10 e17.Aq).getD false)))=true then
 aC (b10.map (·.1)).Nodup <|
 aC ((b9++([e17.Aq]:List Int)).length<=1000000000) <|
 aC (I64 (x8+(1:Int))) <|
 some (.inl ((x8+(1:Int)),(b9++([e17.Aq]:List Int)),(tJ b10 e17.Aq true)))
 else
 aC (I64 (x8+(1:Int))) <|
 some (.inl ((x8+(1:Int)),b9,b10))
 else
 aP (
 some (b9,b10))) ((0:Int),([]:List Int),([]:List (Int×Bool)))) λ(b1,m2)=>
 some b1
def iC (p0:Ag) (p1:Bc):Option ((List Int)):=
 aB (jN p0 p1.steps) λr1=>
 aC (r1.length<=1000000000) <|
 some (kN r1)
def dB (p0:(List Int)):Option ((List Int)):=
 qVV p0 (
 some ([]:List Int)) (
 aC ((([]:List Int)++p0).length<=1000000000) <|
 some (([]:List Int)++p0))
def mJ (p0:(List Int)):Option ((List Int)):=
 aB (dB p0) λr1=>
 aC (r1.length<=1000000000) <|
 aC ((kN r1).length<=1000000000) <|
 some (Go.Lib.compact (kN r1))
def hU (p0:(List Int)) (p1:(List Int)) (p2:Bool->Bool->Option Bool):Option ((List Int)):=
 aB (
 aZ (λ(a8,b9,b10)=>
 if ((decide ((0:Int) < (a8.length:Int)))||(decide ((0:Int) < (b9.length:Int))))=true then
 aB (
 if (0:Int) < (a8.length:Int) then
 if (b9.length:Int)=(0:Int) then
 some true
 else
 aU a8 (0:Int) λe18=>
 aU b9 (0:Int) λe19=>
 some (decide (e18<=e19))
 else
 some false) λinA14=>
 aB (
 if (0:Int) < (b9.length:Int) then
 if (a8.length:Int)=(0:Int) then
 some true
 else
 aU b9 (0:Int) λe24=>
 aU a8 (0:Int) λe25=>
 some (decide (e24<=e25))
 else
 some false) λinB20=>
 aB (
 if inA14=true then
 aU a8 (0:Int) λe30=>
 aC (0<=(1:Int)/\(1:Int)<=(a8.length:Int)/\(a8.length:Int)<=(a8.length:Int)) <|
 some (sub a8 (1:Int) (a8.length:Int),e30)
 else
 some (a8,(0:Int))) λ(a26,n27)=>
 aB (
 if inB20=true then
 aU b9 (0:Int) λe36=>
 aC (0<=(1:Int)/\(1:Int)<=(b9.length:Int)/\(b9.length:Int)<=(b9.length:Int)) <|
 some (sub b9 (1:Int) (b9.length:Int),e36)
 else
 some (b9,n27)) λ(b32,n33)=>
 aB (p2 inA14 inB20) λr38=>
 if r38=true then
 aC ((b10++([n33]:List Int)).length<=1000000000) <|
 some (.inl (a26,b32,(b10++([n33]:List Int))))
 else
 some (.inl (a26,b32,b10))
 else
 aP (
 some b10)) (p0,p1,([]:List Int))) λb1=>
 some b1
def dN (p0:Bool) (p1:Bool):Option Bool:=
 some (p0&&p1)
def lQ (p0:(List Int)) (p1:(List Int)):Option ((List Int)):=
 aB (mJ p0) λr1=>
 aB (mJ p1) λr2=>
 aB (hU r1 r2 dN) λr3=>
 some r3
def dP (p0:Av) (p1:Av) (p2:An):Option Bool:=
 aB (iC p2.layout p0.body) λr1=>
 aB (iC p2.layout p1.body) λr2=>
 aB (lQ r1 r2) λr3=>
 some (decide ((0:Int) < (r3.length:Int)))
def dI (p0:(List Av)) (p1:Av->Av->Option Bool) (p2:Av->Av->Option Af):Option ((List Af)):=
 aB (
 aZ (λ(x6,b7)=>
 if x6 < (p0.length:Int) then
 aB (
 aU p0 x6 λe12=>
 aC (I64 (x6+(1:Int))) <|
 aC (0<=(x6+(1:Int))/\(x6+(1:Int))<=(p0.length:Int)/\(p0.length:Int)<=(p0.length:Int)) <|
 aZ (λ(x18,b19)=>
 if x18 < ((sub p0 (x6+(1:Int)) (p0.length:Int)).length:Int) then
 aU (sub p0 (x6+(1:Int)) (p0.length:Int)) x18 λe22=>
 aB (p1 e12 e22) λr23=>
 if r23=true then
 aB (p2 e12 e22) λr25=>
 aC ((b19++([r25]:List Af)).length<=1000000000) <|
 aC (I64 (x18+(1:Int))) <|
 some (.inl ((x18+(1:Int)),(b19++([r25]:List Af))))
 else
 aC (I64 (x18+(1:Int))) <|
 some (.inl ((x18+(1:Int)),b19))
 else
 aP (
 some b19)) ((0:Int),b7)) λb10=>
 aC (I64 (x6+(1:Int))) <|
 some (.inl ((x6+(1:Int)),b10))
 else
 aP (
 some b7)) ((0:Int),([]:List Af))) λb1=>
 some b1
def fS (p0:Av) (p1:Av):Option Af:=
 some (⟨(1:Int),p0.cab.train.id,p1.cab.train.id⟩:Af)
def dG (p0:An):Option ((List Af)):=
 aB (dI p0.units (λa0 a1=>dP a0 a1 p0) fS) λr1=>
 some r1
def gK (p0:Int):Option Bool:=
 some (decide (p0=(2:Int)))
def cO (p0:Int) (p1:Int):Option Bool:=
 some ((decide ((0:Int)<=p0))&&(decide (p0 < p1)))
def fQ (p0:Al):Option Bool:=
 if (p0.A1.length:Int)=(p0.Ad.length:Int) then
 bR (
 aZ (λx4=>
 if x4 < (p0.Ad.length:Int) then
 aU p0.Ad x4 λe7=>
 aB (
 if e7 < (0:Int) then
 some true
 else
 if (0:Int) < x4 then
 aC (I64 (x4 - (1:Int))) <|
 aU p0.Ad (x4 - (1:Int)) λe15=>
 if e7<=e15 then
 some true
 else
 aU p0.A1 x4 λe17=>
 aB (cO e17 p0.Ac) λr18=>
 some (!(r18))
 else
 aU p0.A1 x4 λe12=>
 aB (cO e12 p0.Ac) λr13=>
 some (!(r13))) λx8=>
 if x8=true then
 aP (
 aP (
 some false))
 else
 aC (I64 (x4+(1:Int))) <|
 some (.inl (x4+(1:Int)))
 else
 aP (
 some (.inl ()))) (0:Int)) λ_=>
 some true
 else
 some false
def iG (p0:List (List Int)):Option (List Int):=
 aC (p0.length<=1000/\p0.flatten.length<=1000000000) <|
 some p0.flatten
def eX (p0:Al) (p1:Ai):Option Bool:=
 aB (
 aB (cO p1.entry p0.Ah) λr3=>
 if (!(r3))=true then
 some true
 else
 if p1.exit=(-1:Int) then
 some false
 else
 aB (cO p1.exit p0.Ah) λr6=>
 some (!(r6))) λx1=>
 if x1=true then
 some false
 else
 if ((decide ((p1.path.length:Int) < (1:Int)))||((decide ((12:Int) < (p1.path.length:Int)))||(decide ((p1.Ac.length:Int)=(0:Int)))))=true then
 some false
 else
 bR (
 aB (iG ([p1.Ac,p1.Ao]:List (List Int))) λr13=>
 aZ (λ(x17,b18)=>
 if x17 < (r13.length:Int) then
 aU r13 x17 λe21=>
 aB (
 aB (cO e21 p0.Ac) λr24=>
 if (!(r24))=true then
 some true
 else
 aC (e21 < 24) <|
 aU b18 e21 λe26=>
 some e26) λx22=>
 if x22=true then
 aP (
 aP (
 some false))
 else
 aC (e21 < 24) <|
 aU b18 e21 λe31=>
 aC (I64 (x17+(1:Int))) <|
 some (.inl ((x17+(1:Int)),(b18.set e21.toNat true)))
 else
 aP (
 some (.inl b18))) ((0:Int),(List.replicate 24 false))) λb11=>
 aB (
 aB (cO p1.A2 p0.Ac) λr37=>
 if r37=true then
 some (decide ((1:Int)<=p1.length))
 else
 some false) λx35=>
 some x35
def eY (p0:(List Int)) (p1:Int):Option Int:=
 bR (
 aZ (λx3=>
 if x3 < (p0.length:Int) then
 aU p0 x3 λe6=>
 if p1=e6 then
 aP (
 aP (
 some x3))
 else
 aC (I64 (x3+(1:Int))) <|
 some (.inl (x3+(1:Int)))
 else
 aP (
 some (.inl ()))) (0:Int)) λ_=>
 some (-1:Int)
def fR (p0:Al) (p1:Int):Option Int:=
 aB (eY p0.Ad p1) λr1=>
 some r1
def cJ (p0:Al) (p1:(List Aa)):Option Bool:=
 bR (
 aZ (λx3=>
 if x3 < (p1.length:Int) then
 aU p1 x3 λe6=>
 aB (
 if (0:Int) < x3 then
 aC (I64 (x3 - (1:Int))) <|
 aU p1 (x3 - (1:Int)) λe12=>
 if e6.el<=e12.el then
 some true
 else
 aB (fR p0 e6.el) λr14=>
 some (decide (r14 < (0:Int)))
 else
 aB (fR p0 e6.el) λr10=>
 some (decide (r10 < (0:Int)))) λx7=>
 if x7=true then
 aP (
 aP (
 some false))
 else
 if ((!(decide (e6.pos=(1:Int))))&&(!(decide (e6.pos=(2:Int)))))=true then
 aP (
 aP (
 some false))
 else
 aC (I64 (x3+(1:Int))) <|
 some (.inl (x3+(1:Int)))
 else
 aP (
 some (.inl ()))) (0:Int)) λ_=>
 some true
def dM (p0:(List Aa)) (p1:(List Aa)):Option Bool:=
 bR (
 aZ (λx3=>
 if x3 < (p0.length:Int) then
 bR (
 aU p0 x3 λe7=>
 aZ (λx9=>
 if x9 < (p1.length:Int) then
 aU p1 x9 λe12=>
 if ((decide (e7.el=e12.el))&&(!(decide (e7.pos=e12.pos))))=true then
 aP (
 aP (
 aP (
 aP (
 some false))))
 else
 aC (I64 (x9+(1:Int))) <|
 some (.inl (x9+(1:Int)))
 else
 aP (
 some (.inl ()))) (0:Int)) λ_=>
 aC (I64 (x3+(1:Int))) <|
 some (.inl (x3+(1:Int)))
 else
 aP (
 some (.inl ()))) (0:Int)) λ_=>
 some true
def mW (p0:Al):Option Int:=
 aB (
 if (48:Int) < (p0.Ab.length:Int) then
 some true
 else
 if (32:Int) < (p0.Ad.length:Int) then
 some true
 else
 aB (cO p0.Ac (25:Int)) λr5=>
 if (!(r5))=true then
 some true
 else
 aB (cO p0.Ah (21:Int)) λr7=>
 some (!(r7))) λx1=>
 if x1=true then
 some (2:Int)
 else
 aB (fQ p0) λr9=>
 if (!(r9))=true then
 some (1:Int)
 else
 bR (
 aZ (λx13=>
 if x13 < (p0.Ab.length:Int) then
 aU p0.Ab x13 λe16=>
 aB (eX p0 e16) λr17=>
 if (!(r17))=true then
 aP (
 aP (
 some (1:Int)))
 else
 aC (I64 (x13+(1:Int))) <|
 some (.inl (x13+(1:Int)))
 else
 aP (
 some (.inl ()))) (0:Int)) λ_=>
 bR (
 aZ (λx25=>
 if x25 < (p0.Ab.length:Int) then
 aU p0.Ab x25 λe28=>
 aB (
 aB (cJ p0 e28.Ad) λr31=>
 if (!(r31))=true then
 some true
 else
 aB (cJ p0 e28.Aj) λr33=>
 if (!(r33))=true then
 some true
 else
 aB (cJ p0 e28.At) λr35=>
 some (!(r35))) λx29=>
 if x29=true then
 aP (
 aP (
 some (1:Int)))
 else
 aC (I64 (x25+(1:Int))) <|
 some (.inl (x25+(1:Int)))
 else
 aP (
 some (.inl ()))) (0:Int)) λ_=>
 bR (
 aZ (λx43=>
 if x43 < (p0.Ab.length:Int) then
 aU p0.Ab x43 λe46=>
 aB (
 aB (dM e46.Ad e46.Aj) λr49=>
 if (!(r49))=true then
 some true
 else
 aB (dM e46.Ad e46.At) λr51=>
 if (!(r51))=true then
 some true
 else
 aB (dM e46.Aj e46.At) λr53=>
 some (!(r53))) λx47=>
 if x47=true then
 aP (
 aP (
 some (10:Int)))
 else
 aC (I64 (x43+(1:Int))) <|
 some (.inl (x43+(1:Int)))
 else
 aP (
 some (.inl ()))) (0:Int)) λ_=>
 bR (
 aZ (λ(x64,b65)=>
 if x64 < (p0.Ab.length:Int) then
 aU p0.Ab x64 λe68=>
 aC (b65.map (·.1)).Nodup <|
 if (((cM b65 e68.name).getD false))=true then
 aP (
 aP (
 some (8:Int)))
 else
 aC (b65.map (·.1)).Nodup <|
 aC (I64 (x64+(1:Int))) <|
 some (.inl ((x64+(1:Int)),(tJ b65 e68.name true)))
 else
 aP (
 some (.inl b65))) ((0:Int),([]:List (BA×Bool)))) λm59=>
 some (0:Int)
def hP (p0:Ak) (p1:Int):Option Bool:=
 aB (
 if p0.state=(0:Int) then
 some (decide (p0.state=(0:Int)))
 else
 if p0.state=(1:Int) then
 some (decide (p0.state=(1:Int)))
 else
 some (decide (p0.state=(2:Int)))) λx1=>
 if x1=true then
 some ((decide (p0.rel=(0:Int)))&&(decide (p0.timer=(0:Int))))
 else
 if p0.state=(3:Int) then
 if ((decide (p0.rel < (0:Int)))||(decide (p1<=p0.rel)))=true then
 some false
 else
 aB (
 if p0.timer=(0:Int) then
 some true
 else
 aC (I64 (p1 - (1:Int))) <|
 if p0.rel=(p1 - (1:Int)) then
 if (0:Int) < p0.timer then
 some (decide (p0.timer < (4:Int)))
 else
 some false
 else
 some false) λx10=>
 some x10
 else
 if p0.state=(4:Int) then
 some ((decide ((0:Int)<=p0.rel))&&((decide (p0.rel < p1))&&((decide ((0:Int)<=p0.timer))&&(decide (p0.timer < (12:Int))))))
 else
 some false
def qA (p0:Al) (p1:Az):Option Bool:=
 aB (
 aB (mW p0) λr3=>
 if r3=(0:Int) then
 if (p1.Ab.length:Int)=(p0.Ab.length:Int) then
 some (!(decide ((p1.lies.length:Int)=(p0.Ad.length:Int))))
 else
 some true
 else
 some true) λx1=>
 if x1=true then
 some false
 else
 bR (
 aZ (λx9=>
 if x9 < (p1.Ab.length:Int) then
 aU p1.Ab x9 λe12=>
 aU p0.Ab x9 λe13=>
 aB (hP e12 (e13.Ac.length:Int)) λr14=>
 if (!(r14))=true then
 aP (
 aP (
 some false))
 else
 aC (I64 (x9+(1:Int))) <|
 some (.inl (x9+(1:Int)))
 else
 aP (
 some (.inl ()))) (0:Int)) λ_=>
 bR (
 aZ (λx22=>
 if x22 < (p1.lies.length:Int) then
 aU p1.lies x22 λe25=>
 if ((!(decide (e25=(1:Int))))&&(!(decide (e25=(2:Int)))))=true then
 aP (
 aP (
 some false))
 else
 aC (I64 (x22+(1:Int))) <|
 some (.inl (x22+(1:Int)))
 else
 aP (
 some (.inl ()))) (0:Int)) λ_=>
 some true
def pY (p0:Ai) (p1:Ak):Option ((List Int)):=
 if p1.state=(0:Int) then
 some ([]:List Int)
 else
 aC (0<=p1.rel/\p1.rel<=(p0.Ac.length:Int)/\(p0.Ac.length:Int)<=(p0.Ac.length:Int)) <|
 aB (dB (sub p0.Ac p1.rel (p0.Ac.length:Int))) λr3=>
 some r3
def pZ (p0:Ai) (p1:Ak):Option ((List Int)):=
 if p1.state=(0:Int) then
 some ([]:List Int)
 else
 aB (dB p0.Ao) λr2=>
 some r2
def lP (p0:Ai) (p1:Ak):Option ((List Ap)):=
 aB (
 aB (pY p0 p1) λr3=>
 aZ (λ(x7,b8)=>
 if x7 < (r3.length:Int) then
 aU r3 x7 λe11=>
 aC ((b8++([(⟨e11,(0:Int)⟩:Ap)]:List Ap)).length<=1000000000) <|
 aC (I64 (x7+(1:Int))) <|
 some (.inl ((x7+(1:Int)),(b8++([(⟨e11,(0:Int)⟩:Ap)]:List Ap))))
 else
 aP (
 some b8)) ((0:Int),([]:List Ap))) λb1=>
 aB (
 aB (pZ p0 p1) λr17=>
 aZ (λ(x21,b22)=>
 if x21 < (r17.length:Int) then
 aU r17 x21 λe25=>
 aC ((b22++([(⟨e25,(1:Int)⟩:Ap)]:List Ap)).length<=1000000000) <|
 aC (I64 (x21+(1:Int))) <|
 some (.inl ((x21+(1:Int)),(b22++([(⟨e25,(1:Int)⟩:Ap)]:List Ap))))
 else
 aP (
 some b22)) ((0:Int),b1)) λb15=>
 some b15
def gL (p0:Ai) (p1:Ai):Option Bool:=
 some ((decide ((0:Int)<=p0.exit))&&(decide (p1.entry=p0.exit)))
def oS (p0:(List Ap)) (p1:Int) (p2:Int):Option Bool:=
 bR (
 aZ (λx3=>
 if x3 < (p0.length:Int) then
 aU p0 x3 λe6=>
 aC (Ap.ok e6/\Ap.ok (⟨p1,p2⟩:Ap)) <|
 if e6=(⟨p1,p2⟩:Ap) then
 aP (
 aP (
 some true))
 else
 aC (I64 (x3+(1:Int))) <|
 some (.inl (x3+(1:Int)))
 else
 aP (
 some (.inl ()))) (0:Int)) λ_=>
 some false
def kV (p0:Ai) (p1:Ai) (p2:(List Ap)) (p3:(List Ap)):Option Bool:=
 aB (gL p0 p1) λr1=>
 aB (gL p1 p0) λr2=>
 bR (
 aZ (λx5=>
 if x5 < (p2.length:Int) then
 aU p2 x5 λe8=>
 aB (
 aB (oS p3 e8.a0 (0:Int)) λr11=>
 if r11=true then
 if e8.a1=(0:Int) then
 some true
 else
 some (!(r1))
 else
 some false) λx9=>
 if x9=true then
 aP (
 aP (
 some true))
 else
 aB (
 aB (oS p3 e8.a0 (1:Int)) λr19=>
 if r19=true then
 if (!(r2))=true then
 if e8.a1=(0:Int) then
 some true
 else
 some (!(r1))
 else
 some false
 else
 some false) λx17=>
 if x17=true then
 aP (
 aP (
 some true))
 else
 aC (I64 (x5+(1:Int))) <|
 some (.inl (x5+(1:Int)))
 else
 aP (
 some (.inl ()))) (0:Int)) λ_=>
 some false
def eR (p0:(List Int)) (p1:Int):Option Bool:=
 aB (eY p0 p1) λr1=>
 some (decide ((0:Int)<=r1))
def sK (p0:(List Int)) (p1:Int):Option Bool:=
 aB (eR p0 p1) λr1=>
 some r1
def fI (p0:List (List Aa)):Option (List Aa):=
 aC (p0.length<=1000/\p0.flatten.length<=1000000000) <|
 some p0.flatten
def jZ (p0:Int):Option Bool:=
 some (!(decide (p0=p0)))
def fP (p0:Int) (p1:Int):Option Int:=
 aB (jZ p0) λr1=>
 aB (jZ p1) λr2=>
 if r1=true then
 if r2=true then
 some (0:Int)
 else
 some (-1:Int)
 else
 if r2=true then
 some (1:Int)
 else
 if p0 < p1 then
 some (-1:Int)
 else
 if p1 < p0 then
 some (1:Int)
 else
 some (0:Int)
def qF (p0:(List Int)):Option Int:=
 bR (
 aZ (λx3=>
 if x3 < (p0.length:Int) then
 aU p0 x3 λe6=>
 if e6=(0:Int) then
 aC (I64 (x3+(1:Int))) <|
 some (.inl (x3+(1:Int)))
 else
 aP (
 aP (
 some e6))
 else
 aP (
 some (.inl ()))) (0:Int)) λ_=>
 some (0:Int)
def cD (p0:Aa) (p1:Aa):Option Int:=
 aB (fP p0.el p1.el) λr1=>
 aB (fP p0.pos p1.pos) λr2=>
 aB (qF ([r1,r2]:List Int)) λr3=>
 some r3
def iJ (p0:Ai):Option ((List Aa)):=
 aB (fI ([p0.Ad,p0.Aj,p0.At]:List (List Aa))) λr1=>
 aC (r1.length<=1000000000) <|
 aB (
 aZ (λ(x8,b9)=>
 if x8 < ((pC cD r1).length:Int) then
 aU (pC cD r1) x8 λe12=>
 aB (
 if x8=(0:Int) then
 some true
 else
 aC (I64 (x8 - (1:Int))) <|
 aU (pC cD r1) (x8 - (1:Int)) λe17=>
 aC (Aa.ok e12/\Aa.ok e17) <|
 some (!(decide (e12=e17)))) λx13=>
 if x13=true then
 aC ((b9++([e12]:List Aa)).length<=1000000000) <|
 aC (I64 (x8+(1:Int))) <|
 some (.inl ((x8+(1:Int)),(b9++([e12]:List Aa))))
 else
 aC (I64 (x8+(1:Int))) <|
 some (.inl ((x8+(1:Int)),b9))
 else
 aP (
 some b9)) ((0:Int),([]:List Aa))) λb3=>
 some b3
def nM (p0:Al) (p1:Ai) (p2:Ak):Option ((List Aa)):=
 if p2.state=(0:Int) then
 some ([]:List Aa)
 else
 aB (
 aZ (λ(x7,b8)=>
 if x7 < (p1.Ad.length:Int) then
 aU p1.Ad x7 λe11=>
 aC (0<=(0:Int)/\(0:Int)<=p2.rel/\p2.rel<=(p1.Ac.length:Int)) <|
 aB (fR p0 e11.el) λr13=>
 aU p0.A1 r13 λe14=>
 aB (sK (sub p1.Ac (0:Int) p2.rel) e14) λr15=>
 if (!(r15))=true then
 aC ((b8++([e11]:List Aa)).length<=1000000000) <|
 aC (I64 (x7+(1:Int))) <|
 some (.inl ((x7+(1:Int)),(b8++([e11]:List Aa))))
 else
 aC (I64 (x7+(1:Int))) <|
 some (.inl ((x7+(1:Int)),b8))
 else
 aP (
 some b8)) ((0:Int),([]:List Aa))) λb2=>
 aB (iJ (⟨(⟨#[]⟩:BA),(0:Int),(0:Int),([]:List Am),b2,([]:List Int),(0:Int),(0:Int),([]:List Am),p1.Aj,([]:List Int),p1.At,([]:List Int),([]:List End)⟩:Ai)) λr21=>
 some r21
def nN (p0:Al) (p1:Az):Option Bool:=
 aB (qA p0 p1) λr1=>
 if (!(r1))=true then
 some false
 else
 aB (
 aZ (λ(x8,b9)=>
 if x8 < (p0.Ab.length:Int) then
 aU p0.Ab x8 λe12=>
 aU p1.Ab x8 λe13=>
 aB (lP e12 e13) λr14=>
 aC ((b9++([r14]:List (List Ap))).length<=1000000000) <|
 aC (I64 (x8+(1:Int))) <|
 some (.inl ((x8+(1:Int)),(b9++([r14]:List (List Ap)))))
 else
 aP (
 some b9)) ((0:Int),([]:List (List Ap)))) λb3=>
 bR (
 aZ (λx20=>
 if x20 < (p0.Ab.length:Int) then
 bR (
 aZ (λx25=>
 if x25 < x20 then
 aU p0.Ab x20 λe28=>
 aU p0.Ab x25 λe29=>
 aU b3 x20 λe30=>
 aU b3 x25 λe31=>
 aB (kV e28 e29 e30 e31) λr32=>
 if r32=true then
 aP (
 aP (
 aP (
 aP (
 some false))))
 else
 aC (I64 (x25+(1:Int))) <|
 some (.inl (x25+(1:Int)))
 else
 aP (
 some (.inl ()))) (0:Int)) λ_=>
 aC (I64 (x20+(1:Int))) <|
 some (.inl (x20+(1:Int)))
 else
 aP (
 some (.inl ()))) (0:Int)) λ_=>
 bR (
 aZ (λx44=>
 if x44 < (p0.Ab.length:Int) then
 bR (
 aU p0.Ab x44 λe48=>
 aU p1.Ab x44 λe49=>
 aB (nM p0 e48 e49) λr50=>
 aZ (λx52=>
 if x52 < (r50.length:Int) then
 aU r50 x52 λe55=>
 aB (fR p0 e55.el) λr56=>
 aU p1.lies r56 λe57=>
 if e57=e55.pos then
 aC (I64 (x52+(1:Int))) <|
 some (.inl (x52+(1:Int)))
 else
 aP (
 aP (
 aP (
 aP (
 some false))))
 else
 aP (
 some (.inl ()))) (0:Int)) λ_=>
 aC (I64 (x44+(1:Int))) <|
 some (.inl (x44+(1:Int)))
 else
 aP (
 some (.inl ()))) (0:Int)) λ_=>
 some true
def iA (p0:Al) (p1:(List As)) (p2:Int):Option ((List Int)):=
 if ((decide (p2 < (0:Int)))||(decide ((32:Int) < p2)))=true then
 some ([]:List Int)
 else
 aC (0<=p2/\p2<=1000000000) <|
 aB (
 aZ (λ(x9,b10)=>
 if x9 < ((List.replicate p2.toNat (0:Int)).length:Int) then
 aB (fR p0 x9) λr13=>
 if ((decide ((0:Int)<=r13))&&(decide (r13 < (p1.length:Int))))=true then
 aU p1 r13 λe16=>
 aU b10 x9 λe17=>
 aC (I64 (x9+(1:Int))) <|
 some (.inl ((x9+(1:Int)),(b10.set x9.toNat e16.pos)))
 else
 aC (I64 (x9+(1:Int))) <|
 some (.inl ((x9+(1:Int)),b10))
 else
 aP (
 some b10)) ((0:Int),(List.replicate p2.toNat (0:Int)))) λb4=>
 some b4
def passages:List Br:=[⟨1,0,1,0⟩,⟨1,1,0,0⟩,⟨2,0,1,1⟩,⟨2,0,2,2⟩,⟨2,1,0,1⟩,⟨2,2,0,2⟩,⟨3,0,1,0⟩,⟨3,1,0,0⟩,⟨3,2,3,0⟩,⟨3,3,2,0⟩]
def oP (p0:Int) (p1:Int) (p2:Int):Option (Int×Bool):=
 bR (
 aZ (λx3=>
 if x3 < (10:Int) then
 aU passages x3 λe6=>
 if ((decide (e6.kind=p0))&&((decide (e6.inV=p1))&&(decide (e6.out=p2))))=true then
 aP (
 aP (
 some (e6.need,true)))
 else
 aC (I64 (x3+(1:Int))) <|
 some (.inl (x3+(1:Int)))
 else
 aP (
 some (.inl ()))) (0:Int)) λ_=>
 some ((0:Int),false)
def jP (p0:An):Option ((List Af)):=
 aB (iA p0.Ar p0.machines (p0.layout.Ae.length:Int)) λr1=>
 aB (
 aZ (λ(x7,b8)=>
 if x7 < (p0.units.length:Int) then
 aB (
 aU p0.units x7 λe13=>
 aZ (λ(x17,b18)=>
 if x17 < (e13.body.steps.length:Int) then
 aU e13.body.steps x17 λe21=>
 if ((decide (e21.el < (0:Int)))||((decide ((p0.layout.Ae.length:Int)<=e21.el))||(decide ((r1.length:Int)<=e21.el))))=true then
 aC (I64 (x17+(1:Int))) <|
 some (.inl ((x17+(1:Int)),b18))
 else
 aU p0.layout.Ae e21.el λe26=>
 aB (oP e26.kind e21.inV e21.out) λ(r28,r29)=>
 aB (
 if r29=true then
 if r28=(0:Int) then
 some false
 else
 aU r1 e21.el λe34=>
 some (!(decide (r28=e34)))
 else
 some false) λx30=>
 if x30=true then
 aC ((b18++([(⟨(4:Int),e13.cab.train.id,e21.el⟩:Af)]:List Af)).length<=1000000000) <|
 aC (I64 (x17+(1:Int))) <|
 some (.inl ((x17+(1:Int)),(b18++([(⟨(4:Int),e13.cab.train.id,e21.el⟩:Af)]:List Af))))
 else
 aC (I64 (x17+(1:Int))) <|
 some (.inl ((x17+(1:Int)),b18))
 else
 aP (
 some b18)) ((0:Int),b8)) λb11=>
 aC (I64 (x7+(1:Int))) <|
 some (.inl ((x7+(1:Int)),b11))
 else
 aP (
 some b8)) ((0:Int),([]:List Af))) λb2=>
 some b2
def gB (p0:An):Option ((List Af)):=
 aB (
 aZ (λ(x6,b7)=>
 if x6 < (p0.Ar.Ab.length:Int) then
 aU p0.Ar.Ab x6 λe10=>
 aB (
 if x6 < (p0.inter.Ab.length:Int) then
 aU p0.inter.Ab x6 λe14=>
 some (decide (e14.state=(2:Int)))
 else
 some false) λx11=>
 if x11=true then
 aC (b7.map (·.1)).Nodup <|
 aC (I64 (x6+(1:Int))) <|
 some (.inl ((x6+(1:Int)),(tJ b7 e10.entry true)))
 else
 aC (I64 (x6+(1:Int))) <|
 some (.inl ((x6+(1:Int)),b7))
 else
 aP (
 some b7)) ((0:Int),([]:List (Int×Bool)))) λm1=>
 aB (
 aZ (λ(x25,b26)=>
 if x25 < (p0.clear.length:Int) then
 aU p0.clear x25 λe29=>
 aB (
 if e29=true then
 aC (m1.map (·.1)).Nodup <|
 some (!(((cM m1 x25).getD false)))
 else
 some false) λx30=>
 if x30=true then
 aC ((b26++([(⟨(5:Int),x25,(0:Int)⟩:Af)]:List Af)).length<=1000000000) <|
 aC (I64 (x25+(1:Int))) <|
 some (.inl ((x25+(1:Int)),(b26++([(⟨(5:Int),x25,(0:Int)⟩:Af)]:List Af))))
 else
 aC (I64 (x25+(1:Int))) <|
 some (.inl ((x25+(1:Int)),b26))
 else
 aP (
 some b26)) ((0:Int),([]:List Af))) λb20=>
 some b20
def gC (p0:An):Option ((List Af)):=
 aB (
 aZ (λ(x6,b7)=>
 if x6 < (p0.center.tracks.length:Int) then
 aB (
 aU p0.center.tracks x6 λe12=>
 aZ (λ(x16,b17)=>
 if x16 < (e12.Ab.length:Int) then
 aU e12.Ab x16 λe20=>
 aC (b17.map (·.1)).Nodup <|
 aC (I64 (((cM b17 e20).getD (0:Int))+(1:Int))) <|
 aC (b17.map (·.1)).Nodup <|
 aC (I64 (x16+(1:Int))) <|
 some (.inl ((x16+(1:Int)),(tJ b17 e20 (((cM b17 e20).getD (0:Int))+(1:Int)))))
 else
 aP (
 some b17)) ((0:Int),b7)) λm10=>
 aC (I64 (x6+(1:Int))) <|
 some (.inl ((x6+(1:Int)),m10))
 else
 aP (
 some b7)) ((0:Int),([]:List (Int×Int)))) λm1=>
 aB (
 aZ (λ(x33,b34)=>
 if x33 < (p0.Ar.Ab.length:Int) then
 aB (
 if x33 < (p0.inter.Ab.length:Int) then
 aU p0.inter.Ab x33 λe40=>
 some (decide (e40.state=(0:Int)))
 else
 some false) λidle37=>
 aB (
 aC (m1.map (·.1)).Nodup <|
 if (1:Int) < ((cM m1 x33).getD (0:Int)) then
 some true
 else
 aC (m1.map (·.1)).Nodup <|
 if ((cM m1 x33).getD (0:Int))=(1:Int) then
 some idle37
 else
 some false) λx41=>
 if x41=true then
 aC ((b34++([(⟨(6:Int),x33,(0:Int)⟩:Af)]:List Af)).length<=1000000000) <|
 aC (I64 (x33+(1:Int))) <|
 some (.inl ((x33+(1:Int)),(b34++([(⟨(6:Int),x33,(0:Int)⟩:Af)]:List Af))))
 else
 aC (I64 (x33+(1:Int))) <|
 some (.inl ((x33+(1:Int)),b34))
 else
 aP (
 some b34)) ((0:Int),([]:List Af))) λb28=>
 some b28
def fT (p0:An):Option ((List Af)):=
 aB (dG p0) λr1=>
 aB (
 aZ (λ(x7,b8)=>
 if x7 < (p0.units.length:Int) then
 aU p0.units x7 λe11=>
 aB (
 aB (gK e11.cab.mode) λr14=>
 if r14=true then
 some (decide (e11.cab.auth.endV < e11.xV))
 else
 some false) λx12=>
 if x12=true then
 aC ((b8++([(⟨(2:Int),e11.cab.train.id,(0:Int)⟩:Af)]:List Af)).length<=1000000000) <|
 aC (I64 (x7+(1:Int))) <|
 some (.inl ((x7+(1:Int)),(b8++([(⟨(2:Int),e11.cab.train.id,(0:Int)⟩:Af)]:List Af))))
 else
 aC (I64 (x7+(1:Int))) <|
 some (.inl ((x7+(1:Int)),b8))
 else
 aP (
 some b8)) ((0:Int),r1)) λb2=>
 aB (
 aB (nN p0.Ar p0.inter) λr23=>
 if (!(r23))=true then
 aC ((b2++([(⟨(3:Int),(0:Int),(0:Int)⟩:Af)]:List Af)).length<=1000000000) <|
 some (b2++([(⟨(3:Int),(0:Int),(0:Int)⟩:Af)]:List Af))
 else
 some b2) λb21=>
 aB (jP p0) λr26=>
 aC ((b21++r26).length<=1000000000) <|
 aB (gB p0) λr28=>
 aC (((b21++r26)++r28).length<=1000000000) <|
 aB (gC p0) λr30=>
 aC ((((b21++r26)++r28)++r30).length<=1000000000) <|
 some (((b21++r26)++r28)++r30)
def iK (p0:An):Option Bool:=
 aB (fT p0) λr1=>
 some (decide ((r1.length:Int)=(0:Int)))
def eN (p0:An):Option Bool:=
 aB (dG p0) λr1=>
 some (decide ((r1.length:Int)=(0:Int)))
def nP:Option Bool:=
 aB (uY) λ(r2,r3)=>
 aB (tM) λr4=>
 aB (vZ r4 ([r2]:List Bd) ([r3]:List Bc) []) λ(r6,r7)=>
 aB (
 if r7=(0:Int) then
 aB (fT r6) λr11=>
 if (r11.length:Int)=(0:Int) then
 aB (iK r6) λr13=>
 if (!(r13))=true then
 some true
 else
 aB (eN r6) λr15=>
 some (!(r15))
 else
 some true
 else
 some true) λx8=>
 if x8=true then
 none
 else
 aB (fT (⟨r6.layout,r6.Ar,r6.inter,r6.machines,([false,true]:List Bool),r6.units,r6.center,r6.air,r6.faults,r6.pending,r6.possessions,r6.restrictions,r6.orders,r6.trips,r6.plan,r6.progress,r6.decisions,r6.now⟩:An)) λr17=>
 aB (tM) λr18=>
 aB (vZ r18 ([r2,(⟨(4:Int),r2.name,r2.length,r2.speed,r2.accel,r2.service,r2.emergency,r2.delay,r2.const,r2.rate⟩:Bd)]:List Bd) ([r3,(⟨([(⟨(1:Int),(0:Int),(1:Int)⟩:Am)]:List Am),(6000:Int),(5000:Int)⟩:Bc)]:List Bc) []) λ(r20,r21)=>
 if ((!(decide (r21=(0:Int))))||(!(decide ((r20.units.length:Int)=(2:Int)))))=true then
 none
 else
 aU r20.units (1:Int) λe24=>
 aB (fT (⟨r20.layout,r20.Ar,r20.inter,r20.machines,r20.clear,(r20.units.set (1:Int).toNat (⟨r3,e24.speed,e24.xV,e24.braking,e24.cab⟩:Av)),r20.center,r20.air,r20.faults,r20.pending,r20.possessions,r20.restrictions,r20.orders,r20.trips,r20.plan,r20.progress,r20.decisions,r20.now⟩:An)) λr25=>
 aB (
 if (r17.length:Int)=(1:Int) then
 aU r17 (0:Int) λe29=>
 aC (Af.ok e29/\Af.ok (⟨(5:Int),(1:Int),(0:Int)⟩:Af)) <|
 if e29=(⟨(5:Int),(1:Int),(0:Int)⟩:Af) then
 if (r25.length:Int)=(1:Int) then
 aU r25 (0:Int) λe34=>
 aC (Af.ok e34/\Af.ok (⟨(1:Int),(3:Int),(4:Int)⟩:Af)) <|
 if e34=(⟨(1:Int),(3:Int),(4:Int)⟩:Af) then
 aB (iK (⟨r20.layout,r20.Ar,r20.inter,r20.machines,r20.clear,(r20.units.set (1:Int).toNat (⟨r3,e24.speed,e24.xV,e24.braking,e24.cab⟩:Av)),r20.center,r20.air,r20.faults,r20.pending,r20.possessions,r20.restrictions,r20.orders,r20.trips,r20.plan,r20.progress,r20.decisions,r20.now⟩:An)) λr38=>
 if (!(r38))=true then
 aB (eN (⟨r20.layout,r20.Ar,r20.inter,r20.machines,r20.clear,(r20.units.set (1:Int).toNat (⟨r3,e24.speed,e24.xV,e24.braking,e24.cab⟩:Av)),r20.center,r20.air,r20.faults,r20.pending,r20.possessions,r20.restrictions,r20.orders,r20.trips,r20.plan,r20.progress,r20.decisions,r20.now⟩:An)) λr40=>
 some (!(r40))
 else
 some false
 else
 some false
 else
 some false
 else
 some false
 else
 some false) λx26=>
 some x26
def mI (p0:An):Option Bool:=
 bR (
 aZ (λx3=>
 if x3 < (p0.units.length:Int) then
 bR (
 aU p0.units x3 λe7=>
 if ((decide (e7.cab.mode=(2:Int)))&&(decide (e7.cab.auth.endV < e7.xV)))=true then
 aP (
 aP (
 aP (
 some false)))
 else
 aZ (λk14=>
 if k14 < x3 then
 aB (dL p0.layout e7.body) λr17=>
 aU p0.units k14 λe18=>
 aB (dL p0.layout e18.body) λr19=>
 aB (gW r17 r19) λr20=>
 if (0:Int) < (r20.length:Int) then
 aP (
 aP (
 aP (
 aP (
 some false))))
 else
 aC (I64 (k14+(1:Int))) <|
 some (.inl (k14+(1:Int)))
 else
 aP (
 some (.inl ()))) (0:Int)) λ_=>
 aC (I64 (x3+(1:Int))) <|
 some (.inl (x3+(1:Int)))
 else
 aP (
 some (.inl ()))) (0:Int)) λ_=>
 aB (kP p0.Ar p0.inter) λr30=>
 some r30
def iH (p0:An):Option Bool:=
 aB (
 aB (sH p0) λr3=>
 if (!(r3))=true then
 some true
 else
 aB (mY p0) λr5=>
 if r5=(0:Int) then
 aB (iK p0) λr7=>
 some (!(r7))
 else
 some true) λx1=>
 if x1=true then
 aB (nP) λr9=>
 some r9
 else
 aB (
 aB (mI p0) λr12=>
 if r12=true then
 aB (eN p0) λr14=>
 if r14=true then
 aB (nP) λr16=>
 some r16
 else
 some false
 else
 some false) λx10=>
 some x10
@[simp] theorem aA {α:Type} {p:Prop} [Decidable p] {k:Option α} (h:p):aC p k=k:=if_pos h
@[simp] theorem aF {α β:Type} (a:α) (k:α->Option β):aB (some a) k=k a:=rfl
@[simp] theorem oU {α β:Type} (a:α) (k:α->Option β):bR (some (.inl a)) k=k a:=rfl
@[simp] theorem qWU {α β:Type} (b:β) (k:α->Option β):bR (some (.inr b)) k=some b:=rfl
@[simp] theorem dJ {α β:Type} (b:β):(aP (some b):Option (α ⊕ β))=some (.inr b):=rfl
theorem aJ {α β:Type} {l:List α} {i:Nat} {e:α} {k:α->Option β} (h:l[i]?=some e):aU l (i:Int) k=k e:=by simp [aU,h]
theorem hZ {α β:Type} {l:List α} {i:Int} {e:α} {k:α->Option β} (h0:0<=i) (h:l[i.toNat]?=some e):aU l i k=k e:=by simp [aU,h0,h]
@[simp] theorem ite_bindM {α β:Type} {p:Prop} [Decidable p] (a b:α) (k:α->Option β):aB (if p then some a else some b) k=k (if p then a else b):=by split<;>rfl
theorem fA {α β:Type} {p:Prop} [Decidable p] (a b:Option α) (k:α->Option β):aB (if p then a else b) k=if p then aB a k else aB b k:=by split<;>rfl
theorem zD {α:Type} {p:Prop} [Decidable p] (a b:α):(if p then some a else some b)=some (if p then a else b):=by split<;>rfl
theorem zX {p:Prop} [Decidable p] {a b:Bool}:((if p then a else b)=true)=((p/\a=true)\/(¬ p/\b=true)):=by split<;>simp_all
theorem lA {α:Type} (l:List α) (i:Nat):sub l (i:Int) (l.length:Int)=l.drop i:=by simp [sub,<- List.length_drop]
theorem qMI {α:Type} (l:List α) (i:Nat):sub l 0 (i:Int)=l.take i:=by simp [sub]
variable {σ ρ:Type}
theorem qOR {f:σ->Option (σ ⊕ ρ)} (B:Nat->σ) {o:ρ}:∀ (n k:Nat),(∀ i,k<=i->i < k+n->f (B i)=some (.inl (B (i+1))))->f (B (k+n))=some (.inr o)->lV f (n+1) (B k)=some o
 | 0,k,_,he=>by simp only [Nat.add_zero] at he;simp [lV,he]
 | n+1,k,hf,he=>by
  simp only [lV];rw [hf k (zQW _) (by omega)];exact qOR B n (k+1) (λi h1 h2=>hf i (by omega) (by omega)) (by rw [show k+1+n=k+(n+1) by omega];exact he)
theorem oG {f:σ->Option (σ ⊕ ρ)} (B:Nat->σ) (n:Nat) {o:ρ} {s:σ} (hs:s=B 0) (hn:n<=9223372036854775807) (hf:∀ i,i < n->f (B i)=some (.inl (B (i+1)))) (he:f (B n)=some (.inr o)):aZ f s=some o:=by
 subst hs;exact uX (qOR B n 0 (λi _ h=>hf i (by omega)) (by rw [Nat.zero_add];exact he)) (by unfold lG;omega)
theorem qOF {f : Int -> Option (Int ⊕ ρ)} (n : Nat) (c : Nat -> Option ρ) (o : ρ) (hn : n <= 9223372036854775807) (hf : ∀ i, i < n -> f (i : Int) = match c i with
  | some r => some (.inr r)
  | none => some (.inl ((i : Int) + 1))) (he : f (n : Int) = some (.inr o)) : aZ f 0 = some (((List.range n).findSome? c).getD o) := by
 cases h:(List.range n).findSome? c with
 | none=>
  rw [List.findSome?_eq_none_iff] at h;refine oG (λi=>(i:Int)) n rfl hn (λi hi=>?_) he;rw [hf i hi,h i (List.mem_range.2 hi)];rfl
 | some r=>
  rw [List.findSome?_eq_some_iff] at h;obtain⟨l1,a,l2,h1,h2,h3⟩:=h
  have ha:l1.length=a/\a < n:=by
   have hlen:l1.length < (List.range n).length:=by rw [h1];simp
   have:(List.range n)[l1.length]?=some a:=by rw [h1];simp
   simp only [List.length_range] at hlen;simp [hlen] at this;exact⟨this,by omega⟩
  obtain⟨ha1,ha2⟩:=ha;refine oG (λi=>(i:Int)) a rfl (by omega) (λi hi=>?_) ?_
  ·have hm:i∈l1:=by
    have:(List.range n)[i]?=some i:=List.getElem?_range (by omega);rw [h1,List.getElem?_append_left (by omega)] at this;exact zQM this
   rw [hf i (by omega),h3 i hm];rfl
  rw [hf a ha2,h2];rfl
theorem qFN {α β:Type} (l:List α) (c:Nat->Option β) (d:α->Option β) (h:∀ (i:Nat) (e:α),l[i]?=some e->c i=d e):(List.range l.length).findSome? c=l.findSome? d:=by
 induction l generalizing c with
 | nil=>rfl
 | cons x r ih=>
  rw [List.length_cons,List.range_succ_eq_map,List.findSome?_cons,List.findSome?_map,List.findSome?_cons,h 0 x rfl]
  cases d x with
  | some b=>rfl
  | none=>exact ih (c ∘ Nat.succ) λi e he=>h (i+1) e (by simpa using he)
theorem qIV {α : Type} {f : Int -> Option (Int ⊕ ρ)} (l : List α) (d : α -> Option ρ) (o : ρ) (hn : l.length <= 9223372036854775807) (hf : ∀ (i : Nat) (e : α), l[i]? = some e -> f (i : Int) = match d e with
  | some r => some (.inr r)
  | none => some (.inl ((i : Int) + 1))) (he : f (l.length : Int) = some (.inr o)) : aZ f 0 = some ((l.findSome? d).getD o) := by
 rw [qOF l.length (λi=>(l[i]?).bind d) o hn (λi hi=>?_) he,qFN l _ d (λi e he=>by simp [he])];rw [hf i l[i] (by simp),zQR hi];rfl
theorem zN {α β:Type} (l:List α) (c:α->Bool) (v:β):l.findSome? (λe=>if c e=true then some v else none)=if l.any c=true then some v else none:=by
 induction l with
 | nil=>rfl
 | cons x r ih=>
  rw [List.findSome?_cons,List.any_cons,ih];cases c x<;>simp
theorem fE {α:Type} {f:Int->Option (Int ⊕ ρ)} (l:List α) (c:α->Bool) (v o:ρ) (hn:l.length<=9223372036854775807) (hf:∀ (i:Nat) (e:α),l[i]?=some e->f (i:Int)=if c e=true then some (.inr v) else some (.inl ((i:Int)+1))) (he:f (l.length:Int)=some (.inr o)):aZ f 0=some (if l.any c=true then v else o):=by
 rw [qIV l (λe=>if c e=true then some v else none) o hn (λi e h=>by rw [hf i e h];cases c e<;>simp) he,zN];split<;>rfl
theorem eZ {f:Int->Option (Int ⊕ ρ)} (n:Nat) (c:Nat->Bool) (v o:ρ) (hn:n<=9223372036854775807) (hf:∀ i,i < n->f (i:Int)=if c i=true then some (.inr v) else some (.inl ((i:Int)+1))) (he:f (n:Int)=some (.inr o)):aZ f 0=some (if (List.range n).any c=true then v else o):=by
 rw [qOF n (λe=>if c e=true then some v else none) o hn (λi h=>by rw [hf i h];cases c i<;>simp) he,zN];split<;>rfl
theorem qBK {α:Type} {f:Int->Option (Int ⊕ ρ)} (l:List α) (c:α->Bool) (w:Nat->ρ) (o:ρ) (hn:l.length<=9223372036854775807) (hf:∀ (i:Nat) (e:α),l[i]?=some e->f (i:Int)=if c e=true then some (.inr (w i)) else some (.inl ((i:Int)+1))) (he:f (l.length:Int)=some (.inr o)):aZ f 0=some (match l.findIdx? c with|some i=>w i|none=>o):=by
 cases h:l.findIdx? c with
 | none=>
  rw [List.findIdx?_eq_none_iff] at h;refine oG (λi=>(i:Int)) l.length rfl hn (λi hi=>?_) he;rw [hf i l[i] (by simp),if_neg (by rw [h l[i] (by simp)];simp)];rfl
 | some k=>
  rw [List.findIdx?_eq_some_iff_getElem] at h;obtain⟨hk,h1,h2⟩:=h;refine oG (λi=>(i:Int)) k rfl (by omega) (λi hi=>?_) ?_
  ·have hl : i < l.length := by omega
   have:=h2 i hi;rw [hf i l[i] (by simp),if_neg (by simpa using this)];rfl
  rw [hf k l[k] (by simp),if_pos h1]
theorem jB {β:Type} {f:Int×β->Option ((Int×β) ⊕ ρ)} (n:Nat) (B:Nat->β) {o:ρ} {b:β} (hb:b=B 0) (hn:n<=9223372036854775807) (hf:∀ i,i < n->f ((i:Int),B i)=some (.inl ((i:Int)+1,B (i+1)))) (he:f ((n:Int),B n)=some (.inr o)):aZ f (0,b)=some o:=
 oG (λi=>((i:Int),B i)) n (by rw [hb];rfl) hn (λi hi=>by rw [hf i hi];rfl) he
theorem qIW {β:Type} {f:Int×β->Option ((Int×β) ⊕ ρ)} (n:Nat) (B:Nat->β) (c:Nat->Bool) (v o:ρ) {b:β} (hb:b=B 0) (hn:n<=9223372036854775807) (hf:∀ i,i < n->(∀ j,j < i->c j=false)->f ((i:Int),B i)=if c i=true then some (.inr v) else some (.inl ((i:Int)+1,B (i+1)))) (he:(∀ j,j < n->c j=false)->f ((n:Int),B n)=some (.inr o)):aZ f (0,b)=some (if (List.range n).any c=true then v else o):=by
 cases h:(List.range n).findIdx? c with
 | none=>
  rw [List.findIdx?_eq_none_iff] at h;have hall:∀ j,j < n->c j=false:=λj hj=>by simpa using h j (List.mem_range.2 hj)
  have hno:¬ (List.range n).any c=true:=by
   rw [zQU];rintro⟨j,hj,hc⟩;rw [hall j (List.mem_range.1 hj)] at hc;cases hc
  rw [if_neg hno];exact jB n B hb hn (λi hi=>by rw [hf i hi (λj hj=>hall j (by omega)),hall i hi];rfl) (he hall)
 | some k=>
  rw [List.findIdx?_eq_some_iff_getElem] at h;obtain⟨hk,h1,h2⟩:=h;simp only [List.length_range] at hk;simp only [List.getElem_range] at h1;have hb':∀ j,j < k->c j=false:=λj hj=>by have:=h2 j hj;simpa using this
  have hyes:(List.range n).any c=true:=zQU.2 ⟨k,List.mem_range.2 hk,h1⟩;rw [if_pos hyes];exact jB k B hb (by omega) (λi hi=>by rw [hf i (by omega) (λj hj=>hb' j (by omega)),hb' i hi];rfl) (by rw [hf k hk hb',h1];rfl)
theorem bU {i n:Nat} (h:i < n) (hn:n<=9223372036854775807):I64 ((i:Int)+1):=by unfold I64;omega
def sgn (x y:Int):Int:=if x < y then -1 else if y < x then 1 else 0
theorem qSE (x y:Int):fP x y=some (sgn x y):=by
 simp only [fP,jZ,decide_true,Bool.not_true,aF,Bool.false_eq_true,if_false,sgn];split
 ·rfl
 split<;>rfl
theorem or_eq (x y:Int):qF [x,y]=some (if x=0 then y else x):=by
 unfold qF;by_cases hx:x=0
 ·by_cases hy:y=0
  ·rw [uX (n := 3) (r := (.inl () : Unit ⊕ Int)) (by simp [lV, aU, aC, I64, hx, hy, aP]) (by decide)];simp [bR,hx,hy]
  rw [uX (n := 3) (r := (.inr y : Unit ⊕ Int)) (by simp [lV, aU, aC, I64, hx, hy, aP]) (by decide)];simp [bR,hx]
 rw [uX (n := 3) (r := (.inr x : Unit ⊕ Int)) (by simp [lV, aU, aC, I64, hx, aP]) (by decide)];simp [bR,hx]
theorem pF (x y:Aa):cD x y=some (if sgn x.el y.el=0 then sgn x.pos y.pos else sgn x.el y.el):=by
 simp only [cD,qSE,aF,or_eq]
theorem kZ:SortOk cD:=by
 have hl:∀ x y,ltM cD x y=decide (x.el < y.el\/x.el=y.el/\x.pos < y.pos):=by
  intro x y;simp only [ltM,pF,Option.getD_some,sgn];rw [decide_eq_decide];split<;>split<;>(try split)<;>(try split)<;>omega
 refine⟨λx y=>⟨_,pF x y⟩,λx=>?_,λx y z h1 h2=>?_,λx y z h1 h2=>?_,λx y h1 h2=>?_⟩
 ·rw [hl];simp
 ·rw [hl,decide_eq_true_eq] at *; omega
 ·rw [hl,decide_eq_false_iff_not] at *; omega
 rw [hl,decide_eq_false_iff_not] at *;obtain⟨a,b⟩:=x;obtain⟨c,d⟩:=y;simp only at h1 h2;have h3:a=c:=by omega
 have h4:b=d:=by omega
 rw [h3,h4]
end Go.Proofs.YtofndjhpbonpbaaGreatDoor
