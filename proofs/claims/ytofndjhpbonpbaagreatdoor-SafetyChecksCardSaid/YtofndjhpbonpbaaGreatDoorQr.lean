/- Texts of this proof, joined, without what it does not use. No condition. -/
import Derived.Lib.LaidU8
import Derived.Test.YtofndjhpbonpbaaGreatDoorQq

set_option maxHeartbeats 1000000
set_option maxRecDepth 100000
namespace Go.Proofs.YtofndjhpbonpbaaGreatDoor
open Go Go.TL Go.Lib
theorem ldN : TP.globalNamed "signalling/rail.passages" = some 0 := by kernel_rfl
theorem ldY:(TP.globals[0]?).map (·.type)=some 229:=by kernel_rfl
theorem ldCA:TP.cellsOf 229=40:=by kernel_rfl
theorem ldCS:TP.cellsOf 228=4:=by kernel_rfl
theorem zEC:TP.cellsOf 3=1:=by kernel_rfl
def passZ:List (List Int):=[[1,0,1,0],[1,1,0,0],[2,0,1,1],[2,0,2,2],[2,1,0,1],[2,2,0,2],[3,0,1,0],[3,1,0,0],[3,2,3,0],[3,3,2,0]]
theorem zAI:∀ m:Fin 40,(passZ.getD (m.val / 4) [])[m.val % 4]?=passZ.flatten[m.val]?:=by decide
theorem datum:(Rows.laid_signalling_rail_passages:DataW _root_.Unit)=.agg (passZ.map λr=>.agg (r.map λz=>.lit (.int .i64 z))):=rfl
theorem qXM (W : Go.World) (h : laidMetH TP [("signalling/rail.passages", Rows.laid_signalling_rail_passages)] W) : qYR W (cS fun b => b < W.heap.size) := by
 have h : laidMet TP [("signalling/rail.passages", Rows.laid_signalling_rail_passages)] W := h;obtain⟨g,t,cs,fuel,p,hg,hty,hvar,hd⟩:=laidMet.reads h (List.mem_singleton.2 rfl);obtain rfl:=Option.some.inj (ldN.symm.trans hg);obtain rfl:=Option.some.inj (ldY.symm.trans hty);rw [datum] at hd
 have hlen:cs.toList.length=40:=by
  cases fuel with
  | zero=>simp [DataW.trod] at hd
  | succ fuel=>
   simp only [DataW.trod,Tryz.underlying229] at hd;split at hd
   ·rename_i e;rw [e];exact ldCA
   cases hd
 have hrow:∀ i,i < 10->∀ zs,passZ[i]?=some zs->(cs.toList.drop (i * 4)).take 4=zs.map λz=>Value.int .i64 z:=λi hi zs hz=>by
  obtain⟨fuel',d,q,hdi,he⟩:=array_elem Tryz.underlying229 hd i hi;rw [zQP,hz] at hdi;cases hdi;rw [ldCS] at he
  exact ints_of_struct Tryz.underlying228 (fun j f hj => by
   match j, hj with
   | 0, hj => cases hj; exact ⟨Tryz.underlying3, rfl, zEC⟩
   | 1, hj => cases hj; exact ⟨Tryz.underlying3, rfl, zEC⟩
   | 2, hj => cases hj; exact ⟨Tryz.underlying3, rfl, zEC⟩
   | 3, hj => cases hj; exact ⟨Tryz.underlying3, rfl, zEC⟩
   | j + 4, hj => simp at hj) (by rw [ldCS]; rfl) he
 have hall:cs.toList=passZ.flatten.map λz=>Value.int .i64 z:=by
  apply List.ext_getElem?;intro m;by_cases hm:m < 40
  ·have hi : m / 4 < 10 := by omega
   have hz:passZ[m / 4]?=some (passZ.getD (m / 4) []):=by rw [zQD,zQR (show m / 4 < passZ.length from hi)];rfl
   have h1:=congrArg (·[m % 4]?) (hrow (m / 4) hi _ hz);simp only [List.getElem?_take,if_pos (Nat.mod_lt m (show 0 < 4 by decide)),List.getElem?_drop] at h1;rw [show m / 4 * 4+m % 4=m by omega] at h1;rw [h1];rw [zQP,zQP,zAI ⟨m,hm⟩]
  rw [List.getElem?_eq_none (by omega),List.getElem?_eq_none (by simp only [zQC];show 40<=m;omega)]
 unfold World.var? at hvar;rw [ldN] at hvar;simp only [Option.bind_some] at hvar;split at hvar
 ·rename_i cs' t fz hh;cases hvar;intro x hx;obtain rfl:=List.mem_singleton.1 hx;refine⟨⟨t,fz,?_⟩,λi hp=>by simp [cS] at hp⟩;rw [hh]
  congr 2
  apply Array.toList_inj.1;exact hall
 cases hvar
end Go.Proofs.YtofndjhpbonpbaaGreatDoor
set_option maxHeartbeats 8000000
set_option linter.unusedSimpArgs false
set_option linter.unusedVariables false
set_option maxRecDepth 20000
namespace Go.Proofs.YtofndjhpbonpbaaGreatDoor
open Go Go.TL
theorem HasTy.fld {P:Go.Program} {cs:List D} {fs:Array Field} (h2:∀ (i:Nat) (f:Field),fs[i]?=some f->HasTy P f.type ((cs.drop f.offset).take (P.cellsOf f.type))) {i off n:Nat} {f:Field} {t:TypeId} (hf:fs[i]?=some f) (ht:f.type=t) (ho:f.offset=off) (hc:P.cellsOf t=n):HasTy P t ((cs.drop off).take n):=by
 have:=h2 i f hf;rw [ht,ho,hc] at this;exact this
theorem ty9 (cs:List D) (h:HasTy TP 9 cs):∃ x:BA,(λs=>s.size<=reachBytes) x/\bC TP 9 cs=D.str x:=by
 obtain⟨x,rfl,w⟩:=h.str_inv Tryz.underlying9;exact⟨x,w,by simp [bC,Tryz.underlying9]⟩
theorem sK:TP.cellsOf 9=1:=by kernel_rfl
theorem ty3 (cs:List D) (h:HasTy TP 3 cs):∃ x:Int,I64 x/\bC TP 3 cs=(D.int .i64) x:=by
 obtain⟨x,rfl,w⟩:=h.int_inv Tryz.underlying3;exact⟨x,w,by simp [bC,Tryz.underlying3]⟩
theorem qRB:TP.cellsOf 151=7:=by kernel_rfl
theorem bK:TP.cellsOf 3=1:=by kernel_rfl
theorem zEB {cs:List D} (h:cs.length=7):∃ a0 a1 a2 a3 a4 a5 a6,cs=[a0,a1,a2,a3,a4,a5,a6]:=by
 match cs,h with
 | [a0,a1,a2,a3,a4,a5,a6],_=>exact⟨a0,a1,a2,a3,a4,a5,a6,rfl⟩
theorem ty151c (cs:List D) (h:HasTy TP 151 cs):∃ x:Aw,x.Wf/\cs=[.str x.name,.int .i64 x.kind,.int .i64 x.length,.int .i64 x.grade,.int .i64 x.speed,.int .i64 x.slow,.int .i64 x.As]:=by
 obtain⟨h1,h2⟩:=h.struct_inv Tryz.underlying151;rw [qRB] at h1;obtain⟨a0,a1,a2,a3,a4,a5,a6,rfl⟩:=zEB h1;obtain⟨x0,e0,w0⟩:=(show HasTy TP 9 [a0] from HasTy.fld h2 (i:=0) rfl rfl rfl sK).str_inv Tryz.underlying9;replace e0:[a0]=[D.str x0]:=e0;simp only [List.cons.injEq,and_true] at e0;obtain⟨x1,e1,w1⟩:=(show HasTy TP 3 [a1] from HasTy.fld h2 (i:=1) rfl rfl rfl bK).int_inv Tryz.underlying3;replace e1:[a1]=[D.int .i64 x1]:=e1;simp only [List.cons.injEq,and_true] at e1;obtain⟨x2,e2,w2⟩:=(show HasTy TP 3 [a2] from HasTy.fld h2 (i:=2) rfl rfl rfl bK).int_inv Tryz.underlying3;replace e2:[a2]=[D.int .i64 x2]:=e2;simp only [List.cons.injEq,and_true] at e2;obtain⟨x3,e3,w3⟩:=(show HasTy TP 3 [a3] from HasTy.fld h2 (i:=3) rfl rfl rfl bK).int_inv Tryz.underlying3;replace e3:[a3]=[D.int .i64 x3]:=e3;simp only [List.cons.injEq,and_true] at e3;obtain⟨x4,e4,w4⟩:=(show HasTy TP 3 [a4] from HasTy.fld h2 (i:=4) rfl rfl rfl bK).int_inv Tryz.underlying3;replace e4:[a4]=[D.int .i64 x4]:=e4;simp only [List.cons.injEq,and_true] at e4;obtain⟨x5,e5,w5⟩:=(show HasTy TP 3 [a5] from HasTy.fld h2 (i:=5) rfl rfl rfl bK).int_inv Tryz.underlying3;replace e5:[a5]=[D.int .i64 x5]:=e5;simp only [List.cons.injEq,and_true] at e5;obtain⟨x6,e6,w6⟩:=(show HasTy TP 3 [a6] from HasTy.fld h2 (i:=6) rfl rfl rfl bK).int_inv Tryz.underlying3;replace e6:[a6]=[D.int .i64 x6]:=e6;simp only [List.cons.injEq,and_true] at e6;subst e0 e1 e2 e3 e4 e5 e6;exact⟨⟨x0,x1,x2,x3,x4,x5,x6⟩,⟨w0,w1,w2,w3,w4,w5,w6⟩,rfl⟩
theorem ty151 (cs:List D) (h:HasTy TP 151 cs):∃ x:Aw,x.Wf/\bC TP 151 cs=x.enc:=by
 obtain⟨x,w,rfl⟩:=ty151c cs h;exact⟨x,w,by simp [bC,Tryz.underlying151,Aw.enc]⟩
theorem wF:TP.cellsOf 147=2:=by kernel_rfl
theorem rR {cs:List D} (h:cs.length=2):∃ a0 a1,cs=[a0,a1]:=by
 match cs,h with
 | [a0,a1],_=>exact⟨a0,a1,rfl⟩
theorem qKO (cs:List D) (h:HasTy TP 147 cs):∃ x:End,x.Wf/\cs=[.int .i64 x.el,.int .i64 x.side]:=by
 obtain⟨h1,h2⟩:=h.struct_inv Tryz.underlying147;rw [wF] at h1;obtain⟨a0,a1,rfl⟩:=rR h1;obtain⟨x0,e0,w0⟩:=(show HasTy TP 3 [a0] from HasTy.fld h2 (i:=0) rfl rfl rfl bK).int_inv Tryz.underlying3;replace e0:[a0]=[D.int .i64 x0]:=e0;simp only [List.cons.injEq,and_true] at e0;obtain⟨x1,e1,w1⟩:=(show HasTy TP 3 [a1] from HasTy.fld h2 (i:=1) rfl rfl rfl bK).int_inv Tryz.underlying3;replace e1:[a1]=[D.int .i64 x1]:=e1;simp only [List.cons.injEq,and_true] at e1;subst e0 e1;exact⟨⟨x0,x1⟩,⟨w0,w1⟩,rfl⟩
theorem ty147 (cs:List D) (h:HasTy TP 147 cs):∃ x:End,x.Wf/\bC TP 147 cs=x.enc:=by
 obtain⟨x,w,rfl⟩:=qKO cs h;exact⟨x,w,by simp [bC,Tryz.underlying147,End.enc]⟩
theorem qRA:TP.cellsOf 153=4:=by kernel_rfl
theorem oX {cs:List D} (h:cs.length=4):∃ a0 a1 a2 a3,cs=[a0,a1,a2,a3]:=by
 match cs,h with
 | [a0,a1,a2,a3],_=>exact⟨a0,a1,a2,a3,rfl⟩
theorem ty153c (cs:List D) (h:HasTy TP 153 cs):∃ x:Ba,x.Wf/\cs=[.int .i64 x.a.el,.int .i64 x.a.side,.int .i64 x.b.el,.int .i64 x.b.side]:=by
 obtain⟨h1,h2⟩:=h.struct_inv Tryz.underlying153;rw [qRA] at h1;obtain⟨a0,a1,a2,a3,rfl⟩:=oX h1;obtain⟨x0,w0,e0⟩:=qKO _ (show HasTy TP 147 [a0,a1] from HasTy.fld h2 (i:=0) rfl rfl rfl wF);replace e0:[a0,a1]=[D.int .i64 x0.el,D.int .i64 x0.side]:=e0;simp only [List.cons.injEq,and_true] at e0;obtain⟨f0x0,f0x1⟩:=e0;obtain⟨x1,w1,e1⟩:=qKO _ (show HasTy TP 147 [a2,a3] from HasTy.fld h2 (i:=1) rfl rfl rfl wF);replace e1:[a2,a3]=[D.int .i64 x1.el,D.int .i64 x1.side]:=e1;simp only [List.cons.injEq,and_true] at e1;obtain⟨f1x0,f1x1⟩:=e1;subst f0x0 f0x1 f1x0 f1x1;exact⟨⟨x0,x1⟩,⟨w0,w1⟩,rfl⟩
theorem ty153 (cs:List D) (h:HasTy TP 153 cs):∃ x:Ba,x.Wf/\bC TP 153 cs=x.enc:=by
 obtain⟨x,w,rfl⟩:=ty153c cs h;exact⟨x,w,by simp [bC,Tryz.underlying153,Ba.enc]⟩
theorem qRC:TP.cellsOf 149=4:=by kernel_rfl
theorem ty149c (cs:List D) (h:HasTy TP 149 cs):∃ x:A0,x.Wf/\cs=[.str x.name,.int .i64 x.atV.el,.int .i64 x.atV.side,.int .i64 x.overlap]:=by
 obtain⟨h1,h2⟩:=h.struct_inv Tryz.underlying149;rw [qRC] at h1;obtain⟨a0,a1,a2,a3,rfl⟩:=oX h1;obtain⟨x0,e0,w0⟩:=(show HasTy TP 9 [a0] from HasTy.fld h2 (i:=0) rfl rfl rfl sK).str_inv Tryz.underlying9;replace e0:[a0]=[D.str x0]:=e0;simp only [List.cons.injEq,and_true] at e0;obtain⟨x1,w1,e1⟩:=qKO _ (show HasTy TP 147 [a1,a2] from HasTy.fld h2 (i:=1) rfl rfl rfl wF);replace e1:[a1,a2]=[D.int .i64 x1.el,D.int .i64 x1.side]:=e1;simp only [List.cons.injEq,and_true] at e1;obtain⟨f1x0,f1x1⟩:=e1;obtain⟨x2,e2,w2⟩:=(show HasTy TP 3 [a3] from HasTy.fld h2 (i:=2) rfl rfl rfl bK).int_inv Tryz.underlying3;replace e2:[a3]=[D.int .i64 x2]:=e2;simp only [List.cons.injEq,and_true] at e2;subst e0 f1x0 f1x1 e2;exact⟨⟨x0,x1,x2⟩,⟨w0,w1,w2⟩,rfl⟩
theorem ty149 (cs:List D) (h:HasTy TP 149 cs):∃ x:A0,x.Wf/\bC TP 149 cs=x.enc:=by
 obtain⟨x,w,rfl⟩:=ty149c cs h;exact⟨x,w,by simp [bC,Tryz.underlying149,A0.enc]⟩
theorem qQY:TP.cellsOf 182=3:=by kernel_rfl
theorem rQ {cs:List D} (h:cs.length=3):∃ a0 a1 a2,cs=[a0,a1,a2]:=by
 match cs,h with
 | [a0,a1,a2],_=>exact⟨a0,a1,a2,rfl⟩
theorem ty182c (cs:List D) (h:HasTy TP 182 cs):∃ x:A4,x.Wf/\cs=[.int .i64 x.id,.int .i64 x.el,.int .i64 x.offset]:=by
 obtain⟨h1,h2⟩:=h.struct_inv Tryz.underlying182;rw [qQY] at h1;obtain⟨a0,a1,a2,rfl⟩:=rQ h1;obtain⟨x0,e0,w0⟩:=(show HasTy TP 3 [a0] from HasTy.fld h2 (i:=0) rfl rfl rfl bK).int_inv Tryz.underlying3;replace e0:[a0]=[D.int .i64 x0]:=e0;simp only [List.cons.injEq,and_true] at e0;obtain⟨x1,e1,w1⟩:=(show HasTy TP 3 [a1] from HasTy.fld h2 (i:=1) rfl rfl rfl bK).int_inv Tryz.underlying3;replace e1:[a1]=[D.int .i64 x1]:=e1;simp only [List.cons.injEq,and_true] at e1;obtain⟨x2,e2,w2⟩:=(show HasTy TP 3 [a2] from HasTy.fld h2 (i:=2) rfl rfl rfl bK).int_inv Tryz.underlying3;replace e2:[a2]=[D.int .i64 x2]:=e2;simp only [List.cons.injEq,and_true] at e2;subst e0 e1 e2;exact⟨⟨x0,x1,x2⟩,⟨w0,w1,w2⟩,rfl⟩
theorem ty182 (cs:List D) (h:HasTy TP 182 cs):∃ x:A4,x.Wf/\bC TP 182 cs=x.enc:=by
 obtain⟨x,w,rfl⟩:=ty182c cs h;exact⟨x,w,by simp [bC,Tryz.underlying182,A4.enc]⟩
theorem qVS:TP.cellsOf 28=6:=by kernel_rfl
theorem zFR:TP.cellsOf 22=1:=by kernel_rfl
theorem zFQ:TP.cellsOf 23=1:=by kernel_rfl
theorem zFP:TP.cellsOf 24=1:=by kernel_rfl
theorem zFO:TP.cellsOf 25=1:=by kernel_rfl
theorem zFN:TP.cellsOf 26=1:=by kernel_rfl
theorem qUV {cs:List D} (h:cs.length=6):∃ a0 a1 a2 a3 a4 a5,cs=[a0,a1,a2,a3,a4,a5]:=by
 match cs,h with
 | [a0,a1,a2,a3,a4,a5],_=>exact⟨a0,a1,a2,a3,a4,a5,rfl⟩
theorem ty28c (cs:List D) (h:HasTy TP 28 cs):∃ x:Ag,x.Wf/\cs=[.str x.name,.sl 1 (x.Ad.map D.str),.sl 7 (x.Af.map Aw.enc),.sl 4 (x.joints.map Ba.enc),.sl 4 (x.Ah.map A0.enc),.sl 3 (x.balises.map A4.enc)]:=by
 obtain⟨h1,h2⟩:=h.struct_inv Tryz.underlying28;rw [qVS] at h1;obtain⟨a0,a1,a2,a3,a4,a5,rfl⟩:=qUV h1;obtain⟨x0,e0,w0⟩:=(show HasTy TP 9 [a0] from HasTy.fld h2 (i:=0) rfl rfl rfl sK).str_inv Tryz.underlying9;replace e0:[a0]=[D.str x0]:=e0;simp only [List.cons.injEq,and_true] at e0;obtain⟨x1,e1,l1,m1⟩:=(show HasTy TP 22 [a1] from HasTy.fld h2 (i:=1) rfl rfl rfl zFR).list Tryz.underlying22 D.str (λs=>s.size<=reachBytes) (λcs _ h=>ty9 cs h);rw [sK] at e1;have w1:=And.intro l1 m1;replace e1:[a1]=[D.sl 1 (x1.map D.str)]:=e1;simp only [List.cons.injEq,and_true] at e1;obtain⟨x2,e2,l2,m2⟩:=(show HasTy TP 23 [a2] from HasTy.fld h2 (i:=2) rfl rfl rfl zFQ).list Tryz.underlying23 Aw.enc Aw.Wf (λcs _ h=>ty151 cs h);rw [qRB] at e2;have w2:=And.intro l2 m2;replace e2:[a2]=[D.sl 7 (x2.map Aw.enc)]:=e2;simp only [List.cons.injEq,and_true] at e2;obtain⟨x3,e3,l3,m3⟩:=(show HasTy TP 24 [a3] from HasTy.fld h2 (i:=3) rfl rfl rfl zFP).list Tryz.underlying24 Ba.enc Ba.Wf (λcs _ h=>ty153 cs h);rw [qRA] at e3;have w3:=And.intro l3 m3;replace e3:[a3]=[D.sl 4 (x3.map Ba.enc)]:=e3;simp only [List.cons.injEq,and_true] at e3;obtain⟨x4,e4,l4,m4⟩:=(show HasTy TP 25 [a4] from HasTy.fld h2 (i:=4) rfl rfl rfl zFO).list Tryz.underlying25 A0.enc A0.Wf (λcs _ h=>ty149 cs h);rw [qRC] at e4;have w4:=And.intro l4 m4;replace e4:[a4]=[D.sl 4 (x4.map A0.enc)]:=e4;simp only [List.cons.injEq,and_true] at e4;obtain⟨x5,e5,l5,m5⟩:=(show HasTy TP 26 [a5] from HasTy.fld h2 (i:=5) rfl rfl rfl zFN).list Tryz.underlying26 A4.enc A4.Wf (λcs _ h=>ty182 cs h);rw [qQY] at e5;have w5:=And.intro l5 m5;replace e5:[a5]=[D.sl 3 (x5.map A4.enc)]:=e5;simp only [List.cons.injEq,and_true] at e5;subst e0 e1 e2 e3 e4 e5;exact⟨⟨x0,x1,x2,x3,x4,x5⟩,⟨w0,w1,w2,w3,w4,w5⟩,rfl⟩
theorem wG:TP.cellsOf 106=3:=by kernel_rfl
theorem ty106c (cs:List D) (h:HasTy TP 106 cs):∃ x:An,x.Wf/\cs=[.int .i64 x.el,.int .i64 x.inV,.int .i64 x.out]:=by
 obtain⟨h1,h2⟩:=h.struct_inv Tryz.underlying106;rw [wG] at h1;obtain⟨a0,a1,a2,rfl⟩:=rQ h1;obtain⟨x0,e0,w0⟩:=(show HasTy TP 3 [a0] from HasTy.fld h2 (i:=0) rfl rfl rfl bK).int_inv Tryz.underlying3;replace e0:[a0]=[D.int .i64 x0]:=e0;simp only [List.cons.injEq,and_true] at e0;obtain⟨x1,e1,w1⟩:=(show HasTy TP 3 [a1] from HasTy.fld h2 (i:=1) rfl rfl rfl bK).int_inv Tryz.underlying3;replace e1:[a1]=[D.int .i64 x1]:=e1;simp only [List.cons.injEq,and_true] at e1;obtain⟨x2,e2,w2⟩:=(show HasTy TP 3 [a2] from HasTy.fld h2 (i:=2) rfl rfl rfl bK).int_inv Tryz.underlying3;replace e2:[a2]=[D.int .i64 x2]:=e2;simp only [List.cons.injEq,and_true] at e2;subst e0 e1 e2;exact⟨⟨x0,x1,x2⟩,⟨w0,w1,w2⟩,rfl⟩
theorem qUF (cs:List D) (h:HasTy TP 106 cs):∃ x:An,x.Wf/\bC TP 106 cs=x.enc:=by
 obtain⟨x,w,rfl⟩:=ty106c cs h;exact⟨x,w,by simp [bC,Tryz.underlying106,An.enc]⟩
theorem qAQ:TP.cellsOf 126=2:=by kernel_rfl
theorem ty126c (cs:List D) (h:HasTy TP 126 cs):∃ x:Aa,x.Wf/\cs=[.int .i64 x.el,.int .i64 x.pos]:=by
 obtain⟨h1,h2⟩:=h.struct_inv Tryz.underlying126;rw [qAQ] at h1;obtain⟨a0,a1,rfl⟩:=rR h1;obtain⟨x0,e0,w0⟩:=(show HasTy TP 3 [a0] from HasTy.fld h2 (i:=0) rfl rfl rfl bK).int_inv Tryz.underlying3;replace e0:[a0]=[D.int .i64 x0]:=e0;simp only [List.cons.injEq,and_true] at e0;obtain⟨x1,e1,w1⟩:=(show HasTy TP 3 [a1] from HasTy.fld h2 (i:=1) rfl rfl rfl bK).int_inv Tryz.underlying3;replace e1:[a1]=[D.int .i64 x1]:=e1;simp only [List.cons.injEq,and_true] at e1;subst e0 e1;exact⟨⟨x0,x1⟩,⟨w0,w1⟩,rfl⟩
theorem qZC (cs:List D) (h:HasTy TP 126 cs):∃ x:Aa,x.Wf/\bC TP 126 cs=x.enc:=by
 obtain⟨x,w,rfl⟩:=ty126c cs h;exact⟨x,w,by simp [bC,Tryz.underlying126,Aa.enc]⟩
theorem ty30 (cs:List D) (h:HasTy TP 30 cs):∃ l:(List Int),(λl=>l.length<=reachBytes/\∀ x∈l,I64 x) l/\bC TP 30 cs=(λ(l:List Int)=>D.sl 1 (l.map (D.int .i64))) l:=by
 obtain⟨l,rfl,h1,h2⟩:=h.list Tryz.underlying30 (D.int .i64) I64 (λcs _ h=>ty3 cs h);exact⟨l,⟨h1,h2⟩,by simp [bC,Tryz.underlying30,bK]⟩
theorem qRG:TP.cellsOf 113=14:=by kernel_rfl
theorem qER:TP.cellsOf 77=1:=by kernel_rfl
theorem qHA:TP.cellsOf 110=1:=by kernel_rfl
theorem kP:TP.cellsOf 30=1:=by kernel_rfl
theorem zCE:TP.cellsOf 111=1:=by kernel_rfl
theorem qPO {cs:List D} (h:cs.length=14):∃ a0 a1 a2 a3 a4 a5 a6 a7 a8 a9 a10 a11 a12 a13,cs=[a0,a1,a2,a3,a4,a5,a6,a7,a8,a9,a10,a11,a12,a13]:=by
 match cs,h with
 | [a0,a1,a2,a3,a4,a5,a6,a7,a8,a9,a10,a11,a12,a13],_=>exact⟨a0,a1,a2,a3,a4,a5,a6,a7,a8,a9,a10,a11,a12,a13,rfl⟩
theorem ty113c (cs:List D) (h:HasTy TP 113 cs):∃ x:Ai,x.Wf/\cs=[.str x.name,.int .i64 x.entry,.int .i64 x.exit,.sl 3 (x.path.map An.enc),.sl 2 (x.Ae.map Aa.enc),.sl 1 (x.Ad.map (D.int .i64)),.int .i64 x.A2,.int .i64 x.length,.sl 3 (x.over.map An.enc),.sl 2 (x.Aj.map Aa.enc),.sl 1 (x.Ao.map (D.int .i64)),.sl 2 (x.At.map Aa.enc),.sl 1 (x.guards.map (D.int .i64)),.sl 2 (x.gaps.map End.enc)]:=by
 obtain⟨h1,h2⟩:=h.struct_inv Tryz.underlying113;rw [qRG] at h1;obtain⟨a0,a1,a2,a3,a4,a5,a6,a7,a8,a9,a10,a11,a12,a13,rfl⟩:=qPO h1;obtain⟨x0,e0,w0⟩:=(show HasTy TP 9 [a0] from HasTy.fld h2 (i:=0) rfl rfl rfl sK).str_inv Tryz.underlying9;replace e0:[a0]=[D.str x0]:=e0;simp only [List.cons.injEq,and_true] at e0;obtain⟨x1,e1,w1⟩:=(show HasTy TP 3 [a1] from HasTy.fld h2 (i:=1) rfl rfl rfl bK).int_inv Tryz.underlying3;replace e1:[a1]=[D.int .i64 x1]:=e1;simp only [List.cons.injEq,and_true] at e1;obtain⟨x2,e2,w2⟩:=(show HasTy TP 3 [a2] from HasTy.fld h2 (i:=2) rfl rfl rfl bK).int_inv Tryz.underlying3;replace e2:[a2]=[D.int .i64 x2]:=e2;simp only [List.cons.injEq,and_true] at e2;obtain⟨x3,e3,l3,m3⟩:=(show HasTy TP 77 [a3] from HasTy.fld h2 (i:=3) rfl rfl rfl qER).list Tryz.underlying77 An.enc An.Wf (λcs _ h=>qUF cs h);rw [wG] at e3;have w3:=And.intro l3 m3;replace e3:[a3]=[D.sl 3 (x3.map An.enc)]:=e3;simp only [List.cons.injEq,and_true] at e3;obtain⟨x4,e4,l4,m4⟩:=(show HasTy TP 110 [a4] from HasTy.fld h2 (i:=4) rfl rfl rfl qHA).list Tryz.underlying110 Aa.enc Aa.Wf (λcs _ h=>qZC cs h);rw [qAQ] at e4;have w4:=And.intro l4 m4;replace e4:[a4]=[D.sl 2 (x4.map Aa.enc)]:=e4;simp only [List.cons.injEq,and_true] at e4;obtain⟨x5,e5,l5,m5⟩:=(show HasTy TP 30 [a5] from HasTy.fld h2 (i:=5) rfl rfl rfl kP).list Tryz.underlying30 (D.int .i64) I64 (λcs _ h=>ty3 cs h);rw [bK] at e5;have w5:=And.intro l5 m5;replace e5:[a5]=[D.sl 1 (x5.map (D.int .i64))]:=e5;simp only [List.cons.injEq,and_true] at e5;obtain⟨x6,e6,w6⟩:=(show HasTy TP 3 [a6] from HasTy.fld h2 (i:=6) rfl rfl rfl bK).int_inv Tryz.underlying3;replace e6:[a6]=[D.int .i64 x6]:=e6;simp only [List.cons.injEq,and_true] at e6;obtain⟨x7,e7,w7⟩:=(show HasTy TP 3 [a7] from HasTy.fld h2 (i:=7) rfl rfl rfl bK).int_inv Tryz.underlying3;replace e7:[a7]=[D.int .i64 x7]:=e7;simp only [List.cons.injEq,and_true] at e7;obtain⟨x8,e8,l8,m8⟩:=(show HasTy TP 77 [a8] from HasTy.fld h2 (i:=8) rfl rfl rfl qER).list Tryz.underlying77 An.enc An.Wf (λcs _ h=>qUF cs h);rw [wG] at e8;have w8:=And.intro l8 m8;replace e8:[a8]=[D.sl 3 (x8.map An.enc)]:=e8;simp only [List.cons.injEq,and_true] at e8;obtain⟨x9,e9,l9,m9⟩:=(show HasTy TP 110 [a9] from HasTy.fld h2 (i:=9) rfl rfl rfl qHA).list Tryz.underlying110 Aa.enc Aa.Wf (λcs _ h=>qZC cs h);rw [qAQ] at e9;have w9:=And.intro l9 m9;replace e9:[a9]=[D.sl 2 (x9.map Aa.enc)]:=e9;simp only [List.cons.injEq,and_true] at e9;obtain⟨x10,e10,l10,m10⟩:=(show HasTy TP 30 [a10] from HasTy.fld h2 (i:=10) rfl rfl rfl kP).list Tryz.underlying30 (D.int .i64) I64 (λcs _ h=>ty3 cs h);rw [bK] at e10;have w10:=And.intro l10 m10;replace e10:[a10]=[D.sl 1 (x10.map (D.int .i64))]:=e10;simp only [List.cons.injEq,and_true] at e10;obtain⟨x11,e11,l11,m11⟩:=(show HasTy TP 110 [a11] from HasTy.fld h2 (i:=11) rfl rfl rfl qHA).list Tryz.underlying110 Aa.enc Aa.Wf (λcs _ h=>qZC cs h)
 rw [qAQ] at e11;have w11:=And.intro l11 m11;replace e11:[a11]=[D.sl 2 (x11.map Aa.enc)]:=e11;simp only [List.cons.injEq,and_true] at e11;obtain⟨x12,e12,l12,m12⟩:=(show HasTy TP 30 [a12] from HasTy.fld h2 (i:=12) rfl rfl rfl kP).list Tryz.underlying30 (D.int .i64) I64 (λcs _ h=>ty3 cs h);rw [bK] at e12;have w12:=And.intro l12 m12;replace e12:[a12]=[D.sl 1 (x12.map (D.int .i64))]:=e12;simp only [List.cons.injEq,and_true] at e12;obtain⟨x13,e13,l13,m13⟩:=(show HasTy TP 111 [a13] from HasTy.fld h2 (i:=13) rfl rfl rfl zCE).list Tryz.underlying111 End.enc End.Wf (λcs _ h=>ty147 cs h);rw [wF] at e13;have w13:=And.intro l13 m13;replace e13:[a13]=[D.sl 2 (x13.map End.enc)]:=e13;simp only [List.cons.injEq,and_true] at e13;subst e0 e1 e2 e3 e4 e5 e6 e7 e8 e9 e10 e11 e12 e13;exact⟨⟨x0,x1,x2,x3,x4,x5,x6,x7,x8,x9,x10,x11,x12,x13⟩,⟨w0,w1,w2,w3,w4,w5,w6,w7,w8,w9,w10,w11,w12,w13⟩,rfl⟩
theorem ty113 (cs:List D) (h:HasTy TP 113 cs):∃ x:Ai,x.Wf/\bC TP 113 cs=x.enc:=by
 obtain⟨x,w,rfl⟩:=ty113c cs h;exact⟨x,w,by simp [bC,Tryz.underlying113,Ai.enc]⟩
theorem qVR:TP.cellsOf 32=5:=by kernel_rfl
theorem zFM:TP.cellsOf 29=1:=by kernel_rfl
theorem qUW {cs:List D} (h:cs.length=5):∃ a0 a1 a2 a3 a4,cs=[a0,a1,a2,a3,a4]:=by
 match cs,h with
 | [a0,a1,a2,a3,a4],_=>exact⟨a0,a1,a2,a3,a4,rfl⟩
theorem ty32c (cs:List D) (h:HasTy TP 32 cs):∃ x:Al,x.Wf/\cs=[.sl 14 (x.Ab.map Ai.enc),.sl 1 (x.Ae.map (D.int .i64)),.sl 1 (x.A1.map (D.int .i64)),.int .i64 x.Ad,.int .i64 x.Ah]:=by
 obtain⟨h1,h2⟩:=h.struct_inv Tryz.underlying32;rw [qVR] at h1;obtain⟨a0,a1,a2,a3,a4,rfl⟩:=qUW h1;obtain⟨x0,e0,l0,m0⟩:=(show HasTy TP 29 [a0] from HasTy.fld h2 (i:=0) rfl rfl rfl zFM).list Tryz.underlying29 Ai.enc Ai.Wf (λcs _ h=>ty113 cs h);rw [qRG] at e0;have w0:=And.intro l0 m0;replace e0:[a0]=[D.sl 14 (x0.map Ai.enc)]:=e0;simp only [List.cons.injEq,and_true] at e0;obtain⟨x1,e1,l1,m1⟩:=(show HasTy TP 30 [a1] from HasTy.fld h2 (i:=1) rfl rfl rfl kP).list Tryz.underlying30 (D.int .i64) I64 (λcs _ h=>ty3 cs h);rw [bK] at e1;have w1:=And.intro l1 m1;replace e1:[a1]=[D.sl 1 (x1.map (D.int .i64))]:=e1;simp only [List.cons.injEq,and_true] at e1;obtain⟨x2,e2,l2,m2⟩:=(show HasTy TP 30 [a2] from HasTy.fld h2 (i:=2) rfl rfl rfl kP).list Tryz.underlying30 (D.int .i64) I64 (λcs _ h=>ty3 cs h);rw [bK] at e2;have w2:=And.intro l2 m2;replace e2:[a2]=[D.sl 1 (x2.map (D.int .i64))]:=e2;simp only [List.cons.injEq,and_true] at e2;obtain⟨x3,e3,w3⟩:=(show HasTy TP 3 [a3] from HasTy.fld h2 (i:=3) rfl rfl rfl bK).int_inv Tryz.underlying3;replace e3:[a3]=[D.int .i64 x3]:=e3;simp only [List.cons.injEq,and_true] at e3;obtain⟨x4,e4,w4⟩:=(show HasTy TP 3 [a4] from HasTy.fld h2 (i:=4) rfl rfl rfl bK).int_inv Tryz.underlying3;replace e4:[a4]=[D.int .i64 x4]:=e4;simp only [List.cons.injEq,and_true] at e4;subst e0 e1 e2 e3 e4;exact⟨⟨x0,x1,x2,x3,x4⟩,⟨w0,w1,w2,w3,w4⟩,rfl⟩
theorem qQZ:TP.cellsOf 158=3:=by kernel_rfl
theorem ty158c (cs:List D) (h:HasTy TP 158 cs):∃ x:Ak,x.Wf/\cs=[.int .i64 x.state,.int .i64 x.rel,.int .i64 x.timer]:=by
 obtain⟨h1,h2⟩:=h.struct_inv Tryz.underlying158;rw [qQZ] at h1;obtain⟨a0,a1,a2,rfl⟩:=rQ h1;obtain⟨x0,e0,w0⟩:=(show HasTy TP 3 [a0] from HasTy.fld h2 (i:=0) rfl rfl rfl bK).int_inv Tryz.underlying3;replace e0:[a0]=[D.int .i64 x0]:=e0;simp only [List.cons.injEq,and_true] at e0;obtain⟨x1,e1,w1⟩:=(show HasTy TP 3 [a1] from HasTy.fld h2 (i:=1) rfl rfl rfl bK).int_inv Tryz.underlying3;replace e1:[a1]=[D.int .i64 x1]:=e1;simp only [List.cons.injEq,and_true] at e1;obtain⟨x2,e2,w2⟩:=(show HasTy TP 3 [a2] from HasTy.fld h2 (i:=2) rfl rfl rfl bK).int_inv Tryz.underlying3;replace e2:[a2]=[D.int .i64 x2]:=e2;simp only [List.cons.injEq,and_true] at e2;subst e0 e1 e2;exact⟨⟨x0,x1,x2⟩,⟨w0,w1,w2⟩,rfl⟩
theorem ty158 (cs:List D) (h:HasTy TP 158 cs):∃ x:Ak,x.Wf/\bC TP 158 cs=x.enc:=by
 obtain⟨x,w,rfl⟩:=ty158c cs h;exact⟨x,w,by simp [bC,Tryz.underlying158,Ak.enc]⟩
theorem qVQ:TP.cellsOf 35=2:=by kernel_rfl
theorem zFL:TP.cellsOf 33=1:=by kernel_rfl
theorem ty35c (cs:List D) (h:HasTy TP 35 cs):∃ x:Az,x.Wf/\cs=[.sl 3 (x.Ab.map Ak.enc),.sl 1 (x.lies.map (D.int .i64))]:=by
 obtain⟨h1,h2⟩:=h.struct_inv Tryz.underlying35;rw [qVQ] at h1;obtain⟨a0,a1,rfl⟩:=rR h1;obtain⟨x0,e0,l0,m0⟩:=(show HasTy TP 33 [a0] from HasTy.fld h2 (i:=0) rfl rfl rfl zFL).list Tryz.underlying33 Ak.enc Ak.Wf (λcs _ h=>ty158 cs h);rw [qQZ] at e0;have w0:=And.intro l0 m0;replace e0:[a0]=[D.sl 3 (x0.map Ak.enc)]:=e0;simp only [List.cons.injEq,and_true] at e0;obtain⟨x1,e1,l1,m1⟩:=(show HasTy TP 30 [a1] from HasTy.fld h2 (i:=1) rfl rfl rfl kP).list Tryz.underlying30 (D.int .i64) I64 (λcs _ h=>ty3 cs h);rw [bK] at e1;have w1:=And.intro l1 m1;replace e1:[a1]=[D.sl 1 (x1.map (D.int .i64))]:=e1;simp only [List.cons.injEq,and_true] at e1;subst e0 e1;exact⟨⟨x0,x1⟩,⟨w0,w1⟩,rfl⟩
theorem qRE:TP.cellsOf 129=3:=by kernel_rfl
theorem ty129c (cs:List D) (h:HasTy TP 129 cs):∃ x:Ar,x.Wf/\cs=[.int .i64 x.pos,.int .i64 x.goal,.int .i64 x.timer]:=by
 obtain⟨h1,h2⟩:=h.struct_inv Tryz.underlying129;rw [qRE] at h1;obtain⟨a0,a1,a2,rfl⟩:=rQ h1;obtain⟨x0,e0,w0⟩:=(show HasTy TP 3 [a0] from HasTy.fld h2 (i:=0) rfl rfl rfl bK).int_inv Tryz.underlying3;replace e0:[a0]=[D.int .i64 x0]:=e0;simp only [List.cons.injEq,and_true] at e0;obtain⟨x1,e1,w1⟩:=(show HasTy TP 3 [a1] from HasTy.fld h2 (i:=1) rfl rfl rfl bK).int_inv Tryz.underlying3;replace e1:[a1]=[D.int .i64 x1]:=e1;simp only [List.cons.injEq,and_true] at e1;obtain⟨x2,e2,w2⟩:=(show HasTy TP 3 [a2] from HasTy.fld h2 (i:=2) rfl rfl rfl bK).int_inv Tryz.underlying3;replace e2:[a2]=[D.int .i64 x2]:=e2;simp only [List.cons.injEq,and_true] at e2;subst e0 e1 e2;exact⟨⟨x0,x1,x2⟩,⟨w0,w1,w2⟩,rfl⟩
theorem ty129 (cs:List D) (h:HasTy TP 129 cs):∃ x:Ar,x.Wf/\bC TP 129 cs=x.enc:=by
 obtain⟨x,w,rfl⟩:=ty129c cs h;exact⟨x,w,by simp [bC,Tryz.underlying129,Ar.enc]⟩
theorem ty4 (cs:List D) (h:HasTy TP 4 cs):∃ x:Bool,(λ_=>True) x/\bC TP 4 cs=D.bool x:=by
 obtain⟨x,rfl⟩:=h.bool_inv Tryz.underlying4;exact⟨x,trivial,by simp [bC,Tryz.underlying4]⟩
theorem qTR:TP.cellsOf 4=1:=by kernel_rfl
theorem qVI:TP.cellsOf 79=3:=by kernel_rfl
theorem ty79c (cs:List D) (h:HasTy TP 79 cs):∃ x:Bc,x.Wf/\cs=[.sl 3 (x.steps.map An.enc),.int .i64 x.head,.int .i64 x.length]:=by
 obtain⟨h1,h2⟩:=h.struct_inv Tryz.underlying79;rw [qVI] at h1;obtain⟨a0,a1,a2,rfl⟩:=rQ h1;obtain⟨x0,e0,l0,m0⟩:=(show HasTy TP 77 [a0] from HasTy.fld h2 (i:=0) rfl rfl rfl qER).list Tryz.underlying77 An.enc An.Wf (λcs _ h=>qUF cs h);rw [wG] at e0;have w0:=And.intro l0 m0;replace e0:[a0]=[D.sl 3 (x0.map An.enc)]:=e0;simp only [List.cons.injEq,and_true] at e0;obtain⟨x1,e1,w1⟩:=(show HasTy TP 3 [a1] from HasTy.fld h2 (i:=1) rfl rfl rfl bK).int_inv Tryz.underlying3;replace e1:[a1]=[D.int .i64 x1]:=e1;simp only [List.cons.injEq,and_true] at e1;obtain⟨x2,e2,w2⟩:=(show HasTy TP 3 [a2] from HasTy.fld h2 (i:=2) rfl rfl rfl bK).int_inv Tryz.underlying3;replace e2:[a2]=[D.int .i64 x2]:=e2;simp only [List.cons.injEq,and_true] at e2;subst e0 e1 e2;exact⟨⟨x0,x1,x2⟩,⟨w0,w1,w2⟩,rfl⟩
theorem qVN:TP.cellsOf 64=10:=by kernel_rfl
theorem zBE {cs:List D} (h:cs.length=10):∃ a0 a1 a2 a3 a4 a5 a6 a7 a8 a9,cs=[a0,a1,a2,a3,a4,a5,a6,a7,a8,a9]:=by
 match cs,h with
 | [a0,a1,a2,a3,a4,a5,a6,a7,a8,a9],_=>exact⟨a0,a1,a2,a3,a4,a5,a6,a7,a8,a9,rfl⟩
theorem ty64c (cs:List D) (h:HasTy TP 64 cs):∃ x:Bd,x.Wf/\cs=[.int .i64 x.id,.str x.name,.int .i64 x.length,.int .i64 x.speed,.int .i64 x.accel,.int .i64 x.service,.int .i64 x.emergency,.int .i64 x.delay,.int .i64 x.const,.int .i64 x.rate]:=by
 obtain⟨h1,h2⟩:=h.struct_inv Tryz.underlying64;rw [qVN] at h1;obtain⟨a0,a1,a2,a3,a4,a5,a6,a7,a8,a9,rfl⟩:=zBE h1;obtain⟨x0,e0,w0⟩:=(show HasTy TP 3 [a0] from HasTy.fld h2 (i:=0) rfl rfl rfl bK).int_inv Tryz.underlying3;replace e0:[a0]=[D.int .i64 x0]:=e0;simp only [List.cons.injEq,and_true] at e0;obtain⟨x1,e1,w1⟩:=(show HasTy TP 9 [a1] from HasTy.fld h2 (i:=1) rfl rfl rfl sK).str_inv Tryz.underlying9;replace e1:[a1]=[D.str x1]:=e1;simp only [List.cons.injEq,and_true] at e1;obtain⟨x2,e2,w2⟩:=(show HasTy TP 3 [a2] from HasTy.fld h2 (i:=2) rfl rfl rfl bK).int_inv Tryz.underlying3;replace e2:[a2]=[D.int .i64 x2]:=e2;simp only [List.cons.injEq,and_true] at e2;obtain⟨x3,e3,w3⟩:=(show HasTy TP 3 [a3] from HasTy.fld h2 (i:=3) rfl rfl rfl bK).int_inv Tryz.underlying3;replace e3:[a3]=[D.int .i64 x3]:=e3;simp only [List.cons.injEq,and_true] at e3;obtain⟨x4,e4,w4⟩:=(show HasTy TP 3 [a4] from HasTy.fld h2 (i:=4) rfl rfl rfl bK).int_inv Tryz.underlying3;replace e4:[a4]=[D.int .i64 x4]:=e4;simp only [List.cons.injEq,and_true] at e4;obtain⟨x5,e5,w5⟩:=(show HasTy TP 3 [a5] from HasTy.fld h2 (i:=5) rfl rfl rfl bK).int_inv Tryz.underlying3;replace e5:[a5]=[D.int .i64 x5]:=e5;simp only [List.cons.injEq,and_true] at e5;obtain⟨x6,e6,w6⟩:=(show HasTy TP 3 [a6] from HasTy.fld h2 (i:=6) rfl rfl rfl bK).int_inv Tryz.underlying3;replace e6:[a6]=[D.int .i64 x6]:=e6;simp only [List.cons.injEq,and_true] at e6;obtain⟨x7,e7,w7⟩:=(show HasTy TP 3 [a7] from HasTy.fld h2 (i:=7) rfl rfl rfl bK).int_inv Tryz.underlying3;replace e7:[a7]=[D.int .i64 x7]:=e7;simp only [List.cons.injEq,and_true] at e7;obtain⟨x8,e8,w8⟩:=(show HasTy TP 3 [a8] from HasTy.fld h2 (i:=8) rfl rfl rfl bK).int_inv Tryz.underlying3;replace e8:[a8]=[D.int .i64 x8]:=e8;simp only [List.cons.injEq,and_true] at e8;obtain⟨x9,e9,w9⟩:=(show HasTy TP 3 [a9] from HasTy.fld h2 (i:=9) rfl rfl rfl bK).int_inv Tryz.underlying3;replace e9:[a9]=[D.int .i64 x9]:=e9;simp only [List.cons.injEq,and_true] at e9;subst e0 e1 e2 e3 e4 e5 e6 e7 e8 e9;exact⟨⟨x0,x1,x2,x3,x4,x5,x6,x7,x8,x9⟩,⟨w0,w1,w2,w3,w4,w5,w6,w7,w8,w9⟩,rfl⟩
theorem qVM:TP.cellsOf 66=3:=by kernel_rfl
theorem ty66c (cs:List D) (h:HasTy TP 66 cs):∃ x:Bq,x.Wf/\cs=[.int .i64 x.min,.int .i64 x.max,.int .i64 x.speed]:=by
 obtain⟨h1,h2⟩:=h.struct_inv Tryz.underlying66;rw [qVM] at h1;obtain⟨a0,a1,a2,rfl⟩:=rQ h1;obtain⟨x0,e0,w0⟩:=(show HasTy TP 3 [a0] from HasTy.fld h2 (i:=0) rfl rfl rfl bK).int_inv Tryz.underlying3;replace e0:[a0]=[D.int .i64 x0]:=e0;simp only [List.cons.injEq,and_true] at e0;obtain⟨x1,e1,w1⟩:=(show HasTy TP 3 [a1] from HasTy.fld h2 (i:=1) rfl rfl rfl bK).int_inv Tryz.underlying3;replace e1:[a1]=[D.int .i64 x1]:=e1;simp only [List.cons.injEq,and_true] at e1;obtain⟨x2,e2,w2⟩:=(show HasTy TP 3 [a2] from HasTy.fld h2 (i:=2) rfl rfl rfl bK).int_inv Tryz.underlying3;replace e2:[a2]=[D.int .i64 x2]:=e2;simp only [List.cons.injEq,and_true] at e2;subst e0 e1 e2;exact⟨⟨x0,x1,x2⟩,⟨w0,w1,w2⟩,rfl⟩
theorem qQR:TP.cellsOf 332=4:=by kernel_rfl
theorem ty332c (cs:List D) (h:HasTy TP 332 cs):∃ x:A8,x.Wf/\cs=[.int .i64 x.fromV,.int .i64 x.to,.int .i64 x.grade,.int .i64 x.speed]:=by
 obtain⟨h1,h2⟩:=h.struct_inv Tryz.underlying332;rw [qQR] at h1;obtain⟨a0,a1,a2,a3,rfl⟩:=oX h1;obtain⟨x0,e0,w0⟩:=(show HasTy TP 3 [a0] from HasTy.fld h2 (i:=0) rfl rfl rfl bK).int_inv Tryz.underlying3;replace e0:[a0]=[D.int .i64 x0]:=e0;simp only [List.cons.injEq,and_true] at e0;obtain⟨x1,e1,w1⟩:=(show HasTy TP 3 [a1] from HasTy.fld h2 (i:=1) rfl rfl rfl bK).int_inv Tryz.underlying3;replace e1:[a1]=[D.int .i64 x1]:=e1;simp only [List.cons.injEq,and_true] at e1;obtain⟨x2,e2,w2⟩:=(show HasTy TP 3 [a2] from HasTy.fld h2 (i:=2) rfl rfl rfl bK).int_inv Tryz.underlying3;replace e2:[a2]=[D.int .i64 x2]:=e2;simp only [List.cons.injEq,and_true] at e2;obtain⟨x3,e3,w3⟩:=(show HasTy TP 3 [a3] from HasTy.fld h2 (i:=3) rfl rfl rfl bK).int_inv Tryz.underlying3;replace e3:[a3]=[D.int .i64 x3]:=e3;simp only [List.cons.injEq,and_true] at e3;subst e0 e1 e2 e3;exact⟨⟨x0,x1,x2,x3⟩,⟨w0,w1,w2,w3⟩,rfl⟩
theorem ty332 (cs:List D) (h:HasTy TP 332 cs):∃ x:A8,x.Wf/\bC TP 332 cs=x.enc:=by
 obtain⟨x,w,rfl⟩:=ty332c cs h;exact⟨x,w,by simp [bC,Tryz.underlying332,A8.enc]⟩
theorem qQQ:TP.cellsOf 334=2:=by kernel_rfl
theorem ty334c (cs:List D) (h:HasTy TP 334 cs):∃ x:Bb,x.Wf/\cs=[.int .i64 x.id,.int .i64 x.atV]:=by
 obtain⟨h1,h2⟩:=h.struct_inv Tryz.underlying334;rw [qQQ] at h1;obtain⟨a0,a1,rfl⟩:=rR h1;obtain⟨x0,e0,w0⟩:=(show HasTy TP 3 [a0] from HasTy.fld h2 (i:=0) rfl rfl rfl bK).int_inv Tryz.underlying3;replace e0:[a0]=[D.int .i64 x0]:=e0;simp only [List.cons.injEq,and_true] at e0;obtain⟨x1,e1,w1⟩:=(show HasTy TP 3 [a1] from HasTy.fld h2 (i:=1) rfl rfl rfl bK).int_inv Tryz.underlying3;replace e1:[a1]=[D.int .i64 x1]:=e1;simp only [List.cons.injEq,and_true] at e1;subst e0 e1;exact⟨⟨x0,x1⟩,⟨w0,w1⟩,rfl⟩
theorem ty334 (cs:List D) (h:HasTy TP 334 cs):∃ x:Bb,x.Wf/\bC TP 334 cs=x.enc:=by
 obtain⟨x,w,rfl⟩:=ty334c cs h;exact⟨x,w,by simp [bC,Tryz.underlying334,Bb.enc]⟩
theorem qVL:TP.cellsOf 70=4:=by kernel_rfl
theorem zEV:TP.cellsOf 67=1:=by kernel_rfl
theorem zEU:TP.cellsOf 68=1:=by kernel_rfl
theorem ty70c (cs:List D) (h:HasTy TP 70 cs):∃ x:Bo,x.Wf/\cs=[.int .i64 x.seq,.int .i64 x.endV,.sl 4 (x.profile.map A8.enc),.sl 2 (x.links.map Bb.enc)]:=by
 obtain⟨h1,h2⟩:=h.struct_inv Tryz.underlying70;rw [qVL] at h1;obtain⟨a0,a1,a2,a3,rfl⟩:=oX h1;obtain⟨x0,e0,w0⟩:=(show HasTy TP 3 [a0] from HasTy.fld h2 (i:=0) rfl rfl rfl bK).int_inv Tryz.underlying3;replace e0:[a0]=[D.int .i64 x0]:=e0;simp only [List.cons.injEq,and_true] at e0;obtain⟨x1,e1,w1⟩:=(show HasTy TP 3 [a1] from HasTy.fld h2 (i:=1) rfl rfl rfl bK).int_inv Tryz.underlying3;replace e1:[a1]=[D.int .i64 x1]:=e1;simp only [List.cons.injEq,and_true] at e1;obtain⟨x2,e2,l2,m2⟩:=(show HasTy TP 67 [a2] from HasTy.fld h2 (i:=2) rfl rfl rfl zEV).list Tryz.underlying67 A8.enc A8.Wf (λcs _ h=>ty332 cs h);rw [qQR] at e2;have w2:=And.intro l2 m2;replace e2:[a2]=[D.sl 4 (x2.map A8.enc)]:=e2;simp only [List.cons.injEq,and_true] at e2;obtain⟨x3,e3,l3,m3⟩:=(show HasTy TP 68 [a3] from HasTy.fld h2 (i:=3) rfl rfl rfl zEU).list Tryz.underlying68 Bb.enc Bb.Wf (λcs _ h=>ty334 cs h);rw [qQQ] at e3;have w3:=And.intro l3 m3;replace e3:[a3]=[D.sl 2 (x3.map Bb.enc)]:=e3;simp only [List.cons.injEq,and_true] at e3;subst e0 e1 e2 e3;exact⟨⟨x0,x1,x2,x3⟩,⟨w0,w1,w2,w3⟩,rfl⟩
theorem qNA:TP.cellsOf 72=4:=by kernel_rfl
theorem zGK (cs:List D) (h:HasTy TP 72 cs):∃ x:Ax,x.Wf/\cs=[.int .i64 x.peer,.int .i64 x.out,.int .i64 x.inV,.int .i64 x.heard]:=by
 obtain⟨h1,h2⟩:=h.struct_inv Tryz.underlying72;rw [qNA] at h1;obtain⟨a0,a1,a2,a3,rfl⟩:=oX h1;obtain⟨x0,e0,w0⟩:=(show HasTy TP 3 [a0] from HasTy.fld h2 (i:=0) rfl rfl rfl bK).int_inv Tryz.underlying3;replace e0:[a0]=[D.int .i64 x0]:=e0;simp only [List.cons.injEq,and_true] at e0;obtain⟨x1,e1,w1⟩:=(show HasTy TP 3 [a1] from HasTy.fld h2 (i:=1) rfl rfl rfl bK).int_inv Tryz.underlying3;replace e1:[a1]=[D.int .i64 x1]:=e1;simp only [List.cons.injEq,and_true] at e1;obtain⟨x2,e2,w2⟩:=(show HasTy TP 3 [a2] from HasTy.fld h2 (i:=2) rfl rfl rfl bK).int_inv Tryz.underlying3;replace e2:[a2]=[D.int .i64 x2]:=e2;simp only [List.cons.injEq,and_true] at e2;obtain⟨x3,e3,w3⟩:=(show HasTy TP 3 [a3] from HasTy.fld h2 (i:=3) rfl rfl rfl bK).int_inv Tryz.underlying3;replace e3:[a3]=[D.int .i64 x3]:=e3;simp only [List.cons.injEq,and_true] at e3;subst e0 e1 e2 e3;exact⟨⟨x0,x1,x2,x3⟩,⟨w0,w1,w2,w3⟩,rfl⟩
theorem ty72 (cs:List D) (h:HasTy TP 72 cs):∃ x:Ax,x.Wf/\bC TP 72 cs=x.enc:=by
 obtain⟨x,w,rfl⟩:=zGK cs h;exact⟨x,w,by simp [bC,Tryz.underlying72,Ax.enc]⟩
theorem qVK:TP.cellsOf 74=2:=by kernel_rfl
theorem ty74c (cs:List D) (h:HasTy TP 74 cs):∃ x:Bt,x.Wf/\cs=[.bool x.known,.int .i64 x.since]:=by
 obtain⟨h1,h2⟩:=h.struct_inv Tryz.underlying74;rw [qVK] at h1;obtain⟨a0,a1,rfl⟩:=rR h1;obtain⟨x0,e0⟩:=(show HasTy TP 4 [a0] from HasTy.fld h2 (i:=0) rfl rfl rfl qTR).bool_inv Tryz.underlying4;have w0:=trivial;replace e0:[a0]=[D.bool x0]:=e0;simp only [List.cons.injEq,and_true] at e0;obtain⟨x1,e1,w1⟩:=(show HasTy TP 3 [a1] from HasTy.fld h2 (i:=1) rfl rfl rfl bK).int_inv Tryz.underlying3;replace e1:[a1]=[D.int .i64 x1]:=e1;simp only [List.cons.injEq,and_true] at e1;subst e0 e1;exact⟨⟨x0,x1⟩,⟨w0,w1⟩,rfl⟩
theorem qVJ:TP.cellsOf 76=26:=by kernel_rfl
theorem zBD {cs:List D} (h:cs.length=26):∃ a0 a1 a2 a3 a4 a5 a6 a7 a8 a9 a10 a11 a12 a13 a14 a15 a16 a17 a18 a19 a20 a21 a22 a23 a24 a25,cs=[a0,a1,a2,a3,a4,a5,a6,a7,a8,a9,a10,a11,a12,a13,a14,a15,a16,a17,a18,a19,a20,a21,a22,a23,a24,a25]:=by
 match cs,h with
 | [a0,a1,a2,a3,a4,a5,a6,a7,a8,a9,a10,a11,a12,a13,a14,a15,a16,a17,a18,a19,a20,a21,a22,a23,a24,a25],_=>exact⟨a0,a1,a2,a3,a4,a5,a6,a7,a8,a9,a10,a11,a12,a13,a14,a15,a16,a17,a18,a19,a20,a21,a22,a23,a24,a25,rfl⟩
theorem ty76c (cs:List D) (h:HasTy TP 76 cs):∃ x:Cab,x.Wf/\cs=[.int .i64 x.train.id,.str x.train.name,.int .i64 x.train.length,.int .i64 x.train.speed,.int .i64 x.train.accel,.int .i64 x.train.service,.int .i64 x.train.emergency,.int .i64 x.train.delay,.int .i64 x.train.const,.int .i64 x.train.rate,.int .i64 x.mode,.int .i64 x.brake,.int .i64 x.next,.int .i64 x.est.min,.int .i64 x.est.max,.int .i64 x.est.speed,.int .i64 x.auth.seq,.int .i64 x.auth.endV,.sl 4 (x.auth.profile.map A8.enc),.sl 2 (x.auth.links.map Bb.enc),.int .i64 x.session.peer,.int .i64 x.session.out,.int .i64 x.session.inV,.int .i64 x.session.heard,.bool x.tail.known,.int .i64 x.tail.since]:=by
 obtain⟨h1,h2⟩:=h.struct_inv Tryz.underlying76;rw [qVJ] at h1;obtain⟨a0,a1,a2,a3,a4,a5,a6,a7,a8,a9,a10,a11,a12,a13,a14,a15,a16,a17,a18,a19,a20,a21,a22,a23,a24,a25,rfl⟩:=zBD h1;obtain⟨x0,w0,e0⟩:=ty64c _ (show HasTy TP 64 [a0,a1,a2,a3,a4,a5,a6,a7,a8,a9] from HasTy.fld h2 (i:=0) rfl rfl rfl qVN);replace e0:[a0,a1,a2,a3,a4,a5,a6,a7,a8,a9]=[D.int .i64 x0.id,D.str x0.name,D.int .i64 x0.length,D.int .i64 x0.speed,D.int .i64 x0.accel,D.int .i64 x0.service,D.int .i64 x0.emergency,D.int .i64 x0.delay,D.int .i64 x0.const,D.int .i64 x0.rate]:=e0;simp only [List.cons.injEq,and_true] at e0;obtain⟨f0x0,f0x1,f0x2,f0x3,f0x4,f0x5,f0x6,f0x7,f0x8,f0x9⟩:=e0;obtain⟨x1,e1,w1⟩:=(show HasTy TP 3 [a10] from HasTy.fld h2 (i:=1) rfl rfl rfl bK).int_inv Tryz.underlying3;replace e1:[a10]=[D.int .i64 x1]:=e1;simp only [List.cons.injEq,and_true] at e1;obtain⟨x2,e2,w2⟩:=(show HasTy TP 3 [a11] from HasTy.fld h2 (i:=2) rfl rfl rfl bK).int_inv Tryz.underlying3;replace e2:[a11]=[D.int .i64 x2]:=e2;simp only [List.cons.injEq,and_true] at e2;obtain⟨x3,e3,w3⟩:=(show HasTy TP 3 [a12] from HasTy.fld h2 (i:=3) rfl rfl rfl bK).int_inv Tryz.underlying3;replace e3:[a12]=[D.int .i64 x3]:=e3;simp only [List.cons.injEq,and_true] at e3;obtain⟨x4,w4,e4⟩:=ty66c _ (show HasTy TP 66 [a13,a14,a15] from HasTy.fld h2 (i:=4) rfl rfl rfl qVM);replace e4:[a13,a14,a15]=[D.int .i64 x4.min,D.int .i64 x4.max,D.int .i64 x4.speed]:=e4;simp only [List.cons.injEq,and_true] at e4;obtain⟨f4x0,f4x1,f4x2⟩:=e4;obtain⟨x5,w5,e5⟩:=ty70c _ (show HasTy TP 70 [a16,a17,a18,a19] from HasTy.fld h2 (i:=5) rfl rfl rfl qVL);replace e5:[a16,a17,a18,a19]=[D.int .i64 x5.seq,D.int .i64 x5.endV,D.sl 4 (x5.profile.map A8.enc),D.sl 2 (x5.links.map Bb.enc)]:=e5;simp only [List.cons.injEq,and_true] at e5;obtain⟨f5x0,f5x1,f5x2,f5x3⟩:=e5;obtain⟨x6,w6,e6⟩:=zGK _ (show HasTy TP 72 [a20,a21,a22,a23] from HasTy.fld h2 (i:=6) rfl rfl rfl qNA);replace e6:[a20,a21,a22,a23]=[D.int .i64 x6.peer,D.int .i64 x6.out,D.int .i64 x6.inV,D.int .i64 x6.heard]:=e6;simp only [List.cons.injEq,and_true] at e6;obtain⟨f6x0,f6x1,f6x2,f6x3⟩:=e6;obtain⟨x7,w7,e7⟩:=ty74c _ (show HasTy TP 74 [a24,a25] from HasTy.fld h2 (i:=7) rfl rfl rfl qVK);replace e7:[a24,a25]=[D.bool x7.known,D.int .i64 x7.since]:=e7;simp only [List.cons.injEq,and_true] at e7;obtain⟨f7x0,f7x1⟩:=e7;subst f0x0 f0x1 f0x2 f0x3 f0x4 f0x5 f0x6 f0x7 f0x8 f0x9 e1 e2 e3 f4x0 f4x1 f4x2 f5x0 f5x1 f5x2 f5x3 f6x0 f6x1 f6x2 f6x3 f7x0 f7x1;exact⟨⟨x0,x1,x2,x3,x4,x5,x6,x7⟩,⟨w0,w1,w2,w3,w4,w5,w6,w7⟩,rfl⟩
theorem qVH:TP.cellsOf 81=32:=by kernel_rfl
theorem zBB {cs:List D} (h:cs.length=32):∃ a0 a1 a2 a3 a4 a5 a6 a7 a8 a9 a10 a11 a12 a13 a14 a15 a16 a17 a18 a19 a20 a21 a22 a23 a24 a25 a26 a27 a28 a29 a30 a31,cs=[a0,a1,a2,a3,a4,a5,a6,a7,a8,a9,a10,a11,a12,a13,a14,a15,a16,a17,a18,a19,a20,a21,a22,a23,a24,a25,a26,a27,a28,a29,a30,a31]:=by
 match cs,h with
 | [a0,a1,a2,a3,a4,a5,a6,a7,a8,a9,a10,a11,a12,a13,a14,a15,a16,a17,a18,a19,a20,a21,a22,a23,a24,a25,a26,a27,a28,a29,a30,a31],_=>exact⟨a0,a1,a2,a3,a4,a5,a6,a7,a8,a9,a10,a11,a12,a13,a14,a15,a16,a17,a18,a19,a20,a21,a22,a23,a24,a25,a26,a27,a28,a29,a30,a31,rfl⟩
theorem ty81c (cs:List D) (h:HasTy TP 81 cs):∃ x:Av,x.Wf/\cs=[.sl 3 (x.body.steps.map An.enc),.int .i64 x.body.head,.int .i64 x.body.length,.int .i64 x.speed,.int .i64 x.xV,.int .i64 x.braking,.int .i64 x.cab.train.id,.str x.cab.train.name,.int .i64 x.cab.train.length,.int .i64 x.cab.train.speed,.int .i64 x.cab.train.accel,.int .i64 x.cab.train.service,.int .i64 x.cab.train.emergency,.int .i64 x.cab.train.delay,.int .i64 x.cab.train.const,.int .i64 x.cab.train.rate,.int .i64 x.cab.mode,.int .i64 x.cab.brake,.int .i64 x.cab.next,.int .i64 x.cab.est.min,.int .i64 x.cab.est.max,.int .i64 x.cab.est.speed,.int .i64 x.cab.auth.seq,.int .i64 x.cab.auth.endV,.sl 4 (x.cab.auth.profile.map A8.enc),.sl 2 (x.cab.auth.links.map Bb.enc),.int .i64 x.cab.session.peer,.int .i64 x.cab.session.out,.int .i64 x.cab.session.inV,.int .i64 x.cab.session.heard,.bool x.cab.tail.known,.int .i64 x.cab.tail.since]:=by
 obtain⟨h1,h2⟩:=h.struct_inv Tryz.underlying81;rw [qVH] at h1;obtain⟨a0,a1,a2,a3,a4,a5,a6,a7,a8,a9,a10,a11,a12,a13,a14,a15,a16,a17,a18,a19,a20,a21,a22,a23,a24,a25,a26,a27,a28,a29,a30,a31,rfl⟩:=zBB h1;obtain⟨x0,w0,e0⟩:=ty79c _ (show HasTy TP 79 [a0,a1,a2] from HasTy.fld h2 (i:=0) rfl rfl rfl qVI);replace e0:[a0,a1,a2]=[D.sl 3 (x0.steps.map An.enc),D.int .i64 x0.head,D.int .i64 x0.length]:=e0;simp only [List.cons.injEq,and_true] at e0;obtain⟨f0x0,f0x1,f0x2⟩:=e0;obtain⟨x1,e1,w1⟩:=(show HasTy TP 3 [a3] from HasTy.fld h2 (i:=1) rfl rfl rfl bK).int_inv Tryz.underlying3;replace e1:[a3]=[D.int .i64 x1]:=e1;simp only [List.cons.injEq,and_true] at e1;obtain⟨x2,e2,w2⟩:=(show HasTy TP 3 [a4] from HasTy.fld h2 (i:=2) rfl rfl rfl bK).int_inv Tryz.underlying3;replace e2:[a4]=[D.int .i64 x2]:=e2;simp only [List.cons.injEq,and_true] at e2;obtain⟨x3,e3,w3⟩:=(show HasTy TP 3 [a5] from HasTy.fld h2 (i:=3) rfl rfl rfl bK).int_inv Tryz.underlying3;replace e3:[a5]=[D.int .i64 x3]:=e3;simp only [List.cons.injEq,and_true] at e3;obtain⟨x4,w4,e4⟩:=ty76c _ (show HasTy TP 76 [a6,a7,a8,a9,a10,a11,a12,a13,a14,a15,a16,a17,a18,a19,a20,a21,a22,a23,a24,a25,a26,a27,a28,a29,a30,a31] from HasTy.fld h2 (i:=4) rfl rfl rfl qVJ);replace e4:[a6,a7,a8,a9,a10,a11,a12,a13,a14,a15,a16,a17,a18,a19,a20,a21,a22,a23,a24,a25,a26,a27,a28,a29,a30,a31]=[D.int .i64 x4.train.id,D.str x4.train.name,D.int .i64 x4.train.length,D.int .i64 x4.train.speed,D.int .i64 x4.train.accel,D.int .i64 x4.train.service,D.int .i64 x4.train.emergency,D.int .i64 x4.train.delay,D.int .i64 x4.train.const,D.int .i64 x4.train.rate,D.int .i64 x4.mode,D.int .i64 x4.brake,D.int .i64 x4.next,D.int .i64 x4.est.min,D.int .i64 x4.est.max,D.int .i64 x4.est.speed,D.int .i64 x4.auth.seq,D.int .i64 x4.auth.endV,D.sl 4 (x4.auth.profile.map A8.enc),D.sl 2 (x4.auth.links.map Bb.enc),D.int .i64 x4.session.peer,D.int .i64 x4.session.out,D.int .i64 x4.session.inV,D.int .i64 x4.session.heard,D.bool x4.tail.known,D.int .i64 x4.tail.since]:=e4;simp only [List.cons.injEq,and_true] at e4;obtain⟨f4x0,f4x1,f4x2,f4x3,f4x4,f4x5,f4x6,f4x7,f4x8,f4x9,f4x10,f4x11,f4x12,f4x13,f4x14,f4x15,f4x16,f4x17,f4x18,f4x19,f4x20,f4x21,f4x22,f4x23,f4x24,f4x25⟩:=e4;subst f0x0 f0x1 f0x2 e1 e2 e3 f4x0 f4x1 f4x2 f4x3 f4x4 f4x5 f4x6 f4x7 f4x8 f4x9 f4x10 f4x11 f4x12 f4x13 f4x14 f4x15 f4x16 f4x17 f4x18 f4x19 f4x20 f4x21 f4x22 f4x23 f4x24 f4x25;exact⟨⟨x0,x1,x2,x3,x4⟩,⟨w0,w1,w2,w3,w4⟩,rfl⟩
theorem ty81 (cs:List D) (h:HasTy TP 81 cs):∃ x:Av,x.Wf/\bC TP 81 cs=x.enc:=by
 obtain⟨x,w,rfl⟩:=ty81c cs h;exact⟨x,w,by simp [bC,Tryz.underlying81,Av.enc]⟩
theorem qRF:TP.cellsOf 115=14:=by kernel_rfl
theorem ty115c (cs:List D) (h:HasTy TP 115 cs):∃ x:A5,x.Wf/\cs=[.int .i64 x.id,.int .i64 x.origin,.int .i64 x.endV,.int .i64 x.atV,.sl 3 (x.steps.map An.enc),.sl 1 (x.Ab.map (D.int .i64)),.sl 1 (x.starts.map (D.int .i64)),.sl 1 (x.ends.map (D.int .i64)),.sl 1 (x.done.map (D.int .i64)),.int .i64 x.min,.int .i64 x.sent,.int .i64 x.accepted,.int .i64 x.cut,.int .i64 x.cutSeq]:=by
 obtain⟨h1,h2⟩:=h.struct_inv Tryz.underlying115;rw [qRF] at h1;obtain⟨a0,a1,a2,a3,a4,a5,a6,a7,a8,a9,a10,a11,a12,a13,rfl⟩:=qPO h1;obtain⟨x0,e0,w0⟩:=(show HasTy TP 3 [a0] from HasTy.fld h2 (i:=0) rfl rfl rfl bK).int_inv Tryz.underlying3;replace e0:[a0]=[D.int .i64 x0]:=e0;simp only [List.cons.injEq,and_true] at e0;obtain⟨x1,e1,w1⟩:=(show HasTy TP 3 [a1] from HasTy.fld h2 (i:=1) rfl rfl rfl bK).int_inv Tryz.underlying3;replace e1:[a1]=[D.int .i64 x1]:=e1;simp only [List.cons.injEq,and_true] at e1;obtain⟨x2,e2,w2⟩:=(show HasTy TP 3 [a2] from HasTy.fld h2 (i:=2) rfl rfl rfl bK).int_inv Tryz.underlying3;replace e2:[a2]=[D.int .i64 x2]:=e2;simp only [List.cons.injEq,and_true] at e2;obtain⟨x3,e3,w3⟩:=(show HasTy TP 3 [a3] from HasTy.fld h2 (i:=3) rfl rfl rfl bK).int_inv Tryz.underlying3;replace e3:[a3]=[D.int .i64 x3]:=e3;simp only [List.cons.injEq,and_true] at e3;obtain⟨x4,e4,l4,m4⟩:=(show HasTy TP 77 [a4] from HasTy.fld h2 (i:=4) rfl rfl rfl qER).list Tryz.underlying77 An.enc An.Wf (λcs _ h=>qUF cs h);rw [wG] at e4;have w4:=And.intro l4 m4;replace e4:[a4]=[D.sl 3 (x4.map An.enc)]:=e4;simp only [List.cons.injEq,and_true] at e4;obtain⟨x5,e5,l5,m5⟩:=(show HasTy TP 30 [a5] from HasTy.fld h2 (i:=5) rfl rfl rfl kP).list Tryz.underlying30 (D.int .i64) I64 (λcs _ h=>ty3 cs h);rw [bK] at e5;have w5:=And.intro l5 m5;replace e5:[a5]=[D.sl 1 (x5.map (D.int .i64))]:=e5;simp only [List.cons.injEq,and_true] at e5;obtain⟨x6,e6,l6,m6⟩:=(show HasTy TP 30 [a6] from HasTy.fld h2 (i:=6) rfl rfl rfl kP).list Tryz.underlying30 (D.int .i64) I64 (λcs _ h=>ty3 cs h);rw [bK] at e6;have w6:=And.intro l6 m6;replace e6:[a6]=[D.sl 1 (x6.map (D.int .i64))]:=e6;simp only [List.cons.injEq,and_true] at e6;obtain⟨x7,e7,l7,m7⟩:=(show HasTy TP 30 [a7] from HasTy.fld h2 (i:=7) rfl rfl rfl kP).list Tryz.underlying30 (D.int .i64) I64 (λcs _ h=>ty3 cs h);rw [bK] at e7;have w7:=And.intro l7 m7;replace e7:[a7]=[D.sl 1 (x7.map (D.int .i64))]:=e7;simp only [List.cons.injEq,and_true] at e7;obtain⟨x8,e8,l8,m8⟩:=(show HasTy TP 30 [a8] from HasTy.fld h2 (i:=8) rfl rfl rfl kP).list Tryz.underlying30 (D.int .i64) I64 (λcs _ h=>ty3 cs h);rw [bK] at e8;have w8:=And.intro l8 m8;replace e8:[a8]=[D.sl 1 (x8.map (D.int .i64))]:=e8;simp only [List.cons.injEq,and_true] at e8;obtain⟨x9,e9,w9⟩:=(show HasTy TP 3 [a9] from HasTy.fld h2 (i:=9) rfl rfl rfl bK).int_inv Tryz.underlying3;replace e9:[a9]=[D.int .i64 x9]:=e9;simp only [List.cons.injEq,and_true] at e9;obtain⟨x10,e10,w10⟩:=(show HasTy TP 3 [a10] from HasTy.fld h2 (i:=10) rfl rfl rfl bK).int_inv Tryz.underlying3;replace e10:[a10]=[D.int .i64 x10]:=e10;simp only [List.cons.injEq,and_true] at e10;obtain⟨x11,e11,w11⟩:=(show HasTy TP 3 [a11] from HasTy.fld h2 (i:=11) rfl rfl rfl bK).int_inv Tryz.underlying3;replace e11:[a11]=[D.int .i64 x11]:=e11;simp only [List.cons.injEq,and_true] at e11
 obtain⟨x12,e12,w12⟩:=(show HasTy TP 3 [a12] from HasTy.fld h2 (i:=12) rfl rfl rfl bK).int_inv Tryz.underlying3;replace e12:[a12]=[D.int .i64 x12]:=e12;simp only [List.cons.injEq,and_true] at e12;obtain⟨x13,e13,w13⟩:=(show HasTy TP 3 [a13] from HasTy.fld h2 (i:=13) rfl rfl rfl bK).int_inv Tryz.underlying3;replace e13:[a13]=[D.int .i64 x13]:=e13;simp only [List.cons.injEq,and_true] at e13;subst e0 e1 e2 e3 e4 e5 e6 e7 e8 e9 e10 e11 e12 e13;exact⟨⟨x0,x1,x2,x3,x4,x5,x6,x7,x8,x9,x10,x11,x12,x13⟩,⟨w0,w1,w2,w3,w4,w5,w6,w7,w8,w9,w10,w11,w12,w13⟩,rfl⟩
theorem ty115 (cs:List D) (h:HasTy TP 115 cs):∃ x:A5,x.Wf/\bC TP 115 cs=x.enc:=by
 obtain⟨x,w,rfl⟩:=ty115c cs h;exact⟨x,w,by simp [bC,Tryz.underlying115,A5.enc]⟩
theorem qVP:TP.cellsOf 42=2:=by kernel_rfl
theorem zFH:TP.cellsOf 39=1:=by kernel_rfl
theorem zFG:TP.cellsOf 40=1:=by kernel_rfl
theorem ty42c (cs:List D) (h:HasTy TP 42 cs):∃ x:Bg,x.Wf/\cs=[.sl 14 (x.tracks.map A5.enc),.sl 4 (x.sessions.map Ax.enc)]:=by
 obtain⟨h1,h2⟩:=h.struct_inv Tryz.underlying42;rw [qVP] at h1;obtain⟨a0,a1,rfl⟩:=rR h1;obtain⟨x0,e0,l0,m0⟩:=(show HasTy TP 39 [a0] from HasTy.fld h2 (i:=0) rfl rfl rfl zFH).list Tryz.underlying39 A5.enc A5.Wf (λcs _ h=>ty115 cs h);rw [qRF] at e0;have w0:=And.intro l0 m0;replace e0:[a0]=[D.sl 14 (x0.map A5.enc)]:=e0;simp only [List.cons.injEq,and_true] at e0;obtain⟨x1,e1,l1,m1⟩:=(show HasTy TP 40 [a1] from HasTy.fld h2 (i:=1) rfl rfl rfl zFG).list Tryz.underlying40 Ax.enc Ax.Wf (λcs _ h=>ty72 cs h);rw [qNA] at e1;have w1:=And.intro l1 m1;replace e1:[a1]=[D.sl 4 (x1.map Ax.enc)]:=e1;simp only [List.cons.injEq,and_true] at e1;subst e0 e1;exact⟨⟨x0,x1⟩,⟨w0,w1⟩,rfl⟩
theorem qVF:TP.cellsOf 89=4:=by kernel_rfl
theorem ty89c (cs:List D) (h:HasTy TP 89 cs):∃ x:A9,x.Wf/\cs=[.int .i64 x.fromV,.int .i64 x.to,.int .i64 x.age,.str x.data]:=by
 obtain⟨h1,h2⟩:=h.struct_inv Tryz.underlying89;rw [qVF] at h1;obtain⟨a0,a1,a2,a3,rfl⟩:=oX h1;obtain⟨x0,e0,w0⟩:=(show HasTy TP 3 [a0] from HasTy.fld h2 (i:=0) rfl rfl rfl bK).int_inv Tryz.underlying3;replace e0:[a0]=[D.int .i64 x0]:=e0;simp only [List.cons.injEq,and_true] at e0;obtain⟨x1,e1,w1⟩:=(show HasTy TP 3 [a1] from HasTy.fld h2 (i:=1) rfl rfl rfl bK).int_inv Tryz.underlying3;replace e1:[a1]=[D.int .i64 x1]:=e1;simp only [List.cons.injEq,and_true] at e1;obtain⟨x2,e2,w2⟩:=(show HasTy TP 3 [a2] from HasTy.fld h2 (i:=2) rfl rfl rfl bK).int_inv Tryz.underlying3;replace e2:[a2]=[D.int .i64 x2]:=e2;simp only [List.cons.injEq,and_true] at e2;obtain⟨x3,e3,w3⟩:=(show HasTy TP 9 [a3] from HasTy.fld h2 (i:=3) rfl rfl rfl sK).str_inv Tryz.underlying9;replace e3:[a3]=[D.str x3]:=e3;simp only [List.cons.injEq,and_true] at e3;subst e0 e1 e2 e3;exact⟨⟨x0,x1,x2,x3⟩,⟨w0,w1,w2,w3⟩,rfl⟩
theorem ty89 (cs:List D) (h:HasTy TP 89 cs):∃ x:A9,x.Wf/\bC TP 89 cs=x.enc:=by
 obtain⟨x,w,rfl⟩:=ty89c cs h;exact⟨x,w,by simp [bC,Tryz.underlying89,A9.enc]⟩
theorem qQX:TP.cellsOf 320=3:=by kernel_rfl
theorem ty320c (cs:List D) (h:HasTy TP 320 cs):∃ x:Be,x.Wf/\cs=[.int .i64 x.kind,.int .i64 x.atV,.int .i64 x.untilV]:=by
 obtain⟨h1,h2⟩:=h.struct_inv Tryz.underlying320;rw [qQX] at h1;obtain⟨a0,a1,a2,rfl⟩:=rQ h1;obtain⟨x0,e0,w0⟩:=(show HasTy TP 3 [a0] from HasTy.fld h2 (i:=0) rfl rfl rfl bK).int_inv Tryz.underlying3;replace e0:[a0]=[D.int .i64 x0]:=e0;simp only [List.cons.injEq,and_true] at e0;obtain⟨x1,e1,w1⟩:=(show HasTy TP 3 [a1] from HasTy.fld h2 (i:=1) rfl rfl rfl bK).int_inv Tryz.underlying3;replace e1:[a1]=[D.int .i64 x1]:=e1;simp only [List.cons.injEq,and_true] at e1;obtain⟨x2,e2,w2⟩:=(show HasTy TP 3 [a2] from HasTy.fld h2 (i:=2) rfl rfl rfl bK).int_inv Tryz.underlying3;replace e2:[a2]=[D.int .i64 x2]:=e2;simp only [List.cons.injEq,and_true] at e2;subst e0 e1 e2;exact⟨⟨x0,x1,x2⟩,⟨w0,w1,w2⟩,rfl⟩
theorem ty320 (cs:List D) (h:HasTy TP 320 cs):∃ x:Be,x.Wf/\bC TP 320 cs=x.enc:=by
 obtain⟨x,w,rfl⟩:=ty320c cs h;exact⟨x,w,by simp [bC,Tryz.underlying320,Be.enc]⟩
theorem qQW:TP.cellsOf 322=4:=by kernel_rfl
theorem ty322c (cs:List D) (h:HasTy TP 322 cs):∃ x:Bl,x.Wf/\cs=[.int .i64 x.kind,.int .i64 x.subject,.int .i64 x.since,.str x.byV]:=by
 obtain⟨h1,h2⟩:=h.struct_inv Tryz.underlying322;rw [qQW] at h1;obtain⟨a0,a1,a2,a3,rfl⟩:=oX h1;obtain⟨x0,e0,w0⟩:=(show HasTy TP 3 [a0] from HasTy.fld h2 (i:=0) rfl rfl rfl bK).int_inv Tryz.underlying3;replace e0:[a0]=[D.int .i64 x0]:=e0;simp only [List.cons.injEq,and_true] at e0;obtain⟨x1,e1,w1⟩:=(show HasTy TP 3 [a1] from HasTy.fld h2 (i:=1) rfl rfl rfl bK).int_inv Tryz.underlying3;replace e1:[a1]=[D.int .i64 x1]:=e1;simp only [List.cons.injEq,and_true] at e1;obtain⟨x2,e2,w2⟩:=(show HasTy TP 3 [a2] from HasTy.fld h2 (i:=2) rfl rfl rfl bK).int_inv Tryz.underlying3;replace e2:[a2]=[D.int .i64 x2]:=e2;simp only [List.cons.injEq,and_true] at e2;obtain⟨x3,e3,w3⟩:=(show HasTy TP 9 [a3] from HasTy.fld h2 (i:=3) rfl rfl rfl sK).str_inv Tryz.underlying9;replace e3:[a3]=[D.str x3]:=e3;simp only [List.cons.injEq,and_true] at e3;subst e0 e1 e2 e3;exact⟨⟨x0,x1,x2,x3⟩,⟨w0,w1,w2,w3⟩,rfl⟩
theorem ty322 (cs:List D) (h:HasTy TP 322 cs):∃ x:Bl,x.Wf/\bC TP 322 cs=x.enc:=by
 obtain⟨x,w,rfl⟩:=ty322c cs h;exact⟨x,w,by simp [bC,Tryz.underlying322,Bl.enc]⟩
theorem qQV:TP.cellsOf 324=4:=by kernel_rfl
theorem ty324c (cs:List D) (h:HasTy TP 324 cs):∃ x:Ay,x.Wf/\cs=[.int .i64 x.As,.int .i64 x.since,.str x.byV,.str x.withV]:=by
 obtain⟨h1,h2⟩:=h.struct_inv Tryz.underlying324;rw [qQV] at h1;obtain⟨a0,a1,a2,a3,rfl⟩:=oX h1;obtain⟨x0,e0,w0⟩:=(show HasTy TP 3 [a0] from HasTy.fld h2 (i:=0) rfl rfl rfl bK).int_inv Tryz.underlying3;replace e0:[a0]=[D.int .i64 x0]:=e0;simp only [List.cons.injEq,and_true] at e0;obtain⟨x1,e1,w1⟩:=(show HasTy TP 3 [a1] from HasTy.fld h2 (i:=1) rfl rfl rfl bK).int_inv Tryz.underlying3;replace e1:[a1]=[D.int .i64 x1]:=e1;simp only [List.cons.injEq,and_true] at e1;obtain⟨x2,e2,w2⟩:=(show HasTy TP 9 [a2] from HasTy.fld h2 (i:=2) rfl rfl rfl sK).str_inv Tryz.underlying9;replace e2:[a2]=[D.str x2]:=e2;simp only [List.cons.injEq,and_true] at e2;obtain⟨x3,e3,w3⟩:=(show HasTy TP 9 [a3] from HasTy.fld h2 (i:=3) rfl rfl rfl sK).str_inv Tryz.underlying9;replace e3:[a3]=[D.str x3]:=e3;simp only [List.cons.injEq,and_true] at e3;subst e0 e1 e2 e3;exact⟨⟨x0,x1,x2,x3⟩,⟨w0,w1,w2,w3⟩,rfl⟩
theorem ty324 (cs:List D) (h:HasTy TP 324 cs):∃ x:Ay,x.Wf/\bC TP 324 cs=x.enc:=by
 obtain⟨x,w,rfl⟩:=ty324c cs h;exact⟨x,w,by simp [bC,Tryz.underlying324,Ay.enc]⟩
theorem qQU:TP.cellsOf 326=6:=by kernel_rfl
theorem ty326c (cs:List D) (h:HasTy TP 326 cs):∃ x:Au,x.Wf/\cs=[.int .i64 x.id,.int .i64 x.el,.int .i64 x.fromV,.int .i64 x.to,.int .i64 x.speed,.bool x.active]:=by
 obtain⟨h1,h2⟩:=h.struct_inv Tryz.underlying326;rw [qQU] at h1;obtain⟨a0,a1,a2,a3,a4,a5,rfl⟩:=qUV h1;obtain⟨x0,e0,w0⟩:=(show HasTy TP 3 [a0] from HasTy.fld h2 (i:=0) rfl rfl rfl bK).int_inv Tryz.underlying3;replace e0:[a0]=[D.int .i64 x0]:=e0;simp only [List.cons.injEq,and_true] at e0;obtain⟨x1,e1,w1⟩:=(show HasTy TP 3 [a1] from HasTy.fld h2 (i:=1) rfl rfl rfl bK).int_inv Tryz.underlying3;replace e1:[a1]=[D.int .i64 x1]:=e1;simp only [List.cons.injEq,and_true] at e1;obtain⟨x2,e2,w2⟩:=(show HasTy TP 3 [a2] from HasTy.fld h2 (i:=2) rfl rfl rfl bK).int_inv Tryz.underlying3;replace e2:[a2]=[D.int .i64 x2]:=e2;simp only [List.cons.injEq,and_true] at e2;obtain⟨x3,e3,w3⟩:=(show HasTy TP 3 [a3] from HasTy.fld h2 (i:=3) rfl rfl rfl bK).int_inv Tryz.underlying3;replace e3:[a3]=[D.int .i64 x3]:=e3;simp only [List.cons.injEq,and_true] at e3;obtain⟨x4,e4,w4⟩:=(show HasTy TP 3 [a4] from HasTy.fld h2 (i:=4) rfl rfl rfl bK).int_inv Tryz.underlying3;replace e4:[a4]=[D.int .i64 x4]:=e4;simp only [List.cons.injEq,and_true] at e4;obtain⟨x5,e5⟩:=(show HasTy TP 4 [a5] from HasTy.fld h2 (i:=5) rfl rfl rfl qTR).bool_inv Tryz.underlying4;have w5:=trivial;replace e5:[a5]=[D.bool x5]:=e5;simp only [List.cons.injEq,and_true] at e5;subst e0 e1 e2 e3 e4 e5;exact⟨⟨x0,x1,x2,x3,x4,x5⟩,⟨w0,w1,w2,w3,w4,w5⟩,rfl⟩
theorem ty326 (cs:List D) (h:HasTy TP 326 cs):∃ x:Au,x.Wf/\bC TP 326 cs=x.enc:=by
 obtain⟨x,w,rfl⟩:=ty326c cs h;exact⟨x,w,by simp [bC,Tryz.underlying326,Au.enc]⟩
theorem qQT:TP.cellsOf 328=3:=by kernel_rfl
theorem ty328c (cs:List D) (h:HasTy TP 328 cs):∃ x:Bf,x.Wf/\cs=[.int .i64 x.train,.int .i64 x.kind,.int .i64 x.untilV]:=by
 obtain⟨h1,h2⟩:=h.struct_inv Tryz.underlying328;rw [qQT] at h1;obtain⟨a0,a1,a2,rfl⟩:=rQ h1;obtain⟨x0,e0,w0⟩:=(show HasTy TP 3 [a0] from HasTy.fld h2 (i:=0) rfl rfl rfl bK).int_inv Tryz.underlying3;replace e0:[a0]=[D.int .i64 x0]:=e0;simp only [List.cons.injEq,and_true] at e0;obtain⟨x1,e1,w1⟩:=(show HasTy TP 3 [a1] from HasTy.fld h2 (i:=1) rfl rfl rfl bK).int_inv Tryz.underlying3;replace e1:[a1]=[D.int .i64 x1]:=e1;simp only [List.cons.injEq,and_true] at e1;obtain⟨x2,e2,w2⟩:=(show HasTy TP 3 [a2] from HasTy.fld h2 (i:=2) rfl rfl rfl bK).int_inv Tryz.underlying3;replace e2:[a2]=[D.int .i64 x2]:=e2;simp only [List.cons.injEq,and_true] at e2;subst e0 e1 e2;exact⟨⟨x0,x1,x2⟩,⟨w0,w1,w2⟩,rfl⟩
theorem ty328 (cs:List D) (h:HasTy TP 328 cs):∃ x:Bf,x.Wf/\bC TP 328 cs=x.enc:=by
 obtain⟨x,w,rfl⟩:=ty328c cs h;exact⟨x,w,by simp [bC,Tryz.underlying328,Bf.enc]⟩
theorem qRD:TP.cellsOf 135=4:=by kernel_rfl
theorem ty135c (cs:List D) (h:HasTy TP 135 cs):∃ x:Stop,x.Wf/\cs=[.int .i64 x.route,.int .i64 x.due,.int .i64 x.run,.int .i64 x.weight]:=by
 obtain⟨h1,h2⟩:=h.struct_inv Tryz.underlying135;rw [qRD] at h1;obtain⟨a0,a1,a2,a3,rfl⟩:=oX h1;obtain⟨x0,e0,w0⟩:=(show HasTy TP 3 [a0] from HasTy.fld h2 (i:=0) rfl rfl rfl bK).int_inv Tryz.underlying3;replace e0:[a0]=[D.int .i64 x0]:=e0;simp only [List.cons.injEq,and_true] at e0;obtain⟨x1,e1,w1⟩:=(show HasTy TP 3 [a1] from HasTy.fld h2 (i:=1) rfl rfl rfl bK).int_inv Tryz.underlying3;replace e1:[a1]=[D.int .i64 x1]:=e1;simp only [List.cons.injEq,and_true] at e1;obtain⟨x2,e2,w2⟩:=(show HasTy TP 3 [a2] from HasTy.fld h2 (i:=2) rfl rfl rfl bK).int_inv Tryz.underlying3;replace e2:[a2]=[D.int .i64 x2]:=e2;simp only [List.cons.injEq,and_true] at e2;obtain⟨x3,e3,w3⟩:=(show HasTy TP 3 [a3] from HasTy.fld h2 (i:=3) rfl rfl rfl bK).int_inv Tryz.underlying3;replace e3:[a3]=[D.int .i64 x3]:=e3;simp only [List.cons.injEq,and_true] at e3;subst e0 e1 e2 e3;exact⟨⟨x0,x1,x2,x3⟩,⟨w0,w1,w2,w3⟩,rfl⟩
theorem ty135 (cs:List D) (h:HasTy TP 135 cs):∃ x:Stop,x.Wf/\bC TP 135 cs=x.enc:=by
 obtain⟨x,w,rfl⟩:=ty135c cs h;exact⟨x,w,by simp [bC,Tryz.underlying135,Stop.enc]⟩
theorem qVG:TP.cellsOf 87=2:=by kernel_rfl
theorem zET:TP.cellsOf 85=1:=by kernel_rfl
theorem ty87c (cs:List D) (h:HasTy TP 87 cs):∃ x:A6,x.Wf/\cs=[.int .i64 x.train,.sl 4 (x.stops.map Stop.enc)]:=by
 obtain⟨h1,h2⟩:=h.struct_inv Tryz.underlying87;rw [qVG] at h1;obtain⟨a0,a1,rfl⟩:=rR h1;obtain⟨x0,e0,w0⟩:=(show HasTy TP 3 [a0] from HasTy.fld h2 (i:=0) rfl rfl rfl bK).int_inv Tryz.underlying3;replace e0:[a0]=[D.int .i64 x0]:=e0;simp only [List.cons.injEq,and_true] at e0;obtain⟨x1,e1,l1,m1⟩:=(show HasTy TP 85 [a1] from HasTy.fld h2 (i:=1) rfl rfl rfl zET).list Tryz.underlying85 Stop.enc Stop.Wf (λcs _ h=>ty135 cs h);rw [qRD] at e1;have w1:=And.intro l1 m1;replace e1:[a1]=[D.sl 4 (x1.map Stop.enc)]:=e1;simp only [List.cons.injEq,and_true] at e1;subst e0 e1;exact⟨⟨x0,x1⟩,⟨w0,w1⟩,rfl⟩
theorem ty87 (cs:List D) (h:HasTy TP 87 cs):∃ x:A6,x.Wf/\bC TP 87 cs=x.enc:=by
 obtain⟨x,w,rfl⟩:=ty87c cs h;exact⟨x,w,by simp [bC,Tryz.underlying87,A6.enc]⟩
theorem qVO:TP.cellsOf 52=2:=by kernel_rfl
theorem zEY:TP.cellsOf 50=1:=by kernel_rfl
theorem ty52c (cs:List D) (h:HasTy TP 52 cs):∃ x:A7,x.Wf/\cs=[.sl 1 (x.starts.map (λ(l:List Int)=>D.sl 1 (l.map (D.int .i64)))),.int .i64 x.cost]:=by
 obtain⟨h1,h2⟩:=h.struct_inv Tryz.underlying52;rw [qVO] at h1;obtain⟨a0,a1,rfl⟩:=rR h1;obtain⟨x0,e0,l0,m0⟩:=(show HasTy TP 50 [a0] from HasTy.fld h2 (i:=0) rfl rfl rfl zEY).list Tryz.underlying50 (λ(l:List Int)=>D.sl 1 (l.map (D.int .i64))) (λl=>l.length<=reachBytes/\∀ x∈l,I64 x) (λcs _ h=>ty30 cs h);rw [kP] at e0;have w0:=And.intro l0 m0;replace e0:[a0]=[D.sl 1 (x0.map (λ(l:List Int)=>D.sl 1 (l.map (D.int .i64))))]:=e0;simp only [List.cons.injEq,and_true] at e0;obtain⟨x1,e1,w1⟩:=(show HasTy TP 3 [a1] from HasTy.fld h2 (i:=1) rfl rfl rfl bK).int_inv Tryz.underlying3;replace e1:[a1]=[D.int .i64 x1]:=e1;simp only [List.cons.injEq,and_true] at e1;subst e0 e1;exact⟨⟨x0,x1⟩,⟨w0,w1⟩,rfl⟩
theorem qQS:TP.cellsOf 330=5:=by kernel_rfl
theorem ty330c (cs:List D) (h:HasTy TP 330 cs):∃ x:A3,x.Wf/\cs=[.int .i64 x.atV,.int .i64 x.trip,.int .i64 x.stop,.int .i64 x.route,.int .i64 x.delay]:=by
 obtain⟨h1,h2⟩:=h.struct_inv Tryz.underlying330;rw [qQS] at h1;obtain⟨a0,a1,a2,a3,a4,rfl⟩:=qUW h1;obtain⟨x0,e0,w0⟩:=(show HasTy TP 3 [a0] from HasTy.fld h2 (i:=0) rfl rfl rfl bK).int_inv Tryz.underlying3;replace e0:[a0]=[D.int .i64 x0]:=e0;simp only [List.cons.injEq,and_true] at e0;obtain⟨x1,e1,w1⟩:=(show HasTy TP 3 [a1] from HasTy.fld h2 (i:=1) rfl rfl rfl bK).int_inv Tryz.underlying3;replace e1:[a1]=[D.int .i64 x1]:=e1;simp only [List.cons.injEq,and_true] at e1;obtain⟨x2,e2,w2⟩:=(show HasTy TP 3 [a2] from HasTy.fld h2 (i:=2) rfl rfl rfl bK).int_inv Tryz.underlying3;replace e2:[a2]=[D.int .i64 x2]:=e2;simp only [List.cons.injEq,and_true] at e2;obtain⟨x3,e3,w3⟩:=(show HasTy TP 3 [a3] from HasTy.fld h2 (i:=3) rfl rfl rfl bK).int_inv Tryz.underlying3;replace e3:[a3]=[D.int .i64 x3]:=e3;simp only [List.cons.injEq,and_true] at e3;obtain⟨x4,e4,w4⟩:=(show HasTy TP 3 [a4] from HasTy.fld h2 (i:=4) rfl rfl rfl bK).int_inv Tryz.underlying3;replace e4:[a4]=[D.int .i64 x4]:=e4;simp only [List.cons.injEq,and_true] at e4;subst e0 e1 e2 e3 e4;exact⟨⟨x0,x1,x2,x3,x4⟩,⟨w0,w1,w2,w3,w4⟩,rfl⟩
theorem ty330 (cs:List D) (h:HasTy TP 330 cs):∃ x:A3,x.Wf/\bC TP 330 cs=x.enc:=by
 obtain⟨x,w,rfl⟩:=ty330c cs h;exact⟨x,w,by simp [bC,Tryz.underlying330,A3.enc]⟩
theorem zEW:TP.cellsOf 55=30:=by kernel_rfl
theorem zFK:TP.cellsOf 36=1:=by kernel_rfl
theorem zFJ:TP.cellsOf 37=1:=by kernel_rfl
theorem zFI:TP.cellsOf 38=1:=by kernel_rfl
theorem zFF:TP.cellsOf 43=1:=by kernel_rfl
theorem zFE:TP.cellsOf 44=1:=by kernel_rfl
theorem zFD:TP.cellsOf 45=1:=by kernel_rfl
theorem zFC:TP.cellsOf 46=1:=by kernel_rfl
theorem zFB:TP.cellsOf 47=1:=by kernel_rfl
theorem zFA:TP.cellsOf 48=1:=by kernel_rfl
theorem zEZ:TP.cellsOf 49=1:=by kernel_rfl
theorem zEX:TP.cellsOf 53=1:=by kernel_rfl
theorem zBC {cs:List D} (h:cs.length=30):∃ a0 a1 a2 a3 a4 a5 a6 a7 a8 a9 a10 a11 a12 a13 a14 a15 a16 a17 a18 a19 a20 a21 a22 a23 a24 a25 a26 a27 a28 a29,cs=[a0,a1,a2,a3,a4,a5,a6,a7,a8,a9,a10,a11,a12,a13,a14,a15,a16,a17,a18,a19,a20,a21,a22,a23,a24,a25,a26,a27,a28,a29]:=by
 match cs,h with
 | [a0,a1,a2,a3,a4,a5,a6,a7,a8,a9,a10,a11,a12,a13,a14,a15,a16,a17,a18,a19,a20,a21,a22,a23,a24,a25,a26,a27,a28,a29],_=>exact⟨a0,a1,a2,a3,a4,a5,a6,a7,a8,a9,a10,a11,a12,a13,a14,a15,a16,a17,a18,a19,a20,a21,a22,a23,a24,a25,a26,a27,a28,a29,rfl⟩
theorem ty55c (cs:List D) (h:HasTy TP 55 cs):∃ x:Am,x.Wf/\cs=[.str x.layout.name,.sl 1 (x.layout.Ad.map D.str),.sl 7 (x.layout.Af.map Aw.enc),.sl 4 (x.layout.joints.map Ba.enc),.sl 4 (x.layout.Ah.map A0.enc),.sl 3 (x.layout.balises.map A4.enc),.sl 14 (x.Aq.Ab.map Ai.enc),.sl 1 (x.Aq.Ae.map (D.int .i64)),.sl 1 (x.Aq.A1.map (D.int .i64)),.int .i64 x.Aq.Ad,.int .i64 x.Aq.Ah,.sl 3 (x.inter.Ab.map Ak.enc),.sl 1 (x.inter.lies.map (D.int .i64)),.sl 3 (x.machines.map Ar.enc),.sl 1 (x.clear.map D.bool),.sl 32 (x.units.map Av.enc),.sl 14 (x.center.tracks.map A5.enc),.sl 4 (x.center.sessions.map Ax.enc),.sl 4 (x.air.map A9.enc),.sl 3 (x.faults.map Be.enc),.sl 4 (x.pending.map Bl.enc),.sl 4 (x.possessions.map Ay.enc),.sl 6 (x.restrictions.map Au.enc),.sl 3 (x.orders.map Bf.enc),.sl 2 (x.trips.map A6.enc),.sl 1 (x.plan.starts.map (λ(l:List Int)=>D.sl 1 (l.map (D.int .i64)))),.int .i64 x.plan.cost,.sl 1 (x.progress.map (D.int .i64)),.sl 5 (x.decisions.map A3.enc),.int .i64 x.now]:=by
 obtain⟨h1,h2⟩:=h.struct_inv Tryz.underlying55;rw [zEW] at h1;obtain⟨a0,a1,a2,a3,a4,a5,a6,a7,a8,a9,a10,a11,a12,a13,a14,a15,a16,a17,a18,a19,a20,a21,a22,a23,a24,a25,a26,a27,a28,a29,rfl⟩:=zBC h1;obtain⟨x0,w0,e0⟩:=ty28c _ (show HasTy TP 28 [a0,a1,a2,a3,a4,a5] from HasTy.fld h2 (i:=0) rfl rfl rfl qVS);replace e0:[a0,a1,a2,a3,a4,a5]=[D.str x0.name,D.sl 1 (x0.Ad.map D.str),D.sl 7 (x0.Af.map Aw.enc),D.sl 4 (x0.joints.map Ba.enc),D.sl 4 (x0.Ah.map A0.enc),D.sl 3 (x0.balises.map A4.enc)]:=e0;simp only [List.cons.injEq,and_true] at e0;obtain⟨f0x0,f0x1,f0x2,f0x3,f0x4,f0x5⟩:=e0;obtain⟨x1,w1,e1⟩:=ty32c _ (show HasTy TP 32 [a6,a7,a8,a9,a10] from HasTy.fld h2 (i:=1) rfl rfl rfl qVR);replace e1:[a6,a7,a8,a9,a10]=[D.sl 14 (x1.Ab.map Ai.enc),D.sl 1 (x1.Ae.map (D.int .i64)),D.sl 1 (x1.A1.map (D.int .i64)),D.int .i64 x1.Ad,D.int .i64 x1.Ah]:=e1;simp only [List.cons.injEq,and_true] at e1;obtain⟨f1x0,f1x1,f1x2,f1x3,f1x4⟩:=e1;obtain⟨x2,w2,e2⟩:=ty35c _ (show HasTy TP 35 [a11,a12] from HasTy.fld h2 (i:=2) rfl rfl rfl qVQ);replace e2:[a11,a12]=[D.sl 3 (x2.Ab.map Ak.enc),D.sl 1 (x2.lies.map (D.int .i64))]:=e2;simp only [List.cons.injEq,and_true] at e2;obtain⟨f2x0,f2x1⟩:=e2;obtain⟨x3,e3,l3,m3⟩:=(show HasTy TP 36 [a13] from HasTy.fld h2 (i:=3) rfl rfl rfl zFK).list Tryz.underlying36 Ar.enc Ar.Wf (λcs _ h=>ty129 cs h);rw [qRE] at e3;have w3:=And.intro l3 m3;replace e3:[a13]=[D.sl 3 (x3.map Ar.enc)]:=e3;simp only [List.cons.injEq,and_true] at e3;obtain⟨x4,e4,l4,m4⟩:=(show HasTy TP 37 [a14] from HasTy.fld h2 (i:=4) rfl rfl rfl zFJ).list Tryz.underlying37 D.bool (λ_=>True) (λcs _ h=>ty4 cs h);rw [qTR] at e4;have w4:=And.intro l4 m4;replace e4:[a14]=[D.sl 1 (x4.map D.bool)]:=e4;simp only [List.cons.injEq,and_true] at e4;obtain⟨x5,e5,l5,m5⟩:=(show HasTy TP 38 [a15] from HasTy.fld h2 (i:=5) rfl rfl rfl zFI).list Tryz.underlying38 Av.enc Av.Wf (λcs _ h=>ty81 cs h);rw [qVH] at e5;have w5:=And.intro l5 m5;replace e5:[a15]=[D.sl 32 (x5.map Av.enc)]:=e5;simp only [List.cons.injEq,and_true] at e5;obtain⟨x6,w6,e6⟩:=ty42c _ (show HasTy TP 42 [a16,a17] from HasTy.fld h2 (i:=6) rfl rfl rfl qVP);replace e6:[a16,a17]=[D.sl 14 (x6.tracks.map A5.enc),D.sl 4 (x6.sessions.map Ax.enc)]:=e6;simp only [List.cons.injEq,and_true] at e6;obtain⟨f6x0,f6x1⟩:=e6;obtain⟨x7,e7,l7,m7⟩:=(show HasTy TP 43 [a18] from HasTy.fld h2 (i:=7) rfl rfl rfl zFF).list Tryz.underlying43 A9.enc A9.Wf (λcs _ h=>ty89 cs h);rw [qVF] at e7;have w7:=And.intro l7 m7;replace e7:[a18]=[D.sl 4 (x7.map A9.enc)]:=e7;simp only [List.cons.injEq,and_true] at e7;obtain⟨x8,e8,l8,m8⟩:=(show HasTy TP 44 [a19] from HasTy.fld h2 (i:=8) rfl rfl rfl zFE).list Tryz.underlying44 Be.enc Be.Wf (λcs _ h=>ty320 cs h);rw [qQX] at e8;have w8:=And.intro l8 m8;replace e8:[a19]=[D.sl 3 (x8.map Be.enc)]:=e8
 simp only [List.cons.injEq,and_true] at e8;obtain⟨x9,e9,l9,m9⟩:=(show HasTy TP 45 [a20] from HasTy.fld h2 (i:=9) rfl rfl rfl zFD).list Tryz.underlying45 Bl.enc Bl.Wf (λcs _ h=>ty322 cs h);rw [qQW] at e9;have w9:=And.intro l9 m9;replace e9:[a20]=[D.sl 4 (x9.map Bl.enc)]:=e9;simp only [List.cons.injEq,and_true] at e9;obtain⟨x10,e10,l10,m10⟩:=(show HasTy TP 46 [a21] from HasTy.fld h2 (i:=10) rfl rfl rfl zFC).list Tryz.underlying46 Ay.enc Ay.Wf (λcs _ h=>ty324 cs h);rw [qQV] at e10;have w10:=And.intro l10 m10;replace e10:[a21]=[D.sl 4 (x10.map Ay.enc)]:=e10;simp only [List.cons.injEq,and_true] at e10;obtain⟨x11,e11,l11,m11⟩:=(show HasTy TP 47 [a22] from HasTy.fld h2 (i:=11) rfl rfl rfl zFB).list Tryz.underlying47 Au.enc Au.Wf (λcs _ h=>ty326 cs h);rw [qQU] at e11;have w11:=And.intro l11 m11;replace e11:[a22]=[D.sl 6 (x11.map Au.enc)]:=e11;simp only [List.cons.injEq,and_true] at e11;obtain⟨x12,e12,l12,m12⟩:=(show HasTy TP 48 [a23] from HasTy.fld h2 (i:=12) rfl rfl rfl zFA).list Tryz.underlying48 Bf.enc Bf.Wf (λcs _ h=>ty328 cs h);rw [qQT] at e12;have w12:=And.intro l12 m12;replace e12:[a23]=[D.sl 3 (x12.map Bf.enc)]:=e12;simp only [List.cons.injEq,and_true] at e12;obtain⟨x13,e13,l13,m13⟩:=(show HasTy TP 49 [a24] from HasTy.fld h2 (i:=13) rfl rfl rfl zEZ).list Tryz.underlying49 A6.enc A6.Wf (λcs _ h=>ty87 cs h);rw [qVG] at e13;have w13:=And.intro l13 m13;replace e13:[a24]=[D.sl 2 (x13.map A6.enc)]:=e13;simp only [List.cons.injEq,and_true] at e13;obtain⟨x14,w14,e14⟩:=ty52c _ (show HasTy TP 52 [a25,a26] from HasTy.fld h2 (i:=14) rfl rfl rfl qVO);replace e14:[a25,a26]=[D.sl 1 (x14.starts.map (λ(l:List Int)=>D.sl 1 (l.map (D.int .i64)))),D.int .i64 x14.cost]:=e14;simp only [List.cons.injEq,and_true] at e14;obtain⟨f14x0,f14x1⟩:=e14;obtain⟨x15,e15,l15,m15⟩:=(show HasTy TP 30 [a27] from HasTy.fld h2 (i:=15) rfl rfl rfl kP).list Tryz.underlying30 (D.int .i64) I64 (λcs _ h=>ty3 cs h);rw [bK] at e15;have w15:=And.intro l15 m15;replace e15:[a27]=[D.sl 1 (x15.map (D.int .i64))]:=e15;simp only [List.cons.injEq,and_true] at e15;obtain⟨x16,e16,l16,m16⟩:=(show HasTy TP 53 [a28] from HasTy.fld h2 (i:=16) rfl rfl rfl zEX).list Tryz.underlying53 A3.enc A3.Wf (λcs _ h=>ty330 cs h);rw [qQS] at e16;have w16:=And.intro l16 m16;replace e16:[a28]=[D.sl 5 (x16.map A3.enc)]:=e16;simp only [List.cons.injEq,and_true] at e16;obtain⟨x17,e17,w17⟩:=(show HasTy TP 3 [a29] from HasTy.fld h2 (i:=17) rfl rfl rfl bK).int_inv Tryz.underlying3;replace e17:[a29]=[D.int .i64 x17]:=e17;simp only [List.cons.injEq,and_true] at e17;subst f0x0 f0x1 f0x2 f0x3 f0x4 f0x5 f1x0 f1x1 f1x2 f1x3 f1x4 f2x0 f2x1 e3 e4 e5 f6x0 f6x1 e7 e8 e9 e10 e11 e12 e13 f14x0 f14x1 e15 e16 e17;exact⟨⟨x0,x1,x2,x3,x4,x5,x6,x7,x8,x9,x10,x11,x12,x13,x14,x15,x16,x17⟩,⟨w0,w1,w2,w3,w4,w5,w6,w7,w8,w9,w10,w11,w12,w13,w14,w15,w16,w17⟩,rfl⟩
theorem ty55 (cs:List D) (h:HasTy TP 55 cs):∃ x:Am,x.Wf/\bC TP 55 cs=x.enc:=by
 obtain⟨x,w,rfl⟩:=ty55c cs h;exact⟨x,w,by simp [bC,Tryz.underlying55,Am.enc]⟩
def vS (p0:Ag):Option Bool:=
 some ((decide ((p0.Af.length:Int)<=(40:Int)))&&((decide ((p0.joints.length:Int)<=(80:Int)))&&((decide ((p0.Ah.length:Int)<=(30:Int)))&&((decide ((p0.balises.length:Int)<=(40:Int)))&&(decide ((p0.Ad.length:Int)<=(40:Int)))))))
def oD (p0:Al) (p1:Az):Option Bool:=
 bS (
 aY (λx3=>
 if x3 < (p0.Ab.length:Int) then
 aU p0.Ab x3 λe6=>
 if ((decide ((30:Int) < (e6.Ad.length:Int)))||((decide ((30:Int) < (e6.Ao.length:Int)))||((decide ((30:Int) < (e6.Ae.length:Int)))||((decide ((30:Int) < (e6.Aj.length:Int)))||((decide ((30:Int) < (e6.At.length:Int)))||(decide ((30:Int) < (e6.path.length:Int))))))))=true then
 aQ (
 aQ (
 some false))
 else
 aC (I64 (x3+(1:Int))) <|
 some (.inl (x3+(1:Int)))
 else
 aQ (
 some (.inl ()))) (0:Int)) λ_=>
 some ((decide ((p0.Ab.length:Int)<=(50:Int)))&&((decide ((p0.Ae.length:Int)<=(40:Int)))&&((decide ((p0.A1.length:Int)<=(40:Int)))&&((decide ((p1.Ab.length:Int)<=(50:Int)))&&(decide ((p1.lies.length:Int)<=(40:Int)))))))
def sZ (p0:Bg):Option Bool:=
 bS (
 aY (λx3=>
 if x3 < (p0.tracks.length:Int) then
 aU p0.tracks x3 λe6=>
 if ((decide ((100:Int) < (e6.steps.length:Int)))||((decide ((60:Int) < (e6.Ab.length:Int)))||((decide ((60:Int) < (e6.starts.length:Int)))||((decide ((60:Int) < (e6.ends.length:Int)))||(decide ((60:Int) < (e6.done.length:Int)))))))=true then
 aQ (
 aQ (
 some false))
 else
 aC (I64 (x3+(1:Int))) <|
 some (.inl (x3+(1:Int)))
 else
 aQ (
 some (.inl ()))) (0:Int)) λ_=>
 some ((decide ((p0.tracks.length:Int)<=(10:Int)))&&(decide ((p0.sessions.length:Int)<=(10:Int))))
def sY (p0:Am):Option Bool:=
 if ((decide ((10:Int) < (p0.units.length:Int)))||((decide ((40:Int) < (p0.machines.length:Int)))||((decide ((40:Int) < (p0.clear.length:Int)))||((decide ((100:Int) < (p0.air.length:Int)))||((decide ((30:Int) < (p0.faults.length:Int)))||((decide ((30:Int) < (p0.pending.length:Int)))||((decide ((40:Int) < (p0.possessions.length:Int)))||((decide ((30:Int) < (p0.restrictions.length:Int)))||((decide ((30:Int) < (p0.orders.length:Int)))||((decide ((6:Int) < (p0.trips.length:Int)))||((decide ((10:Int) < (p0.plan.starts.length:Int)))||((decide ((10:Int) < (p0.progress.length:Int)))||(decide ((200:Int) < (p0.decisions.length:Int)))))))))))))))=true then
 some false
 else
 bS (
 aY (λx16=>
 if x16 < (p0.units.length:Int) then
 aB (
 aU p0.units x16 λe21=>
 if (100:Int) < (e21.body.steps.length:Int) then
 some true
 else
 aU p0.units x16 λe23=>
 if (200:Int) < (e23.cab.auth.profile.length:Int) then
 some true
 else
 aU p0.units x16 λe25=>
 some (decide ((100:Int) < (e25.cab.auth.links.length:Int)))) λx19=>
 if x19=true then
 aQ (
 aQ (
 some false))
 else
 aC (I64 (x16+(1:Int))) <|
 some (.inl (x16+(1:Int)))
 else
 aQ (
 some (.inl ()))) (0:Int)) λ_=>
 bS (
 aY (λx33=>
 if x33 < (p0.trips.length:Int) then
 aU p0.trips x33 λe36=>
 if (6:Int) < (e36.stops.length:Int) then
 aQ (
 aQ (
 some false))
 else
 aC (I64 (x33+(1:Int))) <|
 some (.inl (x33+(1:Int)))
 else
 aQ (
 some (.inl ()))) (0:Int)) λ_=>
 bS (
 aY (λx44=>
 if x44 < (p0.air.length:Int) then
 aU p0.air x44 λe47=>
 if (5000:Int) < (e47.data.size:Int) then
 aQ (
 aQ (
 some false))
 else
 aC (I64 (x44+(1:Int))) <|
 some (.inl (x44+(1:Int)))
 else
 aQ (
 some (.inl ()))) (0:Int)) λ_=>
 aB (
 aB (vS p0.layout) λr55=>
 if r55=true then
 aB (oD p0.Aq p0.inter) λr57=>
 if r57=true then
 aB (sZ p0.center) λr59=>
 some r59
 else
 some false
 else
 some false) λx53=>
 some x53
def nS (p0:Ag):Option Bh:=
 aC ((([]:List BA)++p0.Ad).length<=1000000000) <|
 aB (
 aY (λ(x7,b8)=>
 if x7 < (p0.Af.length:Int) then
 aU p0.Af x7 λe11=>
 aC ((b8++([e11.name]:List BA)).length<=1000000000) <|
 aC (I64 (x7+(1:Int))) <|
 some (.inl ((x7+(1:Int)),(b8++([e11.name]:List BA))))
 else
 aQ (
 some b8)) ((0:Int),([]:List BA))) λb2=>
 aB (
 aY (λ(x20,b21)=>
 if x20 < (p0.Ah.length:Int) then
 aU p0.Ah x20 λe24=>
 aC ((b21++([e24.name]:List BA)).length<=1000000000) <|
 aC (I64 (x20+(1:Int))) <|
 some (.inl ((x20+(1:Int)),(b21++([e24.name]:List BA))))
 else
 aQ (
 some b21)) ((0:Int),([]:List BA))) λb15=>
 some (⟨(([]:List BA)++p0.Ad),b2,b15⟩:Bh)
def mU (p0:BA):Option Bool:=
 bS (
 aY (λi3=>
 if i3 < (p0.size:Int) then
 aB (
 aU p0.data.toList i3 λe8=>
 if (97:Int)<=(e8.toNat:Int) then
 aU p0.data.toList i3 λe10=>
 some (decide ((e10.toNat:Int)<=(122:Int)))
 else
 some false) λletter6=>
 aB (
 aU p0.data.toList i3 λe13=>
 if (48:Int)<=(e13.toNat:Int) then
 aU p0.data.toList i3 λe16=>
 if (e16.toNat:Int)<=(57:Int) then
 some true
 else
 aU p0.data.toList i3 λe18=>
 some (decide ((e18.toNat:Int)=(95:Int)))
 else
 aU p0.data.toList i3 λe15=>
 some (decide ((e15.toNat:Int)=(95:Int)))) λdigit11=>
 if ((!(letter6))&&((!(digit11))||(decide (i3=(0:Int)))))=true then
 aQ (
 aQ (
 some false))
 else
 aC (I64 (i3+(1:Int))) <|
 some (.inl (i3+(1:Int)))
 else
 aQ (
 some (.inl ()))) (0:Int)) λ_=>
 some ((decide ((1:Int)<=(p0.size:Int)))&&(decide ((p0.size:Int)<=(12:Int))))
def jF (p0:(List BA)):Option Bool:=
 bS (
 aY (λx3=>
 if x3 < (p0.length:Int) then
 bS (
 aY (λx8=>
 if x8 < x3 then
 aU p0 x3 λe11=>
 aU p0 x8 λe12=>
 if e11=e12 then
 aQ (
 aQ (
 aQ (
 aQ (
 some true))))
 else
 aC (I64 (x8+(1:Int))) <|
 some (.inl (x8+(1:Int)))
 else
 aQ (
 some (.inl ()))) (0:Int)) λ_=>
 aC (I64 (x3+(1:Int))) <|
 some (.inl (x3+(1:Int)))
 else
 aQ (
 some (.inl ()))) (0:Int)) λ_=>
 some false
def nT (p0:Ag):Option Int:=
 if ((decide ((p0.Af.length:Int) < (1:Int)))||((decide ((32:Int) < (p0.Af.length:Int)))||((decide ((p0.Ad.length:Int) < (1:Int)))||((decide ((24:Int) < (p0.Ad.length:Int)))||((decide ((20:Int) < (p0.Ah.length:Int)))||(decide ((24:Int) < (p0.balises.length:Int))))))))=true then
 some (2:Int)
 else
 aB (nS p0) λr7=>
 bS (
 aC ((([p0.name]:List BA)++r7.a0).length<=1000000000) <|
 aC (((([p0.name]:List BA)++r7.a0)++r7.a1).length<=1000000000) <|
 aC ((((([p0.name]:List BA)++r7.a0)++r7.a1)++r7.a2).length<=1000000000) <|
 aY (λx13=>
 if x13 < ((((([p0.name]:List BA)++r7.a0)++r7.a1)++r7.a2).length:Int) then
 aU (((([p0.name]:List BA)++r7.a0)++r7.a1)++r7.a2) x13 λe16=>
 aB (mU e16) λr17=>
 if (!(r17))=true then
 aQ (
 aQ (
 some (3:Int)))
 else
 aC (I64 (x13+(1:Int))) <|
 some (.inl (x13+(1:Int)))
 else
 aQ (
 some (.inl ()))) (0:Int)) λ_=>
 aB (
 aB (jF r7.a0) λr25=>
 if r25=true then
 some true
 else
 aB (jF r7.a1) λr27=>
 if r27=true then
 some true
 else
 aB (jF r7.a2) λr29=>
 some r29) λx23=>
 if x23=true then
 some (8:Int)
 else
 some (0:Int)
def nR (p0:Ag) (p1:Aw):Option Bool:=
 if ((decide (p1.kind < (1:Int)))||((decide ((3:Int) < p1.kind))||((decide (p1.length < (500:Int)))||((decide ((1000000:Int) < p1.length))||((decide (p1.grade < (-50:Int)))||((decide ((50:Int) < p1.grade))||((decide (p1.speed < (100:Int)))||((decide ((10000:Int) < p1.speed))||((decide (p1.As < (0:Int)))||(decide ((p0.Ad.length:Int)<=p1.As)))))))))))=true then
 some false
 else
 if p1.kind=(2:Int) then
 some ((decide ((100:Int)<=p1.slow))&&(decide (p1.slow<=p1.speed)))
 else
 some (decide (p1.slow=(0:Int)))
def kK (p0:Ag) (p1:Int):Option ((List Int)):=
 aB (
 aY (λ(x6,b7)=>
 if x6 < (p0.Af.length:Int) then
 aU p0.Af x6 λe10=>
 if ((decide (e10.As=p1))&&((decide ((0:Int)<=p1))&&(decide (p1 < (p0.Ad.length:Int)))))=true then
 aC ((b7++([x6]:List Int)).length<=1000000000) <|
 aC (I64 (x6+(1:Int))) <|
 some (.inl ((x6+(1:Int)),(b7++([x6]:List Int))))
 else
 aC (I64 (x6+(1:Int))) <|
 some (.inl ((x6+(1:Int)),b7))
 else
 aQ (
 some b7)) ((0:Int),([]:List Int))) λb1=>
 some b1
def jJ (p0:Int):Option Int:=
 if p0=(1:Int) then
 some (2:Int)
 else
 if p0=(2:Int) then
 some (3:Int)
 else
 if p0=(3:Int) then
 some (4:Int)
 else
 some (0:Int)
def hJ (p0:Ag) (p1:End):Option Bool:=
 aB (
 if (0:Int)<=p1.el then
 if p1.el < (p0.Af.length:Int) then
 if (0:Int)<=p1.side then
 aU p0.Af p1.el λe6=>
 aB (jJ e6.kind) λr7=>
 some (decide (p1.side < r7))
 else
 some false
 else
 some false
 else
 some false) λx1=>
 some x1
def mS (p0:(List End)):Option Bool:=
 bS (
 aY (λx3=>
 if x3 < (p0.length:Int) then
 bS (
 aY (λx8=>
 if x8 < x3 then
 aU p0 x3 λe11=>
 aU p0 x8 λe12=>
 aC (End.ok e11/\End.ok e12) <|
 if e11=e12 then
 aQ (
 aQ (
 aQ (
 aQ (
 some true))))
 else
 aC (I64 (x8+(1:Int))) <|
 some (.inl (x8+(1:Int)))
 else
 aQ (
 some (.inl ()))) (0:Int)) λ_=>
 aC (I64 (x3+(1:Int))) <|
 some (.inl (x3+(1:Int)))
 else
 aQ (
 some (.inl ()))) (0:Int)) λ_=>
 some false
def jG (p0:Ag):Option Int:=
 bS (
 aY (λx3=>
 if x3 < (p0.Af.length:Int) then
 aU p0.Af x3 λe6=>
 aB (nR p0 e6) λr7=>
 if (!(r7))=true then
 aQ (
 aQ (
 some (1:Int)))
 else
 aC (I64 (x3+(1:Int))) <|
 some (.inl (x3+(1:Int)))
 else
 aQ (
 some (.inl ()))) (0:Int)) λ_=>
 bS (
 aY (λx15=>
 if x15 < (p0.Ad.length:Int) then
 aB (kK p0 x15) λr18=>
 if (r18.length:Int)=(0:Int) then
 aQ (
 aQ (
 some (1:Int)))
 else
 aC (I64 (x15+(1:Int))) <|
 some (.inl (x15+(1:Int)))
 else
 aQ (
 some (.inl ()))) (0:Int)) λ_=>
 bS (
 aY (λ(x29,b30)=>
 if x29 < (p0.joints.length:Int) then
 aU p0.joints x29 λe33=>
 aB (
 aB (hJ p0 e33.a) λr36=>
 if (!(r36))=true then
 some true
 else
 aB (hJ p0 e33.b) λr38=>
 if (!(r38))=true then
 some true
 else
 aC (End.ok e33.a/\End.ok e33.b) <|
 some (decide (e33.a=e33.b))) λx34=>
 if x34=true then
 aQ (
 aQ (
 some (1:Int)))
 else
 aC ((b30++([e33.a,e33.b]:List End)).length<=1000000000) <|
 aC (I64 (x29+(1:Int))) <|
 some (.inl ((x29+(1:Int)),(b30++([e33.a,e33.b]:List End))))
 else
 aQ (
 some (.inl b30))) ((0:Int),([]:List End))) λb24=>
 aB (mS b24) λr48=>
 if r48=true then
 some (8:Int)
 else
 some (0:Int)
def eA (p0:Ag) (p1:End):Option (End×Bool):=
 bS (
 aY (λx3=>
 if x3 < (p0.joints.length:Int) then
 aU p0.joints x3 λe6=>
 aC (End.ok e6.a/\End.ok p1) <|
 if e6.a=p1 then
 aQ (
 aQ (
 some (e6.b,true)))
 else
 aC (End.ok e6.b/\End.ok p1) <|
 if e6.b=p1 then
 aQ (
 aQ (
 some (e6.a,true)))
 else
 aC (I64 (x3+(1:Int))) <|
 some (.inl (x3+(1:Int)))
 else
 aQ (
 some (.inl ()))) (0:Int)) λ_=>
 some ((⟨(0:Int),(0:Int)⟩:End),false)
def kH (p0:Ag):Option Int:=
 bS (
 aY (λ(x6,b7)=>
 if x6 < (p0.Ah.length:Int) then
 aU p0.Ah x6 λe10=>
 aB (
 aB (hJ p0 e10.atV) λr13=>
 if (!(r13))=true then
 some true
 else
 if e10.overlap < (0:Int) then
 some true
 else
 some (decide ((1000000:Int) < e10.overlap))) λx11=>
 if x11=true then
 aQ (
 aQ (
 some (1:Int)))
 else
 aC ((b7++([e10.atV]:List End)).length<=1000000000) <|
 aC (I64 (x6+(1:Int))) <|
 some (.inl ((x6+(1:Int)),(b7++([e10.atV]:List End))))
 else
 aQ (
 some (.inl b7))) ((0:Int),([]:List End))) λb1=>
 aB (mS b1) λr22=>
 if r22=true then
 some (8:Int)
 else
 bS (
 aY (λx26=>
 if x26 < (b1.length:Int) then
 aU b1 x26 λe29=>
 aB (eA p0 e29) λ(r31,r32)=>
 aB (
 if (!(r32))=true then
 some true
 else
 aU p0.Af r31.el λe36=>
 aU p0.Af e29.el λe37=>
 some (decide (e36.As=e37.As))) λx33=>
 if x33=true then
 aQ (
 aQ (
 some (14:Int)))
 else
 aC (I64 (x26+(1:Int))) <|
 some (.inl (x26+(1:Int)))
 else
 aQ (
 some (.inl ()))) (0:Int)) λ_=>
 some (0:Int)
def kI (p0:(List Int)):Option Bool:=
 bS (
 aY (λx3=>
 if x3 < (p0.length:Int) then
 bS (
 aY (λx8=>
 if x8 < x3 then
 aU p0 x3 λe11=>
 aU p0 x8 λe12=>
 if e11=e12 then
 aQ (
 aQ (
 aQ (
 aQ (
 some true))))
 else
 aC (I64 (x8+(1:Int))) <|
 some (.inl (x8+(1:Int)))
 else
 aQ (
 some (.inl ()))) (0:Int)) λ_=>
 aC (I64 (x3+(1:Int))) <|
 some (.inl (x3+(1:Int)))
 else
 aQ (
 some (.inl ()))) (0:Int)) λ_=>
 some false
def kJ (p0:Ag):Option Int:=
 bS (
 aY (λ(x6,b7)=>
 if x6 < (p0.balises.length:Int) then
 aU p0.balises x6 λe10=>
 aB (
 if e10.id < (1:Int) then
 some true
 else
 if (1073741824:Int) < e10.id then
 some true
 else
 if e10.el < (0:Int) then
 some true
 else
 if (p0.Af.length:Int)<=e10.el then
 some true
 else
 if e10.offset < (0:Int) then
 some true
 else
 aU p0.Af e10.el λe18=>
 some (decide (e18.length < e10.offset))) λx11=>
 if x11=true then
 aQ (
 aQ (
 some (1:Int)))
 else
 aC ((b7++([e10.id]:List Int)).length<=1000000000) <|
 aC (I64 (x6+(1:Int))) <|
 some (.inl ((x6+(1:Int)),(b7++([e10.id]:List Int))))
 else
 aQ (
 some (.inl b7))) ((0:Int),([]:List Int))) λb1=>
 aB (kI b1) λr25=>
 if r25=true then
 some (8:Int)
 else
 some (0:Int)
def jI (p0:Ag):Option Int:=
 aB (nT p0) λr1=>
 if r1=(0:Int) then
 aB (jG p0) λr3=>
 if r3=(0:Int) then
 aB (kH p0) λr5=>
 if r5=(0:Int) then
 aB (kJ p0) λr7=>
 some r7
 else
 some r5
 else
 some r3
 else
 some r1
def fX (p0:Ag) (p1:Int):Option Bool:=
 some ((decide ((0:Int)<=p1))&&(decide (p1 < (p0.Af.length:Int))))
def dU (p0:Int) (p1:Int) (p2:Int):Option (Int×Bool):=
 if ((decide (p0=(1:Int)))||(decide (p0=(3:Int))))=true then
 some ((0:Int),(bif decide ((min p1 p2)=(0:Int)) then ((decide ((max p1 p2)=(1:Int)))||((decide (p0=(3:Int)))&&((decide ((min p1 p2)=(2:Int)))&&(decide ((max p1 p2)=(3:Int)))))) else ((decide (p0=(3:Int)))&&((decide ((min p1 p2)=(2:Int)))&&(decide ((max p1 p2)=(3:Int)))))))
 else
 if ((decide (p0=(2:Int)))&&((decide ((min p1 p2)=(0:Int)))&&(decide ((max p1 p2)=(1:Int)))))=true then
 some ((1:Int),true)
 else
 if ((decide (p0=(2:Int)))&&((decide ((min p1 p2)=(0:Int)))&&(decide ((max p1 p2)=(2:Int)))))=true then
 some ((2:Int),true)
 else
 some ((0:Int),false)
def mT (p0:Int) (p1:Int):Option ((List Int)):=
 aB (
 aY (λ(side6,b7)=>
 if side6 < (4:Int) then
 aB (dU p0 p1 side6) λ(r11,r12)=>
 if r12=true then
 aC ((b7++([side6]:List Int)).length<=1000000000) <|
 aC (I64 (side6+(1:Int))) <|
 some (.inl ((side6+(1:Int)),(b7++([side6]:List Int))))
 else
 aC (I64 (side6+(1:Int))) <|
 some (.inl ((side6+(1:Int)),b7))
 else
 aQ (
 some b7)) ((0:Int),([]:List Int))) λb1=>
 some b1
def gI (p0:Ag) (p1:End):Option ((List An)):=
 aB (fX p0 p1.el) λr1=>
 if (!(r1))=true then
 some ([]:List An)
 else
 aU p0.Af p1.el λe3=>
 aB (mT e3.kind p1.side) λr4=>
 aB (
 aY (λ(i10,b11)=>
 if i10 < (r4.length:Int) then
 aU r4 i10 λe14=>
 aC ((b11++([(⟨p1.el,p1.side,e14⟩:An)]:List An)).length<=1000000000) <|
 aC (I64 (i10+(1:Int))) <|
 some (.inl ((i10+(1:Int)),(b11++([(⟨p1.el,p1.side,e14⟩:An)]:List An))))
 else
 aQ (
 some b11)) ((0:Int),([]:List An))) λb5=>
 some b5
def kV (p0:Ag) (p1:An):Option (Int×Bool):=
 aB (fX p0 p1.el) λr1=>
 if (!(r1))=true then
 some ((0:Int),false)
 else
 aU p0.Af p1.el λe3=>
 aB (dU e3.kind p1.inV p1.out) λ(r5,r6)=>
 some (r5,r6)
def fH (p0:Ag) (p1:An):Option (End×Bool):=
 aB (eA p0 (⟨p1.el,p1.out⟩:End)) λ(r2,r3)=>
 some (r2,r3)
def gT (p0:Ag) (p1:(List An)):Option Bool:=
 if ((decide ((p1.length:Int)=(0:Int)))||(decide ((64:Int) < (p1.length:Int))))=true then
 some false
 else
 bS (
 aY (λi5=>
 if i5 < (p1.length:Int) then
 bS (
 aU p1 i5 λe9=>
 aB (kV p0 e9) λ(r11,r12)=>
 if (!(r12))=true then
 aQ (
 aQ (
 aQ (
 some false)))
 else
 bS (
 if (0:Int) < i5 then
 aC (I64 (i5 - (1:Int))) <|
 aU p1 (i5 - (1:Int)) λe20=>
 aB (fH p0 e20) λ(r22,r23)=>
 aB (
 if (!(r23))=true then
 some true
 else
 aU p1 i5 λe27=>
 if r22.el=e27.el then
 aU p1 i5 λe29=>
 some (!(decide (r22.side=e29.inV)))
 else
 some true) λx24=>
 if x24=true then
 aQ (
 aQ (
 aQ (
 aQ (
 some false))))
 else
 some (.inl ())
 else
 some (.inl ())) λ_=>
 aY (λk36=>
 if k36 < i5 then
 aU p1 k36 λe39=>
 aU p1 i5 λe40=>
 if e39.el=e40.el then
 aQ (
 aQ (
 aQ (
 aQ (
 some false))))
 else
 aC (I64 (k36+(1:Int))) <|
 some (.inl (k36+(1:Int)))
 else
 aQ (
 some (.inl ()))) (0:Int)) λ_=>
 aC (I64 (i5+(1:Int))) <|
 some (.inl (i5+(1:Int)))
 else
 aQ (
 some (.inl ()))) (0:Int)) λ_=>
 some true
def dB (p0:Ag) (p1:Int):Option Int:=
 if ((decide (p1 < (0:Int)))||(decide ((p0.Af.length:Int)<=p1)))=true then
 some (-1:Int)
 else
 aU p0.Af p1 λe3=>
 some e3.As
def sU (p0:(List Int)) (p1:Int):Option Bool:=
 bS (
 aY (λi3=>
 if i3 < (p0.length:Int) then
 aU p0 i3 λe6=>
 if e6=p1 then
 aQ (
 aQ (
 some true))
 else
 aC (I64 (i3+(1:Int))) <|
 some (.inl (i3+(1:Int)))
 else
 aQ (
 some (.inl ()))) (0:Int)) λ_=>
 some false
def fG (p0:Ag) (p1:(List An)):Option ((List Int)):=
 aB (
 aY (λ(i6,b7)=>
 if i6 < (p1.length:Int) then
 aB (
 aU p1 i6 λe12=>
 aB (fX p0 e12.el) λr13=>
 if r13=true then
 aU p1 i6 λe15=>
 aU p0.Af e15.el λe16=>
 aB (sU b7 e16.As) λr17=>
 some (!(r17))
 else
 some false) λx10=>
 if x10=true then
 aU p1 i6 λe19=>
 aU p0.Af e19.el λe20=>
 aC ((b7++([e20.As]:List Int)).length<=1000000000) <|
 aC (I64 (i6+(1:Int))) <|
 some (.inl ((i6+(1:Int)),(b7++([e20.As]:List Int))))
 else
 aC (I64 (i6+(1:Int))) <|
 some (.inl ((i6+(1:Int)),b7))
 else
 aQ (
 some b7)) ((0:Int),([]:List Int))) λb1=>
 some b1
def qE (p0:Ag) (p1:End) (p2:(List An)):Option Bool:=
 aB (
 if (p2.length:Int)=(0:Int) then
 some true
 else
 if (12:Int) < (p2.length:Int) then
 some true
 else
 aU p2 (0:Int) λe5=>
 if e5.el=p1.el then
 aU p2 (0:Int) λe7=>
 if e7.inV=p1.side then
 aB (gT p0 p2) λr9=>
 some (!(r9))
 else
 some true
 else
 some true) λx1=>
 if x1=true then
 some false
 else
 aB (
 aY (λ(changes15,i16)=>
 if i16 < (p2.length:Int) then
 aU p2 i16 λe19=>
 aB (dB p0 e19.el) λr20=>
 aC (I64 (i16 - (1:Int))) <|
 aU p2 (i16 - (1:Int)) λe22=>
 aB (dB p0 e22.el) λr23=>
 if r20=r23 then
 aC (I64 (i16+(1:Int))) <|
 some (.inl (changes15,(i16+(1:Int))))
 else
 aC (I64 (changes15+(1:Int))) <|
 aC (I64 (i16+(1:Int))) <|
 some (.inl ((changes15+(1:Int)),(i16+(1:Int))))
 else
 aQ (
 some changes15)) ((1:Int),(1:Int))) λchanges11=>
 aB (fG p0 p2) λr29=>
 some (decide (changes11=(r29.length:Int)))
def hO (p0:Ag) (p1:End):Option Int:=
 bS (
 aY (λx3=>
 if x3 < (p0.Ah.length:Int) then
 aU p0.Ah x3 λe6=>
 aC (End.ok e6.atV/\End.ok p1) <|
 if e6.atV=p1 then
 aQ (
 aQ (
 some x3))
 else
 aC (I64 (x3+(1:Int))) <|
 some (.inl (x3+(1:Int)))
 else
 aQ (
 some (.inl ()))) (0:Int)) λ_=>
 some (-1:Int)
def jE (p0:Ag) (p1:An):Option (Int×Bool):=
 aB (hO p0 (⟨p1.el,p1.out⟩:End)) λr1=>
 aB (fH p0 p1) λ(r3,r4)=>
 some (r1,((decide ((0:Int)<=r1))||(!(r4))))
def kS (p0:Ag) (p1:Int) (p2:Int):Option BA:=
 if p2 < (0:Int) then
 aU p0.Ah p1 λe2=>
 aC (e2.name.size+(⟨#[45,101,110,100]⟩:BA).size<=9223372036854775807) <|
 some (e2.name++(⟨#[45,101,110,100]⟩:BA))
 else
 aU p0.Ah p1 λe4=>
 aC (e4.name.size+(⟨#[45]⟩:BA).size<=9223372036854775807) <|
 aU p0.Ah p2 λe6=>
 aC ((e4.name++(⟨#[45]⟩:BA)).size+e6.name.size<=9223372036854775807) <|
 some ((e4.name++(⟨#[45]⟩:BA))++e6.name)
def lX (p0:(List Aa)) (p1:Aa):Option ((List Aa)):=
 aB (
 aY (λ(i7,b8)=>
 aB (
 if i7 < (p0.length:Int) then
 aU p0 i7 λe13=>
 if e13.el < p1.el then
 some true
 else
 aU p0 i7 λe15=>
 if e15.el=p1.el then
 aU p0 i7 λe17=>
 some (decide (e17.pos < p1.pos))
 else
 some false
 else
 some false) λx10=>
 if x10=true then
 aU p0 i7 λe19=>
 aC ((b8++([e19]:List Aa)).length<=1000000000) <|
 aC (I64 (i7+(1:Int))) <|
 some (.inl ((i7+(1:Int)),(b8++([e19]:List Aa))))
 else
 aQ (
 some (i7,b8))) ((0:Int),([]:List Aa))) λ(i1,b2)=>
 aB (
 aB (
 if i1=(p0.length:Int) then
 some true
 else
 aU p0 i1 λe28=>
 aC (Aa.ok e28/\Aa.ok p1) <|
 some (!(decide (e28=p1)))) λx25=>
 if x25=true then
 aC ((b2++([p1]:List Aa)).length<=1000000000) <|
 some (b2++([p1]:List Aa))
 else
 some b2) λb23=>
 aC (0<=i1/\i1<=(p0.length:Int)/\(p0.length:Int)<=(p0.length:Int)) <|
 aC ((b23++(sub p0 i1 (p0.length:Int))).length<=1000000000) <|
 some (b23++(sub p0 i1 (p0.length:Int)))
def gH (p0:Ag) (p1:(List An)):Option ((List Aa)):=
 aB (
 aY (λ(out5,i6)=>
 if i6 < (p1.length:Int) then
 aU p1 i6 λe9=>
 aB (kV p0 e9) λ(r11,r12)=>
 if (r12&&(!(decide (r11=(0:Int)))))=true then
 aU p1 i6 λe15=>
 aB (lX out5 (⟨e15.el,r11⟩:Aa)) λr16=>
 aC (I64 (i6+(1:Int))) <|
 some (.inl (r16,(i6+(1:Int))))
 else
 aC (I64 (i6+(1:Int))) <|
 some (.inl (out5,(i6+(1:Int))))
 else
 aQ (
 some out5)) (([]:List Aa),(0:Int))) λout1=>
 some out1
def gZ (p0:Ag) (p1:(List An)):Option Int:=
 aB (
 aY (λ(sum5,i6)=>
 if i6 < (p1.length:Int) then
 aU p1 i6 λe9=>
 aB (fX p0 e9.el) λr10=>
 if r10=true then
 aU p1 i6 λe12=>
 aU p0.Af e12.el λe13=>
 aC (I64 (sum5+e13.length)) <|
 aC (I64 (i6+(1:Int))) <|
 some (.inl ((sum5+e13.length),(i6+(1:Int))))
 else
 aC (I64 (i6+(1:Int))) <|
 some (.inl (sum5,(i6+(1:Int))))
 else
 aQ (
 some sum5)) ((0:Int),(0:Int))) λsum1=>
 some sum1
def kF (p0:Int):Option BA:=
 aB (
 aY (λ(n5,s6)=>
 if (0:Int) < n5 then
 aC (¬ (10:Int)=0) <|
 aC (I64 ((48:Int)+(n5.tmod (10:Int)))) <|
 aC ((strOfNums ([(IntKind.u8.wrap ((48:Int)+(n5.tmod (10:Int))))]:List Int)).size+s6.size<=9223372036854775807) <|
 aC (¬ (10:Int)=0) <|
 some (.inl ((IntKind.i64.wrap (n5.tdiv (10:Int))),((strOfNums ([(IntKind.u8.wrap ((48:Int)+(n5.tmod (10:Int))))]:List Int))++s6)))
 else
 aQ (
 some s6)) (p0,(⟨#[]⟩:BA))) λs1=>
 some s1
def cZ:Nat->Bp->Ag->End->End->(List An)->Option Bp
 | 0,_,_,_,_,_=>none
 | fu+1,p0,p1,p2,p3,p4=>
 aB (gI p1 p3) λr1=>
 aY (λ(i5,b6)=>
 if i5 < (r1.length:Int) then
 aC ((([]:List An)++p4).length<=1000000000) <|
 aU r1 i5 λe10=>
 aC (((([]:List An)++p4)++([e10]:List An)).length<=1000000000) <|
 aB (qE p1 p2 ((([]:List An)++p4)++([e10]:List An))) λr12=>
 if (!(r12))=true then
 aC (I64 (i5+(1:Int))) <|
 some (.inl ((i5+(1:Int)),b6))
 else
 aU r1 i5 λe15=>
 aB (jE p1 e15) λ(r17,r18)=>
 if r18=true then
 aC ((b6++([((([]:List An)++p4)++([e10]:List An))]:List (List An))).length<=1000000000) <|
 aC (I64 (i5+(1:Int))) <|
 some (.inl ((i5+(1:Int)),(b6++([((([]:List An)++p4)++([e10]:List An))]:List (List An)))))
 else
 aU r1 i5 λe22=>
 aB (fH p1 e22) λ(r24,r25)=>
 aB ((cZ fu) (⟨b6⟩:Bp) p1 p2 r24 ((([]:List An)++p4)++([e10]:List An))) λr26=>
 aC (I64 (i5+(1:Int))) <|
 some (.inl ((i5+(1:Int)),r26.l))
 else
 aQ (
 some (⟨b6⟩:Bp))) ((0:Int),p0.l)
def kT (p0:Bp) (p1:Ag) (p2:End) (p3:End) (p4:(List An)):Option Bp:=cZ lR p0 p1 p2 p3 p4
def qD (p0:Ag) (p1:Int):Option ((List Ai)):=
 if ((decide (p1 < (0:Int)))||(decide ((p0.Ah.length:Int)<=p1)))=true then
 some ([]:List Ai)
 else
 aU p0.Ah p1 λe3=>
 aB (eA p0 e3.atV) λ(r5,r6)=>
 if (!(r6))=true then
 some ([]:List Ai)
 else
 aB (kT (⟨([]:List (List An))⟩:Bp) p0 r5 r5 []) λr8=>
 aB (
 aY (λ(i14,b15)=>
 if i14 < (r8.l.length:Int) then
 aB (
 aU r8.l i14 λe20=>
 aC (I64 ((e20.length:Int) - (1:Int))) <|
 aU e20 ((e20.length:Int) - (1:Int)) λe22=>
 aB (jE p0 e22) λ(r24,r25)=>
 aB (kS p0 p1 r24) λr26=>
 aB (gH p0 e20) λr27=>
 aB (fG p0 e20) λr28=>
 aB (gZ p0 e20) λr29=>
 aU p0.Ah p1 λe30=>
 aB (dB p0 e30.atV.el) λr31=>
 aB (
 aY (λ(before36,k37)=>
 if k37 < i14 then
 aU r8.l k37 λe40=>
 aU r8.l k37 λe41=>
 aC (I64 ((e41.length:Int) - (1:Int))) <|
 aU e40 ((e41.length:Int) - (1:Int)) λe43=>
 aB (jE p0 e43) λ(r45,r46)=>
 aB (kS p0 p1 r45) λr47=>
 aB (kS p0 p1 r24) λr48=>
 if r47=r48 then
 aC (I64 (before36+(1:Int))) <|
 aC (I64 (k37+(1:Int))) <|
 some (.inl ((before36+(1:Int)),(k37+(1:Int))))
 else
 aC (I64 (k37+(1:Int))) <|
 some (.inl (before36,(k37+(1:Int))))
 else
 aQ (
 some before36)) ((1:Int),(0:Int))) λbefore32=>
 aB (
 if (1:Int) < before32 then
 aC (r26.size+(⟨#[46]⟩:BA).size<=9223372036854775807) <|
 aB (kF before32) λr58=>
 aC ((r26++(⟨#[46]⟩:BA)).size+r58.size<=9223372036854775807) <|
 some ((r26++(⟨#[46]⟩:BA))++r58)
 else
 some r26) λc54=>
 aC ((b15++([(⟨c54,p1,r24,e20,r27,r28,r31,r29,([]:List An),([]:List Aa),([]:List Int),([]:List Aa),([]:List Int),([]:List End)⟩:Ai)]:List Ai)).length<=1000000000) <|
 some (b15++([(⟨c54,p1,r24,e20,r27,r28,r31,r29,([]:List An),([]:List Aa),([]:List Int),([]:List Aa),([]:List Int),([]:List End)⟩:Ai)]:List Ai))) λb18=>
 aC (I64 (i14+(1:Int))) <|
 some (.inl ((i14+(1:Int)),b18))
 else
 aQ (
 some b15)) ((0:Int),([]:List Ai))) λb9=>
 some b9
def sT (p0:Ag):Option ((List Ai)×Int):=
 aB (jI p0) λr1=>
 if r1=(0:Int) then
 aB (
 aY (λ(i8,b9)=>
 if i8 < (p0.Ah.length:Int) then
 aB (qD p0 i8) λr12=>
 aC ((b9++r12).length<=1000000000) <|
 aC (I64 (i8+(1:Int))) <|
 some (.inl ((i8+(1:Int)),(b9++r12)))
 else
 aQ (
 some b9)) ((0:Int),([]:List Ai))) λb3=>
 if (48:Int) < (b3.length:Int) then
 some (([]:List Ai),(2:Int))
 else
 some (b3,(0:Int))
 else
 some (([]:List Ai),r1)
def mA (p0:Ag):Option ((List Int)):=
 aB (
 aY (λ(x6,b7)=>
 if x6 < (p0.Af.length:Int) then
 aU p0.Af x6 λe10=>
 if e10.kind=(2:Int) then
 aC ((b7++([x6]:List Int)).length<=1000000000) <|
 aC (I64 (x6+(1:Int))) <|
 some (.inl ((x6+(1:Int)),(b7++([x6]:List Int))))
 else
 aC (I64 (x6+(1:Int))) <|
 some (.inl ((x6+(1:Int)),b7))
 else
 aQ (
 some b7)) ((0:Int),([]:List Int))) λb1=>
 some b1
def tW (p0:Ag) (p1:Ai):Option (A0×Bool):=
 if ((decide (p1.exit < (0:Int)))||(decide ((p0.Ah.length:Int)<=p1.exit)))=true then
 some ((⟨(⟨#[]⟩:BA),(⟨(0:Int),(0:Int)⟩:End),(0:Int)⟩:A0),false)
 else
 aU p0.Ah p1.exit λe3=>
 some (e3,true)
def kE (p0:Ag) (p1:Ai) (p2:(List An)) (p3:Int):Option Bool:=
 bS (
 aY (λx3=>
 if x3 < (p2.length:Int) then
 aU p2 x3 λe6=>
 if e6.el=p3 then
 aQ (
 aQ (
 some true))
 else
 aC (I64 (x3+(1:Int))) <|
 some (.inl (x3+(1:Int)))
 else
 aQ (
 some (.inl ()))) (0:Int)) λ_=>
 bS (
 aY (λx14=>
 if x14 < (p1.Ad.length:Int) then
 aU p1.Ad x14 λe17=>
 aB (dB p0 p3) λr18=>
 if e17=r18 then
 aQ (
 aQ (
 some true))
 else
 aC (I64 (x14+(1:Int))) <|
 some (.inl (x14+(1:Int)))
 else
 aQ (
 some (.inl ()))) (0:Int)) λ_=>
 some false
def qB (p0:Ag) (p1:Ai):Option Ai:=
 aB (tW p0 (⟨p1.name,p1.entry,p1.exit,p1.path,p1.Ae,p1.Ad,p1.A2,p1.length,([]:List An),([]:List Aa),([]:List Int),p1.At,p1.guards,p1.gaps⟩:Ai)) λ(r2,r3)=>
 if (!(r3))=true then
 some (⟨p1.name,p1.entry,p1.exit,p1.path,p1.Ae,p1.Ad,p1.A2,p1.length,([]:List An),([]:List Aa),([]:List Int),p1.At,p1.guards,p1.gaps⟩:Ai)
 else
 aB (eA p0 r2.atV) λ(r6,r7)=>
 aB (
 aY (λ(joined17,c18,c19,b20)=>
 aB (
 if joined17=true then
 aB (gZ p0 b20) λr25=>
 if r25 < r2.overlap then
 if (b20.length:Int) < (12:Int) then
 aB (kE p0 (⟨p1.name,p1.entry,p1.exit,p1.path,p1.Ae,p1.Ad,p1.A2,p1.length,b20,([]:List Aa),([]:List Int),p1.At,p1.guards,p1.gaps⟩:Ai) b20 c18) λr28=>
 some (!(r28))
 else
 some false
 else
 some false
 else
 some false) λx22=>
 if x22=true then
 aB (gI p0 (⟨c18,c19⟩:End)) λr30=>
 if (r30.length:Int)=(0:Int) then
 aQ (
 some (b20,c18,c19))
 else
 aU r30 (0:Int) λe33=>
 aC ((b20++([e33]:List An)).length<=1000000000) <|
 aU r30 (0:Int) λe35=>
 aB (fH p0 e35) λ(r37,r38)=>
 some (.inl (r38,r37.el,r37.side,(b20++([e33]:List An))))
 else
 aQ (
 some (b20,c18,c19))) (r7,r6.el,r6.side,([]:List An))) λ(b8,c9,c10)=>
 aB (gH p0 b8) λr40=>
 aB (fG p0 b8) λr41=>
 some (⟨p1.name,p1.entry,p1.exit,p1.path,p1.Ae,p1.Ad,p1.A2,p1.length,b8,r40,r41,p1.At,p1.guards,p1.gaps⟩:Ai)
def gW (p0:Ag) (p1:An):Option ((List End)):=
 if ((decide (p1.el < (0:Int)))||(decide ((p0.Af.length:Int)<=p1.el)))=true then
 some ([]:List End)
 else
 aU p0.Af p1.el λe3=>
 aB (dU e3.kind p1.inV p1.out) λ(r5,r6)=>
 aB (
 aY (λ(side12,b13)=>
 aB (jJ e3.kind) λr15=>
 if side12 < r15 then
 if (r6&&((!(decide (side12=p1.inV)))&&(!(decide (side12=p1.out)))))=true then
 aC ((b13++([(⟨p1.el,side12⟩:End)]:List End)).length<=1000000000) <|
 aC (I64 (side12+(1:Int))) <|
 some (.inl ((side12+(1:Int)),(b13++([(⟨p1.el,side12⟩:End)]:List End))))
 else
 aC (I64 (side12+(1:Int))) <|
 some (.inl ((side12+(1:Int)),b13))
 else
 aQ (
 some b13)) ((0:Int),([]:List End))) λb7=>
 some b7
def nQ (p0:Ag) (p1:Ai):Option ((List End)):=
 aB (
 aY (λ(i6,b7)=>
 if i6 < (p1.path.length:Int) then
 aU p1.path i6 λe10=>
 aB (gW p0 e10) λr11=>
 aC ((b7++r11).length<=1000000000) <|
 aC (I64 (i6+(1:Int))) <|
 some (.inl ((i6+(1:Int)),(b7++r11)))
 else
 aQ (
 some b7)) ((0:Int),([]:List End))) λb1=>
 aB (
 aY (λ(i20,b21)=>
 if i20 < (p1.over.length:Int) then
 aU p1.over i20 λe24=>
 aB (gW p0 e24) λr25=>
 aC ((b21++r25).length<=1000000000) <|
 aC (I64 (i20+(1:Int))) <|
 some (.inl ((i20+(1:Int)),(b21++r25)))
 else
 aQ (
 some b21)) ((0:Int),b1)) λb15=>
 some b15
def mP (p0:(List An)) (p1:Int):Option Bool:=
 bS (
 aY (λi3=>
 if i3 < (p0.length:Int) then
 aU p0 i3 λe6=>
 if e6.el=p1 then
 aQ (
 aQ (
 some true))
 else
 aC (I64 (i3+(1:Int))) <|
 some (.inl (i3+(1:Int)))
 else
 aQ (
 some (.inl ()))) (0:Int)) λ_=>
 some false
def lF (p0:(List Aa)) (p1:Aa):Option Bool:=
 bS (
 aY (λi3=>
 if i3 < (p0.length:Int) then
 aU p0 i3 λe6=>
 aC (Aa.ok e6/\Aa.ok p1) <|
 if e6=p1 then
 aQ (
 aQ (
 some true))
 else
 aC (I64 (i3+(1:Int))) <|
 some (.inl (i3+(1:Int)))
 else
 aQ (
 some (.inl ()))) (0:Int)) λ_=>
 some false
def rK (p0:Ai) (p1:Aa):Option Bool:=
 aB (
 aB (lF p0.Ae p1) λr3=>
 if r3=true then
 some true
 else
 aB (lF p0.Aj p1) λr5=>
 if r5=true then
 some true
 else
 aB (lF p0.At p1) λr7=>
 some r7) λx1=>
 some x1
def pA (p0:Ai) (p1:End):Option (Aa×Int×Bool):=
 aB (
 if p1.side=(2:Int) then
 some ((2:Int),(1:Int))
 else
 some ((1:Int),(2:Int))) λ(c1,c2)=>
 aB (rK p0 (⟨p1.el,c1⟩:Aa)) λr5=>
 if r5=true then
 some ((⟨(0:Int),(0:Int)⟩:Aa),(-1:Int),false)
 else
 some ((⟨p1.el,c2⟩:Aa),(-1:Int),true)
def pB (p0:Int) (p1:Int) (p2:Int):Option (Int×Bool):=
 bS (
 aY (λout3=>
 if out3 < (4:Int) then
 aB (dU p0 p1 out3) λ(r7,r8)=>
 if (r8&&((decide (r7=(0:Int)))||(decide (r7=p2))))=true then
 aQ (
 aQ (
 some (out3,true)))
 else
 aC (I64 (out3+(1:Int))) <|
 some (.inl (out3+(1:Int)))
 else
 aQ (
 some (.inl ()))) (0:Int)) λ_=>
 some ((0:Int),false)
def lW (p0:Ag) (p1:Ai) (p2:End):Option (Aa×Int×Bool):=
 bS (
 aY (λ(n8,c9,c10)=>
 if n8 < (4:Int) then
 aB (eA p0 (⟨c9,c10⟩:End)) λ(r14,r15)=>
 if (!(r15))=true then
 aQ (
 aQ (
 some ((⟨(0:Int),(0:Int)⟩:Aa),(-1:Int),true)))
 else
 aB (hO p0 r14) λr19=>
 if (0:Int)<=r19 then
 aQ (
 aQ (
 some ((⟨(0:Int),(0:Int)⟩:Aa),r19,true)))
 else
 aB (
 aB (mP p1.path r14.el) λr25=>
 if r25=true then
 some true
 else
 aB (mP p1.over r14.el) λr27=>
 some r27) λx23=>
 if x23=true then
 aQ (
 aQ (
 some ((⟨(0:Int),(0:Int)⟩:Aa),(-1:Int),true)))
 else
 aB (
 if r14.el < (0:Int) then
 some true
 else
 if (p0.Af.length:Int)<=r14.el then
 some true
 else
 aU p0.Af r14.el λe35=>
 if e35.kind=(2:Int) then
 some (decide (r14.side=(0:Int)))
 else
 some false) λx31=>
 if x31=true then
 aQ (
 aQ (
 some ((⟨(0:Int),(0:Int)⟩:Aa),(-1:Int),false)))
 else
 aU p0.Af r14.el λe40=>
 if e40.kind=(2:Int) then
 aB (pA p1 r14) λ(r43,r44,r45)=>
 aQ (
 aQ (
 some (r43,r44,r45)))
 else
 aU p0.Af r14.el λe48=>
 aB (pB e48.kind r14.side (0:Int)) λ(r50,r51)=>
 aC (I64 (n8+(1:Int))) <|
 some (.inl ((n8+(1:Int)),r14.el,r50))
 else
 aQ (
 some (.inl (c9,c10)))) ((0:Int),p2.el,p2.side)) λ(c1,c2)=>
 some ((⟨(0:Int),(0:Int)⟩:Aa),(-1:Int),false)
def sS (p0:(List Aa)) (p1:Aa):Option ((List Aa)):=
 aB (lF p0 p1) λr1=>
 if r1=true then
 some p0
 else
 aB (
 aY (λ(done11,i12,b13)=>
 if i12 < (p0.length:Int) then
 aB (
 aB (
 if (!(done11))=true then
 aU p0 i12 λe22=>
 some (decide (p1.el < e22.el))
 else
 some false) λx19=>
 if x19=true then
 aC ((b13++([p1]:List Aa)).length<=1000000000) <|
 some (true,(b13++([p1]:List Aa)))
 else
 some (done11,b13)) λ(done16,b17)=>
 aU p0 i12 λe25=>
 aC ((b17++([e25]:List Aa)).length<=1000000000) <|
 aC (I64 (i12+(1:Int))) <|
 some (.inl (done16,(i12+(1:Int)),(b17++([e25]:List Aa))))
 else
 aQ (
 some (done11,b13))) (false,(0:Int),([]:List Aa))) λ(done3,b4)=>
 if (!(done3))=true then
 aC ((b4++([p1]:List Aa)).length<=1000000000) <|
 some (b4++([p1]:List Aa))
 else
 some b4
def gK (p0:(List Int)) (p1:Int):Option Bool:=
 bS (
 aY (λi3=>
 if i3 < (p0.length:Int) then
 aU p0 i3 λe6=>
 if e6=p1 then
 aQ (
 aQ (
 some true))
 else
 aC (I64 (i3+(1:Int))) <|
 some (.inl (i3+(1:Int)))
 else
 aQ (
 some (.inl ()))) (0:Int)) λ_=>
 some false
def eV (p0:(List Int)) (p1:Int):Option ((List Int)):=
 aB (gK p0 p1) λr1=>
 if r1=true then
 some p0
 else
 aB (
 aY (λ(done11,i12,b13)=>
 if i12 < (p0.length:Int) then
 aB (
 aB (
 if (!(done11))=true then
 aU p0 i12 λe22=>
 some (decide (p1 < e22))
 else
 some false) λx19=>
 if x19=true then
 aC ((b13++([p1]:List Int)).length<=1000000000) <|
 some (true,(b13++([p1]:List Int)))
 else
 some (done11,b13)) λ(done16,b17)=>
 aU p0 i12 λe25=>
 aC ((b17++([e25]:List Int)).length<=1000000000) <|
 aC (I64 (i12+(1:Int))) <|
 some (.inl (done16,(i12+(1:Int)),(b17++([e25]:List Int))))
 else
 aQ (
 some (done11,b13))) (false,(0:Int),([]:List Int))) λ(done3,b4)=>
 if (!(done3))=true then
 aC ((b4++([p1]:List Int)).length<=1000000000) <|
 some (b4++([p1]:List Int))
 else
 some b4
def kW (p0:(List Int)):Option ((List Int)):=
 aB (
 aY (λ(out5,i6)=>
 if i6 < (p0.length:Int) then
 aU p0 i6 λe9=>
 aB (eV out5 e9) λr10=>
 aC (I64 (i6+(1:Int))) <|
 some (.inl (r10,(i6+(1:Int))))
 else
 aQ (
 some out5)) (([]:List Int),(0:Int))) λout1=>
 some out1
def nU (p0:(List Int)) (p1:(List Int)):Option ((List Int)):=
 aB (kW p0) λr1=>
 aB (
 aY (λ(out6,i7)=>
 if i7 < (p1.length:Int) then
 aU p1 i7 λe10=>
 aB (eV out6 e10) λr11=>
 aC (I64 (i7+(1:Int))) <|
 some (.inl (r11,(i7+(1:Int))))
 else
 aQ (
 some out6)) (r1,(0:Int))) λout2=>
 some out2
def qA (p0:Ag) (p1:Ai):Option Ai:=
 aB (nQ p0 (⟨p1.name,p1.entry,p1.exit,p1.path,p1.Ae,p1.Ad,p1.A2,p1.length,p1.over,p1.Aj,p1.Ao,([]:List Aa),([]:List Int),([]:List End)⟩:Ai)) λr1=>
 aB (
 aY (λ(i11,c12,c13,b14)=>
 if i11 < (r1.length:Int) then
 aU r1 i11 λe17=>
 aB (lW p0 (⟨p1.name,p1.entry,p1.exit,p1.path,p1.Ae,p1.Ad,p1.A2,p1.length,p1.over,p1.Aj,p1.Ao,c12,c13,b14⟩:Ai) e17) λ(r19,r20,r21)=>
 aB (
 if (!(r21))=true then
 aU r1 i11 λe25=>
 aC ((b14++([e25]:List End)).length<=1000000000) <|
 some (b14++([e25]:List End))
 else
 some b14) λb22=>
 aB (
 if r19.pos=(0:Int) then
 some c12
 else
 aB (sS c12 r19) λr30=>
 some r30) λc27=>
 if (0:Int)<=r20 then
 aB (nU c13 ([r20]:List Int)) λr32=>
 aC (I64 (i11+(1:Int))) <|
 some (.inl ((i11+(1:Int)),c27,r32,b22))
 else
 aC (I64 (i11+(1:Int))) <|
 some (.inl ((i11+(1:Int)),c27,c13,b22))
 else
 aQ (
 some (c12,c13,b14))) ((0:Int),([]:List Aa),([]:List Int),([]:List End))) λ(c2,c3,b4)=>
 some (⟨p1.name,p1.entry,p1.exit,p1.path,p1.Ae,p1.Ad,p1.A2,p1.length,p1.over,p1.Aj,p1.Ao,c2,c3,b4⟩:Ai)
def lE (p0:Ag):Option (Al×Int):=
 aB (sT p0) λ(r2,r3)=>
 if r3=(0:Int) then
 aB (mA p0) λr5=>
 aB (
 aY (λ(x11,b12)=>
 if x11 < (r2.length:Int) then
 aU r2 x11 λe15=>
 aB (qB p0 e15) λr16=>
 aB (qA p0 r16) λr17=>
 aC ((b12++([r17]:List Ai)).length<=1000000000) <|
 aC (I64 (x11+(1:Int))) <|
 some (.inl ((x11+(1:Int)),(b12++([r17]:List Ai))))
 else
 aQ (
 some b12)) ((0:Int),([]:List Ai))) λb6=>
 aB (
 aY (λ(x26,b27)=>
 if x26 < (r5.length:Int) then
 aU r5 x26 λe30=>
 aB (dB p0 e30) λr31=>
 aC ((b27++([r31]:List Int)).length<=1000000000) <|
 aC (I64 (x26+(1:Int))) <|
 some (.inl ((x26+(1:Int)),(b27++([r31]:List Int))))
 else
 aQ (
 some b27)) ((0:Int),([]:List Int))) λb21=>
 some ((⟨b6,r5,b21,(p0.Ad.length:Int),(p0.Ah.length:Int)⟩:Al),(0:Int))
 else
 some ((⟨([]:List Ai),([]:List Int),([]:List Int),(0:Int),(0:Int)⟩:Al),r3)
def gJ (p0:(List Int)) (p1:(List Int)):Option Bool:=
 if (p0.length:Int)=(p1.length:Int) then
 bS (
 aY (λx4=>
 if x4 < (p0.length:Int) then
 aU p0 x4 λe7=>
 aU p1 x4 λe8=>
 if e7=e8 then
 aC (I64 (x4+(1:Int))) <|
 some (.inl (x4+(1:Int)))
 else
 aQ (
 aQ (
 some false))
 else
 aQ (
 some (.inl ()))) (0:Int)) λ_=>
 some true
 else
 some false
def kO (p0:(List An)) (p1:(List An)):Option Bool:=
 if (p0.length:Int)=(p1.length:Int) then
 bS (
 aY (λi4=>
 if i4 < (p0.length:Int) then
 aU p0 i4 λe7=>
 aU p1 i4 λe8=>
 aC (An.ok e7/\An.ok e8) <|
 if e7=e8 then
 aC (I64 (i4+(1:Int))) <|
 some (.inl (i4+(1:Int)))
 else
 aQ (
 aQ (
 some false))
 else
 aQ (
 some (.inl ()))) (0:Int)) λ_=>
 some true
 else
 some false
def fR (p0:(List An)) (p1:(List An)):Option Bool:=
 aB (kO p0 p1) λr1=>
 some r1
def gY (p0:(List Aa)) (p1:(List Aa)):Option Bool:=
 if (p0.length:Int)=(p1.length:Int) then
 bS (
 aY (λi4=>
 if i4 < (p0.length:Int) then
 aU p0 i4 λe7=>
 aU p1 i4 λe8=>
 aC (Aa.ok e7/\Aa.ok e8) <|
 if e7=e8 then
 aC (I64 (i4+(1:Int))) <|
 some (.inl (i4+(1:Int)))
 else
 aQ (
 aQ (
 some false))
 else
 aQ (
 some (.inl ()))) (0:Int)) λ_=>
 some true
 else
 some false
def dT (p0:(List Aa)) (p1:(List Aa)):Option Bool:=
 aB (gY p0 p1) λr1=>
 some r1
def lZ (p0:(List Int)) (p1:(List Int)):Option Bool:=
 if (p0.length:Int)=(p1.length:Int) then
 bS (
 aY (λi4=>
 if i4 < (p0.length:Int) then
 aU p0 i4 λe7=>
 aU p1 i4 λe8=>
 if e7=e8 then
 aC (I64 (i4+(1:Int))) <|
 some (.inl (i4+(1:Int)))
 else
 aQ (
 aQ (
 some false))
 else
 aQ (
 some (.inl ()))) (0:Int)) λ_=>
 some true
 else
 some false
def fF (p0:(List Int)) (p1:(List Int)):Option Bool:=
 aB (lZ p0 p1) λr1=>
 some r1
def jC (p0:(List End)) (p1:(List End)):Option Bool:=
 if (p0.length:Int)=(p1.length:Int) then
 bS (
 aY (λi4=>
 if i4 < (p0.length:Int) then
 aU p0 i4 λe7=>
 aU p1 i4 λe8=>
 aC (End.ok e7/\End.ok e8) <|
 if e7=e8 then
 aC (I64 (i4+(1:Int))) <|
 some (.inl (i4+(1:Int)))
 else
 aQ (
 aQ (
 some false))
 else
 aQ (
 some (.inl ()))) (0:Int)) λ_=>
 some true
 else
 some false
def qC (p0:Ai) (p1:Ai):Option Bool:=
 if ((!(decide (p0.name=p1.name)))||((!(decide (p0.entry=p1.entry)))||((!(decide (p0.exit=p1.exit)))||((!(decide (p0.A2=p1.A2)))||(!(decide (p0.length=p1.length)))))))=true then
 some false
 else
 aB (
 aB (fR p0.path p1.path) λr8=>
 if (!(r8))=true then
 some true
 else
 aB (dT p0.Ae p1.Ae) λr10=>
 if (!(r10))=true then
 some true
 else
 aB (fF p0.Ad p1.Ad) λr12=>
 some (!(r12))) λx6=>
 if x6=true then
 some false
 else
 aB (
 aB (fR p0.over p1.over) λr16=>
 if r16=true then
 aB (dT p0.Aj p1.Aj) λr18=>
 if r18=true then
 aB (fF p0.Ao p1.Ao) λr20=>
 if r20=true then
 aB (dT p0.At p1.At) λr22=>
 if r22=true then
 aB (fF p0.guards p1.guards) λr24=>
 if r24=true then
 aB (jC p0.gaps p1.gaps) λr26=>
 some r26
 else
 some false
 else
 some false
 else
 some false
 else
 some false
 else
 some false) λx14=>
 some x14
def pZ (p0:Al) (p1:Al):Option Bool:=
 aB (
 if (p0.Ab.length:Int)=(p1.Ab.length:Int) then
 aB (gJ p0.Ae p1.Ae) λr4=>
 if (!(r4))=true then
 some true
 else
 aB (gJ p0.A1 p1.A1) λr6=>
 if (!(r6))=true then
 some true
 else
 if p0.Ad=p1.Ad then
 some (!(decide (p0.Ah=p1.Ah)))
 else
 some true
 else
 some true) λx1=>
 if x1=true then
 some false
 else
 bS (
 aY (λx12=>
 if x12 < (p0.Ab.length:Int) then
 aU p0.Ab x12 λe15=>
 aU p1.Ab x12 λe16=>
 aB (qC e15 e16) λr17=>
 if (!(r17))=true then
 aQ (
 aQ (
 some false))
 else
 aC (I64 (x12+(1:Int))) <|
 some (.inl (x12+(1:Int)))
 else
 aQ (
 some (.inl ()))) (0:Int)) λ_=>
 some true
def iZ (p0:Al) (p1:(List Int)):Option Bool:=
 bS (
 aY (λx3=>
 if x3 < (p1.length:Int) then
 bS (
 aU p1 x3 λe7=>
 if ((decide (e7 < (0:Int)))||(decide (p0.Ad<=e7)))=true then
 aQ (
 aQ (
 aQ (
 some false)))
 else
 aY (λx14=>
 if x14 < x3 then
 aU p1 x14 λe17=>
 if e17=e7 then
 aQ (
 aQ (
 aQ (
 aQ (
 some false))))
 else
 aC (I64 (x14+(1:Int))) <|
 some (.inl (x14+(1:Int)))
 else
 aQ (
 some (.inl ()))) (0:Int)) λ_=>
 aC (I64 (x3+(1:Int))) <|
 some (.inl (x3+(1:Int)))
 else
 aQ (
 some (.inl ()))) (0:Int)) λ_=>
 some true
def lC (p0:Al) (p1:Ai):Option Bool:=
 if ((decide (p1.entry < (0:Int)))||((decide (p0.Ah<=p1.entry))||((decide (p1.exit < (-1:Int)))||((decide (p0.Ah<=p1.exit))||((decide ((p1.path.length:Int) < (1:Int)))||((decide ((12:Int) < (p1.path.length:Int)))||(decide (p1.length < (1:Int)))))))))=true then
 some false
 else
 aC ((([]:List Int)++p1.Ad).length<=1000000000) <|
 aC (((([]:List Int)++p1.Ad)++p1.Ao).length<=1000000000) <|
 aB (
 if (0:Int) < (p1.Ad.length:Int) then
 aB (iZ p0 ((([]:List Int)++p1.Ad)++p1.Ao)) λr13=>
 if r13=true then
 if (0:Int)<=p1.A2 then
 some (decide (p1.A2 < p0.Ad))
 else
 some false
 else
 some false
 else
 some false) λx10=>
 some x10
def jB (p0:Al) (p1:Int):Option Int:=
 bS (
 aY (λx3=>
 if x3 < (p0.Ae.length:Int) then
 aU p0.Ae x3 λe6=>
 if e6=p1 then
 aQ (
 aQ (
 some x3))
 else
 aC (I64 (x3+(1:Int))) <|
 some (.inl (x3+(1:Int)))
 else
 aQ (
 some (.inl ()))) (0:Int)) λ_=>
 some (-1:Int)
def dO (p0:Al) (p1:(List Aa)):Option Bool:=
 bS (
 aY (λx3=>
 if x3 < (p1.length:Int) then
 aU p1 x3 λe6=>
 aB (
 aB (jB p0 e6.el) λr9=>
 if r9 < (0:Int) then
 some true
 else
 if e6.pos < (1:Int) then
 some true
 else
 if (2:Int) < e6.pos then
 some true
 else
 if (0:Int) < x3 then
 aC (I64 (x3 - (1:Int))) <|
 aU p1 (x3 - (1:Int)) λe15=>
 some (decide (e6.el<=e15.el))
 else
 some false) λx7=>
 if x7=true then
 aQ (
 aQ (
 some false))
 else
 aC (I64 (x3+(1:Int))) <|
 some (.inl (x3+(1:Int)))
 else
 aQ (
 some (.inl ()))) (0:Int)) λ_=>
 some true
def eY (p0:(List Aa)) (p1:(List Aa)):Option Bool:=
 bS (
 aY (λx3=>
 if x3 < (p0.length:Int) then
 bS (
 aU p0 x3 λe7=>
 aY (λx9=>
 if x9 < (p1.length:Int) then
 aU p1 x9 λe12=>
 if ((decide (e7.el=e12.el))&&(!(decide (e7.pos=e12.pos))))=true then
 aQ (
 aQ (
 aQ (
 aQ (
 some false))))
 else
 aC (I64 (x9+(1:Int))) <|
 some (.inl (x9+(1:Int)))
 else
 aQ (
 some (.inl ()))) (0:Int)) λ_=>
 aC (I64 (x3+(1:Int))) <|
 some (.inl (x3+(1:Int)))
 else
 aQ (
 some (.inl ()))) (0:Int)) λ_=>
 some true
def mO (p0:Al) (p1:BA):Option Int:=
 bS (
 aY (λx3=>
 if x3 < (p0.Ab.length:Int) then
 aU p0.Ab x3 λe6=>
 if e6.name=p1 then
 aQ (
 aQ (
 some x3))
 else
 aC (I64 (x3+(1:Int))) <|
 some (.inl (x3+(1:Int)))
 else
 aQ (
 some (.inl ()))) (0:Int)) λ_=>
 some (-1:Int)
def lD (p0:Al):Option Int:=
 if ((decide ((48:Int) < (p0.Ab.length:Int)))||((decide ((32:Int) < (p0.Ae.length:Int)))||((decide (p0.Ad < (0:Int)))||((decide ((24:Int) < p0.Ad))||((decide (p0.Ah < (0:Int)))||(decide ((20:Int) < p0.Ah)))))))=true then
 some (2:Int)
 else
 if (p0.A1.length:Int)=(p0.Ae.length:Int) then
 bS (
 aY (λx10=>
 if x10 < (p0.Ae.length:Int) then
 aU p0.Ae x10 λe13=>
 aB (
 if e13 < (0:Int) then
 some true
 else
 if (0:Int) < x10 then
 aC (I64 (x10 - (1:Int))) <|
 aU p0.Ae (x10 - (1:Int)) λe22=>
 if e13<=e22 then
 some true
 else
 aU p0.A1 x10 λe24=>
 if e24 < (0:Int) then
 some true
 else
 aU p0.A1 x10 λe26=>
 some (decide (p0.Ad<=e26))
 else
 aU p0.A1 x10 λe18=>
 if e18 < (0:Int) then
 some true
 else
 aU p0.A1 x10 λe20=>
 some (decide (p0.Ad<=e20))) λx14=>
 if x14=true then
 aQ (
 aQ (
 some (1:Int)))
 else
 aC (I64 (x10+(1:Int))) <|
 some (.inl (x10+(1:Int)))
 else
 aQ (
 some (.inl ()))) (0:Int)) λ_=>
 bS (
 aY (λx34=>
 if x34 < (p0.Ab.length:Int) then
 aU p0.Ab x34 λe37=>
 aB (
 aB (lC p0 e37) λr40=>
 if (!(r40))=true then
 some true
 else
 aB (dO p0 e37.Ae) λr42=>
 if (!(r42))=true then
 some true
 else
 aB (dO p0 e37.Aj) λr44=>
 if (!(r44))=true then
 some true
 else
 aB (dO p0 e37.At) λr46=>
 some (!(r46))) λx38=>
 if x38=true then
 aQ (
 aQ (
 some (1:Int)))
 else
 aC (I64 (x34+(1:Int))) <|
 some (.inl (x34+(1:Int)))
 else
 aQ (
 some (.inl ()))) (0:Int)) λ_=>
 bS (
 aY (λx54=>
 if x54 < (p0.Ab.length:Int) then
 aU p0.Ab x54 λe57=>
 aB (
 aB (eY e57.Ae e57.Aj) λr60=>
 if (!(r60))=true then
 some true
 else
 aB (eY e57.Ae e57.At) λr62=>
 if (!(r62))=true then
 some true
 else
 aB (eY e57.Aj e57.At) λr64=>
 some (!(r64))) λx58=>
 if x58=true then
 aQ (
 aQ (
 some (10:Int)))
 else
 aC (I64 (x54+(1:Int))) <|
 some (.inl (x54+(1:Int)))
 else
 aQ (
 some (.inl ()))) (0:Int)) λ_=>
 bS (
 aY (λx72=>
 if x72 < (p0.Ab.length:Int) then
 aU p0.Ab x72 λe75=>
 aB (mO p0 e75.name) λr76=>
 if r76=x72 then
 aC (I64 (x72+(1:Int))) <|
 some (.inl (x72+(1:Int)))
 else
 aQ (
 aQ (
 some (8:Int)))
 else
 aQ (
 some (.inl ()))) (0:Int)) λ_=>
 some (0:Int)
 else
 some (1:Int)
def iF (p0:Ak) (p1:Int):Option Bool:=
 aB (
 if p0.state=(0:Int) then
 some (decide (p0.state=(0:Int)))
 else
 if p0.state=(1:Int) then
 some (decide (p0.state=(1:Int)))
 else
 some (decide (p0.state=(2:Int)))) λx1=>
 if x1=true then
 some ((decide (p0.rel=(0:Int)))&&(decide (p0.timer=(0:Int))))
 else
 if p0.state=(3:Int) then
 aB (
 if (0:Int)<=p0.rel then
 if p0.rel < p1 then
 if (0:Int)<=p0.timer then
 if p0.timer < (4:Int) then
 if p0.timer=(0:Int) then
 some true
 else
 aC (I64 (p1 - (1:Int))) <|
 some (decide (p0.rel=(p1 - (1:Int))))
 else
 some false
 else
 some false
 else
 some false
 else
 some false) λx8=>
 some x8
 else
 if p0.state=(4:Int) then
 some ((decide ((0:Int)<=p0.rel))&&((decide (p0.rel < p1))&&((decide ((0:Int)<=p0.timer))&&(decide (p0.timer < (12:Int))))))
 else
 some false
def pY (p0:Al) (p1:Az):Option Bool:=
 aB (
 aB (lD p0) λr3=>
 if r3=(0:Int) then
 if (p1.Ab.length:Int)=(p0.Ab.length:Int) then
 some (!(decide ((p1.lies.length:Int)=(p0.Ae.length:Int))))
 else
 some true
 else
 some true) λx1=>
 if x1=true then
 some false
 else
 bS (
 aY (λi9=>
 if i9 < (p1.Ab.length:Int) then
 aU p1.Ab i9 λe12=>
 aU p0.Ab i9 λe13=>
 aB (iF e12 (e13.Ad.length:Int)) λr14=>
 if (!(r14))=true then
 aQ (
 aQ (
 some false))
 else
 aC (I64 (i9+(1:Int))) <|
 some (.inl (i9+(1:Int)))
 else
 aQ (
 some (.inl ()))) (0:Int)) λ_=>
 bS (
 aY (λi22=>
 if i22 < (p1.lies.length:Int) then
 aB (
 aU p1.lies i22 λe27=>
 if e27=(1:Int) then
 some false
 else
 aU p1.lies i22 λe29=>
 some (!(decide (e29=(2:Int))))) λx25=>
 if x25=true then
 aQ (
 aQ (
 some false))
 else
 aC (I64 (i22+(1:Int))) <|
 some (.inl (i22+(1:Int)))
 else
 aQ (
 some (.inl ()))) (0:Int)) λ_=>
 some true
def eG (p0:Aa) (p1:Aa):Option Bool:=
 some ((decide (p0.el < p1.el))||((decide (p0.el=p1.el))&&(decide (p0.pos < p1.pos))))
def jA (p0:Ai):Option ((List Aa)):=
 aC ((([]:List Aa)++p0.Ae).length<=1000000000) <|
 aC (((([]:List Aa)++p0.Ae)++p0.Aj).length<=1000000000) <|
 aC ((((([]:List Aa)++p0.Ae)++p0.Aj)++p0.At).length<=1000000000) <|
 aY (λb5=>
 aB (
 aY (λ(found11,x12)=>
 if x12 < ((((([]:List Aa)++p0.Ae)++p0.Aj)++p0.At).length:Int) then
 aU (((([]:List Aa)++p0.Ae)++p0.Aj)++p0.At) x12 λe15=>
 aB (
 if (b5.length:Int)=(0:Int) then
 if found11 < (0:Int) then
 some true
 else
 aU (((([]:List Aa)++p0.Ae)++p0.Aj)++p0.At) found11 λe27=>
 aB (eG e15 e27) λr28=>
 some r28
 else
 aC (I64 ((b5.length:Int) - (1:Int))) <|
 aU b5 ((b5.length:Int) - (1:Int)) λe20=>
 aB (eG e20 e15) λr21=>
 if r21=true then
 if found11 < (0:Int) then
 some true
 else
 aU (((([]:List Aa)++p0.Ae)++p0.Aj)++p0.At) found11 λe24=>
 aB (eG e15 e24) λr25=>
 some r25
 else
 some false) λx16=>
 if x16=true then
 aC (I64 (x12+(1:Int))) <|
 some (.inl (x12,(x12+(1:Int))))
 else
 aC (I64 (x12+(1:Int))) <|
 some (.inl (found11,(x12+(1:Int))))
 else
 aQ (
 some found11)) ((-1:Int),(0:Int))) λfound7=>
 if found7 < (0:Int) then
 aQ (
 some b5)
 else
 aU (((([]:List Aa)++p0.Ae)++p0.Aj)++p0.At) found7 λe35=>
 aC ((b5++([e35]:List Aa)).length<=1000000000) <|
 some (.inl (b5++([e35]:List Aa)))) ([]:List Aa)
def jQ (p0:(List Aa)) (p1:Aa):Option Bool:=
 bS (
 aY (λi3=>
 if i3 < (p0.length:Int) then
 aU p0 i3 λe6=>
 aC (Aa.ok e6/\Aa.ok p1) <|
 if e6=p1 then
 aQ (
 aQ (
 some true))
 else
 aC (I64 (i3+(1:Int))) <|
 some (.inl (i3+(1:Int)))
 else
 aQ (
 some (.inl ()))) (0:Int)) λ_=>
 some false
def nO (p0:Al) (p1:Az) (p2:Int):Option ((List Aa)):=
 aU p1.Ab p2 λe1=>
 if e1.state=(0:Int) then
 some ([]:List Aa)
 else
 aU p0.Ab p2 λe3=>
 aU p1.Ab p2 λe4=>
 aC (0<=(0:Int)/\(0:Int)<=e4.rel/\e4.rel<=(e3.Ad.length:Int)) <|
 aB (jA e3) λr6=>
 aB (
 aY (λ(i12,b13)=>
 if i12 < (r6.length:Int) then
 aU r6 i12 λe16=>
 aB (jB p0 e16.el) λr17=>
 aB (
 aU r6 i12 λe20=>
 aB (jQ e3.Ae e20) λr21=>
 if r21=true then
 aU p0.A1 r17 λe23=>
 aB (gK (sub e3.Ad (0:Int) e4.rel) e23) λr24=>
 some (!(r24))
 else
 some false) λinPath18=>
 aB (
 if inPath18=true then
 some true
 else
 aU r6 i12 λe28=>
 aB (jQ e3.Aj e28) λr29=>
 if r29=true then
 some true
 else
 aU r6 i12 λe31=>
 aB (jQ e3.At e31) λr32=>
 some r32) λx25=>
 if x25=true then
 aU r6 i12 λe34=>
 aC ((b13++([e34]:List Aa)).length<=1000000000) <|
 aC (I64 (i12+(1:Int))) <|
 some (.inl ((i12+(1:Int)),(b13++([e34]:List Aa))))
 else
 aC (I64 (i12+(1:Int))) <|
 some (.inl ((i12+(1:Int)),b13))
 else
 aQ (
 some b13)) ((0:Int),([]:List Aa))) λb7=>
 some b7
def iX (p0:Al) (p1:Az) (p2:Int):Option ((List Int)):=
 aU p1.Ab p2 λe1=>
 if e1.state=(0:Int) then
 some ([]:List Int)
 else
 aU p0.Ab p2 λe3=>
 aU p1.Ab p2 λe4=>
 aC (0<=e4.rel/\e4.rel<=(e3.Ad.length:Int)/\(e3.Ad.length:Int)<=(e3.Ad.length:Int)) <|
 aC ((([]:List Int)++(sub e3.Ad e4.rel (e3.Ad.length:Int))).length<=1000000000) <|
 some (([]:List Int)++(sub e3.Ad e4.rel (e3.Ad.length:Int)))
def kR (p0:(List Int)) (p1:(List Int)):Option Bool:=
 bS (
 aY (λi3=>
 if i3 < (p0.length:Int) then
 aU p0 i3 λe6=>
 aB (gK p1 e6) λr7=>
 if r7=true then
 aQ (
 aQ (
 some true))
 else
 aC (I64 (i3+(1:Int))) <|
 some (.inl (i3+(1:Int)))
 else
 aQ (
 some (.inl ()))) (0:Int)) λ_=>
 some false
def iY (p0:Al) (p1:Az) (p2:Int):Option ((List Int)):=
 aU p1.Ab p2 λe1=>
 if e1.state=(0:Int) then
 some ([]:List Int)
 else
 aU p0.Ab p2 λe3=>
 aC ((([]:List Int)++e3.Ao).length<=1000000000) <|
 some (([]:List Int)++e3.Ao)
def gD (p0:Al) (p1:Int) (p2:Int):Option Bool:=
 aB (
 aU p0.Ab p1 λe3=>
 if (0:Int)<=e3.exit then
 aU p0.Ab p2 λe5=>
 aU p0.Ab p1 λe6=>
 some (decide (e5.entry=e6.exit))
 else
 some false) λx1=>
 some x1
def nP (p0:Al) (p1:Az) (p2:Int) (p3:Int):Option Bool:=
 aB (
 aB (iX p0 p1 p2) λr3=>
 aB (iX p0 p1 p3) λr4=>
 aB (kR r3 r4) λr5=>
 if r5=true then
 some true
 else
 aB (iY p0 p1 p2) λr7=>
 aB (iX p0 p1 p3) λr8=>
 aB (kR r7 r8) λr9=>
 if r9=true then
 aB (gD p0 p2 p3) λr11=>
 some (!(r11))
 else
 some false) λx1=>
 if x1=true then
 some false
 else
 aB (
 aB (iY p0 p1 p2) λr15=>
 aB (iY p0 p1 p3) λr16=>
 aB (kR r15 r16) λr17=>
 if (!(r17))=true then
 some true
 else
 aB (gD p0 p2 p3) λr19=>
 if r19=true then
 some true
 else
 aB (gD p0 p3 p2) λr21=>
 some r21) λx13=>
 some x13
def lB (p0:Al) (p1:Az):Option Bool:=
 aB (pY p0 p1) λr1=>
 if (!(r1))=true then
 some false
 else
 bS (
 aY (λa5=>
 if a5 < (p0.Ab.length:Int) then
 bS (
 aB (nO p0 p1 a5) λr9=>
 bS (
 aY (λi12=>
 if i12 < (r9.length:Int) then
 aU r9 i12 λe15=>
 aB (jB p0 e15.el) λr16=>
 aU p1.lies r16 λe17=>
 aU r9 i12 λe18=>
 if e17=e18.pos then
 aC (I64 (i12+(1:Int))) <|
 some (.inl (i12+(1:Int)))
 else
 aQ (
 aQ (
 aQ (
 aQ (
 aQ (
 some false)))))
 else
 aQ (
 some (.inl ()))) (0:Int)) λ_=>
 aY (λb28=>
 if b28 < (p0.Ab.length:Int) then
 aB (
 if a5=b28 then
 some false
 else
 aB (nP p0 p1 a5 b28) λr34=>
 some (!(r34))) λx31=>
 if x31=true then
 aQ (
 aQ (
 aQ (
 aQ (
 some false))))
 else
 aC (I64 (b28+(1:Int))) <|
 some (.inl (b28+(1:Int)))
 else
 aQ (
 some (.inl ()))) (0:Int)) λ_=>
 aC (I64 (a5+(1:Int))) <|
 some (.inl (a5+(1:Int)))
 else
 aQ (
 some (.inl ()))) (0:Int)) λ_=>
 some true
def iV (p0:Am):Option Bool:=
 bS (
 aY (λi3=>
 if i3 < (p0.machines.length:Int) then
 aU p0.machines i3 λe6=>
 if ((decide (e6.pos < (0:Int)))||((decide ((2:Int) < e6.pos))||((decide (e6.goal < (1:Int)))||((decide ((2:Int) < e6.goal))||((decide (e6.timer < (0:Int)))||(decide ((3:Int) < e6.timer)))))))=true then
 aQ (
 aQ (
 some false))
 else
 aC (I64 (i3+(1:Int))) <|
 some (.inl (i3+(1:Int)))
 else
 aQ (
 some (.inl ()))) (0:Int)) λ_=>
 some ((decide ((p0.machines.length:Int)=(p0.Aq.Ae.length:Int)))&&(decide ((p0.clear.length:Int)=(p0.layout.Ah.length:Int))))
def iD (p0:Int) (p1:Int) (p2:Int):Option Bool:=
 some ((decide (p1<=p0))&&(decide (p0<=p2)))
def gR (p0:Bd):Option Int:=
 aB (mU p0.name) λr1=>
 if (!(r1))=true then
 some (3:Int)
 else
 aB (
 aB (iD p0.id (1:Int) (99:Int)) λr5=>
 if (!(r5))=true then
 some true
 else
 aB (iD p0.length (1:Int) (50000:Int)) λr7=>
 if (!(r7))=true then
 some true
 else
 aB (iD p0.speed (1:Int) (10000:Int)) λr9=>
 if (!(r9))=true then
 some true
 else
 aB (iD p0.accel (1:Int) (200:Int)) λr11=>
 if (!(r11))=true then
 some true
 else
 aB (iD p0.service (1:Int) (200:Int)) λr13=>
 some (!(r13))) λx3=>
 if x3=true then
 some (1:Int)
 else
 aB (
 aB (iD p0.emergency p0.service (200:Int)) λr17=>
 if (!(r17))=true then
 some true
 else
 aB (iD p0.delay (0:Int) (5:Int)) λr19=>
 if (!(r19))=true then
 some true
 else
 aB (iD p0.const (0:Int) (500:Int)) λr21=>
 if (!(r21))=true then
 some true
 else
 aB (iD p0.rate (0:Int) (100:Int)) λr23=>
 some (!(r23))) λx15=>
 if x15=true then
 some (1:Int)
 else
 some (0:Int)
def kU (p0:Ag) (p1:An):Option Int:=
 aU p0.Af p1.el λe1=>
 some e1.length
def kG (p0:Ag) (p1:Bc):Option Int:=
 aB (
 aY (λ(n5,i6)=>
 aC (I64 (i6+(1:Int))) <|
 if (i6+(1:Int)) < (p1.steps.length:Int) then
 aU p1.steps i6 λe10=>
 aB (kU p0 e10) λr11=>
 aC (I64 (n5+r11)) <|
 aC (I64 (i6+(1:Int))) <|
 some (.inl ((n5+r11),(i6+(1:Int))))
 else
 aQ (
 some n5)) (p1.head,(0:Int))) λn1=>
 some n1
def gS (p0:Ag) (p1:Bc):Option Int:=
 aB (
 aB (gT p0 p1.steps) λr3=>
 if (!(r3))=true then
 some true
 else
 if p1.length < (1:Int) then
 some true
 else
 if (1000000:Int) < p1.length then
 some true
 else
 if p1.head < (1:Int) then
 some true
 else
 aC (I64 ((p1.steps.length:Int) - (1:Int))) <|
 aU p1.steps ((p1.steps.length:Int) - (1:Int)) λe9=>
 aB (kU p0 e9) λr10=>
 some (decide (r10 < p1.head))) λx1=>
 if x1=true then
 some (1:Int)
 else
 aB (kG p0 p1) λr12=>
 aB (
 if r12 < p1.length then
 some true
 else
 if (1:Int) < (p1.steps.length:Int) then
 aU p1.steps (0:Int) λe17=>
 aB (kU p0 e17) λr18=>
 aC (I64 (r12 - r18)) <|
 some (decide (p1.length<=(r12 - r18)))
 else
 some false) λx13=>
 if x13=true then
 some (10:Int)
 else
 some (0:Int)
def nK (p0:Am):Option Bool:=
 bS (
 aY (λi3=>
 if i3 < (p0.units.length:Int) then
 aU p0.units i3 λe6=>
 aB (
 if (0:Int) < i3 then
 aC (I64 (i3 - (1:Int))) <|
 aU p0.units (i3 - (1:Int)) λe15=>
 if e6.cab.train.id<=e15.cab.train.id then
 some true
 else
 aB (gR e6.cab.train) λr17=>
 if r17=(0:Int) then
 aB (gS p0.layout e6.body) λr19=>
 if r19=(0:Int) then
 some (!(decide (e6.body.length=e6.cab.train.length)))
 else
 some true
 else
 some true
 else
 aB (gR e6.cab.train) λr10=>
 if r10=(0:Int) then
 aB (gS p0.layout e6.body) λr12=>
 if r12=(0:Int) then
 some (!(decide (e6.body.length=e6.cab.train.length)))
 else
 some true
 else
 some true) λx7=>
 if x7=true then
 aQ (
 aQ (
 some false))
 else
 aC (I64 (i3+(1:Int))) <|
 some (.inl (i3+(1:Int)))
 else
 aQ (
 some (.inl ()))) (0:Int)) λ_=>
 some ((decide ((1:Int)<=(p0.units.length:Int)))&&(decide ((p0.units.length:Int)<=(6:Int))))
def lV (p0:Am):Option Bool:=
 if ((!(decide ((p0.center.tracks.length:Int)=(p0.units.length:Int))))||(!(decide ((p0.center.sessions.length:Int)=(p0.units.length:Int)))))=true then
 some false
 else
 bS (
 aY (λi5=>
 if i5 < (p0.units.length:Int) then
 aU p0.units i5 λe8=>
 aB (
 aU p0.center.tracks i5 λe11=>
 if e11.id=e8.cab.train.id then
 aU p0.center.sessions i5 λe13=>
 some (!(decide (e13.peer=e8.cab.train.id)))
 else
 some true) λx9=>
 if x9=true then
 aQ (
 aQ (
 some false))
 else
 aC (I64 (i5+(1:Int))) <|
 some (.inl (i5+(1:Int)))
 else
 aQ (
 some (.inl ()))) (0:Int)) λ_=>
 some true
def nM (p0:Al) (p1:A6):Option Bool:=
 if ((decide (p1.train < (1:Int)))||(decide ((99:Int) < p1.train)))=true then
 some false
 else
 bS (
 aY (λi5=>
 if i5 < (p1.stops.length:Int) then
 aU p1.stops i5 λe8=>
 if ((decide (e8.route < (0:Int)))||((decide ((p0.Ab.length:Int)<=e8.route))||((decide (e8.due < (0:Int)))||((decide ((1073741824:Int) < e8.due))||((decide (e8.run < (1:Int)))||((decide ((1000:Int) < e8.run))||((decide (e8.weight < (0:Int)))||(decide ((100:Int) < e8.weight)))))))))=true then
 aQ (
 aQ (
 some false))
 else
 aC (I64 (i5+(1:Int))) <|
 some (.inl (i5+(1:Int)))
 else
 aQ (
 some (.inl ()))) (0:Int)) λ_=>
 some true
def pX (p0:Al) (p1:(List A6)) (p2:Int):Option Int:=
 bS (
 aY (λi3=>
 if i3 < (p1.length:Int) then
 aU p1 i3 λe6=>
 if e6.train=p2 then
 aQ (
 aQ (
 some i3))
 else
 aC (I64 (i3+(1:Int))) <|
 some (.inl (i3+(1:Int)))
 else
 aQ (
 some (.inl ()))) (0:Int)) λ_=>
 some (-1:Int)
def sE (p0:Ai) (p1:Ai):Option Bool:=
 some ((decide ((0:Int)<=p0.exit))&&(decide (p1.entry=p0.exit)))
def iW (p0:Al) (p1:(List A6)):Option Int:=
 if (4:Int) < (p1.length:Int) then
 some (2:Int)
 else
 bS (
 aY (λi4=>
 if i4 < (p1.length:Int) then
 aB (
 aU p1 i4 λe9=>
 if (e9.stops.length:Int) < (1:Int) then
 some true
 else
 aU p1 i4 λe11=>
 some (decide ((4:Int) < (e11.stops.length:Int)))) λx7=>
 if x7=true then
 aQ (
 aQ (
 some (2:Int)))
 else
 aC (I64 (i4+(1:Int))) <|
 some (.inl (i4+(1:Int)))
 else
 aQ (
 some (.inl ()))) (0:Int)) λ_=>
 bS (
 aY (λi19=>
 if i19 < (p1.length:Int) then
 aU p1 i19 λe22=>
 aB (nM p0 e22) λr23=>
 if (!(r23))=true then
 aQ (
 aQ (
 some (1:Int)))
 else
 aC (I64 (i19+(1:Int))) <|
 some (.inl (i19+(1:Int)))
 else
 aQ (
 some (.inl ()))) (0:Int)) λ_=>
 bS (
 aY (λi31=>
 if i31 < (p1.length:Int) then
 aU p1 i31 λe34=>
 aB (pX p0 p1 e34.train) λr35=>
 if r35=i31 then
 aC (I64 (i31+(1:Int))) <|
 some (.inl (i31+(1:Int)))
 else
 aQ (
 aQ (
 some (8:Int)))
 else
 aQ (
 some (.inl ()))) (0:Int)) λ_=>
 bS (
 aY (λi43=>
 if i43 < (p1.length:Int) then
 bS (
 aU p1 i43 λe47=>
 aY (λk49=>
 if k49 < (e47.stops.length:Int) then
 aC (I64 (k49 - (1:Int))) <|
 aU e47.stops (k49 - (1:Int)) λe53=>
 aU p0.Ab e53.route λe54=>
 aU e47.stops k49 λe55=>
 aU p0.Ab e55.route λe56=>
 aB (sE e54 e56) λr57=>
 if (!(r57))=true then
 aQ (
 aQ (
 aQ (
 aQ (
 some (10:Int)))))
 else
 aC (I64 (k49+(1:Int))) <|
 some (.inl (k49+(1:Int)))
 else
 aQ (
 some (.inl ()))) (1:Int)) λ_=>
 aC (I64 (i43+(1:Int))) <|
 some (.inl (i43+(1:Int)))
 else
 aQ (
 some (.inl ()))) (0:Int)) λ_=>
 bS (
 aY (λi69=>
 if i69 < (p1.length:Int) then
 bS (
 aU p1 i69 λe73=>
 aY (λk75=>
 if k75 < (e73.stops.length:Int) then
 aU e73.stops k75 λe78=>
 aC (I64 (k75 - (1:Int))) <|
 aU e73.stops (k75 - (1:Int)) λe80=>
 if e78.due<=e80.due then
 aQ (
 aQ (
 aQ (
 aQ (
 some (7:Int)))))
 else
 aC (I64 (k75+(1:Int))) <|
 some (.inl (k75+(1:Int)))
 else
 aQ (
 some (.inl ()))) (1:Int)) λ_=>
 aC (I64 (i69+(1:Int))) <|
 some (.inl (i69+(1:Int)))
 else
 aQ (
 some (.inl ()))) (0:Int)) λ_=>
 some (0:Int)
def nN (p0:(List A6)) (p1:(List (List Int))):Option Bool:=
 if (p0.length:Int)=(p1.length:Int) then
 bS (
 aY (λi4=>
 if i4 < (p0.length:Int) then
 aU p0 i4 λe7=>
 aU p1 i4 λe8=>
 if (e7.stops.length:Int)=(e8.length:Int) then
 aC (I64 (i4+(1:Int))) <|
 some (.inl (i4+(1:Int)))
 else
 aQ (
 aQ (
 some false))
 else
 aQ (
 some (.inl ()))) (0:Int)) λ_=>
 some true
 else
 some false
def lA (p0:(List A6)) (p1:(List (List Int))):Option (Int×Int):=
 aB (nN p0 p1) λr1=>
 if (!(r1))=true then
 some ((0:Int),(1:Int))
 else
 bS (
 aY (λ(sum9,early10,i11)=>
 if i11 < (p0.length:Int) then
 bS (
 aY (λ(sum20,early21,k22)=>
 aU p0 i11 λe24=>
 if k22 < (e24.stops.length:Int) then
 aU p0 i11 λe26=>
 aU e26.stops k22 λe27=>
 aU p1 i11 λe28=>
 aU e28 k22 λe29=>
 if ((decide (e29 < (0:Int)))||((decide ((2147483648:Int) < e29))||((decide (e27.due < (0:Int)))||((decide ((1073741824:Int) < e27.due))||((decide (e27.weight < (0:Int)))||(decide ((100:Int) < e27.weight)))))))=true then
 aQ (
 aQ (
 aQ (
 aQ (
 some ((0:Int),(1:Int))))))
 else
 aC (I64 (e29 - e27.due)) <|
 aC (I64 (e27.weight * (e29 - e27.due))) <|
 aC (I64 (sum20+(e27.weight * (e29 - e27.due)))) <|
 aC (I64 (k22+(1:Int))) <|
 some (.inl ((sum20+(e27.weight * (e29 - e27.due))),(early21||(decide (e29 < e27.due))),(k22+(1:Int))))
 else
 aQ (
 some (.inl (sum20,early21)))) (sum9,early10,(0:Int))) λ(sum14,early15)=>
 aC (I64 (i11+(1:Int))) <|
 some (.inl (sum14,early15,(i11+(1:Int))))
 else
 aQ (
 some (.inl (sum9,early10)))) ((0:Int),false,(0:Int))) λ(sum3,early4)=>
 if early4=true then
 some ((0:Int),(7:Int))
 else
 some (sum3,(0:Int))
def kD (p0:Am):Option Bool:=
 aB (lA p0.trips p0.plan.starts) λ(r2,r3)=>
 bS (
 aY (λi6=>
 if i6 < (p0.progress.length:Int) then
 aB (
 aU p0.progress i6 λe11=>
 if e11 < (0:Int) then
 some true
 else
 aU p0.progress i6 λe13=>
 some (decide ((4:Int) < e13))) λx9=>
 if x9=true then
 aQ (
 aQ (
 some false))
 else
 aC (I64 (i6+(1:Int))) <|
 some (.inl (i6+(1:Int)))
 else
 aQ (
 some (.inl ()))) (0:Int)) λ_=>
 some ((decide (r3=(0:Int)))&&((decide ((p0.progress.length:Int)=(p0.trips.length:Int)))&&((decide ((0:Int)<=p0.now))&&(decide (p0.now<=(1073741824:Int))))))
def nL (p0:Am):Option Int:=
 aB (jI p0.layout) λr1=>
 if r1=(0:Int) then
 aB (lE p0.layout) λ(r4,r5)=>
 aB (
 if r5=(0:Int) then
 aB (pZ r4 p0.Aq) λr9=>
 some (!(r9))
 else
 some true) λx6=>
 if x6=true then
 some (10:Int)
 else
 aB (
 aB (lB p0.Aq p0.inter) λr13=>
 if (!(r13))=true then
 some true
 else
 aB (iV p0) λr15=>
 some (!(r15))) λx11=>
 if x11=true then
 some (11:Int)
 else
 aB (
 aB (nK p0) λr19=>
 if (!(r19))=true then
 some true
 else
 aB (lV p0) λr21=>
 some (!(r21))) λx17=>
 if x17=true then
 some (1:Int)
 else
 aB (iW p0.Aq p0.trips) λr23=>
 if r23=(0:Int) then
 aB (kD p0) λr25=>
 if (!(r25))=true then
 some (1:Int)
 else
 some (0:Int)
 else
 some r23
 else
 some r1
def vR:Option (Bd×Bc):=
 some ((⟨(3:Int),(⟨#[105,99,101]⟩:BA),(5000:Int),(900:Int),(50:Int),(50:Int),(100:Int),(0:Int),(0:Int),(0:Int)⟩:Bd),(⟨([(⟨(0:Int),(0:Int),(1:Int)⟩:An)]:List An),(15000:Int),(5000:Int)⟩:Bc))
def uD:Option Ag:=
 aB (
 aY (λ(x6,b7)=>
 if x6 < (([(⟨#[97]⟩:BA),(⟨#[98]⟩:BA),(⟨#[99]⟩:BA)]:List BA).length:Int) then
 aU ([(⟨#[97]⟩:BA),(⟨#[98]⟩:BA),(⟨#[99]⟩:BA)]:List BA) x6 λe10=>
 aC ((b7++([(⟨e10,(1:Int),(20000:Int),(0:Int),(1000:Int),(0:Int),x6⟩:Aw)]:List Aw)).length<=1000000000) <|
 aC (I64 (x6+(1:Int))) <|
 some (.inl ((x6+(1:Int)),(b7++([(⟨e10,(1:Int),(20000:Int),(0:Int),(1000:Int),(0:Int),x6⟩:Aw)]:List Aw))))
 else
 aQ (
 some b7)) ((0:Int),([]:List Aw))) λb1=>
 some (⟨(⟨#[108,105,110,101]⟩:BA),([(⟨#[97]⟩:BA),(⟨#[98]⟩:BA),(⟨#[99]⟩:BA)]:List BA),b1,([(⟨(⟨(0:Int),(1:Int)⟩:End),(⟨(1:Int),(0:Int)⟩:End)⟩:Ba),(⟨(⟨(1:Int),(1:Int)⟩:End),(⟨(2:Int),(0:Int)⟩:End)⟩:Ba)]:List Ba),([(⟨(⟨#[115,49]⟩:BA),(⟨(0:Int),(1:Int)⟩:End),(0:Int)⟩:A0),(⟨(⟨#[115,50]⟩:BA),(⟨(1:Int),(1:Int)⟩:End),(0:Int)⟩:A0)]:List A0),([]:List A4)⟩:Ag)
def vC (p0:Ag) (p1:Bd) (p2:Bc):Option (A5×Int):=
 aB (
 aB (jI p0) λr3=>
 if r3=(0:Int) then
 aB (gR p1) λr5=>
 if r5=(0:Int) then
 aB (gS p0 p2) λr7=>
 if r7=(0:Int) then
 some (!(decide (p2.length=p1.length)))
 else
 some true
 else
 some true
 else
 some true) λx1=>
 if x1=true then
 none
 else
 aC (I64 ((p2.steps.length:Int) - (1:Int))) <|
 aU p2.steps ((p2.steps.length:Int) - (1:Int)) λe11=>
 aB (hO p0 (⟨e11.el,e11.out⟩:End)) λr12=>
 if r12 < (0:Int) then
 none
 else
 aU p0.Af e11.el λe14=>
 aC (I64 (e14.length - p2.head)) <|
 aB (gZ p0 p2.steps) λr16=>
 aC (I64 (e14.length - r16)) <|
 aC (I64 ((e14.length - r16) - p2.head)) <|
 aC ((([]:List An)++p2.steps).length<=1000000000) <|
 some ((⟨p1.id,((e14.length - r16) - p2.head),r12,(e14.length - p2.head),(([]:List An)++p2.steps),([]:List Int),([]:List Int),([]:List Int),([]:List Int),(0:Int),(0:Int),(0:Int),(0:Int),(0:Int)⟩:A5),(0:Int))
def wS (p0:Int) (p1:Int):Option Ax:=
 some (⟨p0,(0:Int),(0:Int),p1⟩:Ax)
def dP (p0:Ag) (p1:Bc):Option ((List Int)):=
 aB (
 aY (λ(i6,b7)=>
 if i6 < (p1.steps.length:Int) then
 aU p1.steps i6 λe10=>
 aB (dB p0 e10.el) λr11=>
 if (0:Int)<=r11 then
 aC ((b7++([r11]:List Int)).length<=1000000000) <|
 aC (I64 (i6+(1:Int))) <|
 some (.inl ((i6+(1:Int)),(b7++([r11]:List Int))))
 else
 aC (I64 (i6+(1:Int))) <|
 some (.inl ((i6+(1:Int)),b7))
 else
 aQ (
 some b7)) ((0:Int),([]:List Int))) λb1=>
 aB (kW b1) λr17=>
 some r17
def oT (p0:(List Int)) (p1:(List Int)) (p2:Bool):Option ((List Int)):=
 aB (
 aY (λ(out5,i6)=>
 if i6 < (p0.length:Int) then
 aU p0 i6 λe9=>
 aB (gK p1 e9) λr10=>
 if ((r10 == p2))=true then
 aU p0 i6 λe12=>
 aB (eV out5 e12) λr13=>
 aC (I64 (i6+(1:Int))) <|
 some (.inl (r13,(i6+(1:Int))))
 else
 aC (I64 (i6+(1:Int))) <|
 some (.inl (out5,(i6+(1:Int))))
 else
 aQ (
 some out5)) (([]:List Int),(0:Int))) λout1=>
 some out1
def hU (p0:(List Int)) (p1:(List Int)):Option ((List Int)):=
 aB (oT p0 p1 true) λr1=>
 some r1
def vB (p0:Ag) (p1:(List Bc)):Option Bool:=
 bS (
 aY (λi3=>
 if i3 < (p1.length:Int) then
 bS (
 aY (λk8=>
 if k8 < i3 then
 aU p1 i3 λe11=>
 aB (dP p0 e11) λr12=>
 aU p1 k8 λe13=>
 aB (dP p0 e13) λr14=>
 aB (hU r12 r14) λr15=>
 if (0:Int) < (r15.length:Int) then
 none
 else
 aC (I64 (k8+(1:Int))) <|
 some (.inl (k8+(1:Int)))
 else
 aQ (
 some (.inl ()))) (0:Int)) λ_=>
 aC (I64 (i3+(1:Int))) <|
 some (.inl (i3+(1:Int)))
 else
 aQ (
 some (.inl ()))) (0:Int)) λ_=>
 some true
def qBQ (p0:Ag) (p1:(List Bd)) (p2:(List Bc)):Option (Bg×Int):=
 if ((decide ((p1.length:Int) < (1:Int)))||((decide ((6:Int) < (p1.length:Int)))||(!(decide ((p2.length:Int)=(p1.length:Int))))))=true then
 none
 else
 bS (
 aY (λi6=>
 if i6 < (p1.length:Int) then
 aU p1 i6 λe9=>
 aC (I64 (i6 - (1:Int))) <|
 aU p1 (i6 - (1:Int)) λe11=>
 if e9.id<=e11.id then
 none
 else
 aC (I64 (i6+(1:Int))) <|
 some (.inl (i6+(1:Int)))
 else
 aQ (
 some (.inl ()))) (1:Int)) λ_=>
 bS (
 aY (λ(i22,b23,b24)=>
 if i22 < (p1.length:Int) then
 aU p1 i22 λe27=>
 aU p2 i22 λe28=>
 aB (vC p0 e27 e28) λ(r30,r31)=>
 if r31=(0:Int) then
 aC ((b23++([r30]:List A5)).length<=1000000000) <|
 aU p1 i22 λe34=>
 aB (wS e34.id (0:Int)) λr35=>
 aC ((b24++([r35]:List Ax)).length<=1000000000) <|
 aC (I64 (i22+(1:Int))) <|
 some (.inl ((i22+(1:Int)),(b23++([r30]:List A5)),(b24++([r35]:List Ax))))
 else
 none
 else
 aQ (
 some (.inl (b23,b24)))) ((0:Int),([]:List A5),([]:List Ax))) λ(b15,b16)=>
 aB (vB p0 p2) λr39=>
 if (!(r39))=true then
 none
 else
 some ((⟨b15,b16⟩:Bg),(0:Int))
def vE (p0:Al):Option Az:=
 aB (lD p0) λr1=>
 if r1=(0:Int) then
 aC (0<=(p0.Ae.length:Int)/\(p0.Ae.length:Int)<=1000000000) <|
 aB (
 aY (λi6=>
 if i6 < ((List.replicate (p0.Ae.length:Int).toNat (0:Int)).length:Int) then
 none
 else
 aQ (
 some ())) (0:Int)) λ_=>
 aC (0<=(p0.Ab.length:Int)/\(p0.Ab.length:Int)<=1000000000) <|
 some (⟨(List.replicate (p0.Ab.length:Int).toNat (⟨(0:Int),(0:Int),(0:Int)⟩:Ak)),(List.replicate (p0.Ae.length:Int).toNat (0:Int))⟩:Az)
 else
 none
def vD (p0:Al):Option ((List Ar)):=
 aB (
 aY (λi3=>
 if i3 < (p0.Ae.length:Int) then
 none
 else
 aQ (
 some ())) (0:Int)) λ_=>
 some ([]:List Ar)
def pW (p0:Ag) (p1:Bc):Option Bool:=
 bS (
 aY (λi3=>
 if i3 < (p1.steps.length:Int) then
 aU p1.steps i3 λe6=>
 if ((decide (e6.el < (0:Int)))||(decide ((p0.Af.length:Int)<=e6.el)))=true then
 none
 else
 aU p0.Af e6.el λe9=>
 aB (dU e9.kind e6.inV e6.out) λ(r11,r12)=>
 if ((!(r12))||(decide (r11=(2:Int))))=true then
 none
 else
 aC (I64 (i3+(1:Int))) <|
 some (.inl (i3+(1:Int)))
 else
 aQ (
 some (.inl ()))) (0:Int)) λ_=>
 some true
def qBR (p0:Bd) (p1:Int):Option Cab:=
 aB (wS (0:Int) p1) λr1=>
 some (⟨p0,(1:Int),(2:Int),(0:Int),(⟨(0:Int),(0:Int),(0:Int)⟩:Bq),(⟨(0:Int),(0:Int),([]:List A8),([]:List Bb)⟩:Bo),r1,(⟨false,(0:Int)⟩:Bt)⟩:Cab)
def tR (p0:A7) (p1:A7):Option Bool:=
 if p0.cost=p1.cost then
 none
 else
 none
def fN:Nat->Bn->(List (List Int))->Int->Option Bn
 | 0,_,_,_=>none
 | fu+1,p0,p1,p2=>
 aB (
 aY (λ(done5,i6)=>
 if i6 < (p1.length:Int) then
 none
 else
 aQ (
 some done5)) (true,(0:Int))) λdone1=>
 if (!(done1))=true then
 none
 else
 aB (
 if (!(p0.found))=true then
 some true
 else
 aB (tR (⟨p1,p2⟩:A7) p0.best) λr14=>
 some r14) λx11=>
 if x11=true then
 some (⟨p0.t,p0.trips,(⟨p1,p2⟩:A7),true⟩:Bn)
 else
 none
def oM (p0:Bn) (p1:(List (List Int))) (p2:Int):Option Bn:=fN lR p0 p1 p2
def vA (p0:Al) (p1:(List A6)):Option (A7×Int):=
 aB (iW p0 p1) λr1=>
 if r1=(0:Int) then
 aC (0<=(p1.length:Int)/\(p1.length:Int)<=1000000000) <|
 aB (oM (⟨p0,p1,(⟨([]:List (List Int)),(0:Int)⟩:A7),false⟩:Bn) (List.replicate (p1.length:Int).toNat ([]:List Int)) (0:Int)) λr4=>
 some (r4.best,(0:Int))
 else
 none
def wR (p0:Ag) (p1:(List Bd)) (p2:(List Bc)) (p3:(List A6)):Option (Am×Int):=
 aB (lE p0) λ(r2,r3)=>
 if r3=(0:Int) then
 aB (qBQ p0 p1 p2) λ(r6,r7)=>
 if r7=(0:Int) then
 aB (vE r2) λr9=>
 aB (vD r2) λr10=>
 aC (0<=(p0.Ah.length:Int)/\(p0.Ah.length:Int)<=1000000000) <|
 aC (0<=(p3.length:Int)/\(p3.length:Int)<=1000000000) <|
 bS (
 aY (λ(i18,b19)=>
 if i18 < (p1.length:Int) then
 aU p2 i18 λe22=>
 aB (pW p0 e22) λr23=>
 if (!(r23))=true then
 none
 else
 aU p2 i18 λe25=>
 aU p1 i18 λe26=>
 aB (qBR e26 (0:Int)) λr27=>
 aC ((b19++([(⟨e25,(0:Int),(0:Int),(0:Int),r27⟩:Av)]:List Av)).length<=1000000000) <|
 aC (I64 (i18+(1:Int))) <|
 some (.inl ((i18+(1:Int)),(b19++([(⟨e25,(0:Int),(0:Int),(0:Int),r27⟩:Av)]:List Av))))
 else
 aQ (
 some (.inl b19))) ((0:Int),([]:List Av))) λb13=>
 aB (iW r2 p3) λr31=>
 if r31=(0:Int) then
 aB (vA r2 p3) λ(r34,r35)=>
 if r35=(0:Int) then
 some ((⟨p0,r2,r9,r10,(List.replicate (p0.Ah.length:Int).toNat false),b13,r6,([]:List A9),([]:List Be),([]:List Bl),([]:List Ay),([]:List Au),([]:List Bf),p3,r34,(List.replicate (p3.length:Int).toNat (0:Int)),([]:List A3),(0:Int)⟩:Am),(0:Int))
 else
 none
 else
 none
 else
 none
 else
 none
def rF (p0:Ag) (p1:Int):Option Bool:=
 some ((decide ((0:Int)<=p1))&&(decide (p1 < (p0.Af.length:Int))))
def jY (p0:Ag) (p1:(List An)):Option ((List Int)):=
 aB (
 aY (λ(x8,b9,b10)=>
 if x8 < (p1.length:Int) then
 aU p1 x8 λe13=>
 aB (rF p0 e13.el) λr14=>
 if (!(r14))=true then
 aC (I64 (x8+(1:Int))) <|
 some (.inl ((x8+(1:Int)),b9,b10))
 else
 aU p0.Af e13.el λe17=>
 aC (b10.map (·.1)).Nodup <|
 if (!(((cO b10 e17.As).getD false)))=true then
 aC (b10.map (·.1)).Nodup <|
 aC ((b9++([e17.As]:List Int)).length<=1000000000) <|
 aC (I64 (x8+(1:Int))) <|
 some (.inl ((x8+(1:Int)),(b9++([e17.As]:List Int)),(uA b10 e17.As true)))
 else
 aC (I64 (x8+(1:Int))) <|
 some (.inl ((x8+(1:Int)),b9,b10))
 else
 aQ (
 some (b9,b10))) ((0:Int),([]:List Int),([]:List (Int×Bool)))) λ(b1,m2)=>
 some b1
def iK (p0:Ag) (p1:Bc):Option ((List Int)):=
 aB (jY p0 p1.steps) λr1=>
 aC (r1.length<=1000000000) <|
 some (kZ r1)
def dD (p0:(List Int)):Option ((List Int)):=
 qXB p0 (
 some ([]:List Int)) (
 aC ((([]:List Int)++p0).length<=1000000000) <|
 some (([]:List Int)++p0))
def mV (p0:(List Int)):Option ((List Int)):=
 aB (dD p0) λr1=>
 aC (r1.length<=1000000000) <|
 aC ((kZ r1).length<=1000000000) <|
 some (Go.Lib.compact (kZ r1))
def iH (p0:(List Int)) (p1:(List Int)) (p2:Bool->Bool->Option Bool):Option ((List Int)):=
 aB (
 aY (λ(a8,b9,b10)=>
 if ((decide ((0:Int) < (a8.length:Int)))||(decide ((0:Int) < (b9.length:Int))))=true then
 aB (
 if (0:Int) < (a8.length:Int) then
 if (b9.length:Int)=(0:Int) then
 some true
 else
 aU a8 (0:Int) λe18=>
 aU b9 (0:Int) λe19=>
 some (decide (e18<=e19))
 else
 some false) λinA14=>
 aB (
 if (0:Int) < (b9.length:Int) then
 if (a8.length:Int)=(0:Int) then
 some true
 else
 aU b9 (0:Int) λe24=>
 aU a8 (0:Int) λe25=>
 some (decide (e24<=e25))
 else
 some false) λinB20=>
 aB (
 if inA14=true then
 aU a8 (0:Int) λe30=>
 aC (0<=(1:Int)/\(1:Int)<=(a8.length:Int)/\(a8.length:Int)<=(a8.length:Int)) <|
 some (sub a8 (1:Int) (a8.length:Int),e30)
 else
 some (a8,(0:Int))) λ(a26,n27)=>
 aB (
 if inB20=true then
 aU b9 (0:Int) λe36=>
 aC (0<=(1:Int)/\(1:Int)<=(b9.length:Int)/\(b9.length:Int)<=(b9.length:Int)) <|
 some (sub b9 (1:Int) (b9.length:Int),e36)
 else
 some (b9,n27)) λ(b32,n33)=>
 aB (p2 inA14 inB20) λr38=>
 if r38=true then
 aC ((b10++([n33]:List Int)).length<=1000000000) <|
 some (.inl (a26,b32,(b10++([n33]:List Int))))
 else
 some (.inl (a26,b32,b10))
 else
 aQ (
 some b10)) (p0,p1,([]:List Int))) λb1=>
 some b1
def dR (p0:Bool) (p1:Bool):Option Bool:=
 some (p0&&p1)
def mC (p0:(List Int)) (p1:(List Int)):Option ((List Int)):=
 aB (mV p0) λr1=>
 aB (mV p1) λr2=>
 aB (iH r1 r2 dR) λr3=>
 some r3
def dV (p0:Av) (p1:Av) (p2:Am):Option Bool:=
 aB (iK p2.layout p0.body) λr1=>
 aB (iK p2.layout p1.body) λr2=>
 aB (mC r1 r2) λr3=>
 some (decide ((0:Int) < (r3.length:Int)))
def dL (p0:(List Av)) (p1:Av->Av->Option Bool) (p2:Av->Av->Option Ac):Option ((List Ac)):=
 aB (
 aY (λ(x6,b7)=>
 if x6 < (p0.length:Int) then
 aB (
 aU p0 x6 λe12=>
 aC (I64 (x6+(1:Int))) <|
 aC (0<=(x6+(1:Int))/\(x6+(1:Int))<=(p0.length:Int)/\(p0.length:Int)<=(p0.length:Int)) <|
 aY (λ(x18,b19)=>
 if x18 < ((sub p0 (x6+(1:Int)) (p0.length:Int)).length:Int) then
 aU (sub p0 (x6+(1:Int)) (p0.length:Int)) x18 λe22=>
 aB (p1 e12 e22) λr23=>
 if r23=true then
 aB (p2 e12 e22) λr25=>
 aC ((b19++([r25]:List Ac)).length<=1000000000) <|
 aC (I64 (x18+(1:Int))) <|
 some (.inl ((x18+(1:Int)),(b19++([r25]:List Ac))))
 else
 aC (I64 (x18+(1:Int))) <|
 some (.inl ((x18+(1:Int)),b19))
 else
 aQ (
 some b19)) ((0:Int),b7)) λb10=>
 aC (I64 (x6+(1:Int))) <|
 some (.inl ((x6+(1:Int)),b10))
 else
 aQ (
 some b7)) ((0:Int),([]:List Ac))) λb1=>
 some b1
def fW (p0:Av) (p1:Av):Option Ac:=
 some (⟨(1:Int),p0.cab.train.id,p1.cab.train.id⟩:Ac)
def dI (p0:Am):Option ((List Ac)):=
 aB (dL p0.units (λa0 a1=>dV a0 a1 p0) fW) λr1=>
 some r1
def gO (p0:Int):Option Bool:=
 some (decide (p0=(2:Int)))
def cQ (p0:Int) (p1:Int):Option Bool:=
 some ((decide ((0:Int)<=p0))&&(decide (p0 < p1)))
def fU (p0:Al):Option Bool:=
 if (p0.A1.length:Int)=(p0.Ae.length:Int) then
 bS (
 aY (λx4=>
 if x4 < (p0.Ae.length:Int) then
 aU p0.Ae x4 λe7=>
 aB (
 if e7 < (0:Int) then
 some true
 else
 if (0:Int) < x4 then
 aC (I64 (x4 - (1:Int))) <|
 aU p0.Ae (x4 - (1:Int)) λe15=>
 if e7<=e15 then
 some true
 else
 aU p0.A1 x4 λe17=>
 aB (cQ e17 p0.Ad) λr18=>
 some (!(r18))
 else
 aU p0.A1 x4 λe12=>
 aB (cQ e12 p0.Ad) λr13=>
 some (!(r13))) λx8=>
 if x8=true then
 aQ (
 aQ (
 some false))
 else
 aC (I64 (x4+(1:Int))) <|
 some (.inl (x4+(1:Int)))
 else
 aQ (
 some (.inl ()))) (0:Int)) λ_=>
 some true
 else
 some false
def iO (p0:List (List Int)):Option (List Int):=
 aC (p0.length<=1000/\p0.flatten.length<=1000000000) <|
 some p0.flatten
def fA (p0:Al) (p1:Ai):Option Bool:=
 aB (
 aB (cQ p1.entry p0.Ah) λr3=>
 if (!(r3))=true then
 some true
 else
 if p1.exit=(-1:Int) then
 some false
 else
 aB (cQ p1.exit p0.Ah) λr6=>
 some (!(r6))) λx1=>
 if x1=true then
 some false
 else
 if ((decide ((p1.path.length:Int) < (1:Int)))||((decide ((12:Int) < (p1.path.length:Int)))||(decide ((p1.Ad.length:Int)=(0:Int)))))=true then
 some false
 else
 bS (
 aB (iO ([p1.Ad,p1.Ao]:List (List Int))) λr13=>
 aY (λ(x17,b18)=>
 if x17 < (r13.length:Int) then
 aU r13 x17 λe21=>
 aB (
 aB (cQ e21 p0.Ad) λr24=>
 if (!(r24))=true then
 some true
 else
 aC (e21 < 24) <|
 aU b18 e21 λe26=>
 some e26) λx22=>
 if x22=true then
 aQ (
 aQ (
 some false))
 else
 aC (e21 < 24) <|
 aU b18 e21 λe31=>
 aC (I64 (x17+(1:Int))) <|
 some (.inl ((x17+(1:Int)),(b18.set e21.toNat true)))
 else
 aQ (
 some (.inl b18))) ((0:Int),(List.replicate 24 false))) λb11=>
 aB (
 aB (cQ p1.A2 p0.Ad) λr37=>
 if r37=true then
 some (decide ((1:Int)<=p1.length))
 else
 some false) λx35=>
 some x35
def fB (p0:(List Int)) (p1:Int):Option Int:=
 bS (
 aY (λx3=>
 if x3 < (p0.length:Int) then
 aU p0 x3 λe6=>
 if p1=e6 then
 aQ (
 aQ (
 some x3))
 else
 aC (I64 (x3+(1:Int))) <|
 some (.inl (x3+(1:Int)))
 else
 aQ (
 some (.inl ()))) (0:Int)) λ_=>
 some (-1:Int)
def fV (p0:Al) (p1:Int):Option Int:=
 aB (fB p0.Ae p1) λr1=>
 some r1
def cL (p0:Al) (p1:(List Aa)):Option Bool:=
 bS (
 aY (λx3=>
 if x3 < (p1.length:Int) then
 aU p1 x3 λe6=>
 aB (
 if (0:Int) < x3 then
 aC (I64 (x3 - (1:Int))) <|
 aU p1 (x3 - (1:Int)) λe12=>
 if e6.el<=e12.el then
 some true
 else
 aB (fV p0 e6.el) λr14=>
 some (decide (r14 < (0:Int)))
 else
 aB (fV p0 e6.el) λr10=>
 some (decide (r10 < (0:Int)))) λx7=>
 if x7=true then
 aQ (
 aQ (
 some false))
 else
 if ((!(decide (e6.pos=(1:Int))))&&(!(decide (e6.pos=(2:Int)))))=true then
 aQ (
 aQ (
 some false))
 else
 aC (I64 (x3+(1:Int))) <|
 some (.inl (x3+(1:Int)))
 else
 aQ (
 some (.inl ()))) (0:Int)) λ_=>
 some true
def dQ (p0:(List Aa)) (p1:(List Aa)):Option Bool:=
 bS (
 aY (λx3=>
 if x3 < (p0.length:Int) then
 bS (
 aU p0 x3 λe7=>
 aY (λx9=>
 if x9 < (p1.length:Int) then
 aU p1 x9 λe12=>
 if ((decide (e7.el=e12.el))&&(!(decide (e7.pos=e12.pos))))=true then
 aQ (
 aQ (
 aQ (
 aQ (
 some false))))
 else
 aC (I64 (x9+(1:Int))) <|
 some (.inl (x9+(1:Int)))
 else
 aQ (
 some (.inl ()))) (0:Int)) λ_=>
 aC (I64 (x3+(1:Int))) <|
 some (.inl (x3+(1:Int)))
 else
 aQ (
 some (.inl ()))) (0:Int)) λ_=>
 some true
def nI (p0:Al):Option Int:=
 aB (
 if (48:Int) < (p0.Ab.length:Int) then
 some true
 else
 if (32:Int) < (p0.Ae.length:Int) then
 some true
 else
 aB (cQ p0.Ad (25:Int)) λr5=>
 if (!(r5))=true then
 some true
 else
 aB (cQ p0.Ah (21:Int)) λr7=>
 some (!(r7))) λx1=>
 if x1=true then
 some (2:Int)
 else
 aB (fU p0) λr9=>
 if (!(r9))=true then
 some (1:Int)
 else
 bS (
 aY (λx13=>
 if x13 < (p0.Ab.length:Int) then
 aU p0.Ab x13 λe16=>
 aB (fA p0 e16) λr17=>
 if (!(r17))=true then
 aQ (
 aQ (
 some (1:Int)))
 else
 aC (I64 (x13+(1:Int))) <|
 some (.inl (x13+(1:Int)))
 else
 aQ (
 some (.inl ()))) (0:Int)) λ_=>
 bS (
 aY (λx25=>
 if x25 < (p0.Ab.length:Int) then
 aU p0.Ab x25 λe28=>
 aB (
 aB (cL p0 e28.Ae) λr31=>
 if (!(r31))=true then
 some true
 else
 aB (cL p0 e28.Aj) λr33=>
 if (!(r33))=true then
 some true
 else
 aB (cL p0 e28.At) λr35=>
 some (!(r35))) λx29=>
 if x29=true then
 aQ (
 aQ (
 some (1:Int)))
 else
 aC (I64 (x25+(1:Int))) <|
 some (.inl (x25+(1:Int)))
 else
 aQ (
 some (.inl ()))) (0:Int)) λ_=>
 bS (
 aY (λx43=>
 if x43 < (p0.Ab.length:Int) then
 aU p0.Ab x43 λe46=>
 aB (
 aB (dQ e46.Ae e46.Aj) λr49=>
 if (!(r49))=true then
 some true
 else
 aB (dQ e46.Ae e46.At) λr51=>
 if (!(r51))=true then
 some true
 else
 aB (dQ e46.Aj e46.At) λr53=>
 some (!(r53))) λx47=>
 if x47=true then
 aQ (
 aQ (
 some (10:Int)))
 else
 aC (I64 (x43+(1:Int))) <|
 some (.inl (x43+(1:Int)))
 else
 aQ (
 some (.inl ()))) (0:Int)) λ_=>
 bS (
 aY (λ(x64,b65)=>
 if x64 < (p0.Ab.length:Int) then
 aU p0.Ab x64 λe68=>
 aC (b65.map (·.1)).Nodup <|
 if (((cO b65 e68.name).getD false))=true then
 aQ (
 aQ (
 some (8:Int)))
 else
 aC (b65.map (·.1)).Nodup <|
 aC (I64 (x64+(1:Int))) <|
 some (.inl ((x64+(1:Int)),(uA b65 e68.name true)))
 else
 aQ (
 some (.inl b65))) ((0:Int),([]:List (BA×Bool)))) λm59=>
 some (0:Int)
def iG (p0:Ak) (p1:Int):Option Bool:=
 aB (
 if p0.state=(0:Int) then
 some (decide (p0.state=(0:Int)))
 else
 if p0.state=(1:Int) then
 some (decide (p0.state=(1:Int)))
 else
 some (decide (p0.state=(2:Int)))) λx1=>
 if x1=true then
 some ((decide (p0.rel=(0:Int)))&&(decide (p0.timer=(0:Int))))
 else
 if p0.state=(3:Int) then
 if ((decide (p0.rel < (0:Int)))||(decide (p1<=p0.rel)))=true then
 some false
 else
 aB (
 if p0.timer=(0:Int) then
 some true
 else
 aC (I64 (p1 - (1:Int))) <|
 if p0.rel=(p1 - (1:Int)) then
 if (0:Int) < p0.timer then
 some (decide (p0.timer < (4:Int)))
 else
 some false
 else
 some false) λx10=>
 some x10
 else
 if p0.state=(4:Int) then
 some ((decide ((0:Int)<=p0.rel))&&((decide (p0.rel < p1))&&((decide ((0:Int)<=p0.timer))&&(decide (p0.timer < (12:Int))))))
 else
 some false
def qQ (p0:Al) (p1:Az):Option Bool:=
 aB (
 aB (nI p0) λr3=>
 if r3=(0:Int) then
 if (p1.Ab.length:Int)=(p0.Ab.length:Int) then
 some (!(decide ((p1.lies.length:Int)=(p0.Ae.length:Int))))
 else
 some true
 else
 some true) λx1=>
 if x1=true then
 some false
 else
 bS (
 aY (λx9=>
 if x9 < (p1.Ab.length:Int) then
 aU p1.Ab x9 λe12=>
 aU p0.Ab x9 λe13=>
 aB (iG e12 (e13.Ad.length:Int)) λr14=>
 if (!(r14))=true then
 aQ (
 aQ (
 some false))
 else
 aC (I64 (x9+(1:Int))) <|
 some (.inl (x9+(1:Int)))
 else
 aQ (
 some (.inl ()))) (0:Int)) λ_=>
 bS (
 aY (λx22=>
 if x22 < (p1.lies.length:Int) then
 aU p1.lies x22 λe25=>
 if ((!(decide (e25=(1:Int))))&&(!(decide (e25=(2:Int)))))=true then
 aQ (
 aQ (
 some false))
 else
 aC (I64 (x22+(1:Int))) <|
 some (.inl (x22+(1:Int)))
 else
 aQ (
 some (.inl ()))) (0:Int)) λ_=>
 some true
def qO (p0:Ai) (p1:Ak):Option ((List Int)):=
 if p1.state=(0:Int) then
 some ([]:List Int)
 else
 aC (0<=p1.rel/\p1.rel<=(p0.Ad.length:Int)/\(p0.Ad.length:Int)<=(p0.Ad.length:Int)) <|
 aB (dD (sub p0.Ad p1.rel (p0.Ad.length:Int))) λr3=>
 some r3
def qP (p0:Ai) (p1:Ak):Option ((List Int)):=
 if p1.state=(0:Int) then
 some ([]:List Int)
 else
 aB (dD p0.Ao) λr2=>
 some r2
def mB (p0:Ai) (p1:Ak):Option ((List Ap)):=
 aB (
 aB (qO p0 p1) λr3=>
 aY (λ(x7,b8)=>
 if x7 < (r3.length:Int) then
 aU r3 x7 λe11=>
 aC ((b8++([(⟨e11,(0:Int)⟩:Ap)]:List Ap)).length<=1000000000) <|
 aC (I64 (x7+(1:Int))) <|
 some (.inl ((x7+(1:Int)),(b8++([(⟨e11,(0:Int)⟩:Ap)]:List Ap))))
 else
 aQ (
 some b8)) ((0:Int),([]:List Ap))) λb1=>
 aB (
 aB (qP p0 p1) λr17=>
 aY (λ(x21,b22)=>
 if x21 < (r17.length:Int) then
 aU r17 x21 λe25=>
 aC ((b22++([(⟨e25,(1:Int)⟩:Ap)]:List Ap)).length<=1000000000) <|
 aC (I64 (x21+(1:Int))) <|
 some (.inl ((x21+(1:Int)),(b22++([(⟨e25,(1:Int)⟩:Ap)]:List Ap))))
 else
 aQ (
 some b22)) ((0:Int),b1)) λb15=>
 some b15
def gQ (p0:Ai) (p1:Ai):Option Bool:=
 some ((decide ((0:Int)<=p0.exit))&&(decide (p1.entry=p0.exit)))
def pG (p0:(List Ap)) (p1:Int) (p2:Int):Option Bool:=
 bS (
 aY (λx3=>
 if x3 < (p0.length:Int) then
 aU p0 x3 λe6=>
 aC (Ap.ok e6/\Ap.ok (⟨p1,p2⟩:Ap)) <|
 if e6=(⟨p1,p2⟩:Ap) then
 aQ (
 aQ (
 some true))
 else
 aC (I64 (x3+(1:Int))) <|
 some (.inl (x3+(1:Int)))
 else
 aQ (
 some (.inl ()))) (0:Int)) λ_=>
 some false
def lI (p0:Ai) (p1:Ai) (p2:(List Ap)) (p3:(List Ap)):Option Bool:=
 aB (gQ p0 p1) λr1=>
 aB (gQ p1 p0) λr2=>
 bS (
 aY (λx5=>
 if x5 < (p2.length:Int) then
 aU p2 x5 λe8=>
 aB (
 aB (pG p3 e8.a0 (0:Int)) λr11=>
 if r11=true then
 if e8.a1=(0:Int) then
 some true
 else
 some (!(r1))
 else
 some false) λx9=>
 if x9=true then
 aQ (
 aQ (
 some true))
 else
 aB (
 aB (pG p3 e8.a0 (1:Int)) λr19=>
 if r19=true then
 if (!(r2))=true then
 if e8.a1=(0:Int) then
 some true
 else
 some (!(r1))
 else
 some false
 else
 some false) λx17=>
 if x17=true then
 aQ (
 aQ (
 some true))
 else
 aC (I64 (x5+(1:Int))) <|
 some (.inl (x5+(1:Int)))
 else
 aQ (
 some (.inl ()))) (0:Int)) λ_=>
 some false
def eT (p0:(List Int)) (p1:Int):Option Bool:=
 aB (fB p0 p1) λr1=>
 some (decide ((0:Int)<=r1))
def tB (p0:(List Int)) (p1:Int):Option Bool:=
 aB (eT p0 p1) λr1=>
 some r1
def fM (p0:List (List Aa)):Option (List Aa):=
 aC (p0.length<=1000/\p0.flatten.length<=1000000000) <|
 some p0.flatten
def kM (p0:Int):Option Bool:=
 some (!(decide (p0=p0)))
def fT (p0:Int) (p1:Int):Option Int:=
 aB (kM p0) λr1=>
 aB (kM p1) λr2=>
 if r1=true then
 if r2=true then
 some (0:Int)
 else
 some (-1:Int)
 else
 if r2=true then
 some (1:Int)
 else
 if p0 < p1 then
 some (-1:Int)
 else
 if p1 < p0 then
 some (1:Int)
 else
 some (0:Int)
def qV (p0:(List Int)):Option Int:=
 bS (
 aY (λx3=>
 if x3 < (p0.length:Int) then
 aU p0 x3 λe6=>
 if e6=(0:Int) then
 aC (I64 (x3+(1:Int))) <|
 some (.inl (x3+(1:Int)))
 else
 aQ (
 aQ (
 some e6))
 else
 aQ (
 some (.inl ()))) (0:Int)) λ_=>
 some (0:Int)
def cG (p0:Aa) (p1:Aa):Option Int:=
 aB (fT p0.el p1.el) λr1=>
 aB (fT p0.pos p1.pos) λr2=>
 aB (qV ([r1,r2]:List Int)) λr3=>
 some r3
def iQ (p0:Ai):Option ((List Aa)):=
 aB (fM ([p0.Ae,p0.Aj,p0.At]:List (List Aa))) λr1=>
 aC (r1.length<=1000000000) <|
 aB (
 aY (λ(x8,b9)=>
 if x8 < ((pQ cG r1).length:Int) then
 aU (pQ cG r1) x8 λe12=>
 aB (
 if x8=(0:Int) then
 some true
 else
 aC (I64 (x8 - (1:Int))) <|
 aU (pQ cG r1) (x8 - (1:Int)) λe17=>
 aC (Aa.ok e12/\Aa.ok e17) <|
 some (!(decide (e12=e17)))) λx13=>
 if x13=true then
 aC ((b9++([e12]:List Aa)).length<=1000000000) <|
 aC (I64 (x8+(1:Int))) <|
 some (.inl ((x8+(1:Int)),(b9++([e12]:List Aa))))
 else
 aC (I64 (x8+(1:Int))) <|
 some (.inl ((x8+(1:Int)),b9))
 else
 aQ (
 some b9)) ((0:Int),([]:List Aa))) λb3=>
 some b3
def nZ (p0:Al) (p1:Ai) (p2:Ak):Option ((List Aa)):=
 if p2.state=(0:Int) then
 some ([]:List Aa)
 else
 aB (
 aY (λ(x7,b8)=>
 if x7 < (p1.Ae.length:Int) then
 aU p1.Ae x7 λe11=>
 aC (0<=(0:Int)/\(0:Int)<=p2.rel/\p2.rel<=(p1.Ad.length:Int)) <|
 aB (fV p0 e11.el) λr13=>
 aU p0.A1 r13 λe14=>
 aB (tB (sub p1.Ad (0:Int) p2.rel) e14) λr15=>
 if (!(r15))=true then
 aC ((b8++([e11]:List Aa)).length<=1000000000) <|
 aC (I64 (x7+(1:Int))) <|
 some (.inl ((x7+(1:Int)),(b8++([e11]:List Aa))))
 else
 aC (I64 (x7+(1:Int))) <|
 some (.inl ((x7+(1:Int)),b8))
 else
 aQ (
 some b8)) ((0:Int),([]:List Aa))) λb2=>
 aB (iQ (⟨(⟨#[]⟩:BA),(0:Int),(0:Int),([]:List An),b2,([]:List Int),(0:Int),(0:Int),([]:List An),p1.Aj,([]:List Int),p1.At,([]:List Int),([]:List End)⟩:Ai)) λr21=>
 some r21
def oA (p0:Al) (p1:Az):Option Bool:=
 aB (qQ p0 p1) λr1=>
 if (!(r1))=true then
 some false
 else
 aB (
 aY (λ(x8,b9)=>
 if x8 < (p0.Ab.length:Int) then
 aU p0.Ab x8 λe12=>
 aU p1.Ab x8 λe13=>
 aB (mB e12 e13) λr14=>
 aC ((b9++([r14]:List (List Ap))).length<=1000000000) <|
 aC (I64 (x8+(1:Int))) <|
 some (.inl ((x8+(1:Int)),(b9++([r14]:List (List Ap)))))
 else
 aQ (
 some b9)) ((0:Int),([]:List (List Ap)))) λb3=>
 bS (
 aY (λx20=>
 if x20 < (p0.Ab.length:Int) then
 bS (
 aY (λx25=>
 if x25 < x20 then
 aU p0.Ab x20 λe28=>
 aU p0.Ab x25 λe29=>
 aU b3 x20 λe30=>
 aU b3 x25 λe31=>
 aB (lI e28 e29 e30 e31) λr32=>
 if r32=true then
 aQ (
 aQ (
 aQ (
 aQ (
 some false))))
 else
 aC (I64 (x25+(1:Int))) <|
 some (.inl (x25+(1:Int)))
 else
 aQ (
 some (.inl ()))) (0:Int)) λ_=>
 aC (I64 (x20+(1:Int))) <|
 some (.inl (x20+(1:Int)))
 else
 aQ (
 some (.inl ()))) (0:Int)) λ_=>
 bS (
 aY (λx44=>
 if x44 < (p0.Ab.length:Int) then
 bS (
 aU p0.Ab x44 λe48=>
 aU p1.Ab x44 λe49=>
 aB (nZ p0 e48 e49) λr50=>
 aY (λx52=>
 if x52 < (r50.length:Int) then
 aU r50 x52 λe55=>
 aB (fV p0 e55.el) λr56=>
 aU p1.lies r56 λe57=>
 if e57=e55.pos then
 aC (I64 (x52+(1:Int))) <|
 some (.inl (x52+(1:Int)))
 else
 aQ (
 aQ (
 aQ (
 aQ (
 some false))))
 else
 aQ (
 some (.inl ()))) (0:Int)) λ_=>
 aC (I64 (x44+(1:Int))) <|
 some (.inl (x44+(1:Int)))
 else
 aQ (
 some (.inl ()))) (0:Int)) λ_=>
 some true
def iI (p0:Al) (p1:(List Ar)) (p2:Int):Option ((List Int)):=
 if ((decide (p2 < (0:Int)))||(decide ((32:Int) < p2)))=true then
 some ([]:List Int)
 else
 aC (0<=p2/\p2<=1000000000) <|
 aB (
 aY (λ(x9,b10)=>
 if x9 < ((List.replicate p2.toNat (0:Int)).length:Int) then
 aB (fV p0 x9) λr13=>
 if ((decide ((0:Int)<=r13))&&(decide (r13 < (p1.length:Int))))=true then
 aU p1 r13 λe16=>
 aU b10 x9 λe17=>
 aC (I64 (x9+(1:Int))) <|
 some (.inl ((x9+(1:Int)),(b10.set x9.toNat e16.pos)))
 else
 aC (I64 (x9+(1:Int))) <|
 some (.inl ((x9+(1:Int)),b10))
 else
 aQ (
 some b10)) ((0:Int),(List.replicate p2.toNat (0:Int)))) λb4=>
 some b4
def passages:List Br:=[⟨1,0,1,0⟩,⟨1,1,0,0⟩,⟨2,0,1,1⟩,⟨2,0,2,2⟩,⟨2,1,0,1⟩,⟨2,2,0,2⟩,⟨3,0,1,0⟩,⟨3,1,0,0⟩,⟨3,2,3,0⟩,⟨3,3,2,0⟩]
def pC (p0:Int) (p1:Int) (p2:Int):Option (Int×Bool):=
 bS (
 aY (λx3=>
 if x3 < (10:Int) then
 aU passages x3 λe6=>
 if ((decide (e6.kind=p0))&&((decide (e6.inV=p1))&&(decide (e6.out=p2))))=true then
 aQ (
 aQ (
 some (e6.need,true)))
 else
 aC (I64 (x3+(1:Int))) <|
 some (.inl (x3+(1:Int)))
 else
 aQ (
 some (.inl ()))) (0:Int)) λ_=>
 some ((0:Int),false)
def kA (p0:Am):Option ((List Ac)):=
 aB (iI p0.Aq p0.machines (p0.layout.Af.length:Int)) λr1=>
 aB (
 aY (λ(x7,b8)=>
 if x7 < (p0.units.length:Int) then
 aB (
 aU p0.units x7 λe13=>
 aY (λ(x17,b18)=>
 if x17 < (e13.body.steps.length:Int) then
 aU e13.body.steps x17 λe21=>
 if ((decide (e21.el < (0:Int)))||((decide ((p0.layout.Af.length:Int)<=e21.el))||(decide ((r1.length:Int)<=e21.el))))=true then
 aC (I64 (x17+(1:Int))) <|
 some (.inl ((x17+(1:Int)),b18))
 else
 aU p0.layout.Af e21.el λe26=>
 aB (pC e26.kind e21.inV e21.out) λ(r28,r29)=>
 aB (
 if r29=true then
 if r28=(0:Int) then
 some false
 else
 aU r1 e21.el λe34=>
 some (!(decide (r28=e34)))
 else
 some false) λx30=>
 if x30=true then
 aC ((b18++([(⟨(4:Int),e13.cab.train.id,e21.el⟩:Ac)]:List Ac)).length<=1000000000) <|
 aC (I64 (x17+(1:Int))) <|
 some (.inl ((x17+(1:Int)),(b18++([(⟨(4:Int),e13.cab.train.id,e21.el⟩:Ac)]:List Ac))))
 else
 aC (I64 (x17+(1:Int))) <|
 some (.inl ((x17+(1:Int)),b18))
 else
 aQ (
 some b18)) ((0:Int),b8)) λb11=>
 aC (I64 (x7+(1:Int))) <|
 some (.inl ((x7+(1:Int)),b11))
 else
 aQ (
 some b8)) ((0:Int),([]:List Ac))) λb2=>
 some b2
def gF (p0:Am):Option ((List Ac)):=
 aB (
 aY (λ(x6,b7)=>
 if x6 < (p0.Aq.Ab.length:Int) then
 aU p0.Aq.Ab x6 λe10=>
 aB (
 if x6 < (p0.inter.Ab.length:Int) then
 aU p0.inter.Ab x6 λe14=>
 some (decide (e14.state=(2:Int)))
 else
 some false) λx11=>
 if x11=true then
 aC (b7.map (·.1)).Nodup <|
 aC (I64 (x6+(1:Int))) <|
 some (.inl ((x6+(1:Int)),(uA b7 e10.entry true)))
 else
 aC (I64 (x6+(1:Int))) <|
 some (.inl ((x6+(1:Int)),b7))
 else
 aQ (
 some b7)) ((0:Int),([]:List (Int×Bool)))) λm1=>
 aB (
 aY (λ(x25,b26)=>
 if x25 < (p0.clear.length:Int) then
 aU p0.clear x25 λe29=>
 aB (
 if e29=true then
 aC (m1.map (·.1)).Nodup <|
 some (!(((cO m1 x25).getD false)))
 else
 some false) λx30=>
 if x30=true then
 aC ((b26++([(⟨(5:Int),x25,(0:Int)⟩:Ac)]:List Ac)).length<=1000000000) <|
 aC (I64 (x25+(1:Int))) <|
 some (.inl ((x25+(1:Int)),(b26++([(⟨(5:Int),x25,(0:Int)⟩:Ac)]:List Ac))))
 else
 aC (I64 (x25+(1:Int))) <|
 some (.inl ((x25+(1:Int)),b26))
 else
 aQ (
 some b26)) ((0:Int),([]:List Ac))) λb20=>
 some b20
def gG (p0:Am):Option ((List Ac)):=
 aB (
 aY (λ(x6,b7)=>
 if x6 < (p0.center.tracks.length:Int) then
 aB (
 aU p0.center.tracks x6 λe12=>
 aY (λ(x16,b17)=>
 if x16 < (e12.Ab.length:Int) then
 aU e12.Ab x16 λe20=>
 aC (b17.map (·.1)).Nodup <|
 aC (I64 (((cO b17 e20).getD (0:Int))+(1:Int))) <|
 aC (b17.map (·.1)).Nodup <|
 aC (I64 (x16+(1:Int))) <|
 some (.inl ((x16+(1:Int)),(uA b17 e20 (((cO b17 e20).getD (0:Int))+(1:Int)))))
 else
 aQ (
 some b17)) ((0:Int),b7)) λm10=>
 aC (I64 (x6+(1:Int))) <|
 some (.inl ((x6+(1:Int)),m10))
 else
 aQ (
 some b7)) ((0:Int),([]:List (Int×Int)))) λm1=>
 aB (
 aY (λ(x33,b34)=>
 if x33 < (p0.Aq.Ab.length:Int) then
 aB (
 if x33 < (p0.inter.Ab.length:Int) then
 aU p0.inter.Ab x33 λe40=>
 some (decide (e40.state=(0:Int)))
 else
 some false) λidle37=>
 aB (
 aC (m1.map (·.1)).Nodup <|
 if (1:Int) < ((cO m1 x33).getD (0:Int)) then
 some true
 else
 aC (m1.map (·.1)).Nodup <|
 if ((cO m1 x33).getD (0:Int))=(1:Int) then
 some idle37
 else
 some false) λx41=>
 if x41=true then
 aC ((b34++([(⟨(6:Int),x33,(0:Int)⟩:Ac)]:List Ac)).length<=1000000000) <|
 aC (I64 (x33+(1:Int))) <|
 some (.inl ((x33+(1:Int)),(b34++([(⟨(6:Int),x33,(0:Int)⟩:Ac)]:List Ac))))
 else
 aC (I64 (x33+(1:Int))) <|
 some (.inl ((x33+(1:Int)),b34))
 else
 aQ (
 some b34)) ((0:Int),([]:List Ac))) λb28=>
 some b28
def eU (p0:Am):Option ((List Ac)):=
 aB (dI p0) λr1=>
 aB (
 aY (λ(x7,b8)=>
 if x7 < (p0.units.length:Int) then
 aU p0.units x7 λe11=>
 aB (
 aB (gO e11.cab.mode) λr14=>
 if r14=true then
 some (decide (e11.cab.auth.endV < e11.xV))
 else
 some false) λx12=>
 if x12=true then
 aC ((b8++([(⟨(2:Int),e11.cab.train.id,(0:Int)⟩:Ac)]:List Ac)).length<=1000000000) <|
 aC (I64 (x7+(1:Int))) <|
 some (.inl ((x7+(1:Int)),(b8++([(⟨(2:Int),e11.cab.train.id,(0:Int)⟩:Ac)]:List Ac))))
 else
 aC (I64 (x7+(1:Int))) <|
 some (.inl ((x7+(1:Int)),b8))
 else
 aQ (
 some b8)) ((0:Int),r1)) λb2=>
 aB (
 aB (oA p0.Aq p0.inter) λr23=>
 if (!(r23))=true then
 aC ((b2++([(⟨(3:Int),(0:Int),(0:Int)⟩:Ac)]:List Ac)).length<=1000000000) <|
 some (b2++([(⟨(3:Int),(0:Int),(0:Int)⟩:Ac)]:List Ac))
 else
 some b2) λb21=>
 aB (kA p0) λr26=>
 aC ((b21++r26).length<=1000000000) <|
 aB (gF p0) λr28=>
 aC (((b21++r26)++r28).length<=1000000000) <|
 aB (gG p0) λr30=>
 aC ((((b21++r26)++r28)++r30).length<=1000000000) <|
 some (((b21++r26)++r28)++r30)
def iR (p0:Am):Option Bool:=
 aB (eU p0) λr1=>
 some (decide ((r1.length:Int)=(0:Int)))
def eQ (p0:Am):Option Bool:=
 aB (dI p0) λr1=>
 some (decide ((r1.length:Int)=(0:Int)))
def oC:Option Bool:=
 aB (vR) λ(r2,r3)=>
 aB (uD) λr4=>
 aB (wR r4 ([r2]:List Bd) ([r3]:List Bc) []) λ(r6,r7)=>
 aB (
 if r7=(0:Int) then
 aB (eU r6) λr11=>
 if (r11.length:Int)=(0:Int) then
 aB (iR r6) λr13=>
 if (!(r13))=true then
 some true
 else
 aB (eQ r6) λr15=>
 some (!(r15))
 else
 some true
 else
 some true) λx8=>
 if x8=true then
 none
 else
 aB (eU (⟨r6.layout,r6.Aq,r6.inter,r6.machines,([false,true]:List Bool),r6.units,r6.center,r6.air,r6.faults,r6.pending,r6.possessions,r6.restrictions,r6.orders,r6.trips,r6.plan,r6.progress,r6.decisions,r6.now⟩:Am)) λr17=>
 aB (uD) λr18=>
 aB (wR r18 ([r2,(⟨(4:Int),r2.name,r2.length,r2.speed,r2.accel,r2.service,r2.emergency,r2.delay,r2.const,r2.rate⟩:Bd)]:List Bd) ([r3,(⟨([(⟨(1:Int),(0:Int),(1:Int)⟩:An)]:List An),(6000:Int),(5000:Int)⟩:Bc)]:List Bc) []) λ(r20,r21)=>
 if ((!(decide (r21=(0:Int))))||(!(decide ((r20.units.length:Int)=(2:Int)))))=true then
 none
 else
 aU r20.units (1:Int) λe24=>
 aB (eU (⟨r20.layout,r20.Aq,r20.inter,r20.machines,r20.clear,(r20.units.set (1:Int).toNat (⟨r3,e24.speed,e24.xV,e24.braking,e24.cab⟩:Av)),r20.center,r20.air,r20.faults,r20.pending,r20.possessions,r20.restrictions,r20.orders,r20.trips,r20.plan,r20.progress,r20.decisions,r20.now⟩:Am)) λr25=>
 aB (
 if (r17.length:Int)=(1:Int) then
 aU r17 (0:Int) λe29=>
 aC (Ac.ok e29/\Ac.ok (⟨(5:Int),(1:Int),(0:Int)⟩:Ac)) <|
 if e29=(⟨(5:Int),(1:Int),(0:Int)⟩:Ac) then
 if (r25.length:Int)=(1:Int) then
 aU r25 (0:Int) λe34=>
 aC (Ac.ok e34/\Ac.ok (⟨(1:Int),(3:Int),(4:Int)⟩:Ac)) <|
 if e34=(⟨(1:Int),(3:Int),(4:Int)⟩:Ac) then
 aB (iR (⟨r20.layout,r20.Aq,r20.inter,r20.machines,r20.clear,(r20.units.set (1:Int).toNat (⟨r3,e24.speed,e24.xV,e24.braking,e24.cab⟩:Av)),r20.center,r20.air,r20.faults,r20.pending,r20.possessions,r20.restrictions,r20.orders,r20.trips,r20.plan,r20.progress,r20.decisions,r20.now⟩:Am)) λr38=>
 if (!(r38))=true then
 aB (eQ (⟨r20.layout,r20.Aq,r20.inter,r20.machines,r20.clear,(r20.units.set (1:Int).toNat (⟨r3,e24.speed,e24.xV,e24.braking,e24.cab⟩:Av)),r20.center,r20.air,r20.faults,r20.pending,r20.possessions,r20.restrictions,r20.orders,r20.trips,r20.plan,r20.progress,r20.decisions,r20.now⟩:Am)) λr40=>
 some (!(r40))
 else
 some false
 else
 some false
 else
 some false
 else
 some false
 else
 some false) λx26=>
 some x26
def dX (p0:Am):Option ((List Ac)):=
 aB (
 aY (λ(a6,b7)=>
 if a6 < (p0.units.length:Int) then
 aB (
 aC (I64 (a6+(1:Int))) <|
 aY (λ(b16,b17)=>
 if b16 < (p0.units.length:Int) then
 aU p0.units a6 λe20=>
 aB (dP p0.layout e20.body) λr21=>
 aU p0.units b16 λe22=>
 aB (dP p0.layout e22.body) λr23=>
 aB (hU r21 r23) λr24=>
 if (0:Int) < (r24.length:Int) then
 aU p0.units a6 λe26=>
 aU p0.units b16 λe27=>
 aC ((b17++([(⟨(1:Int),e26.cab.train.id,e27.cab.train.id⟩:Ac)]:List Ac)).length<=1000000000) <|
 aC (I64 (b16+(1:Int))) <|
 some (.inl ((b16+(1:Int)),(b17++([(⟨(1:Int),e26.cab.train.id,e27.cab.train.id⟩:Ac)]:List Ac))))
 else
 aC (I64 (b16+(1:Int))) <|
 some (.inl ((b16+(1:Int)),b17))
 else
 aQ (
 some b17)) ((a6+(1:Int)),b7)) λb10=>
 aC (I64 (a6+(1:Int))) <|
 some (.inl ((a6+(1:Int)),b10))
 else
 aQ (
 some b7)) ((0:Int),([]:List Ac))) λb1=>
 some b1
def iT (p0:Am):Option ((List Ac)):=
 aB (
 aY (λ(i6,b7)=>
 if i6 < (p0.units.length:Int) then
 aU p0.units i6 λe10=>
 if ((decide (e10.cab.mode=(2:Int)))&&(decide (e10.cab.auth.endV < e10.xV)))=true then
 aC ((b7++([(⟨(2:Int),e10.cab.train.id,(0:Int)⟩:Ac)]:List Ac)).length<=1000000000) <|
 aC (I64 (i6+(1:Int))) <|
 some (.inl ((i6+(1:Int)),(b7++([(⟨(2:Int),e10.cab.train.id,(0:Int)⟩:Ac)]:List Ac))))
 else
 aC (I64 (i6+(1:Int))) <|
 some (.inl ((i6+(1:Int)),b7))
 else
 aQ (
 some b7)) ((0:Int),([]:List Ac))) λb1=>
 some b1
def iE (p0:Al) (p1:(List Ar)) (p2:Int):Option ((List Int)):=
 if ((decide (p2 < (0:Int)))||(decide ((32:Int) < p2)))=true then
 some ([]:List Int)
 else
 aC (0<=p2/\p2<=1000000000) <|
 aB (
 aC (I64 ((p0.Ae.length:Int) - (1:Int))) <|
 aY (λ(i10,b11)=>
 if (0:Int)<=i10 then
 aU p0.Ae i10 λe14=>
 if ((decide (e14 < (0:Int)))||(decide (p2<=e14)))=true then
 aC (I64 (i10 - (1:Int))) <|
 some (.inl ((i10 - (1:Int)),b11))
 else
 aU b11 e14 λe18=>
 if i10 < (p1.length:Int) then
 aU p1 i10 λe20=>
 aU (b11.set e14.toNat (0:Int)) e14 λe21=>
 aC (I64 (i10 - (1:Int))) <|
 some (.inl ((i10 - (1:Int)),((b11.set e14.toNat (0:Int)).set e14.toNat e20.pos)))
 else
 aC (I64 (i10 - (1:Int))) <|
 some (.inl ((i10 - (1:Int)),(b11.set e14.toNat (0:Int))))
 else
 aQ (
 some b11)) (((p0.Ae.length:Int) - (1:Int)),(List.replicate p2.toNat (0:Int)))) λb4=>
 some b4
def lT (p0:Am):Option ((List Ac)):=
 aB (iE p0.Aq p0.machines (p0.layout.Af.length:Int)) λr1=>
 aB (
 aY (λ(i7,b8)=>
 if i7 < (p0.units.length:Int) then
 aB (
 aU p0.units i7 λe13=>
 aY (λ(k17,b18)=>
 if k17 < (e13.body.steps.length:Int) then
 aU e13.body.steps k17 λe21=>
 aU p0.layout.Af e21.el λe22=>
 aU e13.body.steps k17 λe23=>
 aU e13.body.steps k17 λe24=>
 aB (dU e22.kind e23.inV e24.out) λ(r26,r27)=>
 aB (
 if r26=(0:Int) then
 some false
 else
 aU e13.body.steps k17 λe31=>
 aU r1 e31.el λe32=>
 some (!(decide (e32=r26)))) λx28=>
 if x28=true then
 aU p0.units i7 λe34=>
 aU e13.body.steps k17 λe35=>
 aC ((b18++([(⟨(4:Int),e34.cab.train.id,e35.el⟩:Ac)]:List Ac)).length<=1000000000) <|
 aC (I64 (k17+(1:Int))) <|
 some (.inl ((k17+(1:Int)),(b18++([(⟨(4:Int),e34.cab.train.id,e35.el⟩:Ac)]:List Ac))))
 else
 aC (I64 (k17+(1:Int))) <|
 some (.inl ((k17+(1:Int)),b18))
 else
 aQ (
 some b18)) ((0:Int),b8)) λb11=>
 aC (I64 (i7+(1:Int))) <|
 some (.inl ((i7+(1:Int)),b11))
 else
 aQ (
 some b8)) ((0:Int),([]:List Ac))) λb2=>
 some b2
def kC (p0:Am):Option ((List Ac)):=
 aB (
 aY (λ(x6,b7)=>
 if x6 < (p0.clear.length:Int) then
 aB (
 aB (
 aY (λ(found16,x17)=>
 if x17 < (p0.Aq.Ab.length:Int) then
 if found16=true then
 aC (I64 (x17+(1:Int))) <|
 some (.inl (true,(x17+(1:Int))))
 else
 aU p0.Aq.Ab x17 λe21=>
 if e21.entry=x6 then
 aU p0.inter.Ab x17 λe24=>
 aC (I64 (x17+(1:Int))) <|
 some (.inl (decide (e24.state=(2:Int)),(x17+(1:Int))))
 else
 aC (I64 (x17+(1:Int))) <|
 some (.inl (false,(x17+(1:Int))))
 else
 aQ (
 some found16)) (false,(0:Int))) λfound12=>
 aB (
 aU p0.clear x6 λe30=>
 if e30=true then
 some (!(found12))
 else
 some false) λx28=>
 if x28=true then
 aC ((b7++([(⟨(5:Int),x6,(0:Int)⟩:Ac)]:List Ac)).length<=1000000000) <|
 some (b7++([(⟨(5:Int),x6,(0:Int)⟩:Ac)]:List Ac))
 else
 some b7) λb10=>
 aC (I64 (x6+(1:Int))) <|
 some (.inl ((x6+(1:Int)),b10))
 else
 aQ (
 some b7)) ((0:Int),([]:List Ac))) λb1=>
 some b1
def lU (p0:Am):Option ((List Ac)):=
 aB (
 aY (λ(x6,b7)=>
 if x6 < (p0.Aq.Ab.length:Int) then
 aB (
 aB (
 aY (λ(n16,i17)=>
 if i17 < (p0.center.tracks.length:Int) then
 aB (
 aU p0.center.tracks i17 λe22=>
 aY (λ(n25,k26)=>
 if k26 < (e22.Ab.length:Int) then
 aU e22.Ab k26 λe29=>
 if e29=x6 then
 aC (I64 (n25+(1:Int))) <|
 aC (I64 (k26+(1:Int))) <|
 some (.inl ((n25+(1:Int)),(k26+(1:Int))))
 else
 aC (I64 (k26+(1:Int))) <|
 some (.inl (n25,(k26+(1:Int))))
 else
 aQ (
 some n25)) (n16,(0:Int))) λn20=>
 aC (I64 (i17+(1:Int))) <|
 some (.inl (n20,(i17+(1:Int))))
 else
 aQ (
 some n16)) ((0:Int),(0:Int))) λn12=>
 aB (
 if (1:Int) < n12 then
 some true
 else
 if n12=(1:Int) then
 aU p0.inter.Ab x6 λe41=>
 some (decide (e41.state=(0:Int)))
 else
 some false) λx37=>
 if x37=true then
 aC ((b7++([(⟨(6:Int),x6,(0:Int)⟩:Ac)]:List Ac)).length<=1000000000) <|
 some (b7++([(⟨(6:Int),x6,(0:Int)⟩:Ac)]:List Ac))
 else
 some b7) λb10=>
 aC (I64 (x6+(1:Int))) <|
 some (.inl ((x6+(1:Int)),b10))
 else
 aQ (
 some b7)) ((0:Int),([]:List Ac))) λb1=>
 some b1
def nJ (p0:Am):Option ((List Ac)):=
 aB (dX p0) λr1=>
 aB (iT p0) λr2=>
 aC ((r1++r2).length<=1000000000) <|
 aB (
 aB (lB p0.Aq p0.inter) λr6=>
 if (!(r6))=true then
 aC (((r1++r2)++([(⟨(3:Int),(0:Int),(0:Int)⟩:Ac)]:List Ac)).length<=1000000000) <|
 some ((r1++r2)++([(⟨(3:Int),(0:Int),(0:Int)⟩:Ac)]:List Ac))
 else
 some (r1++r2)) λb4=>
 aB (lT p0) λr9=>
 aC ((b4++r9).length<=1000000000) <|
 aB (kC p0) λr11=>
 aC (((b4++r9)++r11).length<=1000000000) <|
 aB (lU p0) λr13=>
 aC ((((b4++r9)++r11)++r13).length<=1000000000) <|
 some (((b4++r9)++r11)++r13)
def mM (p0:(List Ac)) (p1:(List Ac)):Option Bool:=
 if (p0.length:Int)=(p1.length:Int) then
 bS (
 aY (λi4=>
 if i4 < (p0.length:Int) then
 aU p0 i4 λe7=>
 aU p1 i4 λe8=>
 aC (Ac.ok e7/\Ac.ok e8) <|
 if e7=e8 then
 aC (I64 (i4+(1:Int))) <|
 some (.inl (i4+(1:Int)))
 else
 aQ (
 aQ (
 some false))
 else
 aQ (
 some (.inl ()))) (0:Int)) λ_=>
 some true
 else
 some false
def iU (p0:Am):Option Bool:=
 aB (dX p0) λr1=>
 some (decide ((r1.length:Int)=(0:Int)))
def hZ (p0:Am):Option Bool:=
 aB (
 aB (sY p0) λr3=>
 if (!(r3))=true then
 some true
 else
 aB (nL p0) λr5=>
 some (!(decide (r5=(0:Int))))) λx1=>
 if x1=true then
 aB (oC) λr7=>
 some r7
 else
 aB (nJ p0) λr8=>
 aB (
 aB (eU p0) λr11=>
 aB (mM r11 r8) λr12=>
 if r12=true then
 aB (iR p0) λr14=>
 if ((r14 == (decide ((r8.length:Int)=(0:Int)))))=true then
 aB (eQ p0) λr16=>
 aB (iU p0) λr17=>
 if ((r16 == r17))=true then
 aB (oC) λr19=>
 some r19
 else
 some false
 else
 some false
 else
 some false) λx9=>
 some x9
@[simp] theorem aA {α:Type} {p:Prop} [Decidable p] {k:Option α} (h:p):aC p k=k:=if_pos h
@[simp] theorem aD {α β:Type} (a:α) (k:α->Option β):aB (some a) k=k a:=rfl
@[simp] theorem pI {α β:Type} (a:α) (k:α->Option β):bS (some (.inl a)) k=k a:=rfl
@[simp] theorem qYF {α β:Type} (b:β) (k:α->Option β):bS (some (.inr b)) k=some b:=rfl
@[simp] theorem dM {α β:Type} (b:β):(aQ (some b):Option (α ⊕ β))=some (.inr b):=rfl
theorem aH {α β:Type} {l:List α} {i:Nat} {e:α} {k:α->Option β} (h:l[i]?=some e):aU l (i:Int) k=k e:=by simp [aU,h]
theorem gA {α β:Type} {l:List α} {i:Int} {e:α} {k:α->Option β} (h0:0<=i) (h:l[i.toNat]?=some e):aU l i k=k e:=by simp [aU,h0,h]
@[simp] theorem ite_bindM {α β:Type} {p:Prop} [Decidable p] (a b:α) (k:α->Option β):aB (if p then some a else some b) k=k (if p then a else b):=by split<;>rfl
theorem fE {α β:Type} {p:Prop} [Decidable p] (a b:Option α) (k:α->Option β):aB (if p then a else b) k=if p then aB a k else aB b k:=by split<;>rfl
theorem qAB {α:Type} {p:Prop} [Decidable p] (a b:α):(if p then some a else some b)=some (if p then a else b):=by split<;>rfl
theorem qAT {p:Prop} [Decidable p] {a b:Bool}:((if p then a else b)=true)=((p/\a=true)\/(¬ p/\b=true)):=by split<;>simp_all
theorem lM {α:Type} (l:List α) (i:Nat):sub l (i:Int) (l.length:Int)=l.drop i:=by simp [sub,<- List.length_drop]
theorem qNM {α:Type} (l:List α) (i:Nat):sub l 0 (i:Int)=l.take i:=by simp [sub]
variable {σ ρ:Type}
theorem qPX {f:σ->Option (σ ⊕ ρ)} (B:Nat->σ) {o:ρ}:∀ (n k:Nat),(∀ i,k<=i->i < k+n->f (B i)=some (.inl (B (i+1))))->f (B (k+n))=some (.inr o)->mI f (n+1) (B k)=some o
 | 0,k,_,he=>by simp only [Nat.add_zero] at he;simp [mI,he]
 | n+1,k,hf,he=>by
  simp only [mI];rw [hf k (zQW _) (by omega)];exact qPX B n (k+1) (λi h1 h2=>hf i (by omega) (by omega)) (by rw [show k+1+n=k+(n+1) by omega];exact he)
theorem iP {f:σ->Option (σ ⊕ ρ)} (B:Nat->σ) (n:Nat) {o:ρ} {s:σ} (hs:s=B 0) (hn:n<=9223372036854775807) (hf:∀ i,i < n->f (B i)=some (.inl (B (i+1)))) (he:f (B n)=some (.inr o)):aY f s=some o:=by
 subst hs;exact vP (qPX B n 0 (λi _ h=>hf i (by omega)) (by rw [Nat.zero_add];exact he)) (by unfold lR;omega)
theorem qPL {f : Int -> Option (Int ⊕ ρ)} (n : Nat) (c : Nat -> Option ρ) (o : ρ) (hn : n <= 9223372036854775807) (hf : ∀ i, i < n -> f (i : Int) = match c i with
  | some r => some (.inr r)
  | none => some (.inl ((i : Int) + 1))) (he : f (n : Int) = some (.inr o)) : aY f 0 = some (((List.range n).findSome? c).getD o) := by
 cases h:(List.range n).findSome? c with
 | none=>
  rw [List.findSome?_eq_none_iff] at h;refine iP (λi=>(i:Int)) n rfl hn (λi hi=>?_) he;rw [hf i hi,h i (List.mem_range.2 hi)];rfl
 | some r=>
  rw [List.findSome?_eq_some_iff] at h;obtain⟨l1,a,l2,h1,h2,h3⟩:=h
  have ha:l1.length=a/\a < n:=by
   have hlen:l1.length < (List.range n).length:=by rw [h1];simp
   have:(List.range n)[l1.length]?=some a:=by rw [h1];simp
   simp only [List.length_range] at hlen;simp [hlen] at this;exact⟨this,by omega⟩
  obtain⟨ha1,ha2⟩:=ha;refine iP (λi=>(i:Int)) a rfl (by omega) (λi hi=>?_) ?_
  ·have hm:i∈l1:=by
    have:(List.range n)[i]?=some i:=List.getElem?_range (by omega);rw [h1,List.getElem?_append_left (by omega)] at this;exact zQM this
   rw [hf i (by omega),h3 i hm];rfl
  rw [hf a ha2,h2];rfl
theorem qGQ {α β:Type} (l:List α) (c:Nat->Option β) (d:α->Option β) (h:∀ (i:Nat) (e:α),l[i]?=some e->c i=d e):(List.range l.length).findSome? c=l.findSome? d:=by
 induction l generalizing c with
 | nil=>rfl
 | cons x r ih=>
  rw [List.length_cons,List.range_succ_eq_map,List.findSome?_cons,List.findSome?_map,List.findSome?_cons,h 0 x rfl]
  cases d x with
  | some b=>rfl
  | none=>exact ih (c ∘ Nat.succ) λi e he=>h (i+1) e (by simpa using he)
theorem qJY {α : Type} {f : Int -> Option (Int ⊕ ρ)} (l : List α) (d : α -> Option ρ) (o : ρ) (hn : l.length <= 9223372036854775807) (hf : ∀ (i : Nat) (e : α), l[i]? = some e -> f (i : Int) = match d e with
  | some r => some (.inr r)
  | none => some (.inl ((i : Int) + 1))) (he : f (l.length : Int) = some (.inr o)) : aY f 0 = some ((l.findSome? d).getD o) := by
 rw [qPL l.length (λi=>(l[i]?).bind d) o hn (λi hi=>?_) he,qGQ l _ d (λi e he=>by simp [he])];rw [hf i l[i] (by simp),zQR hi];rfl
theorem qAK {α β:Type} (l:List α) (c:α->Bool) (v:β):l.findSome? (λe=>if c e=true then some v else none)=if l.any c=true then some v else none:=by
 induction l with
 | nil=>rfl
 | cons x r ih=>
  rw [List.findSome?_cons,List.any_cons,ih];cases c x<;>simp
theorem fI {α:Type} {f:Int->Option (Int ⊕ ρ)} (l:List α) (c:α->Bool) (v o:ρ) (hn:l.length<=9223372036854775807) (hf:∀ (i:Nat) (e:α),l[i]?=some e->f (i:Int)=if c e=true then some (.inr v) else some (.inl ((i:Int)+1))) (he:f (l.length:Int)=some (.inr o)):aY f 0=some (if l.any c=true then v else o):=by
 rw [qJY l (λe=>if c e=true then some v else none) o hn (λi e h=>by rw [hf i e h];cases c e<;>simp) he,qAK];split<;>rfl
theorem fD {f:Int->Option (Int ⊕ ρ)} (n:Nat) (c:Nat->Bool) (v o:ρ) (hn:n<=9223372036854775807) (hf:∀ i,i < n->f (i:Int)=if c i=true then some (.inr v) else some (.inl ((i:Int)+1))) (he:f (n:Int)=some (.inr o)):aY f 0=some (if (List.range n).any c=true then v else o):=by
 rw [qPL n (λe=>if c e=true then some v else none) o hn (λi h=>by rw [hf i h];cases c i<;>simp) he,qAK];split<;>rfl
theorem qCK {α:Type} {f:Int->Option (Int ⊕ ρ)} (l:List α) (c:α->Bool) (w:Nat->ρ) (o:ρ) (hn:l.length<=9223372036854775807) (hf:∀ (i:Nat) (e:α),l[i]?=some e->f (i:Int)=if c e=true then some (.inr (w i)) else some (.inl ((i:Int)+1))) (he:f (l.length:Int)=some (.inr o)):aY f 0=some (match l.findIdx? c with|some i=>w i|none=>o):=by
 cases h:l.findIdx? c with
 | none=>
  rw [List.findIdx?_eq_none_iff] at h;refine iP (λi=>(i:Int)) l.length rfl hn (λi hi=>?_) he;rw [hf i l[i] (by simp),if_neg (by rw [h l[i] (by simp)];simp)];rfl
 | some k=>
  rw [List.findIdx?_eq_some_iff_getElem] at h;obtain⟨hk,h1,h2⟩:=h;refine iP (λi=>(i:Int)) k rfl (by omega) (λi hi=>?_) ?_
  ·have hl : i < l.length := by omega
   have:=h2 i hi;rw [hf i l[i] (by simp),if_neg (by simpa using this)];rfl
  rw [hf k l[k] (by simp),if_pos h1]
theorem jK {β:Type} {f:Int×β->Option ((Int×β) ⊕ ρ)} (n:Nat) (B:Nat->β) {o:ρ} {b:β} (hb:b=B 0) (hn:n<=9223372036854775807) (hf:∀ i,i < n->f ((i:Int),B i)=some (.inl ((i:Int)+1,B (i+1)))) (he:f ((n:Int),B n)=some (.inr o)):aY f (0,b)=some o:=
 iP (λi=>((i:Int),B i)) n (by rw [hb];rfl) hn (λi hi=>by rw [hf i hi];rfl) he
theorem qJZ {β:Type} {f:Int×β->Option ((Int×β) ⊕ ρ)} (n:Nat) (B:Nat->β) (c:Nat->Bool) (v o:ρ) {b:β} (hb:b=B 0) (hn:n<=9223372036854775807) (hf:∀ i,i < n->(∀ j,j < i->c j=false)->f ((i:Int),B i)=if c i=true then some (.inr v) else some (.inl ((i:Int)+1,B (i+1)))) (he:(∀ j,j < n->c j=false)->f ((n:Int),B n)=some (.inr o)):aY f (0,b)=some (if (List.range n).any c=true then v else o):=by
 cases h:(List.range n).findIdx? c with
 | none=>
  rw [List.findIdx?_eq_none_iff] at h;have hall:∀ j,j < n->c j=false:=λj hj=>by simpa using h j (List.mem_range.2 hj)
  have hno:¬ (List.range n).any c=true:=by
   rw [zQU];rintro⟨j,hj,hc⟩;rw [hall j (List.mem_range.1 hj)] at hc;cases hc
  rw [if_neg hno];exact jK n B hb hn (λi hi=>by rw [hf i hi (λj hj=>hall j (by omega)),hall i hi];rfl) (he hall)
 | some k=>
  rw [List.findIdx?_eq_some_iff_getElem] at h;obtain⟨hk,h1,h2⟩:=h;simp only [List.length_range] at hk;simp only [List.getElem_range] at h1;have hb':∀ j,j < k->c j=false:=λj hj=>by have:=h2 j hj;simpa using this
  have hyes:(List.range n).any c=true:=zQU.2 ⟨k,List.mem_range.2 hk,h1⟩;rw [if_pos hyes];exact jK k B hb (by omega) (λi hi=>by rw [hf i (by omega) (λj hj=>hb' j (by omega)),hb' i hi];rfl) (by rw [hf k hk hb',h1];rfl)
theorem bW {i n:Nat} (h:i < n) (hn:n<=9223372036854775807):I64 ((i:Int)+1):=by unfold I64;omega
def sgn (x y:Int):Int:=if x < y then -1 else if y < x then 1 else 0
theorem qTK (x y:Int):fT x y=some (sgn x y):=by
 simp only [fT,kM,decide_true,Bool.not_true,aD,Bool.false_eq_true,if_false,sgn];split
 ·rfl
 split<;>rfl
theorem or_eq (x y:Int):qV [x,y]=some (if x=0 then y else x):=by
 unfold qV;by_cases hx:x=0
 ·by_cases hy:y=0
  ·rw [vP (n := 3) (r := (.inl () : Unit ⊕ Int)) (by simp [mI, aU, aC, I64, hx, hy, aQ]) (by decide)];simp [bS,hx,hy]
  rw [vP (n := 3) (r := (.inr y : Unit ⊕ Int)) (by simp [mI, aU, aC, I64, hx, hy, aQ]) (by decide)];simp [bS,hx]
 rw [vP (n := 3) (r := (.inr x : Unit ⊕ Int)) (by simp [mI, aU, aC, I64, hx, aQ]) (by decide)];simp [bS,hx]
theorem pT (x y:Aa):cG x y=some (if sgn x.el y.el=0 then sgn x.pos y.pos else sgn x.el y.el):=by
 simp only [cG,qTK,aD,or_eq]
theorem lL:SortOk cG:=by
 have hl:∀ x y,ltM cG x y=decide (x.el < y.el\/x.el=y.el/\x.pos < y.pos):=by
  intro x y;simp only [ltM,pT,Option.getD_some,sgn];rw [decide_eq_decide];split<;>split<;>(try split)<;>(try split)<;>omega
 refine⟨λx y=>⟨_,pT x y⟩,λx=>?_,λx y z h1 h2=>?_,λx y z h1 h2=>?_,λx y h1 h2=>?_⟩
 ·rw [hl];simp
 ·rw [hl,decide_eq_true_eq] at *; omega
 ·rw [hl,decide_eq_false_iff_not] at *; omega
 rw [hl,decide_eq_false_iff_not] at *;obtain⟨a,b⟩:=x;obtain⟨c,d⟩:=y;simp only at h1 h2;have h3:a=c:=by omega
 have h4:b=d:=by omega
 rw [h3,h4]
end Go.Proofs.YtofndjhpbonpbaaGreatDoor
