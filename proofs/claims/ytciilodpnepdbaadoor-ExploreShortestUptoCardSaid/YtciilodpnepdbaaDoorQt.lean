/- Texts of this proof, joined, without what it does not use. No condition. -/
import Derived.OrdersIn
import Derived.Test.YtciilodpnepdbaaDoorQs

set_option maxHeartbeats 4000000
namespace Go.TL
variable {C:Ctx} {st:St} {g:Gh} {a:Act} {w:World} {P:Program}
section
variable {K0:St->Prop} {K K':Act->World->Prop} {o:Oper}
theorem qBH (hK:∀ a w,K a w->a.defers=[]) (h:o.wp P a w K (QN C K0)):a.defers=[]:=by
  unfold Oper.wp at h;generalize (execOp a.eval o).run P w=r at h
  cases r with
  | ok x w'=>
    cases x with
    | value v=>have:=hK _ _ h;rwa [bU] at this
    | skip=>have:=hK _ _ h;rwa [bU] at this
    | defer d=>have:=hK _ _ h;rw [bU] at this;cases this
    | enter f args=>
      obtain⟨e,w'',fr,hr,_⟩:=h []
      cases e with
      | returned v=>have:=hK _ _ hr;rwa [bU] at this
      | panicked ch=>exact hr.elim
      | outgrown=>obtain⟨_,_,hr⟩:=hr;exact hr.elim
    | row s args=>
      obtain⟨v,w'',hr,_⟩:=h default [];have:=hK _ _ hr;rwa [bU] at this
    | _=>exact h.elim
  | halt x w'=>cases x<;>exact h.elim
theorem op_in {ro:Option Nat} {n:Nat} {df:List Deferred} {R:Exit->Act->World->Prop} (hd:fQ o=true) (hK:∀ a w,K a w->a.defers=[]) (hK':∀ a w,K a w->K' (Act.mark df a) w) (h:o.wp P a w K (QN C K0)):o.wpIn (FR ro) n P (Act.mark df a) w K' R:=by
  refine⟨λ_ _=>trivial,?_⟩;have he:(Act.mark df a).eval=a.eval:=by funext x;cases x<;>rfl
  rw [he,qF hd];unfold Oper.wp at h;generalize (execOp a.eval o).run P w=r at h ⊢
  cases r with
  | ok x w'=>
    cases x with
    | value v=>simp only [Oper.uponIn,eG];exact hK' _ _ h
    | skip=>simp only [Oper.uponIn,eG];exact hK' _ _ h
    | defer d=>have:=hK _ _ h;rw [bU] at this;cases this
    | enter f args=>
      refine⟨λe=>(by cases e),(mS h).mono ?_⟩;intro e w'' hr
      cases e with
      | returned v=>simp only [eG];exact hK' _ _ hr
      | panicked ch=>exact hr.elim
      | outgrown=>obtain⟨_,_,hr⟩:=hr;exact hr.elim
    | row s args=>
      refine⟨λe=>(by cases e),(sM h).mono ?_⟩;intro v w'' hr;simp only [eG];exact hK' _ _ hr
    | _=>exact h.elim
  | halt x w'=>cases x<;>exact h.elim
theorem vD {ops:Array Oper} {i:Nat} (hK:∀ a w,K a w->a.defers=[]) (h:wpOp P ops (QN C K0) i K a w):a.defers=[]:=by
  unfold wpOp at h;split at h
  · exact hK _ _ h
  split at h
  · rcases h with h|⟨_,_,_,h⟩
    · exact qBH hK h
    exact h.elim
  have:=hK _ _ h;rwa [bU] at this
theorem qGS {ro:Option Nat} {n:Nat} {df:List Deferred} {R:Exit->Act->World->Prop} {ops:Array Oper} {i:Nat} (hd:ops.toList.all fQ=true) (hK:∀ a w,K a w->a.defers=[]) (hK':∀ a w,K a w->K' (Act.mark df a) w) (h:wpOp P ops (QN C K0) i K a w):wpOpIn (FR ro) n P ops R i K' (Act.mark df a) w:=by
  unfold wpOp at h;unfold wpOpIn
  cases ho:ops[i]? with
  | none=>rw [ho] at h;exact hK' _ _ h
  | some o=>
    rw [ho] at h;simp only at h ⊢;have ht:(Act.mark df a).tmps=a.tmps:=rfl;rw [ht];have hd':fQ o=true:=zQT.1 hd o (Array.mem_toList_iff.2 (Array.mem_of_getElem? ho));by_cases hw:Region.wanted o (yielded ops a.tmps)=true
    · rw [if_pos hw] at h ⊢
      rcases h with h|⟨_,_,_,h⟩
      · exact op_in hd' hK hK' h
      exact h.elim
    have hw : Region.wanted o (yielded ops a.tmps) = false := by simpa using hw
    simp only [hw,Bool.false_eq_true,if_false] at h ⊢;refine⟨λ_ _=>trivial,?_⟩;rw [eG];exact hK' _ _ h
end
theorem rS {K0:St->Prop} {md:Region.Mode} {ops:Array Oper}:∀ (fuel:Nat) (listed:Array Bool) (a:Act) (w:World),wpAny P md ops (QN C K0) fuel listed a w->a.defers=[]
  | 0,listed,a,w,h=>by obtain⟨_,st,g,_,hs⟩:=h;exact hs.defers
  | fuel+1,listed,a,w,h=>by
    cases hr:Region.ready md ops listed with
    | nil=>obtain⟨st,g,_,hs⟩:=h.1 hr;exact hs.defers
    | cons i r=>exact vD (λa w h=>rS fuel _ a w h) (h.2 i (by rw [hr];exact List.mem_cons_self))
theorem qGE {K0:St->Prop} {ro:Option Nat} {n:Nat} {df:List Deferred} {R:Exit->Act->World->Prop} {md:Region.Mode} {ops:Array Oper} (hd:ops.toList.all fQ=true) (hR:∀ a w,Sat C K0 a w->R .normal (Act.mark df a) w):
    ∀ (fuel:Nat) (listed:Array Bool) (a:Act) (w:World),wpAny P md ops (QN C K0) fuel listed a w->wpAnyIn (FR ro) n P md ops R fuel listed (Act.mark df a) w
  | 0,_,a,w,h=>⟨h.1,hR a w h.2⟩
  | fuel+1,_,a,w,h=>⟨λhr=>hR a w (h.1 hr),λi hi=>qGS hd (λa w h=>rS fuel _ a w h) (λa w h=>qGE hd hR fuel _ a w h) (h.2 i hi)⟩
theorem i_draw {ro:Option Nat} {df:List Deferred} {id:Nat} {ops:Array Oper} {Q:Exit->St->Prop} (hm:C.P.follows .mixedOrders=true) (hd:ops.toList.all fQ=true) (h:TDr C ops (Q .normal) ops.toList st.fr st.hp []):TWpI ro C df (.region id ops true) st Q:=λg a w hs=>by
  have hs':Sim C st g a w.drew:=hs.drew;obtain⟨recs,hg,q,hE,hT,hT2⟩:=vH (fr0:=st.fr) (hp0:=st.hp) h rfl rfl rfl λi r hi=>by simp at hi
  have hnone:∀ i,aV (Array.replicate ops.size false) i=false:=λi=>by simp only [aV];rw [Array.getD_eq_getD_getElem?,Array.getElem?_replicate];split<;>rfl
  have hz:∀ n,cnt (aV (Array.replicate ops.size false)) n=0:=λn=>by
    induction n with
    | zero=>rfl
    | succ n ih=>simp only [cnt,ih,hnone];rfl
  have hall:=qAP hg q hE hT hT2 ops.size (Array.replicate ops.size false) a w.drew st g (by simp) (λi o ho hi=>absurd ((hnone i).symm.trans hi) Bool.false_ne_true) (λi _=>hnone i) (by rw [hz];omega) hs' (Part.start _ _ _ λi _=>hnone i);exact wpIn_region_any hm (qGE hd (λ_ _=>qDK λ_ h=>h) _ _ _ _ hall)
variable {C:Ctx} {st:St} {g:Gh} {a:Act} {w:World} {P:Program}
theorem vL {fr fr':Fr} {hp hp':List Blk} (ks:List Nat) (h1:kQ fr ks=some fr') (h2:qV hp=some hp') (hs:Sim C ⟨fr,hp⟩ g a w):Sim C ⟨fr',hp'⟩ g a w:=by
  have e:=qU h2;subst e;have:=hs.forget (Fr.get_keep fr ks)
  rwa [<- (lF h1).keep] at this
section
variable {ro:Option Nat} {df:List Deferred} {ops:Array Oper} {l:List Oper} {K:St->Prop} {Q:Exit->St->Prop} {fr fr':Fr} {hp hp':List Blk} {c:Code}
theorem gJ (ks:List Nat) (h1:kQ fr ks=some fr') (h2:qV hp=some hp') (h:qCO C c ⟨fr',hp'⟩ Q):qCO C c ⟨fr,hp⟩ Q:=λg a w hs=>h g a w (vL ks h1 h2 hs)
theorem qDN {y:Code} (ks:List Nat) (h1:kQ fr ks=some fr') (h2:qV hp=some hp') (h:qIS C c y ⟨fr',hp'⟩ Q):qIS C c y ⟨fr,hp⟩ Q:=λg a w hs=>h g a w (vL ks h1 h2 hs)
theorem dZ {id:Nat} (hd:ops.toList.all fQ=true) (h:aM C ops ops.toList st (pn C [] Q)):TWpI ro C df (.region id ops false) st Q:=qFF hd h
theorem qHZ {id:Nat} (hm:C.P.follows .mixedOrders=true) (hd:ops.toList.all fQ=true) (h:TDr C ops (pn C [] Q) ops.toList st.fr st.hp []):TWpI ro C df (.region id ops true) st Q:=i_draw hm hd h
theorem fG (n:Nat) {l1 l2:List Oper} (h1:l.take n=l1) (h2:l.drop n=l2) (hd:l1.all fQ=true) (h:aM C ops l1 st (pn C [] λ_ st'=>kY ro C df ops l2 st' K)):kY ro C df ops l st K:=by
  subst h1 h2;exact i_cut n hd h
theorem i_if {α:Type} {p:Prop} [Decidable p] {x0 y0:Option α} {r:α} {o:Operand} {x y:Code} (hm:(if p then x0 else y0)=some r) (hc:st.fr.ev o=.d (.bool (decide p)))
    (h1:decide p=true->x0=some r->TWpI ro C df x st Q) (h2:decide p=false->y0=some r->TWpI ro C df y st Q):TWpI ro C df (.cond o x y) st Q:=
  qFG _ hc (λh=>h1 h (JT h hm)) (λh=>h2 h (JF h hm))
theorem qJF {α:Type} {p:Prop} [Decidable p] {x0 y0:Option α} {r:α} {o:Operand} {x y:Code} (hm:(if p then y0 else x0)=some r) (hc:st.fr.ev o=.d (.bool (!decide p)))
    (h1:(!decide p)=true->x0=some r->TWpI ro C df x st Q) (h2:(!decide p)=false->y0=some r->TWpI ro C df y st Q):TWpI ro C df (.cond o x y) st Q:=
  qFG _ hc (λh=>h1 h (oH h hm)) (λh=>h2 h (oI h hm))
end
theorem qCG {id:Nat} {ops:Array Oper} {ks:List Kt} {Q:Exit->St->Prop} (h:kY none C [] ops ops.toList st (pn C ks Q)):TWp C (.region id ops false) st (post C ks Q):=(qBT (Q:=post C ks Q) h).plain
theorem oP {id:Nat} {ops:Array Oper} {y:Code} {ks:List Kt} {Q:Exit->St->Prop} (h:kY none C [] ops ops.toList st (pn C (.s y :: ks) Q)):TWp C (.seq (.region id ops false) y) st (post C ks Q):=TQ (qCG (ks:=.s y :: ks) h)
theorem gI {ro:Option Nat} {df:List Deferred} {ops:Array Oper} {ks:List Kt} {Q:Exit->St->Prop} (h:post C ks Q .normal st):kY ro C df ops [] st (pn C ks Q):=i_nil h
theorem vC {k:Nat} {b:Bool} {hp':List Blk} {e:Exit} {ps:Array Tmp} {asg body:Code} {n:Nat} {fr:Fr} (ids:List Nat) (he:(e=.normal/\b=true)\/(e=.ret/\b=false)) (hnd:dG ids=true) (hk:∀ i,i < k->ids[i]?=some i) (h0:st.hp[0]?=some (.lp .busy none ps asg body n fr))
    (h:ids.map (λi=>((st.hp.set 0 (mD b ps asg body n fr)).getD i .dead).mapRef (toName (aC ids)))=hp'):yQ k b hp' e st:=⟨he,ids,ps,asg,body,n,fr,cD hnd,hk,h0,h⟩
def uH:Code->Option (Array Tmp×Code×Code)
  | .seq a b=>match uH a with
    | some r=>some r
    | none=>uH b
  | .block _ c=>uH c
  | .rangeFunc _ ps a b=>some (ps,a,b)
  | _=>none
def gH (f:Func):Array Tmp×Code×Code:=match f.body with
  | some c=>(uH c).getD (#[],.skip,.skip)
  | none=>(#[],.skip,.skip)
end Go.TL
set_option maxHeartbeats 8000000
set_option linter.unusedSimpArgs false
set_option linter.unusedVariables false
set_option maxRecDepth 20000
namespace Go.Proofs.YtciilodpnepdbaaDoor
open Go Go.TL
abbrev BA := ByteArray
structure Ab where
 op:Int
 var:Int
 args:(List Ab)
instance:Inhabited Ab:=⟨⟨default,default,[]⟩⟩
mutual
def Ab.Ak:Ab->D
 | ⟨a0,a1,a2⟩=>.agg [.int .i64 a0,.int .i64 a1,.sl 3 (Ab.An a2)]
def Ab.An:List Ab->List D
 | []=>[]
 | e :: r=>Ab.Ak e :: Ab.An r
end
theorem Ab.encsR_map:∀ xs:List Ab,Ab.An xs=xs.map Ab.Ak
 | []=>by simp [Ab.An]
 | e :: r=>by simp [Ab.An,Ab.encsR_map r]
def Ab.enc (x:Ab):D:=.agg [.int .i64 x.op,.int .i64 x.var,.sl 3 (x.args.map Ab.Ak)]
theorem Ab.Ag (x:Ab):x.Ak=x.enc:=by cases x;simp [Ab.Ak,Ab.enc,Ab.encsR_map]
theorem Ab.Am (x:Ab):x.Ak.cells.length=3:=by rw [Ab.Ag];rfl
mutual
def Ab.beq:Ab->Ab->Bool
 | ⟨a0,a1,a2⟩,⟨b0,b1,b2⟩=>decide (a0=b0)&&decide (a1=b1)&&Ab.beqs a2 b2
def Ab.beqs:List Ab->List Ab->Bool
 | [],[]=>true
 | x :: xs,y :: ys=>Ab.beq x y&&Ab.beqs xs ys
 | _,_=>false
end
mutual
theorem Ab.beq_iff:∀ a b:Ab,Ab.beq a b=true↔a=b
 | ⟨a0,a1,a2⟩,⟨b0,b1,b2⟩=>by simp [Ab.beq,Ab.beqs_iff a2 b2,and_assoc]
theorem Ab.beqs_iff:∀ a b:List Ab,Ab.beqs a b=true↔a=b
 | [],[]=>by simp [Ab.beqs]
 | [],_ :: _=>by simp [Ab.beqs]
 | _ :: _,[]=>by simp [Ab.beqs]
 | x :: xs,y :: ys=>by simp [Ab.beqs,Ab.beq_iff x y,Ab.beqs_iff xs ys]
end
instance:DecidableEq Ab:=λa b=>decidable_of_iff _ (Ab.beq_iff a b)
inductive Ab.Wf:Ab->Prop
 | mk (x:Ab) (h0:I64 x.op) (h1:I64 x.var) (h2:x.args.length<=reachBytes) (g2:∀ y∈x.args,Ab.Wf y):Ab.Wf x
structure Ae where
 kind:Int
 var:Int
 Af:Int
 expr:Ab
deriving DecidableEq,Inhabited
def Ae.enc (x:Ae):D:=.agg [.int .i64 x.kind,.int .i64 x.var,.int .i64 x.Af,.int .i64 x.expr.op,.int .i64 x.expr.var,.sl 3 (x.expr.args.map Ab.Ak)]
structure Ae.Wf (x:Ae):Prop where
 kind:I64 x.kind
 var:I64 x.var
 Af:I64 x.Af
 expr:Ab.Wf x.expr
structure Program where
 names:(List BA)
 inputs:Int
 Ac:(List Ae)
deriving DecidableEq,Inhabited
def Program.enc (x:Program):D:=.agg [.sl 1 (x.names.map D.str),.int .i64 x.inputs,.sl 6 (x.Ac.map Ae.enc)]
structure Program.Wf (x:Program):Prop where
 names:x.names.length<=reachBytes/\∀ y∈x.names,y.size<=reachBytes
 inputs:I64 x.inputs
 Ac:x.Ac.length<=reachBytes/\∀ y∈x.Ac,Ae.Wf y
structure Aa where
 name:BA
 expr:Ab
deriving DecidableEq,Inhabited
def Aa.enc (x:Aa):D:=.agg [.str x.name,.int .i64 x.expr.op,.int .i64 x.expr.var,.sl 3 (x.expr.args.map Ab.Ak)]
structure Aa.Wf (x:Aa):Prop where
 name:x.name.size<=reachBytes
 expr:Ab.Wf x.expr
structure Machine where
 vars:(List Bool)
 counts:(List Int)
 halted:Bool
deriving DecidableEq,Inhabited
def Machine.enc (x:Machine):D:=.agg [.sl 1 (x.vars.map D.bool),.sl 1 (x.counts.map (D.int .i64)),.bool x.halted]
structure Machine.Wf (x:Machine):Prop where
 vars:x.vars.length<=reachBytes/\∀ y∈x.vars,True
 counts:x.counts.length<=reachBytes/\∀ y∈x.counts,I64 y
 halted:True
structure Ad where
 machine:Machine
 before:Int
 input:Int
 scan:Int
deriving DecidableEq,Inhabited
def Ad.enc (x:Ad):D:=.agg [.sl 1 (x.machine.vars.map D.bool),.sl 1 (x.machine.counts.map (D.int .i64)),.bool x.machine.halted,.int .i64 x.before,.int .i64 x.input,.int .i64 x.scan]
structure Ad.Wf (x:Ad):Prop where
 machine:Machine.Wf x.machine
 before:I64 x.before
 input:I64 x.input
 scan:I64 x.scan
structure Ah where
 p:Program
 inputs:(List (List Bool))
 depth:Int
 visits:(List Ad)
 seen:(List (BA×Bool))
deriving DecidableEq,Inhabited
structure Ah.Wf (x:Ah):Prop where
 p:Program.Wf x.p
 inputs:x.inputs.length<=reachBytes/\∀ y∈x.inputs,y.length<=reachBytes/\∀ z∈y,True
 depth:I64 x.depth
 visits:x.visits.length<=reachBytes/\∀ y∈x.visits,Ad.Wf y
 seen:True
inductive Fn97 where
 | c60
 | c61 (a0:Ae)
deriving DecidableEq
instance:Inhabited Fn97:=⟨.c60⟩
def Fn97.enc:Fn97->D
 | .c60=>.fn 60
 | .c61 a0=>.clo 61 [.ptr a0.enc 0]
structure Al where
 act:Fn97
deriving DecidableEq,Inhabited
def Al.enc (x:Al):D:=.agg [x.act.enc]
structure Al.Wf (x:Al):Prop where
 act:True
structure Aj where
 tid:Nat
 e:Ab
deriving DecidableEq,Inhabited
def Aj.enc (x:Aj):D:=.iface x.tid (.agg [.ptr x.e.enc 0])
structure Visit' where
 m:Machine
 trace:(List Int)
deriving DecidableEq,Inhabited
structure Visit'.Wf (x:Visit'):Prop where
 m:Machine.Wf x.m
 trace:x.trace.length<=reachBytes/\∀ y∈x.trace,I64 y
noncomputable abbrev TP := Tryd.prog
def cb_l:List Nat:=[6,8,9,10,12,13,15,16,18,19,20,21,22,23,24,25,26,27,30,31,32,35,36,37,38,39,40,41,42,43,44,47,48,49,50,51,52,55,56,57,58,60,61,62,63,64,65,67,68,71]
theorem cb_all:cb_l.all (iF TP)=true:=by kernel_rfl
theorem aX {F:Nat} (h:cb_l.elem F=true):iF TP F=true:=zQT.1 cb_all F (List.elem_iff.1 h)
theorem follows:TP.follows .mixedOrders=true:=by kernel_rfl
theorem own:ownKnob TP.godebug=none:=by kernel_rfl
theorem qHU:laidOutB TP=true:=by kernel_rfl
def tab:Tab where
 lay:=[(3,false,1),(4,false,1),(22,false,1),(23,false,1),(25,true,3),(26,false,1),(27,false,1),(30,false,1),(31,false,1),(40,false,1),(42,true,3),(50,false,1),(52,true,3),(54,true,4),(58,false,1),(66,true,6),(67,false,1),(68,false,1),(76,true,4),(83,true,6),(99,true,1),(106,false,1),(112,true,1),(113,true,1),(114,true,1),(115,true,1)]
 fs:=[(25,[(0,false,1),(1,false,1),(2,false,1)]),(42,[(0,false,1),(1,false,1),(2,false,1)]),(52,[(0,false,1),(1,false,1),(2,false,1)]),(54,[(0,false,1),(1,true,3)]),(66,[(0,true,3),(3,false,1),(4,false,1),(5,false,1)]),(70,[(0,true,3),(3,false,1),(4,false,1),(5,false,1),(6,false,1)]),(76,[(0,true,3),(3,false,1)]),(83,[(0,false,1),(1,false,1),(2,false,1),(3,true,3)]),(99,[(0,false,1)]),(112,[(0,false,1)]),(113,[(0,false,1)]),(114,[(0,false,1)]),(115,[(0,false,1)])]
 sel:=[(22,9,1,16),(23,83,6,64),(26,54,4,56),(27,40,1,24),(30,3,1,8),(40,4,1,1),(50,52,3,40),(67,66,6,80),(72,76,4,80),(102,5,1,1)]
 str:=[(9,())]
 boo:=[(4,())]
 con:=[(112,()),(113,()),(114,()),(115,()),(120,())]
theorem TK:TabOk TP tab:=qGW (by kernel_rfl)
section
variable {n k:Nat} {w:World} {g:Gh} {mv:Nat->Bool} {x y:Code} {ops ops':Array Oper} {l l':List Oper} {e e':Exit} {fr fr':Fr} {hp hp':List Blk} {ks kt:List Kt} {Q:Exit->St->Prop}
theorem cP (j:Nat) (h:run tab n j (.kc x fr hp [])=.kc y fr' hp' kt) (hk:TWp ⟨TP,n,w,k,g,mv⟩ y ⟨fr',hp'⟩ (post ⟨TP,n,w,k,g,mv⟩ kt Q)):TWp ⟨TP,n,w,k,g,mv⟩ x ⟨fr,hp⟩ Q:=gT (C:=⟨TP,n,w,k,g,mv⟩) (Q:=Q) (m:=.kc x fr hp []) TK h hk
theorem aS (j:Nat) (h:run tab n j (.kc x fr hp [])=.ko ops' l' fr' hp' kt) (hk:aM ⟨TP,n,w,k,g,mv⟩ ops' l' ⟨fr',hp'⟩ (pn ⟨TP,n,w,k,g,mv⟩ kt Q)):TWp ⟨TP,n,w,k,g,mv⟩ x ⟨fr,hp⟩ Q:=gT (C:=⟨TP,n,w,k,g,mv⟩) (Q:=Q) (m:=.kc x fr hp []) TK h hk
theorem r_px (j:Nat) (h:run tab n j (.kc x fr hp [])=.kx e' fr' hp' kt) (hk:post ⟨TP,n,w,k,g,mv⟩ kt Q e' ⟨fr',hp'⟩):TWp ⟨TP,n,w,k,g,mv⟩ x ⟨fr,hp⟩ Q:=gT (C:=⟨TP,n,w,k,g,mv⟩) (Q:=Q) (m:=.kc x fr hp []) TK h hk
theorem bD (j:Nat) (h:run tab n j (.kc x fr hp ks)=.kc y fr' hp' kt) (hk:TWp ⟨TP,n,w,k,g,mv⟩ y ⟨fr',hp'⟩ (post ⟨TP,n,w,k,g,mv⟩ kt Q)):TWp ⟨TP,n,w,k,g,mv⟩ x ⟨fr,hp⟩ (post ⟨TP,n,w,k,g,mv⟩ ks Q):=gT (C:=⟨TP,n,w,k,g,mv⟩) (Q:=Q) (m:=.kc x fr hp ks) TK h hk
theorem aN (j:Nat) (h:run tab n j (.kc x fr hp ks)=.ko ops' l' fr' hp' kt) (hk:aM ⟨TP,n,w,k,g,mv⟩ ops' l' ⟨fr',hp'⟩ (pn ⟨TP,n,w,k,g,mv⟩ kt Q)):TWp ⟨TP,n,w,k,g,mv⟩ x ⟨fr,hp⟩ (post ⟨TP,n,w,k,g,mv⟩ ks Q):=gT (C:=⟨TP,n,w,k,g,mv⟩) (Q:=Q) (m:=.kc x fr hp ks) TK h hk
theorem aJ (j:Nat) (h:run tab n j (.kc x fr hp ks)=.kx e' fr' hp' kt) (hk:post ⟨TP,n,w,k,g,mv⟩ kt Q e' ⟨fr',hp'⟩):TWp ⟨TP,n,w,k,g,mv⟩ x ⟨fr,hp⟩ (post ⟨TP,n,w,k,g,mv⟩ ks Q):=gT (C:=⟨TP,n,w,k,g,mv⟩) (Q:=Q) (m:=.kc x fr hp ks) TK h hk
theorem aK (j:Nat) (h:run tab n j (.ko ops l fr hp ks)=.kc y fr' hp' kt) (hk:TWp ⟨TP,n,w,k,g,mv⟩ y ⟨fr',hp'⟩ (post ⟨TP,n,w,k,g,mv⟩ kt Q)):aM ⟨TP,n,w,k,g,mv⟩ ops l ⟨fr,hp⟩ (pn ⟨TP,n,w,k,g,mv⟩ ks Q):=gT (C:=⟨TP,n,w,k,g,mv⟩) (Q:=Q) (m:=.ko ops l fr hp ks) TK h hk
theorem aI (j:Nat) (h:run tab n j (.ko ops l fr hp ks)=.ko ops' l' fr' hp' kt) (hk:aM ⟨TP,n,w,k,g,mv⟩ ops' l' ⟨fr',hp'⟩ (pn ⟨TP,n,w,k,g,mv⟩ kt Q)):aM ⟨TP,n,w,k,g,mv⟩ ops l ⟨fr,hp⟩ (pn ⟨TP,n,w,k,g,mv⟩ ks Q):=gT (C:=⟨TP,n,w,k,g,mv⟩) (Q:=Q) (m:=.ko ops l fr hp ks) TK h hk
theorem aF (j:Nat) (h:run tab n j (.ko ops l fr hp ks)=.kx e' fr' hp' kt) (hk:post ⟨TP,n,w,k,g,mv⟩ kt Q e' ⟨fr',hp'⟩):aM ⟨TP,n,w,k,g,mv⟩ ops l ⟨fr,hp⟩ (pn ⟨TP,n,w,k,g,mv⟩ ks Q):=gT (C:=⟨TP,n,w,k,g,mv⟩) (Q:=Q) (m:=.ko ops l fr hp ks) TK h hk
theorem pF (j:Nat) (h:run tab n j (.kx e fr hp ks)=.kc y fr' hp' kt) (hk:TWp ⟨TP,n,w,k,g,mv⟩ y ⟨fr',hp'⟩ (post ⟨TP,n,w,k,g,mv⟩ kt Q)):post ⟨TP,n,w,k,g,mv⟩ ks Q e ⟨fr,hp⟩:=gT (C:=⟨TP,n,w,k,g,mv⟩) (Q:=Q) (m:=.kx e fr hp ks) TK h hk
theorem bI (j:Nat) (h:run tab n j (.kx e fr hp ks)=.kx e' fr' hp' kt) (hk:post ⟨TP,n,w,k,g,mv⟩ kt Q e' ⟨fr',hp'⟩):post ⟨TP,n,w,k,g,mv⟩ ks Q e ⟨fr,hp⟩:=gT (C:=⟨TP,n,w,k,g,mv⟩) (Q:=Q) (m:=.kx e fr hp ks) TK h hk
end
theorem qAK:oN TP 112=true:=by kernel_rfl
theorem qAJ:oN TP 113=true:=by kernel_rfl
theorem qAI:oN TP 114=true:=by kernel_rfl
theorem qAH:oN TP 115=true:=by kernel_rfl
theorem qES:mty TP 68=some (9,.string,4):=by kernel_rfl
theorem plc112:plc TP 112=some [(0,1)]:=by kernel_rfl
theorem plc113:plc TP 113=some [(0,1)]:=by kernel_rfl
theorem plc114:plc TP 114=some [(0,1)]:=by kernel_rfl
theorem plc115:plc TP 115=some [(0,1)]:=by kernel_rfl
theorem qEF:plc TP 120=some [(0,1)]:=by kernel_rfl
theorem plc25:plc TP 25=some [(0,1),(1,1),(2,1)]:=by kernel_rfl
theorem sT:plc TP 42=some [(0,1),(1,1),(2,1)]:=by kernel_rfl
theorem qEE:plc TP 52=some [(0,1),(1,1),(2,1)]:=by kernel_rfl
theorem qJA:plc TP 54=some [(0,1),(1,3)]:=by kernel_rfl
theorem plc66:plc TP 66=some [(0,3),(3,1),(4,1),(5,1)]:=by kernel_rfl
theorem qIZ:plc TP 70=some [(0,3),(3,1),(4,1),(5,1),(6,1)]:=by kernel_rfl
theorem qIY:plc TP 83=some [(0,1),(1,1),(2,1),(3,3)]:=by kernel_rfl
theorem qIX:plc TP 99=some [(0,1)]:=by kernel_rfl
theorem tJ:(TP.info? 112).bind (·.zero)=Option.some (Go.Value.agg #[Go.Value.pointer Option.none]):=by kernel_rfl
theorem tI:(TP.info? 113).bind (·.zero)=Option.some (Go.Value.agg #[Go.Value.pointer Option.none]):=by kernel_rfl
theorem tH:(TP.info? 114).bind (·.zero)=Option.some (Go.Value.agg #[Go.Value.pointer Option.none]):=by kernel_rfl
theorem tG:(TP.info? 115).bind (·.zero)=Option.some (Go.Value.agg #[Go.Value.pointer Option.none]):=by kernel_rfl
theorem zD:(TP.info? 120).bind (·.zero)=Option.some (Go.Value.agg #[Go.Value.pointer Option.none]):=by kernel_rfl
theorem qCU:(TP.info? 25).bind (·.zero)=Option.some (Go.Value.agg #[Go.Value.slice Option.none 0 0,Go.Value.int Go.IntKind.i64 0,Go.Value.slice Option.none 0 0]):=by kernel_rfl
theorem iO:(TP.info? 3).bind (·.zero)=Option.some (Go.Value.int Go.IntKind.i64 0):=by kernel_rfl
theorem zero30:(TP.info? 30).bind (·.zero)=Option.some (Go.Value.slice Option.none 0 0):=by kernel_rfl
theorem qCT:(TP.info? 31).bind (·.zero)=Option.some (Go.Value.int Go.IntKind.i64 0):=by kernel_rfl
theorem kD:(TP.info? 4).bind (·.zero)=Option.some (Go.Value.bool Bool.false):=by kernel_rfl
theorem zero40:(TP.info? 40).bind (·.zero)=Option.some (Go.Value.slice Option.none 0 0):=by kernel_rfl
theorem dO:(TP.info? 42).bind (·.zero)=Option.some (Go.Value.agg #[Go.Value.slice Option.none 0 0,Go.Value.slice Option.none 0 0,Go.Value.bool Bool.false]):=by kernel_rfl
theorem mV:(TP.info? 5).bind (·.zero)=Option.some (Go.Value.int Go.IntKind.u8 0):=by kernel_rfl
theorem mH:(TP.info? 52).bind (·.zero)=Option.some (Go.Value.agg #[Go.Value.int Go.IntKind.i64 0,Go.Value.int Go.IntKind.i64 0,Go.Value.slice Option.none 0 0]):=by kernel_rfl
theorem tF:(TP.info? 54).bind (·.zero)=Option.some (Go.Value.agg #[Go.Value.string { data:=#[] },Go.Value.int Go.IntKind.i64 0,Go.Value.int Go.IntKind.i64 0,Go.Value.slice Option.none 0 0]):=by kernel_rfl
theorem qCS:(TP.info? 58).bind (·.zero)=Option.some (Go.Value.pointer Option.none):=by kernel_rfl
theorem nV:(TP.info? 66).bind (·.zero)=Option.some (Go.Value.agg #[Go.Value.slice Option.none 0 0,Go.Value.slice Option.none 0 0,Go.Value.bool Bool.false,Go.Value.int Go.IntKind.i64 0,Go.Value.int Go.IntKind.i64 0,Go.Value.int Go.IntKind.i64 0]):=by kernel_rfl
theorem qCR:(TP.info? 70).bind (·.zero)=Option.some (Go.Value.agg #[Go.Value.slice Option.none 0 0,Go.Value.int Go.IntKind.i64 0,Go.Value.slice Option.none 0 0,Go.Value.slice Option.none 0 0,Go.Value.int Go.IntKind.i64 0,Go.Value.slice Option.none 0 0,Go.Value.map Option.none]):=by kernel_rfl
theorem mG:(TP.info? 83).bind (·.zero)=Option.some (Go.Value.agg #[Go.Value.int Go.IntKind.i64 0,Go.Value.int Go.IntKind.i64 0,Go.Value.int Go.IntKind.i64 0,Go.Value.int Go.IntKind.i64 0,Go.Value.int Go.IntKind.i64 0,Go.Value.slice Option.none 0 0]):=by kernel_rfl
theorem zero9:(TP.info? 9).bind (·.zero)=Option.some (Go.Value.string { data:=#[] }):=by kernel_rfl
theorem xH:(TP.info? 99).bind (·.zero)=Option.some (Go.Value.agg #[Go.Value.nilFunc]):=by kernel_rfl
theorem HasTy.fld {P:Go.Program} {cs:List D} {fs:Array Field} (h2:∀ (i:Nat) (f:Field),fs[i]?=some f->HasTy P f.type ((cs.drop f.offset).take (P.cellsOf f.type))) {i off n:Nat} {f:Field} {t:TypeId} (hf:fs[i]?=some f) (ht:f.type=t) (ho:f.offset=off) (hc:P.cellsOf t=n):HasTy P t ((cs.drop off).take n):=by
 have:=h2 i f hf;rw [ht,ho,hc] at this;exact this
theorem ty9 (cs:List D) (h:HasTy TP 9 cs):∃ x:BA,(λs=>s.size<=reachBytes) x/\aG TP 9 cs=D.str x:=by
 obtain⟨x,rfl,w⟩:=h.str_inv Tryd.underlying9;exact⟨x,w,by simp [aG,Tryd.underlying9]⟩
theorem qFT:TP.cellsOf 9=1:=by kernel_rfl
theorem ty3 (cs:List D) (h:HasTy TP 3 cs):∃ x:Int,I64 x/\aG TP 3 cs=(D.int .i64) x:=by
 obtain⟨x,rfl,w⟩:=h.int_inv Tryd.underlying3;exact⟨x,w,by simp [aG,Tryd.underlying3]⟩
theorem pU:TP.cellsOf 52=3:=by kernel_rfl
theorem uZ:TP.cellsOf 3=1:=by kernel_rfl
theorem tree52 {t:TypeId} {cs:List D} (h:HasTy TP t cs):(t=52->∃ x:Ab,x.Wf/\cs=[.int .i64 x.op,.int .i64 x.var,.sl 3 (x.args.map Ab.Ak)])/\(t=50->∃ es:List Ab,es.length<=reachBytes/\(∀ e∈es,e.Wf)/\cs=[.sl 3 (es.map Ab.Ak)]):=by
 induction h with
 | bool t ht b=>exact⟨λe=>(by subst e;rw [Tryd.underlying52] at ht;cases ht),λe=>(by subst e;rw [Tryd.underlying50] at ht;cases ht)⟩
 | int t k ht n hn=>exact⟨λe=>(by subst e;rw [Tryd.underlying52] at ht;cases ht),λe=>(by subst e;rw [Tryd.underlying50] at ht;cases ht)⟩
 | str t ht s hs=>exact⟨λe=>(by subst e;rw [Tryd.underlying52] at ht;cases ht),λe=>(by subst e;rw [Tryd.underlying50] at ht;cases ht)⟩
 | sl t e ht css hl h0 h ih=>
  refine⟨λe=>(by subst e;rw [Tryd.underlying52] at ht;cases ht),λe=>?_⟩;subst e;rw [Tryd.underlying50] at ht;cases ht
  have key:∀ css:List (List D),(∀ cs∈css,∃ x:Ab,x.Wf/\cs=[.int .i64 x.op,.int .i64 x.var,.sl 3 (x.args.map Ab.Ak)])->∃ es:List Ab,es.length=css.length/\(∀ e∈es,e.Wf)/\css.map (aG TP 52)=es.map Ab.Ak:=by
   intro css
   induction css with
   | nil=>intro _;exact⟨[],rfl,λe he=>by simp at he,by simp⟩
   | cons cs r ih=>
    intro h;obtain⟨x,hx,hcs⟩:=h cs (by simp);obtain⟨es,h1,h2,h3⟩:=ih λc hc=>h c (by simp [hc]);refine⟨x :: es,by simp [h1],λy hy=>?_,?_⟩
    ·rcases zQB.1 hy with rfl|hy
     ·exact hx
     exact h2 y hy
    rw [List.map_cons,h3,List.map_cons,hcs,Ab.Ag];simp [aG,Tryd.underlying52,Ab.enc]
  obtain⟨es,h1,h2,h3⟩:=key css λcs hcs=>(ih cs hcs).1 rfl;exact⟨es,by omega,h2,by rw [h3,pU]⟩
 | struct t fs ht cs hl h ih=>
  refine⟨λe=>?_,λe=>(by subst e;rw [Tryd.underlying50] at ht;cases ht)⟩;subst e;rw [Tryd.underlying52] at ht;cases ht;rw [pU] at hl
  match cs,hl with
  | [a0,a1,a2],_=>
   obtain⟨x0,e0,w0⟩:=(h 0 _ rfl).int_inv Tryd.underlying3;have e0':=(List.cons.inj (show [a0]=[D.int .i64 x0] from e0)).1;obtain⟨x1,e1,w1⟩:=(h 1 _ rfl).int_inv Tryd.underlying3;have e1':=(List.cons.inj (show [a1]=[D.int .i64 x1] from e1)).1;obtain⟨es,l1,l2,e2⟩:=(ih 2 _ rfl).2 rfl;have e2':=(List.cons.inj (show [a2]=[D.sl 3 (es.map Ab.Ak)] from e2)).1;subst e0' e1' e2';exact⟨⟨x0,x1,es⟩,.mk _ w0 w1 l1 l2,rfl⟩
theorem qIV (cs:List D) (h:HasTy TP 52 cs):∃ x:Ab,x.Wf/\cs=[.int .i64 x.op,.int .i64 x.var,.sl 3 (x.args.map Ab.Ak)]:=(tree52 h).1 rfl
theorem qAM:TP.cellsOf 83=6:=by kernel_rfl
theorem qHR {cs:List D} (h:cs.length=6):∃ a0 a1 a2 a3 a4 a5,cs=[a0,a1,a2,a3,a4,a5]:=by
 match cs,h with
 | [a0,a1,a2,a3,a4,a5],_=>exact⟨a0,a1,a2,a3,a4,a5,rfl⟩
theorem ty83c (cs:List D) (h:HasTy TP 83 cs):∃ x:Ae,x.Wf/\cs=[.int .i64 x.kind,.int .i64 x.var,.int .i64 x.Af,.int .i64 x.expr.op,.int .i64 x.expr.var,.sl 3 (x.expr.args.map Ab.Ak)]:=by
 obtain⟨h1,h2⟩:=h.struct_inv Tryd.underlying83;rw [qAM] at h1;obtain⟨a0,a1,a2,a3,a4,a5,rfl⟩:=qHR h1;obtain⟨x0,e0,w0⟩:=(show HasTy TP 3 [a0] from HasTy.fld h2 (i:=0) rfl rfl rfl uZ).int_inv Tryd.underlying3;replace e0:[a0]=[D.int .i64 x0]:=e0;simp only [List.cons.injEq,and_true] at e0;obtain⟨x1,e1,w1⟩:=(show HasTy TP 3 [a1] from HasTy.fld h2 (i:=1) rfl rfl rfl uZ).int_inv Tryd.underlying3;replace e1:[a1]=[D.int .i64 x1]:=e1;simp only [List.cons.injEq,and_true] at e1;obtain⟨x2,e2,w2⟩:=(show HasTy TP 3 [a2] from HasTy.fld h2 (i:=2) rfl rfl rfl uZ).int_inv Tryd.underlying3;replace e2:[a2]=[D.int .i64 x2]:=e2;simp only [List.cons.injEq,and_true] at e2;obtain⟨x3,w3,e3⟩:=qIV _ (show HasTy TP 52 [a3,a4,a5] from HasTy.fld h2 (i:=3) rfl rfl rfl pU);replace e3:[a3,a4,a5]=[D.int .i64 x3.op,D.int .i64 x3.var,D.sl 3 (x3.args.map Ab.Ak)]:=e3;simp only [List.cons.injEq,and_true] at e3;obtain⟨f3x0,f3x1,f3x2⟩:=e3;subst e0 e1 e2 f3x0 f3x1 f3x2;exact⟨⟨x0,x1,x2,x3⟩,⟨w0,w1,w2,w3⟩,rfl⟩
theorem ty83 (cs:List D) (h:HasTy TP 83 cs):∃ x:Ae,x.Wf/\aG TP 83 cs=x.enc:=by
 obtain⟨x,w,rfl⟩:=ty83c cs h;exact⟨x,w,by simp [aG,Tryd.underlying83,Ae.enc]⟩
theorem qII:TP.cellsOf 25=3:=by kernel_rfl
theorem qIK:TP.cellsOf 22=1:=by kernel_rfl
theorem qIJ:TP.cellsOf 23=1:=by kernel_rfl
theorem qHT {cs:List D} (h:cs.length=3):∃ a0 a1 a2,cs=[a0,a1,a2]:=by
 match cs,h with
 | [a0,a1,a2],_=>exact⟨a0,a1,a2,rfl⟩
theorem ty25c (cs:List D) (h:HasTy TP 25 cs):∃ x:Program,x.Wf/\cs=[.sl 1 (x.names.map D.str),.int .i64 x.inputs,.sl 6 (x.Ac.map Ae.enc)]:=by
 obtain⟨h1,h2⟩:=h.struct_inv Tryd.underlying25;rw [qII] at h1;obtain⟨a0,a1,a2,rfl⟩:=qHT h1;obtain⟨x0,e0,l0,m0⟩:=(show HasTy TP 22 [a0] from HasTy.fld h2 (i:=0) rfl rfl rfl qIK).list Tryd.underlying22 D.str (λs=>s.size<=reachBytes) (λcs _ h=>ty9 cs h);rw [qFT] at e0;have w0:=And.intro l0 m0;replace e0:[a0]=[D.sl 1 (x0.map D.str)]:=e0;simp only [List.cons.injEq,and_true] at e0;obtain⟨x1,e1,w1⟩:=(show HasTy TP 3 [a1] from HasTy.fld h2 (i:=1) rfl rfl rfl uZ).int_inv Tryd.underlying3;replace e1:[a1]=[D.int .i64 x1]:=e1;simp only [List.cons.injEq,and_true] at e1;obtain⟨x2,e2,l2,m2⟩:=(show HasTy TP 23 [a2] from HasTy.fld h2 (i:=2) rfl rfl rfl qIJ).list Tryd.underlying23 Ae.enc Ae.Wf (λcs _ h=>ty83 cs h);rw [qAM] at e2;have w2:=And.intro l2 m2;replace e2:[a2]=[D.sl 6 (x2.map Ae.enc)]:=e2;simp only [List.cons.injEq,and_true] at e2;subst e0 e1 e2;exact⟨⟨x0,x1,x2⟩,⟨w0,w1,w2⟩,rfl⟩
theorem ty25 (cs:List D) (h:HasTy TP 25 cs):∃ x:Program,x.Wf/\aG TP 25 cs=x.enc:=by
 obtain⟨x,w,rfl⟩:=ty25c cs h;exact⟨x,w,by simp [aG,Tryd.underlying25,Program.enc]⟩
theorem qAN:TP.cellsOf 54=4:=by kernel_rfl
theorem qHS {cs:List D} (h:cs.length=4):∃ a0 a1 a2 a3,cs=[a0,a1,a2,a3]:=by
 match cs,h with
 | [a0,a1,a2,a3],_=>exact⟨a0,a1,a2,a3,rfl⟩
theorem ty54c (cs:List D) (h:HasTy TP 54 cs):∃ x:Aa,x.Wf/\cs=[.str x.name,.int .i64 x.expr.op,.int .i64 x.expr.var,.sl 3 (x.expr.args.map Ab.Ak)]:=by
 obtain⟨h1,h2⟩:=h.struct_inv Tryd.underlying54;rw [qAN] at h1;obtain⟨a0,a1,a2,a3,rfl⟩:=qHS h1;obtain⟨x0,e0,w0⟩:=(show HasTy TP 9 [a0] from HasTy.fld h2 (i:=0) rfl rfl rfl qFT).str_inv Tryd.underlying9;replace e0:[a0]=[D.str x0]:=e0;simp only [List.cons.injEq,and_true] at e0;obtain⟨x1,w1,e1⟩:=qIV _ (show HasTy TP 52 [a1,a2,a3] from HasTy.fld h2 (i:=1) rfl rfl rfl pU);replace e1:[a1,a2,a3]=[D.int .i64 x1.op,D.int .i64 x1.var,D.sl 3 (x1.args.map Ab.Ak)]:=e1;simp only [List.cons.injEq,and_true] at e1;obtain⟨f1x0,f1x1,f1x2⟩:=e1;subst e0 f1x0 f1x1 f1x2;exact⟨⟨x0,x1⟩,⟨w0,w1⟩,rfl⟩
theorem ty54 (cs:List D) (h:HasTy TP 54 cs):∃ x:Aa,x.Wf/\aG TP 54 cs=x.enc:=by
 obtain⟨x,w,rfl⟩:=ty54c cs h;exact⟨x,w,by simp [aG,Tryd.underlying54,Aa.enc]⟩
theorem ty26 (cs:List D) (h:HasTy TP 26 cs):∃ l:(List Aa),(λl=>l.length<=reachBytes/\∀ x∈l,Aa.Wf x) l/\aG TP 26 cs=(λ(l:List Aa)=>D.sl 4 (l.map Aa.enc)) l:=by
 obtain⟨l,rfl,h1,h2⟩:=h.list Tryd.underlying26 Aa.enc Aa.Wf (λcs _ h=>ty54 cs h);exact⟨l,⟨h1,h2⟩,by simp [aG,Tryd.underlying26,qAN]⟩
theorem ty4 (cs:List D) (h:HasTy TP 4 cs):∃ x:Bool,(λ_=>True) x/\aG TP 4 cs=D.bool x:=by
 obtain⟨x,rfl⟩:=h.bool_inv Tryd.underlying4;exact⟨x,trivial,by simp [aG,Tryd.underlying4]⟩
theorem cells4:TP.cellsOf 4=1:=by kernel_rfl
theorem ty40 (cs:List D) (h:HasTy TP 40 cs):∃ l:(List Bool),(λl=>l.length<=reachBytes/\∀ x∈l,(λ_=>True) x) l/\aG TP 40 cs=(λ(l:List Bool)=>D.sl 1 (l.map D.bool)) l:=by
 obtain⟨l,rfl,h1,h2⟩:=h.list Tryd.underlying40 D.bool (λ_=>True) (λcs _ h=>ty4 cs h);exact⟨l,⟨h1,h2⟩,by simp [aG,Tryd.underlying40,cells4]⟩
theorem qIH:TP.cellsOf 40=1:=by kernel_rfl
theorem ty27 (cs:List D) (h:HasTy TP 27 cs):∃ l:(List (List Bool)),(λl=>l.length<=reachBytes/\∀ x∈l,(λl=>l.length<=reachBytes/\∀ x∈l,(λ_=>True) x) x) l/\aG TP 27 cs=(λ(l:List (List Bool))=>D.sl 1 (l.map (λ(l:List Bool)=>D.sl 1 (l.map D.bool)))) l:=by
 obtain⟨l,rfl,h1,h2⟩:=h.list Tryd.underlying27 (λ(l:List Bool)=>D.sl 1 (l.map D.bool)) (λl=>l.length<=reachBytes/\∀ x∈l,(λ_=>True) x) (λcs _ h=>ty40 cs h);exact⟨l,⟨h1,h2⟩,by simp [aG,Tryd.underlying27,qIH]⟩
def cM:Nat->Ab->Int->Option Int
 | 0,_,_=>none
 | fu+1,p0,p1=>
 aD (
 bC (λ(n5,i6)=>
 if ((decide (i6 < (p0.args.length:Int)))&&(decide (n5<=p1)))=true then
 bE p0.args i6 λe10=>
 aE (I64 (p1 - n5)) <|
 aD ((cM fu) e10 (p1 - n5)) λr12=>
 aE (I64 (n5+r12)) <|
 aE (I64 (i6+(1:Int))) <|
 some (.inl ((n5+r12),(i6+(1:Int))))
 else
 aL (
 some n5)) ((1:Int),(0:Int))) λn1=>
 some n1
def iC (p0:Ab) (p1:Int):Option Int:=cM aZ p0 p1
def iS (p0:Program) (p1:Int):Option Bool:=
 if ((decide (p1 < (p0.names.length:Int)))||(decide ((40:Int) < (p0.Ac.length:Int))))=true then
 some false
 else
 cH (
 bC (λi5=>
 if i5 < (p0.Ac.length:Int) then
 bE p0.Ac i5 λe8=>
 aD (iC e8.expr (200:Int)) λr9=>
 if (200:Int) < r9 then
 aL (
 aL (
 some false))
 else
 aE (I64 (i5+(1:Int))) <|
 some (.inl (i5+(1:Int)))
 else
 aL (
 some (.inl ()))) (0:Int)) λ_=>
 some true
def dQ:Nat->Ab->Option Int
 | 0,_=>none
 | fu+1,p0=>
 aD (
 bC (λ(n5,i6)=>
 if i6 < (p0.args.length:Int) then
 bE p0.args i6 λe9=>
 aD ((dQ fu) e9) λr10=>
 aE (I64 (n5+r10)) <|
 aE (I64 (i6+(1:Int))) <|
 some (.inl ((n5+r10),(i6+(1:Int))))
 else
 aL (
 some n5)) ((1:Int),(0:Int))) λn1=>
 some n1
def gW (p0:Ab):Option Int:=dQ aZ p0
def iR (p0:Program) (p1:(List Aa)) (p2:(List (List Bool))):Option Bool:=
 aD (
 aD (iS p0 (20:Int)) λr3=>
 if (!(r3))=true then
 some true
 else
 if (20:Int) < (p1.length:Int) then
 some true
 else
 some (decide ((20:Int) < (p2.length:Int)))) λx1=>
 if x1=true then
 some false
 else
 cH (
 bC (λi9=>
 if i9 < (p1.length:Int) then
 bE p1 i9 λe12=>
 aD (gW e12.expr) λr13=>
 if (200:Int) < r13 then
 aL (
 aL (
 some false))
 else
 aE (I64 (i9+(1:Int))) <|
 some (.inl (i9+(1:Int)))
 else
 aL (
 some (.inl ()))) (0:Int)) λ_=>
 cH (
 bC (λi21=>
 if i21 < (p2.length:Int) then
 bE p2 i21 λe24=>
 if (40:Int) < (e24.length:Int) then
 aL (
 aL (
 some false))
 else
 aE (I64 (i21+(1:Int))) <|
 some (.inl (i21+(1:Int)))
 else
 aL (
 some (.inl ()))) (0:Int)) λ_=>
 some true
def cR (p0:Int):Option Ab:=
 some (⟨(3:Int),p0,([]:List Ab)⟩:Ab)
def lI (p0:Ab):Option Ab:=
 some (⟨(4:Int),(0:Int),([p0]:List Ab)⟩:Ab)
def dH:Option Program:=
 aD (cR (0:Int)) λr1=>
 aD (lI r1) λr2=>
 aD (cR (0:Int)) λr3=>
 some (⟨([(⟨#[97]⟩:BA),(⟨#[98]⟩:BA),(⟨#[99]⟩:BA)]:List BA),(1:Int),([(⟨(1:Int),(1:Int),(0:Int),r2⟩:Ae),(⟨(2:Int),(2:Int),(2:Int),r3⟩:Ae)]:List Ae)⟩:Program)
def cK:Nat->Ab->Int->Int->Int->Option (Bool×Int)
 | 0,_,_,_,_=>none
 | fu+1,p0,p1,p2,p3=>
 if ((decide ((12:Int) < p2))||(decide (p3=(0:Int))))=true then
 some (false,p3)
 else
 aE (I64 (p3 - (1:Int))) <|
 cH (
 aD (
 if p0.op=(1:Int) then
 some (decide (p0.op=(1:Int)))
 else
 some (decide (p0.op=(2:Int)))) λx5=>
 if x5=true then
 aL (
 some (((decide (p0.var=(0:Int)))&&(decide ((p0.args.length:Int)=(0:Int)))),(p3 - (1:Int))))
 else
 if p0.op=(3:Int) then
 aL (
 some (((decide ((0:Int)<=p0.var))&&((decide (p0.var < p1))&&(decide ((p0.args.length:Int)=(0:Int))))),(p3 - (1:Int))))
 else
 if p0.op=(4:Int) then
 if (p0.args.length:Int)=(1:Int) then
 some (.inl ())
 else
 aL (
 some (false,(p3 - (1:Int))))
 else
 if p0.op=(5:Int) then
 some (.inl ())
 else
 if p0.op=(6:Int) then
 some (.inl ())
 else
 aL (
 some (false,(p3 - (1:Int))))) λ_=>
 if p0.var=(0:Int) then
 cH (
 bC (λ(x27,c28)=>
 if x27 < (p0.args.length:Int) then
 bE p0.args x27 λe31=>
 aE (I64 (p2+(1:Int))) <|
 aD ((cK fu) e31 p1 (p2+(1:Int)) c28) λ(r34,r35)=>
 if (!(r34))=true then
 aL (
 aL (
 some (false,r35)))
 else
 aE (I64 (x27+(1:Int))) <|
 some (.inl ((x27+(1:Int)),r35))
 else
 aL (
 some (.inl c28))) ((0:Int),(p3 - (1:Int)))) λc22=>
 some (true,c22)
 else
 some (false,(p3 - (1:Int)))
def mQ (p0:Ab) (p1:Int) (p2:Int) (p3:Int):Option (Bool×Int):=cK aZ p0 p1 p2 p3
def fR (p0:Ab) (p1:Int):Option Bool:=
 aD (mQ p0 p1 (1:Int) (20000:Int)) λ(r2,r3)=>
 some r2
def eR (p0:Program) (p1:Ae):Option Bool:=
 cH (
 if p1.kind=(1:Int) then
 if p1.Af=(0:Int) then
 some (.inl ())
 else
 aL (
 some false)
 else
 if p1.kind=(2:Int) then
 if ((decide (p1.Af < (1:Int)))||(decide ((1073741824:Int) < p1.Af)))=true then
 aL (
 some false)
 else
 some (.inl ())
 else
 aL (
 some false)) λ_=>
 aD (
 if p0.inputs<=p1.var then
 if p1.var < (p0.names.length:Int) then
 aD (fR p1.expr (p0.names.length:Int)) λr14=>
 some r14
 else
 some false
 else
 some false) λx10=>
 some x10
def fP (p0:Program):Option Int:=
 if (2000:Int) < (p0.names.length:Int) then
 some (2:Int)
 else
 if ((decide (p0.inputs < (0:Int)))||(decide ((p0.names.length:Int) < p0.inputs)))=true then
 some (1:Int)
 else
 cH (
 bC (λx6=>
 if x6 < (p0.Ac.length:Int) then
 bE p0.Ac x6 λe9=>
 aD (eR p0 e9) λr10=>
 if (!(r10))=true then
 aL (
 aL (
 some (1:Int)))
 else
 aE (I64 (x6+(1:Int))) <|
 some (.inl (x6+(1:Int)))
 else
 aL (
 some (.inl ()))) (0:Int)) λ_=>
 aE (0<=(p0.names.length:Int)/\(p0.names.length:Int)<=1000000000) <|
 cH (
 bC (λ(x22,b23)=>
 if x22 < (p0.Ac.length:Int) then
 bE p0.Ac x22 λe26=>
 bE b23 e26.var λe27=>
 if e27=true then
 aL (
 aL (
 some (8:Int)))
 else
 bE b23 e26.var λe31=>
 aE (I64 (x22+(1:Int))) <|
 some (.inl ((x22+(1:Int)),(b23.set e26.var.toNat true)))
 else
 aL (
 some (.inl b23))) ((0:Int),(List.replicate (p0.names.length:Int).toNat false))) λb17=>
 some (0:Int)
def cO (p0:Program) (p1:(List (List Bool))) (p2:Int):Option (Option Ah×Int):=
 aD (
 aD (fP p0) λr3=>
 if r3=(0:Int) then
 if (16:Int) < (p1.length:Int) then
 some true
 else
 if p2 < (0:Int) then
 some true
 else
 some (decide ((16:Int) < p2))
 else
 some true) λx1=>
 if x1=true then
 some (none,(1:Int))
 else
 some (some (⟨p0,p1,p2,([]:List Ad),([]:List (BA×Bool))⟩:Ah),(0:Int))
def dX (p0:Program):Option Machine:=
 aD (fP p0) λr1=>
 if r1=(0:Int) then
 aE (0<=(p0.names.length:Int)/\(p0.names.length:Int)<=1000000000) <|
 aE (0<=(p0.Ac.length:Int)/\(p0.Ac.length:Int)<=1000000000) <|
 some (⟨(List.replicate (p0.names.length:Int).toNat false),(List.replicate (p0.Ac.length:Int).toNat (0:Int)),false⟩:Machine)
 else
 some (⟨([]:List Bool),([]:List Int),true⟩:Machine)
def dR (p0:Int):Option BA:=
 if p0 < (10:Int) then
 aE (I64 (p0+(1:Int))) <|
 aE (0<=p0/\p0<=(p0+(1:Int))/\(p0+(1:Int))<=((⟨#[48,49,50,51,52,53,54,55,56,57,97,98,99,100,101,102,103,104,105,106,107,108,109,110,111,112,113,114,115,116,117,118,119,120,121,122]⟩:BA).size:Int)) <|
 some ((⟨#[48,49,50,51,52,53,54,55,56,57,97,98,99,100,101,102,103,104,105,106,107,108,109,110,111,112,113,114,115,116,117,118,119,120,121,122]⟩:BA).extract p0.toNat (p0+(1:Int)).toNat)
 else
 aE (I64 (p0 * (2:Int))) <|
 aE (I64 (p0 * (2:Int))) <|
 aE (I64 ((p0 * (2:Int))+(2:Int))) <|
 aE (0<=(p0 * (2:Int))/\(p0 * (2:Int))<=((p0 * (2:Int))+(2:Int))/\((p0 * (2:Int))+(2:Int))<=((⟨#[48,48,48,49,48,50,48,51,48,52,48,53,48,54,48,55,48,56,48,57,49,48,49,49,49,50,49,51,49,52,49,53,49,54,49,55,49,56,49,57,50,48,50,49,50,50,50,51,50,52,50,53,50,54,50,55,50,56,50,57,51,48,51,49,51,50,51,51,51,52,51,53,51,54,51,55,51,56,51,57,52,48,52,49,52,50,52,51,52,52,52,53,52,54,52,55,52,56,52,57,53,48,53,49,53,50,53,51,53,52,53,53,53,54,53,55,53,56,53,57,54,48,54,49,54,50,54,51,54,52,54,53,54,54,54,55,54,56,54,57,55,48,55,49,55,50,55,51,55,52,55,53,55,54,55,55,55,56,55,57,56,48,56,49,56,50,56,51,56,52,56,53,56,54,56,55,56,56,56,57,57,48,57,49,57,50,57,51,57,52,57,53,57,54,57,55,57,56,57,57]⟩:BA).size:Int)) <|
 some ((⟨#[48,48,48,49,48,50,48,51,48,52,48,53,48,54,48,55,48,56,48,57,49,48,49,49,49,50,49,51,49,52,49,53,49,54,49,55,49,56,49,57,50,48,50,49,50,50,50,51,50,52,50,53,50,54,50,55,50,56,50,57,51,48,51,49,51,50,51,51,51,52,51,53,51,54,51,55,51,56,51,57,52,48,52,49,52,50,52,51,52,52,52,53,52,54,52,55,52,56,52,57,53,48,53,49,53,50,53,51,53,52,53,53,53,54,53,55,53,56,53,57,54,48,54,49,54,50,54,51,54,52,54,53,54,54,54,55,54,56,54,57,55,48,55,49,55,50,55,51,55,52,55,53,55,54,55,55,55,56,55,57,56,48,56,49,56,50,56,51,56,52,56,53,56,54,56,55,56,56,56,57,57,48,57,49,57,50,57,51,57,52,57,53,57,54,57,55,57,56,57,57]⟩:BA).extract (p0 * (2:Int)).toNat ((p0 * (2:Int))+(2:Int)).toNat)
def eC (p0:(List Int)) (p1:Bool):Option ((List Int)):=
 if p1=true then
 aE (0 < (⟨#[116,114,117,101]⟩:BA).size/\(p0++cW (⟨#[116,114,117,101]⟩:BA)).length<=1000000000) <|
 some (p0++cW (⟨#[116,114,117,101]⟩:BA))
 else
 aE (0 < (⟨#[102,97,108,115,101]⟩:BA).size/\(p0++cW (⟨#[102,97,108,115,101]⟩:BA)).length<=1000000000) <|
 some (p0++cW (⟨#[102,97,108,115,101]⟩:BA))
def dP (p0:(List Int)) (p1:Bool):Option ((List Int)):=
 aD (eC p0 p1) λr1=>
 some r1
def dB (p0:(List Int)) (p1:Int) (p2:Int):Option ((List Int)):=
 if p2=(10:Int) then
 if p1 < (100:Int) then
 aD (dR (IntKind.i64.wrap p1)) λr3=>
 aE (0 < r3.size/\(p0++cW r3).length<=1000000000) <|
 some (p0++cW r3)
 else
 none
 else
 none
def dK (p0:(List Int)) (p1:Int) (p2:Int):Option ((List Int)):=
 aD (
 if p1 < (0:Int) then
 none
 else
 some ()) λ_=>
 aD (dB p0 (IntKind.u64.wrap p1) p2) λr3=>
 some r3
def dA (p0:(List Int)) (p1:Int) (p2:Int):Option ((List Int)):=
 aD (dK p0 p1 p2) λr1=>
 some r1
def eI (p0:Machine):Option BA:=
 aD (dP ([]:List Int) p0.halted) λr1=>
 aD (
 bC (λ(x7,b8)=>
 if x7 < (p0.vars.length:Int) then
 bE p0.vars x7 λe11=>
 if e11=true then
 aE ((b8++([(49:Int)]:List Int)).length<=1000000000) <|
 aE (I64 (x7+(1:Int))) <|
 some (.inl ((x7+(1:Int)),(b8++([(49:Int)]:List Int))))
 else
 aE ((b8++([(48:Int)]:List Int)).length<=1000000000) <|
 aE (I64 (x7+(1:Int))) <|
 some (.inl ((x7+(1:Int)),(b8++([(48:Int)]:List Int))))
 else
 aL (
 some b8)) ((0:Int),r1)) λb2=>
 aD (
 bC (λ(x23,b24)=>
 if x23 < (p0.counts.length:Int) then
 bE p0.counts x23 λe27=>
 aE ((b24++([(32:Int)]:List Int)).length<=1000000000) <|
 aD (dA (b24++([(32:Int)]:List Int)) e27 (10:Int)) λr29=>
 aE (I64 (x23+(1:Int))) <|
 some (.inl ((x23+(1:Int)),r29))
 else
 aL (
 some b24)) ((0:Int),b2)) λb18=>
 some (strOfNums b18)
def iU (p0:Program) (p1:Machine):Option Bool:=
 aD (
 aD (fP p0) λr3=>
 if r3=(0:Int) then
 if (p1.vars.length:Int)=(p0.names.length:Int) then
 some (!(decide ((p1.counts.length:Int)=(p0.Ac.length:Int))))
 else
 some true
 else
 some true) λx1=>
 if x1=true then
 some false
 else
 cH (
 bC (λx9=>
 if x9 < (p0.Ac.length:Int) then
 bE p0.Ac x9 λe12=>
 aD (
 bE p1.counts x9 λe15=>
 if e15 < (0:Int) then
 some true
 else
 bE p1.counts x9 λe17=>
 some (decide (e12.Af < e17))) λx13=>
 if x13=true then
 aL (
 aL (
 some false))
 else
 aE (I64 (x9+(1:Int))) <|
 some (.inl (x9+(1:Int)))
 else
 aL (
 some (.inl ()))) (0:Int)) λ_=>
 some true
def kO (p0:Program):Option Machine:=
 aD (dX p0) λr1=>
 some (⟨r1.vars,r1.counts,true⟩:Machine)
def dC (p0:(List Bool)):Option ((List Bool)):=
 wJ p0 (
 some ([]:List Bool)) (
 aE ((([]:List Bool)++p0).length<=1000000000) <|
 some (([]:List Bool)++p0))
def dL (p0:(List Int)):Option ((List Int)):=
 wJ p0 (
 some ([]:List Int)) (
 aE ((([]:List Int)++p0).length<=1000000000) <|
 some (([]:List Int)++p0))
def dT (p0:Int) (p1:Bool):Option (Int×Bool):=
 some (p0,p1)
def cX (p0:Int) (p1:Bool) (p2:Ae):Option (Int×Bool):=
 if (!(p1))=true then
 some ((0:Int),false)
 else
 if p0 < p2.Af then
 aE (I64 (p0+(1:Int))) <|
 some ((p0+(1:Int)),decide ((p0+(1:Int))=p2.Af))
 else
 some (p0,decide (p0=p2.Af))
def fC (p0:Ae):Option Al:=
 if p0.kind=(2:Int) then
 some (⟨(Fn97.c61 p0)⟩:Al)
 else
 some (⟨Fn97.c60⟩:Al)
def gD (p0:Ab):Option Aj:=
 if p0.op=(3:Int) then
 some (⟨112,p0⟩:Aj)
 else
 if p0.op=(4:Int) then
 if (0:Int) < (p0.args.length:Int) then
 some (⟨113,p0⟩:Aj)
 else
 some (⟨120,p0⟩:Aj)
 else
 if p0.op=(5:Int) then
 some (⟨114,p0⟩:Aj)
 else
 if p0.op=(6:Int) then
 some (⟨115,p0⟩:Aj)
 else
 some (⟨120,p0⟩:Aj)
def cN:Nat->Ab->(List Bool)->Option Bool
 | 0,_,_=>none
 | fu+1,p0,p1=>
 cH (
 aD (gD p0) λr2=>
 if r2.tid=112 then
 aD (
 if (0:Int)<=r2.e.var then
 if r2.e.var < (p1.length:Int) then
 bE p1 r2.e.var λe8=>
 some e8
 else
 some false
 else
 some false) λx4=>
 aL (
 some x4)
 else
 if r2.tid=113 then
 bE r2.e.args (0:Int) λe11=>
 aD ((cN fu) e11 p1) λr12=>
 aL (
 some (!(r12)))
 else
 if r2.tid=114 then
 cH (
 bC (λx17=>
 if x17 < (r2.e.args.length:Int) then
 bE r2.e.args x17 λe20=>
 aD ((cN fu) e20 p1) λr21=>
 if (!(r21))=true then
 aL (
 aL (
 aL (
 some false)))
 else
 aE (I64 (x17+(1:Int))) <|
 some (.inl (x17+(1:Int)))
 else
 aL (
 some (.inl ()))) (0:Int)) λ_=>
 aL (
 some true)
 else
 if r2.tid=115 then
 cH (
 bC (λx32=>
 if x32 < (r2.e.args.length:Int) then
 bE r2.e.args x32 λe35=>
 aD ((cN fu) e35 p1) λr36=>
 if r36=true then
 aL (
 aL (
 aL (
 some true)))
 else
 aE (I64 (x32+(1:Int))) <|
 some (.inl (x32+(1:Int)))
 else
 aL (
 some (.inl ()))) (0:Int)) λ_=>
 aL (
 some false)
 else
 some (.inl ())) λ_=>
 some (decide (p0.op=(2:Int)))
def oL (p0:Ab) (p1:(List Bool)):Option Bool:=cN aZ p0 p1
def gQ (p0:Ab) (p1:(List Bool)):Option Bool:=
 aD (oL p0 p1) λr1=>
 some r1
def fY (p0:Program) (p1:Machine) (p2:(List Bool)):Option Machine:=
 aD (
 if (p1.halted)=true then
 some true
 else
 aD (iU p0 p1) λr4=>
 some (!(r4))) λx1=>
 if x1=true then
 aD (kO p0) λr6=>
 some r6
 else
 aD (dC p1.vars) λr7=>
 aD (dL p1.counts) λr8=>
 aD (
 bC (λ(x14,b15)=>
 if x14 < p0.inputs then
 if x14 < (p2.length:Int) then
 bE p2 x14 λe21=>
 bE b15 x14 λe22=>
 aE (I64 (x14+(1:Int))) <|
 some (.inl ((x14+(1:Int)),(b15.set x14.toNat e21)))
 else
 bE b15 x14 λe19=>
 aE (I64 (x14+(1:Int))) <|
 some (.inl ((x14+(1:Int)),(b15.set x14.toNat false)))
 else
 aL (
 some b15)) ((0:Int),r7)) λb9=>
 aD (
 bC (λ(x32,b33,b34)=>
 if x32 < (p0.Ac.length:Int) then
 bE p0.Ac x32 λe37=>
 aD (fC e37) λr38=>
 bE b34 x32 λe39=>
 aD (gQ e37.expr b33) λr40=>
 (match r38.act with
 | .c60=>
 aD (dT e39 r40) λ(r43,r44)=>
 bE b34 x32 λe45=>
 bE b33 e37.var λe46=>
 aE (I64 (x32+(1:Int))) <|
 some (.inl ((x32+(1:Int)),(b33.set e37.var.toNat r44),(b34.set x32.toNat r43)))
 | .c61 u48=>
 aD (cX e39 r40 u48) λ(r50,r51)=>
 bE b34 x32 λe52=>
 bE b33 e37.var λe53=>
 aE (I64 (x32+(1:Int))) <|
 some (.inl ((x32+(1:Int)),(b33.set e37.var.toNat r51),(b34.set x32.toNat r50))))
 else
 aL (
 some (b33,b34))) ((0:Int),b9,r8)) λ(b25,b26)=>
 some (⟨b25,b26,false⟩:Machine)
def dU (p0:Aa) (p1:Machine):Option Bool:=
 aD (gQ p0.expr p1.vars) λr1=>
 some (!(r1))
def bN (p0:(List Aa)) (p1:Aa->Option Bool):Option Int:=
 cH (
 bC (λx3=>
 if x3 < (p0.length:Int) then
 bE p0 x3 λe6=>
 aD (p1 e6) λr7=>
 if r7=true then
 aL (
 aL (
 some x3))
 else
 aE (I64 (x3+(1:Int))) <|
 some (.inl (x3+(1:Int)))
 else
 aL (
 some (.inl ()))) (0:Int)) λ_=>
 some (-1:Int)
def fD (p0:(List Aa)) (p1:Machine):Option Int:=
 aD (bN p0 (λa0=>dU a0 p1)) λr1=>
 some r1
def bL (p0:Ah) (p1:Int):Option ((List Int)):=
 aD (
 bC (λ(at6,b7)=>
 bE p0.visits at6 λe9=>
 if (0:Int)<=e9.before then
 bE p0.visits at6 λe11=>
 aE ((b7++([e11.input]:List Int)).length<=1000000000) <|
 bE p0.visits at6 λe13=>
 some (.inl (e13.before,(b7++([e11.input]:List Int))))
 else
 aL (
 some b7)) (p1,([]:List Int))) λb1=>
 aE (b1.length<=1000000000) <|
 some (vU b1)
def aY (p0:Ah) (p1:Machine) (p2:Int) (p3:Int) (p4:Int):Option Ah:=
 aD (eI p1) λr1=>
 aE (p0.seen.map (·.1)).Nodup <|
 aE ((p0.visits++([(⟨p1,p2,p3,p4⟩:Ad)]:List Ad)).length<=1000000000) <|
 some (⟨p0.p,p0.inputs,p0.depth,(p0.visits++([(⟨p1,p2,p3,p4⟩:Ad)]:List Ad)),(qBE p0.seen r1 true)⟩:Ah)
def bJ (s0:(List Aa)) (s1:(List Int)) (s2:Bool) (s3:Int) (s4:(List BA)) (s5:Int) (s6:(List Ae)) (s7:(List (List Bool))) (s8:Int) (s9:List (BA×Bool)) (s10:List Ad) (i0:Int) (i1:Int):Option (Bool×((List Aa))×((List Int))×Bool×Int×((List BA))×Int×((List Ae))×((List (List Bool)))×Int×(List (BA×Bool))×(List Ad)):=
 if i1=(0:Int) then
 bE s10 i0 λe2=>
 aD (fD s0 e2.machine) λr3=>
 if (0:Int)<=r3 then
 aD (bL (⟨(⟨s4,s5,s6⟩:Program),s7,s8,s10,s9⟩:Ah) i0) λr5=>
 some (false,s0,r5,true,(0:Int),s4,s5,s6,s7,s8,s9,s10)
 else
 some (true,s0,s1,s2,s3,s4,s5,s6,s7,s8,s9,s10)
 else
 some (false,s0,([]:List Int),false,i1,s4,s5,s6,s7,s8,s9,s10)
def dE (Y:((List Aa))->((List Int))->Bool->Int->((List BA))->Int->((List Ae))->((List (List Bool)))->Int->(List (BA×Bool))->(List Ad)->Int->Int->Option (Bool×((List Aa))×((List Int))×Bool×Int×((List BA))×Int×((List Ae))×((List (List Bool)))×Int×(List (BA×Bool))×(List Ad))) (s0:(List Aa)) (s1:(List Int)) (s2:Bool) (s3:Int) (s4:(List BA)) (s5:Int) (s6:(List Ae)) (s7:(List (List Bool))) (s8:Int) (s9:List (BA×Bool)) (s10:List Ad):Option (Bool×((List Aa))×((List Int))×Bool×Int×((List BA))×Int×((List Ae))×((List (List Bool)))×Int×(List (BA×Bool))×(List Ad)):=
 aD (dX (⟨s4,s5,s6⟩:Program)) λr1=>
 aD (aY (⟨(⟨s4,s5,s6⟩:Program),s7,s8,s10,s9⟩:Ah) r1 (-1:Int) (0:Int) (0:Int)) λr2=>
 aD (Y s0 s1 s2 s3 s4 s5 s6 s7 s8 r2.seen r2.visits (0:Int) (0:Int)) λ(b14,u3,u4,u5,u6,u7,u8,u9,u10,u11,u12,u13)=>
 if b14=true then
 bC (λ(at29,c30,c31,c32,c33,c34,c35,c36,c37,c38,b39,b40)=>
 if at29 < (b40.length:Int) then
 cH (
 bE b40 at29 λe55=>
 if c38<=e55.scan then
 aL (
 aL (
 some (true,c30,c31,c32,c33,c34,c35,c36,c37,c38,b39,b40)))
 else
 bC (λ(x72,c73,c74,c75,c76,c77,c78,c79,c80,c81,b82,b83)=>
 if x72 < (c37.length:Int) then
 bE c37 x72 λe86=>
 aD (fY (⟨c77,c78,c79⟩:Program) e55.machine e86) λr87=>
 aD (eI r87) λr88=>
 aE (b82.map (·.1)).Nodup <|
 if (((dJ b82 r88).getD false))=true then
 aE (I64 (x72+(1:Int))) <|
 some (.inl ((x72+(1:Int)),c73,c74,c75,c76,c77,c78,c79,c80,c81,b82,b83))
 else
 if (500:Int)<=(b83.length:Int) then
 aD (Y c73 c74 c75 c76 c77 c78 c79 c80 c81 b82 b83 (-1:Int) (16:Int)) λ(b104,u93,u94,u95,u96,u97,u98,u99,u100,u101,u102,u103)=>
 if b104=true then
 aL (
 aL (
 aL (
 some (true,u93,u94,u95,u96,u97,u98,u99,u100,u101,u102,u103))))
 else
 aL (
 aL (
 aL (
 some (false,u93,u94,u95,u96,u97,u98,u99,u100,u101,u102,u103))))
 else
 aE (I64 (e55.scan+(1:Int))) <|
 aD (aY (⟨(⟨c77,c78,c79⟩:Program),c80,c81,b83,b82⟩:Ah) r87 at29 x72 (e55.scan+(1:Int))) λr113=>
 aE (I64 ((r113.visits.length:Int) - (1:Int))) <|
 aD (Y c73 c74 c75 c76 c77 c78 c79 c80 c81 r113.seen r113.visits ((r113.visits.length:Int) - (1:Int)) (0:Int)) λ(b126,u115,u116,u117,u118,u119,u120,u121,u122,u123,u124,u125)=>
 if b126=true then
 aE (I64 (x72+(1:Int))) <|
 some (.inl ((x72+(1:Int)),u115,u116,u117,u118,u119,u120,u121,u122,u123,u124,u125))
 else
 aL (
 aL (
 aL (
 some (false,u115,u116,u117,u118,u119,u120,u121,u122,u123,u124,u125))))
 else
 aL (
 some (.inl (c73,c74,c75,c76,c77,c78,c79,c80,c81,b82,b83)))) ((0:Int),c30,c31,c32,c33,c34,c35,c36,c37,c38,b39,b40)) λ(c43,c44,c45,c46,c47,c48,c49,c50,c51,m52,b53)=>
 aE (I64 (at29+(1:Int))) <|
 some (.inl ((at29+(1:Int)),c43,c44,c45,c46,c47,c48,c49,c50,c51,m52,b53))
 else
 aL (
 some (true,c30,c31,c32,c33,c34,c35,c36,c37,c38,b39,b40))) ((0:Int),u3,u4,u5,u6,u7,u8,u9,u10,u11,u12,u13)
 else
 some (false,u3,u4,u5,u6,u7,u8,u9,u10,u11,u12,u13)
def cL (p0:Program) (p1:(List Aa)) (p2:(List (List Bool))) (p3:Int):Option ((List Int)×Bool×Int):=
 aD (cO p0 p2 p3) λ(o1,r2)=>
 match o1 with
 | none=>
 if r2=(0:Int) then
 none
 else
 some (([]:List Int),false,r2)
 | some q3=>
 if r2=(0:Int) then
 aD (dE bJ p1 ([]:List Int) false (0:Int) q3.p.names q3.p.inputs q3.p.Ac q3.inputs q3.depth q3.seen ([]:List Ad)) λ(b17,u6,u7,u8,u9,u10,u11,u12,u13,u14,u15,u16)=>
 if b17=true then
 some (([]:List Int),false,(0:Int))
 else
 some (u7,u8,u9)
 else
 some (([]:List Int),false,r2)
def eP (s0:Int) (s1:Int) (s2:(List BA)) (s3:Int) (s4:(List Ae)) (s5:(List (List Bool))) (s6:Int) (s7:List (BA×Bool)) (s8:List Ad) (i0:Int) (i1:Int):Option (Bool×Int×Int×((List BA))×Int×((List Ae))×((List (List Bool)))×Int×(List (BA×Bool))×(List Ad)):=
 if i1=(0:Int) then
 some (true,s0,s1,s2,s3,s4,s5,s6,s7,s8)
 else
 some (false,(0:Int),i1,s2,s3,s4,s5,s6,s7,s8)
def eW (Y:Int->Int->((List BA))->Int->((List Ae))->((List (List Bool)))->Int->(List (BA×Bool))->(List Ad)->Int->Int->Option (Bool×Int×Int×((List BA))×Int×((List Ae))×((List (List Bool)))×Int×(List (BA×Bool))×(List Ad))) (s0:Int) (s1:Int) (s2:(List BA)) (s3:Int) (s4:(List Ae)) (s5:(List (List Bool))) (s6:Int) (s7:List (BA×Bool)) (s8:List Ad):Option (Bool×Int×Int×((List BA))×Int×((List Ae))×((List (List Bool)))×Int×(List (BA×Bool))×(List Ad)):=
 aD (dX (⟨s2,s3,s4⟩:Program)) λr1=>
 aD (aY (⟨(⟨s2,s3,s4⟩:Program),s5,s6,s8,s7⟩:Ah) r1 (-1:Int) (0:Int) (0:Int)) λr2=>
 aD (Y s0 s1 s2 s3 s4 s5 s6 r2.seen r2.visits (0:Int) (0:Int)) λ(b12,u3,u4,u5,u6,u7,u8,u9,u10,u11)=>
 if b12=true then
 bC (λ(at25,c26,c27,c28,c29,c30,c31,c32,b33,b34)=>
 if at25 < (b34.length:Int) then
 cH (
 bE b34 at25 λe47=>
 if c32<=e47.scan then
 aL (
 aL (
 some (true,c26,c27,c28,c29,c30,c31,c32,b33,b34)))
 else
 bC (λ(x62,c63,c64,c65,c66,c67,c68,c69,b70,b71)=>
 if x62 < (c31.length:Int) then
 bE c31 x62 λe74=>
 aD (fY (⟨c65,c66,c67⟩:Program) e47.machine e74) λr75=>
 aD (eI r75) λr76=>
 aE (b70.map (·.1)).Nodup <|
 if (((dJ b70 r76).getD false))=true then
 aE (I64 (x62+(1:Int))) <|
 some (.inl ((x62+(1:Int)),c63,c64,c65,c66,c67,c68,c69,b70,b71))
 else
 if (500:Int)<=(b71.length:Int) then
 aD (Y c63 c64 c65 c66 c67 c68 c69 b70 b71 (-1:Int) (16:Int)) λ(b90,u81,u82,u83,u84,u85,u86,u87,u88,u89)=>
 if b90=true then
 aL (
 aL (
 aL (
 some (true,u81,u82,u83,u84,u85,u86,u87,u88,u89))))
 else
 aL (
 aL (
 aL (
 some (false,u81,u82,u83,u84,u85,u86,u87,u88,u89))))
 else
 aE (I64 (e47.scan+(1:Int))) <|
 aD (aY (⟨(⟨c65,c66,c67⟩:Program),c68,c69,b71,b70⟩:Ah) r75 at25 x62 (e47.scan+(1:Int))) λr99=>
 aE (I64 ((r99.visits.length:Int) - (1:Int))) <|
 aD (Y c63 c64 c65 c66 c67 c68 c69 r99.seen r99.visits ((r99.visits.length:Int) - (1:Int)) (0:Int)) λ(b110,u101,u102,u103,u104,u105,u106,u107,u108,u109)=>
 if b110=true then
 aE (I64 (x62+(1:Int))) <|
 some (.inl ((x62+(1:Int)),u101,u102,u103,u104,u105,u106,u107,u108,u109))
 else
 aL (
 aL (
 aL (
 some (false,u101,u102,u103,u104,u105,u106,u107,u108,u109))))
 else
 aL (
 some (.inl (c63,c64,c65,c66,c67,c68,c69,b70,b71)))) ((0:Int),c26,c27,c28,c29,c30,c31,c32,b33,b34)) λ(c37,c38,c39,c40,c41,c42,c43,m44,b45)=>
 aE (I64 (at25+(1:Int))) <|
 some (.inl ((at25+(1:Int)),c37,c38,c39,c40,c41,c42,c43,m44,b45))
 else
 aL (
 some (true,c26,c27,c28,c29,c30,c31,c32,b33,b34))) ((0:Int),u3,u4,u5,u6,u7,u8,u9,u10,u11)
 else
 some (false,u3,u4,u5,u6,u7,u8,u9,u10,u11)
def fU (p0:Program) (p1:(List (List Bool))) (p2:Int):Option (Int×Int):=
 aD (cO p0 p1 p2) λ(o1,r2)=>
 match o1 with
 | none=>
 if r2=(0:Int) then
 none
 else
 some ((0:Int),r2)
 | some q3=>
 if r2=(0:Int) then
 aD (eW eP (0:Int) (0:Int) q3.p.names q3.p.inputs q3.p.Ac q3.inputs q3.depth q3.seen ([]:List Ad)) λ(b15,u6,u7,u8,u9,u10,u11,u12,u13,u14)=>
 if b15=true then
 some ((u14.length:Int),(0:Int))
 else
 some (u6,u7)
 else
 some ((0:Int),r2)
def dN (p0:Program) (p1:(List (List Bool))) (p2:(List Int)):Option Machine:=
 aD (dX p0) λr1=>
 aD (
 bC (λ(x11,c12,c13,c14)=>
 if x11 < (p2.length:Int) then
 bE p2 x11 λe17=>
 if ((decide ((0:Int)<=e17))&&(decide (e17 < (p1.length:Int))))=true then
 bE p1 e17 λe20=>
 aD (fY p0 (⟨c12,c13,c14⟩:Machine) e20) λr21=>
 aE (I64 (x11+(1:Int))) <|
 some (.inl ((x11+(1:Int)),r21.vars,r21.counts,r21.halted))
 else
 aE (I64 (x11+(1:Int))) <|
 some (.inl ((x11+(1:Int)),c12,c13,c14))
 else
 aL (
 some (c12,c13,c14))) ((0:Int),r1.vars,r1.counts,r1.halted)) λ(c2,c3,c4)=>
 some (⟨c2,c3,c4⟩:Machine)
def fO (p0:(List Int)) (p1:(List Int)):Option Bool:=
 if (p0.length:Int)=(p1.length:Int) then
 cH (
 bC (λi4=>
 if i4 < (p0.length:Int) then
 bE p0 i4 λe7=>
 bE p1 i4 λe8=>
 if e7=e8 then
 aE (I64 (i4+(1:Int))) <|
 some (.inl (i4+(1:Int)))
 else
 aL (
 aL (
 some false))
 else
 aL (
 some (.inl ()))) (0:Int)) λ_=>
 some true
 else
 some false
def mJ (p0:Machine) (p1:Machine):Option Bool:=
 if ((!(((p0.halted) == (p1.halted))))||((!(decide ((p0.vars.length:Int)=(p1.vars.length:Int))))||(!(decide ((p0.counts.length:Int)=(p1.counts.length:Int))))))=true then
 some false
 else
 cH (
 bC (λi6=>
 if i6 < (p0.vars.length:Int) then
 bE p0.vars i6 λe9=>
 bE p1.vars i6 λe10=>
 if (!((e9 == e10)))=true then
 aL (
 aL (
 some false))
 else
 aE (I64 (i6+(1:Int))) <|
 some (.inl (i6+(1:Int)))
 else
 aL (
 some (.inl ()))) (0:Int)) λ_=>
 cH (
 bC (λi18=>
 if i18 < (p0.counts.length:Int) then
 bE p0.counts i18 λe21=>
 bE p1.counts i18 λe22=>
 if e21=e22 then
 aE (I64 (i18+(1:Int))) <|
 some (.inl (i18+(1:Int)))
 else
 aL (
 aL (
 some false))
 else
 aL (
 some (.inl ()))) (0:Int)) λ_=>
 some true
def eH:Option Bool:=
 aD (cR (2:Int)) λr1=>
 aD (lI r1) λr2=>
 aD (dH) λr3=>
 aD (cL r3 ([(⟨(⟨#[120]⟩:BA),r2⟩:Aa)]:List Aa) ([([false]:List Bool),([true]:List Bool)]:List (List Bool)) (3:Int)) λ(r5,r6,r7)=>
 aD (dH) λr8=>
 aD (cL r8 ([(⟨(⟨#[120]⟩:BA),r2⟩:Aa)]:List Aa) ([([false]:List Bool),([true]:List Bool)]:List (List Bool)) (1:Int)) λ(r10,r11,r12)=>
 aD (dH) λr13=>
 aD (cR (1:Int)) λr14=>
 aD (cR (0:Int)) λr15=>
 aD (cL r13 ([(⟨(⟨#[121]⟩:BA),(⟨(6:Int),(0:Int),([r14,r15]:List Ab)⟩:Ab)⟩:Aa)]:List Aa) ([([false]:List Bool),([true]:List Bool)]:List (List Bool)) (3:Int)) λ(r17,r18,r19)=>
 aD (dH) λr20=>
 aD (fU r20 ([([false]:List Bool),([true]:List Bool)]:List (List Bool)) (2:Int)) λ(r22,r23)=>
 aD (dH) λr24=>
 aD (dN r24 ([([false]:List Bool),([true]:List Bool)]:List (List Bool)) r5) λr25=>
 aD (
 aD (fO r5 ([(1:Int),(1:Int)]:List Int)) λr28=>
 if r28=true then
 if r6=true then
 if r7=(0:Int) then
 if (!(r11))=true then
 if r12=(0:Int) then
 if (r17.length:Int)=(0:Int) then
 if r18=true then
 if r19=(0:Int) then
 if r22=(4:Int) then
 if r23=(0:Int) then
 aD (mJ r25 (⟨([true,false,true]:List Bool),([(0:Int),(2:Int)]:List Int),false⟩:Machine)) λr39=>
 some r39
 else
 some false
 else
 some false
 else
 some false
 else
 some false
 else
 some false
 else
 some false
 else
 some false
 else
 some false
 else
 some false
 else
 some false) λx26=>
 some x26
def cJ:Nat->Ab->(List Bool)->Option Bool
 | 0,_,_=>none
 | fu+1,p0,p1=>
 cH (
 if p0.op=(2:Int) then
 aL (
 some true)
 else
 if p0.op=(3:Int) then
 aD (
 if (0:Int)<=p0.var then
 if p0.var < (p1.length:Int) then
 bE p1 p0.var λe9=>
 some e9
 else
 some false
 else
 some false) λx5=>
 aL (
 some x5)
 else
 if p0.op=(4:Int) then
 aD (
 if (0:Int) < (p0.args.length:Int) then
 bE p0.args (0:Int) λe15=>
 aD ((cJ fu) e15 p1) λr16=>
 some (!(r16))
 else
 some false) λx12=>
 aL (
 some x12)
 else
 aD (
 if p0.op=(5:Int) then
 some (decide (p0.op=(5:Int)))
 else
 some (decide (p0.op=(6:Int)))) λx18=>
 if x18=true then
 cH (
 bC (λi24=>
 if i24 < (p0.args.length:Int) then
 bE p0.args i24 λe27=>
 aD ((cJ fu) e27 p1) λr28=>
 if ((r28 == (decide (p0.op=(6:Int)))))=true then
 aL (
 aL (
 aL (
 some (decide (p0.op=(6:Int))))))
 else
 aE (I64 (i24+(1:Int))) <|
 some (.inl (i24+(1:Int)))
 else
 aL (
 some (.inl ()))) (0:Int)) λ_=>
 aL (
 some (decide (p0.op=(5:Int))))
 else
 some (.inl ())) λ_=>
 some false
def jJ (p0:Ab) (p1:(List Bool)):Option Bool:=cJ aZ p0 p1
def eD (p0:(List Aa)) (p1:Machine):Option Bool:=
 cH (
 bC (λi3=>
 if i3 < (p0.length:Int) then
 bE p0 i3 λe6=>
 aD (jJ e6.expr p1.vars) λr7=>
 if (!(r7))=true then
 aL (
 aL (
 some true))
 else
 aE (I64 (i3+(1:Int))) <|
 some (.inl (i3+(1:Int)))
 else
 aL (
 some (.inl ()))) (0:Int)) λ_=>
 some false
def gZ (p0:(List Int)) (p1:Int):Option ((List Int)×Bool):=
 aE ((([]:List Int)++p0).length<=1000000000) <|
 cH (
 aE (I64 (((([]:List Int)++p0).length:Int) - (1:Int))) <|
 bC (λ(i8,b9)=>
 if (0:Int)<=i8 then
 bE b9 i8 λe12=>
 aE (I64 (e12+(1:Int))) <|
 if (e12+(1:Int)) < p1 then
 bE b9 i8 λe15=>
 aE (I64 (e15+(1:Int))) <|
 bE b9 i8 λe17=>
 aL (
 aL (
 some ((b9.set i8.toNat (e15+(1:Int))),true)))
 else
 bE b9 i8 λe20=>
 aE (I64 (i8 - (1:Int))) <|
 some (.inl ((i8 - (1:Int)),(b9.set i8.toNat (0:Int))))
 else
 aL (
 some (.inl b9))) ((((([]:List Int)++p0).length:Int) - (1:Int)),(([]:List Int)++p0))) λb2=>
 some (([]:List Int),false)
def gB (p0:Program) (p1:(List Aa)) (p2:(List (List Bool))) (p3:Int):Option ((List Int)×Bool):=
 if ((decide ((0:Int) < p3))&&(decide ((p2.length:Int)=(0:Int))))=true then
 some (([]:List Int),false)
 else
 aE (0<=p3/\p3<=1000000000) <|
 bC (λtrace5=>
 aD (dN p0 p2 trace5) λr7=>
 aD (eD p1 r7) λr8=>
 if r8=true then
 aL (
 some (trace5,true))
 else
 aD (gZ trace5 (p2.length:Int)) λ(r12,r13)=>
 if (!(r13))=true then
 aL (
 some (([]:List Int),false))
 else
 some (.inl r12)) (List.replicate p3.toNat (0:Int))
def cU (p0:Program) (p1:(List Aa)) (p2:(List (List Bool))) (p3:Int):Option Bool:=
 aD (
 aD (iR p0 p1 p2) λr3=>
 if (!(r3))=true then
 some true
 else
 if (3:Int) < (p2.length:Int) then
 some true
 else
 some (decide ((4:Int) < p3))) λx1=>
 if x1=true then
 aD (eH) λr7=>
 some r7
 else
 aD (cL p0 p1 p2 p3) λ(r9,r10,r11)=>
 if r11=(0:Int) then
 cH (
 bC (λn20=>
 if n20<=p3 then
 aD (gB p0 p1 p2 n20) λ(r24,r25)=>
 if r25=true then
 aD (
 if r10=true then
 aD (fO r9 r24) λr30=>
 if r30=true then
 aD (eH) λr32=>
 some r32
 else
 some false
 else
 some false) λx27=>
 aL (
 aL (
 some x27))
 else
 aE (I64 (n20+(1:Int))) <|
 some (.inl (n20+(1:Int)))
 else
 aL (
 some (.inl ()))) (0:Int)) λ_=>
 aD (
 if (!(r10))=true then
 if (r9.length:Int)=(0:Int) then
 aD (eH) λr41=>
 some r41
 else
 some false
 else
 some false) λx37=>
 some x37
 else
 aD (
 if (r9.length:Int)=(0:Int) then
 if (!(r10))=true then
 aD (eH) λr17=>
 some r17
 else
 some false
 else
 some false) λx13=>
 some x13
end Go.Proofs.YtciilodpnepdbaaDoor
