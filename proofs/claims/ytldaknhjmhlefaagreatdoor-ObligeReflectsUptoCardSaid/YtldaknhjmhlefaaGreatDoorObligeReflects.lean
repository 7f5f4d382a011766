/- ObligeReflects returns true for every input. No condition but those of the row. -/
import Derived.Test.YtldaknhjmhlefaaGreatDoorCards
import Derived.Test.YtldaknhjmhlefaaGreatDoorTie
import Derived.Test.YtldaknhjmhlefaaGreatDoorQu
import Derived.ProofKit
import Derived.OpenShut
import Derived.JoinedCond
set_option maxHeartbeats 8000000
set_option linter.unusedSimpArgs false
set_option linter.unusedVariables false
set_option maxRecDepth 100000
namespace Go.Proofs.YtldaknhjmhlefaaGreatDoor
open Go Go.TL Go.ChangeShapes Go.WideShapes Go.RowKit Go.ChangeAt

theorem obligeReflects_holds_args {H:Type} (ds:List (DataW H)) (h:ds.length=Tryz.f6.params.toList.length):Rows.obligeReflectsSpec.fn H ds={ results:=[.lit (.bool true)],args:=ds }:=by
  have h:ds.length=3:=h
  match ds,h with
  | [d0,d1,d2],_=>rfl
theorem obligeReflects_holds_true (ds:List D) (h:qAN Tryz.prog Tryz.f6.params.toList ds) (hb:(λds=>D.bulks ds≤1048576) ds):Ret Tryz.prog 6 [] (λ_=>false) (ds.map .d) (.d (.bool true)) []:=by
  have h:qAN Tryz.prog [54,40,60] ds:=h
  match ds,h with
  | [_,_,_],⟨⟨c0,_,t0,rfl⟩,⟨⟨c1,_,t1,rfl⟩,⟨⟨c2,_,t2,rfl⟩,_⟩⟩⟩=>
      obtain⟨x0,w0,e0⟩:=ty54 c0 t0
      obtain⟨x1,w1,e1⟩:=ty40 c1 t1
      obtain⟨x2,w2,e2⟩:=ty60 c2 t2
      have hb:D.bulks _≤1048576:=hb
      simp only [e0,e1,e2,Expr.encR_eq] at hb ⊢
      exact qJ (qBE w0 w1 w2 hb)
theorem obligeReflects_holds_met (os:Os):laidMet Tryz.prog Rows.obligeReflectsUptoRow.laid ((laidWorld os).forCall (λ_ _=>0) ⟨#[],#[Go.Value.agg #[Go.Value.slice Option.none 0 0,Go.Value.int Go.IntKind.i64 0,Go.Value.slice Option.none 0 0],Go.Value.agg #[Go.Value.int Go.IntKind.i64 0,Go.Value.int Go.IntKind.i64 0,Go.Value.slice Option.none 0 0],Go.Value.agg #[Go.Value.slice Option.none 0 0,Go.Value.slice Option.none 0 0,Go.Value.bool Bool.false,Go.Value.slice Option.none 0 0]],[]⟩).memory:=
  laidMet_of_run' 8 (by kernel_rfl) (by kernel_rfl)
theorem obligeReflects_holds_reads (os:Os) {H:Type} (enc:TypeId×Value→H):∃ places,DataW.whole enc Tryz.prog ((laidWorld os).forCall (λ_ _=>0) ⟨#[],#[Go.Value.agg #[Go.Value.slice Option.none 0 0,Go.Value.int Go.IntKind.i64 0,Go.Value.slice Option.none 0 0],Go.Value.agg #[Go.Value.int Go.IntKind.i64 0,Go.Value.int Go.IntKind.i64 0,Go.Value.slice Option.none 0 0],Go.Value.agg #[Go.Value.slice Option.none 0 0,Go.Value.slice Option.none 0 0,Go.Value.bool Bool.false,Go.Value.slice Option.none 0 0]],[]⟩).memory Tryz.f6.params.toList Rows.obligeReflectsSpec.vars false #[Go.Value.agg #[Go.Value.slice Option.none 0 0,Go.Value.int Go.IntKind.i64 0,Go.Value.slice Option.none 0 0],Go.Value.agg #[Go.Value.int Go.IntKind.i64 0,Go.Value.int Go.IntKind.i64 0,Go.Value.slice Option.none 0 0],Go.Value.agg #[Go.Value.slice Option.none 0 0,Go.Value.slice Option.none 0 0,Go.Value.bool Bool.false,Go.Value.slice Option.none 0 0]].toList 8=some ([.agg [.nil,.lit (.int .i64 0),.nil],.agg [.lit (.int .i64 0),.lit (.int .i64 0),.nil],.agg [.agg [.nil,.nil,.lit (.bool false)],.nil]],[],places):=
  ⟨[],by kernel_rfl⟩
theorem obligeReflects_holds_lifted (os:Os) (started:os.Started) (H:Type) (enc:TypeId×Value→H) (F:Stop.Interp):
    ReturnsInHanded {} Tryz.checked os 6 .any ((Rows.OpenSpec.upto Rows.obligeReflectsSpec).preRow enc Tryz.prog Tryz.f6 Rows.obligeReflectsUptoRow.domain false Rows.obligeReflectsUptoRow.laid) (((Rows.OpenSpec.upto Rows.obligeReflectsSpec).at F).post enc Tryz.prog Tryz.f6 false true false false):=by
  obtain⟨places,hx⟩:=obligeReflects_holds_reads os enc
  exact qFU (fun ds => D.bulks ds ≤ 1048576) [54, 51, 9, 3, 52, 64, 40, 38, 60, 47, 36, 4, 23] (s := Rows.obligeReflectsSpec) (so := Rows.OpenSpec.upto Rows.obligeReflectsSpec) (laidv := Rows.obligeReflectsUptoRow.laid) (fun ds es h hb => Nat.le_trans hb (qGY (h _ rfl))) (fun h => h) rfl rfl (C := Tryz.checked) os own started qSR (by kernel_rfl) Tryz.func6
    (witness_row_at (enc := enc) (C := Tryz.checked) false (laidWorld os) #[Go.Value.agg #[Go.Value.slice Option.none 0 0, Go.Value.int Go.IntKind.i64 0, Go.Value.slice Option.none 0 0], Go.Value.agg #[Go.Value.int Go.IntKind.i64 0, Go.Value.int Go.IntKind.i64 0, Go.Value.slice Option.none 0 0], Go.Value.agg #[Go.Value.slice Option.none 0 0, Go.Value.slice Option.none 0 0, Go.Value.bool Bool.false, Go.Value.slice Option.none 0 0]] rfl (by kernel_rfl) (by kernel_rfl) (by kernel_rfl)
      (OpenSpec.preRow_of_cond 8 hx (by kernel_rfl) (fun k hk => by cases hk; kernel_rfl) (by kernel_rfl) (obligeReflects_holds_met os))) (by kernel_rfl) rfl obligeReflects_holds_args obligeReflects_holds_true
theorem obligeReflects_holds_said:Rows.ObligeReflectsUptoSaid:=
  OpenClaim.holds_of_cond 6 Tryz.f6 rfl rfl rfl rfl rfl rfl rfl ⟨rfl, rfl, rfl, rfl, rfl⟩ rfl rfl rfl rfl rfl (by kernel_rfl) Tryz.func6 (by kernel_rfl)
    (of_decide_eq_true (by kernel_rfl)) (by unfold Func.isWrapper;first|(rw [if_pos (by decide+kernel)];kernel_rfl)|(rw [if_neg (by decide+kernel)];exact⟨rfl,rfl⟩))
    (λos started H enc _ F=>by rw [OpenClaim.pre_eq_preRow];exact obligeReflects_holds_lifted os started H enc F)
theorem obligeReflects_holds_plain (f:FuncId) (fn:Func) (hf:Tryz.pinned.checked.prog.funcNamed Rows.obligeReflectsUptoRow.func=some f) (hfn:Tryz.pinned.checked.prog.funcs[f]?=some fn):
    true=Tryz.pinned.checked.prog.looks []∧∀ (j:Nat) t,fn.params[j]?=some t→Tryz.pinned.checked.prog.wantsStandIn t=false:=by
  obtain rfl:f=6:=Option.some.inj ((show Tryz.prog.funcNamed Rows.obligeReflectsUptoRow.func=some 6 by kernel_rfl).symm.trans hf) |>.symm
  obtain rfl:fn=Tryz.f6:=(Option.some.inj (Tryz.func6.symm.trans hfn)).symm
  refine⟨by kernel_rfl,λj t ht=>?_⟩
  have hm:t∈Tryz.f6.params.toList:=Array.mem_toList_iff.2 (Array.mem_of_getElem? ht)
  have hall:(Tryz.f6.params.toList.all λt=>!Tryz.prog.wantsStandIn t)=true:=by kernel_rfl
  have:=List.all_eq_true.1 hall t hm
  rw [Bool.not_eq_true'] at this;exact this
theorem obligeReflects_holds:Rows.ObligeReflectsUptoCardSaid:=
  Claim7.holds_tied_plain_at .later [] _ _ _ _ obligeReflects_holds_said (λ_ h=>by cases h) (by kernel_rfl) (λ_ h=>by cases h) obligeReflectsUpto_row_tie rfl ⟨rfl,rfl⟩ (by kernel_rfl) rfl obligeReflects_holds_plain (by kernel_rfl)

end Go.Proofs.YtldaknhjmhlefaaGreatDoor
