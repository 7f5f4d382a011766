/- ObligeStates returns true for every input. No condition but those of the row. -/
import Derived.Test.YtldaknhjmhlefaaGreatDoorCards
import Derived.Test.YtldaknhjmhlefaaGreatDoorTie
import Derived.Test.YtldaknhjmhlefaaGreatDoorQv
import Derived.ProofKit
import Derived.OpenShut
import Derived.JoinedCond
set_option maxHeartbeats 8000000
set_option linter.unusedSimpArgs false
set_option linter.unusedVariables false
set_option maxRecDepth 100000
namespace Go.Proofs.YtldaknhjmhlefaaGreatDoor
open Go Go.TL Go.ChangeShapes Go.WideShapes Go.RowKit Go.ChangeAt

theorem obligeStates_holds_args {H:Type} (ds:List (DataW H)) (h:ds.length=Tryz.f3.params.toList.length):Rows.obligeStatesSpec.fn H ds={ results:=[.lit (.bool true)],args:=ds }:=by
  have h:ds.length=2:=h
  match ds,h with
  | [d0,d1],_=>rfl
theorem obligeStates_holds_true (ds:List D) (h:qMG Tryz.prog Tryz.f3.params.toList ds) (hb:(λds=>D.bulks ds≤1048576) ds):Ret Tryz.prog 3 [] (λ_=>false) (ds.map .d) (.d (.bool true)) []:=by
  have h:qMG Tryz.prog [25,26] ds:=h
  match ds,h with
  | [_,_],⟨⟨c0,_,t0,rfl⟩,⟨⟨c1,_,t1,rfl⟩,_⟩⟩=>
      obtain⟨x0,w0,e0⟩:=ty25 c0 t0
      obtain⟨x1,w1,e1⟩:=ty26 c1 t1
      have hb:D.bulks _≤1048576:=hb
      simp only [e0,e1] at hb ⊢
      exact qAB (qTA w0 w1 hb)
theorem obligeStates_holds_met (os:Os):laidMet Tryz.prog Rows.obligeStatesUptoRow.laid ((laidWorld os).forCall (λ_ _=>0) ⟨#[],#[Go.Value.agg #[Go.Value.slice Option.none 0 0,Go.Value.slice Option.none 0 0,Go.Value.slice Option.none 0 0,Go.Value.int Go.IntKind.i64 0,Go.Value.int Go.IntKind.i64 0],Go.Value.slice Option.none 0 0],[]⟩).memory:=
  laidMet_of_run' 8 (by kernel_rfl) (by kernel_rfl)
theorem obligeStates_holds_reads (os:Os) {H:Type} (enc:TypeId×Value→H):∃ places,DataW.whole enc Tryz.prog ((laidWorld os).forCall (λ_ _=>0) ⟨#[],#[Go.Value.agg #[Go.Value.slice Option.none 0 0,Go.Value.slice Option.none 0 0,Go.Value.slice Option.none 0 0,Go.Value.int Go.IntKind.i64 0,Go.Value.int Go.IntKind.i64 0],Go.Value.slice Option.none 0 0],[]⟩).memory Tryz.f3.params.toList Rows.obligeStatesSpec.vars false #[Go.Value.agg #[Go.Value.slice Option.none 0 0,Go.Value.slice Option.none 0 0,Go.Value.slice Option.none 0 0,Go.Value.int Go.IntKind.i64 0,Go.Value.int Go.IntKind.i64 0],Go.Value.slice Option.none 0 0].toList 8=some ([.agg [.nil,.nil,.nil,.lit (.int .i64 0),.lit (.int .i64 0)],.nil],[],places):=
  ⟨[],by kernel_rfl⟩
theorem obligeStates_holds_lifted (os:Os) (started:os.Started) (H:Type) (enc:TypeId×Value→H) (F:Stop.Interp):
    ReturnsInHanded {} Tryz.checked os 3 .any ((Rows.OpenSpec.upto Rows.obligeStatesSpec).preRow enc Tryz.prog Tryz.f3 Rows.obligeStatesUptoRow.domain false Rows.obligeStatesUptoRow.laid) (((Rows.OpenSpec.upto Rows.obligeStatesSpec).at F).post enc Tryz.prog Tryz.f3 false true false false):=by
  obtain⟨places,hx⟩:=obligeStates_holds_reads os enc
  exact qTM (fun ds => D.bulks ds ≤ 1048576) [25, 22, 88, 9, 3, 84, 177, 85, 148, 23, 86, 125, 26, 98] (s := Rows.obligeStatesSpec) (so := Rows.OpenSpec.upto Rows.obligeStatesSpec) (laidv := Rows.obligeStatesUptoRow.laid) (fun ds es h hb => Nat.le_trans hb (qVD (h _ rfl))) (fun h => h) rfl rfl (C := Tryz.checked) os own started zFO (by kernel_rfl) Tryz.func3
    (witness_row_at (enc := enc) (C := Tryz.checked) false (laidWorld os) #[Go.Value.agg #[Go.Value.slice Option.none 0 0, Go.Value.slice Option.none 0 0, Go.Value.slice Option.none 0 0, Go.Value.int Go.IntKind.i64 0, Go.Value.int Go.IntKind.i64 0], Go.Value.slice Option.none 0 0] rfl (by kernel_rfl) (by kernel_rfl) (by kernel_rfl)
      (OpenSpec.preRow_of_cond 8 hx (by kernel_rfl) (fun k hk => by cases hk; kernel_rfl) (by kernel_rfl) (obligeStates_holds_met os))) (by kernel_rfl) rfl obligeStates_holds_args obligeStates_holds_true
theorem obligeStates_holds_j0:(Rows.obligeStatesUptoRow.inPlace == Tryz.prog.inPlace 3)=true:=by kernel_rfl
theorem obligeStates_holds_j1:(Rows.obligeStatesUptoRow.unfollowed == Tryz.prog.unfollowed 3)=true:=by kernel_rfl
theorem obligeStates_holds_j2:(Rows.obligeStatesUptoRow.recurses == Tryz.prog.recurses 3)=true:=by kernel_rfl
theorem obligeStates_holds_j3:(Rows.obligeStatesUptoRow.named == Tryz.prog.varsNamed 3)=true:=by kernel_rfl
theorem obligeStates_holds_jf:joinedFacts Tryz.prog 3 Tryz.f3 (Rows.OpenSpec.upto Rows.obligeStatesSpec).bare Rows.obligeStatesUptoRow=true:=by
  unfold joinedFacts
  rw [obligeStates_holds_j0,obligeStates_holds_j1,obligeStates_holds_j2,obligeStates_holds_j3]
  kernel_rfl
theorem obligeStates_holds_said:Rows.ObligeStatesUptoSaid:=
  OpenClaim.holds_of_cond 3 Tryz.f3 rfl rfl rfl rfl rfl rfl rfl ⟨rfl, rfl, rfl, rfl, rfl⟩ rfl rfl rfl rfl rfl (by kernel_rfl) Tryz.func3 obligeStates_holds_jf
    (of_decide_eq_true (by kernel_rfl)) (by unfold Func.isWrapper;first|(rw [if_pos (by decide+kernel)];kernel_rfl)|(rw [if_neg (by decide+kernel)];exact⟨rfl,rfl⟩))
    (λos started H enc _ F=>by rw [OpenClaim.pre_eq_preRow];exact obligeStates_holds_lifted os started H enc F)
theorem obligeStates_holds_plain (f:FuncId) (fn:Func) (hf:Tryz.pinned.checked.prog.funcNamed Rows.obligeStatesUptoRow.func=some f) (hfn:Tryz.pinned.checked.prog.funcs[f]?=some fn):
    true=Tryz.pinned.checked.prog.looks []∧∀ (j:Nat) t,fn.params[j]?=some t→Tryz.pinned.checked.prog.wantsStandIn t=false:=by
  obtain rfl:f=3:=Option.some.inj ((show Tryz.prog.funcNamed Rows.obligeStatesUptoRow.func=some 3 by kernel_rfl).symm.trans hf) |>.symm
  obtain rfl:fn=Tryz.f3:=(Option.some.inj (Tryz.func3.symm.trans hfn)).symm
  refine⟨by kernel_rfl,λj t ht=>?_⟩
  have hm:t∈Tryz.f3.params.toList:=Array.mem_toList_iff.2 (Array.mem_of_getElem? ht)
  have hall:(Tryz.f3.params.toList.all λt=>!Tryz.prog.wantsStandIn t)=true:=by kernel_rfl
  have:=List.all_eq_true.1 hall t hm
  rw [Bool.not_eq_true'] at this;exact this
theorem obligeStates_holds:Rows.ObligeStatesUptoCardSaid:=
  Claim7.holds_tied_plain_at .later [] _ _ _ _ obligeStates_holds_said (λ_ h=>by cases h) (by kernel_rfl) (λ_ h=>by cases h) obligeStatesUpto_row_tie rfl ⟨rfl,rfl⟩ (by kernel_rfl) rfl obligeStates_holds_plain (by kernel_rfl)

end Go.Proofs.YtldaknhjmhlefaaGreatDoor
