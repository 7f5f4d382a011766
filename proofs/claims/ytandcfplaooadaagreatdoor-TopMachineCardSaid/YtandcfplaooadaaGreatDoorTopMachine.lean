/- TopMachine returns true for every input. No condition but those of the row. -/
import Derived.Test.YtandcfplaooadaaGreatDoorCards
import Derived.Test.YtandcfplaooadaaGreatDoorTie
import Derived.Test.YtandcfplaooadaaGreatDoorQg
import Derived.ProofKit
import Derived.OpenShut
import Derived.JoinedCond
set_option maxHeartbeats 8000000
set_option linter.unusedSimpArgs false
set_option linter.unusedVariables false
set_option maxRecDepth 100000
namespace Go.Proofs.YtandcfplaooadaaGreatDoor
open Go Go.TL Go.ChangeShapes Go.WideShapes Go.RowKit Go.ChangeAt

abbrev zvV:Go.Value:=.slice none 0 0
theorem topMachine_holds_args {H:Type} (ds:List (DataW H)) (h:ds.length=Tryz.f3.params.toList.length):Rows.topMachineSpec.fn H ds={ results:=[.lit (.bool true)],args:=ds }:=by
  have h:ds.length=2:=h
  match ds,h with
  |[d0,d1],_=>rfl
theorem topMachine_holds_true (ds:List D) (h:Zu Tryz.prog Tryz.f3.params.toList ds):Ret Tryz.prog 3 [] (λ_=>false) (ds.map .d) (.d (.bool true)) []:=by
  have h:Zu Tryz.prog [28,29] ds:=h
  match ds,h with
  |[_,_],⟨⟨c0,_,t0,rfl⟩,⟨⟨c1,_,t1,rfl⟩,_⟩⟩=>
      obtain⟨x0,w0,e0⟩:=ty28 c0 t0
      obtain⟨x1,w1,e1⟩:=ty29 c1 t1
      simp only[e0,e1]
      exact Mo (qKT w0 w1)
theorem topMachine_holds_met (os:Os):laidMet Tryz.prog Rows.topMachineRow.laid ((laidWorld os).forCall (λ_ _=>0) ⟨#[],#[Go.Value.agg #[Go.Value.string { data:=#[] },zvV,zvV,zvV,zvV,zvV],zvV],[]⟩).memory:=
  laidMet_of_run' 8 (by kernel_rfl) (by kernel_rfl)
theorem topMachine_holds_reads (os:Os) {H:Type} (enc:TypeId×Value→H):∃places,DataW.whole enc Tryz.prog ((laidWorld os).forCall (λ_ _=>0) ⟨#[],#[Go.Value.agg #[Go.Value.string { data:=#[] },zvV,zvV,zvV,zvV,zvV],zvV],[]⟩).memory Tryz.f3.params.toList Rows.topMachineSpec.vars false #[Go.Value.agg #[Go.Value.string { data:=#[] },zvV,zvV,zvV,zvV,zvV],zvV].toList 8=some ([.agg [.lit (.string []),.nil,.nil,.nil,.nil,.nil],.nil],[],places):=
  ⟨[],by kernel_rfl⟩
theorem topMachine_holds_lifted (os:Os) (started:os.Started) (H:Type) (enc:TypeId×Value→H) (F:Stop.Interp):
    ReturnsInHanded {} Tryz.checked os 3 .any ((OpenSpec.ofChange Rows.topMachineSpec).preRow enc Tryz.prog Tryz.f3 Rows.topMachineRow.domain false Rows.topMachineRow.laid) (((OpenSpec.ofChange Rows.topMachineSpec).at F).post enc Tryz.prog Tryz.f3 false true false false):=by
  obtain⟨places,hx⟩:=topMachine_holds_reads os enc
  exact qLE [28, 9, 22, 23, 147, 3, 24, 151, 135, 25, 149, 26, 253, 29, 60, 51, 4, 31] (s := Rows.topMachineSpec) (so := OpenSpec.ofChange Rows.topMachineSpec) (laidv := Rows.topMachineRow.laid) (fun h => h) rfl rfl (C := Tryz.checked) os own started laidOut (by kernel_rfl) Tryz.func3
    (witness_row_at (enc := enc) (C := Tryz.checked) false (laidWorld os) #[Go.Value.agg #[Go.Value.string { data := #[] }, zvV, zvV, zvV, zvV, zvV], zvV] rfl (by kernel_rfl) (by kernel_rfl) (by kernel_rfl)
      (OpenSpec.preRow_of_cond 8 hx (by kernel_rfl) (λk hk=>by cases hk) (by kernel_rfl) (topMachine_holds_met os))) (by kernel_rfl) rfl topMachine_holds_args topMachine_holds_true qWJ
theorem topMachine_holds_j0:(Rows.topMachineRow.inPlace == Tryz.prog.inPlace 3)=true:=by kernel_rfl
theorem topMachine_holds_j1:(Rows.topMachineRow.unfollowed == Tryz.prog.unfollowed 3)=true:=by kernel_rfl
theorem topMachine_holds_j2:(Rows.topMachineRow.recurses == Tryz.prog.recurses 3)=true:=by kernel_rfl
theorem topMachine_holds_j3:(Rows.topMachineRow.named == Tryz.prog.varsNamed 3)=true:=by kernel_rfl
theorem topMachine_holds_jf:joinedFacts Tryz.prog 3 Tryz.f3 (OpenSpec.ofChange Rows.topMachineSpec).bare Rows.topMachineRow=true:=by
  unfold joinedFacts
  rw[topMachine_holds_j0,topMachine_holds_j1,topMachine_holds_j2,topMachine_holds_j3]
  kernel_rfl
theorem topMachine_holds_said:Rows.TopMachineSaid:=
  OpenClaim.holds_of_cond 3 Tryz.f3 rfl rfl rfl rfl rfl rfl rfl ⟨rfl, rfl, rfl, rfl, rfl⟩ rfl rfl rfl rfl rfl (by kernel_rfl) Tryz.func3 topMachine_holds_jf
    (of_decide_eq_true (by kernel_rfl)) (by unfold Func.isWrapper;first|(rw[if_pos (by decide+kernel)];kernel_rfl)|(rw[if_neg (by decide+kernel)];exact⟨rfl,rfl⟩))
    (λos started H enc _ F=>by rw[OpenClaim.pre_eq_preRow];exact topMachine_holds_lifted os started H enc F)
theorem topMachine_holds_plain (f:FuncId) (fn:Func) (hf:Tryz.pinned.checked.prog.funcNamed Rows.topMachineRow.func=some f) (hfn:Tryz.pinned.checked.prog.funcs[f]?=some fn):
    true=Tryz.pinned.checked.prog.looks []∧∀(j:Nat) t,fn.params[j]?=some t→Tryz.pinned.checked.prog.wantsStandIn t=false:=by
  obtain rfl:f=3:=Option.some.inj ((show Tryz.prog.funcNamed Rows.topMachineRow.func=some 3 by kernel_rfl).symm.trans hf) |>.symm
  obtain rfl:fn=Tryz.f3:=(Option.some.inj (Tryz.func3.symm.trans hfn)).symm
  refine⟨by kernel_rfl,λj t ht=>?_⟩
  have hm:t∈Tryz.f3.params.toList:=Array.mem_toList_iff.2 (Array.mem_of_getElem? ht)
  have hall:(Tryz.f3.params.toList.all λt=>!Tryz.prog.wantsStandIn t)=true:=by kernel_rfl
  have:=List.all_eq_true.1 hall t hm
  rw[Bool.not_eq_true']at this;exact this
theorem topMachine_holds:Rows.TopMachineCardSaid:=
  Claim7.holds_tied_plain_at .later [] _ _ _ _ topMachine_holds_said (λ_ h=>by cases h) (by kernel_rfl) (λ_ h=>by cases h) topMachine_row_tie rfl ⟨rfl,rfl⟩ (by kernel_rfl) rfl topMachine_holds_plain (by kernel_rfl)

end Go.Proofs.YtandcfplaooadaaGreatDoor
