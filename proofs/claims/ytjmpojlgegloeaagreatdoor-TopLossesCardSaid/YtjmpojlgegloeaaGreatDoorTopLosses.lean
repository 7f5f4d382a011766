/- TopLosses returns true for every input. No condition but those of the row. -/
import Derived.Test.YtjmpojlgegloeaaGreatDoorCards
import Derived.Test.YtjmpojlgegloeaaGreatDoorTie
import Derived.Test.YtjmpojlgegloeaaGreatDoorQf
import Derived.ProofKit
import Derived.OpenShut
import Derived.JoinedCond
set_option maxHeartbeats 8000000
set_option linter.unusedSimpArgs false
set_option linter.unusedVariables false
set_option maxRecDepth 100000
namespace Go.Proofs.YtjmpojlgegloeaaGreatDoor
open Go Go.TL Go.ChangeShapes Go.WideShapes Go.RowKit Go.ChangeAt

theorem topLosses_holds_args {H:Type} (ds:List (DataW H)) (h:ds.length=Tryz.f3.params.toList.length):Rows.topLossesSpec.fn H ds={ results:=[.lit (.bool true)],args:=ds }:=by
  have h:ds.length=4:=h
  match ds,h with
  |[d0,d1,d2,d3],_=>rfl
theorem topLosses_holds_true (ds:List D) (h:Bn Tryz.prog Tryz.f3.params.toList ds) (hb:(λ_=>True) ds):Ret Tryz.prog 3 [] (λ_=>false) (ds.map .d) (.d (.bool true)) []:=by
  have h:Bn Tryz.prog [32,33,34,35] ds:=h
  match ds,h with
  |[_,_,_,_],⟨⟨c0,_,t0,rfl⟩,⟨⟨c1,_,t1,rfl⟩,⟨⟨c2,_,t2,rfl⟩,⟨⟨c3,_,t3,rfl⟩,_⟩⟩⟩⟩=>
      obtain⟨x0,w0,e0⟩:=ty32 c0 t0
      obtain⟨x1,w1,e1⟩:=ty33 c1 t1
      obtain⟨x2,w2,e2⟩:=ty34 c2 t2
      obtain⟨x3,w3,e3⟩:=ty35 c3 t3
      clear hb
      simp only[e0,e1,e2,e3]
      exact vu (If w0 w1 w2 w3)
theorem topLosses_holds_met (os:Os):laidMet Tryz.prog Rows.topLossesRow.laid ((laidWorld os).forCall (λ_ _=>0) ⟨#[],#[Go.Value.agg #[Go.Value.string { data:=#[] },Go.Value.slice Option.none 0 0,Go.Value.slice Option.none 0 0,Go.Value.slice Option.none 0 0,Go.Value.slice Option.none 0 0,Go.Value.slice Option.none 0 0,Go.Value.slice Option.none 0 0,Go.Value.slice Option.none 0 0],Go.Value.slice Option.none 0 0,Go.Value.slice Option.none 0 0,Go.Value.slice Option.none 0 0],[]⟩).memory:=
  laidMet_of_run' 8 (by kernel_rfl) (by kernel_rfl)
theorem topLosses_holds_reads (os:Os) {H:Type} (enc:TypeId×Value→H):∃places,DataW.whole enc Tryz.prog ((laidWorld os).forCall (λ_ _=>0) ⟨#[],#[Go.Value.agg #[Go.Value.string { data:=#[] },Go.Value.slice Option.none 0 0,Go.Value.slice Option.none 0 0,Go.Value.slice Option.none 0 0,Go.Value.slice Option.none 0 0,Go.Value.slice Option.none 0 0,Go.Value.slice Option.none 0 0,Go.Value.slice Option.none 0 0],Go.Value.slice Option.none 0 0,Go.Value.slice Option.none 0 0,Go.Value.slice Option.none 0 0],[]⟩).memory Tryz.f3.params.toList Rows.topLossesSpec.vars false #[Go.Value.agg #[Go.Value.string { data:=#[] },Go.Value.slice Option.none 0 0,Go.Value.slice Option.none 0 0,Go.Value.slice Option.none 0 0,Go.Value.slice Option.none 0 0,Go.Value.slice Option.none 0 0,Go.Value.slice Option.none 0 0,Go.Value.slice Option.none 0 0],Go.Value.slice Option.none 0 0,Go.Value.slice Option.none 0 0,Go.Value.slice Option.none 0 0].toList 8=some ([.agg [.agg [.lit (.string []),.nil,.nil,.nil,.nil,.nil],.nil,.nil],.nil,.nil,.nil],[],places):=
  ⟨[],by kernel_rfl⟩
theorem topLosses_holds_lifted (os:Os) (started:os.Started) (H:Type) (enc:TypeId×Value→H) (F:Stop.Interp):
    ReturnsInHanded {} Tryz.checked os 3 .any ((OpenSpec.ofChange Rows.topLossesSpec).preRow enc Tryz.prog Tryz.f3 Rows.topLossesRow.domain false Rows.topLossesRow.laid) (((OpenSpec.ofChange Rows.topLossesSpec).at F).post enc Tryz.prog Tryz.f3 false true false false):=by
  obtain⟨places,hx⟩:=topLosses_holds_reads os enc
  exact F6 (fun _ => True) [32, 28, 9, 22, 23, 141, 3, 24, 153, 128, 25, 151, 26, 235, 29, 60, 30, 87, 71, 120, 33, 37, 34, 62, 4, 35] (s := Rows.topLossesSpec) (so := OpenSpec.ofChange Rows.topLossesSpec) (laidv := Rows.topLossesRow.laid) (fun _ _ _ _ => trivial) (fun h => h) rfl rfl (C := Tryz.checked) os own started laidOut (by kernel_rfl) Tryz.func3
    (witness_row_at (enc := enc) (C := Tryz.checked) false (laidWorld os) #[Go.Value.agg #[Go.Value.string { data := #[] }, Go.Value.slice Option.none 0 0, Go.Value.slice Option.none 0 0, Go.Value.slice Option.none 0 0, Go.Value.slice Option.none 0 0, Go.Value.slice Option.none 0 0, Go.Value.slice Option.none 0 0, Go.Value.slice Option.none 0 0], Go.Value.slice Option.none 0 0, Go.Value.slice Option.none 0 0, Go.Value.slice Option.none 0 0] rfl (by kernel_rfl) (by kernel_rfl) (by kernel_rfl)
      (OpenSpec.preRow_of_cond 8 hx (by kernel_rfl) (λk hk=>by cases hk) (by kernel_rfl) (topLosses_holds_met os))) (by kernel_rfl) rfl topLosses_holds_args topLosses_holds_true Ky
theorem topLosses_holds_j0:(Rows.topLossesRow.inPlace == Tryz.prog.inPlace 3)=true:=by kernel_rfl
theorem topLosses_holds_j1:(Rows.topLossesRow.unfollowed == Tryz.prog.unfollowed 3)=true:=by kernel_rfl
theorem topLosses_holds_j2:(Rows.topLossesRow.recurses == Tryz.prog.recurses 3)=true:=by kernel_rfl
theorem topLosses_holds_j3:(Rows.topLossesRow.named == Tryz.prog.varsNamed 3)=true:=by kernel_rfl
theorem topLosses_holds_jf:joinedFacts Tryz.prog 3 Tryz.f3 (OpenSpec.ofChange Rows.topLossesSpec).bare Rows.topLossesRow=true:=by
  unfold joinedFacts
  rw[topLosses_holds_j0,topLosses_holds_j1,topLosses_holds_j2,topLosses_holds_j3]
  kernel_rfl
theorem topLosses_holds_said:Rows.TopLossesSaid:=
  OpenClaim.holds_of_cond 3 Tryz.f3 rfl rfl rfl rfl rfl rfl rfl ⟨rfl, rfl, rfl, rfl, rfl⟩ rfl rfl rfl rfl rfl (by kernel_rfl) Tryz.func3 topLosses_holds_jf
    (of_decide_eq_true (by kernel_rfl)) (by unfold Func.isWrapper;first|(rw[if_pos (by decide+kernel)];kernel_rfl)|(rw[if_neg (by decide+kernel)];exact⟨rfl,rfl⟩))
    (λos started H enc _ F=>by rw[OpenClaim.pre_eq_preRow];exact topLosses_holds_lifted os started H enc F)
theorem topLosses_holds_plain (f:FuncId) (fn:Func) (hf:Tryz.pinned.checked.prog.funcNamed Rows.topLossesRow.func=some f) (hfn:Tryz.pinned.checked.prog.funcs[f]?=some fn):
    true=Tryz.pinned.checked.prog.looks []∧∀(j:Nat) t,fn.params[j]?=some t→Tryz.pinned.checked.prog.wantsStandIn t=false:=by
  obtain rfl:f=3:=Option.some.inj ((show Tryz.prog.funcNamed Rows.topLossesRow.func=some 3 by kernel_rfl).symm.trans hf) |>.symm
  obtain rfl:fn=Tryz.f3:=(Option.some.inj (Tryz.func3.symm.trans hfn)).symm
  refine⟨by kernel_rfl,λj t ht=>?_⟩
  have hm:t∈Tryz.f3.params.toList:=Array.mem_toList_iff.2 (Array.mem_of_getElem? ht)
  have hall:(Tryz.f3.params.toList.all λt=>!Tryz.prog.wantsStandIn t)=true:=by kernel_rfl
  have:=List.all_eq_true.1 hall t hm
  rw[Bool.not_eq_true']at this;exact this
theorem topLosses_holds:Rows.TopLossesCardSaid:=
  Claim7.holds_tied_plain_at .later [] _ _ _ _ topLosses_holds_said (λ_ h=>by cases h) (by kernel_rfl) (λ_ h=>by cases h) topLosses_row_tie rfl ⟨rfl,rfl⟩ (by kernel_rfl) rfl topLosses_holds_plain (by kernel_rfl)

end Go.Proofs.YtjmpojlgegloeaaGreatDoor
