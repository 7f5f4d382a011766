/- ObligeHold returns true for every input. No condition but those of the row. -/
import Derived.Test.YtldaknhjmhlefaaGreatDoorCards
import Derived.Test.YtldaknhjmhlefaaGreatDoorTie
import Derived.Test.YtldaknhjmhlefaaGreatDoorQg
import Derived.ProofKit
import Derived.OpenShut
import Derived.JoinedCond
set_option maxHeartbeats 8000000
set_option linter.unusedSimpArgs false
set_option linter.unusedVariables false
set_option maxRecDepth 100000
namespace Go.Proofs.YtldaknhjmhlefaaGreatDoor
open Go Go.TL Go.ChangeShapes Go.WideShapes Go.RowKit Go.ChangeAt

theorem obligeHold_holds_args {H:Type} (ds:List (DataW H)) (h:ds.length=Tryz.f7.params.toList.length):Rows.obligeHoldSpec.fn H ds={ results:=[.lit (.bool true)],args:=ds }:=by
  have h:ds.length=2:=h
  match ds,h with
  |[d0,d1],_=>rfl
theorem obligeHold_holds_true (ds:List D) (h:Js Tryz.prog Tryz.f7.params.toList ds) (hb:(λds=>D.bulks ds≤1048576) ds):Ret Tryz.prog 7 [] (λ_=>false) (ds.map .d) (.d (.bool true)) []:=by
  have h:Js Tryz.prog [71,72] ds:=h
  match ds,h with
  |[_,_],⟨⟨c0,_,t0,rfl⟩,⟨⟨c1,_,t1,rfl⟩,_⟩⟩=>
      obtain⟨x0,w0,e0⟩:=ty71 c0 t0
      obtain⟨x1,w1,e1⟩:=ty72 c1 t1
      have hb:D.bulks _≤1048576:=hb
      simp only[e0,e1]at hb⊢
      exact zz (qBI w0 w1 hb)
theorem obligeHold_holds_met (os:Os):laidMet Tryz.prog Rows.obligeHoldUptoRow.laid ((laidWorld os).forCall (λ_ _=>0) ⟨#[],#[Go.Value.agg #[Go.Value.string { data:=#[] },Go.Value.slice Option.none 0 0,Go.Value.slice Option.none 0 0,Go.Value.slice Option.none 0 0,Go.Value.slice Option.none 0 0,Go.Value.slice Option.none 0 0],Go.Value.slice Option.none 0 0],[]⟩).memory:=
  laidMet_of_run' 8 (by kernel_rfl) (by kernel_rfl)
theorem obligeHold_holds_reads (os:Os) {H:Type} (enc:TypeId×Value→H):∃places,DataW.whole enc Tryz.prog ((laidWorld os).forCall (λ_ _=>0) ⟨#[],#[Go.Value.agg #[Go.Value.string { data:=#[] },Go.Value.slice Option.none 0 0,Go.Value.slice Option.none 0 0,Go.Value.slice Option.none 0 0,Go.Value.slice Option.none 0 0,Go.Value.slice Option.none 0 0],Go.Value.slice Option.none 0 0],[]⟩).memory Tryz.f7.params.toList Rows.obligeHoldSpec.vars false #[Go.Value.agg #[Go.Value.string { data:=#[] },Go.Value.slice Option.none 0 0,Go.Value.slice Option.none 0 0,Go.Value.slice Option.none 0 0,Go.Value.slice Option.none 0 0,Go.Value.slice Option.none 0 0],Go.Value.slice Option.none 0 0].toList 8=some ([.agg [.lit (.string []),.nil,.nil,.nil,.nil,.nil],.nil],[],places):=
  ⟨[],by kernel_rfl⟩
theorem obligeHold_holds_lifted (os:Os) (started:os.Started) (H:Type) (enc:TypeId×Value→H) (F:Stop.Interp):
    ReturnsInHanded {} Tryz.checked os 7 .any ((Rows.OpenSpec.upto Rows.obligeHoldSpec).preRow enc Tryz.prog Tryz.f7 Rows.obligeHoldUptoRow.domain false Rows.obligeHoldUptoRow.laid) (((Rows.OpenSpec.upto Rows.obligeHoldSpec).at F).post enc Tryz.prog Tryz.f7 false true false false):=by
  obtain⟨places,hx⟩:=obligeHold_holds_reads os enc
  exact Vj (fun ds => D.bulks ds ≤ 1048576) [71, 9, 51, 66, 123, 3, 67, 127, 125, 68, 129, 69, 242, 72, 80, 36, 4, 23] (s := Rows.obligeHoldSpec) (so := Rows.OpenSpec.upto Rows.obligeHoldSpec) (laidv := Rows.obligeHoldUptoRow.laid) (fun ds es h hb => Nat.le_trans hb (W8 (h _ rfl))) (fun h => h) rfl rfl (C := Tryz.checked) os own started laidOut (by kernel_rfl) Tryz.func7
    (witness_row_at (enc := enc) (C := Tryz.checked) false (laidWorld os) #[Go.Value.agg #[Go.Value.string { data := #[] }, Go.Value.slice Option.none 0 0, Go.Value.slice Option.none 0 0, Go.Value.slice Option.none 0 0, Go.Value.slice Option.none 0 0, Go.Value.slice Option.none 0 0], Go.Value.slice Option.none 0 0] rfl (by kernel_rfl) (by kernel_rfl) (by kernel_rfl)
      (OpenSpec.preRow_of_cond 8 hx (by kernel_rfl) (λk hk=>by cases hk;kernel_rfl) (by kernel_rfl) (obligeHold_holds_met os))) (by kernel_rfl) rfl obligeHold_holds_args obligeHold_holds_true
theorem obligeHold_holds_j0:(Rows.obligeHoldUptoRow.inPlace == Tryz.prog.inPlace 7)=true:=by kernel_rfl
theorem obligeHold_holds_j1:(Rows.obligeHoldUptoRow.unfollowed == Tryz.prog.unfollowed 7)=true:=by kernel_rfl
theorem obligeHold_holds_j2:(Rows.obligeHoldUptoRow.recurses == Tryz.prog.recurses 7)=true:=by kernel_rfl
theorem obligeHold_holds_j3:(Rows.obligeHoldUptoRow.named == Tryz.prog.varsNamed 7)=true:=by kernel_rfl
theorem obligeHold_holds_jf:joinedFacts Tryz.prog 7 Tryz.f7 (Rows.OpenSpec.upto Rows.obligeHoldSpec).bare Rows.obligeHoldUptoRow=true:=by
  unfold joinedFacts
  rw[obligeHold_holds_j0,obligeHold_holds_j1,obligeHold_holds_j2,obligeHold_holds_j3]
  kernel_rfl
theorem obligeHold_holds_said:Rows.ObligeHoldUptoSaid:=
  OpenClaim.holds_of_cond 7 Tryz.f7 rfl rfl rfl rfl rfl rfl rfl ⟨rfl, rfl, rfl, rfl, rfl⟩ rfl rfl rfl rfl rfl (by kernel_rfl) Tryz.func7 obligeHold_holds_jf
    (of_decide_eq_true (by kernel_rfl)) (by unfold Func.isWrapper;first|(rw[if_pos (by decide+kernel)];kernel_rfl)|(rw[if_neg (by decide+kernel)];exact⟨rfl,rfl⟩))
    (λos started H enc _ F=>by rw[OpenClaim.pre_eq_preRow];exact obligeHold_holds_lifted os started H enc F)
theorem obligeHold_holds_plain (f:FuncId) (fn:Func) (hf:Tryz.pinned.checked.prog.funcNamed Rows.obligeHoldUptoRow.func=some f) (hfn:Tryz.pinned.checked.prog.funcs[f]?=some fn):
    true=Tryz.pinned.checked.prog.looks []∧∀(j:Nat) t,fn.params[j]?=some t→Tryz.pinned.checked.prog.wantsStandIn t=false:=by
  obtain rfl:f=7:=Option.some.inj ((show Tryz.prog.funcNamed Rows.obligeHoldUptoRow.func=some 7 by kernel_rfl).symm.trans hf) |>.symm
  obtain rfl:fn=Tryz.f7:=(Option.some.inj (Tryz.func7.symm.trans hfn)).symm
  refine⟨by kernel_rfl,λj t ht=>?_⟩
  have hm:t∈Tryz.f7.params.toList:=Array.mem_toList_iff.2 (Array.mem_of_getElem? ht)
  have hall:(Tryz.f7.params.toList.all λt=>!Tryz.prog.wantsStandIn t)=true:=by kernel_rfl
  have:=List.all_eq_true.1 hall t hm
  rw[Bool.not_eq_true']at this;exact this
theorem obligeHold_holds:Rows.ObligeHoldUptoCardSaid:=
  Claim7.holds_tied_plain_at .later [] _ _ _ _ obligeHold_holds_said (λ_ h=>by cases h) (by kernel_rfl) (λ_ h=>by cases h) obligeHoldUpto_row_tie rfl ⟨rfl,rfl⟩ (by kernel_rfl) rfl obligeHold_holds_plain (by kernel_rfl)

end Go.Proofs.YtldaknhjmhlefaaGreatDoor
