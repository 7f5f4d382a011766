/- ObligeChecks returns true for every input. No condition but those of the row. -/
import Derived.Test.YtldaknhjmhlefaaGreatDoorCards
import Derived.Test.YtldaknhjmhlefaaGreatDoorTie
import Derived.Test.YtldaknhjmhlefaaGreatDoorQu
import Derived.ProofKit
import Derived.OpenShut
import Derived.JoinedCond
set_option maxHeartbeats 8000000
set_option linter.unusedSimpArgs false
set_option linter.unusedVariables false
set_option maxRecDepth 100000
namespace Go.Proofs.YtldaknhjmhlefaaGreatDoor
open Go Go.TL Go.ChangeShapes Go.WideShapes Go.RowKit Go.ChangeAt

theorem obligeChecks_holds_args {H:Type} (ds:List (DataW H)) (h:ds.length=Tryz.f4.params.toList.length):Rows.obligeChecksSpec.fn H ds={ results:=[.lit (.bool true)],args:=ds }:=by
  have h:ds.length=2:=h
  match ds,h with
  | [d0,d1],_=>rfl
theorem obligeChecks_holds_true (ds:List D) (h:xO Tryz.prog Tryz.f4.params.toList ds) (hb:(λds=>D.bulks ds≤1048576) ds):Ret Tryz.prog 4 [] (λ_=>false) (ds.map .d) (.d (.bool true)) []:=by
  have h:xO Tryz.prog [29,47] ds:=h
  match ds,h with
  | [_,_],⟨⟨c0,_,t0,rfl⟩,⟨⟨c1,_,t1,rfl⟩,_⟩⟩=>
      obtain⟨x0,w0,e0⟩:=ty29 c0 t0
      obtain⟨x1,w1,e1⟩:=ty47 c1 t1
      have hb:D.bulks _≤1048576:=hb
      simp only [e0,e1] at hb ⊢
      exact qE (qBZ w0 w1 hb)
theorem obligeChecks_holds_met (os:Os):laidMet Tryz.prog Rows.obligeChecksUptoRow.laid ((laidWorld os).forCall (λ_ _=>0) ⟨#[],#[Go.Value.slice Option.none 0 0,Go.Value.agg #[Go.Value.slice Option.none 0 0,Go.Value.slice Option.none 0 0,Go.Value.bool Bool.false]],[]⟩).memory:=
  laidMet_of_run' 8 (by kernel_rfl) (by kernel_rfl)
theorem obligeChecks_holds_reads (os:Os) {H:Type} (enc:TypeId×Value→H):∃ places,DataW.whole enc Tryz.prog ((laidWorld os).forCall (λ_ _=>0) ⟨#[],#[Go.Value.slice Option.none 0 0,Go.Value.agg #[Go.Value.slice Option.none 0 0,Go.Value.slice Option.none 0 0,Go.Value.bool Bool.false]],[]⟩).memory Tryz.f4.params.toList Rows.obligeChecksSpec.vars false #[Go.Value.slice Option.none 0 0,Go.Value.agg #[Go.Value.slice Option.none 0 0,Go.Value.slice Option.none 0 0,Go.Value.bool Bool.false]].toList 8=some ([.nil,.agg [.nil,.nil,.lit (.bool false)]],[],places):=
  ⟨[],by kernel_rfl⟩
theorem obligeChecks_holds_lifted (os:Os) (started:os.Started) (H:Type) (enc:TypeId×Value→H) (F:Stop.Interp):
    ReturnsInHanded {} Tryz.checked os 4 .any ((Rows.OpenSpec.upto Rows.obligeChecksSpec).preRow enc Tryz.prog Tryz.f4 Rows.obligeChecksUptoRow.domain false Rows.obligeChecksUptoRow.laid) (((Rows.OpenSpec.upto Rows.obligeChecksSpec).at F).post enc Tryz.prog Tryz.f4 false true false false):=by
  obtain⟨places,hx⟩:=obligeChecks_holds_reads os enc
  exact qCC (fun ds => D.bulks ds ≤ 1048576) [29, 42, 9, 40, 3, 38, 47, 36, 4, 23] (s := Rows.obligeChecksSpec) (so := Rows.OpenSpec.upto Rows.obligeChecksSpec) (laidv := Rows.obligeChecksUptoRow.laid) (fun ds es h hb => Nat.le_trans hb (qDG (h _ rfl))) (fun h => h) rfl rfl (C := Tryz.checked) os own started qNU (by kernel_rfl) Tryz.func4
    (witness_row_at (enc := enc) (C := Tryz.checked) false (laidWorld os) #[Go.Value.slice Option.none 0 0, Go.Value.agg #[Go.Value.slice Option.none 0 0, Go.Value.slice Option.none 0 0, Go.Value.bool Bool.false]] rfl (by kernel_rfl) (by kernel_rfl) (by kernel_rfl)
      (OpenSpec.preRow_of_cond 8 hx (by kernel_rfl) (fun k hk => by cases hk; kernel_rfl) (by kernel_rfl) (obligeChecks_holds_met os))) (by kernel_rfl) rfl obligeChecks_holds_args obligeChecks_holds_true
theorem obligeChecks_holds_said:Rows.ObligeChecksUptoSaid:=
  OpenClaim.holds_of_cond 4 Tryz.f4 rfl rfl rfl rfl rfl rfl rfl ⟨rfl, rfl, rfl, rfl, rfl⟩ rfl rfl rfl rfl rfl (by kernel_rfl) Tryz.func4 (by kernel_rfl)
    (of_decide_eq_true (by kernel_rfl)) (by unfold Func.isWrapper;first|(rw [if_pos (by decide+kernel)];kernel_rfl)|(rw [if_neg (by decide+kernel)];exact⟨rfl,rfl⟩))
    (λos started H enc _ F=>by rw [OpenClaim.pre_eq_preRow];exact obligeChecks_holds_lifted os started H enc F)
theorem obligeChecks_holds_plain (f:FuncId) (fn:Func) (hf:Tryz.pinned.checked.prog.funcNamed Rows.obligeChecksUptoRow.func=some f) (hfn:Tryz.pinned.checked.prog.funcs[f]?=some fn):
    true=Tryz.pinned.checked.prog.looks []∧∀ (j:Nat) t,fn.params[j]?=some t→Tryz.pinned.checked.prog.wantsStandIn t=false:=by
  obtain rfl:f=4:=Option.some.inj ((show Tryz.prog.funcNamed Rows.obligeChecksUptoRow.func=some 4 by kernel_rfl).symm.trans hf) |>.symm
  obtain rfl:fn=Tryz.f4:=(Option.some.inj (Tryz.func4.symm.trans hfn)).symm
  refine⟨by kernel_rfl,λj t ht=>?_⟩
  have hm:t∈Tryz.f4.params.toList:=Array.mem_toList_iff.2 (Array.mem_of_getElem? ht)
  have hall:(Tryz.f4.params.toList.all λt=>!Tryz.prog.wantsStandIn t)=true:=by kernel_rfl
  have:=List.all_eq_true.1 hall t hm
  rw [Bool.not_eq_true'] at this;exact this
theorem obligeChecks_holds:Rows.ObligeChecksUptoCardSaid:=
  Claim7.holds_tied_plain_at .later [] _ _ _ _ obligeChecks_holds_said (λ_ h=>by cases h) (by kernel_rfl) (λ_ h=>by cases h) obligeChecksUpto_row_tie rfl ⟨rfl,rfl⟩ (by kernel_rfl) rfl obligeChecks_holds_plain (by kernel_rfl)

end Go.Proofs.YtldaknhjmhlefaaGreatDoor
