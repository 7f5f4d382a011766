/- ExploreReplays returns true for every input. No condition but those of the row. -/
import Derived.Test.YtciilodpnepdbaaDoorCards
import Derived.Test.YtciilodpnepdbaaDoorTie
import Derived.Test.YtciilodpnepdbaaDoorQu
import Derived.ProofKit
import Derived.OpenShut
import Derived.JoinedCond
set_option maxHeartbeats 8000000
set_option linter.unusedSimpArgs false
set_option linter.unusedVariables false
set_option maxRecDepth 100000
namespace Go.Proofs.YtciilodpnepdbaaDoor
open Go Go.TL Go.ChangeShapes Go.WideShapes Go.RowKit Go.ChangeAt

theorem exploreReplays_holds_args {H:Type} (ds:List (DataW H)) (h:ds.length=Tryd.f5.params.toList.length):Rows.exploreReplaysSpec.fn H ds={ results:=[.lit (.bool true)],args:=ds }:=by
  have h:ds.length=3:=h
  match ds,h with
  | [d0,d1,d2],_=>rfl
theorem exploreReplays_holds_true (ds:List D) (h:rK Tryd.prog Tryd.f5.params.toList ds) (hb:(λds=>D.bulks ds≤1048576) ds):Ret Tryd.prog 5 [] (λ_=>false) (ds.map .d) (.d (.bool true)) []:=by
  have h:rK Tryd.prog [25,27,30] ds:=h
  match ds,h with
  | [_,_,_],⟨⟨c0,_,t0,rfl⟩,⟨⟨c1,_,t1,rfl⟩,⟨⟨c2,_,t2,rfl⟩,_⟩⟩⟩=>
      obtain⟨x0,w0,e0⟩:=ty25 c0 t0
      obtain⟨x1,w1,e1⟩:=ty27 c1 t1
      obtain⟨x2,w2,e2⟩:=ty30 c2 t2
      have hb:D.bulks _≤1048576:=hb
      simp only [e0,e1,e2] at hb ⊢
      exact jS (rL w0 w1 w2 hb)
theorem exploreReplays_holds_met (os:Os):laidMet Tryd.prog Rows.exploreReplaysUptoRow.laid ((laidWorld os).forCall (λ_ _=>0) ⟨#[],#[Go.Value.agg #[Go.Value.slice Option.none 0 0,Go.Value.int Go.IntKind.i64 0,Go.Value.slice Option.none 0 0],Go.Value.slice Option.none 0 0,Go.Value.slice Option.none 0 0],[]⟩).memory:=
  laidMet_of_run' 8 (by kernel_rfl) (by kernel_rfl)
theorem exploreReplays_holds_reads (os:Os) {H:Type} (enc:TypeId×Value→H):∃ places,DataW.whole enc Tryd.prog ((laidWorld os).forCall (λ_ _=>0) ⟨#[],#[Go.Value.agg #[Go.Value.slice Option.none 0 0,Go.Value.int Go.IntKind.i64 0,Go.Value.slice Option.none 0 0],Go.Value.slice Option.none 0 0,Go.Value.slice Option.none 0 0],[]⟩).memory Tryd.f5.params.toList Rows.exploreReplaysSpec.vars false #[Go.Value.agg #[Go.Value.slice Option.none 0 0,Go.Value.int Go.IntKind.i64 0,Go.Value.slice Option.none 0 0],Go.Value.slice Option.none 0 0,Go.Value.slice Option.none 0 0].toList 8=some ([.agg [.nil,.lit (.int .i64 0),.nil],.nil,.nil],[],places):=
  ⟨[],by kernel_rfl⟩
theorem exploreReplays_holds_lifted (os:Os) (started:os.Started) (H:Type) (enc:TypeId×Value→H) (F:Stop.Interp):
    ReturnsInHanded {} Tryd.checked os 5 .any ((Rows.OpenSpec.upto Rows.exploreReplaysSpec).preRow enc Tryd.prog Tryd.f5 Rows.exploreReplaysUptoRow.domain false Rows.exploreReplaysUptoRow.laid) (((Rows.OpenSpec.upto Rows.exploreReplaysSpec).at F).post enc Tryd.prog Tryd.f5 false true false false):=by
  obtain⟨places,hx⟩:=exploreReplays_holds_reads os enc
  exact vV (fun ds => D.bulks ds ≤ 1048576) [25, 22, 9, 3, 23, 83, 52, 50, 27, 40, 4, 30] (s := Rows.exploreReplaysSpec) (so := Rows.OpenSpec.upto Rows.exploreReplaysSpec) (laidv := Rows.exploreReplaysUptoRow.laid) (fun ds es h hb => Nat.le_trans hb (wS (h _ rfl))) (fun h => h) rfl rfl (C := Tryd.checked) os own started qFI (by kernel_rfl) Tryd.func5
    (witness_row_at (enc := enc) (C := Tryd.checked) false (laidWorld os) #[Go.Value.agg #[Go.Value.slice Option.none 0 0, Go.Value.int Go.IntKind.i64 0, Go.Value.slice Option.none 0 0], Go.Value.slice Option.none 0 0, Go.Value.slice Option.none 0 0] rfl (by kernel_rfl) (by kernel_rfl) (by kernel_rfl)
      (OpenSpec.preRow_of_cond 8 hx (by kernel_rfl) (fun k hk => by cases hk; kernel_rfl) (by kernel_rfl) (exploreReplays_holds_met os))) (by kernel_rfl) rfl exploreReplays_holds_args exploreReplays_holds_true
theorem exploreReplays_holds_said:Rows.ExploreReplaysUptoSaid:=
  OpenClaim.holds_of_cond 5 Tryd.f5 rfl rfl rfl rfl rfl rfl rfl ⟨rfl, rfl, rfl, rfl, rfl⟩ rfl rfl rfl rfl rfl (by kernel_rfl) Tryd.func5 (by kernel_rfl)
    (of_decide_eq_true (by kernel_rfl)) (by unfold Func.isWrapper;first|(rw [if_pos (by decide+kernel)];kernel_rfl)|(rw [if_neg (by decide+kernel)];exact⟨rfl,rfl⟩))
    (λos started H enc _ F=>by rw [OpenClaim.pre_eq_preRow];exact exploreReplays_holds_lifted os started H enc F)
theorem exploreReplays_holds_plain (f:FuncId) (fn:Func) (hf:Tryd.pinned.checked.prog.funcNamed Rows.exploreReplaysUptoRow.func=some f) (hfn:Tryd.pinned.checked.prog.funcs[f]?=some fn):
    true=Tryd.pinned.checked.prog.looks []∧∀ (j:Nat) t,fn.params[j]?=some t→Tryd.pinned.checked.prog.wantsStandIn t=false:=by
  obtain rfl:f=5:=Option.some.inj ((show Tryd.prog.funcNamed Rows.exploreReplaysUptoRow.func=some 5 by kernel_rfl).symm.trans hf) |>.symm
  obtain rfl:fn=Tryd.f5:=(Option.some.inj (Tryd.func5.symm.trans hfn)).symm
  refine⟨by kernel_rfl,λj t ht=>?_⟩
  have hm:t∈Tryd.f5.params.toList:=Array.mem_toList_iff.2 (Array.mem_of_getElem? ht)
  have hall:(Tryd.f5.params.toList.all λt=>!Tryd.prog.wantsStandIn t)=true:=by kernel_rfl
  have:=List.all_eq_true.1 hall t hm
  rw [Bool.not_eq_true'] at this;exact this
theorem exploreReplays_holds:Rows.ExploreReplaysUptoCardSaid:=
  Claim7.holds_tied_plain_at .later [] _ _ _ _ exploreReplays_holds_said (λ_ h=>by cases h) (by kernel_rfl) (λ_ h=>by cases h) exploreReplaysUpto_row_tie rfl ⟨rfl,rfl⟩ (by kernel_rfl) rfl exploreReplays_holds_plain (by kernel_rfl)

end Go.Proofs.YtciilodpnepdbaaDoor
