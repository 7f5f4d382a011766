/- ExploreShortest returns true for every input. No condition but those of the row. -/
import Derived.Test.YtciilodpnepdbaaDoorCards
import Derived.Test.YtciilodpnepdbaaDoorTie
import Derived.Test.YtciilodpnepdbaaDoorQv
import Derived.ProofKit
import Derived.OpenShut
import Derived.JoinedCond
set_option maxHeartbeats 8000000
set_option linter.unusedSimpArgs false
set_option linter.unusedVariables false
set_option maxRecDepth 100000
namespace Go.Proofs.YtciilodpnepdbaaDoor
open Go Go.TL Go.ChangeShapes Go.WideShapes Go.RowKit Go.ChangeAt

theorem exploreShortest_holds_args {H:Type} (ds:List (DataW H)) (h:ds.length=Tryd.f6.params.toList.length):Rows.exploreShortestSpec.fn H ds={ results:=[.lit (.bool true)],args:=ds }:=by
  have h:ds.length=4:=h
  match ds,h with
  | [d0,d1,d2,d3],_=>rfl
theorem exploreShortest_holds_true (ds:List D) (h:rU Tryd.prog Tryd.f6.params.toList ds) (hb:(λds=>D.bulks ds≤1048576) ds):Ret Tryd.prog 6 [] (λ_=>false) (ds.map .d) (.d (.bool true)) []:=by
  have h:rU Tryd.prog [25,26,27,3] ds:=h
  match ds,h with
  | [_,_,_,_],⟨⟨c0,_,t0,rfl⟩,⟨⟨c1,_,t1,rfl⟩,⟨⟨c2,_,t2,rfl⟩,⟨⟨c3,_,t3,rfl⟩,_⟩⟩⟩⟩=>
      obtain⟨x0,w0,e0⟩:=ty25 c0 t0
      obtain⟨x1,w1,e1⟩:=ty26 c1 t1
      obtain⟨x2,w2,e2⟩:=ty27 c2 t2
      obtain⟨x3,w3,e3⟩:=ty3 c3 t3
      have hb:D.bulks _≤1048576:=hb
      simp only [e0,e1,e2,e3] at hb ⊢
      exact iW (qD w0 w1 w2 w3 hb)
theorem exploreShortest_holds_met (os:Os):laidMet Tryd.prog Rows.exploreShortestUptoRow.laid ((laidWorld os).forCall (λ_ _=>0) ⟨#[],#[Go.Value.agg #[Go.Value.slice Option.none 0 0,Go.Value.int Go.IntKind.i64 0,Go.Value.slice Option.none 0 0],Go.Value.slice Option.none 0 0,Go.Value.slice Option.none 0 0,Go.Value.int Go.IntKind.i64 0],[]⟩).memory:=
  laidMet_of_run' 8 (by kernel_rfl) (by kernel_rfl)
theorem exploreShortest_holds_reads (os:Os) {H:Type} (enc:TypeId×Value→H):∃ places,DataW.whole enc Tryd.prog ((laidWorld os).forCall (λ_ _=>0) ⟨#[],#[Go.Value.agg #[Go.Value.slice Option.none 0 0,Go.Value.int Go.IntKind.i64 0,Go.Value.slice Option.none 0 0],Go.Value.slice Option.none 0 0,Go.Value.slice Option.none 0 0,Go.Value.int Go.IntKind.i64 0],[]⟩).memory Tryd.f6.params.toList Rows.exploreShortestSpec.vars false #[Go.Value.agg #[Go.Value.slice Option.none 0 0,Go.Value.int Go.IntKind.i64 0,Go.Value.slice Option.none 0 0],Go.Value.slice Option.none 0 0,Go.Value.slice Option.none 0 0,Go.Value.int Go.IntKind.i64 0].toList 8=some ([.agg [.nil,.lit (.int .i64 0),.nil],.nil,.nil,.lit (.int .i64 0)],[],places):=
  ⟨[],by kernel_rfl⟩
theorem exploreShortest_holds_lifted (os:Os) (started:os.Started) (H:Type) (enc:TypeId×Value→H) (F:Stop.Interp):
    ReturnsInHanded {} Tryd.checked os 6 .any ((Rows.OpenSpec.upto Rows.exploreShortestSpec).preRow enc Tryd.prog Tryd.f6 Rows.exploreShortestUptoRow.domain false Rows.exploreShortestUptoRow.laid) (((Rows.OpenSpec.upto Rows.exploreShortestSpec).at F).post enc Tryd.prog Tryd.f6 false true false false):=by
  obtain⟨places,hx⟩:=exploreShortest_holds_reads os enc
  exact wL (fun ds => D.bulks ds ≤ 1048576) [25, 22, 9, 3, 23, 83, 52, 50, 26, 54, 27, 40, 4] (s := Rows.exploreShortestSpec) (so := Rows.OpenSpec.upto Rows.exploreShortestSpec) (laidv := Rows.exploreShortestUptoRow.laid) (fun ds es h hb => Nat.le_trans hb (xO (h _ rfl))) (fun h => h) rfl rfl (C := Tryd.checked) os own started qHU (by kernel_rfl) Tryd.func6
    (witness_row_at (enc := enc) (C := Tryd.checked) false (laidWorld os) #[Go.Value.agg #[Go.Value.slice Option.none 0 0, Go.Value.int Go.IntKind.i64 0, Go.Value.slice Option.none 0 0], Go.Value.slice Option.none 0 0, Go.Value.slice Option.none 0 0, Go.Value.int Go.IntKind.i64 0] rfl (by kernel_rfl) (by kernel_rfl) (by kernel_rfl)
      (OpenSpec.preRow_of_cond 8 hx (by kernel_rfl) (fun k hk => by cases hk; kernel_rfl) (by kernel_rfl) (exploreShortest_holds_met os))) (by kernel_rfl) rfl exploreShortest_holds_args exploreShortest_holds_true
theorem exploreShortest_holds_said:Rows.ExploreShortestUptoSaid:=
  OpenClaim.holds_of_cond 6 Tryd.f6 rfl rfl rfl rfl rfl rfl rfl ⟨rfl, rfl, rfl, rfl, rfl⟩ rfl rfl rfl rfl rfl (by kernel_rfl) Tryd.func6 (by kernel_rfl)
    (of_decide_eq_true (by kernel_rfl)) (by unfold Func.isWrapper;first|(rw [if_pos (by decide+kernel)];kernel_rfl)|(rw [if_neg (by decide+kernel)];exact⟨rfl,rfl⟩))
    (λos started H enc _ F=>by rw [OpenClaim.pre_eq_preRow];exact exploreShortest_holds_lifted os started H enc F)
theorem exploreShortest_holds_plain (f:FuncId) (fn:Func) (hf:Tryd.pinned.checked.prog.funcNamed Rows.exploreShortestUptoRow.func=some f) (hfn:Tryd.pinned.checked.prog.funcs[f]?=some fn):
    true=Tryd.pinned.checked.prog.looks []∧∀ (j:Nat) t,fn.params[j]?=some t→Tryd.pinned.checked.prog.wantsStandIn t=false:=by
  obtain rfl:f=6:=Option.some.inj ((show Tryd.prog.funcNamed Rows.exploreShortestUptoRow.func=some 6 by kernel_rfl).symm.trans hf) |>.symm
  obtain rfl:fn=Tryd.f6:=(Option.some.inj (Tryd.func6.symm.trans hfn)).symm
  refine⟨by kernel_rfl,λj t ht=>?_⟩
  have hm:t∈Tryd.f6.params.toList:=Array.mem_toList_iff.2 (Array.mem_of_getElem? ht)
  have hall:(Tryd.f6.params.toList.all λt=>!Tryd.prog.wantsStandIn t)=true:=by kernel_rfl
  have:=List.all_eq_true.1 hall t hm
  rw [Bool.not_eq_true'] at this;exact this
theorem exploreShortest_holds:Rows.ExploreShortestUptoCardSaid:=
  Claim7.holds_tied_plain_at .later [] _ _ _ _ exploreShortest_holds_said (λ_ h=>by cases h) (by kernel_rfl) (λ_ h=>by cases h) exploreShortestUpto_row_tie rfl ⟨rfl,rfl⟩ (by kernel_rfl) rfl exploreShortest_holds_plain (by kernel_rfl)

end Go.Proofs.YtciilodpnepdbaaDoor
