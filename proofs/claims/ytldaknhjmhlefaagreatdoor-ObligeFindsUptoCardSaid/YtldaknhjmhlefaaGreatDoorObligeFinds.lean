/- ObligeFinds returns true for every input. No condition but those of the row. -/
import Derived.Test.YtldaknhjmhlefaaGreatDoorCards
import Derived.Test.YtldaknhjmhlefaaGreatDoorTie
import Derived.Test.YtldaknhjmhlefaaGreatDoorQv
import Derived.ProofKit
import Derived.OpenShut
import Derived.JoinedCond
set_option maxHeartbeats 8000000
set_option linter.unusedSimpArgs false
set_option linter.unusedVariables false
set_option maxRecDepth 100000
namespace Go.Proofs.YtldaknhjmhlefaaGreatDoor
open Go Go.TL Go.ChangeShapes Go.WideShapes Go.RowKit Go.ChangeAt

theorem obligeFinds_holds_args {H:Type} (ds:List (DataW H)) (h:ds.length=Tryz.f8.params.toList.length):Rows.obligeFindsSpec.fn H ds={ results:=[.lit (.bool true)],args:=ds }:=by
  have h:ds.length=1:=h
  match ds,h with
  | [d0],_=>rfl
theorem obligeFinds_holds_true (ds:List D) (h:qFM Tryz.prog Tryz.f8.params.toList ds) (hb:(λds=>D.bulks ds≤1048576) ds):Ret Tryz.prog 8 [] (λ_=>false) (ds.map .d) (.d (.bool true)) []:=by
  have h:qFM Tryz.prog [25] ds:=h
  match ds,h with
  | [_],⟨⟨c0,_,t0,rfl⟩,_⟩=>
      obtain⟨x0,w0,e0⟩:=ty25 c0 t0
      have hb:D.bulks _≤1048576:=hb
      simp only [e0] at hb ⊢
      exact wD (qOX w0 hb)
theorem obligeFinds_holds_met (os:Os):laidMet Tryz.prog Rows.obligeFindsUptoRow.laid ((laidWorld os).forCall (λ_ _=>0) ⟨#[],#[Go.Value.agg #[Go.Value.slice Option.none 0 0,Go.Value.slice Option.none 0 0,Go.Value.slice Option.none 0 0,Go.Value.int Go.IntKind.i64 0,Go.Value.int Go.IntKind.i64 0]],[]⟩).memory:=
  laidMet_of_run' 8 (by kernel_rfl) (by kernel_rfl)
theorem obligeFinds_holds_reads (os:Os) {H:Type} (enc:TypeId×Value→H):∃ places,DataW.whole enc Tryz.prog ((laidWorld os).forCall (λ_ _=>0) ⟨#[],#[Go.Value.agg #[Go.Value.slice Option.none 0 0,Go.Value.slice Option.none 0 0,Go.Value.slice Option.none 0 0,Go.Value.int Go.IntKind.i64 0,Go.Value.int Go.IntKind.i64 0]],[]⟩).memory Tryz.f8.params.toList Rows.obligeFindsSpec.vars false #[Go.Value.agg #[Go.Value.slice Option.none 0 0,Go.Value.slice Option.none 0 0,Go.Value.slice Option.none 0 0,Go.Value.int Go.IntKind.i64 0,Go.Value.int Go.IntKind.i64 0]].toList 8=some ([.agg [.nil,.nil,.nil,.lit (.int .i64 0),.lit (.int .i64 0)]],[],places):=
  ⟨[],by kernel_rfl⟩
theorem obligeFinds_holds_lifted (os:Os) (started:os.Started) (H:Type) (enc:TypeId×Value→H) (F:Stop.Interp):
    ReturnsInHanded {} Tryz.checked os 8 .any ((Rows.OpenSpec.upto Rows.obligeFindsSpec).preRow enc Tryz.prog Tryz.f8 Rows.obligeFindsUptoRow.domain false Rows.obligeFindsUptoRow.laid) (((Rows.OpenSpec.upto Rows.obligeFindsSpec).at F).post enc Tryz.prog Tryz.f8 false true false false):=by
  obtain⟨places,hx⟩:=obligeFinds_holds_reads os enc
  exact qMH (fun ds => D.bulks ds ≤ 1048576) [25, 22, 88, 9, 3, 84, 177, 85, 148, 23, 86, 125] (s := Rows.obligeFindsSpec) (so := Rows.OpenSpec.upto Rows.obligeFindsSpec) (laidv := Rows.obligeFindsUptoRow.laid) (fun ds es h hb => Nat.le_trans hb (qOA (h _ rfl))) (fun h => h) rfl rfl (C := Tryz.checked) os own started zCB (by kernel_rfl) Tryz.func8
    (witness_row_at (enc := enc) (C := Tryz.checked) false (laidWorld os) #[Go.Value.agg #[Go.Value.slice Option.none 0 0, Go.Value.slice Option.none 0 0, Go.Value.slice Option.none 0 0, Go.Value.int Go.IntKind.i64 0, Go.Value.int Go.IntKind.i64 0]] rfl (by kernel_rfl) (by kernel_rfl) (by kernel_rfl)
      (OpenSpec.preRow_of_cond 8 hx (by kernel_rfl) (fun k hk => by cases hk; kernel_rfl) (by kernel_rfl) (obligeFinds_holds_met os))) (by kernel_rfl) rfl obligeFinds_holds_args obligeFinds_holds_true
theorem obligeFinds_holds_j0:(Rows.obligeFindsUptoRow.inPlace == Tryz.prog.inPlace 8)=true:=by kernel_rfl
theorem obligeFinds_holds_j1:(Rows.obligeFindsUptoRow.unfollowed == Tryz.prog.unfollowed 8)=true:=by kernel_rfl
theorem obligeFinds_holds_j2:(Rows.obligeFindsUptoRow.recurses == Tryz.prog.recurses 8)=true:=by kernel_rfl
theorem obligeFinds_holds_j3:(Rows.obligeFindsUptoRow.named == Tryz.prog.varsNamed 8)=true:=by kernel_rfl
theorem obligeFinds_holds_jf:joinedFacts Tryz.prog 8 Tryz.f8 (Rows.OpenSpec.upto Rows.obligeFindsSpec).bare Rows.obligeFindsUptoRow=true:=by
  unfold joinedFacts
  rw [obligeFinds_holds_j0,obligeFinds_holds_j1,obligeFinds_holds_j2,obligeFinds_holds_j3]
  kernel_rfl
theorem obligeFinds_holds_said:Rows.ObligeFindsUptoSaid:=
  OpenClaim.holds_of_cond 8 Tryz.f8 rfl rfl rfl rfl rfl rfl rfl ⟨rfl, rfl, rfl, rfl, rfl⟩ rfl rfl rfl rfl rfl (by kernel_rfl) Tryz.func8 obligeFinds_holds_jf
    (of_decide_eq_true (by kernel_rfl)) (by unfold Func.isWrapper;first|(rw [if_pos (by decide+kernel)];kernel_rfl)|(rw [if_neg (by decide+kernel)];exact⟨rfl,rfl⟩))
    (λos started H enc _ F=>by rw [OpenClaim.pre_eq_preRow];exact obligeFinds_holds_lifted os started H enc F)
theorem obligeFinds_holds_plain (f:FuncId) (fn:Func) (hf:Tryz.pinned.checked.prog.funcNamed Rows.obligeFindsUptoRow.func=some f) (hfn:Tryz.pinned.checked.prog.funcs[f]?=some fn):
    true=Tryz.pinned.checked.prog.looks []∧∀ (j:Nat) t,fn.params[j]?=some t→Tryz.pinned.checked.prog.wantsStandIn t=false:=by
  obtain rfl:f=8:=Option.some.inj ((show Tryz.prog.funcNamed Rows.obligeFindsUptoRow.func=some 8 by kernel_rfl).symm.trans hf) |>.symm
  obtain rfl:fn=Tryz.f8:=(Option.some.inj (Tryz.func8.symm.trans hfn)).symm
  refine⟨by kernel_rfl,λj t ht=>?_⟩
  have hm:t∈Tryz.f8.params.toList:=Array.mem_toList_iff.2 (Array.mem_of_getElem? ht)
  have hall:(Tryz.f8.params.toList.all λt=>!Tryz.prog.wantsStandIn t)=true:=by kernel_rfl
  have:=List.all_eq_true.1 hall t hm
  rw [Bool.not_eq_true'] at this;exact this
theorem obligeFinds_holds:Rows.ObligeFindsUptoCardSaid:=
  Claim7.holds_tied_plain_at .later [] _ _ _ _ obligeFinds_holds_said (λ_ h=>by cases h) (by kernel_rfl) (λ_ h=>by cases h) obligeFindsUpto_row_tie rfl ⟨rfl,rfl⟩ (by kernel_rfl) rfl obligeFinds_holds_plain (by kernel_rfl)

end Go.Proofs.YtldaknhjmhlefaaGreatDoor
