/- SafetyChecks returns true for every input. No condition but those of the row. -/
import Derived.Test.YtofndjhpbonpbaaGreatDoorCards
import Derived.Test.YtofndjhpbonpbaaGreatDoorTie
import Derived.Test.YtofndjhpbonpbaaGreatDoorQu
import Derived.ProofKit
import Derived.OpenShut
import Derived.JoinedCond
set_option maxHeartbeats 8000000
set_option linter.unusedSimpArgs false
set_option linter.unusedVariables false
set_option maxRecDepth 100000
namespace Go.Proofs.YtofndjhpbonpbaaGreatDoor
open Go Go.TL Go.ChangeShapes Go.WideShapes Go.RowKit Go.ChangeAt

theorem safetyChecks_holds_args {H:Type} (ds:List (DataW H)) (h:ds.length=Tryz.f3.params.toList.length):Rows.safetyChecksSpec.fn H ds={ results:=[.lit (.bool true)],args:=ds }:=by
  have h:ds.length=1:=h
  match ds,h with
  | [d0],_=>rfl
theorem safetyChecks_holds_true (ds:List D) (h:qHR Tryz.prog Tryz.f3.params.toList ds) (hb:(λ_=>True) ds):Ret Tryz.prog 3 [] (λ_=>false) (ds.map .d) (.d (.bool true)) []:=by
  have h:qHR Tryz.prog [55] ds:=h
  match ds,h with
  | [_],⟨⟨c0,_,t0,rfl⟩,_⟩=>
      obtain⟨x0,w0,e0⟩:=ty55 c0 t0
      clear hb
      simp only [e0]
      exact vQ (qMZ w0)
theorem safetyChecks_holds_met (os:Os):laidMet Tryz.prog Rows.safetyChecksRow.laid ((laidWorld os).forCall (λ_ _=>0) ⟨#[],#[Go.Value.agg #[Go.Value.string { data:=#[] },Go.Value.slice Option.none 0 0,Go.Value.slice Option.none 0 0,Go.Value.slice Option.none 0 0,Go.Value.slice Option.none 0 0,Go.Value.slice Option.none 0 0,Go.Value.slice Option.none 0 0,Go.Value.slice Option.none 0 0,Go.Value.slice Option.none 0 0,Go.Value.int Go.IntKind.i64 0,Go.Value.int Go.IntKind.i64 0,Go.Value.slice Option.none 0 0,Go.Value.slice Option.none 0 0,Go.Value.slice Option.none 0 0,Go.Value.slice Option.none 0 0,Go.Value.slice Option.none 0 0,Go.Value.slice Option.none 0 0,Go.Value.slice Option.none 0 0,Go.Value.slice Option.none 0 0,Go.Value.slice Option.none 0 0,Go.Value.slice Option.none 0 0,Go.Value.slice Option.none 0 0,Go.Value.slice Option.none 0 0,Go.Value.slice Option.none 0 0,Go.Value.slice Option.none 0 0,Go.Value.slice Option.none 0 0,Go.Value.int Go.IntKind.i64 0,Go.Value.slice Option.none 0 0,Go.Value.slice Option.none 0 0,Go.Value.int Go.IntKind.i64 0]],[]⟩).memory:=
  laidMet_of_run' 8 (by kernel_rfl) (by kernel_rfl)
theorem safetyChecks_holds_reads (os:Os) {H:Type} (enc:TypeId×Value→H):∃ places,DataW.whole enc Tryz.prog ((laidWorld os).forCall (λ_ _=>0) ⟨#[],#[Go.Value.agg #[Go.Value.string { data:=#[] },Go.Value.slice Option.none 0 0,Go.Value.slice Option.none 0 0,Go.Value.slice Option.none 0 0,Go.Value.slice Option.none 0 0,Go.Value.slice Option.none 0 0,Go.Value.slice Option.none 0 0,Go.Value.slice Option.none 0 0,Go.Value.slice Option.none 0 0,Go.Value.int Go.IntKind.i64 0,Go.Value.int Go.IntKind.i64 0,Go.Value.slice Option.none 0 0,Go.Value.slice Option.none 0 0,Go.Value.slice Option.none 0 0,Go.Value.slice Option.none 0 0,Go.Value.slice Option.none 0 0,Go.Value.slice Option.none 0 0,Go.Value.slice Option.none 0 0,Go.Value.slice Option.none 0 0,Go.Value.slice Option.none 0 0,Go.Value.slice Option.none 0 0,Go.Value.slice Option.none 0 0,Go.Value.slice Option.none 0 0,Go.Value.slice Option.none 0 0,Go.Value.slice Option.none 0 0,Go.Value.slice Option.none 0 0,Go.Value.int Go.IntKind.i64 0,Go.Value.slice Option.none 0 0,Go.Value.slice Option.none 0 0,Go.Value.int Go.IntKind.i64 0]],[]⟩).memory Tryz.f3.params.toList Rows.safetyChecksSpec.vars false #[Go.Value.agg #[Go.Value.string { data:=#[] },Go.Value.slice Option.none 0 0,Go.Value.slice Option.none 0 0,Go.Value.slice Option.none 0 0,Go.Value.slice Option.none 0 0,Go.Value.slice Option.none 0 0,Go.Value.slice Option.none 0 0,Go.Value.slice Option.none 0 0,Go.Value.slice Option.none 0 0,Go.Value.int Go.IntKind.i64 0,Go.Value.int Go.IntKind.i64 0,Go.Value.slice Option.none 0 0,Go.Value.slice Option.none 0 0,Go.Value.slice Option.none 0 0,Go.Value.slice Option.none 0 0,Go.Value.slice Option.none 0 0,Go.Value.slice Option.none 0 0,Go.Value.slice Option.none 0 0,Go.Value.slice Option.none 0 0,Go.Value.slice Option.none 0 0,Go.Value.slice Option.none 0 0,Go.Value.slice Option.none 0 0,Go.Value.slice Option.none 0 0,Go.Value.slice Option.none 0 0,Go.Value.slice Option.none 0 0,Go.Value.slice Option.none 0 0,Go.Value.int Go.IntKind.i64 0,Go.Value.slice Option.none 0 0,Go.Value.slice Option.none 0 0,Go.Value.int Go.IntKind.i64 0]].toList 8=some ([.agg [.agg [.lit (.string []),.nil,.nil,.nil,.nil,.nil],.agg [.nil,.nil,.nil,.lit (.int .i64 0),.lit (.int .i64 0)],.agg [.nil,.nil],.nil,.nil,.nil,.agg [.nil,.nil],.nil,.nil,.nil,.nil,.nil,.nil,.nil,.agg [.nil,.lit (.int .i64 0)],.nil,.nil,.lit (.int .i64 0)]],[],places):=
  ⟨[],by kernel_rfl⟩
theorem safetyChecks_holds_lifted (os:Os) (started:os.Started) (H:Type) (enc:TypeId×Value→H) (F:Stop.Interp):
    ReturnsInHanded {} Tryz.checked os 3 .any ((OpenSpec.ofChange Rows.safetyChecksSpec).preRow enc Tryz.prog Tryz.f3 Rows.safetyChecksRow.domain false Rows.safetyChecksRow.laid) (((OpenSpec.ofChange Rows.safetyChecksSpec).at F).post enc Tryz.prog Tryz.f3 false true false false):=by
  obtain⟨places,hx⟩:=safetyChecks_holds_reads os enc
  exact qPP (fun _ => True) [55, 28, 9, 22, 23, 151, 3, 24, 153, 147, 25, 149, 26, 182, 32, 29, 113, 77, 106, 110, 126, 30, 111, 35, 33, 158, 36, 129, 37, 4, 38, 81, 79, 76, 64, 66, 70, 67, 332, 68, 334, 72, 74, 42, 39, 115, 40, 43, 89, 44, 320, 45, 322, 46, 324, 47, 326, 48, 328, 49, 87, 85, 135, 52, 50, 53, 330] (s := Rows.safetyChecksSpec) (so := OpenSpec.ofChange Rows.safetyChecksSpec) (laidv := Rows.safetyChecksRow.laid) (fun _ _ _ _ => trivial) (fun h => h) rfl rfl (C := Tryz.checked) os own started zEE (by kernel_rfl) Tryz.func3
    (witness_row_at (enc := enc) (C := Tryz.checked) false (laidWorld os) #[Go.Value.agg #[Go.Value.string { data := #[] }, Go.Value.slice Option.none 0 0, Go.Value.slice Option.none 0 0, Go.Value.slice Option.none 0 0, Go.Value.slice Option.none 0 0, Go.Value.slice Option.none 0 0, Go.Value.slice Option.none 0 0, Go.Value.slice Option.none 0 0, Go.Value.slice Option.none 0 0, Go.Value.int Go.IntKind.i64 0, Go.Value.int Go.IntKind.i64 0, Go.Value.slice Option.none 0 0, Go.Value.slice Option.none 0 0, Go.Value.slice Option.none 0 0, Go.Value.slice Option.none 0 0, Go.Value.slice Option.none 0 0, Go.Value.slice Option.none 0 0, Go.Value.slice Option.none 0 0, Go.Value.slice Option.none 0 0, Go.Value.slice Option.none 0 0, Go.Value.slice Option.none 0 0, Go.Value.slice Option.none 0 0, Go.Value.slice Option.none 0 0, Go.Value.slice Option.none 0 0, Go.Value.slice Option.none 0 0, Go.Value.slice Option.none 0 0, Go.Value.int Go.IntKind.i64 0, Go.Value.slice Option.none 0 0, Go.Value.slice Option.none 0 0, Go.Value.int Go.IntKind.i64 0]] rfl (by kernel_rfl) (by kernel_rfl) (by kernel_rfl)
      (OpenSpec.preRow_of_cond 8 hx (by kernel_rfl) (fun k hk => by cases hk) (by kernel_rfl) (safetyChecks_holds_met os))) (by kernel_rfl) rfl safetyChecks_holds_args safetyChecks_holds_true qXM
theorem safetyChecks_holds_j0:(Rows.safetyChecksRow.inPlace == Tryz.prog.inPlace 3)=true:=by kernel_rfl
theorem safetyChecks_holds_j1:(Rows.safetyChecksRow.unfollowed == Tryz.prog.unfollowed 3)=true:=by kernel_rfl
theorem safetyChecks_holds_j2:(Rows.safetyChecksRow.recurses == Tryz.prog.recurses 3)=true:=by kernel_rfl
theorem safetyChecks_holds_j3:(Rows.safetyChecksRow.named == Tryz.prog.varsNamed 3)=true:=by kernel_rfl
theorem safetyChecks_holds_jf:joinedFacts Tryz.prog 3 Tryz.f3 (OpenSpec.ofChange Rows.safetyChecksSpec).bare Rows.safetyChecksRow=true:=by
  unfold joinedFacts
  rw [safetyChecks_holds_j0,safetyChecks_holds_j1,safetyChecks_holds_j2,safetyChecks_holds_j3]
  kernel_rfl
theorem safetyChecks_holds_said:Rows.SafetyChecksSaid:=
  OpenClaim.holds_of_cond 3 Tryz.f3 rfl rfl rfl rfl rfl rfl rfl ⟨rfl, rfl, rfl, rfl, rfl⟩ rfl rfl rfl rfl rfl (by kernel_rfl) Tryz.func3 safetyChecks_holds_jf
    (of_decide_eq_true (by kernel_rfl)) (by unfold Func.isWrapper;first|(rw [if_pos (by decide+kernel)];kernel_rfl)|(rw [if_neg (by decide+kernel)];exact⟨rfl,rfl⟩))
    (λos started H enc _ F=>by rw [OpenClaim.pre_eq_preRow];exact safetyChecks_holds_lifted os started H enc F)
theorem safetyChecks_holds_plain (f:FuncId) (fn:Func) (hf:Tryz.pinned.checked.prog.funcNamed Rows.safetyChecksRow.func=some f) (hfn:Tryz.pinned.checked.prog.funcs[f]?=some fn):
    false=Tryz.pinned.checked.prog.looks []∧∀ (j:Nat) t,fn.params[j]?=some t→Tryz.pinned.checked.prog.wantsStandIn t=false:=by
  obtain rfl:f=3:=Option.some.inj ((show Tryz.prog.funcNamed Rows.safetyChecksRow.func=some 3 by kernel_rfl).symm.trans hf) |>.symm
  obtain rfl:fn=Tryz.f3:=(Option.some.inj (Tryz.func3.symm.trans hfn)).symm
  refine⟨by kernel_rfl,λj t ht=>?_⟩
  have hm:t∈Tryz.f3.params.toList:=Array.mem_toList_iff.2 (Array.mem_of_getElem? ht)
  have hall:(Tryz.f3.params.toList.all λt=>!Tryz.prog.wantsStandIn t)=true:=by kernel_rfl
  have:=List.all_eq_true.1 hall t hm
  rw [Bool.not_eq_true'] at this;exact this
theorem safetyChecks_holds:Rows.SafetyChecksCardSaid:=
  Claim7.holds_tied_plain_at .later [] _ _ _ _ safetyChecks_holds_said (λ_ h=>by cases h) (by kernel_rfl) (λ_ h=>by cases h) safetyChecks_row_tie rfl ⟨rfl,rfl⟩ (by kernel_rfl) rfl safetyChecks_holds_plain (by kernel_rfl)

end Go.Proofs.YtofndjhpbonpbaaGreatDoor
