/- CompileInputs returns true for every input. No condition but those of the row. -/
import Derived.Test.YtcagmechagiclaaGreatDoorCards
import Derived.Test.YtcagmechagiclaaGreatDoorTie
import Derived.Test.YtcagmechagiclaaGreatDoorQs
import Derived.ProofKit
import Derived.OpenShut
import Derived.JoinedCond
set_option maxHeartbeats 8000000
set_option linter.unusedSimpArgs false
set_option linter.unusedVariables false
set_option maxRecDepth 100000
namespace Go.Proofs.YtcagmechagiclaaGreatDoor
open Go Go.TL Go.ChangeShapes Go.WideShapes Go.RowKit Go.ChangeAt

theorem compileInputs_holds_args {H : Type} (ds : List (DataW H)) (h : ds.length = Tryz.f4.params.toList.length) : Rows.compileInputsSpec.fn H ds = { results := [.lit (.bool true)], args := ds } := by
  have h : ds.length = 2 := h
  match ds, h with
  | [d0, d1], _ => rfl
theorem compileInputs_holds_true (ds : List D) (h : ArgsOk Tryz.prog Tryz.f4.params.toList ds) (hb : (fun _ => True) ds) : Ret Tryz.prog 4 [] (fun _ => false) (ds.map .d) (.d (.bool true)) [] := by
  have h : ArgsOk Tryz.prog [25, 43] ds := h
  match ds, h with
  | [_, _], ⟨⟨c0, _, t0, rfl⟩, ⟨⟨c1, _, t1, rfl⟩, _⟩⟩ =>
      obtain ⟨x0, w0, e0⟩ := ty25 c0 t0
      obtain ⟨x1, w1, e1⟩ := ty43 c1 t1
      clear hb
      simp only [e0, e1]
      exact law24_CompileInputs_w (inputs_law w0 w1)
theorem compileInputs_holds_met (os : Os) : laidMet Tryz.prog Rows.compileInputsRow.laid ((laidWorld os).forCall (fun _ _ => 0) ⟨#[], #[Go.Value.agg #[Go.Value.slice Option.none 0 0, Go.Value.slice Option.none 0 0, Go.Value.slice Option.none 0 0, Go.Value.int Go.IntKind.i64 0, Go.Value.int Go.IntKind.i64 0], Go.Value.agg #[Go.Value.slice Option.none 0 0, Go.Value.slice Option.none 0 0, Go.Value.slice Option.none 0 0, Go.Value.slice Option.none 0 0, Go.Value.slice Option.none 0 0, Go.Value.slice Option.none 0 0, Go.Value.slice Option.none 0 0]], []⟩).memory :=
  laidMet_of_run' 8 (by kernel_rfl) (by kernel_rfl)
theorem compileInputs_holds_reads (os : Os) {H : Type} (enc : TypeId × Value → H) : ∃ places, DataW.whole enc Tryz.prog ((laidWorld os).forCall (fun _ _ => 0) ⟨#[], #[Go.Value.agg #[Go.Value.slice Option.none 0 0, Go.Value.slice Option.none 0 0, Go.Value.slice Option.none 0 0, Go.Value.int Go.IntKind.i64 0, Go.Value.int Go.IntKind.i64 0], Go.Value.agg #[Go.Value.slice Option.none 0 0, Go.Value.slice Option.none 0 0, Go.Value.slice Option.none 0 0, Go.Value.slice Option.none 0 0, Go.Value.slice Option.none 0 0, Go.Value.slice Option.none 0 0, Go.Value.slice Option.none 0 0]], []⟩).memory Tryz.f4.params.toList Rows.compileInputsSpec.vars false #[Go.Value.agg #[Go.Value.slice Option.none 0 0, Go.Value.slice Option.none 0 0, Go.Value.slice Option.none 0 0, Go.Value.int Go.IntKind.i64 0, Go.Value.int Go.IntKind.i64 0], Go.Value.agg #[Go.Value.slice Option.none 0 0, Go.Value.slice Option.none 0 0, Go.Value.slice Option.none 0 0, Go.Value.slice Option.none 0 0, Go.Value.slice Option.none 0 0, Go.Value.slice Option.none 0 0, Go.Value.slice Option.none 0 0]].toList 8 = some ([.agg [.nil, .nil, .nil, .lit (.int .i64 0), .lit (.int .i64 0)], .agg [.nil, .nil, .nil, .nil, .nil, .nil, .nil]], [], places) :=
  ⟨[], by kernel_rfl⟩
theorem compileInputs_holds_lifted (os : Os) (started : os.Started) (H : Type) (enc : TypeId × Value → H) (F : Stop.Interp) :
    ReturnsInHanded {} Tryz.checked os 4 .any ((OpenSpec.ofChange Rows.compileInputsSpec).preRow enc Tryz.prog Tryz.f4 Rows.compileInputsRow.domain false Rows.compileInputsRow.laid) (((OpenSpec.ofChange Rows.compileInputsSpec).at F).post enc Tryz.prog Tryz.f4 false true false false) := by
  obtain ⟨places, hx⟩ := compileInputs_holds_reads os enc
  exact law_liftedR (fun _ => True) [25, 22, 74, 9, 3, 70, 126, 71, 133, 23, 72, 255, 43, 41, 4] (s := Rows.compileInputsSpec) (so := OpenSpec.ofChange Rows.compileInputsSpec) (laidv := Rows.compileInputsRow.laid) (fun _ _ _ _ => trivial) (fun h => h) rfl rfl (C := Tryz.checked) os own started laidOut (by kernel_rfl) Tryz.func4
    (witness_row_at (enc := enc) (C := Tryz.checked) false (laidWorld os) #[Go.Value.agg #[Go.Value.slice Option.none 0 0, Go.Value.slice Option.none 0 0, Go.Value.slice Option.none 0 0, Go.Value.int Go.IntKind.i64 0, Go.Value.int Go.IntKind.i64 0], Go.Value.agg #[Go.Value.slice Option.none 0 0, Go.Value.slice Option.none 0 0, Go.Value.slice Option.none 0 0, Go.Value.slice Option.none 0 0, Go.Value.slice Option.none 0 0, Go.Value.slice Option.none 0 0, Go.Value.slice Option.none 0 0]] rfl (by kernel_rfl) (by kernel_rfl) (by kernel_rfl)
      (OpenSpec.preRow_of_cond 8 hx (by kernel_rfl) (fun k hk => by cases hk) (by kernel_rfl) (compileInputs_holds_met os))) (by kernel_rfl) rfl compileInputs_holds_args compileInputs_holds_true
theorem compileInputs_holds_said : Rows.CompileInputsSaid :=
  OpenClaim.holds_of_cond 4 Tryz.f4 rfl rfl rfl rfl rfl rfl rfl ⟨rfl, rfl, rfl, rfl, rfl⟩ rfl rfl rfl rfl rfl (by kernel_rfl) Tryz.func4 (by kernel_rfl)
    (of_decide_eq_true (by kernel_rfl)) (by unfold Func.isWrapper; first | (rw [if_pos (by decide +kernel)]; kernel_rfl) | (rw [if_neg (by decide +kernel)]; exact ⟨rfl, rfl⟩))
    (fun os started H enc _ F => by rw [OpenClaim.pre_eq_preRow]; exact compileInputs_holds_lifted os started H enc F)
theorem compileInputs_holds_plain (f : FuncId) (fn : Func) (hf : Tryz.pinned.checked.prog.funcNamed Rows.compileInputsRow.func = some f) (hfn : Tryz.pinned.checked.prog.funcs[f]? = some fn) :
    true = Tryz.pinned.checked.prog.looks [] ∧ ∀ (j : Nat) t, fn.params[j]? = some t → Tryz.pinned.checked.prog.wantsStandIn t = false := by
  obtain rfl : f = 4 := Option.some.inj ((show Tryz.prog.funcNamed Rows.compileInputsRow.func = some 4 by kernel_rfl).symm.trans hf) |>.symm
  obtain rfl : fn = Tryz.f4 := (Option.some.inj (Tryz.func4.symm.trans hfn)).symm
  refine ⟨by kernel_rfl, fun j t ht => ?_⟩
  have hm : t ∈ Tryz.f4.params.toList := Array.mem_toList_iff.2 (Array.mem_of_getElem? ht)
  have hall : (Tryz.f4.params.toList.all fun t => !Tryz.prog.wantsStandIn t) = true := by kernel_rfl
  have := List.all_eq_true.1 hall t hm
  rw [Bool.not_eq_true'] at this; exact this
theorem compileInputs_holds : Rows.CompileInputsCardSaid :=
  Claim7.holds_tied_plain_at .later [] _ _ _ _ compileInputs_holds_said (fun _ h => by cases h) (by kernel_rfl) (fun _ h => by cases h) compileInputs_row_tie rfl ⟨rfl, rfl⟩ (by kernel_rfl) rfl compileInputs_holds_plain (by kernel_rfl)

end Go.Proofs.YtcagmechagiclaaGreatDoor
