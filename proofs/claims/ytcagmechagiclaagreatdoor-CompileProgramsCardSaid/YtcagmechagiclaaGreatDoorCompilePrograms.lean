/- CompilePrograms returns true for every input. No condition but those of the row. -/
import Derived.Test.YtcagmechagiclaaGreatDoorCards
import Derived.Test.YtcagmechagiclaaGreatDoorTie
import Derived.Test.YtcagmechagiclaaGreatDoorQt
import Derived.ProofKit
import Derived.OpenShut
import Derived.JoinedCond
set_option maxHeartbeats 8000000
set_option linter.unusedSimpArgs false
set_option linter.unusedVariables false
set_option maxRecDepth 100000
namespace Go.Proofs.YtcagmechagiclaaGreatDoor
open Go Go.TL Go.ChangeShapes Go.WideShapes Go.RowKit Go.ChangeAt

theorem compilePrograms_holds_args {H : Type} (ds : List (DataW H)) (h : ds.length = Tryz.f3.params.toList.length) : Rows.compileProgramsSpec.fn H ds = { results := [.lit (.bool true)], args := ds } := by
  have h : ds.length = 1 := h
  match ds, h with
  | [d0], _ => rfl
theorem compilePrograms_holds_true (ds : List D) (h : qEM Tryz.prog Tryz.f3.params.toList ds) (hb : (fun _ => True) ds) : Ret Tryz.prog 3 [] (fun _ => false) (ds.map .d) (.d (.bool true)) [] := by
  have h : qEM Tryz.prog [25] ds := h
  match ds, h with
  | [_], ⟨⟨c0, _, t0, rfl⟩, _⟩ =>
      obtain ⟨x0, w0, e0⟩ := ty25 c0 t0
      clear hb
      simp only [e0]
      exact rZ (qGW w0)
theorem compilePrograms_holds_met (os : Os) : laidMet Tryz.prog Rows.compileProgramsRow.laid ((laidWorld os).forCall (fun _ _ => 0) ⟨#[], #[Go.Value.agg #[Go.Value.slice Option.none 0 0, Go.Value.slice Option.none 0 0, Go.Value.slice Option.none 0 0, Go.Value.int Go.IntKind.i64 0, Go.Value.int Go.IntKind.i64 0]], []⟩).memory :=
  laidMet_of_run' 8 (by kernel_rfl) (by kernel_rfl)
theorem compilePrograms_holds_reads (os : Os) {H : Type} (enc : TypeId × Value → H) : ∃ places, DataW.whole enc Tryz.prog ((laidWorld os).forCall (fun _ _ => 0) ⟨#[], #[Go.Value.agg #[Go.Value.slice Option.none 0 0, Go.Value.slice Option.none 0 0, Go.Value.slice Option.none 0 0, Go.Value.int Go.IntKind.i64 0, Go.Value.int Go.IntKind.i64 0]], []⟩).memory Tryz.f3.params.toList Rows.compileProgramsSpec.vars false #[Go.Value.agg #[Go.Value.slice Option.none 0 0, Go.Value.slice Option.none 0 0, Go.Value.slice Option.none 0 0, Go.Value.int Go.IntKind.i64 0, Go.Value.int Go.IntKind.i64 0]].toList 8 = some ([.agg [.nil, .nil, .nil, .lit (.int .i64 0), .lit (.int .i64 0)]], [], places) :=
  ⟨[], by kernel_rfl⟩
theorem compilePrograms_holds_lifted (os : Os) (started : os.Started) (H : Type) (enc : TypeId × Value → H) (F : Stop.Interp) :
    ReturnsInHanded {} Tryz.checked os 3 .any ((OpenSpec.ofChange Rows.compileProgramsSpec).preRow enc Tryz.prog Tryz.f3 Rows.compileProgramsRow.domain false Rows.compileProgramsRow.laid) (((OpenSpec.ofChange Rows.compileProgramsSpec).at F).post enc Tryz.prog Tryz.f3 false true false false) := by
  obtain ⟨places, hx⟩ := compilePrograms_holds_reads os enc
  exact qJL (fun _ => True) [25, 22, 74, 9, 3, 70, 126, 71, 133, 23, 72, 255] (s := Rows.compileProgramsSpec) (so := OpenSpec.ofChange Rows.compileProgramsSpec) (laidv := Rows.compileProgramsRow.laid) (fun _ _ _ _ => trivial) (fun h => h) rfl rfl (C := Tryz.checked) os own started qXJ (by kernel_rfl) Tryz.func3
    (witness_row_at (enc := enc) (C := Tryz.checked) false (laidWorld os) #[Go.Value.agg #[Go.Value.slice Option.none 0 0, Go.Value.slice Option.none 0 0, Go.Value.slice Option.none 0 0, Go.Value.int Go.IntKind.i64 0, Go.Value.int Go.IntKind.i64 0]] rfl (by kernel_rfl) (by kernel_rfl) (by kernel_rfl)
      (OpenSpec.preRow_of_cond 8 hx (by kernel_rfl) (fun k hk => by cases hk) (by kernel_rfl) (compilePrograms_holds_met os))) (by kernel_rfl) rfl compilePrograms_holds_args compilePrograms_holds_true
theorem compilePrograms_holds_said : Rows.CompileProgramsSaid :=
  OpenClaim.holds_of_cond 3 Tryz.f3 rfl rfl rfl rfl rfl rfl rfl ⟨rfl, rfl, rfl, rfl, rfl⟩ rfl rfl rfl rfl rfl (by kernel_rfl) Tryz.func3 (by kernel_rfl)
    (of_decide_eq_true (by kernel_rfl)) (by unfold Func.isWrapper; first | (rw [if_pos (by decide +kernel)]; kernel_rfl) | (rw [if_neg (by decide +kernel)]; exact ⟨rfl, rfl⟩))
    (fun os started H enc _ F => by rw [OpenClaim.pre_eq_preRow]; exact compilePrograms_holds_lifted os started H enc F)
theorem compilePrograms_holds_plain (f : FuncId) (fn : Func) (hf : Tryz.pinned.checked.prog.funcNamed Rows.compileProgramsRow.func = some f) (hfn : Tryz.pinned.checked.prog.funcs[f]? = some fn) :
    true = Tryz.pinned.checked.prog.looks [] ∧ ∀ (j : Nat) t, fn.params[j]? = some t → Tryz.pinned.checked.prog.wantsStandIn t = false := by
  obtain rfl : f = 3 := Option.some.inj ((show Tryz.prog.funcNamed Rows.compileProgramsRow.func = some 3 by kernel_rfl).symm.trans hf) |>.symm
  obtain rfl : fn = Tryz.f3 := (Option.some.inj (Tryz.func3.symm.trans hfn)).symm
  refine ⟨by kernel_rfl, fun j t ht => ?_⟩
  have hm : t ∈ Tryz.f3.params.toList := Array.mem_toList_iff.2 (Array.mem_of_getElem? ht)
  have hall : (Tryz.f3.params.toList.all fun t => !Tryz.prog.wantsStandIn t) = true := by kernel_rfl
  have := List.all_eq_true.1 hall t hm
  rw [Bool.not_eq_true'] at this; exact this
theorem compilePrograms_holds : Rows.CompileProgramsCardSaid :=
  Claim7.holds_tied_plain_at .later [] _ _ _ _ compilePrograms_holds_said (fun _ h => by cases h) (by kernel_rfl) (fun _ h => by cases h) compilePrograms_row_tie rfl ⟨rfl, rfl⟩ (by kernel_rfl) rfl compilePrograms_holds_plain (by kernel_rfl)

end Go.Proofs.YtcagmechagiclaaGreatDoor
