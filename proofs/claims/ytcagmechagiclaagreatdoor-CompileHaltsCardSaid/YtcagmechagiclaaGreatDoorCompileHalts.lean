/- CompileHalts returns true for every input. No condition but those of the row. -/
import Derived.Test.YtcagmechagiclaaGreatDoorCards
import Derived.Test.YtcagmechagiclaaGreatDoorTie
import Derived.Test.YtcagmechagiclaaGreatDoorQs
import Derived.ProofKit
import Derived.OpenShut
import Derived.JoinedCond
set_option maxHeartbeats 8000000
set_option linter.unusedSimpArgs false
set_option linter.unusedVariables false
set_option maxRecDepth 100000
namespace Go.Proofs.YtcagmechagiclaaGreatDoor
open Go Go.TL Go.ChangeShapes Go.WideShapes Go.RowKit Go.ChangeAt

theorem compileHalts_holds_args {H : Type} (ds : List (DataW H)) (h : ds.length = Tryz.f6.params.toList.length) : Rows.compileHaltsSpec.fn H ds = { results := [.lit (.bool true)], args := ds } := by
  have h : ds.length = 3 := h
  match ds, h with
  | [d0, d1, d2], _ => rfl
theorem compileHalts_holds_true (ds : List D) (h : ArgsOk Tryz.prog Tryz.f6.params.toList ds) (hb : (fun _ => True) ds) : Ret Tryz.prog 6 [] (fun _ => false) (ds.map .d) (.d (.bool true)) [] := by
  have h : ArgsOk Tryz.prog [25, 56, 43] ds := h
  match ds, h with
  | [_, _, _], ⟨⟨c0, _, t0, rfl⟩, ⟨⟨c1, _, t1, rfl⟩, ⟨⟨c2, _, t2, rfl⟩, _⟩⟩⟩ =>
      obtain ⟨x0, w0, e0⟩ := ty25 c0 t0
      obtain ⟨x1, w1, e1⟩ := ty56 c1 t1
      obtain ⟨x2, w2, e2⟩ := ty43 c2 t2
      clear hb
      simp only [e0, e1, e2]
      exact law24_CompileHalts_w (halts_law w0 w1 w2)
theorem compileHalts_holds_met (os : Os) : laidMet Tryz.prog Rows.compileHaltsRow.laid ((laidWorld os).forCall (fun _ _ => 0) ⟨#[], #[Go.Value.agg #[Go.Value.slice Option.none 0 0, Go.Value.slice Option.none 0 0, Go.Value.slice Option.none 0 0, Go.Value.int Go.IntKind.i64 0, Go.Value.int Go.IntKind.i64 0], Go.Value.slice Option.none 0 0, Go.Value.agg #[Go.Value.slice Option.none 0 0, Go.Value.slice Option.none 0 0, Go.Value.slice Option.none 0 0, Go.Value.slice Option.none 0 0, Go.Value.slice Option.none 0 0, Go.Value.slice Option.none 0 0, Go.Value.slice Option.none 0 0]], []⟩).memory :=
  laidMet_of_run' 8 (by kernel_rfl) (by kernel_rfl)
theorem compileHalts_holds_reads (os : Os) {H : Type} (enc : TypeId × Value → H) : ∃ places, DataW.whole enc Tryz.prog ((laidWorld os).forCall (fun _ _ => 0) ⟨#[], #[Go.Value.agg #[Go.Value.slice Option.none 0 0, Go.Value.slice Option.none 0 0, Go.Value.slice Option.none 0 0, Go.Value.int Go.IntKind.i64 0, Go.Value.int Go.IntKind.i64 0], Go.Value.slice Option.none 0 0, Go.Value.agg #[Go.Value.slice Option.none 0 0, Go.Value.slice Option.none 0 0, Go.Value.slice Option.none 0 0, Go.Value.slice Option.none 0 0, Go.Value.slice Option.none 0 0, Go.Value.slice Option.none 0 0, Go.Value.slice Option.none 0 0]], []⟩).memory Tryz.f6.params.toList Rows.compileHaltsSpec.vars false #[Go.Value.agg #[Go.Value.slice Option.none 0 0, Go.Value.slice Option.none 0 0, Go.Value.slice Option.none 0 0, Go.Value.int Go.IntKind.i64 0, Go.Value.int Go.IntKind.i64 0], Go.Value.slice Option.none 0 0, Go.Value.agg #[Go.Value.slice Option.none 0 0, Go.Value.slice Option.none 0 0, Go.Value.slice Option.none 0 0, Go.Value.slice Option.none 0 0, Go.Value.slice Option.none 0 0, Go.Value.slice Option.none 0 0, Go.Value.slice Option.none 0 0]].toList 8 = some ([.agg [.nil, .nil, .nil, .lit (.int .i64 0), .lit (.int .i64 0)], .nil, .agg [.nil, .nil, .nil, .nil, .nil, .nil, .nil]], [], places) :=
  ⟨[], by kernel_rfl⟩
theorem compileHalts_holds_lifted (os : Os) (started : os.Started) (H : Type) (enc : TypeId × Value → H) (F : Stop.Interp) :
    ReturnsInHanded {} Tryz.checked os 6 .any ((OpenSpec.ofChange Rows.compileHaltsSpec).preRow enc Tryz.prog Tryz.f6 Rows.compileHaltsRow.domain false Rows.compileHaltsRow.laid) (((OpenSpec.ofChange Rows.compileHaltsSpec).at F).post enc Tryz.prog Tryz.f6 false true false false) := by
  obtain ⟨places, hx⟩ := compileHalts_holds_reads os enc
  exact law_liftedR (fun _ => True) [25, 22, 74, 9, 3, 70, 126, 71, 133, 23, 72, 255, 56, 43, 41, 4] (s := Rows.compileHaltsSpec) (so := OpenSpec.ofChange Rows.compileHaltsSpec) (laidv := Rows.compileHaltsRow.laid) (fun _ _ _ _ => trivial) (fun h => h) rfl rfl (C := Tryz.checked) os own started laidOut (by kernel_rfl) Tryz.func6
    (witness_row_at (enc := enc) (C := Tryz.checked) false (laidWorld os) #[Go.Value.agg #[Go.Value.slice Option.none 0 0, Go.Value.slice Option.none 0 0, Go.Value.slice Option.none 0 0, Go.Value.int Go.IntKind.i64 0, Go.Value.int Go.IntKind.i64 0], Go.Value.slice Option.none 0 0, Go.Value.agg #[Go.Value.slice Option.none 0 0, Go.Value.slice Option.none 0 0, Go.Value.slice Option.none 0 0, Go.Value.slice Option.none 0 0, Go.Value.slice Option.none 0 0, Go.Value.slice Option.none 0 0, Go.Value.slice Option.none 0 0]] rfl (by kernel_rfl) (by kernel_rfl) (by kernel_rfl)
      (OpenSpec.preRow_of_cond 8 hx (by kernel_rfl) (fun k hk => by cases hk) (by kernel_rfl) (compileHalts_holds_met os))) (by kernel_rfl) rfl compileHalts_holds_args compileHalts_holds_true
theorem compileHalts_holds_said : Rows.CompileHaltsSaid :=
  OpenClaim.holds_of_cond 6 Tryz.f6 rfl rfl rfl rfl rfl rfl rfl ⟨rfl, rfl, rfl, rfl, rfl⟩ rfl rfl rfl rfl rfl (by kernel_rfl) Tryz.func6 (by kernel_rfl)
    (of_decide_eq_true (by kernel_rfl)) (by unfold Func.isWrapper; first | (rw [if_pos (by decide +kernel)]; kernel_rfl) | (rw [if_neg (by decide +kernel)]; exact ⟨rfl, rfl⟩))
    (fun os started H enc _ F => by rw [OpenClaim.pre_eq_preRow]; exact compileHalts_holds_lifted os started H enc F)
theorem compileHalts_holds_plain (f : FuncId) (fn : Func) (hf : Tryz.pinned.checked.prog.funcNamed Rows.compileHaltsRow.func = some f) (hfn : Tryz.pinned.checked.prog.funcs[f]? = some fn) :
    true = Tryz.pinned.checked.prog.looks [] ∧ ∀ (j : Nat) t, fn.params[j]? = some t → Tryz.pinned.checked.prog.wantsStandIn t = false := by
  obtain rfl : f = 6 := Option.some.inj ((show Tryz.prog.funcNamed Rows.compileHaltsRow.func = some 6 by kernel_rfl).symm.trans hf) |>.symm
  obtain rfl : fn = Tryz.f6 := (Option.some.inj (Tryz.func6.symm.trans hfn)).symm
  refine ⟨by kernel_rfl, fun j t ht => ?_⟩
  have hm : t ∈ Tryz.f6.params.toList := Array.mem_toList_iff.2 (Array.mem_of_getElem? ht)
  have hall : (Tryz.f6.params.toList.all fun t => !Tryz.prog.wantsStandIn t) = true := by kernel_rfl
  have := List.all_eq_true.1 hall t hm
  rw [Bool.not_eq_true'] at this; exact this
theorem compileHalts_holds : Rows.CompileHaltsCardSaid :=
  Claim7.holds_tied_plain_at .later [] _ _ _ _ compileHalts_holds_said (fun _ h => by cases h) (by kernel_rfl) (fun _ h => by cases h) compileHalts_row_tie rfl ⟨rfl, rfl⟩ (by kernel_rfl) rfl compileHalts_holds_plain (by kernel_rfl)

end Go.Proofs.YtcagmechagiclaaGreatDoor
