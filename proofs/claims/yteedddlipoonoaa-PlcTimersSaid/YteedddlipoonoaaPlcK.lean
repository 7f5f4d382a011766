/- The chapter's examples, walked. No condition. -/
import Derived.Test.YteedddlipoonoaaPlcJ
import Derived.KernelRfl
set_option linter.unusedSimpArgs false
set_option linter.unusedVariables false
namespace Go.Proofs.Yteedddlipoonoaa
open Go Go.TL

theorem Ex.Wf.leaf (o v : Int) (ho : I64 o) (hv : I64 v) : (Ex.mk o v []).Wf := .mk _ ho hv (Nat.zero_le _) fun a ha => by simp [Ex.args] at ha

theorem callB25 : callB Try.prog 25 = true := by kernel_rfl

theorem zero47 : (Try.prog.info? 47).bind (·.zero) = Option.some (Go.Value.agg #[Go.Value.int Go.IntKind.i64 0, Go.Value.int Go.IntKind.i64 0, Go.Value.slice Option.none 0 0]) := by kernel_rfl

theorem plc47 : plc Try.prog 47 = some [(0, 1), (1, 1), (2, 1)] := by kernel_rfl

theorem variable_step (n : Int) : Ret Try.prog 25 [] (fun _ => false) ([D.int .i64 n].map .d) (.d (.agg [.int .i64 3, .int .i64 n, .nilsl])) [] := by
  refine ret_body callB25 Try.func25 rfl Try.ntmps25 rfl rfl (fun wX gX => ?_)
  refine twp_norm [0] (sub_d rfl .nil) (blk_nil rfl) ?_
  refine twp_rseq ?_
  refine s_alloc rfl zero47 rfl rfl ?_
  refine s_eq 2 (.mptr 0 0 0 0) rfl rfl ?_
  refine tops_nil ?_
  refine twp_norm [0, 2] (sub_d rfl (sub_mptr rfl .nil)) (blk_boxN rfl (by repeat (first | exact NormC.nil rfl | apply nc_d rfl | apply nc_msl rfl | apply nc_mptr rfl | apply nc_fnc rfl)) (blk_nil rfl)) ?_
  refine twp_rseq ?_
  refine s_rd _ rfl (mv_d (.inl rfl) rfl) ?_
  refine s_rd _ rfl (by first | exact build_d rfl plc47 zero47 rfl rfl rfl rfl | exact rd_build rfl plc47 zero47 rfl rfl rfl rfl) ?_
  refine s_store_box lay47 rfl rfl rfl rfl rfl (Nat.le_of_ble_eq_true rfl) rfl ?_
  refine tops_nil ?_
  refine twp_norm [2] (sub_mptr rfl .nil) (blk_boxN rfl (by repeat (first | exact NormC.nil rfl | apply nc_d rfl | apply nc_msl rfl | apply nc_mptr rfl | apply nc_fnc rfl)) (blk_nil rfl)) ?_
  refine twp_ret ?_
  exact Ends.cellE _ lay47 rfl rfl rfl rfl rfl

theorem variable_d (n : Int) : RetD Try.prog 25 [.int .i64 n] (Ex.mk 3 n []).enc := .of (mv := fun _ => false) (Ret.weak (variable_step n) (.agg (.cons (.refl _) rfl (.cons (.refl _) rfl (.cons (.nil 3) rfl .nil)))))

/-- The program of the chapter's examples. -/
def exP : Prg := ⟨[⟨#[97]⟩, ⟨#[98]⟩, ⟨#[99]⟩], 1, [⟨1, 1, 0, .mk 4 0 [.mk 3 0 []]⟩, ⟨2, 2, 2, .mk 3 0 []⟩]⟩
theorem exP_wf : exP.Wf := by
  refine ⟨by decide, by decide, by decide, fun r hr => ?_⟩
  have leaf := Ex.Wf.leaf 3 0 (by decide) (by decide)
  simp only [exP, List.mem_cons, List.not_mem_nil, or_false] at hr
  rcases hr with rfl | rfl
  · exact ⟨by decide, by decide, by decide, .mk _ (by decide) (by decide) (by decide) fun a ha => by simp only [Ex.args, List.mem_cons, List.not_mem_nil, or_false] at ha; subst ha; exact leaf⟩
  · exact ⟨by decide, by decide, by decide, leaf⟩
theorem exP_small : ∀ r ∈ exP.rungs, r.expr.size ≤ 1000000 := fun r hr => by
  simp only [exP, List.mem_cons, List.not_mem_nil, or_false] at hr
  rcases hr with rfl | rfl <;> decide
def mA : Mch := ⟨[true, false, false], [0, 1], false⟩
def mB : Mch := ⟨[true, false, true], [0, 2], false⟩
def mC : Mch := ⟨[false, true, false], [0, 0], false⟩
def mD : Mch := ⟨[true], [], false⟩
def m0 : Mch := ⟨[false, false, false], [0, 0], false⟩
theorem mch_wf (m : Mch) (h1 : m.vars.length ≤ 100) (h2 : m.counts.length ≤ 100) (h3 : (m.counts.all fun n => decide (I64 n)) = true) : m.Wf := ⟨by omega, by omega, fun n hn => of_decide_eq_true (List.all_eq_true.1 h3 n hn)⟩
theorem mA_wf : mA.Wf := mch_wf _ (by decide) (by decide) (by decide)
theorem mB_wf : mB.Wf := mch_wf _ (by decide) (by decide) (by decide)
theorem mC_wf : mC.Wf := mch_wf _ (by decide) (by decide) (by decide)
theorem mD_wf : mD.Wf := mch_wf _ (by decide) (by decide) (by decide)
theorem m0_wf : m0.Wf := mch_wf _ (by decide) (by decide) (by decide)
theorem st0 : exP.start = m0 := by kernel_rfl
theorem scA : exP.scan m0 [true] = mA := by kernel_rfl
theorem scB : exP.scan mA [true, true] = mB := by kernel_rfl
theorem scC : exP.scan mB [] = mC := by kernel_rfl
theorem nilArg : DLa [exP.enc, mB.enc, .nilsl] [exP.enc, mB.enc, bools []] := .cons (.refl _) (.cons (.refl _) (.cons (.nil 1) .nil))
theorem nilMch (vs : List Bool) : DLe (.agg [.sl 1 (vs.map .bool), .nilsl, .bool false]) (Mch.mk vs [] false).enc := .agg (.cons (.refl _) rfl (.cons (.nil 1) rfl (.cons (.refl _) rfl .nil)))

theorem callB27 : callB Try.prog 27 = true := by kernel_rfl

theorem zero25 : (Try.prog.info? 25).bind (·.zero) = Option.some (Go.Value.agg #[Go.Value.slice Option.none 0 0, Go.Value.int Go.IntKind.i64 0, Go.Value.slice Option.none 0 0]) := by kernel_rfl

theorem zero9 : (Try.prog.info? 9).bind (·.zero) = Option.some (Go.Value.string { data := #[] }) := by kernel_rfl

theorem plc50 : plc Try.prog 50 = some [(0, 1), (1, 1), (2, 1), (3, 3)] := by kernel_rfl

theorem plc25 : plc Try.prog 25 = some [(0, 1), (1, 1), (2, 1)] := by kernel_rfl

theorem example_step : Ret Try.prog 27 [] (fun _ => false) (([] : List D).map .d) (.d exP.enc) [] := by
  refine ret_body callB27 Try.func27 rfl Try.ntmps27 rfl rfl (fun wX gX => ?_)
  refine twp_norm [] .nil (blk_nil rfl) ?_
  refine twp_rseq ?_
  refine s_alloc rfl zero25 rfl rfl ?_
  refine s_eq 0 (.mptr 0 0 0 0) rfl rfl ?_
  refine tops_nil ?_
  refine twp_norm [0] (sub_mptr rfl .nil) (blk_boxN rfl (by repeat (first | exact NormC.nil rfl | apply nc_d rfl | apply nc_msl rfl | apply nc_mptr rfl | apply nc_fnc rfl)) (blk_nil rfl)) ?_
  refine twp_rseq ?_
  refine s_rd _ rfl (rd_litF [.const (Value.string ⟨#[97]⟩), .const (Value.string ⟨#[98]⟩), .const (Value.string ⟨#[99]⟩)] rfl sel22 zero9 rfl rfl rfl rfl rfl) ?_
  refine s_rd _ rfl (rd_callRD rfl rfl rfl (variable_d 0)) ?_
  refine s_rd _ rfl (rd_litF [.tmp 2] rfl sel45 zero47 rfl rfl rfl rfl rfl) ?_
  refine s_rd _ rfl (by first | exact build_d rfl plc47 zero47 rfl rfl rfl rfl | exact rd_build rfl plc47 zero47 rfl rfl rfl rfl) ?_
  refine s_rd _ rfl (by first | exact build_d rfl plc50 zero50 rfl rfl rfl rfl | exact rd_build rfl plc50 zero50 rfl rfl rfl rfl) ?_
  refine s_rd _ rfl (rd_callRD rfl rfl rfl (variable_d 0)) ?_
  refine s_rd _ rfl (by first | exact build_d rfl plc50 zero50 rfl rfl rfl rfl | exact rd_build rfl plc50 zero50 rfl rfl rfl rfl) ?_
  refine s_rd _ rfl (rd_litF [.tmp 5, .tmp 7] rfl sel23 zero50 rfl rfl rfl rfl rfl) ?_
  refine s_rd _ rfl (by first | exact build_d rfl plc25 zero25 rfl rfl rfl rfl | exact rd_build rfl plc25 zero25 rfl rfl rfl rfl) ?_
  refine s_store_box lay25 rfl rfl rfl rfl rfl (Nat.le_of_ble_eq_true rfl) rfl ?_
  refine tops_nil ?_
  refine twp_norm [0] (sub_mptr rfl .nil) (blk_boxN rfl (by repeat (first | exact NormC.nil rfl | apply nc_d rfl | apply nc_msl rfl | apply nc_mptr rfl | apply nc_fnc rfl)) (blk_nil rfl)) ?_
  refine twp_ret ?_
  exact Ends.cellE _ lay25 rfl rfl rfl rfl (by kernel_rfl)

theorem example_d : RetD Try.prog 27 [] exP.enc := .of (mv := fun _ => false) (ds := []) example_step

theorem callB10 : callB Try.prog 10 = true := by kernel_rfl

theorem fldv34_2 : fldv Try.prog 34 2 = some (2, false, 1) := by kernel_rfl

theorem alive_step : Ret Try.prog 10 [] (fun _ => false) (([] : List D).map .d) (.d (.bool true)) [] := by
  refine ret_body callB10 Try.func10 rfl Try.ntmps10 rfl rfl (fun wX gX => ?_)
  refine twp_norm [] .nil (blk_nil rfl) ?_
  refine twp_rseq ?_
  refine s_rd _ rfl (mv_d (.inr rfl) rfl) ?_
  refine tops_nil ?_
  refine twp_norm [] .nil (blk_nil rfl) ?_
  refine twp_rseq ?_
  refine s_rd _ rfl (rd_callRD rfl rfl rfl (example_d)) ?_
  refine s_alloc rfl zero25 rfl rfl ?_
  refine s_eq 1 (.mptr 0 0 0 0) rfl rfl ?_
  refine s_store_box lay25 rfl rfl rfl rfl rfl (Nat.le_of_ble_eq_true rfl) rfl ?_
  refine tops_nil ?_
  refine twp_norm [1] (sub_mptr rfl .nil) (blk_boxN rfl (by repeat (first | exact NormC.nil rfl | apply nc_d rfl | apply nc_msl rfl | apply nc_mptr rfl | apply nc_fnc rfl)) (blk_nil rfl)) ?_
  refine twp_hole ?_
  refine twp_dseq follows  ?_
  first | refine d_rd [] _ rfl rfl (by first | exact load_boxA_d rfl lay25 rfl rfl (Nat.le_of_ble_eq_true rfl) rfl | exact load_boxA rfl lay25 rfl rfl (Nat.le_of_ble_eq_true rfl) rfl) ?_ | refine d_rd [0] _ rfl rfl (by first | exact load_boxA_d rfl lay25 rfl rfl (Nat.le_of_ble_eq_true rfl) rfl | exact load_boxA rfl lay25 rfl rfl (Nat.le_of_ble_eq_true rfl) rfl) ?_ | refine d_rd [1] _ rfl rfl (by first | exact load_boxA_d rfl lay25 rfl rfl (Nat.le_of_ble_eq_true rfl) rfl | exact load_boxA rfl lay25 rfl rfl (Nat.le_of_ble_eq_true rfl) rfl) ?_ | refine d_rd [2] _ rfl rfl (by first | exact load_boxA_d rfl lay25 rfl rfl (Nat.le_of_ble_eq_true rfl) rfl | exact load_boxA rfl lay25 rfl rfl (Nat.le_of_ble_eq_true rfl) rfl) ?_ | refine d_rd [3] _ rfl rfl (by first | exact load_boxA_d rfl lay25 rfl rfl (Nat.le_of_ble_eq_true rfl) rfl | exact load_boxA rfl lay25 rfl rfl (Nat.le_of_ble_eq_true rfl) rfl) ?_
  first | refine d_rd [] _ rfl rfl (by first | exact load_boxA_d rfl lay25 rfl rfl (Nat.le_of_ble_eq_true rfl) rfl | exact load_boxA rfl lay25 rfl rfl (Nat.le_of_ble_eq_true rfl) rfl) ?_ | refine d_rd [0] _ rfl rfl (by first | exact load_boxA_d rfl lay25 rfl rfl (Nat.le_of_ble_eq_true rfl) rfl | exact load_boxA rfl lay25 rfl rfl (Nat.le_of_ble_eq_true rfl) rfl) ?_ | refine d_rd [1] _ rfl rfl (by first | exact load_boxA_d rfl lay25 rfl rfl (Nat.le_of_ble_eq_true rfl) rfl | exact load_boxA rfl lay25 rfl rfl (Nat.le_of_ble_eq_true rfl) rfl) ?_ | refine d_rd [2] _ rfl rfl (by first | exact load_boxA_d rfl lay25 rfl rfl (Nat.le_of_ble_eq_true rfl) rfl | exact load_boxA rfl lay25 rfl rfl (Nat.le_of_ble_eq_true rfl) rfl) ?_ | refine d_rd [3] _ rfl rfl (by first | exact load_boxA_d rfl lay25 rfl rfl (Nat.le_of_ble_eq_true rfl) rfl | exact load_boxA rfl lay25 rfl rfl (Nat.le_of_ble_eq_true rfl) rfl) ?_
  first | refine d_rd [] _ rfl rfl (rd_callRD rfl rfl rfl ((startP_d exP exP_wf (by decide) (by decide)).to (congrArg Mch.enc st0))) ?_ | refine d_rd [0] _ rfl rfl (rd_callRD rfl rfl rfl ((startP_d exP exP_wf (by decide) (by decide)).to (congrArg Mch.enc st0))) ?_ | refine d_rd [1] _ rfl rfl (rd_callRD rfl rfl rfl ((startP_d exP exP_wf (by decide) (by decide)).to (congrArg Mch.enc st0))) ?_ | refine d_rd [2] _ rfl rfl (rd_callRD rfl rfl rfl ((startP_d exP exP_wf (by decide) (by decide)).to (congrArg Mch.enc st0))) ?_ | refine d_rd [3] _ rfl rfl (rd_callRD rfl rfl rfl ((startP_d exP exP_wf (by decide) (by decide)).to (congrArg Mch.enc st0))) ?_
  refine d_rd [] _ rfl rfl (rd_litF [.const (Value.bool Bool.true)] rfl sel31 zero4 rfl rfl rfl rfl rfl) ?_
  first | refine d_rd [] _ rfl rfl (rd_callRD rfl rfl rfl ((scanP_d exP m0 [true] exP_wf m0_wf (by decide) (by decide)).to (congrArg Mch.enc scA))) ?_ | refine d_rd [0] _ rfl rfl (rd_callRD rfl rfl rfl ((scanP_d exP m0 [true] exP_wf m0_wf (by decide) (by decide)).to (congrArg Mch.enc scA))) ?_ | refine d_rd [1] _ rfl rfl (rd_callRD rfl rfl rfl ((scanP_d exP m0 [true] exP_wf m0_wf (by decide) (by decide)).to (congrArg Mch.enc scA))) ?_ | refine d_rd [2] _ rfl rfl (rd_callRD rfl rfl rfl ((scanP_d exP m0 [true] exP_wf m0_wf (by decide) (by decide)).to (congrArg Mch.enc scA))) ?_ | refine d_rd [3] _ rfl rfl (rd_callRD rfl rfl rfl ((scanP_d exP m0 [true] exP_wf m0_wf (by decide) (by decide)).to (congrArg Mch.enc scA))) ?_
  refine d_wr [1] _ _ rfl rfl rfl (w_alloc (i := 1) rfl rfl zero34 rfl rfl) ?_
  refine d_tail ?_ (by kernel_rfl)
  refine s_store_box lay34 rfl rfl rfl rfl rfl (Nat.le_of_ble_eq_true rfl) rfl ?_
  refine tops_nil ?_
  refine twp_norm [1, 2] (sub_mptr rfl (sub_mptr rfl .nil)) (blk_box rfl (blk_boxN rfl (by repeat (first | exact NormC.nil rfl | apply nc_d rfl | apply nc_msl rfl | apply nc_mptr rfl | apply nc_fnc rfl)) (blk_nil rfl))) ?_
  refine twp_rseq ?_
  refine s_rd _ rfl (by first | exact load_boxA_d rfl lay25 rfl rfl (Nat.le_of_ble_eq_true rfl) rfl | exact load_boxA rfl lay25 rfl rfl (Nat.le_of_ble_eq_true rfl) rfl) ?_
  refine s_rd _ rfl (by first | exact load_boxA_d rfl lay34 rfl rfl (Nat.le_of_ble_eq_true rfl) rfl | exact load_boxA rfl lay34 rfl rfl (Nat.le_of_ble_eq_true rfl) rfl) ?_
  refine s_rd _ rfl (rd_litF [.const (Value.bool Bool.true), .const (Value.bool Bool.true)] rfl sel31 zero4 rfl rfl rfl rfl rfl) ?_
  refine s_rd _ rfl (rd_callRD rfl rfl rfl ((scanP_d exP mA [true, true] exP_wf mA_wf (by decide) (by decide)).to (congrArg Mch.enc scB))) ?_
  refine s_alloc rfl zero34 rfl rfl ?_
  refine s_eq 3 (.mptr 2 0 0 0) rfl rfl ?_
  refine s_store_box lay34 rfl rfl rfl rfl rfl (Nat.le_of_ble_eq_true rfl) rfl ?_
  refine tops_nil ?_
  refine twp_norm [1, 2, 3] (sub_mptr rfl (sub_mptr rfl (sub_mptr rfl .nil))) (blk_box rfl (blk_box rfl (blk_boxN rfl (by repeat (first | exact NormC.nil rfl | apply nc_d rfl | apply nc_msl rfl | apply nc_mptr rfl | apply nc_fnc rfl)) (blk_nil rfl)))) ?_
  refine twp_rseq ?_
  refine s_rd _ rfl (by first | exact load_boxA_d rfl lay25 rfl rfl (Nat.le_of_ble_eq_true rfl) rfl | exact load_boxA rfl lay25 rfl rfl (Nat.le_of_ble_eq_true rfl) rfl) ?_
  refine s_rd _ rfl (by first | exact load_boxA_d rfl lay34 rfl rfl (Nat.le_of_ble_eq_true rfl) rfl | exact load_boxA rfl lay34 rfl rfl (Nat.le_of_ble_eq_true rfl) rfl) ?_
  refine s_rd _ rfl (rd_callRD rfl rfl rfl (((scanP_d exP mB [] exP_wf mB_wf (by decide) (by decide)).to (congrArg Mch.enc scC)).args nilArg)) ?_
  refine s_alloc rfl zero34 rfl rfl ?_
  refine s_eq 4 (.mptr 3 0 0 0) rfl rfl ?_
  refine s_store_box lay34 rfl rfl rfl rfl rfl (Nat.le_of_ble_eq_true rfl) rfl ?_
  refine tops_nil ?_
  refine twp_norm [1, 2, 3, 4] (sub_mptr rfl (sub_mptr rfl (sub_mptr rfl (sub_mptr rfl .nil)))) (blk_box rfl (blk_box rfl (blk_box rfl (blk_boxN rfl (by repeat (first | exact NormC.nil rfl | apply nc_d rfl | apply nc_msl rfl | apply nc_mptr rfl | apply nc_fnc rfl)) (blk_nil rfl))))) ?_
  refine twp_rseq ?_
  refine s_rd _ rfl (by first | exact load_boxA_d rfl lay34 rfl rfl (Nat.le_of_ble_eq_true rfl) rfl | exact load_boxA rfl lay34 rfl rfl (Nat.le_of_ble_eq_true rfl) rfl) ?_
  refine s_rd _ rfl (rd_litF [.const (Value.bool Bool.true), .const (Value.bool Bool.false), .const (Value.bool Bool.false)] rfl sel31 zero4 rfl rfl rfl rfl rfl) ?_
  refine s_rd _ rfl (rd_litF [.const (Value.int IntKind.i64 0), .const (Value.int IntKind.i64 1)] rfl sel32 zero3 rfl rfl rfl rfl rfl) ?_
  refine s_rd _ rfl (by first | exact build_d rfl plc34 zero34 rfl rfl rfl rfl | exact rd_build rfl plc34 zero34 rfl rfl rfl rfl) ?_
  refine s_rd _ rfl (rd_callRD rfl rfl rfl ((sameR_n mA mA mA_wf mA_wf).retD)) ?_
  refine s_eq 22 (.d (.bool true)) rfl (av_bool (by kernel_rfl)) ?_
  refine s_rd _ rfl (mv_d (.inl rfl) rfl) ?_
  refine s_yes rfl rfl rfl ?_
  refine s_rd _ rfl (by first | exact load_boxA_d rfl lay34 rfl rfl (Nat.le_of_ble_eq_true rfl) rfl | exact load_boxA rfl lay34 rfl rfl (Nat.le_of_ble_eq_true rfl) rfl) ?_
  refine s_yes rfl rfl rfl ?_
  refine s_rd _ rfl (rd_litF [.const (Value.bool Bool.true), .const (Value.bool Bool.false), .const (Value.bool Bool.true)] rfl sel31 zero4 rfl rfl rfl rfl rfl) ?_
  refine s_yes rfl rfl rfl ?_
  refine s_rd _ rfl (rd_litF [.const (Value.int IntKind.i64 0), .const (Value.int IntKind.i64 2)] rfl sel32 zero3 rfl rfl rfl rfl rfl) ?_
  refine s_yes rfl rfl rfl ?_
  refine s_rd _ rfl (by first | exact build_d rfl plc34 zero34 rfl rfl rfl rfl | exact rd_build rfl plc34 zero34 rfl rfl rfl rfl) ?_
  refine s_yes rfl rfl rfl ?_
  refine s_rd _ rfl (rd_callRD rfl rfl rfl ((sameR_n mB mB mB_wf mB_wf).retD)) ?_
  refine s_eq 28 (.d (.bool true)) rfl (av_bool (by kernel_rfl)) ?_
  refine s_rd _ rfl (by first | exact pick_Td rfl rfl rfl | exact pick_T rfl rfl rfl) ?_
  refine s_rd _ rfl (mv_d (.inl rfl) rfl) ?_
  refine s_yes rfl rfl rfl ?_
  refine s_rd _ rfl (by first | exact load_boxA_d rfl lay34 rfl rfl (Nat.le_of_ble_eq_true rfl) rfl | exact load_boxA rfl lay34 rfl rfl (Nat.le_of_ble_eq_true rfl) rfl) ?_
  refine s_yes rfl rfl rfl ?_
  refine s_rd _ rfl (rd_litF [.const (Value.bool Bool.false), .const (Value.bool Bool.true), .const (Value.bool Bool.false)] rfl sel31 zero4 rfl rfl rfl rfl rfl) ?_
  refine s_yes rfl rfl rfl ?_
  refine s_rd _ rfl (rd_litF [.const (Value.int IntKind.i64 0), .const (Value.int IntKind.i64 0)] rfl sel32 zero3 rfl rfl rfl rfl rfl) ?_
  refine s_yes rfl rfl rfl ?_
  refine s_rd _ rfl (by first | exact build_d rfl plc34 zero34 rfl rfl rfl rfl | exact rd_build rfl plc34 zero34 rfl rfl rfl rfl) ?_
  refine s_yes rfl rfl rfl ?_
  refine s_rd _ rfl (rd_callRD rfl rfl rfl ((sameR_n mC mC mC_wf mC_wf).retD)) ?_
  refine s_eq 35 (.d (.bool true)) rfl (av_bool (by kernel_rfl)) ?_
  refine s_rd _ rfl (by first | exact pick_Td rfl rfl rfl | exact pick_T rfl rfl rfl) ?_
  refine s_rd _ rfl (mv_d (.inl rfl) rfl) ?_
  refine s_yes rfl rfl rfl ?_
  refine s_rd _ rfl (by first | exact load_boxA_d rfl lay25 rfl rfl (Nat.le_of_ble_eq_true rfl) rfl | exact load_boxA rfl lay25 rfl rfl (Nat.le_of_ble_eq_true rfl) rfl) ?_
  refine s_yes rfl rfl rfl ?_
  refine s_rd _ rfl (rd_callRD rfl rfl rfl ((checkP_n exP exP_wf).retD)) ?_
  refine s_yes rfl rfl rfl ?_
  refine s_rd _ rfl (cmp_int rfl rfl rfl rfl) ?_
  refine s_eq 40 (.d (.bool true)) rfl (av_bool (by kernel_rfl)) ?_
  refine s_rd _ rfl (by first | exact pick_Td rfl rfl rfl | exact pick_T rfl rfl rfl) ?_
  refine s_rd _ rfl (mv_d (.inl rfl) rfl) ?_
  refine s_yes rfl rfl rfl ?_
  refine s_rd _ rfl (by first | exact load_boxA_d rfl lay25 rfl rfl (Nat.le_of_ble_eq_true rfl) rfl | exact load_boxA rfl lay25 rfl rfl (Nat.le_of_ble_eq_true rfl) rfl) ?_
  refine s_yes rfl rfl rfl ?_
  refine s_rd _ rfl (by first | exact load_boxA_d rfl lay34 rfl rfl (Nat.le_of_ble_eq_true rfl) rfl | exact load_boxA rfl lay34 rfl rfl (Nat.le_of_ble_eq_true rfl) rfl) ?_
  refine s_yes rfl rfl rfl ?_
  refine s_rd _ rfl (rd_callRD rfl rfl rfl ((fitsP_n exP mA exP_wf mA_wf).retD)) ?_
  refine s_eq 45 (.d (.bool true)) rfl (av_bool (by kernel_rfl)) ?_
  refine s_rd _ rfl (by first | exact pick_Td rfl rfl rfl | exact pick_T rfl rfl rfl) ?_
  refine s_rd _ rfl (mv_d (.inl rfl) rfl) ?_
  refine s_yes rfl rfl rfl ?_
  refine s_rd _ rfl (by first | exact load_boxA_d rfl lay25 rfl rfl (Nat.le_of_ble_eq_true rfl) rfl | exact load_boxA rfl lay25 rfl rfl (Nat.le_of_ble_eq_true rfl) rfl) ?_
  refine s_yes rfl rfl rfl ?_
  refine s_rd _ rfl (rd_litF [.const (Value.bool Bool.true)] rfl sel31 zero4 rfl rfl rfl rfl rfl) ?_
  refine s_yes rfl rfl rfl ?_
  refine s_rd _ rfl (by first | exact build_d rfl plc34 zero34 rfl rfl rfl rfl | exact rd_build rfl plc34 zero34 rfl rfl rfl rfl) ?_
  refine s_yes rfl rfl rfl ?_
  refine s_rd _ rfl (rd_callRD rfl rfl rfl ((fitsP_n exP mD exP_wf mD_wf).retD.args (.cons (.refl _) (.cons (nilMch [true]) .nil)))) ?_
  refine s_yes rfl rfl rfl ?_
  refine s_rd _ rfl (not_b rfl rfl rfl) ?_
  refine s_eq 52 (.d (.bool true)) rfl (av_bool (by kernel_rfl)) ?_
  refine s_rd _ rfl (by first | exact pick_Td rfl rfl rfl | exact pick_T rfl rfl rfl) ?_
  refine s_rd _ rfl (mv_d (.inl rfl) rfl) ?_
  refine s_yes rfl rfl rfl ?_
  refine s_rd _ rfl (by first | exact load_boxA_d rfl lay34 rfl rfl (Nat.le_of_ble_eq_true rfl) rfl | exact load_boxA rfl lay34 rfl rfl (Nat.le_of_ble_eq_true rfl) rfl) ?_
  refine s_yes rfl rfl rfl ?_
  refine s_rd _ rfl (by first | exact load_boxA_d rfl lay34 rfl rfl (Nat.le_of_ble_eq_true rfl) rfl | exact load_boxA rfl lay34 rfl rfl (Nat.le_of_ble_eq_true rfl) rfl) ?_
  refine s_yes rfl rfl rfl ?_
  refine s_rd _ rfl (rd_callRD rfl rfl rfl ((sameP_n mA mA mA_wf mA_wf).retD)) ?_
  refine s_eq 57 (.d (.bool true)) rfl (av_bool (by kernel_rfl)) ?_
  refine s_rd _ rfl (by first | exact pick_Td rfl rfl rfl | exact pick_T rfl rfl rfl) ?_
  refine s_rd _ rfl (mv_d (.inl rfl) rfl) ?_
  refine s_yes rfl rfl rfl ?_
  refine s_rd _ rfl (by first | exact load_boxA_d rfl lay34 rfl rfl (Nat.le_of_ble_eq_true rfl) rfl | exact load_boxA rfl lay34 rfl rfl (Nat.le_of_ble_eq_true rfl) rfl) ?_
  refine s_yes rfl rfl rfl ?_
  refine s_rd _ rfl (by first | exact load_boxA_d rfl lay34 rfl rfl (Nat.le_of_ble_eq_true rfl) rfl | exact load_boxA rfl lay34 rfl rfl (Nat.le_of_ble_eq_true rfl) rfl) ?_
  refine s_yes rfl rfl rfl ?_
  refine s_rd _ rfl (rd_callRD rfl rfl rfl ((sameP_n mA mB mA_wf mB_wf).retD)) ?_
  refine s_yes rfl rfl rfl ?_
  refine s_rd _ rfl (not_b rfl rfl rfl) ?_
  refine s_eq 63 (.d (.bool true)) rfl (av_bool (by kernel_rfl)) ?_
  refine s_rd _ rfl (by first | exact pick_Td rfl rfl rfl | exact pick_T rfl rfl rfl) ?_
  refine s_rd _ rfl (mv_d (.inl rfl) rfl) ?_
  refine s_yes rfl rfl rfl ?_
  refine s_rd _ rfl (by first | exact load_boxA_d rfl lay25 rfl rfl (Nat.le_of_ble_eq_true rfl) rfl | exact load_boxA rfl lay25 rfl rfl (Nat.le_of_ble_eq_true rfl) rfl) ?_
  refine s_yes rfl rfl rfl ?_
  refine s_rd _ rfl (rd_callRD rfl rfl rfl (haltP_d exP exP_wf (by decide) (by decide))) ?_
  refine s_yes rfl rfl rfl ?_
  refine s_rd _ rfl (by first | exact rd_fieldvD rfl fldv34_2 rfl rfl rfl | exact rd_fieldv rfl fldv34_2 rfl rfl rfl) ?_
  refine s_eq 68 (.d (.bool true)) rfl (av_bool (by kernel_rfl)) ?_
  refine s_rd _ rfl (by first | exact pick_Td rfl rfl rfl | exact pick_T rfl rfl rfl) ?_
  refine s_rd _ rfl (mv_d (.inr rfl) rfl) ?_
  refine tops_nil ?_
  refine twp_norm [0] (sub_d rfl .nil) (blk_box rfl (blk_box rfl (blk_box rfl (blk_box rfl (blk_nil rfl))))) ?_
  refine twp_ret ?_
  exact Ends.plain _ rfl

theorem alive_n : RetN Try.prog 10 [] (.bool true) := .unit (ds := []) alive_step rfl

end Go.Proofs.Yteedddlipoonoaa
