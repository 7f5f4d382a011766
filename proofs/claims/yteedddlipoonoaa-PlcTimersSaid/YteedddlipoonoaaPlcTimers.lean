/- PlcTimers: whatever the number and the inputs, for a timer of 1 to 60 scans of an input, in at most 100 scans, its variable is true exactly if the input was true in each of the last scans; and the law returns true, with its arguments as they were. No condition. -/
import Derived.Test.YteedddlipoonoaaPlcU
import Derived.KernelRfl
set_option linter.unusedSimpArgs false
set_option linter.unusedVariables false
namespace Go.Proofs.Yteedddlipoonoaa
open Go Go.TL Go.ChangeShapes Go.WideShapes Go.ChangeAt Go.RowKit

/-- The program with one timer. -/
def timP (n : Int) : Prg := ⟨[⟨#[105, 110]⟩, ⟨#[111, 110]⟩], 1, [⟨2, 1, n, .mk 3 0 []⟩]⟩
theorem timP_wf (n : Int) (hn : I64 n) : (timP n).Wf := by
  refine ⟨by show 2 ≤ 9223372036854775807; omega, by show I64 1; decide, by show 1 ≤ 9223372036854775807; omega, fun r hr => ?_⟩
  simp only [timP, List.mem_cons, List.not_mem_nil, or_false] at hr
  subst hr
  exact ⟨by show I64 2; decide, by show I64 1; decide, hn, Ex.Wf.leaf 3 0 (by decide) (by decide)⟩
theorem timP_check (n : Int) (h1 : 1 ≤ n) (h2 : n ≤ 60) : (timP n).check = 0 := by
  have hf : (Ex.mk 3 0 []).valid ((2 : Nat) : Int) = true := by decide +kernel
  have hr : (timP n).right ⟨2, 1, n, .mk 3 0 []⟩ = true := by
    unfold Prg.right
    have e : (timP n).names.length = 2 := rfl
    rw [e, hf]
    have e2 : (timP n).inputs = 1 := rfl
    rw [e2]
    simp
    omega
  have ha : (timP n).rungs.all (timP n).right = true := by
    show (List.all [(⟨2, 1, n, .mk 3 0 []⟩ : Rung)] (timP n).right) = true
    simp only [List.all_cons, hr, List.all_nil, Bool.and_self]
  have e1 : (timP n).names.length = 2 := rfl
  have e2 : (timP n).inputs = 1 := rfl
  have e3 : (timP n).rungs.map Rung.var = [1] := rfl
  unfold Prg.check
  rw [e1, e2, e3, ha]
  simp
/-- For how long the input has been true. -/
def lastOf (l : List Bool) : Nat → Int
  | 0 => 0
  | i + 1 => if l[i]? = some true then lastOf l i + 1 else 0
theorem lastOf_range (l : List Bool) : ∀ i, 0 ≤ lastOf l i ∧ lastOf l i ≤ i
  | 0 => ⟨by simp [lastOf], by simp [lastOf]⟩
  | i + 1 => by
    have := lastOf_range l i
    simp only [lastOf]
    split <;> omega
/-- The machine after i scans. -/
def timM (n : Int) (l : List Bool) : Nat → Mch
  | 0 => ⟨[false, false], [0], false⟩
  | i + 1 => ⟨[l.getD i false, decide (n ≤ lastOf l (i + 1))], [min (lastOf l (i + 1)) n], false⟩
theorem timM_count (n : Int) (h1 : 1 ≤ n) (l : List Bool) (i : Nat) : ∃ a, timM n l i = ⟨[a, decide (n ≤ lastOf l i)], [min (lastOf l i) n], false⟩ := by
  cases i with
  | zero =>
    refine ⟨false, ?_⟩
    show (⟨[false, false], [0], false⟩ : Mch) = ⟨[false, decide (n ≤ 0)], [min 0 n], false⟩
    rw [decide_eq_false (show ¬ n ≤ 0 by omega), Int.min_eq_left (by omega)]
  | succ i => exact ⟨_, rfl⟩
theorem timM_fits (n : Int) (h1 : 1 ≤ n) (h2 : n ≤ 60) (l : List Bool) (i : Nat) : (timP n).fits (timM n l i) = true := by
  obtain ⟨a, ha⟩ := timM_count n h1 l i
  rw [ha]
  refine Prg.fits_of (timP_check n h1 h2) rfl rfl fun j c r hc hr => ?_
  have := lastOf_range l i
  match j, hc, hr with
  | 0, hc, hr =>
    have hc : min (lastOf l i) n = c := Option.some.inj hc
    have hr : (⟨2, 1, n, .mk 3 0 []⟩ : Rung) = r := Option.some.inj hr
    subst hr hc
    show 0 ≤ min (lastOf l i) n ∧ min (lastOf l i) n ≤ n
    omega
  | j + 1, hc, _ => simp at hc
theorem timM_wf (n : Int) (h1 : 1 ≤ n) (h2 : n ≤ 60) (l : List Bool) (i : Nat) : (timM n l i).Wf := by
  obtain ⟨a, ha⟩ := timM_count n h1 l i
  have := lastOf_range l i
  rw [ha]
  refine ⟨by show 2 ≤ 9223372036854775807; omega, by show 1 ≤ 9223372036854775807; omega, fun c hc => ?_⟩
  have hc : c = min (lastOf l i) n := by simpa using hc
  subst hc
  unfold I64
  omega
theorem timP_start (n : Int) (h1 : 1 ≤ n) (h2 : n ≤ 60) (l : List Bool) : (timP n).start = timM n l 0 := by
  unfold Prg.start
  rw [if_pos (timP_check n h1 h2)]
  rfl
theorem timM_succ (n : Int) (h1 : 1 ≤ n) (h2 : n ≤ 60) {l : List Bool} {i : Nat} {b : Bool} (hb : l[i]? = some b) : (timP n).scan (timM n l i) [b, true] = timM n l (i + 1) := by
  have hf := timM_fits n h1 h2 l i
  obtain ⟨a, ha⟩ := timM_count n h1 l i
  have hr := lastOf_range l i
  have hh : (timM n l i).halted = false := by rw [ha]
  unfold Prg.scan
  rw [if_neg (by simp [hh, hf]), ha]
  have hb2 : l.getD i false = b := by rw [List.getD_eq_getElem?_getD, hb]; rfl
  have hv : inVars [b, true] [a, decide (n ≤ lastOf l i)] (timP n).inputs.toNat = [b, decide (n ≤ lastOf l i)] := by
    show inVars [b, true] [a, decide (n ≤ lastOf l i)] 1 = _
    simp [inVars]
  have hs : scanTo (timP n).rungs [b, decide (n ≤ lastOf l i)] [min (lastOf l i) n] (timP n).rungs.length = scanTo [⟨2, 1, n, .mk 3 0 []⟩] [b, decide (n ≤ lastOf l i)] [min (lastOf l i) n] 1 := rfl
  simp only [hv, hs]
  rw [scanTo_succ (r := ⟨2, 1, n, .mk 3 0 []⟩) rfl, scanTo_zero]
  have he : (Ex.mk 3 0 []).eval [b, decide (n ≤ lastOf l i)] = b := by
    rw [Ex.eval_eq]
    show (if (3 : Int) = 2 then true else if (3 : Int) = 3 then Ex.look [b, decide (n ≤ lastOf l i)] 0 else _) = b
    rfl
  simp only [timM, hb2]
  have hl : lastOf l (i + 1) = if b = true then lastOf l i + 1 else 0 := by
    simp only [lastOf, hb]
    cases b <;> simp
  show (⟨[b, decide (n ≤ lastOf l i)].set (1 : Int).toNat (Rung.tick ⟨2, 1, n, .mk 3 0 []⟩ ([min (lastOf l i) n].getD 0 0) ((Ex.mk 3 0 []).eval [b, decide (n ≤ lastOf l i)])).2, [min (lastOf l i) n].set 0 (Rung.tick ⟨2, 1, n, .mk 3 0 []⟩ ([min (lastOf l i) n].getD 0 0) ((Ex.mk 3 0 []).eval [b, decide (n ≤ lastOf l i)])).1, false⟩ : Mch) = _
  rw [he, tick_min rfl h1 (by show min (lastOf l i) n ≤ n; omega), hl]
  show (⟨[b, _], [_], false⟩ : Mch) = _
  have e1 : ([min (lastOf l i) n] : List Int).getD 0 0 = min (lastOf l i) n := rfl
  rw [e1]
  have e2 : (if b = true then min (min (lastOf l i) n + 1) n else 0) = min (if b = true then lastOf l i + 1 else 0) n := by
    cases b <;> simp <;> omega
  have e3 : decide ((if b = true then min (min (lastOf l i) n + 1) n else 0) = n) = decide (n ≤ if b = true then lastOf l i + 1 else 0) := by
    rw [decide_eq_decide]
    cases b <;> simp <;> omega
  show (⟨[b, decide ((if b = true then min (min (lastOf l i) n + 1) n else 0) = n)], [if b = true then min (min (lastOf l i) n + 1) n else 0], false⟩ : Mch) = _
  rw [e3, e2]

theorem callB8 : callB Try.prog 8 = true := by kernel_rfl

theorem plcTimers_ret (n : Int) (l : List Bool) (hn : I64 n) : Ret Try.prog 8 [] (fun _ => false) ([D.int .i64 n, bools l].map .d) (.d (.bool true)) [] := by
  refine ret_body callB8 Try.func8 rfl Try.ntmps8 rfl rfl (fun wX gX => ?_)
  refine twp_norm [0, 1] (sub_d rfl (sub_d rfl .nil)) (blk_nil rfl) ?_
  refine twp_rseq ?_
  refine s_rd _ rfl (mv_d (.inr rfl) rfl) ?_
  refine tops_nil ?_
  refine twp_norm [0, 1] (sub_d rfl (sub_d rfl .nil)) (blk_nil rfl) ?_
  refine twp_seq ?_
  refine twp_rseq ?_
  refine s_rd _ rfl (mv_d (.inl rfl) rfl) ?_
  refine s_rd _ rfl (cmp_int rfl rfl rfl rfl) ?_
  refine s_rd _ rfl (mv_d (.inl rfl) rfl) ?_
  refine s_split 11 rfl (fun h1 => ?_) (fun h1 => ?_)
  · refine s_no rfl rfl rfl rfl ?_
    refine s_no rfl rfl rfl rfl ?_
    refine s_rd _ rfl (by first | exact pick_Td rfl rfl rfl | exact pick_T rfl rfl rfl) ?_
    refine s_rd _ rfl (mv_d (.inl rfl) rfl) ?_
    refine s_no rfl rfl rfl rfl ?_
    refine s_no rfl rfl rfl rfl ?_
    refine s_no rfl rfl rfl rfl ?_
    refine s_rd _ rfl (by first | exact pick_Td rfl rfl rfl | exact pick_T rfl rfl rfl) ?_
    refine tops_nil ?_
    refine twp_norm [0, 1, 19] (sub_d rfl (sub_d rfl (sub_d rfl .nil))) (blk_nil rfl) ?_
    refine twp_cond true rfl (fun _ => ?_) (fun h => by cases h)
    refine twp_rseq ?_
    refine s_rd _ rfl (rd_callRN rfl rfl snaps_nil alive_n) ?_
    refine s_rd _ rfl (mv_d (.inr rfl) rfl) ?_
    refine tops_nil ?_
    refine twp_norm [4] (sub_d rfl .nil) (blk_nil rfl) ?_
    refine twp_ret ?_
    refine way_thenRet ?_
    exact Ends.plain _ rfl
  · have h1 : 1 ≤ n := by simp at h1; omega
    refine s_yes rfl rfl rfl ?_
    refine s_rd _ rfl (mv_d (.inl rfl) rfl) ?_
    refine s_yes rfl rfl rfl ?_
    refine s_rd _ rfl (cmp_int rfl rfl rfl rfl) ?_
    refine s_rd _ rfl (by first | exact pick_Fd rfl rfl rfl | exact pick_F rfl rfl rfl) ?_
    refine s_rd _ rfl (mv_d (.inl rfl) rfl) ?_
    refine s_split 15 rfl (fun h2 => ?_) (fun h2 => ?_)
    · refine s_no rfl rfl rfl rfl ?_
      refine s_no rfl rfl rfl rfl ?_
      refine s_no rfl rfl rfl rfl ?_
      refine s_rd _ rfl (by first | exact pick_Td rfl rfl rfl | exact pick_T rfl rfl rfl) ?_
      refine tops_nil ?_
      refine twp_norm [0, 1, 19] (sub_d rfl (sub_d rfl (sub_d rfl .nil))) (blk_nil rfl) ?_
      refine twp_cond true rfl (fun _ => ?_) (fun h => by cases h)
      refine twp_rseq ?_
      refine s_rd _ rfl (rd_callRN rfl rfl snaps_nil alive_n) ?_
      refine s_rd _ rfl (mv_d (.inr rfl) rfl) ?_
      refine tops_nil ?_
      refine twp_norm [4] (sub_d rfl .nil) (blk_nil rfl) ?_
      refine twp_ret ?_
      refine way_thenRet ?_
      exact Ends.plain _ rfl
    · have h2 : n ≤ 60 := by simp at h2; omega
      refine s_yes rfl rfl rfl ?_
      refine s_rd _ rfl (mv_d (.inl rfl) rfl) ?_
      refine s_yes rfl rfl rfl ?_
      refine s_rd _ rfl (by first | exact len_d rfl sel31 rfl (by first | exact List.length_map _ | rfl) | exact len_nil rfl sel31 rfl) ?_
      refine s_yes rfl rfl rfl ?_
      refine s_rd _ rfl (cmp_int rfl rfl rfl rfl) ?_
      refine s_rd _ rfl (by first | exact pick_Fd rfl rfl rfl | exact pick_F rfl rfl rfl) ?_
      refine tops_nil ?_
      refine twp_norm [0, 1, 19] (sub_d rfl (sub_d rfl (sub_d rfl .nil))) (blk_nil rfl) ?_
      refine twp_cond _ rfl (fun h3 => ?_) (fun h3 => ?_)
      · refine twp_rseq ?_
        refine s_rd _ rfl (rd_callRN rfl rfl snaps_nil alive_n) ?_
        refine s_rd _ rfl (mv_d (.inr rfl) rfl) ?_
        refine tops_nil ?_
        refine twp_norm [4] (sub_d rfl .nil) (blk_nil rfl) ?_
        refine twp_ret ?_
        refine way_thenRet ?_
        exact Ends.plain _ rfl
      · have h3 : l.length ≤ 100 := by simp at h3; omega
        have hwf := timP_wf n hn
        refine twp_skip ?_
        refine way_then ?_
        refine twp_norm [0, 1] (sub_d rfl (sub_d rfl .nil)) (blk_nil rfl) ?_
        refine twp_rseq ?_
        refine s_rd _ rfl (rd_litF [.const (Value.string ⟨#[105, 110]⟩), .const (Value.string ⟨#[111, 110]⟩)] rfl sel22 zero9 rfl rfl rfl rfl rfl) ?_
        refine s_rd _ rfl (mv_d (.inl rfl) rfl) ?_
        refine s_rd _ rfl (rd_callRD rfl rfl rfl (variable_d 0)) ?_
        refine s_rd _ rfl (by first | exact build_d rfl plc50 zero50 rfl rfl rfl rfl | exact rd_build rfl plc50 zero50 rfl rfl rfl rfl) ?_
        refine s_rd _ rfl (rd_litF [.tmp 24] rfl sel23 zero50 rfl rfl rfl rfl rfl) ?_
        refine s_rd _ rfl (by first | exact build_d rfl plc25 zero25 rfl rfl rfl rfl | exact rd_build rfl plc25 zero25 rfl rfl rfl rfl) ?_
        refine s_alloc rfl zero25 rfl rfl ?_
        refine s_eq 5 (.mptr 0 0 0 0) rfl rfl ?_
        refine s_store_box lay25 rfl rfl rfl rfl rfl (Nat.le_of_ble_eq_true rfl) rfl ?_
        refine tops_nil ?_
        refine twp_norm [0, 1, 5] (sub_d rfl (sub_d rfl (sub_mptr rfl .nil))) (blk_boxN rfl (by repeat (first | exact NormC.nil rfl | apply nc_d rfl | apply nc_msl rfl | apply nc_mptr rfl | apply nc_fnc rfl)) (blk_nil rfl)) ?_
        refine twp_rseq ?_
        refine s_rd _ rfl (by first | exact load_boxA_d rfl lay25 rfl rfl (Nat.le_of_ble_eq_true rfl) rfl | exact load_boxA rfl lay25 rfl rfl (Nat.le_of_ble_eq_true rfl) rfl) ?_
        refine s_rd _ rfl (rd_callRD rfl rfl rfl ((startP_d (timP n) hwf (by show 2 ≤ 100000; omega) (by show 1 ≤ 100000; omega)).to (congrArg Mch.enc (timP_start n h1 h2 l)))) ?_
        refine s_alloc rfl zero34 rfl rfl ?_
        refine s_eq 6 (.mptr 1 0 0 0) rfl rfl ?_
        refine s_store_box lay34 rfl rfl rfl rfl rfl (Nat.le_of_ble_eq_true rfl) rfl ?_
        refine tops_nil ?_
        refine twp_norm [0, 1, 5, 6] (sub_d rfl (sub_d rfl (sub_mptr rfl (sub_mptr rfl .nil)))) (blk_box rfl (blk_boxN rfl (by repeat (first | exact NormC.nil rfl | apply nc_d rfl | apply nc_msl rfl | apply nc_mptr rfl | apply nc_fnc rfl)) (blk_nil rfl))) ?_
        refine twp_rseq ?_
        refine s_rd _ rfl (mv_d (.inr rfl) rfl) ?_
        refine tops_nil ?_
        refine twp_norm [0, 1, 5, 6, 7] (sub_d rfl (sub_d rfl (sub_mptr rfl (sub_mptr rfl (sub_d rfl .nil))))) (blk_box rfl (blk_box rfl (blk_nil rfl))) ?_
        refine twp_seq ?_
        refine twp_rseq ?_
        refine s_rd _ rfl (mv_d (.inr rfl) rfl) ?_
        refine tops_nil ?_
        refine twp_norm [0, 1, 5, 6, 7, 8] (sub_d rfl (sub_d rfl (sub_mptr rfl (sub_mptr rfl (sub_d rfl (sub_d rfl .nil)))))) (blk_box rfl (blk_box rfl (blk_nil rfl))) ?_
        refine twp_block ?_
        refine twp_whileK (fun i => ([(7, .d (.int .i64 (lastOf l i))), (8, .d (.int .i64 ((i : Nat) : Int)))] : Fr)) (fun i => ([(1, .box 34 [.d (.sl 1 ((timM n l i).vars.map D.bool)), .d (.sl 1 ((timM n l i).counts.map (D.int .i64))), .d (.bool (timM n l i).halted)])] : List (Nat × Blk))) (fun i => i ≤ l.length) (fun i => l.length - i) [7, 8] [0, 1, 5, 6] [0, 1] 0 (by decide) (fun i hi => absurd hi (Nat.not_lt_zero i)) (Nat.zero_le _) (sub_d rfl (sub_d rfl (sub_mptr rfl (sub_mptr rfl .nil)))) rfl rfl (blk_box rfl (blk_box rfl (blk_nil rfl))) rfl ?_
        rintro i hok
        refine twp_norm [7, 8, 0, 1, 5, 6] (sub_d rfl (sub_d rfl (sub_d rfl (sub_d rfl (sub_mptr rfl (sub_mptr rfl .nil)))))) (blk_box rfl (blk_box rfl (blk_nil rfl))) ?_
        refine twp_seq ?_
        refine twp_rseq ?_
        refine s_rd _ rfl (mv_d (.inl rfl) rfl) ?_
        refine s_rd _ rfl (mv_d (.inl rfl) rfl) ?_
        refine s_rd _ rfl (by first | exact len_d rfl sel31 rfl (by first | exact List.length_map _ | rfl) | exact len_nil rfl sel31 rfl) ?_
        refine s_rd _ rfl (cmp_int rfl rfl rfl rfl) ?_
        refine tops_nil ?_
        refine twp_norm [0, 1, 5, 6, 7, 8, 32] (sub_d rfl (sub_d rfl (sub_mptr rfl (sub_mptr rfl (sub_d rfl (sub_d rfl (sub_d rfl .nil))))))) (blk_box rfl (blk_box rfl (blk_nil rfl))) ?_
        refine twp_cond _ rfl (fun hlt => ?_) (fun hlt => ?_)
        · have hlt : i < l.length := by simpa using hlt
          obtain ⟨b, hb⟩ : ∃ x, (l)[i]? = some x := ⟨_, List.getElem?_eq_getElem (by first | exact hlt | omega | (simp; omega))⟩
          have hrg := lastOf_range l i
          have hL0 : lastOf l (i + 1) = if b = true then lastOf l i + 1 else 0 := by simp only [lastOf, hb]; cases b <;> simp
          refine twp_skip ?_
          refine way_then ?_
          refine twp_norm [0, 1, 5, 6, 7, 8] (sub_d rfl (sub_d rfl (sub_mptr rfl (sub_mptr rfl (sub_d rfl (sub_d rfl .nil)))))) (blk_box rfl (blk_box rfl (blk_nil rfl))) ?_
          refine twp_seq ?_
          refine twp_block ?_
          refine twp_dseq follows  ?_
          first | refine d_rd [] _ rfl rfl (by first | exact load_boxA_d rfl lay25 rfl rfl (Nat.le_of_ble_eq_true rfl) rfl | exact load_boxA rfl lay25 rfl rfl (Nat.le_of_ble_eq_true rfl) rfl) ?_ | refine d_rd [0] _ rfl rfl (by first | exact load_boxA_d rfl lay25 rfl rfl (Nat.le_of_ble_eq_true rfl) rfl | exact load_boxA rfl lay25 rfl rfl (Nat.le_of_ble_eq_true rfl) rfl) ?_ | refine d_rd [1] _ rfl rfl (by first | exact load_boxA_d rfl lay25 rfl rfl (Nat.le_of_ble_eq_true rfl) rfl | exact load_boxA rfl lay25 rfl rfl (Nat.le_of_ble_eq_true rfl) rfl) ?_
          first | refine d_rd [] _ rfl rfl (by first | exact load_boxA_d rfl lay34 rfl rfl (Nat.le_of_ble_eq_true rfl) rfl | exact load_boxA rfl lay34 rfl rfl (Nat.le_of_ble_eq_true rfl) rfl) ?_ | refine d_rd [0] _ rfl rfl (by first | exact load_boxA_d rfl lay34 rfl rfl (Nat.le_of_ble_eq_true rfl) rfl | exact load_boxA rfl lay34 rfl rfl (Nat.le_of_ble_eq_true rfl) rfl) ?_ | refine d_rd [1] _ rfl rfl (by first | exact load_boxA_d rfl lay34 rfl rfl (Nat.le_of_ble_eq_true rfl) rfl | exact load_boxA rfl lay34 rfl rfl (Nat.le_of_ble_eq_true rfl) rfl) ?_
          refine d_rd [] _ rfl rfl (mv_d (.inl rfl) rfl) ?_
          refine d_rd [] _ rfl rfl (mv_d (.inl rfl) rfl) ?_
          refine d_rd [] _ rfl rfl (index_sl rfl sel31 rfl rfl (idx_map hb)) ?_
          first | refine d_rd [] _ rfl rfl (load_ptr rfl lay4 rfl rfl) ?_ | refine d_rd [0] _ rfl rfl (load_ptr rfl lay4 rfl rfl) ?_ | refine d_rd [1] _ rfl rfl (load_ptr rfl lay4 rfl rfl) ?_
          refine d_rd [] _ rfl rfl (rd_litF [.tmp 40, .const (Value.bool Bool.true)] rfl sel31 zero4 rfl rfl rfl rfl rfl) ?_
          first | refine d_rd [] _ rfl rfl (rd_callRD rfl rfl rfl ((scanP_d (timP n) (timM n l i) [b, true] hwf (timM_wf n h1 h2 l i) (by show 2 ≤ 100000; omega) (by show 1 ≤ 100000; omega)).to (congrArg Mch.enc (timM_succ n h1 h2 hb)))) ?_ | refine d_rd [0] _ rfl rfl (rd_callRD rfl rfl rfl ((scanP_d (timP n) (timM n l i) [b, true] hwf (timM_wf n h1 h2 l i) (by show 2 ≤ 100000; omega) (by show 1 ≤ 100000; omega)).to (congrArg Mch.enc (timM_succ n h1 h2 hb)))) ?_ | refine d_rd [1] _ rfl rfl (rd_callRD rfl rfl rfl ((scanP_d (timP n) (timM n l i) [b, true] hwf (timM_wf n h1 h2 l i) (by show 2 ≤ 100000; omega) (by show 1 ≤ 100000; omega)).to (congrArg Mch.enc (timM_succ n h1 h2 hb)))) ?_
          refine d_tail ?_ (by kernel_rfl)
          refine s_store_box lay34 rfl rfl rfl rfl rfl (Nat.le_of_ble_eq_true rfl) rfl ?_
          refine tops_nil ?_
          refine twp_norm [0, 1, 5, 6, 7, 8] (sub_d rfl (sub_d rfl (sub_mptr rfl (sub_mptr rfl (sub_d rfl (sub_d rfl .nil)))))) (blk_box rfl (blk_boxN rfl (by repeat (first | exact NormC.nil rfl | apply nc_d rfl | apply nc_msl rfl | apply nc_mptr rfl | apply nc_fnc rfl)) (blk_nil rfl))) ?_
          refine twp_rseq ?_
          refine s_rd _ rfl (mv_d (.inl rfl) rfl) ?_
          refine s_rd _ rfl (arith_ok rfl rfl rfl rfl (by omega)) ?_
          refine s_rd _ rfl (mv_d (.inr rfl) rfl) ?_
          refine tops_nil ?_
          refine twp_norm [0, 1, 5, 6, 7, 8] (sub_d rfl (sub_d rfl (sub_mptr rfl (sub_mptr rfl (sub_d rfl (sub_d rfl .nil)))))) (blk_box rfl (blk_box rfl (blk_nil rfl))) ?_
          refine twp_seq ?_
          refine twp_rseq ?_
          refine s_rd _ rfl (mv_d (.inl rfl) rfl) ?_
          refine s_rd _ rfl (mv_d (.inl rfl) rfl) ?_
          refine s_rd _ rfl (index_sl rfl sel31 rfl rfl (idx_map hb)) ?_
          refine s_rd _ rfl (load_ptr rfl lay4 rfl rfl) ?_
          refine s_rd _ rfl (not_b rfl rfl rfl) ?_
          refine tops_nil ?_
          refine twp_norm [0, 1, 5, 6, 7, 8, 49] (sub_d rfl (sub_d rfl (sub_mptr rfl (sub_mptr rfl (sub_d rfl (sub_d rfl (sub_d rfl .nil))))))) (blk_box rfl (blk_box rfl (blk_nil rfl))) ?_
          refine twp_cond _ rfl (fun hnb => ?_) (fun hnb => ?_)
          · have hnb : b = false := by simpa using hnb
            have hL : lastOf l (i + 1) = 0 := by rw [hL0, hnb]; rfl
            refine twp_region ?_
            refine s_rd _ rfl (mv_d (.inr rfl) rfl) ?_
            refine tops_nil ?_
            refine way_then ?_
            refine twp_norm [0, 1, 5, 6, 7, 8] (sub_d rfl (sub_d rfl (sub_mptr rfl (sub_mptr rfl (sub_d rfl (sub_d rfl .nil)))))) (blk_box rfl (blk_box rfl (blk_nil rfl))) ?_
            refine twp_rseq ?_
            refine s_rd _ rfl (fieldAddr_mptr rfl fld34_0 rfl rfl) ?_
            refine s_rd _ rfl (by first | exact load_box_d rfl lay31 rfl rfl rfl | exact load_box rfl lay31 rfl rfl rfl) ?_
            refine s_rd _ rfl (by first | exact len_d rfl sel31 rfl (by first | exact List.length_map _ | rfl) | exact len_msl rfl sel31 rfl | exact len_nil rfl sel31 rfl) ?_
            refine s_rd _ rfl (cmp_int rfl rfl rfl rfl) ?_
            refine s_eq 53 (.d (.bool false)) rfl rfl ?_
            refine s_rd _ rfl (mv_d (.inl rfl) rfl) ?_
            refine s_yes rfl rfl rfl ?_
            refine s_rd _ rfl (fieldAddr_mptr rfl fld34_0 rfl rfl) ?_
            refine s_yes rfl rfl rfl ?_
            refine s_rd _ rfl (by first | exact load_box_d rfl lay31 rfl rfl rfl | exact load_box rfl lay31 rfl rfl rfl) ?_
            refine s_yes rfl rfl rfl ?_
            refine s_rd _ rfl (by first | exact index_msl0 rfl sel31 rfl rfl (by first | assumption | omega | (simp; omega)) | exact index_sl rfl sel31 rfl rfl ⟨by decide, rfl⟩) ?_
            refine s_yes rfl rfl rfl ?_
            refine s_rd _ rfl (by first | exact load_ptr rfl lay4 rfl rfl | exact load_flat rfl lay4 rfl rfl (by first | rfl | assumption | (simp only [List.getElem?_map, Option.map_some, *]; done)) rfl | exact load_box_d rfl lay4 rfl rfl rfl | exact load_box rfl lay4 rfl rfl rfl) ?_
            refine s_yes rfl rfl rfl ?_
            refine s_rd _ rfl (mv_d (.inl rfl) rfl) ?_
            refine s_yes rfl rfl rfl ?_
            refine s_rd _ rfl (mv_d (.inl rfl) rfl) ?_
            refine s_yes rfl rfl rfl ?_
            refine s_rd _ rfl (cmp_int rfl rfl rfl rfl) ?_
            refine s_yes rfl rfl rfl ?_
            refine s_rd _ rfl (cmp_bool Try.underlying4 rfl rfl rfl rfl) ?_
            refine s_eq 62 (.d (.bool false)) rfl (av_bool (by rw [hL]; simp)) ?_
            refine s_rd _ rfl (by first | exact pick_Fd rfl rfl rfl | exact pick_F rfl rfl rfl) ?_
            refine s_rd _ rfl (mv_d (.inl rfl) rfl) ?_
            refine s_yes rfl rfl rfl ?_
            refine s_rd _ rfl (fieldAddr_mptr rfl fld34_1 rfl rfl) ?_
            refine s_yes rfl rfl rfl ?_
            refine s_rd _ rfl (by first | exact load_box_d rfl lay32 rfl rfl rfl | exact load_box rfl lay32 rfl rfl rfl) ?_
            refine s_yes rfl rfl rfl ?_
            refine s_rd _ rfl (by first | exact len_d rfl sel32 rfl (by first | exact List.length_map _ | rfl) | exact len_msl rfl sel32 rfl | exact len_nil rfl sel32 rfl) ?_
            refine s_yes rfl rfl rfl ?_
            refine s_rd _ rfl (cmp_int rfl rfl rfl rfl) ?_
            refine s_eq 68 (.d (.bool false)) rfl rfl ?_
            refine s_rd _ rfl (by first | exact pick_Fd rfl rfl rfl | exact pick_F rfl rfl rfl) ?_
            refine s_rd _ rfl (mv_d (.inl rfl) rfl) ?_
            refine s_yes rfl rfl rfl ?_
            refine s_rd _ rfl (fieldAddr_mptr rfl fld34_1 rfl rfl) ?_
            refine s_yes rfl rfl rfl ?_
            refine s_rd _ rfl (by first | exact load_box_d rfl lay32 rfl rfl rfl | exact load_box rfl lay32 rfl rfl rfl) ?_
            refine s_yes rfl rfl rfl ?_
            refine s_rd _ rfl (by first | exact index_msl0 rfl sel32 rfl rfl (by first | assumption | omega | (simp; omega)) | exact index_sl rfl sel32 rfl rfl ⟨by decide, rfl⟩) ?_
            refine s_yes rfl rfl rfl ?_
            refine s_rd _ rfl (by first | exact load_ptr rfl lay3 rfl rfl | exact load_flat rfl lay3 rfl rfl (by first | rfl | assumption | (simp only [List.getElem?_map, Option.map_some, *]; done)) rfl | exact load_box_d rfl lay3 rfl rfl rfl | exact load_box rfl lay3 rfl rfl rfl) ?_
            refine s_yes rfl rfl rfl ?_
            refine s_rd _ rfl (mv_d (.inl rfl) rfl) ?_
            refine s_yes rfl rfl rfl ?_
            refine s_rd _ rfl (mv_d (.inl rfl) rfl) ?_
            refine s_yes rfl rfl rfl ?_
            refine s_rd _ rfl (rd_min rfl rfl rfl rfl) ?_
            refine s_yes rfl rfl rfl ?_
            refine s_rd _ rfl (cmp_int rfl rfl rfl rfl) ?_
            refine s_eq 78 (.d (.bool false)) rfl (av_bool (by rw [hL]; simp)) ?_
            refine s_rd _ rfl (by first | exact pick_Fd rfl rfl rfl | exact pick_F rfl rfl rfl) ?_
            refine tops_nil ?_
            refine twp_norm [0, 1, 5, 6, 7, 8, 79] (sub_d rfl (sub_d rfl (sub_mptr rfl (sub_mptr rfl (sub_d rfl (sub_d rfl (sub_d rfl .nil))))))) (blk_box rfl (blk_box rfl (blk_nil rfl))) ?_
            refine twp_cond false rfl (fun h => by cases h) (fun _ => ?_)
            refine twp_skip ?_
            refine way_block ?_
            refine way_then ?_
            refine twp_norm [0, 1, 5, 6, 7, 8] (sub_d rfl (sub_d rfl (sub_mptr rfl (sub_mptr rfl (sub_d rfl (sub_d rfl .nil)))))) (blk_box rfl (blk_box rfl (blk_nil rfl))) ?_
            refine twp_region ?_
            refine s_rd _ rfl (mv_d (.inl rfl) rfl) ?_
            refine s_rd _ rfl (arith_ok rfl rfl rfl rfl (by omega)) ?_
            refine s_rd _ rfl (mv_d (.inr rfl) rfl) ?_
            refine tops_nil ?_
            refine way_then ?_
            exact ⟨(i + 1), [0, 1], by decide, (fun i hi => absurd hi (Nat.not_lt_zero i)), (by omega), (by omega), (by rw [hL]; rfl)⟩
          · have hnb : b = true := by simpa using hnb
            have hL : lastOf l (i + 1) = lastOf l i + 1 := by rw [hL0, if_pos hnb]
            refine twp_skip ?_
            refine way_then ?_
            refine twp_norm [0, 1, 5, 6, 7, 8] (sub_d rfl (sub_d rfl (sub_mptr rfl (sub_mptr rfl (sub_d rfl (sub_d rfl .nil)))))) (blk_box rfl (blk_box rfl (blk_nil rfl))) ?_
            refine twp_rseq ?_
            refine s_rd _ rfl (fieldAddr_mptr rfl fld34_0 rfl rfl) ?_
            refine s_rd _ rfl (by first | exact load_box_d rfl lay31 rfl rfl rfl | exact load_box rfl lay31 rfl rfl rfl) ?_
            refine s_rd _ rfl (by first | exact len_d rfl sel31 rfl (by first | exact List.length_map _ | rfl) | exact len_msl rfl sel31 rfl | exact len_nil rfl sel31 rfl) ?_
            refine s_rd _ rfl (cmp_int rfl rfl rfl rfl) ?_
            refine s_eq 53 (.d (.bool false)) rfl rfl ?_
            refine s_rd _ rfl (mv_d (.inl rfl) rfl) ?_
            refine s_yes rfl rfl rfl ?_
            refine s_rd _ rfl (fieldAddr_mptr rfl fld34_0 rfl rfl) ?_
            refine s_yes rfl rfl rfl ?_
            refine s_rd _ rfl (by first | exact load_box_d rfl lay31 rfl rfl rfl | exact load_box rfl lay31 rfl rfl rfl) ?_
            refine s_yes rfl rfl rfl ?_
            refine s_rd _ rfl (by first | exact index_msl0 rfl sel31 rfl rfl (by first | assumption | omega | (simp; omega)) | exact index_sl rfl sel31 rfl rfl ⟨by decide, rfl⟩) ?_
            refine s_yes rfl rfl rfl ?_
            refine s_rd _ rfl (by first | exact load_ptr rfl lay4 rfl rfl | exact load_flat rfl lay4 rfl rfl (by first | rfl | assumption | (simp only [List.getElem?_map, Option.map_some, *]; done)) rfl | exact load_box_d rfl lay4 rfl rfl rfl | exact load_box rfl lay4 rfl rfl rfl) ?_
            refine s_yes rfl rfl rfl ?_
            refine s_rd _ rfl (mv_d (.inl rfl) rfl) ?_
            refine s_yes rfl rfl rfl ?_
            refine s_rd _ rfl (mv_d (.inl rfl) rfl) ?_
            refine s_yes rfl rfl rfl ?_
            refine s_rd _ rfl (cmp_int rfl rfl rfl rfl) ?_
            refine s_yes rfl rfl rfl ?_
            refine s_rd _ rfl (cmp_bool Try.underlying4 rfl rfl rfl rfl) ?_
            refine s_eq 62 (.d (.bool false)) rfl (av_bool (by rw [hL]; simp)) ?_
            refine s_rd _ rfl (by first | exact pick_Fd rfl rfl rfl | exact pick_F rfl rfl rfl) ?_
            refine s_rd _ rfl (mv_d (.inl rfl) rfl) ?_
            refine s_yes rfl rfl rfl ?_
            refine s_rd _ rfl (fieldAddr_mptr rfl fld34_1 rfl rfl) ?_
            refine s_yes rfl rfl rfl ?_
            refine s_rd _ rfl (by first | exact load_box_d rfl lay32 rfl rfl rfl | exact load_box rfl lay32 rfl rfl rfl) ?_
            refine s_yes rfl rfl rfl ?_
            refine s_rd _ rfl (by first | exact len_d rfl sel32 rfl (by first | exact List.length_map _ | rfl) | exact len_msl rfl sel32 rfl | exact len_nil rfl sel32 rfl) ?_
            refine s_yes rfl rfl rfl ?_
            refine s_rd _ rfl (cmp_int rfl rfl rfl rfl) ?_
            refine s_eq 68 (.d (.bool false)) rfl rfl ?_
            refine s_rd _ rfl (by first | exact pick_Fd rfl rfl rfl | exact pick_F rfl rfl rfl) ?_
            refine s_rd _ rfl (mv_d (.inl rfl) rfl) ?_
            refine s_yes rfl rfl rfl ?_
            refine s_rd _ rfl (fieldAddr_mptr rfl fld34_1 rfl rfl) ?_
            refine s_yes rfl rfl rfl ?_
            refine s_rd _ rfl (by first | exact load_box_d rfl lay32 rfl rfl rfl | exact load_box rfl lay32 rfl rfl rfl) ?_
            refine s_yes rfl rfl rfl ?_
            refine s_rd _ rfl (by first | exact index_msl0 rfl sel32 rfl rfl (by first | assumption | omega | (simp; omega)) | exact index_sl rfl sel32 rfl rfl ⟨by decide, rfl⟩) ?_
            refine s_yes rfl rfl rfl ?_
            refine s_rd _ rfl (by first | exact load_ptr rfl lay3 rfl rfl | exact load_flat rfl lay3 rfl rfl (by first | rfl | assumption | (simp only [List.getElem?_map, Option.map_some, *]; done)) rfl | exact load_box_d rfl lay3 rfl rfl rfl | exact load_box rfl lay3 rfl rfl rfl) ?_
            refine s_yes rfl rfl rfl ?_
            refine s_rd _ rfl (mv_d (.inl rfl) rfl) ?_
            refine s_yes rfl rfl rfl ?_
            refine s_rd _ rfl (mv_d (.inl rfl) rfl) ?_
            refine s_yes rfl rfl rfl ?_
            refine s_rd _ rfl (rd_min rfl rfl rfl rfl) ?_
            refine s_yes rfl rfl rfl ?_
            refine s_rd _ rfl (cmp_int rfl rfl rfl rfl) ?_
            refine s_eq 78 (.d (.bool false)) rfl (av_bool (by rw [hL]; simp)) ?_
            refine s_rd _ rfl (by first | exact pick_Fd rfl rfl rfl | exact pick_F rfl rfl rfl) ?_
            refine tops_nil ?_
            refine twp_norm [0, 1, 5, 6, 7, 8, 79] (sub_d rfl (sub_d rfl (sub_mptr rfl (sub_mptr rfl (sub_d rfl (sub_d rfl (sub_d rfl .nil))))))) (blk_box rfl (blk_box rfl (blk_nil rfl))) ?_
            refine twp_cond false rfl (fun h => by cases h) (fun _ => ?_)
            refine twp_skip ?_
            refine way_block ?_
            refine way_then ?_
            refine twp_norm [0, 1, 5, 6, 7, 8] (sub_d rfl (sub_d rfl (sub_mptr rfl (sub_mptr rfl (sub_d rfl (sub_d rfl .nil)))))) (blk_box rfl (blk_box rfl (blk_nil rfl))) ?_
            refine twp_region ?_
            refine s_rd _ rfl (mv_d (.inl rfl) rfl) ?_
            refine s_rd _ rfl (arith_ok rfl rfl rfl rfl (by omega)) ?_
            refine s_rd _ rfl (mv_d (.inr rfl) rfl) ?_
            refine tops_nil ?_
            refine way_then ?_
            exact ⟨(i + 1), [0, 1], by decide, (fun i hi => absurd hi (Nat.not_lt_zero i)), (by omega), (by omega), (by rw [hL]; rfl)⟩
        · have hge : ¬ i < l.length := by simpa using hlt
          have hi : i = l.length := by omega
          refine twp_exit ?_
          refine way_thenExit ?_
          refine way_thenExit ?_
          refine way_here ?_
          refine way_then ?_
          refine twp_norm [] .nil (blk_box rfl (blk_box rfl (blk_nil rfl))) ?_
          refine twp_rseq ?_
          refine s_rd _ rfl (rd_callRN rfl rfl snaps_nil alive_n) ?_
          refine s_rd _ rfl (mv_d (.inr rfl) rfl) ?_
          refine tops_nil ?_
          refine twp_norm [4] (sub_d rfl .nil) (blk_box rfl (blk_box rfl (blk_nil rfl))) ?_
          refine twp_ret ?_
          exact Ends.plain _ rfl

theorem plcTimers_holds_args {H : Type} (ds : List (DataW H)) (h : ds.length = Try.f8.params.toList.length) : Rows.plcTimersSpec.fn H ds = { results := [.lit (.bool true)], args := ds } := by
  have h : ds.length = 2 := h
  match ds, h with
  | [d0, d1], _ => rfl
theorem plcTimers_holds_true (ds : List D) (h : ArgsOk Try.prog Try.f8.params.toList ds) : Ret Try.prog 8 [] (fun _ => false) (ds.map .d) (.d (.bool true)) [] := by
  have h : ArgsOk Try.prog [3, 31] ds := h
  match ds, h with
  | [_, _], ⟨⟨c0, _, t0, rfl⟩, ⟨⟨c1, _, t1, rfl⟩, _⟩⟩ =>
      obtain ⟨n, hn, e0⟩ := ty3n c0 t0
      obtain ⟨l, hl, e1⟩ := ty31 c1 t1
      simp only [e0, e1]
      exact (plcTimers_ret n l hn)
theorem plcTimers_holds : Rows.PlcTimersSaid :=
  OpenClaim.holds_of_wide 8 Try.f8 rfl rfl rfl rfl rfl rfl rfl ⟨rfl, rfl, rfl, rfl, rfl⟩ rfl rfl rfl rfl rfl (by kernel_rfl) Try.func8 (by kernel_rfl)
    (of_decide_eq_true (by kernel_rfl)) (by unfold Func.isWrapper; first | (rw [if_pos (by decide +kernel)]; kernel_rfl) | (rw [if_neg (by decide +kernel)]; exact ⟨rfl, rfl⟩))
    (fun os started H enc _ => law_lifted [3, 31, 4] (C := Try.checked) os own started laidOut (by kernel_rfl) Try.func8
      (ChangeSpec.witness6 (enc := enc) (C := Try.checked) false ⟨#[], #[.int .i64 0, .slice none 0 0], []⟩ 8 (by kernel_rfl) (by kernel_rfl) (by kernel_rfl) (by kernel_rfl)) (by kernel_rfl) rfl plcTimers_holds_args plcTimers_holds_true)

end Go.Proofs.Yteedddlipoonoaa
