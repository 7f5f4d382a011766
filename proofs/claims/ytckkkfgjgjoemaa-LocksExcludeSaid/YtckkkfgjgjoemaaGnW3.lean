/- The functions return what their models yield. No condition. -/
import Derived.Test.YtckkkfgjgjoemaaGnU
import Derived.Test.YtckkkfgjgjoemaaGnM
import Derived.Test.YtckkkfgjgjoemaaGnW2
set_option maxHeartbeats 400000
set_option linter.unusedSimpArgs false
set_option linter.unusedVariables false
set_option maxRecDepth 20000
namespace Go.Proofs.Ytckkkfgjgjoemaa
open Go Go.TL

theorem idset_Has_c {p0 : (List Int)} {p1 : Int} {r : Bool} (hm : idset_Has p0 p1 = some r) : RetN Try.prog 50 [.sl 1 (p0.map (D.int .i64)), .int .i64 p1] (.bool (r)) := by
  refine .unit (ret_bodyS callB50 Try.func50 rfl Try.ntmps50 rfl rfl (fun wX gX => ?_)) rfl
  unfold idset_Has at hm
  refine w_norm [0, 1] rfl rfl ?_
  refine twp_rseq ?_
  refine s_a tab_ok rfl ?_
  refine tops_nil ?_
  refine w_norm [0, 1] rfl rfl ?_
  refine twp_rseq ?_
  iterate 2 (refine s_a tab_ok rfl ?_)
  obtain ⟨r1, hr1, hm⟩ := bind_inv hm
  refine s_x rfl rfl (rd_callRN rfl rfl (snaps_cons (.d _) (snaps_cons (.d _) snaps_nil)) (slices_Contains_int_c hr1)) ?_
  refine s_a tab_ok rfl ?_
  refine tops_nil ?_
  refine w_norm [4] rfl rfl ?_
  refine twp_ret ?_
  obtain rfl := Option.some.inj hm
  exact EndsS.one _ rfl (.d _) (.refl _)

theorem slices_Concat_SettingGrow (n : Nat) (hn : n ≤ 1000000000) (mv : Nat → Bool) : Ret Try.prog 75 [] mv ([.nilsl, .int .i64 n].map .d) (.msl 0 2 0 0) [.flat 54 2 []] := by
  refine ret_body callB75 Try.func75 rfl Try.ntmps75 rfl rfl (fun wX gX => ?_)
  refine twp_norm [0, 1] (sub_d rfl (sub_d rfl .nil)) (blk_nil rfl) ?_
  refine twp_rseq ?_
  refine s_rd _ rfl (mv_d (.inr rfl) rfl) ?_
  refine tops_nil ?_
  refine twp_norm [0, 1] (sub_d rfl (sub_d rfl .nil)) (blk_nil rfl) ?_
  refine twp_seq ?_
  refine twp_rseq ?_
  refine s_rd _ rfl (mv_d (.inl rfl) rfl) ?_
  refine s_rd _ rfl (cmp_int rfl rfl rfl rfl) ?_
  refine tops_nil ?_
  refine twp_norm [0, 1, 6] (sub_d rfl (sub_d rfl (sub_d rfl .nil))) (blk_nil rfl) ?_
  refine twp_cond _ rfl (fun hneg => ?_) (fun hneg => ?_)
  · exact absurd (of_decide_eq_true hneg) (by omega)
  · refine twp_skip ?_
    refine way_then ?_
    refine twp_norm [0, 1] (sub_d rfl (sub_d rfl .nil)) (blk_nil rfl) ?_
    refine twp_seq ?_
    refine twp_rseq ?_
    refine s_rd _ rfl (mv_d (.inl rfl) rfl) ?_
    refine s_rd _ rfl (mv_d (.inl rfl) rfl) ?_
    refine s_rd _ rfl (cap_nil rfl sel34 rfl) ?_
    refine s_rd _ rfl (mv_d (.inl rfl) rfl) ?_
    refine s_rd _ rfl (len_nil rfl sel34 rfl) ?_
    refine s_rd _ rfl (arith_to (r := 0) rfl rfl rfl rfl rfl (by first | omega | (constructor <;> omega))) ?_
    refine s_rd _ rfl (arith_to (r := (n : Int)) rfl rfl rfl rfl (by omega) (by first | omega | (constructor <;> omega))) ?_
    refine s_rd _ rfl (mv_d (.inr rfl) rfl) ?_
    refine tops_nil ?_
    refine twp_norm [0, 1] (sub_d rfl (sub_d rfl .nil)) (blk_nil rfl) ?_
    refine twp_rseq ?_
    refine s_rd _ rfl (mv_d (.inl rfl) rfl) ?_
    refine s_rd _ rfl (cmp_int rfl rfl rfl rfl) ?_
    refine tops_nil ?_
    refine twp_norm [0, 1, 16] (sub_d rfl (sub_d rfl (sub_d rfl .nil))) (blk_nil rfl) ?_
    refine twp_cond _ rfl (fun hpos => ?_) (fun hpos => ?_)
    · have hpos : 0 < n := by simpa using hpos
      refine twp_region ?_
      refine s_rd _ rfl (mv_d (.inl rfl) rfl) ?_
      refine s_rd _ rfl (mv_d (.inl rfl) rfl) ?_
      refine s_rd _ rfl (cap_nil rfl sel34 rfl) ?_
      refine s_rd _ rfl (cut_nil rfl sel34 rfl rfl rfl) ?_
      refine s_rd _ rfl (mv_d (.inl rfl) rfl) ?_
      refine s_zeros (n := n) rfl sel34 Try.underlying3 zero54 rfl rfl rfl hpos (by decide) (by omega) (by omega) ?_
      refine s_rd _ rfl (mv_d (.inl rfl) rfl) ?_
      refine s_rd _ rfl (len_nil rfl sel34 rfl) ?_
      refine s_rd _ rfl (rd_cut_msl 0 2 16 0 n 0 0 rfl sel34 rfl rfl rfl (Nat.le_refl _) (Nat.zero_le _)) ?_
      refine s_rd _ rfl (mv_msl (.inr rfl) rfl) ?_
      refine tops_nil ?_
      refine way_then ?_
      refine twp_norm [0] (sub_msl rfl .nil) (blk_flat rfl (blk_nil rfl)) ?_
      refine twp_rseq ?_
      refine s_rd _ rfl (mv_msl (.inl rfl) rfl) ?_
      refine s_rd _ rfl (mv_msl (.inr rfl) rfl) ?_
      refine tops_nil ?_
      refine twp_norm [4] (sub_msl rfl .nil) (blk_flat rfl (blk_nil rfl)) ?_
      refine twp_ret ?_
      exact ⟨_, [0], res rfl, by decide, fun i hi => absurd hi (Nat.not_lt_zero i), rfl, rfl⟩
    · refine twp_upgrade 0 54 2 rfl ?_
      refine twp_skip ?_
      refine way_then ?_
      refine twp_norm [0] (sub_msl rfl .nil) (blk_flat rfl (blk_nil rfl)) ?_
      refine twp_rseq ?_
      refine s_rd _ rfl (mv_msl (.inl rfl) rfl) ?_
      refine s_rd _ rfl (mv_msl (.inr rfl) rfl) ?_
      refine tops_nil ?_
      refine twp_norm [4] (sub_msl rfl .nil) (blk_flat rfl (blk_nil rfl)) ?_
      refine twp_ret ?_
      exact ⟨_, [0], res rfl, by decide, fun i hi => absurd hi (Nat.not_lt_zero i), rfl, rfl⟩

theorem slices_Concat_SettingConcat (xss : List (List Setting)) (hn : xss.length ≤ 1000) (ht : xss.flatten.length ≤ 1000000000) (mv : Nat → Bool) : Ret Try.prog 60 [] mv ([.sl 1 (xss.map fun l => .sl 2 (l.map Setting.enc))].map .d) (.msl 0 2 0 xss.flatten.length) [.flat 54 2 (xss.flatten.map Setting.enc)] := by
  refine ret_body callB60 Try.func60 rfl Try.ntmps60 rfl rfl (fun wX gX => ?_)
  refine twp_norm [0] (sub_d rfl .nil) (blk_nil rfl) ?_
  refine twp_rseq ?_
  refine s_rd _ rfl (mv_d (.inr rfl) rfl) ?_
  refine tops_nil ?_
  refine twp_norm [0] (sub_d rfl .nil) (blk_nil rfl) ?_
  refine twp_rseq ?_
  refine s_rd _ rfl (mv_d (.inr rfl) rfl) ?_
  refine tops_nil ?_
  refine twp_norm [0, 3] (sub_d rfl (sub_d rfl .nil)) (blk_nil rfl) ?_
  refine twp_seq ?_
  refine twp_rseq ?_
  refine s_rd _ rfl (mv_d (.inl rfl) rfl) ?_
  refine s_rd _ rfl (by first | exact len_d rfl sel88 rfl (by first | exact List.length_map _ | rfl) | exact len_nil rfl sel88 rfl) ?_
  refine s_rd _ rfl (mv_d (.inl rfl) rfl) ?_
  refine tops_nil ?_
  refine twp_norm [0, 3, 9, 10, 11] (sub_d rfl (sub_d rfl (sub_d rfl (sub_d rfl (sub_d rfl .nil))))) (blk_nil rfl) ?_
  refine twp_block ?_
  refine twp_whileK (fun i => ([(3, .d (.int .i64 ((flatTo xss i).length : Int))), (11, .d (.int .i64 ((i : Nat) : Int)))] : Fr)) (fun i => ([] : List (Nat × Blk))) (fun i => i ≤ xss.length) (fun i => xss.length - i) [3, 11] [0, 9, 10] [] 0 (by decide) (fun i hi => absurd hi (Nat.not_lt_zero i)) (Nat.zero_le _) (sub_d rfl (sub_d rfl (sub_d rfl .nil))) rfl (by rw [flat_zero]; rfl) (blk_nil rfl) rfl ?_
  rintro i hok
  refine twp_norm [3, 11, 0, 9, 10] (sub_d rfl (sub_d rfl (sub_d rfl (sub_d rfl (sub_d rfl .nil))))) (blk_nil rfl) ?_
  refine twp_rseq ?_
  refine s_rd _ rfl (cmp_int rfl rfl rfl rfl) ?_
  refine tops_nil ?_
  refine twp_norm [0, 3, 9, 10, 11, 12] (sub_d rfl (sub_d rfl (sub_d rfl (sub_d rfl (sub_d rfl (sub_d rfl .nil)))))) (blk_nil rfl) ?_
  refine twp_seq ?_
  refine twp_cond _ rfl (fun hlt => ?_) (fun hlt => ?_)
  · have hlt : i < xss.length := by simpa using hlt
    obtain ⟨x, hx⟩ : ∃ x, (xss)[i]? = some x := ⟨_, List.getElem?_eq_getElem (by first | exact hlt | omega | (simp; omega))⟩
    have hs := flat_succ hx
    have hle := flat_le xss (i + 1)
    refine twp_skip ?_
    refine way_then ?_
    refine twp_norm [0, 3, 9, 10, 11] (sub_d rfl (sub_d rfl (sub_d rfl (sub_d rfl (sub_d rfl .nil))))) (blk_nil rfl) ?_
    refine twp_seq ?_
    refine twp_block ?_
    refine twp_rseq ?_
    refine s_rd _ rfl (index_sl rfl sel88 rfl rfl (idx_map hx)) ?_
    refine s_rd _ rfl (load_ptr rfl lay34 rfl rfl) ?_
    refine s_rd _ rfl (mv_d (.inr rfl) rfl) ?_
    refine tops_nil ?_
    refine twp_norm [0, 3, 5, 9, 10, 11] (sub_d rfl (sub_d rfl (sub_d rfl (sub_d rfl (sub_d rfl (sub_d rfl .nil)))))) (blk_nil rfl) ?_
    refine twp_rseq ?_
    refine s_rd _ rfl (mv_d (.inl rfl) rfl) ?_
    refine s_rd _ rfl (mv_d (.inl rfl) rfl) ?_
    refine s_rd _ rfl (by first | exact len_d rfl sel34 rfl (by first | exact List.length_map _ | rfl) | exact len_nil rfl sel34 rfl) ?_
    refine s_rd _ rfl (arith_to (r := ((flatTo xss (i + 1)).length : Int)) rfl rfl rfl rfl (by rw [hs]; simp) (by omega)) ?_
    refine s_rd _ rfl (mv_d (.inr rfl) rfl) ?_
    refine tops_nil ?_
    refine twp_norm [0, 3, 9, 10, 11] (sub_d rfl (sub_d rfl (sub_d rfl (sub_d rfl (sub_d rfl .nil))))) (blk_nil rfl) ?_
    refine twp_rseq ?_
    refine s_rd _ rfl (mv_d (.inl rfl) rfl) ?_
    refine s_rd _ rfl (cmp_int rfl rfl rfl rfl) ?_
    refine tops_nil ?_
    refine twp_norm [0, 3, 9, 10, 11, 20] (sub_d rfl (sub_d rfl (sub_d rfl (sub_d rfl (sub_d rfl (sub_d rfl .nil)))))) (blk_nil rfl) ?_
    refine twp_cond _ rfl (fun hneg => ?_) (fun hneg => ?_)
    · exact absurd (of_decide_eq_true hneg) (by omega)
    · refine twp_skip ?_
      refine way_block ?_
      refine way_then ?_
      refine twp_norm [0, 3, 9, 10, 11] (sub_d rfl (sub_d rfl (sub_d rfl (sub_d rfl (sub_d rfl .nil))))) (blk_nil rfl) ?_
      refine twp_region ?_
      refine s_rd _ rfl (arith_ok rfl rfl rfl rfl (by first | omega | (constructor <;> omega))) ?_
      refine s_rd _ rfl (mv_d (.inl rfl) rfl) ?_
      refine tops_nil ?_
      refine way_then ?_
      exact ⟨(i + 1), [], by decide, (fun i hi => absurd hi (Nat.not_lt_zero i)), (by omega), (by omega), rfl⟩
  · have hge : ¬ i < xss.length := by simpa using hlt
    have hi : i = xss.length := by omega
    refine twp_exit ?_
    refine way_thenExit ?_
    refine way_thenExit ?_
    refine way_here ?_
    refine way_then ?_
    refine twp_norm [0, 3] (sub_d rfl (sub_d rfl .nil)) (blk_nil rfl) ?_
    refine twp_rseq ?_
    refine s_rd _ rfl (mv_d (.inl rfl) rfl) ?_
    refine s_callD rfl rfl rfl (slices_Concat_SettingGrow _ (by have := flat_le xss i; omega) (fun _ => false)) rfl rfl ?_
    refine s_rd _ rfl (mv_msl (.inr rfl) rfl) ?_
    refine tops_nil ?_
    refine twp_norm [0, 6] (sub_d rfl (sub_msl rfl .nil)) (blk_flat rfl (blk_nil rfl)) ?_
    refine twp_seq ?_
    refine twp_rseq ?_
    refine s_rd _ rfl (mv_d (.inl rfl) rfl) ?_
    refine s_rd _ rfl (by first | exact len_d rfl sel88 rfl (by first | exact List.length_map _ | rfl) | exact len_nil rfl sel88 rfl) ?_
    refine s_rd _ rfl (mv_d (.inl rfl) rfl) ?_
    refine tops_nil ?_
    refine twp_norm [6, 25, 26, 27] (sub_msl rfl (sub_d rfl (sub_d rfl (sub_d rfl .nil)))) (blk_flat rfl (blk_nil rfl)) ?_
    refine twp_block ?_
    refine twp_whileK (fun i => ([(6, .msl 0 2 0 (flatTo xss i).length), (27, .d (.int .i64 ((i : Nat) : Int)))] : Fr)) (fun i => ([(0, .flat 54 2 ((flatTo xss i).map Setting.enc))] : List (Nat × Blk))) (fun i => i ≤ xss.length) (fun i => xss.length - i) [6, 27] [25, 26] [0] 0 (by decide) (fun i hi => absurd hi (Nat.not_lt_zero i)) (Nat.zero_le _) (sub_d rfl (sub_d rfl .nil)) rfl (by rw [flat_zero]; rfl) (blk_flat rfl (blk_nil rfl)) (by rw [flat_zero]; rfl) ?_
    rintro i hok
    refine twp_norm [6, 27, 25, 26] (sub_msl rfl (sub_d rfl (sub_d rfl (sub_d rfl .nil)))) (blk_flat rfl (blk_nil rfl)) ?_
    refine twp_rseq ?_
    refine s_rd _ rfl (cmp_int rfl rfl rfl rfl) ?_
    refine tops_nil ?_
    refine twp_norm [6, 25, 26, 27, 28] (sub_msl rfl (sub_d rfl (sub_d rfl (sub_d rfl (sub_d rfl .nil))))) (blk_flat rfl (blk_nil rfl)) ?_
    refine twp_seq ?_
    refine twp_cond _ rfl (fun hlt => ?_) (fun hlt => ?_)
    · have hlt : i < xss.length := by simpa using hlt
      obtain ⟨x, hx⟩ : ∃ x, (xss)[i]? = some x := ⟨_, List.getElem?_eq_getElem (by first | exact hlt | omega | (simp; omega))⟩
      have hs := flat_succ hx
      have hle := flat_le xss (i + 1)
      have hsl : (flatTo xss (i + 1)).length = (flatTo xss i).length + x.length := by rw [hs]; simp
      refine twp_skip ?_
      refine way_then ?_
      refine twp_norm [6, 25, 26, 27] (sub_msl rfl (sub_d rfl (sub_d rfl (sub_d rfl .nil)))) (blk_flat rfl (blk_nil rfl)) ?_
      refine twp_seq ?_
      refine twp_block ?_
      refine twp_rseq ?_
      refine s_rd _ rfl (index_sl rfl sel88 rfl rfl (idx_map hx)) ?_
      refine s_rd _ rfl (load_ptr rfl lay34 rfl rfl) ?_
      refine s_rd _ rfl (mv_d (.inr rfl) rfl) ?_
      refine tops_nil ?_
      refine twp_norm [6, 8, 25, 26, 27] (sub_msl rfl (sub_d rfl (sub_d rfl (sub_d rfl (sub_d rfl .nil))))) (blk_flat rfl (blk_nil rfl)) ?_
      refine twp_region ?_
      refine s_rd _ rfl (mv_msl (.inl rfl) rfl) ?_
      refine s_rd _ rfl (mv_d (.inl rfl) rfl) ?_
      refine s_append (m := (flatTo xss (i + 1)).length) (ds := x.map Setting.enc) (es' := (flatTo xss (i + 1)).map Setting.enc) rfl sel34 zero54 rfl rfl rfl (by simp) (fun h => absurd h (Nat.not_lt_zero _)) rfl ⟨rfl, (by first | rfl | (simp [List.map_take, List.map_drop]; done) | (rw [← List.map_drop, List.take_of_length_le (by simp)]))⟩ (by rw [hs]; simp) (by simp; omega) (by omega) (by omega) rfl rfl ?_
      refine s_rd _ rfl (mv_msl (.inr rfl) rfl) ?_
      refine tops_nil ?_
      refine way_block ?_
      refine way_then ?_
      refine twp_norm [6, 25, 26, 27] (sub_msl rfl (sub_d rfl (sub_d rfl (sub_d rfl .nil)))) (blk_flat rfl (blk_nil rfl)) ?_
      refine twp_region ?_
      refine s_rd _ rfl (arith_ok rfl rfl rfl rfl (by first | omega | (constructor <;> omega))) ?_
      refine s_rd _ rfl (mv_d (.inl rfl) rfl) ?_
      refine tops_nil ?_
      refine way_then ?_
      exact ⟨(i + 1), [0], by decide, (fun i hi => absurd hi (Nat.not_lt_zero i)), (by omega), (by omega), rfl⟩
    · have hge : ¬ i < xss.length := by simpa using hlt
      have hi : i = xss.length := by omega
      have hall := flat_all hge
      refine twp_exit ?_
      refine way_thenExit ?_
      refine way_thenExit ?_
      refine way_here ?_
      refine way_then ?_
      refine twp_norm [6] (sub_msl rfl .nil) (blk_flat rfl (blk_nil rfl)) ?_
      refine twp_rseq ?_
      refine s_rd _ rfl (mv_msl (.inl rfl) rfl) ?_
      refine s_rd _ rfl (mv_msl (.inr rfl) rfl) ?_
      refine tops_nil ?_
      refine twp_norm [2] (sub_msl rfl .nil) (blk_flat rfl (blk_nil rfl)) ?_
      refine twp_ret ?_
      rw [hall]
      exact ⟨_, [0], res rfl, by decide, fun i hi => absurd hi (Nat.not_lt_zero i), rfl, rfl⟩

theorem slices_Concat_Setting_row {p0 : List (List Setting)} {r : List Setting} (hm : slices_Concat_Setting p0 = some r) : Ret Try.prog 60 [] (fun _ => false) ([.sl 1 (p0.map (fun l => D.sl 2 (l.map Setting.enc)))].map .d) (.msl 0 2 0 r.length) [.flat 54 2 (r.map Setting.enc)] := by
  unfold slices_Concat_Setting at hm
  obtain ⟨g, hm⟩ := guard_inv hm
  obtain rfl := Option.some.inj hm
  exact slices_Concat_SettingConcat p0 g.1 g.2 (fun _ => false)

theorem slices_Concat_Setting_c {p0 : List (List Setting)} {r : List Setting} (hm : slices_Concat_Setting p0 = some r) : RetN Try.prog 60 [.sl 1 (p0.map (fun l => D.sl 2 (l.map Setting.enc)))] (.sl 2 (r.map Setting.enc)) := by
  unfold slices_Concat_Setting at hm
  obtain ⟨g, hm⟩ := guard_inv hm
  obtain rfl := Option.some.inj hm
  exact .flat (slices_Concat_SettingConcat p0 g.1 g.2 (fun _ => false)) (by rw [List.length_map]) (fun e he => by obtain ⟨x, _, rfl⟩ := List.mem_map.1 he; rfl)

theorem cmp_isNaN_int_c {p0 : Int} {r : Bool} (hm : cmp_isNaN_int p0 = some r) : RetN Try.prog 78 [.int .i64 p0] (.bool (r)) := by
  refine .unit (ret_bodyS callB78 Try.func78 rfl Try.ntmps78 rfl rfl (fun wX gX => ?_)) rfl
  unfold cmp_isNaN_int at hm
  refine w_norm [0] rfl rfl ?_
  refine twp_rseq ?_
  refine s_a tab_ok rfl ?_
  refine tops_nil ?_
  refine w_norm [0] rfl rfl ?_
  refine twp_rseq ?_
  iterate 4 (refine s_a tab_ok rfl ?_)
  refine tops_nil ?_
  refine w_norm [2] rfl rfl ?_
  refine twp_ret ?_
  obtain rfl := Option.some.inj hm
  exact EndsS.one _ rfl (.d _) (.refl _)

theorem cmp_Compare_int_c {p0 : Int} {p1 : Int} {r : Int} (hm : cmp_Compare_int p0 p1 = some r) : RetN Try.prog 64 [.int .i64 p0, .int .i64 p1] (.int .i64 r) := by
  refine .unit (ret_bodyS callB64 Try.func64 rfl Try.ntmps64 rfl rfl (fun wX gX => ?_)) rfl
  unfold cmp_Compare_int at hm
  refine w_norm [0, 1] rfl rfl ?_
  refine twp_rseq ?_
  refine s_a tab_ok rfl ?_
  refine tops_nil ?_
  refine w_norm [0, 1] rfl rfl ?_
  refine twp_rseq ?_
  refine s_a tab_ok rfl ?_
  obtain ⟨r1, hr1, hm⟩ := bind_inv hm
  refine s_x rfl rfl (rd_callRN rfl rfl (snaps_cons (.d _) snaps_nil) (cmp_isNaN_int_c hr1)) ?_
  refine s_a tab_ok rfl ?_
  refine tops_nil ?_
  refine w_norm [0, 1, 5] rfl rfl ?_
  refine twp_rseq ?_
  refine s_a tab_ok rfl ?_
  obtain ⟨r2, hr2, hm⟩ := bind_inv hm
  refine s_x rfl rfl (rd_callRN rfl rfl (snaps_cons (.d _) snaps_nil) (cmp_isNaN_int_c hr2)) ?_
  refine s_a tab_ok rfl ?_
  refine tops_nil ?_
  refine w_norm [0, 1, 5, 6] rfl rfl ?_
  refine twp_seq ?_
  refine twp_rseq ?_
  refine s_a tab_ok rfl ?_
  refine tops_nil ?_
  refine w_norm [0, 1, 6, 11] rfl rfl ?_
  refine twp_cond _ rfl (fun h3 => ?_) (fun h3 => ?_)
  · replace hm := iteB_T h3 hm
    refine twp_seq ?_
    refine twp_rseq ?_
    refine s_a tab_ok rfl ?_
    refine tops_nil ?_
    refine w_norm [12] rfl rfl ?_
    refine twp_cond _ rfl (fun h4 => ?_) (fun h4 => ?_)
    · replace hm := iteB_T h4 hm
      refine twp_rseq ?_
      refine s_a tab_ok rfl ?_
      refine tops_nil ?_
      refine w_norm [4] rfl rfl ?_
      refine twp_ret ?_
      refine way_thenRet ?_
      refine way_thenRet ?_
      obtain rfl := Option.some.inj hm
      exact EndsS.one _ rfl (.d _) (.refl _)
    · replace hm := iteB_F h4 hm
      refine twp_skip ?_
      refine way_then ?_
      refine w_norm [] rfl rfl ?_
      refine twp_rseq ?_
      refine s_a tab_ok rfl ?_
      refine tops_nil ?_
      refine w_norm [4] rfl rfl ?_
      refine twp_ret ?_
      refine way_thenRet ?_
      obtain rfl := Option.some.inj hm
      exact EndsS.one _ rfl (.d _) (.refl _)
  · replace hm := iteB_F h3 hm
    refine twp_skip ?_
    refine way_then ?_
    refine w_norm [0, 1, 6] rfl rfl ?_
    refine twp_seq ?_
    refine twp_rseq ?_
    refine s_a tab_ok rfl ?_
    refine tops_nil ?_
    refine w_norm [0, 1, 13] rfl rfl ?_
    refine twp_cond _ rfl (fun h5 => ?_) (fun h5 => ?_)
    · replace hm := iteB_T h5 hm
      refine twp_rseq ?_
      refine s_a tab_ok rfl ?_
      refine tops_nil ?_
      refine w_norm [4] rfl rfl ?_
      refine twp_ret ?_
      refine way_thenRet ?_
      obtain rfl := Option.some.inj hm
      exact EndsS.one _ rfl (.d _) (.refl _)
    · replace hm := iteB_F h5 hm
      refine twp_skip ?_
      refine way_then ?_
      refine w_norm [0, 1] rfl rfl ?_
      refine twp_seq ?_
      refine twp_rseq ?_
      iterate 3 (refine s_a tab_ok rfl ?_)
      refine tops_nil ?_
      refine w_norm [0, 1, 16] rfl rfl ?_
      refine twp_cond _ rfl (fun h6 => ?_) (fun h6 => ?_)
      · replace hm := ite_T h6 hm
        refine twp_rseq ?_
        refine s_a tab_ok rfl ?_
        refine tops_nil ?_
        refine w_norm [4] rfl rfl ?_
        refine twp_ret ?_
        refine way_thenRet ?_
        obtain rfl := Option.some.inj hm
        exact EndsS.one _ rfl (.d _) (.refl _)
      · replace hm := ite_F h6 hm
        refine twp_skip ?_
        refine way_then ?_
        refine w_norm [0, 1] rfl rfl ?_
        refine twp_seq ?_
        refine twp_rseq ?_
        iterate 3 (refine s_a tab_ok rfl ?_)
        refine tops_nil ?_
        refine w_norm [19] rfl rfl ?_
        refine twp_cond _ rfl (fun h7 => ?_) (fun h7 => ?_)
        · replace hm := ite_T h7 hm
          refine twp_rseq ?_
          refine s_a tab_ok rfl ?_
          refine tops_nil ?_
          refine w_norm [4] rfl rfl ?_
          refine twp_ret ?_
          refine way_thenRet ?_
          obtain rfl := Option.some.inj hm
          exact EndsS.one _ rfl (.d _) (.refl _)
        · replace hm := ite_F h7 hm
          refine twp_skip ?_
          refine way_then ?_
          refine w_norm [] rfl rfl ?_
          refine twp_rseq ?_
          refine s_a tab_ok rfl ?_
          refine tops_nil ?_
          refine w_norm [4] rfl rfl ?_
          refine twp_ret ?_
          obtain rfl := Option.some.inj hm
          exact EndsS.one _ rfl (.d _) (.refl _)

theorem cmp_Or_int_c {p0 : (List Int)} {r : Int} (hm : cmp_Or_int p0 = some r) : RetN Try.prog 63 [.sl 1 (p0.map (D.int .i64))] (.int .i64 r) := by
  refine .unit (ret_bodyS callB63 Try.func63 rfl Try.ntmps63 rfl rfl (fun wX gX => ?_)) rfl
  unfold cmp_Or_int at hm
  refine w_norm [0] rfl rfl ?_
  refine twp_rseq ?_
  refine s_a tab_ok rfl ?_
  refine tops_nil ?_
  refine w_norm [0] rfl rfl ?_
  refine twp_rseq ?_
  refine s_a tab_ok rfl ?_
  refine tops_nil ?_
  refine w_norm [0, 3] rfl rfl ?_
  refine w_joinS hm (fun _ => ([] : Fr)) (fun _ => ([] : List (Nat × Blk))) [] [3] rfl (fun z1 hm hz1 => ?_) (fun j hm => ?_)
  · refine twp_rseq ?_
    refine s_a tab_ok rfl ?_
    refine s_x rfl rfl (x_len tab_ok rfl rfl rfl) ?_
    refine s_a tab_ok rfl ?_
    refine tops_nil ?_
    refine w_norm [3, 6, 7, 8] rfl rfl ?_
    refine twp_block ?_
    refine w_loop hm (fun x3 => ([(8, .d (.int .i64 x3))] : Fr)) (fun x3 => ([] : List (Nat × Blk))) [8] [3, 6, 7] [] rfl k0 rfl rfl rfl rfl rfl (fun x3 z4 hm hz4 => ?_)
    refine w_norm [3, 6, 7, 8] rfl rfl ?_
    refine twp_rseq ?_
    refine s_a tab_ok rfl ?_
    refine tops_nil ?_
    refine w_norm [3, 6, 7, 8, 9] rfl rfl ?_
    refine twp_seq ?_
    refine twp_cond _ rfl (fun h5 => ?_) (fun h5 => ?_)
    · replace hm := ite_T h5 hm
      refine twp_skip ?_
      refine way_then ?_
      refine w_norm [3, 6, 7, 8] rfl rfl ?_
      refine twp_seq ?_
      refine twp_block ?_
      refine twp_rseq ?_
      obtain ⟨e6, he6, hm⟩ := get_inv hm
      refine s_x rfl rfl (x_ix tab_ok rfl rfl rfl rfl he6) ?_
      iterate 2 (refine s_a tab_ok rfl ?_)
      refine tops_nil ?_
      refine w_norm [3, 5, 6, 7, 8] rfl rfl ?_
      refine twp_rseq ?_
      iterate 3 (refine s_a tab_ok rfl ?_)
      refine tops_nil ?_
      refine w_norm [3, 5, 6, 7, 8, 14] rfl rfl ?_
      refine twp_cond _ rfl (fun h7 => ?_) (fun h7 => ?_)
      · replace hm := iteN_T h7 hm
        refine twp_rseq ?_
        iterate 2 (refine s_a tab_ok rfl ?_)
        refine tops_nil ?_
        refine w_norm [2] rfl rfl ?_
        refine twp_ret ?_
        refine way_blockRet ?_
        refine way_thenRet ?_
        obtain ⟨v8, hm, hz⟩ := inr_inv hm
        rw [hz4 _ hz] at hm
        refine way_thenRet ?_
        refine way_blockRet ?_
        obtain ⟨v9, hm, hz⟩ := inr_inv hm
        rw [hz1 _ hz] at hm
        refine way_thenRet ?_
        obtain rfl := Option.some.inj hm
        exact EndsS.one _ rfl (.d _) (.refl _)
      · replace hm := iteN_F h7 hm
        refine twp_skip ?_
        refine way_block ?_
        refine way_then ?_
        refine w_norm [3, 6, 7, 8] rfl rfl ?_
        refine twp_region ?_
        obtain ⟨g10, hm⟩ := guard_inv hm
        refine s_x rfl rfl (x_ar rfl rfl rfl rfl g10) ?_
        refine s_a tab_ok rfl ?_
        refine tops_nil ?_
        refine way_then ?_
        exact ⟨_, [], (Option.some.inj hm).symm, rfl, k0, rfl⟩
    · replace hm := ite_F h5 hm
      refine twp_exit ?_
      refine way_thenExit ?_
      obtain ⟨v11, hm, hz⟩ := inr_inv hm
      rw [hz4 _ hz] at hm
      refine way_thenExit ?_
      refine way_here ?_
      refine way_then ?_
      exact ⟨_, [], (Option.some.inj hm).symm, rfl, k0, rfl⟩
  · refine w_norm [3] rfl rfl ?_
    refine twp_rseq ?_
    iterate 2 (refine s_a tab_ok rfl ?_)
    refine tops_nil ?_
    refine w_norm [2] rfl rfl ?_
    refine twp_ret ?_
    obtain rfl := Option.some.inj hm
    exact EndsS.one _ rfl (.d _) (.refl _)

theorem table_Settings_c1_c {p0 : Setting} {p1 : Setting} {r : Int} (hm : table_Settings_c1 p0 p1 = some r) : RetN Try.prog 62 [p0.enc, p1.enc] (.int .i64 r) := by
  refine .unit (ret_bodyS callB62 Try.func62 rfl Try.ntmps62 rfl rfl (fun wX gX => ?_)) rfl
  unfold table_Settings_c1 at hm
  refine w_norm [0, 1] rfl rfl ?_
  refine twp_rseq ?_
  refine s_bx 0 rfl rfl rfl ?_
  refine s_bx 1 rfl rfl rfl ?_
  refine s_a tab_ok rfl ?_
  refine tops_nil ?_
  refine w_norm [2, 3] rfl rfl ?_
  refine twp_dseq follows  ?_
  iterate 4 (refine d_a [0, 1] tab_ok rfl ?_)
  obtain ⟨r1, hr1, hm⟩ := bind_inv hm
  refine d_x [0, 1] rfl rfl (rd_callRN rfl rfl (snaps_cons (.d _) (snaps_cons (.d _) snaps_nil)) (cmp_Compare_int_c hr1)) ?_
  iterate 4 (refine d_a [0, 1] tab_ok rfl ?_)
  obtain ⟨r2, hr2, hm⟩ := bind_inv hm
  refine d_x [0, 1] rfl rfl (rd_callRN rfl rfl (snaps_cons (.d _) (snaps_cons (.d _) snaps_nil)) (cmp_Compare_int_c hr2)) ?_
  refine d_x [0, 1] rfl rfl (x_lit [.tmp 9, .tmp 14] tab_ok rfl rfl zero3 rfl rfl rfl rfl rfl) ?_
  obtain ⟨r3, hr3, hm⟩ := bind_inv hm
  refine d_x [0, 1] rfl rfl (rd_callRN rfl rfl (snaps_cons (.d _) snaps_nil) (cmp_Or_int_c hr3)) ?_
  refine d_tail ?_ (by kernel_rfl)
  refine s_a tab_ok rfl ?_
  refine tops_nil ?_
  refine w_norm [4] rfl rfl ?_
  refine twp_ret ?_
  obtain rfl := Option.some.inj hm
  exact EndsS.one _ rfl (.d _) (.refl _)

theorem table_Settings_c {p0 : Route} {r : (List Setting)} (hm : table_Settings p0 = some r) : RetD Try.prog 40 [p0.enc] (.sl 2 (r.map Setting.enc)) := by
  refine .of (mv := fun _ => false) (ret_bodyS callB40 Try.func40 rfl Try.ntmps40 rfl rfl (fun wX gX => ?_))
  unfold table_Settings at hm
  refine w_norm [0] rfl rfl ?_
  refine twp_rseq ?_
  refine s_bx 0 rfl rfl rfl ?_
  refine s_a tab_ok rfl ?_
  refine tops_nil ?_
  refine w_norm [1] rfl rfl ?_
  refine twp_rseq ?_
  iterate 6 (refine s_a tab_ok rfl ?_)
  refine s_x rfl rfl (x_lit [.tmp 8, .tmp 10, .tmp 12] tab_ok rfl rfl zero34 rfl rfl rfl rfl rfl) ?_
  obtain ⟨r1, hr1, hm⟩ := bind_inv hm
  refine s_callD rfl rfl rfl (slices_Concat_Setting_row hr1) rfl rfl ?_
  refine s_eq 14 (.msl 1 2 0 r1.length) rfl rfl ?_
  refine s_a tab_ok rfl ?_
  refine tops_nil ?_
  refine w_norm [3] rfl rfl ?_
  refine twp_rseq ?_
  refine s_a tab_ok rfl ?_
  obtain ⟨g2, hm⟩ := guard_inv hm
  refine s_callW [1] rfl rfl rfl (by simp) rfl rfl rfl (slices_SortFunc_Setting_c table_Settings_c1_sort rfl (fun _ _ _ h => (table_Settings_c1_c h).retD) r1 g2) rfl rfl ?_
  refine s_lno 3 (sortM table_Settings_c1 r1).length rfl (sortM_length _).symm ?_
  refine s_lno 15 (sortM table_Settings_c1 r1).length rfl (sortM_length _).symm ?_
  refine tops_nil ?_
  refine w_norm [3] rfl rfl ?_
  refine twp_rseq ?_
  refine s_nilO (f := Setting.enc) 2 54 2 rfl rfl rfl ?_
  refine tops_nil ?_
  refine w_norm [3, 4] rfl rfl ?_
  refine w_joinM hm (fun b3 => ([(4, .msl 2 2 0 b3.length)] : Fr)) (fun b3 => ([(2, .flat 54 2 (b3.map Setting.enc))] : List (Nat × Blk))) [4] [] rfl (fun z4 hm => ?_) (fun b3 hm => ?_)
  · refine twp_rseq ?_
    iterate 3 (refine s_a tab_ok rfl ?_)
    refine tops_nil ?_
    refine w_norm [3, 4, 17, 18, 19] rfl rfl ?_
    refine twp_block ?_
    refine w_loop hm (fun (x8, b9) => ([(4, .msl 2 2 0 b9.length), (19, .d (.int .i64 x8))] : Fr)) (fun (x8, b9) => ([(2, .flat 54 2 (b9.map Setting.enc))] : List (Nat × Blk))) [4, 19] [3, 17, 18] [0, 1, 2] rfl k0 rfl rfl rfl rfl rfl (fun s z10 hm hz10 => ?_)
    obtain ⟨x8, b9⟩ := s
    refine w_norm [3, 4, 17, 18, 19] rfl rfl ?_
    refine twp_rseq ?_
    refine s_a tab_ok rfl ?_
    refine tops_nil ?_
    refine w_norm [3, 4, 17, 18, 19, 20] rfl rfl ?_
    refine twp_seq ?_
    refine twp_cond _ rfl (fun h11 => ?_) (fun h11 => ?_)
    · replace hm := ite_T h11 hm
      refine twp_skip ?_
      refine way_then ?_
      refine w_norm [3, 4, 17, 18, 19] rfl rfl ?_
      refine twp_seq ?_
      refine twp_block ?_
      refine twp_rseq ?_
      refine s_a tab_ok rfl ?_
      obtain ⟨e12, he12, hm⟩ := get_inv hm
      refine s_x rfl rfl (x_ixo tab_ok rfl rfl rfl rfl he12 rfl) ?_
      refine s_x rfl rfl (x_ldo tab_ok rfl rfl rfl rfl he12.2 rfl) ?_
      refine s_al 3 rfl rfl zero54 rfl ?_
      iterate 2 (refine s_a tab_ok rfl ?_)
      refine tops_nil ?_
      refine w_norm [3, 4, 5, 6, 17, 18, 19] rfl rfl ?_
      refine w_joinM hm (fun x13 => ([(34, .d (.bool (x13)))] : Fr)) (fun x13 => ([] : List (Nat × Blk))) [34] [3, 4, 6, 17, 18, 19] rfl (fun z14 hm => ?_) (fun x13 hm => ?_)
      · refine twp_draw follows  ?_
        iterate 2 (refine d_a [0, 1, 2, 3] tab_ok rfl ?_)
        refine d_b [0, 1, 2, 3] tab_ok rfl (fun q15 hq15 => ?_)
        cases q15
        · replace hm := ite_F hq15 hm
          iterate 3 (refine d_a [0, 1, 2, 3] tab_ok rfl ?_)
          obtain ⟨g16, hm⟩ := guard_inv hm
          refine d_x [0, 1, 2, 3] rfl rfl (x_ar rfl rfl rfl rfl g16) ?_
          obtain ⟨e17, he17, hm⟩ := get_inv hm
          refine d_x [0, 1, 2, 3] rfl rfl (x_ixo tab_ok rfl rfl rfl rfl he17 rfl) ?_
          refine d_x [0, 1, 2, 3] rfl rfl (x_ldo tab_ok rfl rfl rfl rfl he17.2 rfl) ?_
          obtain ⟨g18, hm⟩ := guard_inv hm
          refine d_x [0, 1, 2, 3] rfl rfl (Setting_ne rfl rfl rfl g18.1 g18.2) ?_
          refine d_a [0, 1, 2, 3] tab_ok rfl ?_
          refine d_tail ?_ (by kernel_rfl)
          refine tops_nil ?_
          refine way_then ?_
          exact ⟨_, [0, 1, 2, 3], (Option.some.inj hm).symm, rfl, k0, rfl⟩
        · replace hm := ite_T hq15 hm
          iterate 8 (refine d_a [0, 1, 2, 3] tab_ok rfl ?_)
          refine d_tail ?_ (by kernel_rfl)
          refine tops_nil ?_
          refine way_then ?_
          exact ⟨_, [0, 1, 2, 3], (Option.some.inj hm).symm, rfl, k0, rfl⟩
      · refine w_norm [3, 4, 6, 17, 18, 19, 34] rfl rfl ?_
        refine twp_cond _ rfl (fun h20 => ?_) (fun h20 => ?_)
        · replace hm := iteB_T h20 hm
          refine twp_region ?_
          iterate 2 (refine s_a tab_ok rfl ?_)
          refine s_x rfl rfl (x_lit [.tmp 36] tab_ok rfl rfl zero54 rfl rfl rfl rfl rfl) ?_
          obtain ⟨g21, hm⟩ := guard_inv hm
          refine s_app (f := Setting.enc) ([e12] : List Setting) tab_ok rfl rfl zero54 rfl rfl rfl rfl rfl (fun h => absurd h (Nat.not_lt_zero _)) rfl src_d g21 rfl rfl ?_
          refine s_a tab_ok rfl ?_
          refine tops_nil ?_
          refine way_block ?_
          refine way_then ?_
          refine w_norm [3, 4, 17, 18, 19] rfl rfl ?_
          refine twp_region ?_
          obtain ⟨g22, hm⟩ := guard_inv hm
          refine s_x rfl rfl (x_ar rfl rfl rfl rfl g22) ?_
          refine s_a tab_ok rfl ?_
          refine tops_nil ?_
          refine way_then ?_
          exact ⟨_, [0, 1, 2], (Option.some.inj hm).symm, rfl, k0, rfl⟩
        · replace hm := iteB_F h20 hm
          refine twp_skip ?_
          refine way_block ?_
          refine way_then ?_
          refine w_norm [3, 4, 17, 18, 19] rfl rfl ?_
          refine twp_region ?_
          obtain ⟨g23, hm⟩ := guard_inv hm
          refine s_x rfl rfl (x_ar rfl rfl rfl rfl g23) ?_
          refine s_a tab_ok rfl ?_
          refine tops_nil ?_
          refine way_then ?_
          exact ⟨_, [0, 1, 2], (Option.some.inj hm).symm, rfl, k0, rfl⟩
    · replace hm := ite_F h11 hm
      refine twp_exit ?_
      refine way_thenExit ?_
      obtain ⟨v24, hm, hz⟩ := inr_inv hm
      rw [hz10 _ hz] at hm
      refine way_thenExit ?_
      refine way_here ?_
      refine way_then ?_
      exact ⟨_, [0, 1, 2], (Option.some.inj hm).symm, rfl, k0, rfl⟩
  · refine w_norm [4] rfl rfl ?_
    refine twp_rseq ?_
    iterate 2 (refine s_a tab_ok rfl ?_)
    refine tops_nil ?_
    refine w_norm [2] rfl rfl ?_
    refine twp_ret ?_
    obtain rfl := Option.some.inj hm
    exact EndsS.one _ rfl (snap_map rfl) (.refl _)

theorem locks_bound_c {p0 : Table} {p1 : Route} {p2 : RouteState} {r : (List Setting)} (hm : locks_bound p0 p1 p2 = some r) : RetD Try.prog 31 [p0.enc, p1.enc, p2.enc] (.sl 2 (r.map Setting.enc)) := by
  refine .of (mv := fun _ => false) (ret_bodyS callB31 Try.func31 rfl Try.ntmps31 rfl rfl (fun wX gX => ?_))
  unfold locks_bound at hm
  refine w_norm [0, 1, 2] rfl rfl ?_
  refine twp_rseq ?_
  refine s_bx 0 rfl rfl rfl ?_
  refine s_bx 1 rfl rfl rfl ?_
  refine s_bx 2 rfl rfl rfl ?_
  refine s_a tab_ok rfl ?_
  refine tops_nil ?_
  refine w_norm [3, 4, 5] rfl rfl ?_
  refine twp_seq ?_
  refine twp_rseq ?_
  iterate 3 (refine s_a tab_ok rfl ?_)
  refine tops_nil ?_
  refine w_norm [3, 4, 5, 12] rfl rfl ?_
  refine twp_cond _ rfl (fun h1 => ?_) (fun h1 => ?_)
  · replace hm := ite_T h1 hm
    refine twp_rseq ?_
    refine s_a tab_ok rfl ?_
    refine tops_nil ?_
    refine c_wk 6 [some 2] rfl ?_
    refine w_norm [6] rfl rfl ?_
    refine twp_ret ?_
    refine way_thenRet ?_
    obtain rfl := Option.some.inj hm
    exact EndsS.one _ rfl (.d _) (.refl _)
  · replace hm := ite_F h1 hm
    refine twp_skip ?_
    refine way_then ?_
    refine w_norm [3, 4, 5] rfl rfl ?_
    refine twp_rseq ?_
    refine s_nilO (f := Setting.enc) 3 54 2 rfl rfl rfl ?_
    refine tops_nil ?_
    refine w_norm [3, 4, 5, 7] rfl rfl ?_
    refine w_joinM hm (fun b2 => ([(7, .msl 3 2 0 b2.length)] : Fr)) (fun b2 => ([(3, .flat 54 2 (b2.map Setting.enc))] : List (Nat × Blk))) [7] [4] rfl (fun z3 hm => ?_) (fun b2 hm => ?_)
    · refine twp_rseq ?_
      iterate 2 (refine s_a tab_ok rfl ?_)
      refine s_x rfl rfl (x_len tab_ok rfl rfl rfl) ?_
      refine s_a tab_ok rfl ?_
      refine tops_nil ?_
      refine w_norm [3, 4, 5, 7, 14, 15, 16] rfl rfl ?_
      refine twp_block ?_
      refine w_loop hm (fun (x7, b8) => ([(7, .msl 3 2 0 b8.length), (16, .d (.int .i64 x7))] : Fr)) (fun (x7, b8) => ([(3, .flat 54 2 (b8.map Setting.enc))] : List (Nat × Blk))) [7, 16] [3, 4, 5, 14, 15] [0, 1, 2, 3] rfl k0 rfl rfl rfl rfl rfl (fun s z9 hm hz9 => ?_)
      obtain ⟨x7, b8⟩ := s
      refine w_norm [3, 4, 5, 7, 14, 15, 16] rfl rfl ?_
      refine twp_rseq ?_
      refine s_a tab_ok rfl ?_
      refine tops_nil ?_
      refine w_norm [3, 4, 5, 7, 14, 15, 16, 17] rfl rfl ?_
      refine twp_seq ?_
      refine twp_cond _ rfl (fun h10 => ?_) (fun h10 => ?_)
      · replace hm := ite_T h10 hm
        refine twp_skip ?_
        refine way_then ?_
        refine w_norm [3, 4, 5, 7, 14, 15, 16] rfl rfl ?_
        refine twp_seq ?_
        refine twp_block ?_
        refine twp_rseq ?_
        obtain ⟨e11, he11, hm⟩ := get_inv hm
        refine s_x rfl rfl (x_ix tab_ok rfl rfl rfl rfl he11) ?_
        refine s_a tab_ok rfl ?_
        refine s_al 4 rfl rfl zero54 rfl ?_
        refine s_a tab_ok rfl ?_
        refine tops_nil ?_
        refine w_norm [3, 4, 5, 7, 9, 14, 15, 16] rfl rfl ?_
        refine twp_dseq follows  ?_
        iterate 4 (refine d_a [0, 1, 2, 3, 4] tab_ok rfl ?_)
        obtain ⟨g12, hm⟩ := guard_inv hm
        refine d_x [0, 1, 2, 3, 4] rfl rfl (x_cut tab_ok rfl rfl rfl rfl rfl g12) ?_
        iterate 5 (refine d_a [0, 1, 2, 3, 4] tab_ok rfl ?_)
        obtain ⟨r13, hr13, hm⟩ := bind_inv hm
        refine d_x [0, 1, 2, 3, 4] rfl rfl (rd_callRN rfl rfl (snaps_cons (.d _) (snaps_cons (.d _) snaps_nil)) (table_Index_c hr13)) ?_
        obtain ⟨e14, he14, hm⟩ := get_inv hm
        refine d_x [0, 1, 2, 3, 4] rfl rfl (x_ix tab_ok rfl rfl rfl rfl he14) ?_
        refine d_a [0, 1, 2, 3, 4] tab_ok rfl ?_
        obtain ⟨r15, hr15, hm⟩ := bind_inv hm
        refine d_x [0, 1, 2, 3, 4] rfl rfl (rd_callRN rfl rfl (snaps_cons (.d _) (snaps_cons (.d _) snaps_nil)) (idset_Has_c hr15)) ?_
        refine d_a [0, 1, 2, 3, 4] tab_ok rfl ?_
        refine d_tail ?_ (by kernel_rfl)
        refine tops_nil ?_
        refine w_norm [3, 4, 5, 7, 9, 14, 15, 16, 34] rfl rfl ?_
        refine twp_cond _ rfl (fun h16 => ?_) (fun h16 => ?_)
        · replace hm := iteB_T h16 hm
          refine twp_region ?_
          iterate 2 (refine s_a tab_ok rfl ?_)
          refine s_x rfl rfl (x_lit [.tmp 36] tab_ok rfl rfl zero54 rfl rfl rfl rfl rfl) ?_
          obtain ⟨g17, hm⟩ := guard_inv hm
          refine s_app (f := Setting.enc) ([e11] : List Setting) tab_ok rfl rfl zero54 rfl rfl rfl rfl rfl (fun h => absurd h (Nat.not_lt_zero _)) rfl src_d g17 rfl rfl ?_
          refine s_a tab_ok rfl ?_
          refine tops_nil ?_
          refine way_block ?_
          refine way_then ?_
          refine w_norm [3, 4, 5, 7, 14, 15, 16] rfl rfl ?_
          refine twp_region ?_
          obtain ⟨g18, hm⟩ := guard_inv hm
          refine s_x rfl rfl (x_ar rfl rfl rfl rfl g18) ?_
          refine s_a tab_ok rfl ?_
          refine tops_nil ?_
          refine way_then ?_
          exact ⟨_, [0, 1, 2, 3], (Option.some.inj hm).symm, rfl, k0, rfl⟩
        · replace hm := iteB_F h16 hm
          refine twp_skip ?_
          refine way_block ?_
          refine way_then ?_
          refine w_norm [3, 4, 5, 7, 14, 15, 16] rfl rfl ?_
          refine twp_region ?_
          obtain ⟨g19, hm⟩ := guard_inv hm
          refine s_x rfl rfl (x_ar rfl rfl rfl rfl g19) ?_
          refine s_a tab_ok rfl ?_
          refine tops_nil ?_
          refine way_then ?_
          exact ⟨_, [0, 1, 2, 3], (Option.some.inj hm).symm, rfl, k0, rfl⟩
      · replace hm := ite_F h10 hm
        refine twp_exit ?_
        refine way_thenExit ?_
        obtain ⟨v20, hm, hz⟩ := inr_inv hm
        rw [hz9 _ hz] at hm
        refine way_thenExit ?_
        refine way_here ?_
        refine way_then ?_
        exact ⟨_, [0, 1, 2, 3], (Option.some.inj hm).symm, rfl, k0, rfl⟩
    · refine w_norm [4, 7] rfl rfl ?_
      refine c_frzO 7 3 [4] rfl rfl rfl rfl (by simp) rfl rfl ?_
      refine twp_rseq ?_
      iterate 5 (refine s_a tab_ok rfl ?_)
      refine s_x rfl rfl (build_d rfl plc48 zero48 rfl rfl rfl rfl) ?_
      refine s_wk 45 [none, none, none, some 3, none, some 1, none, none, some 3, none, some 1, none, some 1, some 2] rfl ?_
      obtain ⟨r21, hr21, hm⟩ := bind_inv hm
      refine s_x rfl rfl (rd_callRD rfl rfl rfl (table_Settings_c hr21)) ?_
      refine s_a tab_ok rfl ?_
      refine tops_nil ?_
      refine w_norm [6] rfl rfl ?_
      refine twp_ret ?_
      obtain rfl := Option.some.inj hm
      exact EndsS.one _ rfl (.d _) (.refl _)

theorem locks_Bound_c {p0 : Table} {p1 : Inter} {p2 : Int} {r : (List Setting)} (hm : locks_Bound p0 p1 p2 = some r) : RetD Try.prog 17 [p0.enc, p1.enc, .int .i64 p2] (.sl 2 (r.map Setting.enc)) := by
  refine .of (mv := fun _ => false) (ret_bodyS callB17 Try.func17 rfl Try.ntmps17 rfl rfl (fun wX gX => ?_))
  unfold locks_Bound at hm
  refine w_norm [0, 1, 2] rfl rfl ?_
  refine twp_rseq ?_
  refine s_bx 0 rfl rfl rfl ?_
  refine s_bx 1 rfl rfl rfl ?_
  refine s_a tab_ok rfl ?_
  refine tops_nil ?_
  refine w_norm [2, 3, 4] rfl rfl ?_
  refine twp_seq ?_
  refine w_joinM hm (fun x1 => ([(21, .d (.bool (x1)))] : Fr)) (fun x1 => ([] : List (Nat × Blk))) [21] [2, 3, 4] rfl (fun z2 hm => ?_) (fun x1 hm => ?_)
  · refine twp_region ?_
    iterate 2 (refine s_a tab_ok rfl ?_)
    refine s_b tab_ok rfl (fun q3 hq3 => ?_)
    cases q3
    · replace hm := ite_F hq3 hm
      iterate 3 (refine s_a tab_ok rfl ?_)
      refine s_x rfl rfl (x_len tab_ok rfl rfl rfl) ?_
      iterate 2 (refine s_a tab_ok rfl ?_)
      refine s_b tab_ok rfl (fun q4 hq4 => ?_)
      cases q4
      · replace hm := ite_F hq4 hm
        iterate 2 (refine s_a tab_ok rfl ?_)
        obtain ⟨r5, hr5, hm⟩ := bind_inv hm
        refine s_x rfl rfl (rd_callRN rfl rfl (snaps_cons (.d _) (snaps_cons (.d _) snaps_nil)) (locks_fits_c hr5)) ?_
        iterate 2 (refine s_a tab_ok rfl ?_)
        refine tops_nil ?_
        refine way_then ?_
        exact ⟨_, [0, 1], (Option.some.inj hm).symm, rfl, k0, rfl⟩
      · replace hm := ite_T hq4 hm
        iterate 5 (refine s_a tab_ok rfl ?_)
        refine tops_nil ?_
        refine way_then ?_
        exact ⟨_, [0, 1], (Option.some.inj hm).symm, rfl, k0, rfl⟩
    · replace hm := ite_T hq3 hm
      iterate 12 (refine s_a tab_ok rfl ?_)
      refine tops_nil ?_
      refine way_then ?_
      exact ⟨_, [0, 1], (Option.some.inj hm).symm, rfl, k0, rfl⟩
  · refine w_norm [2, 3, 4, 21] rfl rfl ?_
    refine twp_cond _ rfl (fun h6 => ?_) (fun h6 => ?_)
    · replace hm := iteB_T h6 hm
      refine twp_rseq ?_
      refine s_a tab_ok rfl ?_
      refine tops_nil ?_
      refine c_wk 6 [some 2] rfl ?_
      refine w_norm [6] rfl rfl ?_
      refine twp_ret ?_
      refine way_thenRet ?_
      obtain rfl := Option.some.inj hm
      exact EndsS.one _ rfl (.d _) (.refl _)
    · replace hm := iteB_F h6 hm
      refine twp_skip ?_
      refine way_then ?_
      refine w_norm [2, 3, 4] rfl rfl ?_
      refine twp_dseq follows  ?_
      iterate 4 (refine d_a [0, 1] tab_ok rfl ?_)
      obtain ⟨e7, he7, hm⟩ := get_inv hm
      refine d_x [0, 1] rfl rfl (x_ix tab_ok rfl rfl rfl rfl he7) ?_
      iterate 4 (refine d_a [0, 1] tab_ok rfl ?_)
      obtain ⟨e8, he8, hm⟩ := get_inv hm
      refine d_x [0, 1] rfl rfl (x_ix tab_ok rfl rfl rfl rfl he8) ?_
      refine d_a [0, 1] tab_ok rfl ?_
      obtain ⟨r9, hr9, hm⟩ := bind_inv hm
      refine d_x [0, 1] rfl rfl (rd_callRD rfl rfl rfl (locks_bound_c hr9)) ?_
      refine d_tail ?_ (by kernel_rfl)
      refine s_a tab_ok rfl ?_
      refine tops_nil ?_
      refine w_norm [6] rfl rfl ?_
      refine twp_ret ?_
      obtain rfl := Option.some.inj hm
      exact EndsS.one _ rfl (.d _) (.refl _)

theorem locks_locked_c {p0 : Route} {p1 : RouteState} {r : (List A2_int)} (hm : locks_locked p0 p1 = some r) : RetD Try.prog 33 [p0.enc, p1.enc] (.sl 2 (r.map A2_int.enc)) := by
  refine .of (mv := fun _ => false) (ret_bodyS callB33 Try.func33 rfl Try.ntmps33 rfl rfl (fun wX gX => ?_))
  unfold locks_locked at hm
  refine w_norm [0, 1] rfl rfl ?_
  refine twp_rseq ?_
  refine s_bx 0 rfl rfl rfl ?_
  refine s_bx 1 rfl rfl rfl ?_
  refine s_a tab_ok rfl ?_
  refine tops_nil ?_
  refine w_norm [2, 3] rfl rfl ?_
  refine twp_rseq ?_
  refine s_nilO (f := A2_int.enc) 2 61 2 rfl rfl rfl ?_
  refine tops_nil ?_
  refine w_norm [2, 3, 5] rfl rfl ?_
  refine w_joinM hm (fun b1 => ([(5, .msl 2 2 0 b1.length)] : Fr)) (fun b1 => ([(2, .flat 61 2 (b1.map A2_int.enc))] : List (Nat × Blk))) [5] [2, 3] rfl (fun z2 hm => ?_) (fun b1 hm => ?_)
  · refine twp_rseq ?_
    iterate 2 (refine s_a tab_ok rfl ?_)
    obtain ⟨r3, hr3, hm⟩ := bind_inv hm
    refine s_x rfl rfl (rd_callRD rfl rfl rfl (locks_path_c hr3)) ?_
    refine s_x rfl rfl (x_len tab_ok rfl rfl rfl) ?_
    refine s_a tab_ok rfl ?_
    refine tops_nil ?_
    refine w_norm [2, 3, 5, 12, 13, 14] rfl rfl ?_
    refine twp_block ?_
    refine w_loop hm (fun (x7, b8) => ([(5, .msl 2 2 0 b8.length), (14, .d (.int .i64 x7))] : Fr)) (fun (x7, b8) => ([(2, .flat 61 2 (b8.map A2_int.enc))] : List (Nat × Blk))) [5, 14] [2, 3, 12, 13] [0, 1, 2] rfl k0 rfl rfl rfl rfl rfl (fun s z9 hm hz9 => ?_)
    obtain ⟨x7, b8⟩ := s
    refine w_norm [2, 3, 5, 12, 13, 14] rfl rfl ?_
    refine twp_rseq ?_
    refine s_a tab_ok rfl ?_
    refine tops_nil ?_
    refine w_norm [2, 3, 5, 12, 13, 14, 15] rfl rfl ?_
    refine twp_seq ?_
    refine twp_cond _ rfl (fun h10 => ?_) (fun h10 => ?_)
    · replace hm := ite_T h10 hm
      refine twp_skip ?_
      refine way_then ?_
      refine w_norm [2, 3, 5, 12, 13, 14] rfl rfl ?_
      refine twp_seq ?_
      refine twp_block ?_
      refine twp_rseq ?_
      obtain ⟨e11, he11, hm⟩ := get_inv hm
      refine s_x rfl rfl (x_ix tab_ok rfl rfl rfl rfl he11) ?_
      iterate 2 (refine s_a tab_ok rfl ?_)
      refine tops_nil ?_
      refine w_norm [2, 3, 5, 7, 12, 13, 14] rfl rfl ?_
      refine twp_region ?_
      iterate 2 (refine s_a tab_ok rfl ?_)
      refine s_x rfl rfl (build_a rfl plcA61 zero61 rfl rfl rfl rfl) ?_
      refine s_x rfl rfl (x_lit [.tmp 20] tab_ok rfl rfl zero61 rfl rfl rfl rfl rfl) ?_
      obtain ⟨g12, hm⟩ := guard_inv hm
      refine s_app (f := A2_int.enc) ([(⟨e11, (0 : Int)⟩ : A2_int)] : List A2_int) tab_ok rfl rfl zero61 rfl rfl rfl rfl rfl (fun h => absurd h (Nat.not_lt_zero _)) rfl src_d g12 rfl rfl ?_
      refine s_a tab_ok rfl ?_
      refine tops_nil ?_
      refine way_block ?_
      refine way_then ?_
      refine w_norm [2, 3, 5, 12, 13, 14] rfl rfl ?_
      refine twp_region ?_
      obtain ⟨g13, hm⟩ := guard_inv hm
      refine s_x rfl rfl (x_ar rfl rfl rfl rfl g13) ?_
      refine s_a tab_ok rfl ?_
      refine tops_nil ?_
      refine way_then ?_
      exact ⟨_, [0, 1, 2], (Option.some.inj hm).symm, rfl, k0, rfl⟩
    · replace hm := ite_F h10 hm
      refine twp_exit ?_
      refine way_thenExit ?_
      obtain ⟨v14, hm, hz⟩ := inr_inv hm
      rw [hz9 _ hz] at hm
      refine way_thenExit ?_
      refine way_here ?_
      refine way_then ?_
      exact ⟨_, [0, 1, 2], (Option.some.inj hm).symm, rfl, k0, rfl⟩
  · refine w_norm [2, 3, 5] rfl rfl ?_
    refine w_joinM hm (fun b15 => ([(5, .msl 2 2 0 b15.length)] : Fr)) (fun b15 => ([(2, .flat 61 2 (b15.map A2_int.enc))] : List (Nat × Blk))) [5] [] rfl (fun z16 hm => ?_) (fun b15 hm => ?_)
    · refine twp_rseq ?_
      iterate 2 (refine s_a tab_ok rfl ?_)
      obtain ⟨r17, hr17, hm⟩ := bind_inv hm
      refine s_x rfl rfl (rd_callRD rfl rfl rfl (locks_over_c hr17)) ?_
      refine s_x rfl rfl (x_len tab_ok rfl rfl rfl) ?_
      refine s_a tab_ok rfl ?_
      refine tops_nil ?_
      refine w_norm [5, 26, 27, 28] rfl rfl ?_
      refine twp_block ?_
      refine w_loop hm (fun (x21, b22) => ([(5, .msl 2 2 0 b22.length), (28, .d (.int .i64 x21))] : Fr)) (fun (x21, b22) => ([(2, .flat 61 2 (b22.map A2_int.enc))] : List (Nat × Blk))) [5, 28] [26, 27] [0, 1, 2] rfl k0 rfl rfl rfl rfl rfl (fun s z23 hm hz23 => ?_)
      obtain ⟨x21, b22⟩ := s
      refine w_norm [5, 26, 27, 28] rfl rfl ?_
      refine twp_rseq ?_
      refine s_a tab_ok rfl ?_
      refine tops_nil ?_
      refine w_norm [5, 26, 27, 28, 29] rfl rfl ?_
      refine twp_seq ?_
      refine twp_cond _ rfl (fun h24 => ?_) (fun h24 => ?_)
      · replace hm := ite_T h24 hm
        refine twp_skip ?_
        refine way_then ?_
        refine w_norm [5, 26, 27, 28] rfl rfl ?_
        refine twp_seq ?_
        refine twp_block ?_
        refine twp_rseq ?_
        obtain ⟨e25, he25, hm⟩ := get_inv hm
        refine s_x rfl rfl (x_ix tab_ok rfl rfl rfl rfl he25) ?_
        iterate 2 (refine s_a tab_ok rfl ?_)
        refine tops_nil ?_
        refine w_norm [5, 9, 26, 27, 28] rfl rfl ?_
        refine twp_region ?_
        iterate 2 (refine s_a tab_ok rfl ?_)
        refine s_x rfl rfl (build_a rfl plcA61 zero61 rfl rfl rfl rfl) ?_
        refine s_x rfl rfl (x_lit [.tmp 34] tab_ok rfl rfl zero61 rfl rfl rfl rfl rfl) ?_
        obtain ⟨g26, hm⟩ := guard_inv hm
        refine s_app (f := A2_int.enc) ([(⟨e25, (1 : Int)⟩ : A2_int)] : List A2_int) tab_ok rfl rfl zero61 rfl rfl rfl rfl rfl (fun h => absurd h (Nat.not_lt_zero _)) rfl src_d g26 rfl rfl ?_
        refine s_a tab_ok rfl ?_
        refine tops_nil ?_
        refine way_block ?_
        refine way_then ?_
        refine w_norm [5, 26, 27, 28] rfl rfl ?_
        refine twp_region ?_
        obtain ⟨g27, hm⟩ := guard_inv hm
        refine s_x rfl rfl (x_ar rfl rfl rfl rfl g27) ?_
        refine s_a tab_ok rfl ?_
        refine tops_nil ?_
        refine way_then ?_
        exact ⟨_, [0, 1, 2], (Option.some.inj hm).symm, rfl, k0, rfl⟩
      · replace hm := ite_F h24 hm
        refine twp_exit ?_
        refine way_thenExit ?_
        obtain ⟨v28, hm, hz⟩ := inr_inv hm
        rw [hz23 _ hz] at hm
        refine way_thenExit ?_
        refine way_here ?_
        refine way_then ?_
        exact ⟨_, [0, 1, 2], (Option.some.inj hm).symm, rfl, k0, rfl⟩
    · refine w_norm [5] rfl rfl ?_
      refine twp_rseq ?_
      iterate 2 (refine s_a tab_ok rfl ?_)
      refine tops_nil ?_
      refine w_norm [4] rfl rfl ?_
      refine twp_ret ?_
      obtain rfl := Option.some.inj hm
      exact EndsS.one _ rfl (snap_map rfl) (.refl _)

theorem conflict_Follows_c {p0 : Route} {p1 : Route} {r : Bool} (hm : conflict_Follows p0 p1 = some r) : RetN Try.prog 53 [p0.enc, p1.enc] (.bool (r)) := by
  refine .unit (ret_bodyS callB53 Try.func53 rfl Try.ntmps53 rfl rfl (fun wX gX => ?_)) rfl
  unfold conflict_Follows at hm
  refine w_norm [0, 1] rfl rfl ?_
  refine twp_rseq ?_
  refine s_bx 0 rfl rfl rfl ?_
  refine s_bx 1 rfl rfl rfl ?_
  refine s_a tab_ok rfl ?_
  refine tops_nil ?_
  refine w_norm [2, 3] rfl rfl ?_
  refine w_cut [(4, .d (.bool (((decide ((0 : Int) ≤ p0.exit)) && (decide (p1.entry = p0.exit))))))] [4] [] rfl ?_ ?_
  · refine twp_region ?_
    iterate 3 (refine s_a tab_ok rfl ?_)
    refine s_b tab_ok rfl (fun q1 hq1 => ?_)
    cases q1
    · iterate 7 (refine s_a tab_ok rfl ?_)
      refine tops_nil ?_
      refine way_then ?_
      exact ⟨[0, 1], rfl, k0, st_eq (fr_cons (av_bool (by simp [hq1])) rfl) rfl⟩
    · iterate 7 (refine s_a tab_ok rfl ?_)
      refine tops_nil ?_
      refine way_then ?_
      exact ⟨[0, 1], rfl, k0, st_eq (fr_cons (av_bool (by simp [hq1])) rfl) rfl⟩
  · refine w_norm [4] rfl rfl ?_
    refine twp_ret ?_
    obtain rfl := Option.some.inj hm
    exact EndsS.one _ rfl (.d _) (.refl _)

theorem locks_has_c {p0 : (List A2_int)} {p1 : Int} {p2 : Int} {r : Bool} (hm : locks_has p0 p1 p2 = some r) : RetN Try.prog 54 [.sl 2 (p0.map A2_int.enc), .int .i64 p1, .int .i64 p2] (.bool (r)) := by
  refine .unit (ret_bodyS callB54 Try.func54 rfl Try.ntmps54 rfl rfl (fun wX gX => ?_)) rfl
  unfold locks_has at hm
  refine w_norm [0, 1, 2] rfl rfl ?_
  refine twp_rseq ?_
  refine s_a tab_ok rfl ?_
  refine tops_nil ?_
  refine w_norm [0, 1, 2] rfl rfl ?_
  refine w_joinS hm (fun _ => ([] : Fr)) (fun _ => ([] : List (Nat × Blk))) [] [] rfl (fun z1 hm hz1 => ?_) (fun j hm => ?_)
  · refine twp_rseq ?_
    refine s_a tab_ok rfl ?_
    refine s_x rfl rfl (x_len tab_ok rfl rfl rfl) ?_
    refine s_a tab_ok rfl ?_
    refine tops_nil ?_
    refine w_norm [1, 2, 9, 10, 11] rfl rfl ?_
    refine twp_block ?_
    refine w_loop hm (fun x3 => ([(11, .d (.int .i64 x3))] : Fr)) (fun x3 => ([] : List (Nat × Blk))) [11] [1, 2, 9, 10] [] rfl k0 rfl rfl rfl rfl rfl (fun x3 z4 hm hz4 => ?_)
    refine w_norm [1, 2, 9, 10, 11] rfl rfl ?_
    refine twp_rseq ?_
    refine s_a tab_ok rfl ?_
    refine tops_nil ?_
    refine w_norm [1, 2, 9, 10, 11, 12] rfl rfl ?_
    refine twp_seq ?_
    refine twp_cond _ rfl (fun h5 => ?_) (fun h5 => ?_)
    · replace hm := ite_T h5 hm
      refine twp_skip ?_
      refine way_then ?_
      refine w_norm [1, 2, 9, 10, 11] rfl rfl ?_
      refine twp_seq ?_
      refine twp_block ?_
      refine twp_rseq ?_
      obtain ⟨e6, he6, hm⟩ := get_inv hm
      refine s_x rfl rfl (x_ix tab_ok rfl rfl rfl rfl he6) ?_
      refine s_a tab_ok rfl ?_
      refine s_al 0 rfl rfl zero61 rfl ?_
      refine s_a tab_ok rfl ?_
      refine tops_nil ?_
      refine w_norm [1, 2, 8, 9, 10, 11] rfl rfl ?_
      refine twp_rseq ?_
      iterate 3 (refine s_a tab_ok rfl ?_)
      refine s_x rfl rfl (build_a rfl plcA61 zero61 rfl rfl rfl rfl) ?_
      obtain ⟨g7, hm⟩ := guard_inv hm
      refine s_x rfl rfl (A2_int_eq rfl rfl rfl g7.1 g7.2) ?_
      refine tops_nil ?_
      refine w_norm [1, 2, 9, 10, 11, 19] rfl rfl ?_
      refine twp_cond _ rfl (fun h9 => ?_) (fun h9 => ?_)
      · replace hm := ite_T h9 hm
        refine twp_rseq ?_
        refine s_a tab_ok rfl ?_
        refine tops_nil ?_
        refine w_norm [6] rfl rfl ?_
        refine twp_ret ?_
        refine way_blockRet ?_
        refine way_thenRet ?_
        obtain ⟨v10, hm, hz⟩ := inr_inv hm
        rw [hz4 _ hz] at hm
        refine way_thenRet ?_
        refine way_blockRet ?_
        obtain ⟨v11, hm, hz⟩ := inr_inv hm
        rw [hz1 _ hz] at hm
        refine way_thenRet ?_
        obtain rfl := Option.some.inj hm
        exact EndsS.one _ rfl (.d _) (.refl _)
      · replace hm := ite_F h9 hm
        refine twp_skip ?_
        refine way_block ?_
        refine way_then ?_
        refine w_norm [1, 2, 9, 10, 11] rfl rfl ?_
        refine twp_region ?_
        obtain ⟨g12, hm⟩ := guard_inv hm
        refine s_x rfl rfl (x_ar rfl rfl rfl rfl g12) ?_
        refine s_a tab_ok rfl ?_
        refine tops_nil ?_
        refine way_then ?_
        exact ⟨_, [], (Option.some.inj hm).symm, rfl, k0, rfl⟩
    · replace hm := ite_F h5 hm
      refine twp_exit ?_
      refine way_thenExit ?_
      obtain ⟨v13, hm, hz⟩ := inr_inv hm
      rw [hz4 _ hz] at hm
      refine way_thenExit ?_
      refine way_here ?_
      refine way_then ?_
      exact ⟨_, [], (Option.some.inj hm).symm, rfl, k0, rfl⟩
  · refine w_norm [] rfl rfl ?_
    refine twp_rseq ?_
    refine s_a tab_ok rfl ?_
    refine tops_nil ?_
    refine w_norm [6] rfl rfl ?_
    refine twp_ret ?_
    obtain rfl := Option.some.inj hm
    exact EndsS.one _ rfl (.d _) (.refl _)

theorem locks_clash_c {p0 : Route} {p1 : Route} {p2 : (List A2_int)} {p3 : (List A2_int)} {r : Bool} (hm : locks_clash p0 p1 p2 p3 = some r) : RetN Try.prog 34 [p0.enc, p1.enc, .sl 2 (p2.map A2_int.enc), .sl 2 (p3.map A2_int.enc)] (.bool (r)) := by
  refine .unit (ret_bodyS callB34 Try.func34 rfl Try.ntmps34 rfl rfl (fun wX gX => ?_)) rfl
  unfold locks_clash at hm
  refine w_norm [0, 1, 2, 3] rfl rfl ?_
  refine twp_rseq ?_
  refine s_bx 0 rfl rfl rfl ?_
  refine s_bx 1 rfl rfl rfl ?_
  refine s_a tab_ok rfl ?_
  refine tops_nil ?_
  refine w_norm [2, 3, 4, 5] rfl rfl ?_
  refine twp_dseq follows  ?_
  iterate 2 (refine d_a [0, 1] tab_ok rfl ?_)
  obtain ⟨r1, hr1, hm⟩ := bind_inv hm
  refine d_x [0, 1] rfl rfl (rd_callRN rfl rfl (snaps_cons (.d _) (snaps_cons (.d _) snaps_nil)) (conflict_Follows_c hr1)) ?_
  iterate 2 (refine d_a [0, 1] tab_ok rfl ?_)
  obtain ⟨r2, hr2, hm⟩ := bind_inv hm
  refine d_x [0, 1] rfl rfl (rd_callRN rfl rfl (snaps_cons (.d _) (snaps_cons (.d _) snaps_nil)) (conflict_Follows_c hr2)) ?_
  refine d_tail ?_ (by kernel_rfl)
  iterate 2 (refine s_a tab_ok rfl ?_)
  refine tops_nil ?_
  refine w_norm [2, 3, 9, 10] rfl rfl ?_
  refine w_joinS hm (fun _ => ([] : Fr)) (fun _ => ([] : List (Nat × Blk))) [] [] rfl (fun z3 hm hz3 => ?_) (fun j hm => ?_)
  · refine twp_rseq ?_
    refine s_a tab_ok rfl ?_
    refine s_x rfl rfl (x_len tab_ok rfl rfl rfl) ?_
    refine s_a tab_ok rfl ?_
    refine tops_nil ?_
    refine w_norm [3, 9, 10, 19, 20, 21] rfl rfl ?_
    refine twp_block ?_
    refine w_loop hm (fun x5 => ([(21, .d (.int .i64 x5))] : Fr)) (fun x5 => ([] : List (Nat × Blk))) [21] [3, 9, 10, 19, 20] [0, 1] rfl k0 rfl rfl rfl rfl rfl (fun x5 z6 hm hz6 => ?_)
    refine w_norm [3, 9, 10, 19, 20, 21] rfl rfl ?_
    refine twp_rseq ?_
    refine s_a tab_ok rfl ?_
    refine tops_nil ?_
    refine w_norm [3, 9, 10, 19, 20, 21, 22] rfl rfl ?_
    refine twp_seq ?_
    refine twp_cond _ rfl (fun h7 => ?_) (fun h7 => ?_)
    · replace hm := ite_T h7 hm
      refine twp_skip ?_
      refine way_then ?_
      refine w_norm [3, 9, 10, 19, 20, 21] rfl rfl ?_
      refine twp_seq ?_
      refine twp_block ?_
      refine twp_rseq ?_
      obtain ⟨e8, he8, hm⟩ := get_inv hm
      refine s_x rfl rfl (x_ix tab_ok rfl rfl rfl rfl he8) ?_
      refine s_a tab_ok rfl ?_
      refine s_al 2 rfl rfl zero61 rfl ?_
      refine s_a tab_ok rfl ?_
      refine tops_nil ?_
      refine w_norm [3, 9, 10, 12, 19, 20, 21] rfl rfl ?_
      refine twp_seq ?_
      refine w_joinM hm (fun x9 => ([(37, .d (.bool (x9)))] : Fr)) (fun x9 => ([] : List (Nat × Blk))) [37] [3, 9, 10, 12, 19, 20, 21] rfl (fun z10 hm => ?_) (fun x9 hm => ?_)
      · refine twp_region ?_
        refine s_a tab_ok rfl ?_
        refine s_x rfl rfl (index_arrC rfl asel61 rfl rfl (by decide) (by decide) rfl) ?_
        refine s_a tab_ok rfl ?_
        obtain ⟨r11, hr11, hm⟩ := bind_inv hm
        refine s_x rfl rfl (rd_callRN rfl rfl (snaps_cons (.d _) (snaps_cons (.d _) (snaps_cons (.d _) snaps_nil))) (locks_has_c hr11)) ?_
        refine s_b tab_ok rfl (fun q12 hq12 => ?_)
        cases q12
        · replace hm := iteB_F hq12 hm
          iterate 8 (refine s_a tab_ok rfl ?_)
          refine tops_nil ?_
          refine way_then ?_
          exact ⟨_, [0, 1, 2], (Option.some.inj hm).symm, rfl, k0, rfl⟩
        · replace hm := iteB_T hq12 hm
          refine s_x rfl rfl (index_arrC rfl asel61 rfl rfl (by decide) (by decide) rfl) ?_
          iterate 2 (refine s_a tab_ok rfl ?_)
          refine s_b tab_ok rfl (fun q13 hq13 => ?_)
          cases q13
          · replace hm := ite_F hq13 hm
            iterate 4 (refine s_a tab_ok rfl ?_)
            refine tops_nil ?_
            refine way_then ?_
            exact ⟨_, [0, 1, 2], (Option.some.inj hm).symm, rfl, k0, rfl⟩
          · replace hm := ite_T hq13 hm
            iterate 4 (refine s_a tab_ok rfl ?_)
            refine tops_nil ?_
            refine way_then ?_
            exact ⟨_, [0, 1, 2], (Option.some.inj hm).symm, rfl, k0, rfl⟩
      · refine w_norm [3, 9, 10, 12, 19, 20, 21, 37] rfl rfl ?_
        refine twp_cond _ rfl (fun h14 => ?_) (fun h14 => ?_)
        · replace hm := iteB_T h14 hm
          refine twp_rseq ?_
          refine s_a tab_ok rfl ?_
          refine tops_nil ?_
          refine w_norm [8] rfl rfl ?_
          refine twp_ret ?_
          refine way_thenRet ?_
          refine way_blockRet ?_
          refine way_thenRet ?_
          obtain ⟨v15, hm, hz⟩ := inr_inv hm
          rw [hz6 _ hz] at hm
          refine way_thenRet ?_
          refine way_blockRet ?_
          obtain ⟨v16, hm, hz⟩ := inr_inv hm
          rw [hz3 _ hz] at hm
          refine way_thenRet ?_
          obtain rfl := Option.some.inj hm
          exact EndsS.one _ rfl (.d _) (.refl _)
        · replace hm := iteB_F h14 hm
          refine twp_skip ?_
          refine way_then ?_
          refine w_norm [3, 9, 10, 12, 19, 20, 21] rfl rfl ?_
          refine w_joinM hm (fun x17 => ([(54, .d (.bool (x17)))] : Fr)) (fun x17 => ([] : List (Nat × Blk))) [54] [3, 9, 10, 19, 20, 21] rfl (fun z18 hm => ?_) (fun x17 hm => ?_)
          · refine twp_region ?_
            refine s_a tab_ok rfl ?_
            refine s_x rfl rfl (index_arrC rfl asel61 rfl rfl (by decide) (by decide) rfl) ?_
            refine s_a tab_ok rfl ?_
            obtain ⟨r19, hr19, hm⟩ := bind_inv hm
            refine s_x rfl rfl (rd_callRN rfl rfl (snaps_cons (.d _) (snaps_cons (.d _) (snaps_cons (.d _) snaps_nil))) (locks_has_c hr19)) ?_
            refine s_b tab_ok rfl (fun q20 hq20 => ?_)
            cases q20
            · replace hm := iteB_F hq20 hm
              iterate 12 (refine s_a tab_ok rfl ?_)
              refine tops_nil ?_
              refine way_then ?_
              exact ⟨_, [0, 1, 2], (Option.some.inj hm).symm, rfl, k0, rfl⟩
            · replace hm := iteB_T hq20 hm
              iterate 3 (refine s_a tab_ok rfl ?_)
              refine s_b tab_ok rfl (fun q21 hq21 => ?_)
              cases q21
              · replace hm := iteB_F hq21 hm
                iterate 8 (refine s_a tab_ok rfl ?_)
                refine tops_nil ?_
                refine way_then ?_
                exact ⟨_, [0, 1, 2], (Option.some.inj hm).symm, rfl, k0, rfl⟩
              · replace hm := iteB_T hq21 hm
                refine s_x rfl rfl (index_arrC rfl asel61 rfl rfl (by decide) (by decide) rfl) ?_
                iterate 2 (refine s_a tab_ok rfl ?_)
                refine s_b tab_ok rfl (fun q22 hq22 => ?_)
                cases q22
                · replace hm := ite_F hq22 hm
                  iterate 4 (refine s_a tab_ok rfl ?_)
                  refine tops_nil ?_
                  refine way_then ?_
                  exact ⟨_, [0, 1, 2], (Option.some.inj hm).symm, rfl, k0, rfl⟩
                · replace hm := ite_T hq22 hm
                  iterate 4 (refine s_a tab_ok rfl ?_)
                  refine tops_nil ?_
                  refine way_then ?_
                  exact ⟨_, [0, 1, 2], (Option.some.inj hm).symm, rfl, k0, rfl⟩
          · refine w_norm [3, 9, 10, 19, 20, 21, 54] rfl rfl ?_
            refine twp_cond _ rfl (fun h23 => ?_) (fun h23 => ?_)
            · replace hm := iteB_T h23 hm
              refine twp_rseq ?_
              refine s_a tab_ok rfl ?_
              refine tops_nil ?_
              refine w_norm [8] rfl rfl ?_
              refine twp_ret ?_
              refine way_blockRet ?_
              refine way_thenRet ?_
              obtain ⟨v24, hm, hz⟩ := inr_inv hm
              rw [hz6 _ hz] at hm
              refine way_thenRet ?_
              refine way_blockRet ?_
              obtain ⟨v25, hm, hz⟩ := inr_inv hm
              rw [hz3 _ hz] at hm
              refine way_thenRet ?_
              obtain rfl := Option.some.inj hm
              exact EndsS.one _ rfl (.d _) (.refl _)
            · replace hm := iteB_F h23 hm
              refine twp_skip ?_
              refine way_block ?_
              refine way_then ?_
              refine w_norm [3, 9, 10, 19, 20, 21] rfl rfl ?_
              refine twp_region ?_
              obtain ⟨g26, hm⟩ := guard_inv hm
              refine s_x rfl rfl (x_ar rfl rfl rfl rfl g26) ?_
              refine s_a tab_ok rfl ?_
              refine tops_nil ?_
              refine way_then ?_
              exact ⟨_, [0, 1], (Option.some.inj hm).symm, rfl, k0, rfl⟩
    · replace hm := ite_F h7 hm
      refine twp_exit ?_
      refine way_thenExit ?_
      obtain ⟨v27, hm, hz⟩ := inr_inv hm
      rw [hz6 _ hz] at hm
      refine way_thenExit ?_
      refine way_here ?_
      refine way_then ?_
      exact ⟨_, [0, 1], (Option.some.inj hm).symm, rfl, k0, rfl⟩
  · refine w_norm [] rfl rfl ?_
    refine twp_rseq ?_
    refine s_a tab_ok rfl ?_
    refine tops_nil ?_
    refine w_norm [8] rfl rfl ?_
    refine twp_ret ?_
    obtain rfl := Option.some.inj hm
    exact EndsS.one _ rfl (.d _) (.refl _)

end Go.Proofs.Ytckkkfgjgjoemaa
