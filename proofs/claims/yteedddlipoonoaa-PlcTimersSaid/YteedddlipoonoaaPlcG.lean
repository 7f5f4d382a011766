/- Machines: begun, halted, compared, fitting; lists compared and copied; walked. No condition. -/
import Derived.Test.YteedddlipoonoaaPlcF
import Derived.KernelRfl
set_option linter.unusedSimpArgs false
set_option linter.unusedVariables false
namespace Go.Proofs.Yteedddlipoonoaa
open Go Go.TL

theorem callB30 : callB Try.prog 30 = true := by kernel_rfl

theorem equalB_step (xs ys : List Bool) (hn : xs.length ≤ 9223372036854775807) (hn2 : ys.length ≤ 9223372036854775807) : Ret Try.prog 30 [] (fun _ => false) ([D.sl 1 (xs.map D.bool), D.sl 1 (ys.map D.bool)].map .d) (.d (.bool (decide (xs = ys)))) [] := by
  refine ret_body callB30 Try.func30 rfl Try.ntmps30 rfl rfl (fun wX gX => ?_)
  refine twp_norm [0, 1] (sub_d rfl (sub_d rfl .nil)) (blk_nil rfl) ?_
  refine twp_rseq ?_
  refine s_rd _ rfl (mv_d (.inr rfl) rfl) ?_
  refine tops_nil ?_
  refine twp_norm [0, 1] (sub_d rfl (sub_d rfl .nil)) (blk_nil rfl) ?_
  refine twp_seq ?_
  refine twp_rseq ?_
  refine s_rd _ rfl (mv_d (.inl rfl) rfl) ?_
  refine s_rd _ rfl (by first | exact len_d rfl sel31 rfl (by first | exact List.length_map _ | rfl) | exact len_nil rfl sel31 rfl) ?_
  refine s_rd _ rfl (mv_d (.inl rfl) rfl) ?_
  refine s_rd _ rfl (by first | exact len_d rfl sel31 rfl (by first | exact List.length_map _ | rfl) | exact len_nil rfl sel31 rfl) ?_
  refine s_rd _ rfl (cmp_int rfl rfl rfl rfl) ?_
  refine tops_nil ?_
  refine twp_norm [0, 1, 10] (sub_d rfl (sub_d rfl (sub_d rfl .nil))) (blk_nil rfl) ?_
  refine twp_cond _ rfl (fun hne => ?_) (fun hne => ?_)
  · have hno : ¬ xs = ys := len_ne (by simp at hne; omega)
    refine twp_rseq ?_
    refine s_rd _ rfl (mv_d (.inr rfl) rfl) ?_
    refine tops_nil ?_
    refine twp_norm [4] (sub_d rfl .nil) (blk_nil rfl) ?_
    refine twp_ret ?_
    refine way_thenRet ?_
    exact Ends.plainB _ rfl (by first | simp [hno] | simp [hall])
  · have hle : xs.length = ys.length := by simp at hne; omega
    refine twp_skip ?_
    refine way_then ?_
    refine twp_norm [0, 1] (sub_d rfl (sub_d rfl .nil)) (blk_nil rfl) ?_
    refine twp_seq ?_
    refine twp_rseq ?_
    refine s_rd _ rfl (mv_d (.inl rfl) rfl) ?_
    refine s_rd _ rfl (by first | exact len_d rfl sel31 rfl (by first | exact List.length_map _ | rfl) | exact len_nil rfl sel31 rfl) ?_
    refine s_rd _ rfl (mv_d (.inl rfl) rfl) ?_
    refine tops_nil ?_
    refine twp_norm [0, 1, 12, 13] (sub_d rfl (sub_d rfl (sub_d rfl (sub_d rfl .nil)))) (blk_nil rfl) ?_
    refine twp_block ?_
    refine twp_whileK (fun i => ([(13, .d (.int .i64 ((i : Nat) : Int)))] : Fr)) (fun i => ([] : List (Nat × Blk))) (fun i => i ≤ xs.length ∧ (likeTo xs ys i)) (fun i => xs.length - i) [13] [0, 1, 12] [] 0 (by decide) (fun i hi => absurd hi (Nat.not_lt_zero i)) ⟨Nat.zero_le _, likeTo_zero⟩ (sub_d rfl (sub_d rfl (sub_d rfl .nil))) rfl rfl (blk_nil rfl) rfl ?_
    rintro i ⟨hok, hinv⟩
    refine twp_norm [13, 0, 1, 12] (sub_d rfl (sub_d rfl (sub_d rfl (sub_d rfl .nil)))) (blk_nil rfl) ?_
    refine twp_rseq ?_
    refine s_rd _ rfl (cmp_int rfl rfl rfl rfl) ?_
    refine tops_nil ?_
    refine twp_norm [0, 1, 12, 13, 14] (sub_d rfl (sub_d rfl (sub_d rfl (sub_d rfl (sub_d rfl .nil))))) (blk_nil rfl) ?_
    refine twp_seq ?_
    refine twp_cond _ rfl (fun hlt => ?_) (fun hlt => ?_)
    · have hlt : i < xs.length := by simpa using hlt
      obtain ⟨x, hx⟩ : ∃ x, (xs)[i]? = some x := ⟨_, List.getElem?_eq_getElem (by first | exact hlt | omega | (simp; omega))⟩
      obtain ⟨y, hy⟩ : ∃ x, (ys)[i]? = some x := ⟨_, List.getElem?_eq_getElem (by first | exact hlt | omega | (simp; omega))⟩
      refine twp_skip ?_
      refine way_then ?_
      refine twp_norm [0, 1, 12, 13] (sub_d rfl (sub_d rfl (sub_d rfl (sub_d rfl .nil)))) (blk_nil rfl) ?_
      refine twp_seq ?_
      refine twp_block ?_
      refine twp_rseq ?_
      refine s_rd _ rfl (mv_d (.inl rfl) rfl) ?_
      refine s_rd _ rfl (mv_d (.inr rfl) rfl) ?_
      refine tops_nil ?_
      refine twp_norm [0, 1, 5, 12, 13] (sub_d rfl (sub_d rfl (sub_d rfl (sub_d rfl (sub_d rfl .nil))))) (blk_nil rfl) ?_
      refine twp_dseq follows  ?_
      refine d_rd [] _ rfl rfl (mv_d (.inl rfl) rfl) ?_
      refine d_rd [] _ rfl rfl (mv_d (.inl rfl) rfl) ?_
      refine d_rd [] _ rfl rfl (index_sl rfl sel31 rfl rfl (idx_map hx)) ?_
      first | refine d_rd [] _ rfl rfl (load_ptr rfl lay4 rfl rfl) ?_ | refine d_rd [0] _ rfl rfl (load_ptr rfl lay4 rfl rfl) ?_ | refine d_rd [1] _ rfl rfl (load_ptr rfl lay4 rfl rfl) ?_ | refine d_rd [2] _ rfl rfl (load_ptr rfl lay4 rfl rfl) ?_ | refine d_rd [3] _ rfl rfl (load_ptr rfl lay4 rfl rfl) ?_ | refine d_rd [0, 1] _ rfl rfl (load_ptr rfl lay4 rfl rfl) ?_
      refine d_rd [] _ rfl rfl (mv_d (.inl rfl) rfl) ?_
      refine d_rd [] _ rfl rfl (mv_d (.inl rfl) rfl) ?_
      refine d_rd [] _ rfl rfl (index_sl rfl sel31 rfl rfl (idx_map hy)) ?_
      first | refine d_rd [] _ rfl rfl (load_ptr rfl lay4 rfl rfl) ?_ | refine d_rd [0] _ rfl rfl (load_ptr rfl lay4 rfl rfl) ?_ | refine d_rd [1] _ rfl rfl (load_ptr rfl lay4 rfl rfl) ?_ | refine d_rd [2] _ rfl rfl (load_ptr rfl lay4 rfl rfl) ?_ | refine d_rd [3] _ rfl rfl (load_ptr rfl lay4 rfl rfl) ?_ | refine d_rd [0, 1] _ rfl rfl (load_ptr rfl lay4 rfl rfl) ?_
      refine d_rd [] _ rfl rfl (cmp_bool Try.underlying4 rfl rfl rfl rfl) ?_
      refine d_tail ?_ (by kernel_rfl)
      refine tops_nil ?_
      refine twp_norm [0, 1, 12, 13, 24] (sub_d rfl (sub_d rfl (sub_d rfl (sub_d rfl (sub_d rfl .nil))))) (blk_nil rfl) ?_
      refine twp_cond _ rfl (fun hxy => ?_) (fun hxy => ?_)
      · have hno : ¬ xs = ys := like_ne hx hy (by simpa using hxy)
        refine twp_rseq ?_
        refine s_rd _ rfl (mv_d (.inr rfl) rfl) ?_
        refine tops_nil ?_
        refine twp_norm [4] (sub_d rfl .nil) (blk_nil rfl) ?_
        refine twp_ret ?_
        refine way_blockRet ?_
        refine way_thenRet ?_
        refine way_thenRet ?_
        refine way_blockRet ?_
        refine way_thenRet ?_
        exact Ends.plainB _ rfl (by first | simp [hno] | simp [hall])
      · have hxy : x = y := by simpa using hxy
        refine twp_skip ?_
        refine way_block ?_
        refine way_then ?_
        refine twp_norm [0, 1, 12, 13] (sub_d rfl (sub_d rfl (sub_d rfl (sub_d rfl .nil)))) (blk_nil rfl) ?_
        refine twp_region ?_
        refine s_rd _ rfl (arith_ok rfl rfl rfl rfl (by omega)) ?_
        refine s_rd _ rfl (mv_d (.inl rfl) rfl) ?_
        refine tops_nil ?_
        refine way_then ?_
        exact ⟨(i + 1), [], by decide, (fun i hi => absurd hi (Nat.not_lt_zero i)), ⟨by omega, like_succ hinv (by rw [hx, hy, hxy])⟩, (by omega), rfl⟩
    · have hge : ¬ i < xs.length := by simpa using hlt
      have hi : i = xs.length := by omega
      have hall : xs = ys := like_all hle hinv (by omega)
      refine twp_exit ?_
      refine way_thenExit ?_
      refine way_thenExit ?_
      refine way_here ?_
      refine way_then ?_
      refine twp_norm [] .nil (blk_nil rfl) ?_
      refine twp_rseq ?_
      refine s_rd _ rfl (mv_d (.inr rfl) rfl) ?_
      refine tops_nil ?_
      refine twp_norm [4] (sub_d rfl .nil) (blk_nil rfl) ?_
      refine twp_ret ?_
      exact Ends.plainB _ rfl (by first | simp [hno] | simp [hall])

theorem equalB_n (xs ys : List Bool) (hn : xs.length ≤ 9223372036854775807) (hn2 : ys.length ≤ 9223372036854775807) : RetN Try.prog 30 [.sl 1 (xs.map D.bool), .sl 1 (ys.map D.bool)] (.bool (decide (xs = ys))) := .unit (equalB_step xs ys hn hn2) rfl

theorem callB31 : callB Try.prog 31 = true := by kernel_rfl

theorem sel32 : sel Try.prog 32 = some (3, 1, 8) := by kernel_rfl

theorem equalI_step (xs ys : List Int) (hn : xs.length ≤ 9223372036854775807) (hn2 : ys.length ≤ 9223372036854775807) : Ret Try.prog 31 [] (fun _ => false) ([D.sl 1 (xs.map (D.int .i64)), D.sl 1 (ys.map (D.int .i64))].map .d) (.d (.bool (decide (xs = ys)))) [] := by
  refine ret_body callB31 Try.func31 rfl Try.ntmps31 rfl rfl (fun wX gX => ?_)
  refine twp_norm [0, 1] (sub_d rfl (sub_d rfl .nil)) (blk_nil rfl) ?_
  refine twp_rseq ?_
  refine s_rd _ rfl (mv_d (.inr rfl) rfl) ?_
  refine tops_nil ?_
  refine twp_norm [0, 1] (sub_d rfl (sub_d rfl .nil)) (blk_nil rfl) ?_
  refine twp_seq ?_
  refine twp_rseq ?_
  refine s_rd _ rfl (mv_d (.inl rfl) rfl) ?_
  refine s_rd _ rfl (by first | exact len_d rfl sel32 rfl (by first | exact List.length_map _ | rfl) | exact len_nil rfl sel32 rfl) ?_
  refine s_rd _ rfl (mv_d (.inl rfl) rfl) ?_
  refine s_rd _ rfl (by first | exact len_d rfl sel32 rfl (by first | exact List.length_map _ | rfl) | exact len_nil rfl sel32 rfl) ?_
  refine s_rd _ rfl (cmp_int rfl rfl rfl rfl) ?_
  refine tops_nil ?_
  refine twp_norm [0, 1, 10] (sub_d rfl (sub_d rfl (sub_d rfl .nil))) (blk_nil rfl) ?_
  refine twp_cond _ rfl (fun hne => ?_) (fun hne => ?_)
  · have hno : ¬ xs = ys := len_ne (by simp at hne; omega)
    refine twp_rseq ?_
    refine s_rd _ rfl (mv_d (.inr rfl) rfl) ?_
    refine tops_nil ?_
    refine twp_norm [4] (sub_d rfl .nil) (blk_nil rfl) ?_
    refine twp_ret ?_
    refine way_thenRet ?_
    exact Ends.plainB _ rfl (by first | simp [hno] | simp [hall])
  · have hle : xs.length = ys.length := by simp at hne; omega
    refine twp_skip ?_
    refine way_then ?_
    refine twp_norm [0, 1] (sub_d rfl (sub_d rfl .nil)) (blk_nil rfl) ?_
    refine twp_seq ?_
    refine twp_rseq ?_
    refine s_rd _ rfl (mv_d (.inl rfl) rfl) ?_
    refine s_rd _ rfl (by first | exact len_d rfl sel32 rfl (by first | exact List.length_map _ | rfl) | exact len_nil rfl sel32 rfl) ?_
    refine s_rd _ rfl (mv_d (.inl rfl) rfl) ?_
    refine tops_nil ?_
    refine twp_norm [0, 1, 12, 13] (sub_d rfl (sub_d rfl (sub_d rfl (sub_d rfl .nil)))) (blk_nil rfl) ?_
    refine twp_block ?_
    refine twp_whileK (fun i => ([(13, .d (.int .i64 ((i : Nat) : Int)))] : Fr)) (fun i => ([] : List (Nat × Blk))) (fun i => i ≤ xs.length ∧ (likeTo xs ys i)) (fun i => xs.length - i) [13] [0, 1, 12] [] 0 (by decide) (fun i hi => absurd hi (Nat.not_lt_zero i)) ⟨Nat.zero_le _, likeTo_zero⟩ (sub_d rfl (sub_d rfl (sub_d rfl .nil))) rfl rfl (blk_nil rfl) rfl ?_
    rintro i ⟨hok, hinv⟩
    refine twp_norm [13, 0, 1, 12] (sub_d rfl (sub_d rfl (sub_d rfl (sub_d rfl .nil)))) (blk_nil rfl) ?_
    refine twp_rseq ?_
    refine s_rd _ rfl (cmp_int rfl rfl rfl rfl) ?_
    refine tops_nil ?_
    refine twp_norm [0, 1, 12, 13, 14] (sub_d rfl (sub_d rfl (sub_d rfl (sub_d rfl (sub_d rfl .nil))))) (blk_nil rfl) ?_
    refine twp_seq ?_
    refine twp_cond _ rfl (fun hlt => ?_) (fun hlt => ?_)
    · have hlt : i < xs.length := by simpa using hlt
      obtain ⟨x, hx⟩ : ∃ x, (xs)[i]? = some x := ⟨_, List.getElem?_eq_getElem (by first | exact hlt | omega | (simp; omega))⟩
      obtain ⟨y, hy⟩ : ∃ x, (ys)[i]? = some x := ⟨_, List.getElem?_eq_getElem (by first | exact hlt | omega | (simp; omega))⟩
      refine twp_skip ?_
      refine way_then ?_
      refine twp_norm [0, 1, 12, 13] (sub_d rfl (sub_d rfl (sub_d rfl (sub_d rfl .nil)))) (blk_nil rfl) ?_
      refine twp_seq ?_
      refine twp_block ?_
      refine twp_rseq ?_
      refine s_rd _ rfl (mv_d (.inl rfl) rfl) ?_
      refine s_rd _ rfl (mv_d (.inr rfl) rfl) ?_
      refine tops_nil ?_
      refine twp_norm [0, 1, 5, 12, 13] (sub_d rfl (sub_d rfl (sub_d rfl (sub_d rfl (sub_d rfl .nil))))) (blk_nil rfl) ?_
      refine twp_dseq follows  ?_
      refine d_rd [] _ rfl rfl (mv_d (.inl rfl) rfl) ?_
      refine d_rd [] _ rfl rfl (mv_d (.inl rfl) rfl) ?_
      refine d_rd [] _ rfl rfl (index_sl rfl sel32 rfl rfl (idx_map hx)) ?_
      first | refine d_rd [] _ rfl rfl (load_ptr rfl lay3 rfl rfl) ?_ | refine d_rd [0] _ rfl rfl (load_ptr rfl lay3 rfl rfl) ?_ | refine d_rd [1] _ rfl rfl (load_ptr rfl lay3 rfl rfl) ?_ | refine d_rd [2] _ rfl rfl (load_ptr rfl lay3 rfl rfl) ?_ | refine d_rd [3] _ rfl rfl (load_ptr rfl lay3 rfl rfl) ?_ | refine d_rd [0, 1] _ rfl rfl (load_ptr rfl lay3 rfl rfl) ?_
      refine d_rd [] _ rfl rfl (mv_d (.inl rfl) rfl) ?_
      refine d_rd [] _ rfl rfl (mv_d (.inl rfl) rfl) ?_
      refine d_rd [] _ rfl rfl (index_sl rfl sel32 rfl rfl (idx_map hy)) ?_
      first | refine d_rd [] _ rfl rfl (load_ptr rfl lay3 rfl rfl) ?_ | refine d_rd [0] _ rfl rfl (load_ptr rfl lay3 rfl rfl) ?_ | refine d_rd [1] _ rfl rfl (load_ptr rfl lay3 rfl rfl) ?_ | refine d_rd [2] _ rfl rfl (load_ptr rfl lay3 rfl rfl) ?_ | refine d_rd [3] _ rfl rfl (load_ptr rfl lay3 rfl rfl) ?_ | refine d_rd [0, 1] _ rfl rfl (load_ptr rfl lay3 rfl rfl) ?_
      refine d_rd [] _ rfl rfl (cmp_int rfl rfl rfl rfl) ?_
      refine d_tail ?_ (by kernel_rfl)
      refine tops_nil ?_
      refine twp_norm [0, 1, 12, 13, 24] (sub_d rfl (sub_d rfl (sub_d rfl (sub_d rfl (sub_d rfl .nil))))) (blk_nil rfl) ?_
      refine twp_cond _ rfl (fun hxy => ?_) (fun hxy => ?_)
      · have hno : ¬ xs = ys := like_ne hx hy (by simpa using hxy)
        refine twp_rseq ?_
        refine s_rd _ rfl (mv_d (.inr rfl) rfl) ?_
        refine tops_nil ?_
        refine twp_norm [4] (sub_d rfl .nil) (blk_nil rfl) ?_
        refine twp_ret ?_
        refine way_blockRet ?_
        refine way_thenRet ?_
        refine way_thenRet ?_
        refine way_blockRet ?_
        refine way_thenRet ?_
        exact Ends.plainB _ rfl (by first | simp [hno] | simp [hall])
      · have hxy : x = y := by simpa using hxy
        refine twp_skip ?_
        refine way_block ?_
        refine way_then ?_
        refine twp_norm [0, 1, 12, 13] (sub_d rfl (sub_d rfl (sub_d rfl (sub_d rfl .nil)))) (blk_nil rfl) ?_
        refine twp_region ?_
        refine s_rd _ rfl (arith_ok rfl rfl rfl rfl (by omega)) ?_
        refine s_rd _ rfl (mv_d (.inl rfl) rfl) ?_
        refine tops_nil ?_
        refine way_then ?_
        exact ⟨(i + 1), [], by decide, (fun i hi => absurd hi (Nat.not_lt_zero i)), ⟨by omega, like_succ hinv (by rw [hx, hy, hxy])⟩, (by omega), rfl⟩
    · have hge : ¬ i < xs.length := by simpa using hlt
      have hi : i = xs.length := by omega
      have hall : xs = ys := like_all hle hinv (by omega)
      refine twp_exit ?_
      refine way_thenExit ?_
      refine way_thenExit ?_
      refine way_here ?_
      refine way_then ?_
      refine twp_norm [] .nil (blk_nil rfl) ?_
      refine twp_rseq ?_
      refine s_rd _ rfl (mv_d (.inr rfl) rfl) ?_
      refine tops_nil ?_
      refine twp_norm [4] (sub_d rfl .nil) (blk_nil rfl) ?_
      refine twp_ret ?_
      exact Ends.plainB _ rfl (by first | simp [hno] | simp [hall])

theorem equalI_n (xs ys : List Int) (hn : xs.length ≤ 9223372036854775807) (hn2 : ys.length ≤ 9223372036854775807) : RetN Try.prog 31 [.sl 1 (xs.map (D.int .i64)), .sl 1 (ys.map (D.int .i64))] (.bool (decide (xs = ys))) := .unit (equalI_step xs ys hn hn2) rfl

theorem callB32 : callB Try.prog 32 = true := by kernel_rfl

theorem cloneB_ret (xs : List Bool) (hn : xs.length ≤ 1000000) (mv : Nat → Bool) : Ret Try.prog 32 [] mv ([D.sl 1 (xs.map D.bool)].map .d) (.msl 0 1 0 xs.length) [.flat 4 1 (xs.map D.bool)] := by
  refine ret_body callB32 Try.func32 rfl Try.ntmps32 rfl rfl (fun wX gX => ?_)
  refine twp_norm [0] (sub_d rfl .nil) (blk_nil rfl) ?_
  refine twp_rseq ?_
  refine s_rd _ rfl (mv_d (.inr rfl) rfl) ?_
  refine tops_nil ?_
  refine twp_norm [0] (sub_d rfl .nil) (blk_nil rfl) ?_
  refine twp_seq ?_
  refine twp_rseq ?_
  refine s_rd _ rfl (mv_d (.inl rfl) rfl) ?_
  refine s_eqNil rfl Try.underlying31 rfl rfl (fun b hb => ?_)
  refine tops_nil ?_
  refine twp_norm [0, 4] (sub_d rfl (sub_d rfl .nil)) (blk_nil rfl) ?_
  refine twp_cond _ rfl (fun hb1 => ?_) (fun hb1 => ?_)
  · have hnil : xs = [] := by simpa using hb hb1
    subst hnil
    refine twp_rseq ?_
    refine s_assignNil 4 1 rfl rfl ?_
    refine s_eq 2 (.msl 0 _ _ _) rfl rfl ?_
    refine tops_nil ?_
    refine twp_norm [2] (sub_msl rfl .nil) (blk_flat rfl (blk_nil rfl)) ?_
    refine twp_ret ?_
    refine way_thenRet ?_
    exact ⟨_, [0], res rfl, by decide, fun i hi => absurd hi (Nat.not_lt_zero i), rfl, rfl⟩
  · refine twp_skip ?_
    refine way_then ?_
    refine twp_norm [0] (sub_d rfl .nil) (blk_nil rfl) ?_
    refine twp_rseq ?_
    refine s_litD [] rfl sel31 zero4 rfl rfl rfl rfl rfl ?_
    refine s_eq 5 (.msl 0 _ _ _) rfl rfl ?_
    refine s_rd _ rfl (mv_d (.inl rfl) rfl) ?_
    refine s_append (m := xs.length) (ds := xs.map D.bool) (es' := xs.map D.bool) rfl sel31 zero4 rfl rfl rfl rfl (fun h => absurd h (Nat.not_lt_zero _)) rfl ⟨rfl, rfl⟩ rfl (by simp) (by omega) (by omega) rfl rfl ?_
    refine s_rd _ rfl (mv_msl (.inr rfl) rfl) ?_
    refine tops_nil ?_
    refine twp_norm [2] (sub_msl rfl .nil) (blk_flat rfl (blk_nil rfl)) ?_
    refine twp_ret ?_
    exact ⟨_, [0], res rfl, by decide, fun i hi => absurd hi (Nat.not_lt_zero i), rfl, rfl⟩

theorem callB33 : callB Try.prog 33 = true := by kernel_rfl

theorem cloneI_ret (xs : List Int) (hn : xs.length ≤ 1000000) (mv : Nat → Bool) : Ret Try.prog 33 [] mv ([D.sl 1 (xs.map (D.int .i64))].map .d) (.msl 0 1 0 xs.length) [.flat 3 1 (xs.map (D.int .i64))] := by
  refine ret_body callB33 Try.func33 rfl Try.ntmps33 rfl rfl (fun wX gX => ?_)
  refine twp_norm [0] (sub_d rfl .nil) (blk_nil rfl) ?_
  refine twp_rseq ?_
  refine s_rd _ rfl (mv_d (.inr rfl) rfl) ?_
  refine tops_nil ?_
  refine twp_norm [0] (sub_d rfl .nil) (blk_nil rfl) ?_
  refine twp_seq ?_
  refine twp_rseq ?_
  refine s_rd _ rfl (mv_d (.inl rfl) rfl) ?_
  refine s_eqNil rfl Try.underlying32 rfl rfl (fun b hb => ?_)
  refine tops_nil ?_
  refine twp_norm [0, 4] (sub_d rfl (sub_d rfl .nil)) (blk_nil rfl) ?_
  refine twp_cond _ rfl (fun hb1 => ?_) (fun hb1 => ?_)
  · have hnil : xs = [] := by simpa using hb hb1
    subst hnil
    refine twp_rseq ?_
    refine s_assignNil 3 1 rfl rfl ?_
    refine s_eq 2 (.msl 0 _ _ _) rfl rfl ?_
    refine tops_nil ?_
    refine twp_norm [2] (sub_msl rfl .nil) (blk_flat rfl (blk_nil rfl)) ?_
    refine twp_ret ?_
    refine way_thenRet ?_
    exact ⟨_, [0], res rfl, by decide, fun i hi => absurd hi (Nat.not_lt_zero i), rfl, rfl⟩
  · refine twp_skip ?_
    refine way_then ?_
    refine twp_norm [0] (sub_d rfl .nil) (blk_nil rfl) ?_
    refine twp_rseq ?_
    refine s_litD [] rfl sel32 zero3 rfl rfl rfl rfl rfl ?_
    refine s_eq 5 (.msl 0 _ _ _) rfl rfl ?_
    refine s_rd _ rfl (mv_d (.inl rfl) rfl) ?_
    refine s_append (m := xs.length) (ds := xs.map (D.int .i64)) (es' := xs.map (D.int .i64)) rfl sel32 zero3 rfl rfl rfl rfl (fun h => absurd h (Nat.not_lt_zero _)) rfl ⟨rfl, rfl⟩ rfl (by simp) (by omega) (by omega) rfl rfl ?_
    refine s_rd _ rfl (mv_msl (.inr rfl) rfl) ?_
    refine tops_nil ?_
    refine twp_norm [2] (sub_msl rfl .nil) (blk_flat rfl (blk_nil rfl)) ?_
    refine twp_ret ?_
    exact ⟨_, [0], res rfl, by decide, fun i hi => absurd hi (Nat.not_lt_zero i), rfl, rfl⟩

theorem cloneB_n (xs : List Bool) (hn : xs.length ≤ 1000000) : RetN Try.prog 32 [.sl 1 (xs.map D.bool)] (.sl 1 (xs.map D.bool)) := .flat (cloneB_ret xs hn _) (by simp) (mem0_map _ (fun _ => rfl) _)
theorem cloneI_n (xs : List Int) (hn : xs.length ≤ 1000000) : RetN Try.prog 33 [.sl 1 (xs.map (D.int .i64))] (.sl 1 (xs.map (D.int .i64))) := .flat (cloneI_ret xs hn _) (by simp) (mem0_map _ (fun _ => rfl) _)

theorem callB21 : callB Try.prog 21 = true := by kernel_rfl

theorem fld34_2 : fld Try.prog 34 2 = some 2 := by kernel_rfl

theorem fld34_0 : fld Try.prog 34 0 = some 0 := by kernel_rfl

theorem lay31 : lay Try.prog 31 = some (false, 1) := by kernel_rfl

theorem fld34_1 : fld Try.prog 34 1 = some 1 := by kernel_rfl

theorem lay32 : lay Try.prog 32 = some (false, 1) := by kernel_rfl

theorem sameP_step (a b : Mch) (ha : a.Wf) (hb : b.Wf) : Ret Try.prog 21 [] (fun _ => false) ([a.enc, b.enc].map .d) (.d (.bool (a.same b))) [] := by
  refine ret_body callB21 Try.func21 rfl Try.ntmps21 rfl rfl (fun wX gX => ?_)
  refine twp_norm [0, 1] (sub_d rfl (sub_d rfl .nil)) (blk_nil rfl) ?_
  refine twp_rseq ?_
  refine s_boxA rfl rfl rfl ?_
  refine s_eq 2 (.mptr 0 0 0 0) rfl rfl ?_
  refine s_boxA rfl rfl rfl ?_
  refine s_eq 3 (.mptr 1 0 0 0) rfl rfl ?_
  refine s_rd _ rfl (mv_d (.inr rfl) rfl) ?_
  refine tops_nil ?_
  refine twp_norm [2, 3] (sub_mptr rfl (sub_mptr rfl .nil)) (blk_boxN rfl (by repeat (first | exact NormC.nil rfl | apply nc_d rfl | apply nc_msl rfl | apply nc_mptr rfl | apply nc_fnc rfl)) (blk_boxN rfl (by repeat (first | exact NormC.nil rfl | apply nc_d rfl | apply nc_msl rfl | apply nc_mptr rfl | apply nc_fnc rfl)) (blk_nil rfl))) ?_
  refine twp_rseq ?_
  refine s_rd _ rfl (fieldAddr_mptr rfl fld34_2 rfl rfl) ?_
  refine s_rd _ rfl (by first | exact load_box_d rfl lay4 rfl rfl rfl | exact load_box rfl lay4 rfl rfl rfl) ?_
  refine s_rd _ rfl (fieldAddr_mptr rfl fld34_2 rfl rfl) ?_
  refine s_rd _ rfl (by first | exact load_box_d rfl lay4 rfl rfl rfl | exact load_box rfl lay4 rfl rfl rfl) ?_
  refine s_rd _ rfl (cmp_bool Try.underlying4 rfl rfl rfl rfl) ?_
  refine s_rd _ rfl (mv_d (.inl rfl) rfl) ?_
  refine s_split 10 rfl (fun h0 => ?_) (fun h0 => ?_)
  · refine s_yes rfl rfl rfl ?_
    refine s_rd _ rfl (fieldAddr_mptr rfl fld34_0 rfl rfl) ?_
    refine s_yes rfl rfl rfl ?_
    refine s_rd _ rfl (by first | exact load_box_d rfl lay31 rfl rfl rfl | exact load_box rfl lay31 rfl rfl rfl) ?_
    refine s_yes rfl rfl rfl ?_
    refine s_rd _ rfl (fieldAddr_mptr rfl fld34_0 rfl rfl) ?_
    refine s_yes rfl rfl rfl ?_
    refine s_rd _ rfl (by first | exact load_box_d rfl lay31 rfl rfl rfl | exact load_box rfl lay31 rfl rfl rfl) ?_
    refine s_yes rfl rfl rfl ?_
    refine s_rd _ rfl (rd_callRN rfl rfl (by repeat (first | exact snaps_nil | refine snaps_cons (.d _) ?_ | refine snaps_cons (snap_full rfl (by simp)) ?_ | refine snaps_cons (snap_full rfl rfl) ?_ | refine snaps_cons (snap_boxD rfl rfl) ?_ | refine snaps_cons (snap_agg (by repeat (first | exact SnapsO.nil | refine SnapsO.cons (Snap.d _) rfl ?_ | refine SnapsO.cons (snap_full rfl rfl) rfl ?_))) ?_)) (equalB_n a.vars b.vars ha.vars hb.vars)) ?_
    refine s_rd _ rfl (by first | exact pick_Td rfl rfl rfl | exact pick_T rfl rfl rfl) ?_
    refine s_rd _ rfl (mv_d (.inl rfl) rfl) ?_
    refine s_split 17 rfl (fun h1 => ?_) (fun h1 => ?_)
    · refine s_yes rfl rfl rfl ?_
      refine s_rd _ rfl (fieldAddr_mptr rfl fld34_1 rfl rfl) ?_
      refine s_yes rfl rfl rfl ?_
      refine s_rd _ rfl (by first | exact load_box_d rfl lay32 rfl rfl rfl | exact load_box rfl lay32 rfl rfl rfl) ?_
      refine s_yes rfl rfl rfl ?_
      refine s_rd _ rfl (fieldAddr_mptr rfl fld34_1 rfl rfl) ?_
      refine s_yes rfl rfl rfl ?_
      refine s_rd _ rfl (by first | exact load_box_d rfl lay32 rfl rfl rfl | exact load_box rfl lay32 rfl rfl rfl) ?_
      refine s_yes rfl rfl rfl ?_
      refine s_rd _ rfl (rd_callRN rfl rfl (by repeat (first | exact snaps_nil | refine snaps_cons (.d _) ?_ | refine snaps_cons (snap_full rfl (by simp)) ?_ | refine snaps_cons (snap_full rfl rfl) ?_ | refine snaps_cons (snap_boxD rfl rfl) ?_ | refine snaps_cons (snap_agg (by repeat (first | exact SnapsO.nil | refine SnapsO.cons (Snap.d _) rfl ?_ | refine SnapsO.cons (snap_full rfl rfl) rfl ?_))) ?_)) (equalI_n a.counts b.counts ha.counts hb.counts)) ?_
      refine s_rd _ rfl (by first | exact pick_Td rfl rfl rfl | exact pick_T rfl rfl rfl) ?_
      refine s_rd _ rfl (mv_d (.inr rfl) rfl) ?_
      refine tops_nil ?_
      refine twp_norm [4] (sub_d rfl .nil) (blk_box rfl (blk_box rfl (blk_nil rfl))) ?_
      refine twp_ret ?_
      exact Ends.plainB _ rfl (by grind [Mch.same])
    · refine s_no rfl rfl rfl rfl ?_
      refine s_no rfl rfl rfl rfl ?_
      refine s_no rfl rfl rfl rfl ?_
      refine s_no rfl rfl rfl rfl ?_
      refine s_no rfl rfl rfl rfl ?_
      refine s_rd _ rfl (by first | exact pick_Fd rfl rfl rfl | exact pick_F rfl rfl rfl) ?_
      refine s_rd _ rfl (mv_d (.inr rfl) rfl) ?_
      refine tops_nil ?_
      refine twp_norm [4] (sub_d rfl .nil) (blk_box rfl (blk_box rfl (blk_nil rfl))) ?_
      refine twp_ret ?_
      exact Ends.plainB _ rfl (by grind [Mch.same])
  · refine s_no rfl rfl rfl rfl ?_
    refine s_no rfl rfl rfl rfl ?_
    refine s_no rfl rfl rfl rfl ?_
    refine s_no rfl rfl rfl rfl ?_
    refine s_no rfl rfl rfl rfl ?_
    refine s_rd _ rfl (by first | exact pick_Fd rfl rfl rfl | exact pick_F rfl rfl rfl) ?_
    refine s_rd _ rfl (mv_d (.inl rfl) rfl) ?_
    refine s_no rfl rfl rfl rfl ?_
    refine s_no rfl rfl rfl rfl ?_
    refine s_no rfl rfl rfl rfl ?_
    refine s_no rfl rfl rfl rfl ?_
    refine s_no rfl rfl rfl rfl ?_
    refine s_rd _ rfl (by first | exact pick_Fd rfl rfl rfl | exact pick_F rfl rfl rfl) ?_
    refine s_rd _ rfl (mv_d (.inr rfl) rfl) ?_
    refine tops_nil ?_
    refine twp_norm [4] (sub_d rfl .nil) (blk_box rfl (blk_box rfl (blk_nil rfl))) ?_
    refine twp_ret ?_
    exact Ends.plainB _ rfl (by grind [Mch.same])

theorem callB14 : callB Try.prog 14 = true := by kernel_rfl

theorem sameR_step (a b : Mch) (ha : a.Wf) (hb : b.Wf) : Ret Try.prog 14 [] (fun _ => false) ([a.enc, b.enc].map .d) (.d (.bool (a.same b))) [] := by
  refine ret_body callB14 Try.func14 rfl Try.ntmps14 rfl rfl (fun wX gX => ?_)
  refine twp_norm [0, 1] (sub_d rfl (sub_d rfl .nil)) (blk_nil rfl) ?_
  refine twp_rseq ?_
  refine s_boxA rfl rfl rfl ?_
  refine s_eq 2 (.mptr 0 0 0 0) rfl rfl ?_
  refine s_boxA rfl rfl rfl ?_
  refine s_eq 3 (.mptr 1 0 0 0) rfl rfl ?_
  refine s_rd _ rfl (mv_d (.inr rfl) rfl) ?_
  refine tops_nil ?_
  refine twp_norm [2, 3] (sub_mptr rfl (sub_mptr rfl .nil)) (blk_boxN rfl (by repeat (first | exact NormC.nil rfl | apply nc_d rfl | apply nc_msl rfl | apply nc_mptr rfl | apply nc_fnc rfl)) (blk_boxN rfl (by repeat (first | exact NormC.nil rfl | apply nc_d rfl | apply nc_msl rfl | apply nc_mptr rfl | apply nc_fnc rfl)) (blk_nil rfl))) ?_
  refine twp_seq ?_
  refine twp_rseq ?_
  refine s_rd _ rfl (fieldAddr_mptr rfl fld34_2 rfl rfl) ?_
  refine s_rd _ rfl (by first | exact load_box_d rfl lay4 rfl rfl rfl | exact load_box rfl lay4 rfl rfl rfl) ?_
  refine s_rd _ rfl (fieldAddr_mptr rfl fld34_2 rfl rfl) ?_
  refine s_rd _ rfl (by first | exact load_box_d rfl lay4 rfl rfl rfl | exact load_box rfl lay4 rfl rfl rfl) ?_
  refine s_rd _ rfl (cmp_bool Try.underlying4 rfl rfl rfl rfl) ?_
  refine s_rd _ rfl (mv_d (.inl rfl) rfl) ?_
  refine s_split 12 rfl (fun c1 => ?_) (fun c1 => ?_)
  · have hno : a.same b = false := by simp at c1; simp [Mch.same, c1]
    refine s_no rfl rfl rfl rfl ?_
    refine s_no rfl rfl rfl rfl ?_
    refine s_no rfl rfl rfl rfl ?_
    refine s_no rfl rfl rfl rfl ?_
    refine s_no rfl rfl rfl rfl ?_
    refine s_no rfl rfl rfl rfl ?_
    refine s_no rfl rfl rfl rfl ?_
    refine s_rd _ rfl (by first | exact pick_Td rfl rfl rfl | exact pick_T rfl rfl rfl) ?_
    refine s_rd _ rfl (mv_d (.inl rfl) rfl) ?_
    refine s_no rfl rfl rfl rfl ?_
    refine s_no rfl rfl rfl rfl ?_
    refine s_no rfl rfl rfl rfl ?_
    refine s_no rfl rfl rfl rfl ?_
    refine s_no rfl rfl rfl rfl ?_
    refine s_no rfl rfl rfl rfl ?_
    refine s_no rfl rfl rfl rfl ?_
    refine s_rd _ rfl (by first | exact pick_Td rfl rfl rfl | exact pick_T rfl rfl rfl) ?_
    refine tops_nil ?_
    refine twp_norm [2, 3, 29] (sub_mptr rfl (sub_mptr rfl (sub_d rfl .nil))) (blk_box rfl (blk_box rfl (blk_nil rfl))) ?_
    refine twp_cond true rfl (fun _ => ?_) (fun h => by cases h)
    refine twp_rseq ?_
    refine s_rd _ rfl (mv_d (.inr rfl) rfl) ?_
    refine tops_nil ?_
    refine twp_norm [4] (sub_d rfl .nil) (blk_box rfl (blk_box rfl (blk_nil rfl))) ?_
    refine twp_ret ?_
    refine way_thenRet ?_
    exact Ends.plainB _ rfl (by first | rw [hno] | simp [Mch.same, c1, hv, hc])
  · have c1 : a.halted = b.halted := by simpa using c1
    refine s_yes rfl rfl rfl ?_
    refine s_rd _ rfl (fieldAddr_mptr rfl fld34_0 rfl rfl) ?_
    refine s_yes rfl rfl rfl ?_
    refine s_rd _ rfl (by first | exact load_box_d rfl lay31 rfl rfl rfl | exact load_box rfl lay31 rfl rfl rfl) ?_
    refine s_yes rfl rfl rfl ?_
    refine s_rd _ rfl (by first | exact len_d rfl sel31 rfl (by first | exact List.length_map _ | rfl) | exact len_msl rfl sel31 rfl | exact len_nil rfl sel31 rfl) ?_
    refine s_yes rfl rfl rfl ?_
    refine s_rd _ rfl (fieldAddr_mptr rfl fld34_0 rfl rfl) ?_
    refine s_yes rfl rfl rfl ?_
    refine s_rd _ rfl (by first | exact load_box_d rfl lay31 rfl rfl rfl | exact load_box rfl lay31 rfl rfl rfl) ?_
    refine s_yes rfl rfl rfl ?_
    refine s_rd _ rfl (by first | exact len_d rfl sel31 rfl (by first | exact List.length_map _ | rfl) | exact len_msl rfl sel31 rfl | exact len_nil rfl sel31 rfl) ?_
    refine s_yes rfl rfl rfl ?_
    refine s_rd _ rfl (cmp_int rfl rfl rfl rfl) ?_
    refine s_rd _ rfl (by first | exact pick_Fd rfl rfl rfl | exact pick_F rfl rfl rfl) ?_
    refine s_rd _ rfl (mv_d (.inl rfl) rfl) ?_
    refine s_split 21 rfl (fun c2 => ?_) (fun c2 => ?_)
    · have hno : a.same b = false := by have h := len_ne (xs := a.vars) (ys := b.vars) (by simp at c2; omega); simp [Mch.same, h]
      refine s_no rfl rfl rfl rfl ?_
      refine s_no rfl rfl rfl rfl ?_
      refine s_no rfl rfl rfl rfl ?_
      refine s_no rfl rfl rfl rfl ?_
      refine s_no rfl rfl rfl rfl ?_
      refine s_no rfl rfl rfl rfl ?_
      refine s_no rfl rfl rfl rfl ?_
      refine s_rd _ rfl (by first | exact pick_Td rfl rfl rfl | exact pick_T rfl rfl rfl) ?_
      refine tops_nil ?_
      refine twp_norm [2, 3, 29] (sub_mptr rfl (sub_mptr rfl (sub_d rfl .nil))) (blk_box rfl (blk_box rfl (blk_nil rfl))) ?_
      refine twp_cond true rfl (fun _ => ?_) (fun h => by cases h)
      refine twp_rseq ?_
      refine s_rd _ rfl (mv_d (.inr rfl) rfl) ?_
      refine tops_nil ?_
      refine twp_norm [4] (sub_d rfl .nil) (blk_box rfl (blk_box rfl (blk_nil rfl))) ?_
      refine twp_ret ?_
      refine way_thenRet ?_
      exact Ends.plainB _ rfl (by first | rw [hno] | simp [Mch.same, c1, hv, hc])
    · have c2 : a.vars.length = b.vars.length := by simp at c2; omega
      refine s_yes rfl rfl rfl ?_
      refine s_rd _ rfl (fieldAddr_mptr rfl fld34_1 rfl rfl) ?_
      refine s_yes rfl rfl rfl ?_
      refine s_rd _ rfl (by first | exact load_box_d rfl lay32 rfl rfl rfl | exact load_box rfl lay32 rfl rfl rfl) ?_
      refine s_yes rfl rfl rfl ?_
      refine s_rd _ rfl (by first | exact len_d rfl sel32 rfl (by first | exact List.length_map _ | rfl) | exact len_msl rfl sel32 rfl | exact len_nil rfl sel32 rfl) ?_
      refine s_yes rfl rfl rfl ?_
      refine s_rd _ rfl (fieldAddr_mptr rfl fld34_1 rfl rfl) ?_
      refine s_yes rfl rfl rfl ?_
      refine s_rd _ rfl (by first | exact load_box_d rfl lay32 rfl rfl rfl | exact load_box rfl lay32 rfl rfl rfl) ?_
      refine s_yes rfl rfl rfl ?_
      refine s_rd _ rfl (by first | exact len_d rfl sel32 rfl (by first | exact List.length_map _ | rfl) | exact len_msl rfl sel32 rfl | exact len_nil rfl sel32 rfl) ?_
      refine s_yes rfl rfl rfl ?_
      refine s_rd _ rfl (cmp_int rfl rfl rfl rfl) ?_
      refine s_rd _ rfl (by first | exact pick_Fd rfl rfl rfl | exact pick_F rfl rfl rfl) ?_
      refine tops_nil ?_
      refine twp_norm [2, 3, 29] (sub_mptr rfl (sub_mptr rfl (sub_d rfl .nil))) (blk_box rfl (blk_box rfl (blk_nil rfl))) ?_
      refine twp_cond _ rfl (fun c3 => ?_) (fun c3 => ?_)
      · have hno : a.same b = false := by have h := len_ne (xs := a.counts) (ys := b.counts) (by simp at c3; omega); simp [Mch.same, h]
        refine twp_rseq ?_
        refine s_rd _ rfl (mv_d (.inr rfl) rfl) ?_
        refine tops_nil ?_
        refine twp_norm [4] (sub_d rfl .nil) (blk_box rfl (blk_box rfl (blk_nil rfl))) ?_
        refine twp_ret ?_
        refine way_thenRet ?_
        exact Ends.plainB _ rfl (by first | rw [hno] | simp [Mch.same, c1, hv, hc])
      · have c3 : a.counts.length = b.counts.length := by simp at c3; omega
        refine twp_skip ?_
        refine way_then ?_
        refine twp_norm [2, 3] (sub_mptr rfl (sub_mptr rfl .nil)) (blk_box rfl (blk_box rfl (blk_nil rfl))) ?_
        refine twp_seq ?_
        refine twp_rseq ?_
        refine s_rd _ rfl (mv_d (.inr rfl) rfl) ?_
        refine tops_nil ?_
        refine twp_norm [2, 3, 5] (sub_mptr rfl (sub_mptr rfl (sub_d rfl .nil))) (blk_box rfl (blk_box rfl (blk_nil rfl))) ?_
        refine twp_block ?_
        refine twp_whileK (fun i => ([(5, .d (.int .i64 ((i : Nat) : Int)))] : Fr)) (fun i => ([] : List (Nat × Blk))) (fun i => i ≤ a.vars.length ∧ (likeTo a.vars b.vars i)) (fun i => a.vars.length - i) [5] [2, 3] [0, 1] 0 (by decide) (fun i hi => absurd hi (Nat.not_lt_zero i)) ⟨Nat.zero_le _, likeTo_zero⟩ (sub_mptr rfl (sub_mptr rfl .nil)) rfl rfl (blk_box rfl (blk_box rfl (blk_nil rfl))) rfl ?_
        rintro i ⟨hok, hinv⟩
        refine twp_norm [5, 2, 3] (sub_d rfl (sub_mptr rfl (sub_mptr rfl .nil))) (blk_box rfl (blk_box rfl (blk_nil rfl))) ?_
        refine twp_seq ?_
        refine twp_rseq ?_
        refine s_rd _ rfl (mv_d (.inl rfl) rfl) ?_
        refine s_rd _ rfl (fieldAddr_mptr rfl fld34_0 rfl rfl) ?_
        refine s_rd _ rfl (by first | exact load_box_d rfl lay31 rfl rfl rfl | exact load_box rfl lay31 rfl rfl rfl) ?_
        refine s_rd _ rfl (by first | exact len_d rfl sel31 rfl (by first | exact List.length_map _ | rfl) | exact len_msl rfl sel31 rfl | exact len_nil rfl sel31 rfl) ?_
        refine s_rd _ rfl (cmp_int rfl rfl rfl rfl) ?_
        refine tops_nil ?_
        refine twp_norm [2, 3, 5, 34] (sub_mptr rfl (sub_mptr rfl (sub_d rfl (sub_d rfl .nil)))) (blk_box rfl (blk_box rfl (blk_nil rfl))) ?_
        refine twp_cond _ rfl (fun hlt => ?_) (fun hlt => ?_)
        · have hlt : i < a.vars.length := by simpa using hlt
          obtain ⟨x, hx⟩ : ∃ x, (a.vars)[i]? = some x := ⟨_, List.getElem?_eq_getElem (by first | exact hlt | omega | (simp; omega))⟩
          obtain ⟨y, hy⟩ : ∃ x, (b.vars)[i]? = some x := ⟨_, List.getElem?_eq_getElem (by first | exact hlt | omega | (simp; omega))⟩
          refine twp_skip ?_
          refine way_then ?_
          refine twp_norm [2, 3, 5] (sub_mptr rfl (sub_mptr rfl (sub_d rfl .nil))) (blk_box rfl (blk_box rfl (blk_nil rfl))) ?_
          refine twp_seq ?_
          refine twp_block ?_
          refine twp_dseq follows  ?_
          refine d_rd [] _ rfl rfl (fieldAddr_mptr rfl fld34_0 rfl rfl) ?_
          first | refine d_rd [] _ rfl rfl (by first | exact load_box_d rfl lay31 rfl rfl rfl | exact load_box rfl lay31 rfl rfl rfl) ?_ | refine d_rd [0] _ rfl rfl (by first | exact load_box_d rfl lay31 rfl rfl rfl | exact load_box rfl lay31 rfl rfl rfl) ?_ | refine d_rd [1] _ rfl rfl (by first | exact load_box_d rfl lay31 rfl rfl rfl | exact load_box rfl lay31 rfl rfl rfl) ?_ | refine d_rd [2] _ rfl rfl (by first | exact load_box_d rfl lay31 rfl rfl rfl | exact load_box rfl lay31 rfl rfl rfl) ?_ | refine d_rd [3] _ rfl rfl (by first | exact load_box_d rfl lay31 rfl rfl rfl | exact load_box rfl lay31 rfl rfl rfl) ?_ | refine d_rd [0, 1] _ rfl rfl (by first | exact load_box_d rfl lay31 rfl rfl rfl | exact load_box rfl lay31 rfl rfl rfl) ?_
          refine d_rd [] _ rfl rfl (mv_d (.inl rfl) rfl) ?_
          refine d_rd [] _ rfl rfl (by first | exact index_msl0 rfl sel31 rfl rfl (by first | assumption | omega | (simp; omega)) | exact index_sl rfl sel31 rfl rfl (idx_map hx)) ?_
          first | refine d_rd [] _ rfl rfl (by first | exact load_ptr rfl lay4 rfl rfl | exact load_flat rfl lay4 rfl rfl (by first | rfl | assumption | (simp only [List.getElem?_map, Option.map_some, *]; done)) rfl | exact load_box_d rfl lay4 rfl rfl rfl | exact load_box rfl lay4 rfl rfl rfl) ?_ | refine d_rd [0] _ rfl rfl (by first | exact load_ptr rfl lay4 rfl rfl | exact load_flat rfl lay4 rfl rfl (by first | rfl | assumption | (simp only [List.getElem?_map, Option.map_some, *]; done)) rfl | exact load_box_d rfl lay4 rfl rfl rfl | exact load_box rfl lay4 rfl rfl rfl) ?_ | refine d_rd [1] _ rfl rfl (by first | exact load_ptr rfl lay4 rfl rfl | exact load_flat rfl lay4 rfl rfl (by first | rfl | assumption | (simp only [List.getElem?_map, Option.map_some, *]; done)) rfl | exact load_box_d rfl lay4 rfl rfl rfl | exact load_box rfl lay4 rfl rfl rfl) ?_ | refine d_rd [2] _ rfl rfl (by first | exact load_ptr rfl lay4 rfl rfl | exact load_flat rfl lay4 rfl rfl (by first | rfl | assumption | (simp only [List.getElem?_map, Option.map_some, *]; done)) rfl | exact load_box_d rfl lay4 rfl rfl rfl | exact load_box rfl lay4 rfl rfl rfl) ?_ | refine d_rd [3] _ rfl rfl (by first | exact load_ptr rfl lay4 rfl rfl | exact load_flat rfl lay4 rfl rfl (by first | rfl | assumption | (simp only [List.getElem?_map, Option.map_some, *]; done)) rfl | exact load_box_d rfl lay4 rfl rfl rfl | exact load_box rfl lay4 rfl rfl rfl) ?_ | refine d_rd [0, 1] _ rfl rfl (by first | exact load_ptr rfl lay4 rfl rfl | exact load_flat rfl lay4 rfl rfl (by first | rfl | assumption | (simp only [List.getElem?_map, Option.map_some, *]; done)) rfl | exact load_box_d rfl lay4 rfl rfl rfl | exact load_box rfl lay4 rfl rfl rfl) ?_
          refine d_rd [] _ rfl rfl (fieldAddr_mptr rfl fld34_0 rfl rfl) ?_
          first | refine d_rd [] _ rfl rfl (by first | exact load_box_d rfl lay31 rfl rfl rfl | exact load_box rfl lay31 rfl rfl rfl) ?_ | refine d_rd [0] _ rfl rfl (by first | exact load_box_d rfl lay31 rfl rfl rfl | exact load_box rfl lay31 rfl rfl rfl) ?_ | refine d_rd [1] _ rfl rfl (by first | exact load_box_d rfl lay31 rfl rfl rfl | exact load_box rfl lay31 rfl rfl rfl) ?_ | refine d_rd [2] _ rfl rfl (by first | exact load_box_d rfl lay31 rfl rfl rfl | exact load_box rfl lay31 rfl rfl rfl) ?_ | refine d_rd [3] _ rfl rfl (by first | exact load_box_d rfl lay31 rfl rfl rfl | exact load_box rfl lay31 rfl rfl rfl) ?_ | refine d_rd [0, 1] _ rfl rfl (by first | exact load_box_d rfl lay31 rfl rfl rfl | exact load_box rfl lay31 rfl rfl rfl) ?_
          refine d_rd [] _ rfl rfl (mv_d (.inl rfl) rfl) ?_
          refine d_rd [] _ rfl rfl (by first | exact index_msl0 rfl sel31 rfl rfl (by first | assumption | omega | (simp; omega)) | exact index_sl rfl sel31 rfl rfl (idx_map hy)) ?_
          first | refine d_rd [] _ rfl rfl (by first | exact load_ptr rfl lay4 rfl rfl | exact load_flat rfl lay4 rfl rfl (by first | rfl | assumption | (simp only [List.getElem?_map, Option.map_some, *]; done)) rfl | exact load_box_d rfl lay4 rfl rfl rfl | exact load_box rfl lay4 rfl rfl rfl) ?_ | refine d_rd [0] _ rfl rfl (by first | exact load_ptr rfl lay4 rfl rfl | exact load_flat rfl lay4 rfl rfl (by first | rfl | assumption | (simp only [List.getElem?_map, Option.map_some, *]; done)) rfl | exact load_box_d rfl lay4 rfl rfl rfl | exact load_box rfl lay4 rfl rfl rfl) ?_ | refine d_rd [1] _ rfl rfl (by first | exact load_ptr rfl lay4 rfl rfl | exact load_flat rfl lay4 rfl rfl (by first | rfl | assumption | (simp only [List.getElem?_map, Option.map_some, *]; done)) rfl | exact load_box_d rfl lay4 rfl rfl rfl | exact load_box rfl lay4 rfl rfl rfl) ?_ | refine d_rd [2] _ rfl rfl (by first | exact load_ptr rfl lay4 rfl rfl | exact load_flat rfl lay4 rfl rfl (by first | rfl | assumption | (simp only [List.getElem?_map, Option.map_some, *]; done)) rfl | exact load_box_d rfl lay4 rfl rfl rfl | exact load_box rfl lay4 rfl rfl rfl) ?_ | refine d_rd [3] _ rfl rfl (by first | exact load_ptr rfl lay4 rfl rfl | exact load_flat rfl lay4 rfl rfl (by first | rfl | assumption | (simp only [List.getElem?_map, Option.map_some, *]; done)) rfl | exact load_box_d rfl lay4 rfl rfl rfl | exact load_box rfl lay4 rfl rfl rfl) ?_ | refine d_rd [0, 1] _ rfl rfl (by first | exact load_ptr rfl lay4 rfl rfl | exact load_flat rfl lay4 rfl rfl (by first | rfl | assumption | (simp only [List.getElem?_map, Option.map_some, *]; done)) rfl | exact load_box_d rfl lay4 rfl rfl rfl | exact load_box rfl lay4 rfl rfl rfl) ?_
          refine d_rd [] _ rfl rfl (cmp_bool Try.underlying4 rfl rfl rfl rfl) ?_
          refine d_tail ?_ (by kernel_rfl)
          refine tops_nil ?_
          refine twp_norm [2, 3, 5, 47] (sub_mptr rfl (sub_mptr rfl (sub_d rfl (sub_d rfl .nil)))) (blk_box rfl (blk_box rfl (blk_nil rfl))) ?_
          refine twp_cond _ rfl (fun hxy => ?_) (fun hxy => ?_)
          · have hno : a.same b = false := by have h := like_ne hx hy (by simpa using hxy); simp [Mch.same, h]
            refine twp_rseq ?_
            refine s_rd _ rfl (mv_d (.inr rfl) rfl) ?_
            refine tops_nil ?_
            refine twp_norm [4] (sub_d rfl .nil) (blk_box rfl (blk_box rfl (blk_nil rfl))) ?_
            refine twp_ret ?_
            refine way_blockRet ?_
            refine way_thenRet ?_
            refine way_thenRet ?_
            refine way_blockRet ?_
            refine way_thenRet ?_
            exact Ends.plainB _ rfl (by first | rw [hno] | simp [Mch.same, c1, hv, hc])
          · have hxy : x = y := by simpa using hxy
            refine twp_skip ?_
            refine way_block ?_
            refine way_then ?_
            refine twp_norm [2, 3, 5] (sub_mptr rfl (sub_mptr rfl (sub_d rfl .nil))) (blk_box rfl (blk_box rfl (blk_nil rfl))) ?_
            refine twp_region ?_
            refine s_rd _ rfl (mv_d (.inl rfl) rfl) ?_
            refine s_rd _ rfl (arith_ok rfl rfl rfl rfl (by have := ha.vars; omega)) ?_
            refine s_rd _ rfl (mv_d (.inr rfl) rfl) ?_
            refine tops_nil ?_
            refine way_then ?_
            exact ⟨(i + 1), [0, 1], by decide, (fun i hi => absurd hi (Nat.not_lt_zero i)), ⟨by omega, like_succ hinv (by rw [hx, hy, hxy])⟩, (by omega), rfl⟩
        · have hge : ¬ i < a.vars.length := by simpa using hlt
          have hi : i = a.vars.length := by omega
          have hv : a.vars = b.vars := like_all c2 hinv (by omega)
          refine twp_exit ?_
          refine way_thenExit ?_
          refine way_thenExit ?_
          refine way_here ?_
          refine way_then ?_
          refine twp_norm [2, 3] (sub_mptr rfl (sub_mptr rfl .nil)) (blk_box rfl (blk_box rfl (blk_nil rfl))) ?_
          refine twp_seq ?_
          refine twp_rseq ?_
          refine s_rd _ rfl (mv_d (.inr rfl) rfl) ?_
          refine tops_nil ?_
          refine twp_norm [2, 3, 6] (sub_mptr rfl (sub_mptr rfl (sub_d rfl .nil))) (blk_box rfl (blk_box rfl (blk_nil rfl))) ?_
          refine twp_block ?_
          refine twp_whileK (fun i => ([(6, .d (.int .i64 ((i : Nat) : Int)))] : Fr)) (fun i => ([] : List (Nat × Blk))) (fun i => i ≤ a.counts.length ∧ (likeTo a.counts b.counts i)) (fun i => a.counts.length - i) [6] [2, 3] [0, 1] 0 (by decide) (fun i hi => absurd hi (Nat.not_lt_zero i)) ⟨Nat.zero_le _, likeTo_zero⟩ (sub_mptr rfl (sub_mptr rfl .nil)) rfl rfl (blk_box rfl (blk_box rfl (blk_nil rfl))) rfl ?_
          rintro i ⟨hok, hinv⟩
          refine twp_norm [6, 2, 3] (sub_d rfl (sub_mptr rfl (sub_mptr rfl .nil))) (blk_box rfl (blk_box rfl (blk_nil rfl))) ?_
          refine twp_seq ?_
          refine twp_rseq ?_
          refine s_rd _ rfl (mv_d (.inl rfl) rfl) ?_
          refine s_rd _ rfl (fieldAddr_mptr rfl fld34_1 rfl rfl) ?_
          refine s_rd _ rfl (by first | exact load_box_d rfl lay32 rfl rfl rfl | exact load_box rfl lay32 rfl rfl rfl) ?_
          refine s_rd _ rfl (by first | exact len_d rfl sel32 rfl (by first | exact List.length_map _ | rfl) | exact len_msl rfl sel32 rfl | exact len_nil rfl sel32 rfl) ?_
          refine s_rd _ rfl (cmp_int rfl rfl rfl rfl) ?_
          refine tops_nil ?_
          refine twp_norm [2, 3, 6, 52] (sub_mptr rfl (sub_mptr rfl (sub_d rfl (sub_d rfl .nil)))) (blk_box rfl (blk_box rfl (blk_nil rfl))) ?_
          refine twp_cond _ rfl (fun hlt => ?_) (fun hlt => ?_)
          · have hlt : i < a.counts.length := by simpa using hlt
            obtain ⟨x, hx⟩ : ∃ x, (a.counts)[i]? = some x := ⟨_, List.getElem?_eq_getElem (by first | exact hlt | omega | (simp; omega))⟩
            obtain ⟨y, hy⟩ : ∃ x, (b.counts)[i]? = some x := ⟨_, List.getElem?_eq_getElem (by first | exact hlt | omega | (simp; omega))⟩
            refine twp_skip ?_
            refine way_then ?_
            refine twp_norm [2, 3, 6] (sub_mptr rfl (sub_mptr rfl (sub_d rfl .nil))) (blk_box rfl (blk_box rfl (blk_nil rfl))) ?_
            refine twp_seq ?_
            refine twp_block ?_
            refine twp_dseq follows  ?_
            refine d_rd [] _ rfl rfl (fieldAddr_mptr rfl fld34_1 rfl rfl) ?_
            first | refine d_rd [] _ rfl rfl (by first | exact load_box_d rfl lay32 rfl rfl rfl | exact load_box rfl lay32 rfl rfl rfl) ?_ | refine d_rd [0] _ rfl rfl (by first | exact load_box_d rfl lay32 rfl rfl rfl | exact load_box rfl lay32 rfl rfl rfl) ?_ | refine d_rd [1] _ rfl rfl (by first | exact load_box_d rfl lay32 rfl rfl rfl | exact load_box rfl lay32 rfl rfl rfl) ?_ | refine d_rd [2] _ rfl rfl (by first | exact load_box_d rfl lay32 rfl rfl rfl | exact load_box rfl lay32 rfl rfl rfl) ?_ | refine d_rd [3] _ rfl rfl (by first | exact load_box_d rfl lay32 rfl rfl rfl | exact load_box rfl lay32 rfl rfl rfl) ?_ | refine d_rd [0, 1] _ rfl rfl (by first | exact load_box_d rfl lay32 rfl rfl rfl | exact load_box rfl lay32 rfl rfl rfl) ?_
            refine d_rd [] _ rfl rfl (mv_d (.inl rfl) rfl) ?_
            refine d_rd [] _ rfl rfl (by first | exact index_msl0 rfl sel32 rfl rfl (by first | assumption | omega | (simp; omega)) | exact index_sl rfl sel32 rfl rfl (idx_map hx)) ?_
            first | refine d_rd [] _ rfl rfl (by first | exact load_ptr rfl lay3 rfl rfl | exact load_flat rfl lay3 rfl rfl (by first | rfl | assumption | (simp only [List.getElem?_map, Option.map_some, *]; done)) rfl | exact load_box_d rfl lay3 rfl rfl rfl | exact load_box rfl lay3 rfl rfl rfl) ?_ | refine d_rd [0] _ rfl rfl (by first | exact load_ptr rfl lay3 rfl rfl | exact load_flat rfl lay3 rfl rfl (by first | rfl | assumption | (simp only [List.getElem?_map, Option.map_some, *]; done)) rfl | exact load_box_d rfl lay3 rfl rfl rfl | exact load_box rfl lay3 rfl rfl rfl) ?_ | refine d_rd [1] _ rfl rfl (by first | exact load_ptr rfl lay3 rfl rfl | exact load_flat rfl lay3 rfl rfl (by first | rfl | assumption | (simp only [List.getElem?_map, Option.map_some, *]; done)) rfl | exact load_box_d rfl lay3 rfl rfl rfl | exact load_box rfl lay3 rfl rfl rfl) ?_ | refine d_rd [2] _ rfl rfl (by first | exact load_ptr rfl lay3 rfl rfl | exact load_flat rfl lay3 rfl rfl (by first | rfl | assumption | (simp only [List.getElem?_map, Option.map_some, *]; done)) rfl | exact load_box_d rfl lay3 rfl rfl rfl | exact load_box rfl lay3 rfl rfl rfl) ?_ | refine d_rd [3] _ rfl rfl (by first | exact load_ptr rfl lay3 rfl rfl | exact load_flat rfl lay3 rfl rfl (by first | rfl | assumption | (simp only [List.getElem?_map, Option.map_some, *]; done)) rfl | exact load_box_d rfl lay3 rfl rfl rfl | exact load_box rfl lay3 rfl rfl rfl) ?_ | refine d_rd [0, 1] _ rfl rfl (by first | exact load_ptr rfl lay3 rfl rfl | exact load_flat rfl lay3 rfl rfl (by first | rfl | assumption | (simp only [List.getElem?_map, Option.map_some, *]; done)) rfl | exact load_box_d rfl lay3 rfl rfl rfl | exact load_box rfl lay3 rfl rfl rfl) ?_
            refine d_rd [] _ rfl rfl (fieldAddr_mptr rfl fld34_1 rfl rfl) ?_
            first | refine d_rd [] _ rfl rfl (by first | exact load_box_d rfl lay32 rfl rfl rfl | exact load_box rfl lay32 rfl rfl rfl) ?_ | refine d_rd [0] _ rfl rfl (by first | exact load_box_d rfl lay32 rfl rfl rfl | exact load_box rfl lay32 rfl rfl rfl) ?_ | refine d_rd [1] _ rfl rfl (by first | exact load_box_d rfl lay32 rfl rfl rfl | exact load_box rfl lay32 rfl rfl rfl) ?_ | refine d_rd [2] _ rfl rfl (by first | exact load_box_d rfl lay32 rfl rfl rfl | exact load_box rfl lay32 rfl rfl rfl) ?_ | refine d_rd [3] _ rfl rfl (by first | exact load_box_d rfl lay32 rfl rfl rfl | exact load_box rfl lay32 rfl rfl rfl) ?_ | refine d_rd [0, 1] _ rfl rfl (by first | exact load_box_d rfl lay32 rfl rfl rfl | exact load_box rfl lay32 rfl rfl rfl) ?_
            refine d_rd [] _ rfl rfl (mv_d (.inl rfl) rfl) ?_
            refine d_rd [] _ rfl rfl (by first | exact index_msl0 rfl sel32 rfl rfl (by first | assumption | omega | (simp; omega)) | exact index_sl rfl sel32 rfl rfl (idx_map hy)) ?_
            first | refine d_rd [] _ rfl rfl (by first | exact load_ptr rfl lay3 rfl rfl | exact load_flat rfl lay3 rfl rfl (by first | rfl | assumption | (simp only [List.getElem?_map, Option.map_some, *]; done)) rfl | exact load_box_d rfl lay3 rfl rfl rfl | exact load_box rfl lay3 rfl rfl rfl) ?_ | refine d_rd [0] _ rfl rfl (by first | exact load_ptr rfl lay3 rfl rfl | exact load_flat rfl lay3 rfl rfl (by first | rfl | assumption | (simp only [List.getElem?_map, Option.map_some, *]; done)) rfl | exact load_box_d rfl lay3 rfl rfl rfl | exact load_box rfl lay3 rfl rfl rfl) ?_ | refine d_rd [1] _ rfl rfl (by first | exact load_ptr rfl lay3 rfl rfl | exact load_flat rfl lay3 rfl rfl (by first | rfl | assumption | (simp only [List.getElem?_map, Option.map_some, *]; done)) rfl | exact load_box_d rfl lay3 rfl rfl rfl | exact load_box rfl lay3 rfl rfl rfl) ?_ | refine d_rd [2] _ rfl rfl (by first | exact load_ptr rfl lay3 rfl rfl | exact load_flat rfl lay3 rfl rfl (by first | rfl | assumption | (simp only [List.getElem?_map, Option.map_some, *]; done)) rfl | exact load_box_d rfl lay3 rfl rfl rfl | exact load_box rfl lay3 rfl rfl rfl) ?_ | refine d_rd [3] _ rfl rfl (by first | exact load_ptr rfl lay3 rfl rfl | exact load_flat rfl lay3 rfl rfl (by first | rfl | assumption | (simp only [List.getElem?_map, Option.map_some, *]; done)) rfl | exact load_box_d rfl lay3 rfl rfl rfl | exact load_box rfl lay3 rfl rfl rfl) ?_ | refine d_rd [0, 1] _ rfl rfl (by first | exact load_ptr rfl lay3 rfl rfl | exact load_flat rfl lay3 rfl rfl (by first | rfl | assumption | (simp only [List.getElem?_map, Option.map_some, *]; done)) rfl | exact load_box_d rfl lay3 rfl rfl rfl | exact load_box rfl lay3 rfl rfl rfl) ?_
            refine d_rd [] _ rfl rfl (cmp_int rfl rfl rfl rfl) ?_
            refine d_tail ?_ (by kernel_rfl)
            refine tops_nil ?_
            refine twp_norm [2, 3, 6, 65] (sub_mptr rfl (sub_mptr rfl (sub_d rfl (sub_d rfl .nil)))) (blk_box rfl (blk_box rfl (blk_nil rfl))) ?_
            refine twp_cond _ rfl (fun hxy => ?_) (fun hxy => ?_)
            · have hno : a.same b = false := by have h := like_ne hx hy (by simpa using hxy); simp [Mch.same, h]
              refine twp_rseq ?_
              refine s_rd _ rfl (mv_d (.inr rfl) rfl) ?_
              refine tops_nil ?_
              refine twp_norm [4] (sub_d rfl .nil) (blk_box rfl (blk_box rfl (blk_nil rfl))) ?_
              refine twp_ret ?_
              refine way_blockRet ?_
              refine way_thenRet ?_
              refine way_thenRet ?_
              refine way_blockRet ?_
              refine way_thenRet ?_
              exact Ends.plainB _ rfl (by first | rw [hno] | simp [Mch.same, c1, hv, hc])
            · have hxy : x = y := by simpa using hxy
              refine twp_skip ?_
              refine way_block ?_
              refine way_then ?_
              refine twp_norm [2, 3, 6] (sub_mptr rfl (sub_mptr rfl (sub_d rfl .nil))) (blk_box rfl (blk_box rfl (blk_nil rfl))) ?_
              refine twp_region ?_
              refine s_rd _ rfl (mv_d (.inl rfl) rfl) ?_
              refine s_rd _ rfl (arith_ok rfl rfl rfl rfl (by have := ha.counts; omega)) ?_
              refine s_rd _ rfl (mv_d (.inr rfl) rfl) ?_
              refine tops_nil ?_
              refine way_then ?_
              exact ⟨(i + 1), [0, 1], by decide, (fun i hi => absurd hi (Nat.not_lt_zero i)), ⟨by omega, like_succ hinv (by rw [hx, hy, hxy])⟩, (by omega), rfl⟩
          · have hge : ¬ i < a.counts.length := by simpa using hlt
            have hi : i = a.counts.length := by omega
            have hc : a.counts = b.counts := like_all c3 hinv (by omega)
            refine twp_exit ?_
            refine way_thenExit ?_
            refine way_thenExit ?_
            refine way_here ?_
            refine way_then ?_
            refine twp_norm [] .nil (blk_box rfl (blk_box rfl (blk_nil rfl))) ?_
            refine twp_rseq ?_
            refine s_rd _ rfl (mv_d (.inr rfl) rfl) ?_
            refine tops_nil ?_
            refine twp_norm [4] (sub_d rfl .nil) (blk_box rfl (blk_box rfl (blk_nil rfl))) ?_
            refine twp_ret ?_
            exact Ends.plainB _ rfl (by first | rw [hno] | simp [Mch.same, c1, hv, hc])

theorem sameP_n (a b : Mch) (ha : a.Wf) (hb : b.Wf) : RetN Try.prog 21 [a.enc, b.enc] (.bool (a.same b)) := .unit (sameP_step a b ha hb) rfl
theorem sameR_n (a b : Mch) (ha : a.Wf) (hb : b.Wf) : RetN Try.prog 14 [a.enc, b.enc] (.bool (a.same b)) := .unit (sameR_step a b ha hb) rfl

theorem callB15 : callB Try.prog 15 = true := by kernel_rfl

theorem zero34 : (Try.prog.info? 34).bind (·.zero) = Option.some (Go.Value.agg #[Go.Value.slice Option.none 0 0, Go.Value.slice Option.none 0 0, Go.Value.bool Bool.false]) := by kernel_rfl

theorem plc34 : plc Try.prog 34 = some [(0, 1), (1, 1), (2, 1)] := by kernel_rfl

theorem lay34 : lay Try.prog 34 = some (true, 3) := by kernel_rfl

theorem startP_step (p : Prg) (hp : p.Wf) (hn : p.names.length ≤ 100000) (hr : p.rungs.length ≤ 100000)  : Ret Try.prog 15 [] (fun _ => false) ([p.enc].map .d) (.d p.startD) [] := by
  refine ret_body callB15 Try.func15 rfl Try.ntmps15 rfl rfl (fun wX gX => ?_)
  refine twp_norm [0] (sub_d rfl .nil) (blk_nil rfl) ?_
  refine twp_rseq ?_
  refine s_boxA rfl rfl rfl ?_
  refine s_eq 1 (.mptr 0 0 0 0) rfl rfl ?_
  refine s_alloc rfl zero34 rfl rfl ?_
  refine s_eq 2 (.mptr 1 0 0 0) rfl rfl ?_
  refine tops_nil ?_
  refine twp_norm [1, 2] (sub_mptr rfl (sub_mptr rfl .nil)) (blk_boxN rfl (by repeat (first | exact NormC.nil rfl | apply nc_d rfl | apply nc_msl rfl | apply nc_mptr rfl | apply nc_fnc rfl)) (blk_boxN rfl (by repeat (first | exact NormC.nil rfl | apply nc_d rfl | apply nc_msl rfl | apply nc_mptr rfl | apply nc_fnc rfl)) (blk_nil rfl))) ?_
  refine twp_seq ?_
  refine twp_rseq ?_
  refine s_rd _ rfl (by first | exact load_boxA_d rfl lay25 rfl rfl (Nat.le_of_ble_eq_true rfl) rfl | exact load_boxA rfl lay25 rfl rfl (Nat.le_of_ble_eq_true rfl) rfl) ?_
  refine s_rd _ rfl (rd_callRD rfl rfl rfl ((checkP_n p hp).retD)) ?_
  refine s_rd _ rfl (cmp_int rfl rfl rfl rfl) ?_
  refine tops_nil ?_
  refine twp_norm [1, 2, 5] (sub_mptr rfl (sub_mptr rfl (sub_d rfl .nil))) (blk_box rfl (blk_box rfl (blk_nil rfl))) ?_
  refine twp_cond _ rfl (fun hc => ?_) (fun hc => ?_)
  · have hc : ¬ p.check = 0 := by simpa using hc
    refine twp_rseq ?_
    refine s_rd _ rfl (by first | exact build_d rfl plc34 zero34 rfl rfl rfl rfl | exact rd_build rfl plc34 zero34 rfl rfl rfl rfl) ?_
    refine s_store_box lay34 rfl rfl rfl rfl rfl (Nat.le_of_ble_eq_true rfl) rfl ?_
    refine tops_nil ?_
    refine twp_norm [2] (sub_mptr rfl .nil) (blk_box rfl (blk_boxN rfl (by repeat (first | exact NormC.nil rfl | apply nc_d rfl | apply nc_msl rfl | apply nc_mptr rfl | apply nc_fnc rfl)) (blk_nil rfl))) ?_
    refine twp_ret ?_
    refine way_thenRet ?_
    exact Ends.cellE _ lay34 rfl rfl rfl rfl (by simp only [Prg.startD, hc, if_true, if_false])
  · have hc : p.check = 0 := by simpa using hc
    refine twp_skip ?_
    refine way_then ?_
    refine twp_norm [1, 2] (sub_mptr rfl (sub_mptr rfl .nil)) (blk_box rfl (blk_box rfl (blk_nil rfl))) ?_
    refine twp_dseq follows  ?_
    refine d_rd [] _ rfl rfl (fieldAddr_mptr rfl fld25_0 rfl rfl) ?_
    first | refine d_rd [] _ rfl rfl (by first | exact load_box_d rfl lay22 rfl rfl rfl | exact load_box rfl lay22 rfl rfl rfl) ?_ | refine d_rd [0] _ rfl rfl (by first | exact load_box_d rfl lay22 rfl rfl rfl | exact load_box rfl lay22 rfl rfl rfl) ?_ | refine d_rd [1] _ rfl rfl (by first | exact load_box_d rfl lay22 rfl rfl rfl | exact load_box rfl lay22 rfl rfl rfl) ?_ | refine d_rd [2] _ rfl rfl (by first | exact load_box_d rfl lay22 rfl rfl rfl | exact load_box rfl lay22 rfl rfl rfl) ?_ | refine d_rd [3] _ rfl rfl (by first | exact load_box_d rfl lay22 rfl rfl rfl | exact load_box rfl lay22 rfl rfl rfl) ?_ | refine d_rd [0, 1] _ rfl rfl (by first | exact load_box_d rfl lay22 rfl rfl rfl | exact load_box rfl lay22 rfl rfl rfl) ?_
    first | refine d_rd [] _ rfl rfl (by first | exact len_d rfl sel22 rfl (by first | exact List.length_map _ | rfl) | exact len_msl rfl sel22 rfl | exact len_nil rfl sel22 rfl) ?_ | refine d_rd [0] _ rfl rfl (by first | exact len_d rfl sel22 rfl (by first | exact List.length_map _ | rfl) | exact len_msl rfl sel22 rfl | exact len_nil rfl sel22 rfl) ?_ | refine d_rd [1] _ rfl rfl (by first | exact len_d rfl sel22 rfl (by first | exact List.length_map _ | rfl) | exact len_msl rfl sel22 rfl | exact len_nil rfl sel22 rfl) ?_ | refine d_rd [2] _ rfl rfl (by first | exact len_d rfl sel22 rfl (by first | exact List.length_map _ | rfl) | exact len_msl rfl sel22 rfl | exact len_nil rfl sel22 rfl) ?_ | refine d_rd [3] _ rfl rfl (by first | exact len_d rfl sel22 rfl (by first | exact List.length_map _ | rfl) | exact len_msl rfl sel22 rfl | exact len_nil rfl sel22 rfl) ?_ | refine d_rd [0, 1] _ rfl rfl (by first | exact len_d rfl sel22 rfl (by first | exact List.length_map _ | rfl) | exact len_msl rfl sel22 rfl | exact len_nil rfl sel22 rfl) ?_
    refine d_rd [] _ rfl rfl (rd_make (n := p.names.length) rfl sel31 zero4 rfl rfl rfl rfl (by omega) (by omega)) ?_
    refine d_rd [] _ rfl rfl (fieldAddr_mptr rfl fld25_2 rfl rfl) ?_
    first | refine d_rd [] _ rfl rfl (by first | exact load_box_d rfl lay23 rfl rfl rfl | exact load_box rfl lay23 rfl rfl rfl) ?_ | refine d_rd [0] _ rfl rfl (by first | exact load_box_d rfl lay23 rfl rfl rfl | exact load_box rfl lay23 rfl rfl rfl) ?_ | refine d_rd [1] _ rfl rfl (by first | exact load_box_d rfl lay23 rfl rfl rfl | exact load_box rfl lay23 rfl rfl rfl) ?_ | refine d_rd [2] _ rfl rfl (by first | exact load_box_d rfl lay23 rfl rfl rfl | exact load_box rfl lay23 rfl rfl rfl) ?_ | refine d_rd [3] _ rfl rfl (by first | exact load_box_d rfl lay23 rfl rfl rfl | exact load_box rfl lay23 rfl rfl rfl) ?_ | refine d_rd [0, 1] _ rfl rfl (by first | exact load_box_d rfl lay23 rfl rfl rfl | exact load_box rfl lay23 rfl rfl rfl) ?_
    first | refine d_rd [] _ rfl rfl (by first | exact len_d rfl sel23 rfl (by first | exact List.length_map _ | rfl) | exact len_msl rfl sel23 rfl | exact len_nil rfl sel23 rfl) ?_ | refine d_rd [0] _ rfl rfl (by first | exact len_d rfl sel23 rfl (by first | exact List.length_map _ | rfl) | exact len_msl rfl sel23 rfl | exact len_nil rfl sel23 rfl) ?_ | refine d_rd [1] _ rfl rfl (by first | exact len_d rfl sel23 rfl (by first | exact List.length_map _ | rfl) | exact len_msl rfl sel23 rfl | exact len_nil rfl sel23 rfl) ?_ | refine d_rd [2] _ rfl rfl (by first | exact len_d rfl sel23 rfl (by first | exact List.length_map _ | rfl) | exact len_msl rfl sel23 rfl | exact len_nil rfl sel23 rfl) ?_ | refine d_rd [3] _ rfl rfl (by first | exact len_d rfl sel23 rfl (by first | exact List.length_map _ | rfl) | exact len_msl rfl sel23 rfl | exact len_nil rfl sel23 rfl) ?_ | refine d_rd [0, 1] _ rfl rfl (by first | exact len_d rfl sel23 rfl (by first | exact List.length_map _ | rfl) | exact len_msl rfl sel23 rfl | exact len_nil rfl sel23 rfl) ?_
    refine d_rd [] _ rfl rfl (rd_make (n := p.rungs.length) rfl sel32 zero3 rfl rfl rfl rfl (by omega) (by omega)) ?_
    refine d_rd [] _ rfl rfl (by first | exact build_d rfl plc34 zero34 rfl rfl rfl rfl | exact rd_build rfl plc34 zero34 rfl rfl rfl rfl) ?_
    refine d_tail ?_ (by kernel_rfl)
    refine s_store_box lay34 rfl rfl rfl rfl rfl (Nat.le_of_ble_eq_true rfl) rfl ?_
    refine tops_nil ?_
    refine twp_norm [2] (sub_mptr rfl .nil) (blk_box rfl (blk_boxN rfl (by repeat (first | exact NormC.nil rfl | apply nc_d rfl | apply nc_msl rfl | apply nc_mptr rfl | apply nc_fnc rfl)) (blk_nil rfl))) ?_
    refine twp_ret ?_
    exact Ends.cellE _ lay34 rfl rfl rfl rfl (by simp only [Prg.startD, hc, if_true, if_false])

theorem startP_d (p : Prg) (hp : p.Wf) (hn : p.names.length ≤ 100000) (hr : p.rungs.length ≤ 100000)  : RetD Try.prog 15 [p.enc] p.start.enc := .of (mv := fun _ => false) (Ret.weak (startP_step p hp hn hr) p.startD_le)

theorem callB16 : callB Try.prog 16 = true := by kernel_rfl

theorem startR_step (p : Prg) (hp : p.Wf) (hn : p.names.length ≤ 100000) (hr : p.rungs.length ≤ 100000) (hs : ∀ r ∈ p.rungs, r.expr.size ≤ 1000000) : Ret Try.prog 16 [] (fun _ => false) ([p.enc].map .d) (.d p.startD) [] := by
  refine ret_body callB16 Try.func16 rfl Try.ntmps16 rfl rfl (fun wX gX => ?_)
  refine twp_norm [0] (sub_d rfl .nil) (blk_nil rfl) ?_
  refine twp_rseq ?_
  refine s_boxA rfl rfl rfl ?_
  refine s_eq 1 (.mptr 0 0 0 0) rfl rfl ?_
  refine s_alloc rfl zero34 rfl rfl ?_
  refine s_eq 2 (.mptr 1 0 0 0) rfl rfl ?_
  refine tops_nil ?_
  refine twp_norm [1, 2] (sub_mptr rfl (sub_mptr rfl .nil)) (blk_boxN rfl (by repeat (first | exact NormC.nil rfl | apply nc_d rfl | apply nc_msl rfl | apply nc_mptr rfl | apply nc_fnc rfl)) (blk_boxN rfl (by repeat (first | exact NormC.nil rfl | apply nc_d rfl | apply nc_msl rfl | apply nc_mptr rfl | apply nc_fnc rfl)) (blk_nil rfl))) ?_
  refine twp_seq ?_
  refine twp_rseq ?_
  refine s_rd _ rfl (by first | exact load_boxA_d rfl lay25 rfl rfl (Nat.le_of_ble_eq_true rfl) rfl | exact load_boxA rfl lay25 rfl rfl (Nat.le_of_ble_eq_true rfl) rfl) ?_
  refine s_rd _ rfl (rd_callRD rfl rfl rfl ((checkR_n p hp hs).retD)) ?_
  refine s_rd _ rfl (cmp_int rfl rfl rfl rfl) ?_
  refine tops_nil ?_
  refine twp_norm [1, 2, 5] (sub_mptr rfl (sub_mptr rfl (sub_d rfl .nil))) (blk_box rfl (blk_box rfl (blk_nil rfl))) ?_
  refine twp_cond _ rfl (fun hc => ?_) (fun hc => ?_)
  · have hc : ¬ p.check = 0 := by simpa using hc
    refine twp_rseq ?_
    refine s_rd _ rfl (by first | exact build_d rfl plc34 zero34 rfl rfl rfl rfl | exact rd_build rfl plc34 zero34 rfl rfl rfl rfl) ?_
    refine s_store_box lay34 rfl rfl rfl rfl rfl (Nat.le_of_ble_eq_true rfl) rfl ?_
    refine tops_nil ?_
    refine twp_norm [2] (sub_mptr rfl .nil) (blk_box rfl (blk_boxN rfl (by repeat (first | exact NormC.nil rfl | apply nc_d rfl | apply nc_msl rfl | apply nc_mptr rfl | apply nc_fnc rfl)) (blk_nil rfl))) ?_
    refine twp_ret ?_
    refine way_thenRet ?_
    exact Ends.cellE _ lay34 rfl rfl rfl rfl (by simp only [Prg.startD, hc, if_true, if_false])
  · have hc : p.check = 0 := by simpa using hc
    refine twp_skip ?_
    refine way_then ?_
    refine twp_norm [1, 2] (sub_mptr rfl (sub_mptr rfl .nil)) (blk_box rfl (blk_box rfl (blk_nil rfl))) ?_
    refine twp_dseq follows  ?_
    refine d_rd [] _ rfl rfl (fieldAddr_mptr rfl fld25_0 rfl rfl) ?_
    first | refine d_rd [] _ rfl rfl (by first | exact load_box_d rfl lay22 rfl rfl rfl | exact load_box rfl lay22 rfl rfl rfl) ?_ | refine d_rd [0] _ rfl rfl (by first | exact load_box_d rfl lay22 rfl rfl rfl | exact load_box rfl lay22 rfl rfl rfl) ?_ | refine d_rd [1] _ rfl rfl (by first | exact load_box_d rfl lay22 rfl rfl rfl | exact load_box rfl lay22 rfl rfl rfl) ?_ | refine d_rd [2] _ rfl rfl (by first | exact load_box_d rfl lay22 rfl rfl rfl | exact load_box rfl lay22 rfl rfl rfl) ?_ | refine d_rd [3] _ rfl rfl (by first | exact load_box_d rfl lay22 rfl rfl rfl | exact load_box rfl lay22 rfl rfl rfl) ?_ | refine d_rd [0, 1] _ rfl rfl (by first | exact load_box_d rfl lay22 rfl rfl rfl | exact load_box rfl lay22 rfl rfl rfl) ?_
    first | refine d_rd [] _ rfl rfl (by first | exact len_d rfl sel22 rfl (by first | exact List.length_map _ | rfl) | exact len_msl rfl sel22 rfl | exact len_nil rfl sel22 rfl) ?_ | refine d_rd [0] _ rfl rfl (by first | exact len_d rfl sel22 rfl (by first | exact List.length_map _ | rfl) | exact len_msl rfl sel22 rfl | exact len_nil rfl sel22 rfl) ?_ | refine d_rd [1] _ rfl rfl (by first | exact len_d rfl sel22 rfl (by first | exact List.length_map _ | rfl) | exact len_msl rfl sel22 rfl | exact len_nil rfl sel22 rfl) ?_ | refine d_rd [2] _ rfl rfl (by first | exact len_d rfl sel22 rfl (by first | exact List.length_map _ | rfl) | exact len_msl rfl sel22 rfl | exact len_nil rfl sel22 rfl) ?_ | refine d_rd [3] _ rfl rfl (by first | exact len_d rfl sel22 rfl (by first | exact List.length_map _ | rfl) | exact len_msl rfl sel22 rfl | exact len_nil rfl sel22 rfl) ?_ | refine d_rd [0, 1] _ rfl rfl (by first | exact len_d rfl sel22 rfl (by first | exact List.length_map _ | rfl) | exact len_msl rfl sel22 rfl | exact len_nil rfl sel22 rfl) ?_
    refine d_rd [] _ rfl rfl (rd_make (n := p.names.length) rfl sel31 zero4 rfl rfl rfl rfl (by omega) (by omega)) ?_
    refine d_rd [] _ rfl rfl (fieldAddr_mptr rfl fld25_2 rfl rfl) ?_
    first | refine d_rd [] _ rfl rfl (by first | exact load_box_d rfl lay23 rfl rfl rfl | exact load_box rfl lay23 rfl rfl rfl) ?_ | refine d_rd [0] _ rfl rfl (by first | exact load_box_d rfl lay23 rfl rfl rfl | exact load_box rfl lay23 rfl rfl rfl) ?_ | refine d_rd [1] _ rfl rfl (by first | exact load_box_d rfl lay23 rfl rfl rfl | exact load_box rfl lay23 rfl rfl rfl) ?_ | refine d_rd [2] _ rfl rfl (by first | exact load_box_d rfl lay23 rfl rfl rfl | exact load_box rfl lay23 rfl rfl rfl) ?_ | refine d_rd [3] _ rfl rfl (by first | exact load_box_d rfl lay23 rfl rfl rfl | exact load_box rfl lay23 rfl rfl rfl) ?_ | refine d_rd [0, 1] _ rfl rfl (by first | exact load_box_d rfl lay23 rfl rfl rfl | exact load_box rfl lay23 rfl rfl rfl) ?_
    first | refine d_rd [] _ rfl rfl (by first | exact len_d rfl sel23 rfl (by first | exact List.length_map _ | rfl) | exact len_msl rfl sel23 rfl | exact len_nil rfl sel23 rfl) ?_ | refine d_rd [0] _ rfl rfl (by first | exact len_d rfl sel23 rfl (by first | exact List.length_map _ | rfl) | exact len_msl rfl sel23 rfl | exact len_nil rfl sel23 rfl) ?_ | refine d_rd [1] _ rfl rfl (by first | exact len_d rfl sel23 rfl (by first | exact List.length_map _ | rfl) | exact len_msl rfl sel23 rfl | exact len_nil rfl sel23 rfl) ?_ | refine d_rd [2] _ rfl rfl (by first | exact len_d rfl sel23 rfl (by first | exact List.length_map _ | rfl) | exact len_msl rfl sel23 rfl | exact len_nil rfl sel23 rfl) ?_ | refine d_rd [3] _ rfl rfl (by first | exact len_d rfl sel23 rfl (by first | exact List.length_map _ | rfl) | exact len_msl rfl sel23 rfl | exact len_nil rfl sel23 rfl) ?_ | refine d_rd [0, 1] _ rfl rfl (by first | exact len_d rfl sel23 rfl (by first | exact List.length_map _ | rfl) | exact len_msl rfl sel23 rfl | exact len_nil rfl sel23 rfl) ?_
    refine d_rd [] _ rfl rfl (rd_make (n := p.rungs.length) rfl sel32 zero3 rfl rfl rfl rfl (by omega) (by omega)) ?_
    refine d_rd [] _ rfl rfl (by first | exact build_d rfl plc34 zero34 rfl rfl rfl rfl | exact rd_build rfl plc34 zero34 rfl rfl rfl rfl) ?_
    refine d_tail ?_ (by kernel_rfl)
    refine s_store_box lay34 rfl rfl rfl rfl rfl (Nat.le_of_ble_eq_true rfl) rfl ?_
    refine tops_nil ?_
    refine twp_norm [2] (sub_mptr rfl .nil) (blk_box rfl (blk_boxN rfl (by repeat (first | exact NormC.nil rfl | apply nc_d rfl | apply nc_msl rfl | apply nc_mptr rfl | apply nc_fnc rfl)) (blk_nil rfl))) ?_
    refine twp_ret ?_
    exact Ends.cellE _ lay34 rfl rfl rfl rfl (by simp only [Prg.startD, hc, if_true, if_false])

theorem startR_d (p : Prg) (hp : p.Wf) (hn : p.names.length ≤ 100000) (hr : p.rungs.length ≤ 100000) (hs : ∀ r ∈ p.rungs, r.expr.size ≤ 1000000) : RetD Try.prog 16 [p.enc] p.start.enc := .of (mv := fun _ => false) (Ret.weak (startR_step p hp hn hr hs) p.startD_le)

theorem callB17 : callB Try.prog 17 = true := by kernel_rfl

theorem haltP_step (p : Prg) (hp : p.Wf) (hn : p.names.length ≤ 100000) (hr : p.rungs.length ≤ 100000)  : Ret Try.prog 17 [] (fun _ => false) ([p.enc].map .d) (.d p.halt.enc) [] := by
  refine ret_body callB17 Try.func17 rfl Try.ntmps17 rfl rfl (fun wX gX => ?_)
  refine twp_norm [0] (sub_d rfl .nil) (blk_nil rfl) ?_
  refine twp_rseq ?_
  refine s_boxA rfl rfl rfl ?_
  refine s_eq 1 (.mptr 0 0 0 0) rfl rfl ?_
  refine s_alloc rfl zero34 rfl rfl ?_
  refine s_eq 2 (.mptr 1 0 0 0) rfl rfl ?_
  refine tops_nil ?_
  refine twp_norm [1, 2] (sub_mptr rfl (sub_mptr rfl .nil)) (blk_boxN rfl (by repeat (first | exact NormC.nil rfl | apply nc_d rfl | apply nc_msl rfl | apply nc_mptr rfl | apply nc_fnc rfl)) (blk_boxN rfl (by repeat (first | exact NormC.nil rfl | apply nc_d rfl | apply nc_msl rfl | apply nc_mptr rfl | apply nc_fnc rfl)) (blk_nil rfl))) ?_
  refine twp_rseq ?_
  refine s_rd _ rfl (by first | exact load_boxA_d rfl lay25 rfl rfl (Nat.le_of_ble_eq_true rfl) rfl | exact load_boxA rfl lay25 rfl rfl (Nat.le_of_ble_eq_true rfl) rfl) ?_
  refine s_rd _ rfl (rd_callRD rfl rfl rfl (startP_d p hp hn hr)) ?_
  refine s_alloc rfl zero34 rfl rfl ?_
  refine s_eq 3 (.mptr 2 0 0 0) rfl rfl ?_
  refine s_store_box lay34 rfl rfl rfl rfl rfl (Nat.le_of_ble_eq_true rfl) rfl ?_
  refine tops_nil ?_
  refine twp_norm [2, 3] (sub_mptr rfl (sub_mptr rfl .nil)) (blk_box rfl (blk_box rfl (blk_boxN rfl (by repeat (first | exact NormC.nil rfl | apply nc_d rfl | apply nc_msl rfl | apply nc_mptr rfl | apply nc_fnc rfl)) (blk_nil rfl)))) ?_
  refine twp_rseq ?_
  refine s_rd _ rfl (fieldAddr_mptr rfl fld34_2 rfl rfl) ?_
  refine s_store_box lay4 rfl rfl rfl rfl rfl (Nat.le_of_ble_eq_true rfl) rfl ?_
  refine tops_nil ?_
  refine twp_norm [2, 3] (sub_mptr rfl (sub_mptr rfl .nil)) (blk_box rfl (blk_box rfl (blk_boxN rfl (by repeat (first | exact NormC.nil rfl | apply nc_d rfl | apply nc_msl rfl | apply nc_mptr rfl | apply nc_fnc rfl)) (blk_nil rfl)))) ?_
  refine twp_rseq ?_
  refine s_rd _ rfl (by first | exact load_boxA_d rfl lay34 rfl rfl (Nat.le_of_ble_eq_true rfl) rfl | exact load_boxA rfl lay34 rfl rfl (Nat.le_of_ble_eq_true rfl) rfl) ?_
  refine s_store_box lay34 rfl rfl rfl rfl rfl (Nat.le_of_ble_eq_true rfl) rfl ?_
  refine tops_nil ?_
  refine twp_norm [2] (sub_mptr rfl .nil) (blk_box rfl (blk_boxN rfl (by repeat (first | exact NormC.nil rfl | apply nc_d rfl | apply nc_msl rfl | apply nc_mptr rfl | apply nc_fnc rfl)) (blk_box rfl (blk_nil rfl)))) ?_
  refine twp_ret ?_
  exact Ends.cellE _ lay34 rfl rfl rfl rfl (rfl)

theorem haltP_d (p : Prg) (hp : p.Wf) (hn : p.names.length ≤ 100000) (hr : p.rungs.length ≤ 100000)  : RetD Try.prog 17 [p.enc] p.halt.enc := .of (mv := fun _ => false) (haltP_step p hp hn hr)

theorem callB18 : callB Try.prog 18 = true := by kernel_rfl

theorem haltR_step (p : Prg) (hp : p.Wf) (hn : p.names.length ≤ 100000) (hr : p.rungs.length ≤ 100000) (hs : ∀ r ∈ p.rungs, r.expr.size ≤ 1000000) : Ret Try.prog 18 [] (fun _ => false) ([p.enc].map .d) (.d p.halt.enc) [] := by
  refine ret_body callB18 Try.func18 rfl Try.ntmps18 rfl rfl (fun wX gX => ?_)
  refine twp_norm [0] (sub_d rfl .nil) (blk_nil rfl) ?_
  refine twp_rseq ?_
  refine s_boxA rfl rfl rfl ?_
  refine s_eq 1 (.mptr 0 0 0 0) rfl rfl ?_
  refine s_alloc rfl zero34 rfl rfl ?_
  refine s_eq 2 (.mptr 1 0 0 0) rfl rfl ?_
  refine tops_nil ?_
  refine twp_norm [1, 2] (sub_mptr rfl (sub_mptr rfl .nil)) (blk_boxN rfl (by repeat (first | exact NormC.nil rfl | apply nc_d rfl | apply nc_msl rfl | apply nc_mptr rfl | apply nc_fnc rfl)) (blk_boxN rfl (by repeat (first | exact NormC.nil rfl | apply nc_d rfl | apply nc_msl rfl | apply nc_mptr rfl | apply nc_fnc rfl)) (blk_nil rfl))) ?_
  refine twp_rseq ?_
  refine s_rd _ rfl (by first | exact load_boxA_d rfl lay25 rfl rfl (Nat.le_of_ble_eq_true rfl) rfl | exact load_boxA rfl lay25 rfl rfl (Nat.le_of_ble_eq_true rfl) rfl) ?_
  refine s_rd _ rfl (rd_callRD rfl rfl rfl (startR_d p hp hn hr hs)) ?_
  refine s_alloc rfl zero34 rfl rfl ?_
  refine s_eq 3 (.mptr 2 0 0 0) rfl rfl ?_
  refine s_store_box lay34 rfl rfl rfl rfl rfl (Nat.le_of_ble_eq_true rfl) rfl ?_
  refine tops_nil ?_
  refine twp_norm [2, 3] (sub_mptr rfl (sub_mptr rfl .nil)) (blk_box rfl (blk_box rfl (blk_boxN rfl (by repeat (first | exact NormC.nil rfl | apply nc_d rfl | apply nc_msl rfl | apply nc_mptr rfl | apply nc_fnc rfl)) (blk_nil rfl)))) ?_
  refine twp_rseq ?_
  refine s_rd _ rfl (fieldAddr_mptr rfl fld34_2 rfl rfl) ?_
  refine s_store_box lay4 rfl rfl rfl rfl rfl (Nat.le_of_ble_eq_true rfl) rfl ?_
  refine tops_nil ?_
  refine twp_norm [2, 3] (sub_mptr rfl (sub_mptr rfl .nil)) (blk_box rfl (blk_box rfl (blk_boxN rfl (by repeat (first | exact NormC.nil rfl | apply nc_d rfl | apply nc_msl rfl | apply nc_mptr rfl | apply nc_fnc rfl)) (blk_nil rfl)))) ?_
  refine twp_rseq ?_
  refine s_rd _ rfl (by first | exact load_boxA_d rfl lay34 rfl rfl (Nat.le_of_ble_eq_true rfl) rfl | exact load_boxA rfl lay34 rfl rfl (Nat.le_of_ble_eq_true rfl) rfl) ?_
  refine s_store_box lay34 rfl rfl rfl rfl rfl (Nat.le_of_ble_eq_true rfl) rfl ?_
  refine tops_nil ?_
  refine twp_norm [2] (sub_mptr rfl .nil) (blk_box rfl (blk_boxN rfl (by repeat (first | exact NormC.nil rfl | apply nc_d rfl | apply nc_msl rfl | apply nc_mptr rfl | apply nc_fnc rfl)) (blk_box rfl (blk_nil rfl)))) ?_
  refine twp_ret ?_
  exact Ends.cellE _ lay34 rfl rfl rfl rfl (rfl)

theorem haltR_d (p : Prg) (hp : p.Wf) (hn : p.names.length ≤ 100000) (hr : p.rungs.length ≤ 100000) (hs : ∀ r ∈ p.rungs, r.expr.size ≤ 1000000) : RetD Try.prog 18 [p.enc] p.halt.enc := .of (mv := fun _ => false) (haltR_step p hp hn hr hs)

end Go.Proofs.Yteedddlipoonoaa
