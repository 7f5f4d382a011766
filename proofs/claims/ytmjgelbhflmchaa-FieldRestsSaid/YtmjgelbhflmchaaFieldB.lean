/- The field: commands, beginnings, positions, comparisons, walked. No condition. -/
import Derived.Test.YtmjgelbhflmchaaFieldA
namespace Go.Proofs.Ytmjgelbhflmchaa
open Go Go.TL

/-- A command to one machine. -/
def commandM (m : Mach) (c : Int) : Mach := if (c = 1 ∨ c = 2) ∧ c ≠ m.goal then ⟨0, c, 3⟩ else m
def cmdAt (cs : List Int) (i : Nat) (m : Mach) : Mach := match cs[i]? with
  | some c => commandM m c
  | none => m
def commands (ms : List Mach) (cs : List Int) : List Mach := ms.mapIdx (cmdAt cs)

/-- The first i elements turned, each by its place. -/
def mixI {α : Type} (f : Nat → α → α) (xs : List α) (i : Nat) : List α := pre f xs i ++ xs.drop i
theorem mixI_zero {α : Type} (f : Nat → α → α) (xs : List α) : mixI f xs 0 = xs := by simp [mixI, pre]
theorem mixI_length {α : Type} (f : Nat → α → α) (xs : List α) (i : Nat) : (mixI f xs i).length = xs.length := by simp [mixI, pre]; omega
theorem mixI_all {α : Type} (f : Nat → α → α) (xs : List α) {i : Nat} (h : xs.length ≤ i) : mixI f xs i = xs.mapIdx f := by simp [mixI, pre_all f xs h, List.drop_eq_nil_of_le h]
theorem mixI_get {α : Type} (f : Nat → α → α) {xs : List α} {i : Nat} {x : α} (h : xs[i]? = some x) : (mixI f xs i)[i]? = some x := by
  have hi : i < xs.length := (List.getElem?_eq_some_iff.1 h).1
  rw [mixI, List.getElem?_append_right (by rw [pre_length f xs (Nat.le_of_lt hi)]; omega), pre_length f xs (Nat.le_of_lt hi)]
  simp [h]
theorem mixI_set {α : Type} (f : Nat → α → α) {xs : List α} {i : Nat} {x : α} (h : xs[i]? = some x) : (mixI f xs i).set i (f i x) = mixI f xs (i + 1) := by
  have hi : i < xs.length := (List.getElem?_eq_some_iff.1 h).1
  have hx : xs[i] = x := (List.getElem?_eq_some_iff.1 h).2
  unfold mixI
  rw [List.set_append_right _ _ (by rw [pre_length f xs (Nat.le_of_lt hi)]; omega), pre_length f xs (Nat.le_of_lt hi), pre_succ f h]
  have h1 : xs.drop i = x :: xs.drop (i + 1) := by rw [← hx]; exact List.drop_eq_getElem_cons hi
  rw [h1]
  simp
theorem mixI_setE {α : Type} (f : Nat → α → α) (e : α → D) {xs : List α} {i : Nat} {x : α} {c : D} (h : xs[i]? = some x) (hc : e (f i x) = c) : ((mixI f xs i).map e).set i c = (mixI f xs (i + 1)).map e := by rw [← hc, ← mixI_set f h, List.map_set]
theorem set_same {α : Type} {l : List α} {i : Nat} {x : α} (h : l[i]? = some x) : l.set i x = l := by
  apply List.ext_getElem?
  intro j
  rw [List.getElem?_set]
  split
  · rename_i e; subst e; rw [if_pos (List.getElem?_eq_some_iff.1 h).1, h]
  · rfl
theorem mixI_keep {α : Type} (f : Nat → α → α) {xs : List α} {i : Nat} {x : α} (h : xs[i]? = some x) (he : f i x = x) : mixI f xs i = mixI f xs (i + 1) := by rw [← mixI_set f h, he, set_same (mixI_get f h)]
theorem mixI_stop {α : Type} (f : Nat → α → α) {xs : List α} {i : Nat} (h : ∀ j, i ≤ j → ∀ x, f j x = x) : mixI f xs i = xs.mapIdx f := by
  apply List.ext_getElem?
  intro j
  rw [List.getElem?_mapIdx]
  rcases Nat.lt_or_ge i xs.length with hi | hi
  · unfold mixI
    rw [List.getElem?_append, pre_length f xs (Nat.le_of_lt hi)]
    split
    · rename_i hj; simp [pre, List.getElem?_take, hj]
    · rename_i hj
      rw [List.getElem?_drop, show i + (j - i) = j by omega]
      cases hx : xs[j]? with
      | none => rfl
      | some x => simp [h j (by omega) x]
  · rw [mixI_all f xs hi, List.getElem?_mapIdx]

theorem callB10 : callB Try.prog 10 = true := by kernel_rfl

theorem plc39 : plc Try.prog 39 = some [(0, 1), (1, 1), (2, 1)] := by kernel_rfl

theorem command_ret (ms : List Mach) (cs : List Int) (hn : ms.length ≤ 100000) (hc : cs.length ≤ 9223372036854775807) (mv : Nat → Bool) : Ret Try.prog 10 [] mv ([D.sl 3 (ms.map Mach.enc), D.sl 1 (cs.map (D.int .i64))].map .d) (.msl 0 3 0 ms.length) [.flat 39 3 ((commands ms cs).map Mach.enc)] := by
  refine ret_body callB10 Try.func10 rfl Try.ntmps10 rfl rfl (fun wX gX => ?_)
  refine twp_norm [0, 1] (by repeat (first | exact SubK.nil | apply sub_d rfl | apply sub_msl rfl | apply sub_mptr rfl | apply sub_agg rfl | apply sub_tup rfl | apply sub_ifc rfl | apply sub_fnc rfl | apply sub_mmap rfl | apply SubK.cons _ _ _ _ rfl)) (by repeat (first | exact blk_nil rfl | apply blk_flat rfl | apply blk_box rfl | apply blk_map rfl | apply blk_dead rfl | rfl)) ?_
  refine twp_rseq ?_
  refine s_rd _ rfl (by first | exact mv_d (.inr rfl) rfl | exact mv_msl (.inr rfl) rfl | exact mv_mptr (.inr rfl) rfl | exact mv_agg (.inr rfl) rfl | exact mv_tup (.inr rfl) rfl | exact mv_ifc (.inr rfl) rfl | exact mv_fnc (.inr rfl) rfl | exact mv_mmap (.inr rfl) rfl | exact rd_move (.inr rfl)) ?_
  refine tops_nil ?_
  refine twp_norm [0, 1] (by repeat (first | exact SubK.nil | apply sub_d rfl | apply sub_msl rfl | apply sub_mptr rfl | apply sub_agg rfl | apply sub_tup rfl | apply sub_ifc rfl | apply sub_fnc rfl | apply sub_mmap rfl | apply SubK.cons _ _ _ _ rfl)) (by repeat (first | exact blk_nil rfl | apply blk_flat rfl | apply blk_box rfl | apply blk_map rfl | apply blk_dead rfl | rfl)) ?_
  refine twp_rseq ?_
  refine s_rd _ rfl (by first | exact mv_d (.inl rfl) rfl | exact mv_msl (.inl rfl) rfl | exact mv_mptr (.inl rfl) rfl | exact mv_agg (.inl rfl) rfl | exact mv_tup (.inl rfl) rfl | exact mv_ifc (.inl rfl) rfl | exact mv_fnc (.inl rfl) rfl | exact mv_mmap (.inl rfl) rfl | exact rd_move (.inl rfl)) ?_
  refine s_callD (ds := [D.sl 3 (ms.map Mach.enc)]) rfl rfl rfl (duplicate_ret ms hn mv) rfl rfl ?_
  refine s_rd _ rfl (by first | exact mv_d (.inr rfl) rfl | exact mv_msl (.inr rfl) rfl | exact mv_mptr (.inr rfl) rfl | exact mv_agg (.inr rfl) rfl | exact mv_tup (.inr rfl) rfl | exact mv_ifc (.inr rfl) rfl | exact mv_fnc (.inr rfl) rfl | exact mv_mmap (.inr rfl) rfl | exact rd_move (.inr rfl)) ?_
  refine tops_nil ?_
  refine twp_norm [1, 5] (by repeat (first | exact SubK.nil | apply sub_d rfl | apply sub_msl rfl | apply sub_mptr rfl | apply sub_agg rfl | apply sub_tup rfl | apply sub_ifc rfl | apply sub_fnc rfl | apply sub_mmap rfl | apply SubK.cons _ _ _ _ rfl)) (by repeat (first | exact blk_nil rfl | apply blk_flat rfl | apply blk_box rfl | apply blk_map rfl | apply blk_dead rfl | rfl)) ?_
  refine twp_seq ?_
  refine twp_rseq ?_
  refine s_rd _ rfl (by first | exact mv_d (.inl rfl) rfl | exact mv_msl (.inl rfl) rfl | exact mv_mptr (.inl rfl) rfl | exact mv_agg (.inl rfl) rfl | exact mv_tup (.inl rfl) rfl | exact mv_ifc (.inl rfl) rfl | exact mv_fnc (.inl rfl) rfl | exact mv_mmap (.inl rfl) rfl | exact rd_move (.inl rfl)) ?_
  refine s_rd _ rfl (by first | exact len_d rfl sel22 rfl (by first | exact List.length_map _ | rfl) | exact len_msl rfl sel22 rfl | exact len_nil rfl sel22 rfl) ?_
  refine s_rd _ rfl (by first | exact mv_d (.inl rfl) rfl | exact mv_msl (.inl rfl) rfl | exact mv_mptr (.inl rfl) rfl | exact mv_agg (.inl rfl) rfl | exact mv_tup (.inl rfl) rfl | exact mv_ifc (.inl rfl) rfl | exact mv_fnc (.inl rfl) rfl | exact mv_mmap (.inl rfl) rfl | exact rd_move (.inl rfl)) ?_
  refine tops_nil ?_
  refine twp_norm [1, 5, 11, 12] (by repeat (first | exact SubK.nil | apply sub_d rfl | apply sub_msl rfl | apply sub_mptr rfl | apply sub_agg rfl | apply sub_tup rfl | apply sub_ifc rfl | apply sub_fnc rfl | apply sub_mmap rfl | apply SubK.cons _ _ _ _ rfl)) (by repeat (first | exact blk_nil rfl | apply blk_flat rfl | apply blk_box rfl | apply blk_map rfl | apply blk_dead rfl | rfl)) ?_
  refine twp_block ?_
  refine twp_while (fun i => (⟨[(1, .d (.sl 1 (cs.map (D.int .i64)))), (5, .msl 0 3 0 ms.length), (11, .d (.int .i64 ((ms.length : Nat) : Int))), (12, .d (.int .i64 ((i : Nat) : Int)))], [.flat 39 3 ((mixI (cmdAt cs) ms i).map Mach.enc)]⟩ : St)) (fun i => i ≤ ms.length) (fun i => ms.length - i) [1, 5, 11, 12] [0] 0 (by decide) (fun i hi => absurd hi (Nat.not_lt_zero i)) (by simp) (by rw [mixI_zero]; rfl) ?_
  rintro i hok
  refine twp_norm [1, 5, 11, 12] (by repeat (first | exact SubK.nil | apply sub_d rfl | apply sub_msl rfl | apply sub_mptr rfl | apply sub_agg rfl | apply sub_tup rfl | apply sub_ifc rfl | apply sub_fnc rfl | apply sub_mmap rfl | apply SubK.cons _ _ _ _ rfl)) (by repeat (first | exact blk_nil rfl | apply blk_flat rfl | apply blk_box rfl | apply blk_map rfl | apply blk_dead rfl | rfl)) ?_
  refine twp_rseq ?_
  refine s_rd _ rfl (by first | exact cmp_int rfl rfl rfl rfl | exact cmp_bool rfl rfl rfl rfl) ?_
  refine tops_nil ?_
  refine twp_norm [1, 5, 11, 12, 13] (by repeat (first | exact SubK.nil | apply sub_d rfl | apply sub_msl rfl | apply sub_mptr rfl | apply sub_agg rfl | apply sub_tup rfl | apply sub_ifc rfl | apply sub_fnc rfl | apply sub_mmap rfl | apply SubK.cons _ _ _ _ rfl)) (by repeat (first | exact blk_nil rfl | apply blk_flat rfl | apply blk_box rfl | apply blk_map rfl | apply blk_dead rfl | rfl)) ?_
  refine twp_seq ?_
  refine twp_cond _ rfl (fun hlt => ?_) (fun hlt => ?_)
  · have hlt : i < ms.length := by simpa using hlt
    obtain ⟨m, hm⟩ : ∃ m, ms[i]? = some m := ⟨_, List.getElem?_eq_getElem hlt⟩
    have hg := el_map (f := Mach.enc) (mixI_get (cmdAt cs) hm)
    have hl : i < ((mixI (cmdAt cs) ms i).map Mach.enc).length := by simpa [mixI_length] using hlt
    refine twp_skip ?_
    refine way_then ?_
    refine twp_norm [1, 5, 11, 12] (by repeat (first | exact SubK.nil | apply sub_d rfl | apply sub_msl rfl | apply sub_mptr rfl | apply sub_agg rfl | apply sub_tup rfl | apply sub_ifc rfl | apply sub_fnc rfl | apply sub_mmap rfl | apply SubK.cons _ _ _ _ rfl)) (by repeat (first | exact blk_nil rfl | apply blk_flat rfl | apply blk_box rfl | apply blk_map rfl | apply blk_dead rfl | rfl)) ?_
    refine twp_seq ?_
    refine twp_block ?_
    refine twp_rseq ?_
    refine s_rd _ rfl (by first | exact mv_d (.inl rfl) rfl | exact mv_msl (.inl rfl) rfl | exact mv_mptr (.inl rfl) rfl | exact mv_agg (.inl rfl) rfl | exact mv_tup (.inl rfl) rfl | exact mv_ifc (.inl rfl) rfl | exact mv_fnc (.inl rfl) rfl | exact mv_mmap (.inl rfl) rfl | exact rd_move (.inl rfl)) ?_
    refine s_rd _ rfl (by first | exact mv_d (.inr rfl) rfl | exact mv_msl (.inr rfl) rfl | exact mv_mptr (.inr rfl) rfl | exact mv_agg (.inr rfl) rfl | exact mv_tup (.inr rfl) rfl | exact mv_ifc (.inr rfl) rfl | exact mv_fnc (.inr rfl) rfl | exact mv_mmap (.inr rfl) rfl | exact rd_move (.inr rfl)) ?_
    refine tops_nil ?_
    refine twp_norm [1, 5, 6, 11, 12] (by repeat (first | exact SubK.nil | apply sub_d rfl | apply sub_msl rfl | apply sub_mptr rfl | apply sub_agg rfl | apply sub_tup rfl | apply sub_ifc rfl | apply sub_fnc rfl | apply sub_mmap rfl | apply SubK.cons _ _ _ _ rfl)) (by repeat (first | exact blk_nil rfl | apply blk_flat rfl | apply blk_box rfl | apply blk_map rfl | apply blk_dead rfl | rfl)) ?_
    refine twp_seq ?_
    refine twp_rseq ?_
    refine s_rd _ rfl (by first | exact mv_d (.inl rfl) rfl | exact mv_msl (.inl rfl) rfl | exact mv_mptr (.inl rfl) rfl | exact mv_agg (.inl rfl) rfl | exact mv_tup (.inl rfl) rfl | exact mv_ifc (.inl rfl) rfl | exact mv_fnc (.inl rfl) rfl | exact mv_mmap (.inl rfl) rfl | exact rd_move (.inl rfl)) ?_
    refine s_rd _ rfl (by first | exact mv_d (.inl rfl) rfl | exact mv_msl (.inl rfl) rfl | exact mv_mptr (.inl rfl) rfl | exact mv_agg (.inl rfl) rfl | exact mv_tup (.inl rfl) rfl | exact mv_ifc (.inl rfl) rfl | exact mv_fnc (.inl rfl) rfl | exact mv_mmap (.inl rfl) rfl | exact rd_move (.inl rfl)) ?_
    refine s_rd _ rfl (by first | exact len_d rfl sel23 rfl (by first | exact List.length_map _ | rfl) | exact len_msl rfl sel23 rfl | exact len_nil rfl sel23 rfl) ?_
    refine s_rd _ rfl (by first | exact cmp_int rfl rfl rfl rfl | exact cmp_bool rfl rfl rfl rfl) ?_
    refine tops_nil ?_
    refine twp_norm [1, 5, 6, 11, 12, 18] (by repeat (first | exact SubK.nil | apply sub_d rfl | apply sub_msl rfl | apply sub_mptr rfl | apply sub_agg rfl | apply sub_tup rfl | apply sub_ifc rfl | apply sub_fnc rfl | apply sub_mmap rfl | apply SubK.cons _ _ _ _ rfl)) (by repeat (first | exact blk_nil rfl | apply blk_flat rfl | apply blk_box rfl | apply blk_map rfl | apply blk_dead rfl | rfl)) ?_
    refine twp_cond _ rfl (fun hc1 => ?_) (fun hc1 => ?_)
    · have hc1 : cs.length ≤ i := by simpa using hc1
      have hend : mixI (cmdAt cs) ms i = commands ms cs := mixI_stop _ fun j hj x => by simp [cmdAt, List.getElem?_eq_none (show cs.length ≤ j by omega)]
      refine twp_exit ?_
      refine way_thenExit ?_
      refine way_past rfl ?_
      refine way_thenExit ?_
      refine way_thenExit ?_
      refine way_here ?_
      refine way_then ?_
      refine twp_norm [5] (by repeat (first | exact SubK.nil | apply sub_d rfl | apply sub_msl rfl | apply sub_mptr rfl | apply sub_agg rfl | apply sub_tup rfl | apply sub_ifc rfl | apply sub_fnc rfl | apply sub_mmap rfl | apply SubK.cons _ _ _ _ rfl)) (by repeat (first | exact blk_nil rfl | apply blk_flat rfl | apply blk_box rfl | apply blk_map rfl | apply blk_dead rfl | rfl)) ?_
      refine twp_rseq ?_
      refine s_rd _ rfl (by first | exact mv_d (.inl rfl) rfl | exact mv_msl (.inl rfl) rfl | exact mv_mptr (.inl rfl) rfl | exact mv_agg (.inl rfl) rfl | exact mv_tup (.inl rfl) rfl | exact mv_ifc (.inl rfl) rfl | exact mv_fnc (.inl rfl) rfl | exact mv_mmap (.inl rfl) rfl | exact rd_move (.inl rfl)) ?_
      refine s_rd _ rfl (by first | exact mv_d (.inr rfl) rfl | exact mv_msl (.inr rfl) rfl | exact mv_mptr (.inr rfl) rfl | exact mv_agg (.inr rfl) rfl | exact mv_tup (.inr rfl) rfl | exact mv_ifc (.inr rfl) rfl | exact mv_fnc (.inr rfl) rfl | exact mv_mmap (.inr rfl) rfl | exact rd_move (.inr rfl)) ?_
      refine tops_nil ?_
      refine twp_norm [4] (by repeat (first | exact SubK.nil | apply sub_d rfl | apply sub_msl rfl | apply sub_mptr rfl | apply sub_agg rfl | apply sub_tup rfl | apply sub_ifc rfl | apply sub_fnc rfl | apply sub_mmap rfl | apply SubK.cons _ _ _ _ rfl)) (by repeat (first | exact blk_nil rfl | apply blk_flat rfl | apply blk_box rfl | apply blk_map rfl | apply blk_dead rfl | rfl)) ?_
      refine twp_ret ?_
      exact ⟨_, [0], rfl, by decide, fun i hi => absurd hi (Nat.not_lt_zero i), rfl, by rw [hend]; rfl⟩
    · have hc1 : i < cs.length := by simpa using hc1
      obtain ⟨c, hcc⟩ : ∃ c, cs[i]? = some c := ⟨_, List.getElem?_eq_getElem hc1⟩
      refine twp_skip ?_
      refine way_then ?_
      refine twp_norm [1, 5, 6, 11, 12] (by repeat (first | exact SubK.nil | apply sub_d rfl | apply sub_msl rfl | apply sub_mptr rfl | apply sub_agg rfl | apply sub_tup rfl | apply sub_ifc rfl | apply sub_fnc rfl | apply sub_mmap rfl | apply SubK.cons _ _ _ _ rfl)) (by repeat (first | exact blk_nil rfl | apply blk_flat rfl | apply blk_box rfl | apply blk_map rfl | apply blk_dead rfl | rfl)) ?_
      refine twp_rseq ?_
      refine s_rd _ rfl (by first | exact mv_d (.inl rfl) rfl | exact mv_msl (.inl rfl) rfl | exact mv_mptr (.inl rfl) rfl | exact mv_agg (.inl rfl) rfl | exact mv_tup (.inl rfl) rfl | exact mv_ifc (.inl rfl) rfl | exact mv_fnc (.inl rfl) rfl | exact mv_mmap (.inl rfl) rfl | exact rd_move (.inl rfl)) ?_
      refine s_rd _ rfl (by first | exact mv_d (.inl rfl) rfl | exact mv_msl (.inl rfl) rfl | exact mv_mptr (.inl rfl) rfl | exact mv_agg (.inl rfl) rfl | exact mv_tup (.inl rfl) rfl | exact mv_ifc (.inl rfl) rfl | exact mv_fnc (.inl rfl) rfl | exact mv_mmap (.inl rfl) rfl | exact rd_move (.inl rfl)) ?_
      refine s_rd _ rfl (by first | exact index_msl0 rfl sel23 rfl rfl (by first | assumption | omega | (simp; omega)) | exact index_sl rfl sel23 rfl rfl (idx_map hcc)) ?_
      refine s_rd _ rfl (by first | exact load_ptr rfl lay3 rfl rfl | exact load_flat rfl lay3 rfl rfl (by first | rfl | assumption | (simp only [List.getElem?_map, Option.map_some, *]; done)) rfl | exact load_box_d rfl lay3 rfl rfl rfl | exact load_box rfl lay3 rfl rfl rfl) ?_
      refine s_rd _ rfl (by first | exact mv_d (.inr rfl) rfl | exact mv_msl (.inr rfl) rfl | exact mv_mptr (.inr rfl) rfl | exact mv_agg (.inr rfl) rfl | exact mv_tup (.inr rfl) rfl | exact mv_ifc (.inr rfl) rfl | exact mv_fnc (.inr rfl) rfl | exact mv_mmap (.inr rfl) rfl | exact rd_move (.inr rfl)) ?_
      refine tops_nil ?_
      refine twp_norm [1, 5, 6, 7, 11, 12] (by repeat (first | exact SubK.nil | apply sub_d rfl | apply sub_msl rfl | apply sub_mptr rfl | apply sub_agg rfl | apply sub_tup rfl | apply sub_ifc rfl | apply sub_fnc rfl | apply sub_mmap rfl | apply SubK.cons _ _ _ _ rfl)) (by repeat (first | exact blk_nil rfl | apply blk_flat rfl | apply blk_box rfl | apply blk_map rfl | apply blk_dead rfl | rfl)) ?_
      refine twp_rseq ?_
      refine s_rd _ rfl (by first | exact mv_d (.inl rfl) rfl | exact mv_msl (.inl rfl) rfl | exact mv_mptr (.inl rfl) rfl | exact mv_agg (.inl rfl) rfl | exact mv_tup (.inl rfl) rfl | exact mv_ifc (.inl rfl) rfl | exact mv_fnc (.inl rfl) rfl | exact mv_mmap (.inl rfl) rfl | exact rd_move (.inl rfl)) ?_
      refine s_rd _ rfl (by first | exact cmp_int rfl rfl rfl rfl | exact cmp_bool rfl rfl rfl rfl) ?_
      refine s_rd _ rfl (by first | exact mv_d (.inl rfl) rfl | exact mv_msl (.inl rfl) rfl | exact mv_mptr (.inl rfl) rfl | exact mv_agg (.inl rfl) rfl | exact mv_tup (.inl rfl) rfl | exact mv_ifc (.inl rfl) rfl | exact mv_fnc (.inl rfl) rfl | exact mv_mmap (.inl rfl) rfl | exact rd_move (.inl rfl)) ?_
      refine s_split 25 rfl (fun e1 => ?_) (fun e1 => ?_)
      · have e1 : c = 1 := of_decide_eq_true e1
        refine s_no rfl rfl rfl rfl ?_
        refine s_no rfl rfl rfl rfl ?_
        refine s_rd _ rfl (by first | exact pick_Td rfl rfl rfl | exact pick_Fd rfl rfl rfl | exact rd_pickBool _ _ _ rfl rfl rfl rfl | exact pick_T rfl rfl rfl | exact pick_F rfl rfl rfl) ?_
        refine s_rd _ rfl (by first | exact mv_d (.inl rfl) rfl | exact mv_msl (.inl rfl) rfl | exact mv_mptr (.inl rfl) rfl | exact mv_agg (.inl rfl) rfl | exact mv_tup (.inl rfl) rfl | exact mv_ifc (.inl rfl) rfl | exact mv_fnc (.inl rfl) rfl | exact mv_mmap (.inl rfl) rfl | exact rd_move (.inl rfl)) ?_
        refine s_yes rfl rfl rfl ?_
        refine s_rd _ rfl (by first | exact mv_d (.inl rfl) rfl | exact mv_msl (.inl rfl) rfl | exact mv_mptr (.inl rfl) rfl | exact mv_agg (.inl rfl) rfl | exact mv_tup (.inl rfl) rfl | exact mv_ifc (.inl rfl) rfl | exact mv_fnc (.inl rfl) rfl | exact mv_mmap (.inl rfl) rfl | exact rd_move (.inl rfl)) ?_
        refine s_yes rfl rfl rfl ?_
        refine s_rd _ rfl (by first | exact mv_d (.inl rfl) rfl | exact mv_msl (.inl rfl) rfl | exact mv_mptr (.inl rfl) rfl | exact mv_agg (.inl rfl) rfl | exact mv_tup (.inl rfl) rfl | exact mv_ifc (.inl rfl) rfl | exact mv_fnc (.inl rfl) rfl | exact mv_mmap (.inl rfl) rfl | exact rd_move (.inl rfl)) ?_
        refine s_yes rfl rfl rfl ?_
        refine s_rd _ rfl (by first | exact mv_d (.inl rfl) rfl | exact mv_msl (.inl rfl) rfl | exact mv_mptr (.inl rfl) rfl | exact mv_agg (.inl rfl) rfl | exact mv_tup (.inl rfl) rfl | exact mv_ifc (.inl rfl) rfl | exact mv_fnc (.inl rfl) rfl | exact mv_mmap (.inl rfl) rfl | exact rd_move (.inl rfl)) ?_
        refine s_yes rfl rfl rfl ?_
        refine s_rd _ rfl (by first | exact index_msl0 rfl sel22 rfl rfl (by first | assumption | omega | (simp; omega)) | exact index_sl rfl sel22 rfl rfl (by first | exact ⟨by omega, by assumption⟩ | exact idx_map (by assumption) | exact idx_id (by assumption))) ?_
        refine s_yes rfl rfl rfl ?_
        refine s_rd _ rfl (by first | exact fieldAddr_ptr rfl fld39_1 rfl rfl | exact fieldAddr_mptr rfl fld39_1 rfl rfl) ?_
        refine s_yes rfl rfl rfl ?_
        refine s_rd _ rfl (by first | exact load_ptr rfl lay3 rfl rfl | exact load_flat rfl lay3 rfl rfl (hg) rfl | exact load_box_d rfl lay3 rfl rfl rfl | exact load_box rfl lay3 rfl rfl rfl) ?_
        refine s_yes rfl rfl rfl ?_
        refine s_rd _ rfl (by first | exact cmp_int rfl rfl rfl rfl | exact cmp_bool rfl rfl rfl rfl) ?_
        refine s_rd _ rfl (by first | exact pick_Td rfl rfl rfl | exact pick_Fd rfl rfl rfl | exact rd_pickBool _ _ _ rfl rfl rfl rfl | exact pick_T rfl rfl rfl | exact pick_F rfl rfl rfl) ?_
        refine tops_nil ?_
        refine twp_norm [1, 5, 6, 7, 11, 12, 37] (by repeat (first | exact SubK.nil | apply sub_d rfl | apply sub_msl rfl | apply sub_mptr rfl | apply sub_agg rfl | apply sub_tup rfl | apply sub_ifc rfl | apply sub_fnc rfl | apply sub_mmap rfl | apply SubK.cons _ _ _ _ rfl)) (by repeat (first | exact blk_nil rfl | apply blk_flat rfl | apply blk_box rfl | apply blk_map rfl | apply blk_dead rfl | rfl)) ?_
        refine twp_cond _ rfl (fun e3 => ?_) (fun e3 => ?_)
        · have e3 : ¬ c = m.goal := by simpa using e3
          have h12 : c = 1 ∨ c = 2 := by omega
          have hE : ((mixI (cmdAt cs) ms i).map Mach.enc).set i (Mach.enc ⟨0, c, 3⟩) = (mixI (cmdAt cs) ms (i + 1)).map Mach.enc := mixI_setE _ _ hm (by simp [cmdAt, hcc, commandM, e3, h12])
          refine twp_region ?_
          refine s_rd _ rfl (by first | exact mv_d (.inl rfl) rfl | exact mv_msl (.inl rfl) rfl | exact mv_mptr (.inl rfl) rfl | exact mv_agg (.inl rfl) rfl | exact mv_tup (.inl rfl) rfl | exact mv_ifc (.inl rfl) rfl | exact mv_fnc (.inl rfl) rfl | exact mv_mmap (.inl rfl) rfl | exact rd_move (.inl rfl)) ?_
          refine s_rd _ rfl (by first | exact mv_d (.inl rfl) rfl | exact mv_msl (.inl rfl) rfl | exact mv_mptr (.inl rfl) rfl | exact mv_agg (.inl rfl) rfl | exact mv_tup (.inl rfl) rfl | exact mv_ifc (.inl rfl) rfl | exact mv_fnc (.inl rfl) rfl | exact mv_mmap (.inl rfl) rfl | exact rd_move (.inl rfl)) ?_
          refine s_rd _ rfl (by first | exact mv_d (.inl rfl) rfl | exact mv_msl (.inl rfl) rfl | exact mv_mptr (.inl rfl) rfl | exact mv_agg (.inl rfl) rfl | exact mv_tup (.inl rfl) rfl | exact mv_ifc (.inl rfl) rfl | exact mv_fnc (.inl rfl) rfl | exact mv_mmap (.inl rfl) rfl | exact rd_move (.inl rfl)) ?_
          refine s_rd _ rfl (by first | exact build_d rfl plc39 zero39 rfl rfl rfl rfl | exact rd_build rfl plc39 zero39 rfl rfl rfl rfl) ?_
          refine s_rd _ rfl (by first | exact index_msl0 rfl sel22 rfl rfl (by first | assumption | omega | (simp; omega)) | exact index_sl rfl sel22 rfl rfl (by first | exact ⟨by omega, by assumption⟩ | exact idx_map (by assumption) | exact idx_id (by assumption))) ?_
          first
            | refine s_store_box lay39 rfl rfl rfl rfl rfl (Nat.le_of_ble_eq_true rfl) rfl ?_
            | refine s_store_flat lay39 rfl rfl rfl rfl hg (by first | exact .inl rfl | exact .inr rfl) (Nat.le_of_ble_eq_true rfl) rfl ?_
          refine tops_nil ?_
          refine way_block ?_
          refine way_then ?_
          refine twp_norm [1, 5, 11, 12] (by repeat (first | exact SubK.nil | apply sub_d rfl | apply sub_msl rfl | apply sub_mptr rfl | apply sub_agg rfl | apply sub_tup rfl | apply sub_ifc rfl | apply sub_fnc rfl | apply sub_mmap rfl | apply SubK.cons _ _ _ _ rfl)) (by repeat (first | exact blk_nil rfl | apply blk_flat rfl | apply blk_box rfl | apply blk_map rfl | apply blk_dead rfl | rfl)) ?_
          refine twp_region ?_
          refine s_rd _ rfl (arith_ok rfl rfl rfl rfl (by first | omega | (constructor <;> omega))) ?_
          refine s_rd _ rfl (by first | exact mv_d (.inl rfl) rfl | exact mv_msl (.inl rfl) rfl | exact mv_mptr (.inl rfl) rfl | exact mv_agg (.inl rfl) rfl | exact mv_tup (.inl rfl) rfl | exact mv_ifc (.inl rfl) rfl | exact mv_fnc (.inl rfl) rfl | exact mv_mmap (.inl rfl) rfl | exact rd_move (.inl rfl)) ?_
          refine tops_nil ?_
          refine way_then ?_
          exact ⟨(i + 1), [0], by decide, fun i hi => absurd hi (Nat.not_lt_zero i), (by omega), (by omega), (congrArg (fun es => (⟨(fun i => ([(1, .d (.sl 1 (cs.map (D.int .i64)))), (5, .msl 0 3 0 ms.length), (11, .d (.int .i64 ((ms.length : Nat) : Int))), (12, .d (.int .i64 ((i : Nat) : Int)))] : Fr)) (i + 1), [.flat 39 3 es]⟩ : St)) hE)⟩
        · have e3 : c = m.goal := by simpa using e3
          have hE := congrArg (List.map Mach.enc) (mixI_keep (cmdAt cs) hm (show cmdAt cs i m = m by simp [cmdAt, hcc, commandM, e3]))
          refine twp_skip ?_
          refine way_block ?_
          refine way_then ?_
          refine twp_norm [1, 5, 11, 12] (by repeat (first | exact SubK.nil | apply sub_d rfl | apply sub_msl rfl | apply sub_mptr rfl | apply sub_agg rfl | apply sub_tup rfl | apply sub_ifc rfl | apply sub_fnc rfl | apply sub_mmap rfl | apply SubK.cons _ _ _ _ rfl)) (by repeat (first | exact blk_nil rfl | apply blk_flat rfl | apply blk_box rfl | apply blk_map rfl | apply blk_dead rfl | rfl)) ?_
          refine twp_region ?_
          refine s_rd _ rfl (arith_ok rfl rfl rfl rfl (by first | omega | (constructor <;> omega))) ?_
          refine s_rd _ rfl (by first | exact mv_d (.inl rfl) rfl | exact mv_msl (.inl rfl) rfl | exact mv_mptr (.inl rfl) rfl | exact mv_agg (.inl rfl) rfl | exact mv_tup (.inl rfl) rfl | exact mv_ifc (.inl rfl) rfl | exact mv_fnc (.inl rfl) rfl | exact mv_mmap (.inl rfl) rfl | exact rd_move (.inl rfl)) ?_
          refine tops_nil ?_
          refine way_then ?_
          exact ⟨(i + 1), [0], by decide, fun i hi => absurd hi (Nat.not_lt_zero i), (by omega), (by omega), (congrArg (fun es => (⟨(fun i => ([(1, .d (.sl 1 (cs.map (D.int .i64)))), (5, .msl 0 3 0 ms.length), (11, .d (.int .i64 ((ms.length : Nat) : Int))), (12, .d (.int .i64 ((i : Nat) : Int)))] : Fr)) (i + 1), [.flat 39 3 es]⟩ : St)) hE)⟩
      · have e1 : ¬ c = 1 := of_decide_eq_false e1
        refine s_yes rfl rfl rfl ?_
        refine s_rd _ rfl (by first | exact mv_d (.inl rfl) rfl | exact mv_msl (.inl rfl) rfl | exact mv_mptr (.inl rfl) rfl | exact mv_agg (.inl rfl) rfl | exact mv_tup (.inl rfl) rfl | exact mv_ifc (.inl rfl) rfl | exact mv_fnc (.inl rfl) rfl | exact mv_mmap (.inl rfl) rfl | exact rd_move (.inl rfl)) ?_
        refine s_yes rfl rfl rfl ?_
        refine s_rd _ rfl (by first | exact cmp_int rfl rfl rfl rfl | exact cmp_bool rfl rfl rfl rfl) ?_
        refine s_rd _ rfl (by first | exact pick_Td rfl rfl rfl | exact pick_Fd rfl rfl rfl | exact rd_pickBool _ _ _ rfl rfl rfl rfl | exact pick_T rfl rfl rfl | exact pick_F rfl rfl rfl) ?_
        refine s_rd _ rfl (by first | exact mv_d (.inl rfl) rfl | exact mv_msl (.inl rfl) rfl | exact mv_mptr (.inl rfl) rfl | exact mv_agg (.inl rfl) rfl | exact mv_tup (.inl rfl) rfl | exact mv_ifc (.inl rfl) rfl | exact mv_fnc (.inl rfl) rfl | exact mv_mmap (.inl rfl) rfl | exact rd_move (.inl rfl)) ?_
        refine s_split 29 rfl (fun e2 => ?_) (fun e2 => ?_)
        · have e2 : c = 2 := of_decide_eq_true e2
          refine s_yes rfl rfl rfl ?_
          refine s_rd _ rfl (by first | exact mv_d (.inl rfl) rfl | exact mv_msl (.inl rfl) rfl | exact mv_mptr (.inl rfl) rfl | exact mv_agg (.inl rfl) rfl | exact mv_tup (.inl rfl) rfl | exact mv_ifc (.inl rfl) rfl | exact mv_fnc (.inl rfl) rfl | exact mv_mmap (.inl rfl) rfl | exact rd_move (.inl rfl)) ?_
          refine s_yes rfl rfl rfl ?_
          refine s_rd _ rfl (by first | exact mv_d (.inl rfl) rfl | exact mv_msl (.inl rfl) rfl | exact mv_mptr (.inl rfl) rfl | exact mv_agg (.inl rfl) rfl | exact mv_tup (.inl rfl) rfl | exact mv_ifc (.inl rfl) rfl | exact mv_fnc (.inl rfl) rfl | exact mv_mmap (.inl rfl) rfl | exact rd_move (.inl rfl)) ?_
          refine s_yes rfl rfl rfl ?_
          refine s_rd _ rfl (by first | exact mv_d (.inl rfl) rfl | exact mv_msl (.inl rfl) rfl | exact mv_mptr (.inl rfl) rfl | exact mv_agg (.inl rfl) rfl | exact mv_tup (.inl rfl) rfl | exact mv_ifc (.inl rfl) rfl | exact mv_fnc (.inl rfl) rfl | exact mv_mmap (.inl rfl) rfl | exact rd_move (.inl rfl)) ?_
          refine s_yes rfl rfl rfl ?_
          refine s_rd _ rfl (by first | exact index_msl0 rfl sel22 rfl rfl (by first | assumption | omega | (simp; omega)) | exact index_sl rfl sel22 rfl rfl (by first | exact ⟨by omega, by assumption⟩ | exact idx_map (by assumption) | exact idx_id (by assumption))) ?_
          refine s_yes rfl rfl rfl ?_
          refine s_rd _ rfl (by first | exact fieldAddr_ptr rfl fld39_1 rfl rfl | exact fieldAddr_mptr rfl fld39_1 rfl rfl) ?_
          refine s_yes rfl rfl rfl ?_
          refine s_rd _ rfl (by first | exact load_ptr rfl lay3 rfl rfl | exact load_flat rfl lay3 rfl rfl (hg) rfl | exact load_box_d rfl lay3 rfl rfl rfl | exact load_box rfl lay3 rfl rfl rfl) ?_
          refine s_yes rfl rfl rfl ?_
          refine s_rd _ rfl (by first | exact cmp_int rfl rfl rfl rfl | exact cmp_bool rfl rfl rfl rfl) ?_
          refine s_rd _ rfl (by first | exact pick_Td rfl rfl rfl | exact pick_Fd rfl rfl rfl | exact rd_pickBool _ _ _ rfl rfl rfl rfl | exact pick_T rfl rfl rfl | exact pick_F rfl rfl rfl) ?_
          refine tops_nil ?_
          refine twp_norm [1, 5, 6, 7, 11, 12, 37] (by repeat (first | exact SubK.nil | apply sub_d rfl | apply sub_msl rfl | apply sub_mptr rfl | apply sub_agg rfl | apply sub_tup rfl | apply sub_ifc rfl | apply sub_fnc rfl | apply sub_mmap rfl | apply SubK.cons _ _ _ _ rfl)) (by repeat (first | exact blk_nil rfl | apply blk_flat rfl | apply blk_box rfl | apply blk_map rfl | apply blk_dead rfl | rfl)) ?_
          refine twp_cond _ rfl (fun e3 => ?_) (fun e3 => ?_)
          · have e3 : ¬ c = m.goal := by simpa using e3
            have h12 : c = 1 ∨ c = 2 := by omega
            have hE : ((mixI (cmdAt cs) ms i).map Mach.enc).set i (Mach.enc ⟨0, c, 3⟩) = (mixI (cmdAt cs) ms (i + 1)).map Mach.enc := mixI_setE _ _ hm (by simp [cmdAt, hcc, commandM, e3, h12])
            refine twp_region ?_
            refine s_rd _ rfl (by first | exact mv_d (.inl rfl) rfl | exact mv_msl (.inl rfl) rfl | exact mv_mptr (.inl rfl) rfl | exact mv_agg (.inl rfl) rfl | exact mv_tup (.inl rfl) rfl | exact mv_ifc (.inl rfl) rfl | exact mv_fnc (.inl rfl) rfl | exact mv_mmap (.inl rfl) rfl | exact rd_move (.inl rfl)) ?_
            refine s_rd _ rfl (by first | exact mv_d (.inl rfl) rfl | exact mv_msl (.inl rfl) rfl | exact mv_mptr (.inl rfl) rfl | exact mv_agg (.inl rfl) rfl | exact mv_tup (.inl rfl) rfl | exact mv_ifc (.inl rfl) rfl | exact mv_fnc (.inl rfl) rfl | exact mv_mmap (.inl rfl) rfl | exact rd_move (.inl rfl)) ?_
            refine s_rd _ rfl (by first | exact mv_d (.inl rfl) rfl | exact mv_msl (.inl rfl) rfl | exact mv_mptr (.inl rfl) rfl | exact mv_agg (.inl rfl) rfl | exact mv_tup (.inl rfl) rfl | exact mv_ifc (.inl rfl) rfl | exact mv_fnc (.inl rfl) rfl | exact mv_mmap (.inl rfl) rfl | exact rd_move (.inl rfl)) ?_
            refine s_rd _ rfl (by first | exact build_d rfl plc39 zero39 rfl rfl rfl rfl | exact rd_build rfl plc39 zero39 rfl rfl rfl rfl) ?_
            refine s_rd _ rfl (by first | exact index_msl0 rfl sel22 rfl rfl (by first | assumption | omega | (simp; omega)) | exact index_sl rfl sel22 rfl rfl (by first | exact ⟨by omega, by assumption⟩ | exact idx_map (by assumption) | exact idx_id (by assumption))) ?_
            first
              | refine s_store_box lay39 rfl rfl rfl rfl rfl (Nat.le_of_ble_eq_true rfl) rfl ?_
              | refine s_store_flat lay39 rfl rfl rfl rfl hg (by first | exact .inl rfl | exact .inr rfl) (Nat.le_of_ble_eq_true rfl) rfl ?_
            refine tops_nil ?_
            refine way_block ?_
            refine way_then ?_
            refine twp_norm [1, 5, 11, 12] (by repeat (first | exact SubK.nil | apply sub_d rfl | apply sub_msl rfl | apply sub_mptr rfl | apply sub_agg rfl | apply sub_tup rfl | apply sub_ifc rfl | apply sub_fnc rfl | apply sub_mmap rfl | apply SubK.cons _ _ _ _ rfl)) (by repeat (first | exact blk_nil rfl | apply blk_flat rfl | apply blk_box rfl | apply blk_map rfl | apply blk_dead rfl | rfl)) ?_
            refine twp_region ?_
            refine s_rd _ rfl (arith_ok rfl rfl rfl rfl (by first | omega | (constructor <;> omega))) ?_
            refine s_rd _ rfl (by first | exact mv_d (.inl rfl) rfl | exact mv_msl (.inl rfl) rfl | exact mv_mptr (.inl rfl) rfl | exact mv_agg (.inl rfl) rfl | exact mv_tup (.inl rfl) rfl | exact mv_ifc (.inl rfl) rfl | exact mv_fnc (.inl rfl) rfl | exact mv_mmap (.inl rfl) rfl | exact rd_move (.inl rfl)) ?_
            refine tops_nil ?_
            refine way_then ?_
            exact ⟨(i + 1), [0], by decide, fun i hi => absurd hi (Nat.not_lt_zero i), (by omega), (by omega), (congrArg (fun es => (⟨(fun i => ([(1, .d (.sl 1 (cs.map (D.int .i64)))), (5, .msl 0 3 0 ms.length), (11, .d (.int .i64 ((ms.length : Nat) : Int))), (12, .d (.int .i64 ((i : Nat) : Int)))] : Fr)) (i + 1), [.flat 39 3 es]⟩ : St)) hE)⟩
          · have e3 : c = m.goal := by simpa using e3
            have hE := congrArg (List.map Mach.enc) (mixI_keep (cmdAt cs) hm (show cmdAt cs i m = m by simp [cmdAt, hcc, commandM, e3]))
            refine twp_skip ?_
            refine way_block ?_
            refine way_then ?_
            refine twp_norm [1, 5, 11, 12] (by repeat (first | exact SubK.nil | apply sub_d rfl | apply sub_msl rfl | apply sub_mptr rfl | apply sub_agg rfl | apply sub_tup rfl | apply sub_ifc rfl | apply sub_fnc rfl | apply sub_mmap rfl | apply SubK.cons _ _ _ _ rfl)) (by repeat (first | exact blk_nil rfl | apply blk_flat rfl | apply blk_box rfl | apply blk_map rfl | apply blk_dead rfl | rfl)) ?_
            refine twp_region ?_
            refine s_rd _ rfl (arith_ok rfl rfl rfl rfl (by first | omega | (constructor <;> omega))) ?_
            refine s_rd _ rfl (by first | exact mv_d (.inl rfl) rfl | exact mv_msl (.inl rfl) rfl | exact mv_mptr (.inl rfl) rfl | exact mv_agg (.inl rfl) rfl | exact mv_tup (.inl rfl) rfl | exact mv_ifc (.inl rfl) rfl | exact mv_fnc (.inl rfl) rfl | exact mv_mmap (.inl rfl) rfl | exact rd_move (.inl rfl)) ?_
            refine tops_nil ?_
            refine way_then ?_
            exact ⟨(i + 1), [0], by decide, fun i hi => absurd hi (Nat.not_lt_zero i), (by omega), (by omega), (congrArg (fun es => (⟨(fun i => ([(1, .d (.sl 1 (cs.map (D.int .i64)))), (5, .msl 0 3 0 ms.length), (11, .d (.int .i64 ((ms.length : Nat) : Int))), (12, .d (.int .i64 ((i : Nat) : Int)))] : Fr)) (i + 1), [.flat 39 3 es]⟩ : St)) hE)⟩
        · have e2 : ¬ c = 2 := of_decide_eq_false e2
          have hE := congrArg (List.map Mach.enc) (mixI_keep (cmdAt cs) hm (show cmdAt cs i m = m by simp [cmdAt, hcc, commandM, e1, e2]))
          refine s_no rfl rfl rfl rfl ?_
          refine s_no rfl rfl rfl rfl ?_
          refine s_no rfl rfl rfl rfl ?_
          refine s_no rfl rfl rfl rfl ?_
          refine s_no rfl rfl rfl rfl ?_
          refine s_no rfl rfl rfl rfl ?_
          refine s_no rfl rfl rfl rfl ?_
          refine s_rd _ rfl (by first | exact pick_Td rfl rfl rfl | exact pick_Fd rfl rfl rfl | exact rd_pickBool _ _ _ rfl rfl rfl rfl | exact pick_T rfl rfl rfl | exact pick_F rfl rfl rfl) ?_
          refine tops_nil ?_
          refine twp_norm [1, 5, 6, 7, 11, 12, 37] (by repeat (first | exact SubK.nil | apply sub_d rfl | apply sub_msl rfl | apply sub_mptr rfl | apply sub_agg rfl | apply sub_tup rfl | apply sub_ifc rfl | apply sub_fnc rfl | apply sub_mmap rfl | apply SubK.cons _ _ _ _ rfl)) (by repeat (first | exact blk_nil rfl | apply blk_flat rfl | apply blk_box rfl | apply blk_map rfl | apply blk_dead rfl | rfl)) ?_
          refine twp_cond false rfl (fun h => by cases h) (fun _ => ?_)
          refine twp_skip ?_
          refine way_block ?_
          refine way_then ?_
          refine twp_norm [1, 5, 11, 12] (by repeat (first | exact SubK.nil | apply sub_d rfl | apply sub_msl rfl | apply sub_mptr rfl | apply sub_agg rfl | apply sub_tup rfl | apply sub_ifc rfl | apply sub_fnc rfl | apply sub_mmap rfl | apply SubK.cons _ _ _ _ rfl)) (by repeat (first | exact blk_nil rfl | apply blk_flat rfl | apply blk_box rfl | apply blk_map rfl | apply blk_dead rfl | rfl)) ?_
          refine twp_region ?_
          refine s_rd _ rfl (arith_ok rfl rfl rfl rfl (by first | omega | (constructor <;> omega))) ?_
          refine s_rd _ rfl (by first | exact mv_d (.inl rfl) rfl | exact mv_msl (.inl rfl) rfl | exact mv_mptr (.inl rfl) rfl | exact mv_agg (.inl rfl) rfl | exact mv_tup (.inl rfl) rfl | exact mv_ifc (.inl rfl) rfl | exact mv_fnc (.inl rfl) rfl | exact mv_mmap (.inl rfl) rfl | exact rd_move (.inl rfl)) ?_
          refine tops_nil ?_
          refine way_then ?_
          exact ⟨(i + 1), [0], by decide, fun i hi => absurd hi (Nat.not_lt_zero i), (by omega), (by omega), (congrArg (fun es => (⟨(fun i => ([(1, .d (.sl 1 (cs.map (D.int .i64)))), (5, .msl 0 3 0 ms.length), (11, .d (.int .i64 ((ms.length : Nat) : Int))), (12, .d (.int .i64 ((i : Nat) : Int)))] : Fr)) (i + 1), [.flat 39 3 es]⟩ : St)) hE)⟩
  · have hlt : ¬ i < ms.length := by simpa using hlt
    have hend : mixI (cmdAt cs) ms i = commands ms cs := mixI_all _ _ (by omega)
    refine twp_exit ?_
    refine way_thenExit ?_
    refine way_thenExit ?_
    refine way_here ?_
    refine way_then ?_
    refine twp_norm [5] (by repeat (first | exact SubK.nil | apply sub_d rfl | apply sub_msl rfl | apply sub_mptr rfl | apply sub_agg rfl | apply sub_tup rfl | apply sub_ifc rfl | apply sub_fnc rfl | apply sub_mmap rfl | apply SubK.cons _ _ _ _ rfl)) (by repeat (first | exact blk_nil rfl | apply blk_flat rfl | apply blk_box rfl | apply blk_map rfl | apply blk_dead rfl | rfl)) ?_
    refine twp_rseq ?_
    refine s_rd _ rfl (by first | exact mv_d (.inl rfl) rfl | exact mv_msl (.inl rfl) rfl | exact mv_mptr (.inl rfl) rfl | exact mv_agg (.inl rfl) rfl | exact mv_tup (.inl rfl) rfl | exact mv_ifc (.inl rfl) rfl | exact mv_fnc (.inl rfl) rfl | exact mv_mmap (.inl rfl) rfl | exact rd_move (.inl rfl)) ?_
    refine s_rd _ rfl (by first | exact mv_d (.inr rfl) rfl | exact mv_msl (.inr rfl) rfl | exact mv_mptr (.inr rfl) rfl | exact mv_agg (.inr rfl) rfl | exact mv_tup (.inr rfl) rfl | exact mv_ifc (.inr rfl) rfl | exact mv_fnc (.inr rfl) rfl | exact mv_mmap (.inr rfl) rfl | exact rd_move (.inr rfl)) ?_
    refine tops_nil ?_
    refine twp_norm [4] (by repeat (first | exact SubK.nil | apply sub_d rfl | apply sub_msl rfl | apply sub_mptr rfl | apply sub_agg rfl | apply sub_tup rfl | apply sub_ifc rfl | apply sub_fnc rfl | apply sub_mmap rfl | apply SubK.cons _ _ _ _ rfl)) (by repeat (first | exact blk_nil rfl | apply blk_flat rfl | apply blk_box rfl | apply blk_map rfl | apply blk_dead rfl | rfl)) ?_
    refine twp_ret ?_
    exact ⟨_, [0], rfl, by decide, fun i hi => absurd hi (Nat.not_lt_zero i), rfl, by rw [hend]; rfl⟩

theorem command_n (ms : List Mach) (cs : List Int) (hn : ms.length ≤ 100000) (hc : cs.length ≤ 9223372036854775807) : RetN Try.prog 10 [.sl 3 (ms.map Mach.enc), .sl 1 (cs.map (D.int .i64))] (.sl 3 ((commands ms cs).map Mach.enc)) :=
  .flat (command_ret ms cs hn hc _) (by simp [commands]) (mem0_map _)

theorem callB11 : callB Try.prog 11 = true := by kernel_rfl

theorem commandR_ret (ms : List Mach) (cs : List Int) (hn : ms.length ≤ 100000) (hc : cs.length ≤ 9223372036854775807) (mv : Nat → Bool) : Ret Try.prog 11 [] mv ([D.sl 3 (ms.map Mach.enc), D.sl 1 (cs.map (D.int .i64))].map .d) (.msl 0 3 0 ms.length) [.flat 39 3 ((commands ms cs).map Mach.enc)] := by
  refine ret_body callB11 Try.func11 rfl Try.ntmps11 rfl rfl (fun wX gX => ?_)
  refine twp_norm [0, 1] (by repeat (first | exact SubK.nil | apply sub_d rfl | apply sub_msl rfl | apply sub_mptr rfl | apply sub_agg rfl | apply sub_tup rfl | apply sub_ifc rfl | apply sub_fnc rfl | apply sub_mmap rfl | apply SubK.cons _ _ _ _ rfl)) (by repeat (first | exact blk_nil rfl | apply blk_flat rfl | apply blk_box rfl | apply blk_map rfl | apply blk_dead rfl | rfl)) ?_
  refine twp_rseq ?_
  refine s_rd _ rfl (by first | exact mv_d (.inr rfl) rfl | exact mv_msl (.inr rfl) rfl | exact mv_mptr (.inr rfl) rfl | exact mv_agg (.inr rfl) rfl | exact mv_tup (.inr rfl) rfl | exact mv_ifc (.inr rfl) rfl | exact mv_fnc (.inr rfl) rfl | exact mv_mmap (.inr rfl) rfl | exact rd_move (.inr rfl)) ?_
  refine tops_nil ?_
  refine twp_norm [0, 1] (by repeat (first | exact SubK.nil | apply sub_d rfl | apply sub_msl rfl | apply sub_mptr rfl | apply sub_agg rfl | apply sub_tup rfl | apply sub_ifc rfl | apply sub_fnc rfl | apply sub_mmap rfl | apply SubK.cons _ _ _ _ rfl)) (by repeat (first | exact blk_nil rfl | apply blk_flat rfl | apply blk_box rfl | apply blk_map rfl | apply blk_dead rfl | rfl)) ?_
  refine twp_rseq ?_
  refine s_assignNil 39 3 rfl rfl ?_
  refine tops_nil ?_
  refine twp_norm [0, 1, 5] (by repeat (first | exact SubK.nil | apply sub_d rfl | apply sub_msl rfl | apply sub_mptr rfl | apply sub_agg rfl | apply sub_tup rfl | apply sub_ifc rfl | apply sub_fnc rfl | apply sub_mmap rfl | apply SubK.cons _ _ _ _ rfl)) (by repeat (first | exact blk_nil rfl | apply blk_flat rfl | apply blk_box rfl | apply blk_map rfl | apply blk_dead rfl | rfl)) ?_
  refine twp_seq ?_
  refine twp_rseq ?_
  refine s_rd _ rfl (by first | exact mv_d (.inr rfl) rfl | exact mv_msl (.inr rfl) rfl | exact mv_mptr (.inr rfl) rfl | exact mv_agg (.inr rfl) rfl | exact mv_tup (.inr rfl) rfl | exact mv_ifc (.inr rfl) rfl | exact mv_fnc (.inr rfl) rfl | exact mv_mmap (.inr rfl) rfl | exact rd_move (.inr rfl)) ?_
  refine tops_nil ?_
  refine twp_norm [0, 1, 5, 6] (by repeat (first | exact SubK.nil | apply sub_d rfl | apply sub_msl rfl | apply sub_mptr rfl | apply sub_agg rfl | apply sub_tup rfl | apply sub_ifc rfl | apply sub_fnc rfl | apply sub_mmap rfl | apply SubK.cons _ _ _ _ rfl)) (by repeat (first | exact blk_nil rfl | apply blk_flat rfl | apply blk_box rfl | apply blk_map rfl | apply blk_dead rfl | rfl)) ?_
  refine twp_block ?_
  refine twp_while (fun i => (⟨[(0, .d (.sl 3 (ms.map Mach.enc))), (1, .d (.sl 1 (cs.map (D.int .i64)))), (5, .msl 0 3 0 i), (6, .d (.int .i64 ((i : Nat) : Int)))], [.flat 39 3 ((pre (cmdAt cs) ms i).map Mach.enc)]⟩ : St)) (fun i => i ≤ ms.length) (fun i => ms.length - i) [0, 1, 5, 6] [0] 0 (by decide) (fun i hi => absurd hi (Nat.not_lt_zero i)) (by simp) rfl ?_
  rintro i hok
  refine twp_norm [0, 1, 5, 6] (by repeat (first | exact SubK.nil | apply sub_d rfl | apply sub_msl rfl | apply sub_mptr rfl | apply sub_agg rfl | apply sub_tup rfl | apply sub_ifc rfl | apply sub_fnc rfl | apply sub_mmap rfl | apply SubK.cons _ _ _ _ rfl)) (by repeat (first | exact blk_nil rfl | apply blk_flat rfl | apply blk_box rfl | apply blk_map rfl | apply blk_dead rfl | rfl)) ?_
  refine twp_seq ?_
  refine twp_rseq ?_
  refine s_rd _ rfl (by first | exact mv_d (.inl rfl) rfl | exact mv_msl (.inl rfl) rfl | exact mv_mptr (.inl rfl) rfl | exact mv_agg (.inl rfl) rfl | exact mv_tup (.inl rfl) rfl | exact mv_ifc (.inl rfl) rfl | exact mv_fnc (.inl rfl) rfl | exact mv_mmap (.inl rfl) rfl | exact rd_move (.inl rfl)) ?_
  refine s_rd _ rfl (by first | exact mv_d (.inl rfl) rfl | exact mv_msl (.inl rfl) rfl | exact mv_mptr (.inl rfl) rfl | exact mv_agg (.inl rfl) rfl | exact mv_tup (.inl rfl) rfl | exact mv_ifc (.inl rfl) rfl | exact mv_fnc (.inl rfl) rfl | exact mv_mmap (.inl rfl) rfl | exact rd_move (.inl rfl)) ?_
  refine s_rd _ rfl (by first | exact len_d rfl sel22 rfl (by first | exact List.length_map _ | rfl) | exact len_msl rfl sel22 rfl | exact len_nil rfl sel22 rfl) ?_
  refine s_rd _ rfl (by first | exact cmp_int rfl rfl rfl rfl | exact cmp_bool rfl rfl rfl rfl) ?_
  refine tops_nil ?_
  refine twp_norm [0, 1, 5, 6, 11] (by repeat (first | exact SubK.nil | apply sub_d rfl | apply sub_msl rfl | apply sub_mptr rfl | apply sub_agg rfl | apply sub_tup rfl | apply sub_ifc rfl | apply sub_fnc rfl | apply sub_mmap rfl | apply SubK.cons _ _ _ _ rfl)) (by repeat (first | exact blk_nil rfl | apply blk_flat rfl | apply blk_box rfl | apply blk_map rfl | apply blk_dead rfl | rfl)) ?_
  refine twp_cond _ rfl (fun hlt => ?_) (fun hlt => ?_)
  · have hlt : i < ms.length := by simpa using hlt
    obtain ⟨m, hm⟩ : ∃ m, ms[i]? = some m := ⟨_, List.getElem?_eq_getElem hlt⟩
    refine twp_skip ?_
    refine way_then ?_
    refine twp_norm [0, 1, 5, 6] (by repeat (first | exact SubK.nil | apply sub_d rfl | apply sub_msl rfl | apply sub_mptr rfl | apply sub_agg rfl | apply sub_tup rfl | apply sub_ifc rfl | apply sub_fnc rfl | apply sub_mmap rfl | apply SubK.cons _ _ _ _ rfl)) (by repeat (first | exact blk_nil rfl | apply blk_flat rfl | apply blk_box rfl | apply blk_map rfl | apply blk_dead rfl | rfl)) ?_
    refine twp_seq ?_
    refine twp_block ?_
    refine twp_rseq ?_
    refine s_rd _ rfl (by first | exact mv_d (.inl rfl) rfl | exact mv_msl (.inl rfl) rfl | exact mv_mptr (.inl rfl) rfl | exact mv_agg (.inl rfl) rfl | exact mv_tup (.inl rfl) rfl | exact mv_ifc (.inl rfl) rfl | exact mv_fnc (.inl rfl) rfl | exact mv_mmap (.inl rfl) rfl | exact rd_move (.inl rfl)) ?_
    refine s_rd _ rfl (by first | exact mv_d (.inl rfl) rfl | exact mv_msl (.inl rfl) rfl | exact mv_mptr (.inl rfl) rfl | exact mv_agg (.inl rfl) rfl | exact mv_tup (.inl rfl) rfl | exact mv_ifc (.inl rfl) rfl | exact mv_fnc (.inl rfl) rfl | exact mv_mmap (.inl rfl) rfl | exact rd_move (.inl rfl)) ?_
    refine s_rd _ rfl (by first | exact index_msl0 rfl sel22 rfl rfl (by first | assumption | omega | (simp; omega)) | exact index_sl rfl sel22 rfl rfl (by first | exact ⟨by omega, by assumption⟩ | exact idx_map (by assumption) | exact idx_id (by assumption))) ?_
    refine s_rd _ rfl (by first | exact load_ptrW rfl lay39 rfl rfl rfl | exact load_flatW rfl lay39 rfl rfl (by first | rfl | assumption | (simp only [List.getElem?_map, Option.map_some, *]; done)) rfl rfl | exact load_boxA_d rfl lay39 rfl rfl (Nat.le_of_ble_eq_true rfl) rfl | exact load_boxA rfl lay39 rfl rfl (Nat.le_of_ble_eq_true rfl) rfl | exact load_ptrA rfl lay39 rfl (Nat.le_of_ble_eq_true rfl) rfl) ?_
    refine s_alloc rfl zero39 rfl rfl ?_
    first
      | refine s_store_box lay39 rfl rfl rfl rfl rfl (Nat.le_of_ble_eq_true rfl) rfl ?_
      | refine s_store_flat lay39 rfl rfl rfl rfl (by first | rfl | assumption | (simp only [List.getElem?_map, Option.map_some, *]; done)) (by first | exact .inl rfl | exact .inr rfl) (Nat.le_of_ble_eq_true rfl) rfl ?_
    refine tops_nil ?_
    refine twp_norm [0, 1, 5, 6, 7] (by repeat (first | exact SubK.nil | apply sub_d rfl | apply sub_msl rfl | apply sub_mptr rfl | apply sub_agg rfl | apply sub_tup rfl | apply sub_ifc rfl | apply sub_fnc rfl | apply sub_mmap rfl | apply SubK.cons _ _ _ _ rfl)) (by repeat (first | exact blk_nil rfl | apply blk_flat rfl | apply blk_box rfl | apply blk_map rfl | apply blk_dead rfl | rfl)) ?_
    refine twp_seq ?_
    refine twp_dseq follows  ?_
    refine d_rd [] _ rfl rfl (by first | exact mv_d (.inl rfl) rfl | exact mv_msl (.inl rfl) rfl | exact mv_mptr (.inl rfl) rfl | exact mv_agg (.inl rfl) rfl | exact mv_tup (.inl rfl) rfl | exact mv_ifc (.inl rfl) rfl | exact mv_fnc (.inl rfl) rfl | exact mv_mmap (.inl rfl) rfl | exact rd_move (.inl rfl)) ?_
    refine d_rd [] _ rfl rfl (by first | exact mv_d (.inl rfl) rfl | exact mv_msl (.inl rfl) rfl | exact mv_mptr (.inl rfl) rfl | exact mv_agg (.inl rfl) rfl | exact mv_tup (.inl rfl) rfl | exact mv_ifc (.inl rfl) rfl | exact mv_fnc (.inl rfl) rfl | exact mv_mmap (.inl rfl) rfl | exact rd_move (.inl rfl)) ?_
    first | refine d_rd [] _ rfl rfl (by first | exact len_d rfl sel23 rfl (by first | exact List.length_map _ | rfl) | exact len_msl rfl sel23 rfl | exact len_nil rfl sel23 rfl) ?_ | refine d_rd [1] _ rfl rfl (by first | exact len_d rfl sel23 rfl (by first | exact List.length_map _ | rfl) | exact len_msl rfl sel23 rfl | exact len_nil rfl sel23 rfl) ?_
    refine d_rd [] _ rfl rfl (by first | exact cmp_int rfl rfl rfl rfl | exact cmp_bool rfl rfl rfl rfl) ?_
    refine d_rd [] _ rfl rfl (by first | exact mv_d (.inl rfl) rfl | exact mv_msl (.inl rfl) rfl | exact mv_mptr (.inl rfl) rfl | exact mv_agg (.inl rfl) rfl | exact mv_tup (.inl rfl) rfl | exact mv_ifc (.inl rfl) rfl | exact mv_fnc (.inl rfl) rfl | exact mv_mmap (.inl rfl) rfl | exact rd_move (.inl rfl)) ?_
    refine d_split 22 rfl (fun d1 => ?_) (fun d1 => ?_)
    · have d1' : i < cs.length := by simpa using d1
      obtain ⟨c, hcc⟩ : ∃ c, cs[i]? = some c := ⟨_, List.getElem?_eq_getElem d1'⟩
      refine d_rd [] _ rfl (on_yes rfl rfl rfl d1) (by first | exact mv_d (.inl rfl) rfl | exact mv_msl (.inl rfl) rfl | exact mv_mptr (.inl rfl) rfl | exact mv_agg (.inl rfl) rfl | exact mv_tup (.inl rfl) rfl | exact mv_ifc (.inl rfl) rfl | exact mv_fnc (.inl rfl) rfl | exact mv_mmap (.inl rfl) rfl | exact rd_move (.inl rfl)) ?_
      refine d_rd [] _ rfl (on_yes rfl rfl rfl d1) (by first | exact mv_d (.inl rfl) rfl | exact mv_msl (.inl rfl) rfl | exact mv_mptr (.inl rfl) rfl | exact mv_agg (.inl rfl) rfl | exact mv_tup (.inl rfl) rfl | exact mv_ifc (.inl rfl) rfl | exact mv_fnc (.inl rfl) rfl | exact mv_mmap (.inl rfl) rfl | exact rd_move (.inl rfl)) ?_
      refine d_rd [] _ rfl (on_yes rfl rfl rfl d1) (by first | exact index_msl0 rfl sel23 rfl rfl (by first | assumption | omega | (simp; omega)) | exact index_sl rfl sel23 rfl rfl (by first | exact ⟨by omega, by assumption⟩ | exact idx_map (by assumption) | exact idx_id (by assumption))) ?_
      first | refine d_rd [] _ rfl (on_yes rfl rfl rfl d1) (by first | exact load_ptr rfl lay3 rfl rfl | exact load_flat rfl lay3 rfl rfl (by first | rfl | assumption | (simp only [List.getElem?_map, Option.map_some, *]; done)) rfl | exact load_box_d rfl lay3 rfl rfl rfl | exact load_box rfl lay3 rfl rfl rfl) ?_ | refine d_rd [1] _ rfl (on_yes rfl rfl rfl d1) (by first | exact load_ptr rfl lay3 rfl rfl | exact load_flat rfl lay3 rfl rfl (by first | rfl | assumption | (simp only [List.getElem?_map, Option.map_some, *]; done)) rfl | exact load_box_d rfl lay3 rfl rfl rfl | exact load_box rfl lay3 rfl rfl rfl) ?_
      refine d_rd [] _ rfl (on_yes rfl rfl rfl d1) (by first | exact cmp_int rfl rfl rfl rfl | exact cmp_bool rfl rfl rfl rfl) ?_
      refine d_rd [] _ rfl (on_yes rfl rfl rfl d1) (by first | exact mv_d (.inl rfl) rfl | exact mv_msl (.inl rfl) rfl | exact mv_mptr (.inl rfl) rfl | exact mv_agg (.inl rfl) rfl | exact mv_tup (.inl rfl) rfl | exact mv_ifc (.inl rfl) rfl | exact mv_fnc (.inl rfl) rfl | exact mv_mmap (.inl rfl) rfl | exact rd_move (.inl rfl)) ?_
      refine d_split 28 rfl (fun d2 => ?_) (fun d2 => ?_)
      · have e1 : c = 1 := of_decide_eq_true d2
        refine d_skip rfl (on_no rfl rfl rfl d2) ?_
        refine d_skip rfl (on_no rfl rfl rfl d2) ?_
        refine d_skip rfl (on_no rfl rfl rfl d2) ?_
        refine d_skip rfl (on_no rfl rfl rfl d2) ?_
        refine d_skip rfl (on_no rfl rfl rfl d2) ?_
        refine d_rd [] _ rfl (on_yes rfl rfl rfl d1) (pickh_T rfl rfl d2 rfl) ?_
        refine d_rd [] _ rfl rfl (pickh_T rfl rfl d1 rfl) ?_
        refine d_rd [] _ rfl rfl (by first | exact mv_d (.inl rfl) rfl | exact mv_msl (.inl rfl) rfl | exact mv_mptr (.inl rfl) rfl | exact mv_agg (.inl rfl) rfl | exact mv_tup (.inl rfl) rfl | exact mv_ifc (.inl rfl) rfl | exact mv_fnc (.inl rfl) rfl | exact mv_mmap (.inl rfl) rfl | exact rd_move (.inl rfl)) ?_
        refine d_rd [] _ rfl (on_yes rfl rfl rfl rfl) (by first | exact mv_d (.inl rfl) rfl | exact mv_msl (.inl rfl) rfl | exact mv_mptr (.inl rfl) rfl | exact mv_agg (.inl rfl) rfl | exact mv_tup (.inl rfl) rfl | exact mv_ifc (.inl rfl) rfl | exact mv_fnc (.inl rfl) rfl | exact mv_mmap (.inl rfl) rfl | exact rd_move (.inl rfl)) ?_
        refine d_rd [] _ rfl (on_yes rfl rfl rfl rfl) (by first | exact mv_d (.inl rfl) rfl | exact mv_msl (.inl rfl) rfl | exact mv_mptr (.inl rfl) rfl | exact mv_agg (.inl rfl) rfl | exact mv_tup (.inl rfl) rfl | exact mv_ifc (.inl rfl) rfl | exact mv_fnc (.inl rfl) rfl | exact mv_mmap (.inl rfl) rfl | exact rd_move (.inl rfl)) ?_
        refine d_rd [] _ rfl (on_yes rfl rfl rfl rfl) (by first | exact index_msl0 rfl sel23 rfl rfl (by first | assumption | omega | (simp; omega)) | exact index_sl rfl sel23 rfl rfl (by first | exact ⟨by omega, by assumption⟩ | exact idx_map (by assumption) | exact idx_id (by assumption))) ?_
        first | refine d_rd [] _ rfl (on_yes rfl rfl rfl rfl) (by first | exact load_ptr rfl lay3 rfl rfl | exact load_flat rfl lay3 rfl rfl (by first | rfl | assumption | (simp only [List.getElem?_map, Option.map_some, *]; done)) rfl | exact load_box_d rfl lay3 rfl rfl rfl | exact load_box rfl lay3 rfl rfl rfl) ?_ | refine d_rd [1] _ rfl (on_yes rfl rfl rfl rfl) (by first | exact load_ptr rfl lay3 rfl rfl | exact load_flat rfl lay3 rfl rfl (by first | rfl | assumption | (simp only [List.getElem?_map, Option.map_some, *]; done)) rfl | exact load_box_d rfl lay3 rfl rfl rfl | exact load_box rfl lay3 rfl rfl rfl) ?_
        refine d_rd [] _ rfl (on_yes rfl rfl rfl rfl) (by first | exact fieldAddr_ptr rfl fld39_1 rfl rfl | exact fieldAddr_mptr rfl fld39_1 rfl rfl) ?_
        first | refine d_rd [] _ rfl (on_yes rfl rfl rfl rfl) (by first | exact load_ptr rfl lay3 rfl rfl | exact load_flat rfl lay3 rfl rfl (by first | rfl | assumption | (simp only [List.getElem?_map, Option.map_some, *]; done)) rfl | exact load_box_d rfl lay3 rfl rfl rfl | exact load_box rfl lay3 rfl rfl rfl) ?_ | refine d_rd [1] _ rfl (on_yes rfl rfl rfl rfl) (by first | exact load_ptr rfl lay3 rfl rfl | exact load_flat rfl lay3 rfl rfl (by first | rfl | assumption | (simp only [List.getElem?_map, Option.map_some, *]; done)) rfl | exact load_box_d rfl lay3 rfl rfl rfl | exact load_box rfl lay3 rfl rfl rfl) ?_
        refine d_rd [] _ rfl (on_yes rfl rfl rfl rfl) (by first | exact cmp_int rfl rfl rfl rfl | exact cmp_bool rfl rfl rfl rfl) ?_
        refine d_rd [] _ rfl rfl (by first | exact pick_Td rfl rfl rfl | exact pick_Fd rfl rfl rfl | exact rd_pickBool _ _ _ rfl rfl rfl rfl | exact pick_T rfl rfl rfl | exact pick_F rfl rfl rfl) ?_
        refine d_tail ?_ (by kernel_rfl)
        refine tops_nil ?_
        refine twp_norm [0, 1, 5, 6, 7, 44] (by repeat (first | exact SubK.nil | apply sub_d rfl | apply sub_msl rfl | apply sub_mptr rfl | apply sub_agg rfl | apply sub_tup rfl | apply sub_ifc rfl | apply sub_fnc rfl | apply sub_mmap rfl | apply SubK.cons _ _ _ _ rfl)) (by repeat (first | exact blk_nil rfl | apply blk_flat rfl | apply blk_box rfl | apply blk_map rfl | apply blk_dead rfl | rfl)) ?_
        refine twp_cond _ rfl (fun e3 => ?_) (fun e3 => ?_)
        · have e3 : ¬ c = m.goal := by simpa using e3
          have h12 : c = 1 ∨ c = 2 := by omega
          have hs : cmdAt cs i m = ⟨0, c, 3⟩ := by simp [cmdAt, hcc, commandM, e3, h12]
          refine twp_region ?_
          refine s_rd _ rfl (by first | exact mv_d (.inl rfl) rfl | exact mv_msl (.inl rfl) rfl | exact mv_mptr (.inl rfl) rfl | exact mv_agg (.inl rfl) rfl | exact mv_tup (.inl rfl) rfl | exact mv_ifc (.inl rfl) rfl | exact mv_fnc (.inl rfl) rfl | exact mv_mmap (.inl rfl) rfl | exact rd_move (.inl rfl)) ?_
          refine s_rd _ rfl (by first | exact mv_d (.inl rfl) rfl | exact mv_msl (.inl rfl) rfl | exact mv_mptr (.inl rfl) rfl | exact mv_agg (.inl rfl) rfl | exact mv_tup (.inl rfl) rfl | exact mv_ifc (.inl rfl) rfl | exact mv_fnc (.inl rfl) rfl | exact mv_mmap (.inl rfl) rfl | exact rd_move (.inl rfl)) ?_
          refine s_rd _ rfl (by first | exact index_msl0 rfl sel23 rfl rfl (by first | assumption | omega | (simp; omega)) | exact index_sl rfl sel23 rfl rfl (by first | exact ⟨by omega, by assumption⟩ | exact idx_map (by assumption) | exact idx_id (by assumption))) ?_
          refine s_rd _ rfl (by first | exact load_ptr rfl lay3 rfl rfl | exact load_flat rfl lay3 rfl rfl (by first | rfl | assumption | (simp only [List.getElem?_map, Option.map_some, *]; done)) rfl | exact load_box_d rfl lay3 rfl rfl rfl | exact load_box rfl lay3 rfl rfl rfl) ?_
          refine s_rd _ rfl (by first | exact build_d rfl plc39 zero39 rfl rfl rfl rfl | exact rd_build rfl plc39 zero39 rfl rfl rfl rfl) ?_
          first
            | refine s_store_box lay39 rfl rfl rfl rfl rfl (Nat.le_of_ble_eq_true rfl) rfl ?_
            | refine s_store_flat lay39 rfl rfl rfl rfl (by first | rfl | assumption | (simp only [List.getElem?_map, Option.map_some, *]; done)) (by first | exact .inl rfl | exact .inr rfl) (Nat.le_of_ble_eq_true rfl) rfl ?_
          refine tops_nil ?_
          refine way_then ?_
          refine twp_norm [0, 1, 5, 6, 7] (by repeat (first | exact SubK.nil | apply sub_d rfl | apply sub_msl rfl | apply sub_mptr rfl | apply sub_agg rfl | apply sub_tup rfl | apply sub_ifc rfl | apply sub_fnc rfl | apply sub_mmap rfl | apply SubK.cons _ _ _ _ rfl)) (by repeat (first | exact blk_nil rfl | apply blk_flat rfl | apply blk_box rfl | apply blk_map rfl | apply blk_dead rfl | rfl)) ?_
          refine twp_region ?_
          refine s_rd _ rfl (by first | exact mv_d (.inl rfl) rfl | exact mv_msl (.inl rfl) rfl | exact mv_mptr (.inl rfl) rfl | exact mv_agg (.inl rfl) rfl | exact mv_tup (.inl rfl) rfl | exact mv_ifc (.inl rfl) rfl | exact mv_fnc (.inl rfl) rfl | exact mv_mmap (.inl rfl) rfl | exact rd_move (.inl rfl)) ?_
          refine s_rd _ rfl (by first | exact load_ptrW rfl lay39 rfl rfl rfl | exact load_flatW rfl lay39 rfl rfl (by first | rfl | assumption | (simp only [List.getElem?_map, Option.map_some, *]; done)) rfl rfl | exact load_boxA_d rfl lay39 rfl rfl (Nat.le_of_ble_eq_true rfl) rfl | exact load_boxA rfl lay39 rfl rfl (Nat.le_of_ble_eq_true rfl) rfl | exact load_ptrA rfl lay39 rfl (Nat.le_of_ble_eq_true rfl) rfl) ?_
          refine s_litD [.tmp 51] rfl sel22 zero39 rfl rfl rfl rfl rfl ?_
          refine s_push rfl sel22 zero39 rfl rfl rfl (fun h => absurd h (Nat.not_lt_zero _)) rfl rfl (by simp [pre_length _ _ (Nat.le_of_lt hlt)]) (pre_snoc' _ _ hm (by show Mach.enc (cmdAt cs i m) = _; rw [hs]; rfl)) (by omega) ?_
          refine s_rd _ rfl (by first | exact mv_d (.inr rfl) rfl | exact mv_msl (.inr rfl) rfl | exact mv_mptr (.inr rfl) rfl | exact mv_agg (.inr rfl) rfl | exact mv_tup (.inr rfl) rfl | exact mv_ifc (.inr rfl) rfl | exact mv_fnc (.inr rfl) rfl | exact mv_mmap (.inr rfl) rfl | exact rd_move (.inr rfl)) ?_
          refine tops_nil ?_
          refine way_block ?_
          refine way_then ?_
          refine twp_norm [0, 1, 5, 6] (by repeat (first | exact SubK.nil | apply sub_d rfl | apply sub_msl rfl | apply sub_mptr rfl | apply sub_agg rfl | apply sub_tup rfl | apply sub_ifc rfl | apply sub_fnc rfl | apply sub_mmap rfl | apply SubK.cons _ _ _ _ rfl)) (by repeat (first | exact blk_nil rfl | apply blk_flat rfl | apply blk_box rfl | apply blk_map rfl | apply blk_dead rfl | rfl)) ?_
          refine twp_region ?_
          refine s_rd _ rfl (by first | exact mv_d (.inl rfl) rfl | exact mv_msl (.inl rfl) rfl | exact mv_mptr (.inl rfl) rfl | exact mv_agg (.inl rfl) rfl | exact mv_tup (.inl rfl) rfl | exact mv_ifc (.inl rfl) rfl | exact mv_fnc (.inl rfl) rfl | exact mv_mmap (.inl rfl) rfl | exact rd_move (.inl rfl)) ?_
          refine s_rd _ rfl (arith_ok rfl rfl rfl rfl (by first | omega | (constructor <;> omega))) ?_
          refine s_rd _ rfl (by first | exact mv_d (.inr rfl) rfl | exact mv_msl (.inr rfl) rfl | exact mv_mptr (.inr rfl) rfl | exact mv_agg (.inr rfl) rfl | exact mv_tup (.inr rfl) rfl | exact mv_ifc (.inr rfl) rfl | exact mv_fnc (.inr rfl) rfl | exact mv_mmap (.inr rfl) rfl | exact rd_move (.inr rfl)) ?_
          refine tops_nil ?_
          refine way_then ?_
          exact ⟨(i + 1), [0], by decide, fun i hi => absurd hi (Nat.not_lt_zero i), (by omega), (by omega), rfl⟩
        · have e3 : c = m.goal := by simpa using e3
          have hs : cmdAt cs i m = m := by simp [cmdAt, hcc, commandM, e3]
          refine twp_skip ?_
          refine way_then ?_
          refine twp_norm [0, 1, 5, 6, 7] (by repeat (first | exact SubK.nil | apply sub_d rfl | apply sub_msl rfl | apply sub_mptr rfl | apply sub_agg rfl | apply sub_tup rfl | apply sub_ifc rfl | apply sub_fnc rfl | apply sub_mmap rfl | apply SubK.cons _ _ _ _ rfl)) (by repeat (first | exact blk_nil rfl | apply blk_flat rfl | apply blk_box rfl | apply blk_map rfl | apply blk_dead rfl | rfl)) ?_
          refine twp_region ?_
          refine s_rd _ rfl (by first | exact mv_d (.inl rfl) rfl | exact mv_msl (.inl rfl) rfl | exact mv_mptr (.inl rfl) rfl | exact mv_agg (.inl rfl) rfl | exact mv_tup (.inl rfl) rfl | exact mv_ifc (.inl rfl) rfl | exact mv_fnc (.inl rfl) rfl | exact mv_mmap (.inl rfl) rfl | exact rd_move (.inl rfl)) ?_
          refine s_rd _ rfl (by first | exact load_ptrW rfl lay39 rfl rfl rfl | exact load_flatW rfl lay39 rfl rfl (by first | rfl | assumption | (simp only [List.getElem?_map, Option.map_some, *]; done)) rfl rfl | exact load_boxA_d rfl lay39 rfl rfl (Nat.le_of_ble_eq_true rfl) rfl | exact load_boxA rfl lay39 rfl rfl (Nat.le_of_ble_eq_true rfl) rfl | exact load_ptrA rfl lay39 rfl (Nat.le_of_ble_eq_true rfl) rfl) ?_
          refine s_litD [.tmp 51] rfl sel22 zero39 rfl rfl rfl rfl rfl ?_
          refine s_push rfl sel22 zero39 rfl rfl rfl (fun h => absurd h (Nat.not_lt_zero _)) rfl rfl (by simp [pre_length _ _ (Nat.le_of_lt hlt)]) (pre_snoc' _ _ hm (by show Mach.enc (cmdAt cs i m) = _; rw [hs]; rfl)) (by omega) ?_
          refine s_rd _ rfl (by first | exact mv_d (.inr rfl) rfl | exact mv_msl (.inr rfl) rfl | exact mv_mptr (.inr rfl) rfl | exact mv_agg (.inr rfl) rfl | exact mv_tup (.inr rfl) rfl | exact mv_ifc (.inr rfl) rfl | exact mv_fnc (.inr rfl) rfl | exact mv_mmap (.inr rfl) rfl | exact rd_move (.inr rfl)) ?_
          refine tops_nil ?_
          refine way_block ?_
          refine way_then ?_
          refine twp_norm [0, 1, 5, 6] (by repeat (first | exact SubK.nil | apply sub_d rfl | apply sub_msl rfl | apply sub_mptr rfl | apply sub_agg rfl | apply sub_tup rfl | apply sub_ifc rfl | apply sub_fnc rfl | apply sub_mmap rfl | apply SubK.cons _ _ _ _ rfl)) (by repeat (first | exact blk_nil rfl | apply blk_flat rfl | apply blk_box rfl | apply blk_map rfl | apply blk_dead rfl | rfl)) ?_
          refine twp_region ?_
          refine s_rd _ rfl (by first | exact mv_d (.inl rfl) rfl | exact mv_msl (.inl rfl) rfl | exact mv_mptr (.inl rfl) rfl | exact mv_agg (.inl rfl) rfl | exact mv_tup (.inl rfl) rfl | exact mv_ifc (.inl rfl) rfl | exact mv_fnc (.inl rfl) rfl | exact mv_mmap (.inl rfl) rfl | exact rd_move (.inl rfl)) ?_
          refine s_rd _ rfl (arith_ok rfl rfl rfl rfl (by first | omega | (constructor <;> omega))) ?_
          refine s_rd _ rfl (by first | exact mv_d (.inr rfl) rfl | exact mv_msl (.inr rfl) rfl | exact mv_mptr (.inr rfl) rfl | exact mv_agg (.inr rfl) rfl | exact mv_tup (.inr rfl) rfl | exact mv_ifc (.inr rfl) rfl | exact mv_fnc (.inr rfl) rfl | exact mv_mmap (.inr rfl) rfl | exact rd_move (.inr rfl)) ?_
          refine tops_nil ?_
          refine way_then ?_
          exact ⟨(i + 1), [0], by decide, fun i hi => absurd hi (Nat.not_lt_zero i), (by omega), (by omega), rfl⟩
      · have e1 : ¬ c = 1 := of_decide_eq_false d2
        refine d_rd [] _ rfl (on_yes rfl rfl rfl d2) (by first | exact mv_d (.inl rfl) rfl | exact mv_msl (.inl rfl) rfl | exact mv_mptr (.inl rfl) rfl | exact mv_agg (.inl rfl) rfl | exact mv_tup (.inl rfl) rfl | exact mv_ifc (.inl rfl) rfl | exact mv_fnc (.inl rfl) rfl | exact mv_mmap (.inl rfl) rfl | exact rd_move (.inl rfl)) ?_
        refine d_rd [] _ rfl (on_yes rfl rfl rfl d2) (by first | exact mv_d (.inl rfl) rfl | exact mv_msl (.inl rfl) rfl | exact mv_mptr (.inl rfl) rfl | exact mv_agg (.inl rfl) rfl | exact mv_tup (.inl rfl) rfl | exact mv_ifc (.inl rfl) rfl | exact mv_fnc (.inl rfl) rfl | exact mv_mmap (.inl rfl) rfl | exact rd_move (.inl rfl)) ?_
        refine d_rd [] _ rfl (on_yes rfl rfl rfl d2) (by first | exact index_msl0 rfl sel23 rfl rfl (by first | assumption | omega | (simp; omega)) | exact index_sl rfl sel23 rfl rfl (by first | exact ⟨by omega, by assumption⟩ | exact idx_map (by assumption) | exact idx_id (by assumption))) ?_
        first | refine d_rd [] _ rfl (on_yes rfl rfl rfl d2) (by first | exact load_ptr rfl lay3 rfl rfl | exact load_flat rfl lay3 rfl rfl (by first | rfl | assumption | (simp only [List.getElem?_map, Option.map_some, *]; done)) rfl | exact load_box_d rfl lay3 rfl rfl rfl | exact load_box rfl lay3 rfl rfl rfl) ?_ | refine d_rd [1] _ rfl (on_yes rfl rfl rfl d2) (by first | exact load_ptr rfl lay3 rfl rfl | exact load_flat rfl lay3 rfl rfl (by first | rfl | assumption | (simp only [List.getElem?_map, Option.map_some, *]; done)) rfl | exact load_box_d rfl lay3 rfl rfl rfl | exact load_box rfl lay3 rfl rfl rfl) ?_
        refine d_rd [] _ rfl (on_yes rfl rfl rfl d2) (by first | exact cmp_int rfl rfl rfl rfl | exact cmp_bool rfl rfl rfl rfl) ?_
        refine d_rd [] _ rfl (on_yes rfl rfl rfl d1) (pickh_F rfl rfl d2 rfl) ?_
        refine d_rd [] _ rfl rfl (pickh_T rfl rfl d1 rfl) ?_
        refine d_rd [] _ rfl rfl (by first | exact mv_d (.inl rfl) rfl | exact mv_msl (.inl rfl) rfl | exact mv_mptr (.inl rfl) rfl | exact mv_agg (.inl rfl) rfl | exact mv_tup (.inl rfl) rfl | exact mv_ifc (.inl rfl) rfl | exact mv_fnc (.inl rfl) rfl | exact mv_mmap (.inl rfl) rfl | exact rd_move (.inl rfl)) ?_
        refine d_split 36 rfl (fun d3 => ?_) (fun d3 => ?_)
        · have e2 : c = 2 := of_decide_eq_true d3
          refine d_rd [] _ rfl (on_yes rfl rfl rfl d3) (by first | exact mv_d (.inl rfl) rfl | exact mv_msl (.inl rfl) rfl | exact mv_mptr (.inl rfl) rfl | exact mv_agg (.inl rfl) rfl | exact mv_tup (.inl rfl) rfl | exact mv_ifc (.inl rfl) rfl | exact mv_fnc (.inl rfl) rfl | exact mv_mmap (.inl rfl) rfl | exact rd_move (.inl rfl)) ?_
          refine d_rd [] _ rfl (on_yes rfl rfl rfl d3) (by first | exact mv_d (.inl rfl) rfl | exact mv_msl (.inl rfl) rfl | exact mv_mptr (.inl rfl) rfl | exact mv_agg (.inl rfl) rfl | exact mv_tup (.inl rfl) rfl | exact mv_ifc (.inl rfl) rfl | exact mv_fnc (.inl rfl) rfl | exact mv_mmap (.inl rfl) rfl | exact rd_move (.inl rfl)) ?_
          refine d_rd [] _ rfl (on_yes rfl rfl rfl d3) (by first | exact index_msl0 rfl sel23 rfl rfl (by first | assumption | omega | (simp; omega)) | exact index_sl rfl sel23 rfl rfl (by first | exact ⟨by omega, by assumption⟩ | exact idx_map (by assumption) | exact idx_id (by assumption))) ?_
          first | refine d_rd [] _ rfl (on_yes rfl rfl rfl d3) (by first | exact load_ptr rfl lay3 rfl rfl | exact load_flat rfl lay3 rfl rfl (by first | rfl | assumption | (simp only [List.getElem?_map, Option.map_some, *]; done)) rfl | exact load_box_d rfl lay3 rfl rfl rfl | exact load_box rfl lay3 rfl rfl rfl) ?_ | refine d_rd [1] _ rfl (on_yes rfl rfl rfl d3) (by first | exact load_ptr rfl lay3 rfl rfl | exact load_flat rfl lay3 rfl rfl (by first | rfl | assumption | (simp only [List.getElem?_map, Option.map_some, *]; done)) rfl | exact load_box_d rfl lay3 rfl rfl rfl | exact load_box rfl lay3 rfl rfl rfl) ?_
          refine d_rd [] _ rfl (on_yes rfl rfl rfl d3) (by first | exact fieldAddr_ptr rfl fld39_1 rfl rfl | exact fieldAddr_mptr rfl fld39_1 rfl rfl) ?_
          first | refine d_rd [] _ rfl (on_yes rfl rfl rfl d3) (by first | exact load_ptr rfl lay3 rfl rfl | exact load_flat rfl lay3 rfl rfl (by first | rfl | assumption | (simp only [List.getElem?_map, Option.map_some, *]; done)) rfl | exact load_box_d rfl lay3 rfl rfl rfl | exact load_box rfl lay3 rfl rfl rfl) ?_ | refine d_rd [1] _ rfl (on_yes rfl rfl rfl d3) (by first | exact load_ptr rfl lay3 rfl rfl | exact load_flat rfl lay3 rfl rfl (by first | rfl | assumption | (simp only [List.getElem?_map, Option.map_some, *]; done)) rfl | exact load_box_d rfl lay3 rfl rfl rfl | exact load_box rfl lay3 rfl rfl rfl) ?_
          refine d_rd [] _ rfl (on_yes rfl rfl rfl d3) (by first | exact cmp_int rfl rfl rfl rfl | exact cmp_bool rfl rfl rfl rfl) ?_
          refine d_rd [] _ rfl rfl (pickh_T rfl rfl d3 rfl) ?_
          refine d_tail ?_ (by kernel_rfl)
          refine tops_nil ?_
          refine twp_norm [0, 1, 5, 6, 7, 44] (by repeat (first | exact SubK.nil | apply sub_d rfl | apply sub_msl rfl | apply sub_mptr rfl | apply sub_agg rfl | apply sub_tup rfl | apply sub_ifc rfl | apply sub_fnc rfl | apply sub_mmap rfl | apply SubK.cons _ _ _ _ rfl)) (by repeat (first | exact blk_nil rfl | apply blk_flat rfl | apply blk_box rfl | apply blk_map rfl | apply blk_dead rfl | rfl)) ?_
          refine twp_cond _ rfl (fun e3 => ?_) (fun e3 => ?_)
          · have e3 : ¬ c = m.goal := by simpa using e3
            have h12 : c = 1 ∨ c = 2 := by omega
            have hs : cmdAt cs i m = ⟨0, c, 3⟩ := by simp [cmdAt, hcc, commandM, e3, h12]
            refine twp_region ?_
            refine s_rd _ rfl (by first | exact mv_d (.inl rfl) rfl | exact mv_msl (.inl rfl) rfl | exact mv_mptr (.inl rfl) rfl | exact mv_agg (.inl rfl) rfl | exact mv_tup (.inl rfl) rfl | exact mv_ifc (.inl rfl) rfl | exact mv_fnc (.inl rfl) rfl | exact mv_mmap (.inl rfl) rfl | exact rd_move (.inl rfl)) ?_
            refine s_rd _ rfl (by first | exact mv_d (.inl rfl) rfl | exact mv_msl (.inl rfl) rfl | exact mv_mptr (.inl rfl) rfl | exact mv_agg (.inl rfl) rfl | exact mv_tup (.inl rfl) rfl | exact mv_ifc (.inl rfl) rfl | exact mv_fnc (.inl rfl) rfl | exact mv_mmap (.inl rfl) rfl | exact rd_move (.inl rfl)) ?_
            refine s_rd _ rfl (by first | exact index_msl0 rfl sel23 rfl rfl (by first | assumption | omega | (simp; omega)) | exact index_sl rfl sel23 rfl rfl (by first | exact ⟨by omega, by assumption⟩ | exact idx_map (by assumption) | exact idx_id (by assumption))) ?_
            refine s_rd _ rfl (by first | exact load_ptr rfl lay3 rfl rfl | exact load_flat rfl lay3 rfl rfl (by first | rfl | assumption | (simp only [List.getElem?_map, Option.map_some, *]; done)) rfl | exact load_box_d rfl lay3 rfl rfl rfl | exact load_box rfl lay3 rfl rfl rfl) ?_
            refine s_rd _ rfl (by first | exact build_d rfl plc39 zero39 rfl rfl rfl rfl | exact rd_build rfl plc39 zero39 rfl rfl rfl rfl) ?_
            first
              | refine s_store_box lay39 rfl rfl rfl rfl rfl (Nat.le_of_ble_eq_true rfl) rfl ?_
              | refine s_store_flat lay39 rfl rfl rfl rfl (by first | rfl | assumption | (simp only [List.getElem?_map, Option.map_some, *]; done)) (by first | exact .inl rfl | exact .inr rfl) (Nat.le_of_ble_eq_true rfl) rfl ?_
            refine tops_nil ?_
            refine way_then ?_
            refine twp_norm [0, 1, 5, 6, 7] (by repeat (first | exact SubK.nil | apply sub_d rfl | apply sub_msl rfl | apply sub_mptr rfl | apply sub_agg rfl | apply sub_tup rfl | apply sub_ifc rfl | apply sub_fnc rfl | apply sub_mmap rfl | apply SubK.cons _ _ _ _ rfl)) (by repeat (first | exact blk_nil rfl | apply blk_flat rfl | apply blk_box rfl | apply blk_map rfl | apply blk_dead rfl | rfl)) ?_
            refine twp_region ?_
            refine s_rd _ rfl (by first | exact mv_d (.inl rfl) rfl | exact mv_msl (.inl rfl) rfl | exact mv_mptr (.inl rfl) rfl | exact mv_agg (.inl rfl) rfl | exact mv_tup (.inl rfl) rfl | exact mv_ifc (.inl rfl) rfl | exact mv_fnc (.inl rfl) rfl | exact mv_mmap (.inl rfl) rfl | exact rd_move (.inl rfl)) ?_
            refine s_rd _ rfl (by first | exact load_ptrW rfl lay39 rfl rfl rfl | exact load_flatW rfl lay39 rfl rfl (by first | rfl | assumption | (simp only [List.getElem?_map, Option.map_some, *]; done)) rfl rfl | exact load_boxA_d rfl lay39 rfl rfl (Nat.le_of_ble_eq_true rfl) rfl | exact load_boxA rfl lay39 rfl rfl (Nat.le_of_ble_eq_true rfl) rfl | exact load_ptrA rfl lay39 rfl (Nat.le_of_ble_eq_true rfl) rfl) ?_
            refine s_litD [.tmp 51] rfl sel22 zero39 rfl rfl rfl rfl rfl ?_
            refine s_push rfl sel22 zero39 rfl rfl rfl (fun h => absurd h (Nat.not_lt_zero _)) rfl rfl (by simp [pre_length _ _ (Nat.le_of_lt hlt)]) (pre_snoc' _ _ hm (by show Mach.enc (cmdAt cs i m) = _; rw [hs]; rfl)) (by omega) ?_
            refine s_rd _ rfl (by first | exact mv_d (.inr rfl) rfl | exact mv_msl (.inr rfl) rfl | exact mv_mptr (.inr rfl) rfl | exact mv_agg (.inr rfl) rfl | exact mv_tup (.inr rfl) rfl | exact mv_ifc (.inr rfl) rfl | exact mv_fnc (.inr rfl) rfl | exact mv_mmap (.inr rfl) rfl | exact rd_move (.inr rfl)) ?_
            refine tops_nil ?_
            refine way_block ?_
            refine way_then ?_
            refine twp_norm [0, 1, 5, 6] (by repeat (first | exact SubK.nil | apply sub_d rfl | apply sub_msl rfl | apply sub_mptr rfl | apply sub_agg rfl | apply sub_tup rfl | apply sub_ifc rfl | apply sub_fnc rfl | apply sub_mmap rfl | apply SubK.cons _ _ _ _ rfl)) (by repeat (first | exact blk_nil rfl | apply blk_flat rfl | apply blk_box rfl | apply blk_map rfl | apply blk_dead rfl | rfl)) ?_
            refine twp_region ?_
            refine s_rd _ rfl (by first | exact mv_d (.inl rfl) rfl | exact mv_msl (.inl rfl) rfl | exact mv_mptr (.inl rfl) rfl | exact mv_agg (.inl rfl) rfl | exact mv_tup (.inl rfl) rfl | exact mv_ifc (.inl rfl) rfl | exact mv_fnc (.inl rfl) rfl | exact mv_mmap (.inl rfl) rfl | exact rd_move (.inl rfl)) ?_
            refine s_rd _ rfl (arith_ok rfl rfl rfl rfl (by first | omega | (constructor <;> omega))) ?_
            refine s_rd _ rfl (by first | exact mv_d (.inr rfl) rfl | exact mv_msl (.inr rfl) rfl | exact mv_mptr (.inr rfl) rfl | exact mv_agg (.inr rfl) rfl | exact mv_tup (.inr rfl) rfl | exact mv_ifc (.inr rfl) rfl | exact mv_fnc (.inr rfl) rfl | exact mv_mmap (.inr rfl) rfl | exact rd_move (.inr rfl)) ?_
            refine tops_nil ?_
            refine way_then ?_
            exact ⟨(i + 1), [0], by decide, fun i hi => absurd hi (Nat.not_lt_zero i), (by omega), (by omega), rfl⟩
          · have e3 : c = m.goal := by simpa using e3
            have hs : cmdAt cs i m = m := by simp [cmdAt, hcc, commandM, e3]
            refine twp_skip ?_
            refine way_then ?_
            refine twp_norm [0, 1, 5, 6, 7] (by repeat (first | exact SubK.nil | apply sub_d rfl | apply sub_msl rfl | apply sub_mptr rfl | apply sub_agg rfl | apply sub_tup rfl | apply sub_ifc rfl | apply sub_fnc rfl | apply sub_mmap rfl | apply SubK.cons _ _ _ _ rfl)) (by repeat (first | exact blk_nil rfl | apply blk_flat rfl | apply blk_box rfl | apply blk_map rfl | apply blk_dead rfl | rfl)) ?_
            refine twp_region ?_
            refine s_rd _ rfl (by first | exact mv_d (.inl rfl) rfl | exact mv_msl (.inl rfl) rfl | exact mv_mptr (.inl rfl) rfl | exact mv_agg (.inl rfl) rfl | exact mv_tup (.inl rfl) rfl | exact mv_ifc (.inl rfl) rfl | exact mv_fnc (.inl rfl) rfl | exact mv_mmap (.inl rfl) rfl | exact rd_move (.inl rfl)) ?_
            refine s_rd _ rfl (by first | exact load_ptrW rfl lay39 rfl rfl rfl | exact load_flatW rfl lay39 rfl rfl (by first | rfl | assumption | (simp only [List.getElem?_map, Option.map_some, *]; done)) rfl rfl | exact load_boxA_d rfl lay39 rfl rfl (Nat.le_of_ble_eq_true rfl) rfl | exact load_boxA rfl lay39 rfl rfl (Nat.le_of_ble_eq_true rfl) rfl | exact load_ptrA rfl lay39 rfl (Nat.le_of_ble_eq_true rfl) rfl) ?_
            refine s_litD [.tmp 51] rfl sel22 zero39 rfl rfl rfl rfl rfl ?_
            refine s_push rfl sel22 zero39 rfl rfl rfl (fun h => absurd h (Nat.not_lt_zero _)) rfl rfl (by simp [pre_length _ _ (Nat.le_of_lt hlt)]) (pre_snoc' _ _ hm (by show Mach.enc (cmdAt cs i m) = _; rw [hs]; rfl)) (by omega) ?_
            refine s_rd _ rfl (by first | exact mv_d (.inr rfl) rfl | exact mv_msl (.inr rfl) rfl | exact mv_mptr (.inr rfl) rfl | exact mv_agg (.inr rfl) rfl | exact mv_tup (.inr rfl) rfl | exact mv_ifc (.inr rfl) rfl | exact mv_fnc (.inr rfl) rfl | exact mv_mmap (.inr rfl) rfl | exact rd_move (.inr rfl)) ?_
            refine tops_nil ?_
            refine way_block ?_
            refine way_then ?_
            refine twp_norm [0, 1, 5, 6] (by repeat (first | exact SubK.nil | apply sub_d rfl | apply sub_msl rfl | apply sub_mptr rfl | apply sub_agg rfl | apply sub_tup rfl | apply sub_ifc rfl | apply sub_fnc rfl | apply sub_mmap rfl | apply SubK.cons _ _ _ _ rfl)) (by repeat (first | exact blk_nil rfl | apply blk_flat rfl | apply blk_box rfl | apply blk_map rfl | apply blk_dead rfl | rfl)) ?_
            refine twp_region ?_
            refine s_rd _ rfl (by first | exact mv_d (.inl rfl) rfl | exact mv_msl (.inl rfl) rfl | exact mv_mptr (.inl rfl) rfl | exact mv_agg (.inl rfl) rfl | exact mv_tup (.inl rfl) rfl | exact mv_ifc (.inl rfl) rfl | exact mv_fnc (.inl rfl) rfl | exact mv_mmap (.inl rfl) rfl | exact rd_move (.inl rfl)) ?_
            refine s_rd _ rfl (arith_ok rfl rfl rfl rfl (by first | omega | (constructor <;> omega))) ?_
            refine s_rd _ rfl (by first | exact mv_d (.inr rfl) rfl | exact mv_msl (.inr rfl) rfl | exact mv_mptr (.inr rfl) rfl | exact mv_agg (.inr rfl) rfl | exact mv_tup (.inr rfl) rfl | exact mv_ifc (.inr rfl) rfl | exact mv_fnc (.inr rfl) rfl | exact mv_mmap (.inr rfl) rfl | exact rd_move (.inr rfl)) ?_
            refine tops_nil ?_
            refine way_then ?_
            exact ⟨(i + 1), [0], by decide, fun i hi => absurd hi (Nat.not_lt_zero i), (by omega), (by omega), rfl⟩
        · have e2 : ¬ c = 2 := of_decide_eq_false d3
          have hs : cmdAt cs i m = m := by simp [cmdAt, hcc, commandM, e1, e2]
          refine d_skip rfl (on_no rfl rfl rfl d3) ?_
          refine d_skip rfl (on_no rfl rfl rfl d3) ?_
          refine d_skip rfl (on_no rfl rfl rfl d3) ?_
          refine d_skip rfl (on_no rfl rfl rfl d3) ?_
          refine d_skip rfl (on_no rfl rfl rfl d3) ?_
          refine d_skip rfl (on_no rfl rfl rfl d3) ?_
          refine d_skip rfl (on_no rfl rfl rfl d3) ?_
          refine d_rd [] _ rfl rfl (pickh_F rfl rfl d3 rfl) ?_
          refine d_tail ?_ (by kernel_rfl)
          refine tops_nil ?_
          refine twp_norm [0, 1, 5, 6, 7, 44] (by repeat (first | exact SubK.nil | apply sub_d rfl | apply sub_msl rfl | apply sub_mptr rfl | apply sub_agg rfl | apply sub_tup rfl | apply sub_ifc rfl | apply sub_fnc rfl | apply sub_mmap rfl | apply SubK.cons _ _ _ _ rfl)) (by repeat (first | exact blk_nil rfl | apply blk_flat rfl | apply blk_box rfl | apply blk_map rfl | apply blk_dead rfl | rfl)) ?_
          refine twp_cond false rfl (fun h => by cases h) (fun _ => ?_)
          refine twp_skip ?_
          refine way_then ?_
          refine twp_norm [0, 1, 5, 6, 7] (by repeat (first | exact SubK.nil | apply sub_d rfl | apply sub_msl rfl | apply sub_mptr rfl | apply sub_agg rfl | apply sub_tup rfl | apply sub_ifc rfl | apply sub_fnc rfl | apply sub_mmap rfl | apply SubK.cons _ _ _ _ rfl)) (by repeat (first | exact blk_nil rfl | apply blk_flat rfl | apply blk_box rfl | apply blk_map rfl | apply blk_dead rfl | rfl)) ?_
          refine twp_region ?_
          refine s_rd _ rfl (by first | exact mv_d (.inl rfl) rfl | exact mv_msl (.inl rfl) rfl | exact mv_mptr (.inl rfl) rfl | exact mv_agg (.inl rfl) rfl | exact mv_tup (.inl rfl) rfl | exact mv_ifc (.inl rfl) rfl | exact mv_fnc (.inl rfl) rfl | exact mv_mmap (.inl rfl) rfl | exact rd_move (.inl rfl)) ?_
          refine s_rd _ rfl (by first | exact load_ptrW rfl lay39 rfl rfl rfl | exact load_flatW rfl lay39 rfl rfl (by first | rfl | assumption | (simp only [List.getElem?_map, Option.map_some, *]; done)) rfl rfl | exact load_boxA_d rfl lay39 rfl rfl (Nat.le_of_ble_eq_true rfl) rfl | exact load_boxA rfl lay39 rfl rfl (Nat.le_of_ble_eq_true rfl) rfl | exact load_ptrA rfl lay39 rfl (Nat.le_of_ble_eq_true rfl) rfl) ?_
          refine s_litD [.tmp 51] rfl sel22 zero39 rfl rfl rfl rfl rfl ?_
          refine s_push rfl sel22 zero39 rfl rfl rfl (fun h => absurd h (Nat.not_lt_zero _)) rfl rfl (by simp [pre_length _ _ (Nat.le_of_lt hlt)]) (pre_snoc' _ _ hm (by show Mach.enc (cmdAt cs i m) = _; rw [hs]; rfl)) (by omega) ?_
          refine s_rd _ rfl (by first | exact mv_d (.inr rfl) rfl | exact mv_msl (.inr rfl) rfl | exact mv_mptr (.inr rfl) rfl | exact mv_agg (.inr rfl) rfl | exact mv_tup (.inr rfl) rfl | exact mv_ifc (.inr rfl) rfl | exact mv_fnc (.inr rfl) rfl | exact mv_mmap (.inr rfl) rfl | exact rd_move (.inr rfl)) ?_
          refine tops_nil ?_
          refine way_block ?_
          refine way_then ?_
          refine twp_norm [0, 1, 5, 6] (by repeat (first | exact SubK.nil | apply sub_d rfl | apply sub_msl rfl | apply sub_mptr rfl | apply sub_agg rfl | apply sub_tup rfl | apply sub_ifc rfl | apply sub_fnc rfl | apply sub_mmap rfl | apply SubK.cons _ _ _ _ rfl)) (by repeat (first | exact blk_nil rfl | apply blk_flat rfl | apply blk_box rfl | apply blk_map rfl | apply blk_dead rfl | rfl)) ?_
          refine twp_region ?_
          refine s_rd _ rfl (by first | exact mv_d (.inl rfl) rfl | exact mv_msl (.inl rfl) rfl | exact mv_mptr (.inl rfl) rfl | exact mv_agg (.inl rfl) rfl | exact mv_tup (.inl rfl) rfl | exact mv_ifc (.inl rfl) rfl | exact mv_fnc (.inl rfl) rfl | exact mv_mmap (.inl rfl) rfl | exact rd_move (.inl rfl)) ?_
          refine s_rd _ rfl (arith_ok rfl rfl rfl rfl (by first | omega | (constructor <;> omega))) ?_
          refine s_rd _ rfl (by first | exact mv_d (.inr rfl) rfl | exact mv_msl (.inr rfl) rfl | exact mv_mptr (.inr rfl) rfl | exact mv_agg (.inr rfl) rfl | exact mv_tup (.inr rfl) rfl | exact mv_ifc (.inr rfl) rfl | exact mv_fnc (.inr rfl) rfl | exact mv_mmap (.inr rfl) rfl | exact rd_move (.inr rfl)) ?_
          refine tops_nil ?_
          refine way_then ?_
          exact ⟨(i + 1), [0], by decide, fun i hi => absurd hi (Nat.not_lt_zero i), (by omega), (by omega), rfl⟩
    · have hs : cmdAt cs i m = m := by simp [cmdAt, List.getElem?_eq_none (show cs.length ≤ i by simpa using d1)]
      refine d_skip rfl (on_no rfl rfl rfl d1) ?_
      refine d_skip rfl (on_no rfl rfl rfl d1) ?_
      refine d_skip rfl (on_no rfl rfl rfl d1) ?_
      refine d_skip rfl (on_no rfl rfl rfl d1) ?_
      refine d_skip rfl (on_no rfl rfl rfl d1) ?_
      refine d_skip rfl (on_no rfl rfl rfl d1) ?_
      refine d_skip rfl (on_und rfl rfl rfl) ?_
      refine d_skip rfl (on_und rfl rfl rfl) ?_
      refine d_skip rfl (on_und rfl rfl rfl) ?_
      refine d_skip rfl (on_und rfl rfl rfl) ?_
      refine d_skip rfl (on_und rfl rfl rfl) ?_
      refine d_skip rfl (on_no rfl rfl rfl d1) ?_
      refine d_rd [] _ rfl rfl (pickh_F rfl rfl d1 rfl) ?_
      refine d_rd [] _ rfl rfl (by first | exact mv_d (.inl rfl) rfl | exact mv_msl (.inl rfl) rfl | exact mv_mptr (.inl rfl) rfl | exact mv_agg (.inl rfl) rfl | exact mv_tup (.inl rfl) rfl | exact mv_ifc (.inl rfl) rfl | exact mv_fnc (.inl rfl) rfl | exact mv_mmap (.inl rfl) rfl | exact rd_move (.inl rfl)) ?_
      refine d_skip rfl (on_no rfl rfl rfl rfl) ?_
      refine d_skip rfl (on_no rfl rfl rfl rfl) ?_
      refine d_skip rfl (on_no rfl rfl rfl rfl) ?_
      refine d_skip rfl (on_no rfl rfl rfl rfl) ?_
      refine d_skip rfl (on_no rfl rfl rfl rfl) ?_
      refine d_skip rfl (on_no rfl rfl rfl rfl) ?_
      refine d_skip rfl (on_no rfl rfl rfl rfl) ?_
      refine d_rd [] _ rfl rfl (by first | exact pick_Td rfl rfl rfl | exact pick_Fd rfl rfl rfl | exact rd_pickBool _ _ _ rfl rfl rfl rfl | exact pick_T rfl rfl rfl | exact pick_F rfl rfl rfl) ?_
      refine d_tail ?_ (by kernel_rfl)
      refine tops_nil ?_
      refine twp_norm [0, 1, 5, 6, 7, 44] (by repeat (first | exact SubK.nil | apply sub_d rfl | apply sub_msl rfl | apply sub_mptr rfl | apply sub_agg rfl | apply sub_tup rfl | apply sub_ifc rfl | apply sub_fnc rfl | apply sub_mmap rfl | apply SubK.cons _ _ _ _ rfl)) (by repeat (first | exact blk_nil rfl | apply blk_flat rfl | apply blk_box rfl | apply blk_map rfl | apply blk_dead rfl | rfl)) ?_
      refine twp_cond false rfl (fun h => by cases h) (fun _ => ?_)
      refine twp_skip ?_
      refine way_then ?_
      refine twp_norm [0, 1, 5, 6, 7] (by repeat (first | exact SubK.nil | apply sub_d rfl | apply sub_msl rfl | apply sub_mptr rfl | apply sub_agg rfl | apply sub_tup rfl | apply sub_ifc rfl | apply sub_fnc rfl | apply sub_mmap rfl | apply SubK.cons _ _ _ _ rfl)) (by repeat (first | exact blk_nil rfl | apply blk_flat rfl | apply blk_box rfl | apply blk_map rfl | apply blk_dead rfl | rfl)) ?_
      refine twp_region ?_
      refine s_rd _ rfl (by first | exact mv_d (.inl rfl) rfl | exact mv_msl (.inl rfl) rfl | exact mv_mptr (.inl rfl) rfl | exact mv_agg (.inl rfl) rfl | exact mv_tup (.inl rfl) rfl | exact mv_ifc (.inl rfl) rfl | exact mv_fnc (.inl rfl) rfl | exact mv_mmap (.inl rfl) rfl | exact rd_move (.inl rfl)) ?_
      refine s_rd _ rfl (by first | exact load_ptrW rfl lay39 rfl rfl rfl | exact load_flatW rfl lay39 rfl rfl (by first | rfl | assumption | (simp only [List.getElem?_map, Option.map_some, *]; done)) rfl rfl | exact load_boxA_d rfl lay39 rfl rfl (Nat.le_of_ble_eq_true rfl) rfl | exact load_boxA rfl lay39 rfl rfl (Nat.le_of_ble_eq_true rfl) rfl | exact load_ptrA rfl lay39 rfl (Nat.le_of_ble_eq_true rfl) rfl) ?_
      refine s_litD [.tmp 51] rfl sel22 zero39 rfl rfl rfl rfl rfl ?_
      refine s_push rfl sel22 zero39 rfl rfl rfl (fun h => absurd h (Nat.not_lt_zero _)) rfl rfl (by simp [pre_length _ _ (Nat.le_of_lt hlt)]) (pre_snoc' _ _ hm (by show Mach.enc (cmdAt cs i m) = _; rw [hs]; rfl)) (by omega) ?_
      refine s_rd _ rfl (by first | exact mv_d (.inr rfl) rfl | exact mv_msl (.inr rfl) rfl | exact mv_mptr (.inr rfl) rfl | exact mv_agg (.inr rfl) rfl | exact mv_tup (.inr rfl) rfl | exact mv_ifc (.inr rfl) rfl | exact mv_fnc (.inr rfl) rfl | exact mv_mmap (.inr rfl) rfl | exact rd_move (.inr rfl)) ?_
      refine tops_nil ?_
      refine way_block ?_
      refine way_then ?_
      refine twp_norm [0, 1, 5, 6] (by repeat (first | exact SubK.nil | apply sub_d rfl | apply sub_msl rfl | apply sub_mptr rfl | apply sub_agg rfl | apply sub_tup rfl | apply sub_ifc rfl | apply sub_fnc rfl | apply sub_mmap rfl | apply SubK.cons _ _ _ _ rfl)) (by repeat (first | exact blk_nil rfl | apply blk_flat rfl | apply blk_box rfl | apply blk_map rfl | apply blk_dead rfl | rfl)) ?_
      refine twp_region ?_
      refine s_rd _ rfl (by first | exact mv_d (.inl rfl) rfl | exact mv_msl (.inl rfl) rfl | exact mv_mptr (.inl rfl) rfl | exact mv_agg (.inl rfl) rfl | exact mv_tup (.inl rfl) rfl | exact mv_ifc (.inl rfl) rfl | exact mv_fnc (.inl rfl) rfl | exact mv_mmap (.inl rfl) rfl | exact rd_move (.inl rfl)) ?_
      refine s_rd _ rfl (arith_ok rfl rfl rfl rfl (by first | omega | (constructor <;> omega))) ?_
      refine s_rd _ rfl (by first | exact mv_d (.inr rfl) rfl | exact mv_msl (.inr rfl) rfl | exact mv_mptr (.inr rfl) rfl | exact mv_agg (.inr rfl) rfl | exact mv_tup (.inr rfl) rfl | exact mv_ifc (.inr rfl) rfl | exact mv_fnc (.inr rfl) rfl | exact mv_mmap (.inr rfl) rfl | exact rd_move (.inr rfl)) ?_
      refine tops_nil ?_
      refine way_then ?_
      exact ⟨(i + 1), [0], by decide, fun i hi => absurd hi (Nat.not_lt_zero i), (by omega), (by omega), rfl⟩
  · have hlt : ¬ i < ms.length := by simpa using hlt
    have hi : i = ms.length := by omega
    refine twp_exit ?_
    refine way_thenExit ?_
    refine way_thenExit ?_
    refine way_here ?_
    refine way_then ?_
    refine twp_norm [5] (by repeat (first | exact SubK.nil | apply sub_d rfl | apply sub_msl rfl | apply sub_mptr rfl | apply sub_agg rfl | apply sub_tup rfl | apply sub_ifc rfl | apply sub_fnc rfl | apply sub_mmap rfl | apply SubK.cons _ _ _ _ rfl)) (by repeat (first | exact blk_nil rfl | apply blk_flat rfl | apply blk_box rfl | apply blk_map rfl | apply blk_dead rfl | rfl)) ?_
    refine twp_rseq ?_
    refine s_rd _ rfl (by first | exact mv_d (.inl rfl) rfl | exact mv_msl (.inl rfl) rfl | exact mv_mptr (.inl rfl) rfl | exact mv_agg (.inl rfl) rfl | exact mv_tup (.inl rfl) rfl | exact mv_ifc (.inl rfl) rfl | exact mv_fnc (.inl rfl) rfl | exact mv_mmap (.inl rfl) rfl | exact rd_move (.inl rfl)) ?_
    refine s_rd _ rfl (by first | exact mv_d (.inr rfl) rfl | exact mv_msl (.inr rfl) rfl | exact mv_mptr (.inr rfl) rfl | exact mv_agg (.inr rfl) rfl | exact mv_tup (.inr rfl) rfl | exact mv_ifc (.inr rfl) rfl | exact mv_fnc (.inr rfl) rfl | exact mv_mmap (.inr rfl) rfl | exact rd_move (.inr rfl)) ?_
    refine tops_nil ?_
    refine twp_norm [4] (by repeat (first | exact SubK.nil | apply sub_d rfl | apply sub_msl rfl | apply sub_mptr rfl | apply sub_agg rfl | apply sub_tup rfl | apply sub_ifc rfl | apply sub_fnc rfl | apply sub_mmap rfl | apply SubK.cons _ _ _ _ rfl)) (by repeat (first | exact blk_nil rfl | apply blk_flat rfl | apply blk_box rfl | apply blk_map rfl | apply blk_dead rfl | rfl)) ?_
    refine twp_ret ?_
    exact ⟨_, [0], rfl, by decide, fun i hi => absurd hi (Nat.not_lt_zero i), by rw [hi]; rfl, by rw [pre_all _ ms (Nat.le_of_eq hi.symm)]; rfl⟩

theorem commandR_n (ms : List Mach) (cs : List Int) (hn : ms.length ≤ 100000) (hc : cs.length ≤ 9223372036854775807) : RetN Try.prog 11 [.sl 3 (ms.map Mach.enc), .sl 1 (cs.map (D.int .i64))] (.sl 3 ((commands ms cs).map Mach.enc)) :=
  .flat (commandR_ret ms cs hn hc _) (by simp [commands]) (mem0_map _)

end Go.Proofs.Ytmjgelbhflmchaa
