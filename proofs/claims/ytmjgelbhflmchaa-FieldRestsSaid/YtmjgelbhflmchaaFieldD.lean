/- The field: places in lists, positions, many steps, walked. No condition. -/
import Derived.Test.YtmjgelbhflmchaaFieldC
namespace Go.Proofs.Ytmjgelbhflmchaa
open Go Go.TL

def idxFrom : List Int → Int → Nat → Int
  | [], _, _ => -1
  | p :: r, v, k => if p = v then (k : Int) else idxFrom r v (k + 1)
theorem idxFrom_hit {v : Int} : ∀ {ps : List Int} {i : Nat} (k : Nat), (∀ j, j < i → ps[j]? ≠ some v) → ps[i]? = some v → idxFrom ps v k = ((k + i : Nat) : Int)
  | [], i, _, _, h => by simp at h
  | p :: r, 0, k, _, h => by simp at h; simp [idxFrom, h]
  | p :: r, i + 1, k, hn, h => by
    have h0 : p ≠ v := fun e => hn 0 (Nat.succ_pos _) (by simp [e])
    rw [idxFrom, if_neg h0, idxFrom_hit (i := i) (k + 1) (fun j hj => by have := hn (j + 1) (by omega); simpa using this) (by simpa using h)]
    omega
theorem idxFrom_none {v : Int} : ∀ {ps : List Int} (k : Nat), (∀ j, j < ps.length → ps[j]? ≠ some v) → idxFrom ps v k = -1
  | [], _, _ => rfl
  | p :: r, k, hn => by
    have h0 : p ≠ v := fun e => hn 0 (Nat.succ_pos _) (by simp [e])
    rw [idxFrom, if_neg h0, idxFrom_none (k + 1) fun j hj => by have := hn (j + 1) (by simp; omega); simpa using this]

/-- What the points of a place show. -/
def posAt : List Int → List Mach → Int → Int
  | [], _, _ => 0
  | p :: ps, ms, s => if p = s then (match ms with | [] => 0 | m :: _ => m.pos) else posAt ps ms.tail s
def positions (ps : List Int) (ms : List Mach) (n : Int) : List Int := if n < 0 ∨ 32 < n then [] else (List.range n.toNat).map fun (s : Nat) => posAt ps ms (s : Int)

theorem posAt_idx {s : Int} : ∀ (ps : List Int) (ms : List Mach) (k : Nat), (∀ m, k ≤ (idxFrom ps s k).toNat → ms[(idxFrom ps s k).toNat - k]? = some m → 0 ≤ idxFrom ps s k → posAt ps ms s = m.pos) ∧ ((idxFrom ps s k < 0 ∨ ms[(idxFrom ps s k).toNat - k]? = none) → posAt ps ms s = 0) ∧ (idxFrom ps s k = -1 ∨ (k : Int) ≤ idxFrom ps s k)
  | [], ms, k => ⟨fun m _ _ h => by simp [idxFrom] at h, fun _ => rfl, .inl rfl⟩
  | p :: ps, ms, k => by
    by_cases hp : p = s
    · simp only [idxFrom, if_pos hp, posAt]
      refine ⟨fun m _ h _ => ?_, fun h => ?_, .inr (by omega)⟩
      · cases ms with
        | nil => simp at h
        | cons a r => simp at h; simp [h]
      · cases ms with
        | nil => rfl
        | cons a r => rcases h with h | h
                      · omega
                      · simp at h
    · simp only [idxFrom, if_neg hp, posAt]
      obtain ⟨h1, h2, h3⟩ := posAt_idx (s := s) ps ms.tail (k + 1)
      generalize idxFrom ps s (k + 1) = J at *
      have ht : ∀ q, k + 1 ≤ q → ms.tail[q - (k + 1)]? = ms[q - k]? := fun q hq => by
        rw [List.getElem?_tail, show q - (k + 1) + 1 = q - k by omega]
      refine ⟨fun m hk h h0 => ?_, fun h => ?_, by omega⟩
      · exact h1 m (by omega) (by rw [ht _ (by omega)]; exact h) h0
      · refine h2 ?_
        rcases h3 with h3 | h3
        · exact .inl (by omega)
        · rcases h with h | h
          · exact .inl h
          · exact .inr (by rw [ht _ (by omega)]; exact h)
theorem posAt_hit {ps : List Int} {ms : List Mach} {s : Int} {m : Mach} (h0 : 0 ≤ idxFrom ps s 0) (h : ms[(idxFrom ps s 0).toNat]? = some m) : posAt ps ms s = m.pos := (posAt_idx ps ms 0).1 m (Nat.zero_le _) (by simpa using h) h0
theorem posAt_miss {ps : List Int} {ms : List Mach} {s : Int} (h : idxFrom ps s 0 < 0 ∨ (ms.length : Int) ≤ idxFrom ps s 0) : posAt ps ms s = 0 :=
  (posAt_idx ps ms 0).2.1 (h.imp id fun h => List.getElem?_eq_none (by omega))
theorem mapIdx_replicate {k : Nat} (f : Nat → Int) : (List.replicate k (0 : Int)).mapIdx (fun j _ => f j) = (List.range k).map f := by
  apply List.ext_getElem?
  intro i
  rw [List.getElem?_mapIdx, List.getElem?_map, List.getElem?_replicate]
  rcases Nat.lt_or_ge i k with hi | hi
  · simp [hi]
  · simp [Nat.not_lt.2 hi]
theorem range_set {k p : Nat} (f : Nat → Int) (v : Int) : ((List.range k).map f).set p v = (List.range k).map fun s => if s = p then v else f s := by
  apply List.ext_getElem?
  intro i
  rw [List.getElem?_set, List.getElem?_map]
  rcases Nat.lt_or_ge i k with hi | hi
  · by_cases hp : p = i
    · subst hp; simp [hi]
    · simp [hi, hp, show ¬ i = p from fun e => hp e.symm]
  · simp [hi]; intro h; omega

theorem callB24 : callB Try.prog 24 = true := by kernel_rfl

theorem sliceIndex_ret (ps : List Int) (v : Int) (hn : ps.length ≤ 100000) (mv : Nat → Bool) : Ret Try.prog 24 [] mv ([D.sl 1 (ps.map (D.int .i64)), D.int .i64 v].map .d) (.d (.int .i64 (idxFrom ps v 0))) [] := by
  refine ret_body callB24 Try.func24 rfl Try.ntmps24 rfl rfl (fun wX gX => ?_)
  refine twp_norm [0, 1] (by repeat (first | exact SubK.nil | apply sub_d rfl | apply sub_msl rfl | apply sub_mptr rfl | apply sub_agg rfl | apply sub_tup rfl | apply sub_ifc rfl | apply sub_fnc rfl | apply sub_mmap rfl | apply SubK.cons _ _ _ _ rfl)) (by repeat (first | exact blk_nil rfl | apply blk_flat rfl | apply blk_box rfl | apply blk_map rfl | apply blk_dead rfl | rfl)) ?_
  refine twp_rseq ?_
  refine s_rd _ rfl (by first | exact mv_d (.inr rfl) rfl | exact mv_msl (.inr rfl) rfl | exact mv_mptr (.inr rfl) rfl | exact mv_agg (.inr rfl) rfl | exact mv_tup (.inr rfl) rfl | exact mv_ifc (.inr rfl) rfl | exact mv_fnc (.inr rfl) rfl | exact mv_mmap (.inr rfl) rfl | exact rd_move (.inr rfl)) ?_
  refine tops_nil ?_
  refine twp_norm [0, 1] (by repeat (first | exact SubK.nil | apply sub_d rfl | apply sub_msl rfl | apply sub_mptr rfl | apply sub_agg rfl | apply sub_tup rfl | apply sub_ifc rfl | apply sub_fnc rfl | apply sub_mmap rfl | apply SubK.cons _ _ _ _ rfl)) (by repeat (first | exact blk_nil rfl | apply blk_flat rfl | apply blk_box rfl | apply blk_map rfl | apply blk_dead rfl | rfl)) ?_
  refine twp_seq ?_
  refine twp_rseq ?_
  refine s_rd _ rfl (by first | exact mv_d (.inl rfl) rfl | exact mv_msl (.inl rfl) rfl | exact mv_mptr (.inl rfl) rfl | exact mv_agg (.inl rfl) rfl | exact mv_tup (.inl rfl) rfl | exact mv_ifc (.inl rfl) rfl | exact mv_fnc (.inl rfl) rfl | exact mv_mmap (.inl rfl) rfl | exact rd_move (.inl rfl)) ?_
  refine s_rd _ rfl (by first | exact len_d rfl sel23 rfl (by first | exact List.length_map _ | rfl) | exact len_msl rfl sel23 rfl | exact len_nil rfl sel23 rfl) ?_
  refine s_rd _ rfl (by first | exact mv_d (.inl rfl) rfl | exact mv_msl (.inl rfl) rfl | exact mv_mptr (.inl rfl) rfl | exact mv_agg (.inl rfl) rfl | exact mv_tup (.inl rfl) rfl | exact mv_ifc (.inl rfl) rfl | exact mv_fnc (.inl rfl) rfl | exact mv_mmap (.inl rfl) rfl | exact rd_move (.inl rfl)) ?_
  refine tops_nil ?_
  refine twp_norm [0, 1, 7, 8] (by repeat (first | exact SubK.nil | apply sub_d rfl | apply sub_msl rfl | apply sub_mptr rfl | apply sub_agg rfl | apply sub_tup rfl | apply sub_ifc rfl | apply sub_fnc rfl | apply sub_mmap rfl | apply SubK.cons _ _ _ _ rfl)) (by repeat (first | exact blk_nil rfl | apply blk_flat rfl | apply blk_box rfl | apply blk_map rfl | apply blk_dead rfl | rfl)) ?_
  refine twp_block ?_
  refine twp_while (fun i => (⟨[(0, .d (.sl 1 (ps.map (D.int .i64)))), (1, .d (.int .i64 v)), (7, .d (.int .i64 ((ps.length : Nat) : Int))), (8, .d (.int .i64 ((i : Nat) : Int)))], []⟩ : St)) (fun i => i ≤ ps.length ∧ ∀ j, j < i → ps[j]? ≠ some v) (fun i => ps.length - i) [0, 1, 7, 8] [] 0 (by decide) (fun i hi => absurd hi (Nat.not_lt_zero i)) ⟨Nat.zero_le _, fun j hj => absurd hj (Nat.not_lt_zero j)⟩ rfl ?_
  rintro i ⟨hok, hno⟩
  refine twp_norm [0, 1, 7, 8] (by repeat (first | exact SubK.nil | apply sub_d rfl | apply sub_msl rfl | apply sub_mptr rfl | apply sub_agg rfl | apply sub_tup rfl | apply sub_ifc rfl | apply sub_fnc rfl | apply sub_mmap rfl | apply SubK.cons _ _ _ _ rfl)) (by repeat (first | exact blk_nil rfl | apply blk_flat rfl | apply blk_box rfl | apply blk_map rfl | apply blk_dead rfl | rfl)) ?_
  refine twp_rseq ?_
  refine s_rd _ rfl (by first | exact cmp_int rfl rfl rfl rfl | exact cmp_bool rfl rfl rfl rfl) ?_
  refine tops_nil ?_
  refine twp_norm [0, 1, 7, 8, 9] (by repeat (first | exact SubK.nil | apply sub_d rfl | apply sub_msl rfl | apply sub_mptr rfl | apply sub_agg rfl | apply sub_tup rfl | apply sub_ifc rfl | apply sub_fnc rfl | apply sub_mmap rfl | apply SubK.cons _ _ _ _ rfl)) (by repeat (first | exact blk_nil rfl | apply blk_flat rfl | apply blk_box rfl | apply blk_map rfl | apply blk_dead rfl | rfl)) ?_
  refine twp_seq ?_
  refine twp_cond _ rfl (fun hlt => ?_) (fun hlt => ?_)
  · have hlt : i < ps.length := by simpa using hlt
    obtain ⟨m, hm⟩ : ∃ m, ps[i]? = some m := ⟨_, List.getElem?_eq_getElem hlt⟩
    refine twp_skip ?_
    refine way_then ?_
    refine twp_norm [0, 1, 7, 8] (by repeat (first | exact SubK.nil | apply sub_d rfl | apply sub_msl rfl | apply sub_mptr rfl | apply sub_agg rfl | apply sub_tup rfl | apply sub_ifc rfl | apply sub_fnc rfl | apply sub_mmap rfl | apply SubK.cons _ _ _ _ rfl)) (by repeat (first | exact blk_nil rfl | apply blk_flat rfl | apply blk_box rfl | apply blk_map rfl | apply blk_dead rfl | rfl)) ?_
    refine twp_seq ?_
    refine twp_block ?_
    refine twp_rseq ?_
    refine s_rd _ rfl (by first | exact mv_d (.inl rfl) rfl | exact mv_msl (.inl rfl) rfl | exact mv_mptr (.inl rfl) rfl | exact mv_agg (.inl rfl) rfl | exact mv_tup (.inl rfl) rfl | exact mv_ifc (.inl rfl) rfl | exact mv_fnc (.inl rfl) rfl | exact mv_mmap (.inl rfl) rfl | exact rd_move (.inl rfl)) ?_
    refine s_rd _ rfl (by first | exact mv_d (.inr rfl) rfl | exact mv_msl (.inr rfl) rfl | exact mv_mptr (.inr rfl) rfl | exact mv_agg (.inr rfl) rfl | exact mv_tup (.inr rfl) rfl | exact mv_ifc (.inr rfl) rfl | exact mv_fnc (.inr rfl) rfl | exact mv_mmap (.inr rfl) rfl | exact rd_move (.inr rfl)) ?_
    refine tops_nil ?_
    refine twp_norm [0, 1, 5, 7, 8] (by repeat (first | exact SubK.nil | apply sub_d rfl | apply sub_msl rfl | apply sub_mptr rfl | apply sub_agg rfl | apply sub_tup rfl | apply sub_ifc rfl | apply sub_fnc rfl | apply sub_mmap rfl | apply SubK.cons _ _ _ _ rfl)) (by repeat (first | exact blk_nil rfl | apply blk_flat rfl | apply blk_box rfl | apply blk_map rfl | apply blk_dead rfl | rfl)) ?_
    refine twp_rseq ?_
    refine s_rd _ rfl (by first | exact mv_d (.inl rfl) rfl | exact mv_msl (.inl rfl) rfl | exact mv_mptr (.inl rfl) rfl | exact mv_agg (.inl rfl) rfl | exact mv_tup (.inl rfl) rfl | exact mv_ifc (.inl rfl) rfl | exact mv_fnc (.inl rfl) rfl | exact mv_mmap (.inl rfl) rfl | exact rd_move (.inl rfl)) ?_
    refine s_rd _ rfl (by first | exact mv_d (.inl rfl) rfl | exact mv_msl (.inl rfl) rfl | exact mv_mptr (.inl rfl) rfl | exact mv_agg (.inl rfl) rfl | exact mv_tup (.inl rfl) rfl | exact mv_ifc (.inl rfl) rfl | exact mv_fnc (.inl rfl) rfl | exact mv_mmap (.inl rfl) rfl | exact rd_move (.inl rfl)) ?_
    refine s_rd _ rfl (by first | exact mv_d (.inl rfl) rfl | exact mv_msl (.inl rfl) rfl | exact mv_mptr (.inl rfl) rfl | exact mv_agg (.inl rfl) rfl | exact mv_tup (.inl rfl) rfl | exact mv_ifc (.inl rfl) rfl | exact mv_fnc (.inl rfl) rfl | exact mv_mmap (.inl rfl) rfl | exact rd_move (.inl rfl)) ?_
    refine s_rd _ rfl (by first | exact index_msl0 rfl sel23 rfl rfl (by first | assumption | omega | (simp; omega)) | exact index_sl rfl sel23 rfl rfl (by first | exact ⟨by omega, by assumption⟩ | exact idx_map (by assumption) | exact idx_id (by assumption))) ?_
    refine s_rd _ rfl (by first | exact load_ptr rfl lay3 rfl rfl | exact load_flat rfl lay3 rfl rfl (by first | rfl | assumption | (simp only [List.getElem?_map, Option.map_some, *]; done)) rfl | exact load_box_d rfl lay3 rfl rfl rfl | exact load_box rfl lay3 rfl rfl rfl) ?_
    refine s_rd _ rfl (by first | exact cmp_int rfl rfl rfl rfl | exact cmp_bool rfl rfl rfl rfl) ?_
    refine tops_nil ?_
    refine twp_norm [0, 1, 5, 7, 8, 16] (by repeat (first | exact SubK.nil | apply sub_d rfl | apply sub_msl rfl | apply sub_mptr rfl | apply sub_agg rfl | apply sub_tup rfl | apply sub_ifc rfl | apply sub_fnc rfl | apply sub_mmap rfl | apply SubK.cons _ _ _ _ rfl)) (by repeat (first | exact blk_nil rfl | apply blk_flat rfl | apply blk_box rfl | apply blk_map rfl | apply blk_dead rfl | rfl)) ?_
    refine twp_cond _ rfl (fun hv => ?_) (fun hv => ?_)
    · have hv : v = m := of_decide_eq_true hv
      have hres : idxFrom ps v 0 = ((i : Nat) : Int) := by have := idxFrom_hit (v := v) 0 hno (by rw [hm, hv]); simpa using this
      refine twp_rseq ?_
      refine s_rd _ rfl (by first | exact mv_d (.inl rfl) rfl | exact mv_msl (.inl rfl) rfl | exact mv_mptr (.inl rfl) rfl | exact mv_agg (.inl rfl) rfl | exact mv_tup (.inl rfl) rfl | exact mv_ifc (.inl rfl) rfl | exact mv_fnc (.inl rfl) rfl | exact mv_mmap (.inl rfl) rfl | exact rd_move (.inl rfl)) ?_
      refine s_rd _ rfl (by first | exact mv_d (.inr rfl) rfl | exact mv_msl (.inr rfl) rfl | exact mv_mptr (.inr rfl) rfl | exact mv_agg (.inr rfl) rfl | exact mv_tup (.inr rfl) rfl | exact mv_ifc (.inr rfl) rfl | exact mv_fnc (.inr rfl) rfl | exact mv_mmap (.inr rfl) rfl | exact rd_move (.inr rfl)) ?_
      refine tops_nil ?_
      refine twp_norm [4] (by repeat (first | exact SubK.nil | apply sub_d rfl | apply sub_msl rfl | apply sub_mptr rfl | apply sub_agg rfl | apply sub_tup rfl | apply sub_ifc rfl | apply sub_fnc rfl | apply sub_mmap rfl | apply SubK.cons _ _ _ _ rfl)) (by repeat (first | exact blk_nil rfl | apply blk_flat rfl | apply blk_box rfl | apply blk_map rfl | apply blk_dead rfl | rfl)) ?_
      refine twp_ret ?_
      refine way_blockRet ?_
      refine way_thenRet ?_
      refine way_thenRet ?_
      refine way_blockRet ?_
      refine way_thenRet ?_
      rw [hres]; exact Ends.plain _ rfl
    · have hv : ¬ v = m := of_decide_eq_false hv
      refine twp_skip ?_
      refine way_block ?_
      refine way_then ?_
      refine twp_norm [0, 1, 7, 8] (by repeat (first | exact SubK.nil | apply sub_d rfl | apply sub_msl rfl | apply sub_mptr rfl | apply sub_agg rfl | apply sub_tup rfl | apply sub_ifc rfl | apply sub_fnc rfl | apply sub_mmap rfl | apply SubK.cons _ _ _ _ rfl)) (by repeat (first | exact blk_nil rfl | apply blk_flat rfl | apply blk_box rfl | apply blk_map rfl | apply blk_dead rfl | rfl)) ?_
      refine twp_region ?_
      refine s_rd _ rfl (arith_ok rfl rfl rfl rfl (by first | omega | (constructor <;> omega))) ?_
      refine s_rd _ rfl (by first | exact mv_d (.inl rfl) rfl | exact mv_msl (.inl rfl) rfl | exact mv_mptr (.inl rfl) rfl | exact mv_agg (.inl rfl) rfl | exact mv_tup (.inl rfl) rfl | exact mv_ifc (.inl rfl) rfl | exact mv_fnc (.inl rfl) rfl | exact mv_mmap (.inl rfl) rfl | exact rd_move (.inl rfl)) ?_
      refine tops_nil ?_
      refine way_then ?_
      exact ⟨(i + 1), [], by decide, fun i hi => absurd hi (Nat.not_lt_zero i), ⟨by omega, fun j hj => by
        rcases Nat.lt_or_ge j i with h | h
        · exact hno j h
        · rw [show j = i by omega, hm]; exact fun e => hv (Option.some.inj e).symm⟩, (by omega), rfl⟩
  · have hlt : ¬ i < ps.length := by simpa using hlt
    have hres : idxFrom ps v 0 = -1 := idxFrom_none 0 fun j hj => hno j (by omega)
    refine twp_exit ?_
    refine way_thenExit ?_
    refine way_thenExit ?_
    refine way_here ?_
    refine way_then ?_
    refine twp_norm [] (by repeat (first | exact SubK.nil | apply sub_d rfl | apply sub_msl rfl | apply sub_mptr rfl | apply sub_agg rfl | apply sub_tup rfl | apply sub_ifc rfl | apply sub_fnc rfl | apply sub_mmap rfl | apply SubK.cons _ _ _ _ rfl)) (by repeat (first | exact blk_nil rfl | apply blk_flat rfl | apply blk_box rfl | apply blk_map rfl | apply blk_dead rfl | rfl)) ?_
    refine twp_rseq ?_
    refine s_rd _ rfl (by first | exact mv_d (.inr rfl) rfl | exact mv_msl (.inr rfl) rfl | exact mv_mptr (.inr rfl) rfl | exact mv_agg (.inr rfl) rfl | exact mv_tup (.inr rfl) rfl | exact mv_ifc (.inr rfl) rfl | exact mv_fnc (.inr rfl) rfl | exact mv_mmap (.inr rfl) rfl | exact rd_move (.inr rfl)) ?_
    refine tops_nil ?_
    refine twp_norm [4] (by repeat (first | exact SubK.nil | apply sub_d rfl | apply sub_msl rfl | apply sub_mptr rfl | apply sub_agg rfl | apply sub_tup rfl | apply sub_ifc rfl | apply sub_fnc rfl | apply sub_mmap rfl | apply SubK.cons _ _ _ _ rfl)) (by repeat (first | exact blk_nil rfl | apply blk_flat rfl | apply blk_box rfl | apply blk_map rfl | apply blk_dead rfl | rfl)) ?_
    refine twp_ret ?_
    rw [hres]; exact Ends.plain _ rfl

theorem callB23 : callB Try.prog 23 = true := by kernel_rfl

theorem sliceIndex_n (ps : List Int) (v : Int) (hn : ps.length ≤ 100000) : RetN Try.prog 24 [.sl 1 (ps.map (D.int .i64)), .int .i64 v] (.int .i64 (idxFrom ps v 0)) := .lit (sliceIndex_ret ps v hn _) rfl

theorem tableIndex_ret (ps : List Int) (v : Int) (hn : ps.length ≤ 100000) (mv : Nat → Bool) : Ret Try.prog 23 [] mv ([tabD ps, D.int .i64 v].map .d) (.d (.int .i64 (idxFrom ps v 0))) [] := by
  refine ret_body callB23 Try.func23 rfl Try.ntmps23 rfl rfl (fun wX gX => ?_)
  refine twp_norm [0, 1] (by repeat (first | exact SubK.nil | apply sub_d rfl | apply sub_msl rfl | apply sub_mptr rfl | apply sub_agg rfl | apply sub_tup rfl | apply sub_ifc rfl | apply sub_fnc rfl | apply sub_mmap rfl | apply SubK.cons _ _ _ _ rfl)) (by repeat (first | exact blk_nil rfl | apply blk_flat rfl | apply blk_box rfl | apply blk_map rfl | apply blk_dead rfl | rfl)) ?_
  refine twp_rseq ?_
  refine s_boxA rfl rfl rfl ?_
  refine s_rd _ rfl (by first | exact mv_d (.inr rfl) rfl | exact mv_msl (.inr rfl) rfl | exact mv_mptr (.inr rfl) rfl | exact mv_agg (.inr rfl) rfl | exact mv_tup (.inr rfl) rfl | exact mv_ifc (.inr rfl) rfl | exact mv_fnc (.inr rfl) rfl | exact mv_mmap (.inr rfl) rfl | exact rd_move (.inr rfl)) ?_
  refine tops_nil ?_
  refine twp_norm [1, 2] (by repeat (first | exact SubK.nil | apply sub_d rfl | apply sub_msl rfl | apply sub_mptr rfl | apply sub_agg rfl | apply sub_tup rfl | apply sub_ifc rfl | apply sub_fnc rfl | apply sub_mmap rfl | apply SubK.cons _ _ _ _ rfl)) (by repeat (first | exact blk_nil rfl | apply blk_flat rfl | apply blk_box rfl | apply blk_map rfl | apply blk_dead rfl | rfl)) ?_
  refine twp_rseq ?_
  refine s_rd _ rfl (by first | exact fieldAddr_ptr rfl fld33_1 rfl rfl | exact fieldAddr_mptr rfl fld33_1 rfl rfl) ?_
  refine s_rd _ rfl (by first | exact load_ptr rfl lay23 rfl rfl | exact load_flat rfl lay23 rfl rfl (by first | rfl | assumption | (simp only [List.getElem?_map, Option.map_some, *]; done)) rfl | exact load_box_d rfl lay23 rfl rfl rfl | exact load_box rfl lay23 rfl rfl rfl) ?_
  refine s_rd _ rfl (by first | exact mv_d (.inl rfl) rfl | exact mv_msl (.inl rfl) rfl | exact mv_mptr (.inl rfl) rfl | exact mv_agg (.inl rfl) rfl | exact mv_tup (.inl rfl) rfl | exact mv_ifc (.inl rfl) rfl | exact mv_fnc (.inl rfl) rfl | exact mv_mmap (.inl rfl) rfl | exact rd_move (.inl rfl)) ?_
  refine s_rd _ rfl (rd_callRN rfl rfl (by repeat (first | exact snaps_nil | refine snaps_cons (.d _) ?_ | refine snaps_cons (snap_full rfl (by simp)) ?_ | refine snaps_cons (snap_full rfl rfl) ?_ | refine snaps_cons (snap_agg (by repeat (first | exact SnapsO.nil | refine SnapsO.cons (Snap.d _) rfl ?_ | refine SnapsO.cons (snap_full rfl rfl) rfl ?_))) ?_)) (sliceIndex_n ps v hn)) ?_
  refine s_rd _ rfl (by first | exact mv_d (.inr rfl) rfl | exact mv_msl (.inr rfl) rfl | exact mv_mptr (.inr rfl) rfl | exact mv_agg (.inr rfl) rfl | exact mv_tup (.inr rfl) rfl | exact mv_ifc (.inr rfl) rfl | exact mv_fnc (.inr rfl) rfl | exact mv_mmap (.inr rfl) rfl | exact rd_move (.inr rfl)) ?_
  refine tops_nil ?_
  refine twp_norm [4] (by repeat (first | exact SubK.nil | apply sub_d rfl | apply sub_msl rfl | apply sub_mptr rfl | apply sub_agg rfl | apply sub_tup rfl | apply sub_ifc rfl | apply sub_fnc rfl | apply sub_mmap rfl | apply SubK.cons _ _ _ _ rfl)) (by repeat (first | exact blk_nil rfl | apply blk_flat rfl | apply blk_box rfl | apply blk_map rfl | apply blk_dead rfl | rfl)) ?_
  refine twp_ret ?_
  exact Ends.plain _ rfl

theorem tableIndex_n (ps : List Int) (v : Int) (hn : ps.length ≤ 100000) : RetN Try.prog 23 [tabD ps, .int .i64 v] (.int .i64 (idxFrom ps v 0)) := .lit (tableIndex_ret ps v hn _) rfl

theorem callB19 : callB Try.prog 19 = true := by kernel_rfl

theorem lay33 : lay Try.prog 33 = some (true, 5) := by kernel_rfl

theorem positions_ret (ps : List Int) (ms : List Mach) (n : Int) (hn : ps.length ≤ 100000) (hm : ms.length ≤ 100000) (mv : Nat → Bool) : Ret Try.prog 19 [] mv ([tabD ps, D.sl 3 (ms.map Mach.enc), D.int .i64 n].map .d) (.msl 0 1 0 (positions ps ms n).length) [.flat 3 1 ((positions ps ms n).map (D.int .i64))] := by
  refine ret_body callB19 Try.func19 rfl Try.ntmps19 rfl rfl (fun wX gX => ?_)
  refine twp_norm [0, 1, 2] (by repeat (first | exact SubK.nil | apply sub_d rfl | apply sub_msl rfl | apply sub_mptr rfl | apply sub_agg rfl | apply sub_tup rfl | apply sub_ifc rfl | apply sub_fnc rfl | apply sub_mmap rfl | apply SubK.cons _ _ _ _ rfl)) (by repeat (first | exact blk_nil rfl | apply blk_flat rfl | apply blk_box rfl | apply blk_map rfl | apply blk_dead rfl | rfl)) ?_
  refine twp_rseq ?_
  refine s_boxA rfl rfl rfl ?_
  refine s_rd _ rfl (by first | exact mv_d (.inr rfl) rfl | exact mv_msl (.inr rfl) rfl | exact mv_mptr (.inr rfl) rfl | exact mv_agg (.inr rfl) rfl | exact mv_tup (.inr rfl) rfl | exact mv_ifc (.inr rfl) rfl | exact mv_fnc (.inr rfl) rfl | exact mv_mmap (.inr rfl) rfl | exact rd_move (.inr rfl)) ?_
  refine tops_nil ?_
  refine twp_norm [1, 2, 3] (by repeat (first | exact SubK.nil | apply sub_d rfl | apply sub_msl rfl | apply sub_mptr rfl | apply sub_agg rfl | apply sub_tup rfl | apply sub_ifc rfl | apply sub_fnc rfl | apply sub_mmap rfl | apply SubK.cons _ _ _ _ rfl)) (by repeat (first | exact blk_nil rfl | apply blk_flat rfl | apply blk_box rfl | apply blk_map rfl | apply blk_dead rfl | rfl)) ?_
  refine twp_seq ?_
  refine twp_rseq ?_
  refine s_rd _ rfl (by first | exact mv_d (.inl rfl) rfl | exact mv_msl (.inl rfl) rfl | exact mv_mptr (.inl rfl) rfl | exact mv_agg (.inl rfl) rfl | exact mv_tup (.inl rfl) rfl | exact mv_ifc (.inl rfl) rfl | exact mv_fnc (.inl rfl) rfl | exact mv_mmap (.inl rfl) rfl | exact rd_move (.inl rfl)) ?_
  refine s_rd _ rfl (by first | exact cmp_int rfl rfl rfl rfl | exact cmp_bool rfl rfl rfl rfl) ?_
  refine s_rd _ rfl (by first | exact mv_d (.inl rfl) rfl | exact mv_msl (.inl rfl) rfl | exact mv_mptr (.inl rfl) rfl | exact mv_agg (.inl rfl) rfl | exact mv_tup (.inl rfl) rfl | exact mv_ifc (.inl rfl) rfl | exact mv_fnc (.inl rfl) rfl | exact mv_mmap (.inl rfl) rfl | exact rd_move (.inl rfl)) ?_
  refine s_split 12 rfl (fun h1 => ?_) (fun h1 => ?_)
  · have h1 : n < 0 := of_decide_eq_true h1
    have hpos : positions ps ms n = [] := by simp [positions, h1]
    refine s_no rfl rfl rfl rfl ?_
    refine s_no rfl rfl rfl rfl ?_
    refine s_rd _ rfl (by first | exact pick_Td rfl rfl rfl | exact pick_Fd rfl rfl rfl | exact rd_pickBool _ _ _ rfl rfl rfl rfl | exact pick_T rfl rfl rfl | exact pick_F rfl rfl rfl) ?_
    refine tops_nil ?_
    refine twp_norm [1, 2, 3, 15] (by repeat (first | exact SubK.nil | apply sub_d rfl | apply sub_msl rfl | apply sub_mptr rfl | apply sub_agg rfl | apply sub_tup rfl | apply sub_ifc rfl | apply sub_fnc rfl | apply sub_mmap rfl | apply SubK.cons _ _ _ _ rfl)) (by repeat (first | exact blk_nil rfl | apply blk_flat rfl | apply blk_box rfl | apply blk_map rfl | apply blk_dead rfl | rfl)) ?_
    refine twp_cond true rfl (fun _ => ?_) (fun h => by cases h)
    refine twp_rseq ?_
    refine s_assignNil 3 1 rfl rfl ?_
    refine tops_nil ?_
    refine twp_norm [6] (by repeat (first | exact SubK.nil | apply sub_d rfl | apply sub_msl rfl | apply sub_mptr rfl | apply sub_agg rfl | apply sub_tup rfl | apply sub_ifc rfl | apply sub_fnc rfl | apply sub_mmap rfl | apply SubK.cons _ _ _ _ rfl)) (by repeat (first | exact blk_nil rfl | apply blk_flat rfl | apply blk_box rfl | apply blk_map rfl | apply blk_dead rfl | rfl)) ?_
    refine twp_ret ?_
    refine way_thenRet ?_
    exact ⟨_, [1], rfl, by decide, fun i hi => absurd hi (Nat.not_lt_zero i), by rw [hpos]; simp [mixI_length]; rfl, by rw [hpos]; rfl⟩
  · have h1 : ¬ n < 0 := of_decide_eq_false h1
    refine s_yes rfl rfl rfl ?_
    refine s_rd _ rfl (by first | exact mv_d (.inl rfl) rfl | exact mv_msl (.inl rfl) rfl | exact mv_mptr (.inl rfl) rfl | exact mv_agg (.inl rfl) rfl | exact mv_tup (.inl rfl) rfl | exact mv_ifc (.inl rfl) rfl | exact mv_fnc (.inl rfl) rfl | exact mv_mmap (.inl rfl) rfl | exact rd_move (.inl rfl)) ?_
    refine s_yes rfl rfl rfl ?_
    refine s_rd _ rfl (by first | exact cmp_int rfl rfl rfl rfl | exact cmp_bool rfl rfl rfl rfl) ?_
    refine s_rd _ rfl (by first | exact pick_Td rfl rfl rfl | exact pick_Fd rfl rfl rfl | exact rd_pickBool _ _ _ rfl rfl rfl rfl | exact pick_T rfl rfl rfl | exact pick_F rfl rfl rfl) ?_
    refine tops_nil ?_
    refine twp_norm [1, 2, 3, 15] (by repeat (first | exact SubK.nil | apply sub_d rfl | apply sub_msl rfl | apply sub_mptr rfl | apply sub_agg rfl | apply sub_tup rfl | apply sub_ifc rfl | apply sub_fnc rfl | apply sub_mmap rfl | apply SubK.cons _ _ _ _ rfl)) (by repeat (first | exact blk_nil rfl | apply blk_flat rfl | apply blk_box rfl | apply blk_map rfl | apply blk_dead rfl | rfl)) ?_
    refine twp_cond _ rfl (fun h2 => ?_) (fun h2 => ?_)
    · have h2 : 32 < n := of_decide_eq_true h2
      have hpos : positions ps ms n = [] := by simp [positions, h2]
      refine twp_rseq ?_
      refine s_assignNil 3 1 rfl rfl ?_
      refine tops_nil ?_
      refine twp_norm [6] (by repeat (first | exact SubK.nil | apply sub_d rfl | apply sub_msl rfl | apply sub_mptr rfl | apply sub_agg rfl | apply sub_tup rfl | apply sub_ifc rfl | apply sub_fnc rfl | apply sub_mmap rfl | apply SubK.cons _ _ _ _ rfl)) (by repeat (first | exact blk_nil rfl | apply blk_flat rfl | apply blk_box rfl | apply blk_map rfl | apply blk_dead rfl | rfl)) ?_
      refine twp_ret ?_
      refine way_thenRet ?_
      exact ⟨_, [1], rfl, by decide, fun i hi => absurd hi (Nat.not_lt_zero i), by rw [hpos]; simp [mixI_length]; rfl, by rw [hpos]; rfl⟩
    · have h2 : ¬ 32 < n := of_decide_eq_false h2
      obtain ⟨k, rfl⟩ : ∃ k : Nat, n = (k : Int) := Int.eq_ofNat_of_zero_le (by omega)
      have hk : k ≤ 32 := by omega
      have hpos0 : positions ps ms (k : Int) = (List.range k).map fun (s : Nat) => posAt ps ms (s : Int) := by simp [positions, h1, h2]
      refine twp_skip ?_
      refine way_then ?_
      refine twp_norm [1, 2, 3] (by repeat (first | exact SubK.nil | apply sub_d rfl | apply sub_msl rfl | apply sub_mptr rfl | apply sub_agg rfl | apply sub_tup rfl | apply sub_ifc rfl | apply sub_fnc rfl | apply sub_mmap rfl | apply SubK.cons _ _ _ _ rfl)) (by repeat (first | exact blk_nil rfl | apply blk_flat rfl | apply blk_box rfl | apply blk_map rfl | apply blk_dead rfl | rfl)) ?_
      refine twp_rseq ?_
      refine s_rd _ rfl (by first | exact mv_d (.inl rfl) rfl | exact mv_msl (.inl rfl) rfl | exact mv_mptr (.inl rfl) rfl | exact mv_agg (.inl rfl) rfl | exact mv_tup (.inl rfl) rfl | exact mv_ifc (.inl rfl) rfl | exact mv_fnc (.inl rfl) rfl | exact mv_mmap (.inl rfl) rfl | exact rd_move (.inl rfl)) ?_
      refine s_makeSlice (n := k) rfl sel23 zero3 rfl rfl rfl rfl (by omega) (by omega) ?_
      refine s_rd _ rfl (by first | exact mv_d (.inr rfl) rfl | exact mv_msl (.inr rfl) rfl | exact mv_mptr (.inr rfl) rfl | exact mv_agg (.inr rfl) rfl | exact mv_tup (.inr rfl) rfl | exact mv_ifc (.inr rfl) rfl | exact mv_fnc (.inr rfl) rfl | exact mv_mmap (.inr rfl) rfl | exact rd_move (.inr rfl)) ?_
      refine tops_nil ?_
      refine twp_norm [1, 3, 7] (by repeat (first | exact SubK.nil | apply sub_d rfl | apply sub_msl rfl | apply sub_mptr rfl | apply sub_agg rfl | apply sub_tup rfl | apply sub_ifc rfl | apply sub_fnc rfl | apply sub_mmap rfl | apply SubK.cons _ _ _ _ rfl)) (by repeat (first | exact blk_nil rfl | apply blk_flat rfl | apply blk_box rfl | apply blk_map rfl | apply blk_dead rfl | rfl)) ?_
      refine twp_seq ?_
      refine twp_rseq ?_
      refine s_rd _ rfl (by first | exact mv_d (.inl rfl) rfl | exact mv_msl (.inl rfl) rfl | exact mv_mptr (.inl rfl) rfl | exact mv_agg (.inl rfl) rfl | exact mv_tup (.inl rfl) rfl | exact mv_ifc (.inl rfl) rfl | exact mv_fnc (.inl rfl) rfl | exact mv_mmap (.inl rfl) rfl | exact rd_move (.inl rfl)) ?_
      refine s_rd _ rfl (by first | exact len_d rfl sel23 rfl (by first | exact List.length_map _ | rfl) | exact len_msl rfl sel23 rfl | exact len_nil rfl sel23 rfl) ?_
      refine s_rd _ rfl (by first | exact mv_d (.inl rfl) rfl | exact mv_msl (.inl rfl) rfl | exact mv_mptr (.inl rfl) rfl | exact mv_agg (.inl rfl) rfl | exact mv_tup (.inl rfl) rfl | exact mv_ifc (.inl rfl) rfl | exact mv_fnc (.inl rfl) rfl | exact mv_mmap (.inl rfl) rfl | exact rd_move (.inl rfl)) ?_
      refine tops_nil ?_
      refine twp_norm [1, 3, 7, 19, 20] (by repeat (first | exact SubK.nil | apply sub_d rfl | apply sub_msl rfl | apply sub_mptr rfl | apply sub_agg rfl | apply sub_tup rfl | apply sub_ifc rfl | apply sub_fnc rfl | apply sub_mmap rfl | apply SubK.cons _ _ _ _ rfl)) (by repeat (first | exact blk_nil rfl | apply blk_flat rfl | apply blk_box rfl | apply blk_map rfl | apply blk_dead rfl | rfl)) ?_
      refine twp_block ?_
      refine twp_while (fun i => (⟨[(1, .d (.sl 3 (ms.map Mach.enc))), (3, .mptr 0 0 0 0), (7, .msl 1 1 0 k), (19, .d (.int .i64 ((k : Nat) : Int))), (20, .d (.int .i64 ((i : Nat) : Int)))], [.box 33 [.d .nilsl, .d (.sl 1 (ps.map (D.int .i64))), .d .nilsl, .d (.int .i64 0), .d (.int .i64 0)], .flat 3 1 ((mixI (fun j _ => posAt ps ms ((j : Nat) : Int)) (List.replicate k 0) i).map (D.int .i64))]⟩ : St)) (fun i => i ≤ k) (fun i => k - i) [1, 3, 7, 19, 20] [0, 1] 0 (by decide) (fun i hi => absurd hi (Nat.not_lt_zero i)) (by simp) (by rw [mixI_zero, List.map_replicate]; try rfl) ?_
      rintro i hok
      refine twp_norm [1, 3, 7, 19, 20] (by repeat (first | exact SubK.nil | apply sub_d rfl | apply sub_msl rfl | apply sub_mptr rfl | apply sub_agg rfl | apply sub_tup rfl | apply sub_ifc rfl | apply sub_fnc rfl | apply sub_mmap rfl | apply SubK.cons _ _ _ _ rfl)) (by repeat (first | exact blk_nil rfl | apply blk_flat rfl | apply blk_box rfl | apply blk_map rfl | apply blk_dead rfl | rfl)) ?_
      refine twp_rseq ?_
      refine s_rd _ rfl (by first | exact cmp_int rfl rfl rfl rfl | exact cmp_bool rfl rfl rfl rfl) ?_
      refine tops_nil ?_
      refine twp_norm [1, 3, 7, 19, 20, 21] (by repeat (first | exact SubK.nil | apply sub_d rfl | apply sub_msl rfl | apply sub_mptr rfl | apply sub_agg rfl | apply sub_tup rfl | apply sub_ifc rfl | apply sub_fnc rfl | apply sub_mmap rfl | apply SubK.cons _ _ _ _ rfl)) (by repeat (first | exact blk_nil rfl | apply blk_flat rfl | apply blk_box rfl | apply blk_map rfl | apply blk_dead rfl | rfl)) ?_
      refine twp_seq ?_
      refine twp_cond _ rfl (fun hlt => ?_) (fun hlt => ?_)
      · have hlt : i < k := by simpa using hlt
        have hm0 : (List.replicate k (0 : Int))[i]? = some 0 := by simp [hlt]
        have hg := el_map (f := D.int .i64) (mixI_get (fun j _ => posAt ps ms ((j : Nat) : Int)) hm0)
        refine twp_skip ?_
        refine way_then ?_
        refine twp_norm [1, 3, 7, 19, 20] (by repeat (first | exact SubK.nil | apply sub_d rfl | apply sub_msl rfl | apply sub_mptr rfl | apply sub_agg rfl | apply sub_tup rfl | apply sub_ifc rfl | apply sub_fnc rfl | apply sub_mmap rfl | apply SubK.cons _ _ _ _ rfl)) (by repeat (first | exact blk_nil rfl | apply blk_flat rfl | apply blk_box rfl | apply blk_map rfl | apply blk_dead rfl | rfl)) ?_
        refine twp_seq ?_
        refine twp_block ?_
        refine twp_rseq ?_
        refine s_rd _ rfl (by first | exact mv_d (.inl rfl) rfl | exact mv_msl (.inl rfl) rfl | exact mv_mptr (.inl rfl) rfl | exact mv_agg (.inl rfl) rfl | exact mv_tup (.inl rfl) rfl | exact mv_ifc (.inl rfl) rfl | exact mv_fnc (.inl rfl) rfl | exact mv_mmap (.inl rfl) rfl | exact rd_move (.inl rfl)) ?_
        refine s_rd _ rfl (by first | exact mv_d (.inr rfl) rfl | exact mv_msl (.inr rfl) rfl | exact mv_mptr (.inr rfl) rfl | exact mv_agg (.inr rfl) rfl | exact mv_tup (.inr rfl) rfl | exact mv_ifc (.inr rfl) rfl | exact mv_fnc (.inr rfl) rfl | exact mv_mmap (.inr rfl) rfl | exact rd_move (.inr rfl)) ?_
        refine tops_nil ?_
        refine twp_norm [1, 3, 7, 8, 19, 20] (by repeat (first | exact SubK.nil | apply sub_d rfl | apply sub_msl rfl | apply sub_mptr rfl | apply sub_agg rfl | apply sub_tup rfl | apply sub_ifc rfl | apply sub_fnc rfl | apply sub_mmap rfl | apply SubK.cons _ _ _ _ rfl)) (by repeat (first | exact blk_nil rfl | apply blk_flat rfl | apply blk_box rfl | apply blk_map rfl | apply blk_dead rfl | rfl)) ?_
        refine twp_rseq ?_
        refine s_rd _ rfl (by first | exact load_ptrW rfl lay33 rfl rfl rfl | exact load_flatW rfl lay33 rfl rfl (by first | rfl | assumption | (simp only [List.getElem?_map, Option.map_some, *]; done)) rfl rfl | exact load_boxA_d rfl lay33 rfl rfl (Nat.le_of_ble_eq_true rfl) rfl | exact load_boxA rfl lay33 rfl rfl (Nat.le_of_ble_eq_true rfl) rfl | exact load_ptrA rfl lay33 rfl (Nat.le_of_ble_eq_true rfl) rfl) ?_
        refine s_rd _ rfl (by first | exact mv_d (.inl rfl) rfl | exact mv_msl (.inl rfl) rfl | exact mv_mptr (.inl rfl) rfl | exact mv_agg (.inl rfl) rfl | exact mv_tup (.inl rfl) rfl | exact mv_ifc (.inl rfl) rfl | exact mv_fnc (.inl rfl) rfl | exact mv_mmap (.inl rfl) rfl | exact rd_move (.inl rfl)) ?_
        refine s_rd _ rfl (rd_callRN rfl rfl (by repeat (first | exact snaps_nil | refine snaps_cons (.d _) ?_ | refine snaps_cons (snap_full rfl (by simp)) ?_ | refine snaps_cons (snap_full rfl rfl) ?_ | refine snaps_cons (snap_agg (by repeat (first | exact SnapsO.nil | refine SnapsO.cons (Snap.d _) rfl ?_ | refine SnapsO.cons (snap_full rfl rfl) rfl ?_))) ?_)) (tableIndex_n ps (i : Int) hn)) ?_
        refine s_rd _ rfl (by first | exact mv_d (.inr rfl) rfl | exact mv_msl (.inr rfl) rfl | exact mv_mptr (.inr rfl) rfl | exact mv_agg (.inr rfl) rfl | exact mv_tup (.inr rfl) rfl | exact mv_ifc (.inr rfl) rfl | exact mv_fnc (.inr rfl) rfl | exact mv_mmap (.inr rfl) rfl | exact rd_move (.inr rfl)) ?_
        refine tops_nil ?_
        refine twp_norm [1, 3, 7, 8, 9, 19, 20] (by repeat (first | exact SubK.nil | apply sub_d rfl | apply sub_msl rfl | apply sub_mptr rfl | apply sub_agg rfl | apply sub_tup rfl | apply sub_ifc rfl | apply sub_fnc rfl | apply sub_mmap rfl | apply SubK.cons _ _ _ _ rfl)) (by repeat (first | exact blk_nil rfl | apply blk_flat rfl | apply blk_box rfl | apply blk_map rfl | apply blk_dead rfl | rfl)) ?_
        refine twp_rseq ?_
        refine s_rd _ rfl (by first | exact mv_d (.inl rfl) rfl | exact mv_msl (.inl rfl) rfl | exact mv_mptr (.inl rfl) rfl | exact mv_agg (.inl rfl) rfl | exact mv_tup (.inl rfl) rfl | exact mv_ifc (.inl rfl) rfl | exact mv_fnc (.inl rfl) rfl | exact mv_mmap (.inl rfl) rfl | exact rd_move (.inl rfl)) ?_
        refine s_rd _ rfl (by first | exact cmp_int rfl rfl rfl rfl | exact cmp_bool rfl rfl rfl rfl) ?_
        refine s_rd _ rfl (by first | exact mv_d (.inl rfl) rfl | exact mv_msl (.inl rfl) rfl | exact mv_mptr (.inl rfl) rfl | exact mv_agg (.inl rfl) rfl | exact mv_tup (.inl rfl) rfl | exact mv_ifc (.inl rfl) rfl | exact mv_fnc (.inl rfl) rfl | exact mv_mmap (.inl rfl) rfl | exact rd_move (.inl rfl)) ?_
        refine s_split 28 rfl (fun h3 => ?_) (fun h3 => ?_)
        · have h3 : 0 ≤ idxFrom ps (i : Int) 0 := of_decide_eq_true h3
          refine s_yes rfl rfl rfl ?_
          refine s_rd _ rfl (by first | exact mv_d (.inl rfl) rfl | exact mv_msl (.inl rfl) rfl | exact mv_mptr (.inl rfl) rfl | exact mv_agg (.inl rfl) rfl | exact mv_tup (.inl rfl) rfl | exact mv_ifc (.inl rfl) rfl | exact mv_fnc (.inl rfl) rfl | exact mv_mmap (.inl rfl) rfl | exact rd_move (.inl rfl)) ?_
          refine s_yes rfl rfl rfl ?_
          refine s_rd _ rfl (by first | exact mv_d (.inl rfl) rfl | exact mv_msl (.inl rfl) rfl | exact mv_mptr (.inl rfl) rfl | exact mv_agg (.inl rfl) rfl | exact mv_tup (.inl rfl) rfl | exact mv_ifc (.inl rfl) rfl | exact mv_fnc (.inl rfl) rfl | exact mv_mmap (.inl rfl) rfl | exact rd_move (.inl rfl)) ?_
          refine s_yes rfl rfl rfl ?_
          refine s_rd _ rfl (by first | exact len_d rfl sel22 rfl (by first | exact List.length_map _ | rfl) | exact len_msl rfl sel22 rfl | exact len_nil rfl sel22 rfl) ?_
          refine s_yes rfl rfl rfl ?_
          refine s_rd _ rfl (by first | exact cmp_int rfl rfl rfl rfl | exact cmp_bool rfl rfl rfl rfl) ?_
          refine s_rd _ rfl (by first | exact pick_Td rfl rfl rfl | exact pick_Fd rfl rfl rfl | exact rd_pickBool _ _ _ rfl rfl rfl rfl | exact pick_T rfl rfl rfl | exact pick_F rfl rfl rfl) ?_
          refine tops_nil ?_
          refine twp_norm [1, 3, 7, 8, 9, 19, 20, 33] (by repeat (first | exact SubK.nil | apply sub_d rfl | apply sub_msl rfl | apply sub_mptr rfl | apply sub_agg rfl | apply sub_tup rfl | apply sub_ifc rfl | apply sub_fnc rfl | apply sub_mmap rfl | apply SubK.cons _ _ _ _ rfl)) (by repeat (first | exact blk_nil rfl | apply blk_flat rfl | apply blk_box rfl | apply blk_map rfl | apply blk_dead rfl | rfl)) ?_
          refine twp_cond _ rfl (fun h4 => ?_) (fun h4 => ?_)
          · have h4 : idxFrom ps (i : Int) 0 < (ms.length : Int) := of_decide_eq_true h4
            obtain ⟨m, hmm⟩ : ∃ m, ms[(idxFrom ps (i : Int) 0).toNat]? = some m := ⟨_, List.getElem?_eq_getElem (by omega)⟩
            have hE : ((mixI (fun j _ => posAt ps ms ((j : Nat) : Int)) (List.replicate k 0) i).map (D.int .i64)).set i (D.int .i64 m.pos) = (mixI (fun j _ => posAt ps ms ((j : Nat) : Int)) (List.replicate k 0) (i + 1)).map (D.int .i64) := mixI_setE _ _ hm0 (congrArg (D.int .i64) (posAt_hit h3 hmm))
            refine twp_region ?_
            refine s_rd _ rfl (by first | exact mv_d (.inl rfl) rfl | exact mv_msl (.inl rfl) rfl | exact mv_mptr (.inl rfl) rfl | exact mv_agg (.inl rfl) rfl | exact mv_tup (.inl rfl) rfl | exact mv_ifc (.inl rfl) rfl | exact mv_fnc (.inl rfl) rfl | exact mv_mmap (.inl rfl) rfl | exact rd_move (.inl rfl)) ?_
            refine s_rd _ rfl (by first | exact mv_d (.inl rfl) rfl | exact mv_msl (.inl rfl) rfl | exact mv_mptr (.inl rfl) rfl | exact mv_agg (.inl rfl) rfl | exact mv_tup (.inl rfl) rfl | exact mv_ifc (.inl rfl) rfl | exact mv_fnc (.inl rfl) rfl | exact mv_mmap (.inl rfl) rfl | exact rd_move (.inl rfl)) ?_
            refine s_rd _ rfl (by first | exact mv_d (.inl rfl) rfl | exact mv_msl (.inl rfl) rfl | exact mv_mptr (.inl rfl) rfl | exact mv_agg (.inl rfl) rfl | exact mv_tup (.inl rfl) rfl | exact mv_ifc (.inl rfl) rfl | exact mv_fnc (.inl rfl) rfl | exact mv_mmap (.inl rfl) rfl | exact rd_move (.inl rfl)) ?_
            refine s_rd _ rfl (by first | exact mv_d (.inl rfl) rfl | exact mv_msl (.inl rfl) rfl | exact mv_mptr (.inl rfl) rfl | exact mv_agg (.inl rfl) rfl | exact mv_tup (.inl rfl) rfl | exact mv_ifc (.inl rfl) rfl | exact mv_fnc (.inl rfl) rfl | exact mv_mmap (.inl rfl) rfl | exact rd_move (.inl rfl)) ?_
            refine s_rd _ rfl (by first | exact index_msl0 rfl sel22 rfl rfl (by first | assumption | omega | (simp; omega)) | exact index_sl rfl sel22 rfl rfl ⟨h3, el_map hmm⟩) ?_
            refine s_rd _ rfl (by first | exact fieldAddr_ptr rfl fld39_0 rfl rfl | exact fieldAddr_mptr rfl fld39_0 rfl rfl) ?_
            refine s_rd _ rfl (by first | exact load_ptr rfl lay3 rfl rfl | exact load_flat rfl lay3 rfl rfl (by first | rfl | assumption | (simp only [List.getElem?_map, Option.map_some, *]; done)) rfl | exact load_box_d rfl lay3 rfl rfl rfl | exact load_box rfl lay3 rfl rfl rfl) ?_
            refine s_rd _ rfl (by first | exact index_msl0 rfl sel23 rfl rfl (by first | assumption | omega | (simp; omega)) | exact index_sl rfl sel23 rfl rfl (by first | exact ⟨by omega, by assumption⟩ | exact idx_map (by assumption) | exact idx_id (by assumption))) ?_
            first
              | refine s_store_box lay3 rfl rfl rfl rfl rfl (Nat.le_of_ble_eq_true rfl) rfl ?_
              | refine s_store_flat lay3 rfl rfl rfl rfl hg (by first | exact .inl rfl | exact .inr rfl) (Nat.le_of_ble_eq_true rfl) rfl ?_
            refine tops_nil ?_
            refine way_block ?_
            refine way_then ?_
            refine twp_norm [1, 3, 7, 19, 20] (by repeat (first | exact SubK.nil | apply sub_d rfl | apply sub_msl rfl | apply sub_mptr rfl | apply sub_agg rfl | apply sub_tup rfl | apply sub_ifc rfl | apply sub_fnc rfl | apply sub_mmap rfl | apply SubK.cons _ _ _ _ rfl)) (by repeat (first | exact blk_nil rfl | apply blk_flat rfl | apply blk_box rfl | apply blk_map rfl | apply blk_dead rfl | rfl)) ?_
            refine twp_region ?_
            refine s_rd _ rfl (arith_ok rfl rfl rfl rfl (by first | omega | (constructor <;> omega))) ?_
            refine s_rd _ rfl (by first | exact mv_d (.inl rfl) rfl | exact mv_msl (.inl rfl) rfl | exact mv_mptr (.inl rfl) rfl | exact mv_agg (.inl rfl) rfl | exact mv_tup (.inl rfl) rfl | exact mv_ifc (.inl rfl) rfl | exact mv_fnc (.inl rfl) rfl | exact mv_mmap (.inl rfl) rfl | exact rd_move (.inl rfl)) ?_
            refine tops_nil ?_
            refine way_then ?_
            exact ⟨(i + 1), [0, 1], by decide, fun i hi => absurd hi (Nat.not_lt_zero i), (by omega), (by omega), (congrArg (fun es => (⟨(fun i => ([(1, .d (.sl 3 (ms.map Mach.enc))), (3, .mptr 0 0 0 0), (7, .msl 1 1 0 k), (19, .d (.int .i64 ((k : Nat) : Int))), (20, .d (.int .i64 ((i : Nat) : Int)))] : Fr)) (i + 1), [.box 33 [.d .nilsl, .d (.sl 1 (ps.map (D.int .i64))), .d .nilsl, .d (.int .i64 0), .d (.int .i64 0)], .flat 3 1 es]⟩ : St)) hE)⟩
          · have h4 : ¬ idxFrom ps (i : Int) 0 < (ms.length : Int) := of_decide_eq_false h4
            have hE := congrArg (List.map (D.int .i64)) (mixI_keep (fun j _ => posAt ps ms ((j : Nat) : Int)) hm0 (posAt_miss (.inr (by omega))))
            refine twp_skip ?_
            refine way_block ?_
            refine way_then ?_
            refine twp_norm [1, 3, 7, 19, 20] (by repeat (first | exact SubK.nil | apply sub_d rfl | apply sub_msl rfl | apply sub_mptr rfl | apply sub_agg rfl | apply sub_tup rfl | apply sub_ifc rfl | apply sub_fnc rfl | apply sub_mmap rfl | apply SubK.cons _ _ _ _ rfl)) (by repeat (first | exact blk_nil rfl | apply blk_flat rfl | apply blk_box rfl | apply blk_map rfl | apply blk_dead rfl | rfl)) ?_
            refine twp_region ?_
            refine s_rd _ rfl (arith_ok rfl rfl rfl rfl (by first | omega | (constructor <;> omega))) ?_
            refine s_rd _ rfl (by first | exact mv_d (.inl rfl) rfl | exact mv_msl (.inl rfl) rfl | exact mv_mptr (.inl rfl) rfl | exact mv_agg (.inl rfl) rfl | exact mv_tup (.inl rfl) rfl | exact mv_ifc (.inl rfl) rfl | exact mv_fnc (.inl rfl) rfl | exact mv_mmap (.inl rfl) rfl | exact rd_move (.inl rfl)) ?_
            refine tops_nil ?_
            refine way_then ?_
            exact ⟨(i + 1), [0, 1], by decide, fun i hi => absurd hi (Nat.not_lt_zero i), (by omega), (by omega), (congrArg (fun es => (⟨(fun i => ([(1, .d (.sl 3 (ms.map Mach.enc))), (3, .mptr 0 0 0 0), (7, .msl 1 1 0 k), (19, .d (.int .i64 ((k : Nat) : Int))), (20, .d (.int .i64 ((i : Nat) : Int)))] : Fr)) (i + 1), [.box 33 [.d .nilsl, .d (.sl 1 (ps.map (D.int .i64))), .d .nilsl, .d (.int .i64 0), .d (.int .i64 0)], .flat 3 1 es]⟩ : St)) hE)⟩
        · have h3 : ¬ 0 ≤ idxFrom ps (i : Int) 0 := of_decide_eq_false h3
          have hE := congrArg (List.map (D.int .i64)) (mixI_keep (fun j _ => posAt ps ms ((j : Nat) : Int)) hm0 (posAt_miss (.inl (by omega))))
          refine s_no rfl rfl rfl rfl ?_
          refine s_no rfl rfl rfl rfl ?_
          refine s_no rfl rfl rfl rfl ?_
          refine s_no rfl rfl rfl rfl ?_
          refine s_rd _ rfl (by first | exact pick_Td rfl rfl rfl | exact pick_Fd rfl rfl rfl | exact rd_pickBool _ _ _ rfl rfl rfl rfl | exact pick_T rfl rfl rfl | exact pick_F rfl rfl rfl) ?_
          refine tops_nil ?_
          refine twp_norm [1, 3, 7, 8, 9, 19, 20, 33] (by repeat (first | exact SubK.nil | apply sub_d rfl | apply sub_msl rfl | apply sub_mptr rfl | apply sub_agg rfl | apply sub_tup rfl | apply sub_ifc rfl | apply sub_fnc rfl | apply sub_mmap rfl | apply SubK.cons _ _ _ _ rfl)) (by repeat (first | exact blk_nil rfl | apply blk_flat rfl | apply blk_box rfl | apply blk_map rfl | apply blk_dead rfl | rfl)) ?_
          refine twp_cond false rfl (fun h => by cases h) (fun _ => ?_)
          refine twp_skip ?_
          refine way_block ?_
          refine way_then ?_
          refine twp_norm [1, 3, 7, 19, 20] (by repeat (first | exact SubK.nil | apply sub_d rfl | apply sub_msl rfl | apply sub_mptr rfl | apply sub_agg rfl | apply sub_tup rfl | apply sub_ifc rfl | apply sub_fnc rfl | apply sub_mmap rfl | apply SubK.cons _ _ _ _ rfl)) (by repeat (first | exact blk_nil rfl | apply blk_flat rfl | apply blk_box rfl | apply blk_map rfl | apply blk_dead rfl | rfl)) ?_
          refine twp_region ?_
          refine s_rd _ rfl (arith_ok rfl rfl rfl rfl (by first | omega | (constructor <;> omega))) ?_
          refine s_rd _ rfl (by first | exact mv_d (.inl rfl) rfl | exact mv_msl (.inl rfl) rfl | exact mv_mptr (.inl rfl) rfl | exact mv_agg (.inl rfl) rfl | exact mv_tup (.inl rfl) rfl | exact mv_ifc (.inl rfl) rfl | exact mv_fnc (.inl rfl) rfl | exact mv_mmap (.inl rfl) rfl | exact rd_move (.inl rfl)) ?_
          refine tops_nil ?_
          refine way_then ?_
          exact ⟨(i + 1), [0, 1], by decide, fun i hi => absurd hi (Nat.not_lt_zero i), (by omega), (by omega), (congrArg (fun es => (⟨(fun i => ([(1, .d (.sl 3 (ms.map Mach.enc))), (3, .mptr 0 0 0 0), (7, .msl 1 1 0 k), (19, .d (.int .i64 ((k : Nat) : Int))), (20, .d (.int .i64 ((i : Nat) : Int)))] : Fr)) (i + 1), [.box 33 [.d .nilsl, .d (.sl 1 (ps.map (D.int .i64))), .d .nilsl, .d (.int .i64 0), .d (.int .i64 0)], .flat 3 1 es]⟩ : St)) hE)⟩
      · have hlt : ¬ i < k := by simpa using hlt
        have hpos : positions ps ms (k : Int) = mixI (fun j _ => posAt ps ms ((j : Nat) : Int)) (List.replicate k 0) i := by rw [mixI_all _ _ (by simp; omega), mapIdx_replicate (fun j => posAt ps ms (j : Int)), hpos0]
        refine twp_exit ?_
        refine way_thenExit ?_
        refine way_thenExit ?_
        refine way_here ?_
        refine way_then ?_
        refine twp_norm [7] (by repeat (first | exact SubK.nil | apply sub_d rfl | apply sub_msl rfl | apply sub_mptr rfl | apply sub_agg rfl | apply sub_tup rfl | apply sub_ifc rfl | apply sub_fnc rfl | apply sub_mmap rfl | apply SubK.cons _ _ _ _ rfl)) (by repeat (first | exact blk_nil rfl | apply blk_flat rfl | apply blk_box rfl | apply blk_map rfl | apply blk_dead rfl | rfl)) ?_
        refine twp_rseq ?_
        refine s_rd _ rfl (by first | exact mv_d (.inl rfl) rfl | exact mv_msl (.inl rfl) rfl | exact mv_mptr (.inl rfl) rfl | exact mv_agg (.inl rfl) rfl | exact mv_tup (.inl rfl) rfl | exact mv_ifc (.inl rfl) rfl | exact mv_fnc (.inl rfl) rfl | exact mv_mmap (.inl rfl) rfl | exact rd_move (.inl rfl)) ?_
        refine s_rd _ rfl (by first | exact mv_d (.inr rfl) rfl | exact mv_msl (.inr rfl) rfl | exact mv_mptr (.inr rfl) rfl | exact mv_agg (.inr rfl) rfl | exact mv_tup (.inr rfl) rfl | exact mv_ifc (.inr rfl) rfl | exact mv_fnc (.inr rfl) rfl | exact mv_mmap (.inr rfl) rfl | exact rd_move (.inr rfl)) ?_
        refine tops_nil ?_
        refine twp_norm [6] (by repeat (first | exact SubK.nil | apply sub_d rfl | apply sub_msl rfl | apply sub_mptr rfl | apply sub_agg rfl | apply sub_tup rfl | apply sub_ifc rfl | apply sub_fnc rfl | apply sub_mmap rfl | apply SubK.cons _ _ _ _ rfl)) (by repeat (first | exact blk_nil rfl | apply blk_flat rfl | apply blk_box rfl | apply blk_map rfl | apply blk_dead rfl | rfl)) ?_
        refine twp_ret ?_
        exact ⟨_, [1], rfl, by decide, fun i hi => absurd hi (Nat.not_lt_zero i), by rw [hpos]; simp [mixI_length]; rfl, by rw [hpos]; rfl⟩

end Go.Proofs.Ytmjgelbhflmchaa
