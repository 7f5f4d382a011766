/- The field: the law on arriving, walked. No condition. -/
import Derived.Test.YtmjgelbhflmchaaFieldG
namespace Go.Proofs.Ytmjgelbhflmchaa
open Go Go.TL

theorem stepsM_add (j k : Nat) (m : Mach) : stepsM (j + k) m = stepsM j (stepsM k m) := by
  induction j with
  | zero => simp [stepsM]
  | succ j ih => rw [show j + 1 + k = (j + k) + 1 by omega]; simp [stepsM, ih]
theorem stepsM_rest {m : Mach} (h : m.timer = 0) : ∀ k, stepsM k m = m
  | 0 => rfl
  | k + 1 => by rw [stepsM, stepsM_rest h k]; simp [stepM, h]
def gAt (bs : List Bool) (j : Nat) : Int := match bs[j]? with
  | some true => 2
  | _ => 1
theorem gAt_or (bs : List Bool) (j : Nat) : gAt bs j = 1 ∨ gAt bs j = 2 := by unfold gAt; split <;> simp
def goodM (g : Int) (m : Mach) : Prop := m.goal ≠ g ∨ (m.timer = 0 ∧ m.pos = m.goal)
theorem arrive {g : Int} {m : Mach} (hg : g = 1 ∨ g = 2) (h : goodM g m) (k : Nat) : (stepsM (3 + k) (commandM m g)).pos = g := by
  rw [Nat.add_comm, stepsM_add]
  by_cases e : m.goal = g
  · rcases h with h | h
    · exact absurd e h
    · have hc : commandM m g = m := by simp [commandM, e]
      rw [hc, stepsM_rest h.1 3, stepsM_rest h.1, h.2, e]
  · have hc : commandM m g = ⟨0, g, 3⟩ := by
      unfold commandM
      rw [if_pos ⟨hg, fun x => e x.symm⟩]
    rw [hc]
    have h3 : stepsM 3 ⟨0, g, 3⟩ = ⟨g, g, 0⟩ := by simp [stepsM, stepM]
    rw [h3, stepsM_rest rfl]
def goals (bs : List Bool) (ms : List Mach) : List Int := ms.mapIdx fun j _ => gAt bs j
theorem arrives {bs : List Bool} {ms : List Mach} (h : ∀ j m, ms[j]? = some m → goodM (gAt bs j) m) (k : Nat) : ((commands ms (goals bs ms)).map (stepsM (3 + k))).map Mach.pos = goals bs ms := by
  apply List.ext_getElem?
  intro j
  simp only [commands, goals, List.getElem?_map, List.getElem?_mapIdx]
  cases hm : ms[j]? with
  | none => rfl
  | some m =>
    simp only [Option.map_some, Option.some.injEq]
    have : (ms.mapIdx fun j _ => gAt bs j)[j]? = some (gAt bs j) := by simp [hm]
    rw [cmdAt, this]
    exact arrive (gAt_or bs j) (h j m hm) k
theorem goals_ok (bs : List Bool) (ms : List Mach) : ∀ c ∈ goals bs ms, I64 c := fun c hc => by
  obtain ⟨j, hj, rfl⟩ := List.mem_mapIdx.1 hc
  rcases gAt_or bs j with h | h <;> rw [h] <;> decide
theorem steps_d (ms : List Mach) (n : Nat) (hn : ms.length ≤ 100000) (hk : n ≤ 1000000) (hw : ∀ m ∈ ms, m.wf) : RetD Try.prog 21 [.sl 3 (ms.map Mach.enc), .int .i64 n] (.sl 3 ((ms.map (stepsM n)).map Mach.enc)) := ⟨_, _, _, steps_ret ms n hn hk hw (fun _ => false), .d _⟩

theorem callB5 : callB Try.prog 5 = true := by kernel_rfl

theorem sel37 : sel Try.prog 37 = some (4, 1, 1) := by kernel_rfl

theorem lay4 : lay Try.prog 4 = some (false, 1) := by kernel_rfl

theorem fieldArrives_ret (ms : List Mach) (bs : List Bool) (n : Int) (hw : ∀ m ∈ ms, m.wf) (mv : Nat → Bool) : Ret Try.prog 5 [] mv ([D.sl 3 (ms.map Mach.enc), D.sl 1 (bs.map D.bool), D.int .i64 n].map .d) (.d (.bool true)) [] := by
  refine ret_body callB5 Try.func5 rfl Try.ntmps5 rfl rfl (fun wX gX => ?_)
  refine twp_norm [0, 1, 2] (by repeat (first | exact SubK.nil | apply sub_d rfl | apply sub_msl rfl | apply sub_mptr rfl | apply sub_agg rfl | apply sub_tup rfl | apply sub_ifc rfl | apply sub_fnc rfl | apply sub_mmap rfl | apply SubK.cons _ _ _ _ rfl)) (by repeat (first | exact blk_nil rfl | apply blk_flat rfl | apply blk_box rfl | apply blk_map rfl | apply blk_dead rfl | rfl)) ?_
  refine twp_rseq ?_
  refine s_rd _ rfl (by first | exact mv_d (.inr rfl) rfl | exact mv_msl (.inr rfl) rfl | exact mv_mptr (.inr rfl) rfl | exact mv_agg (.inr rfl) rfl | exact mv_tup (.inr rfl) rfl | exact mv_ifc (.inr rfl) rfl | exact mv_fnc (.inr rfl) rfl | exact mv_mmap (.inr rfl) rfl | exact rd_move (.inr rfl)) ?_
  refine tops_nil ?_
  refine twp_norm [0, 1, 2] (by repeat (first | exact SubK.nil | apply sub_d rfl | apply sub_msl rfl | apply sub_mptr rfl | apply sub_agg rfl | apply sub_tup rfl | apply sub_ifc rfl | apply sub_fnc rfl | apply sub_mmap rfl | apply SubK.cons _ _ _ _ rfl)) (by repeat (first | exact blk_nil rfl | apply blk_flat rfl | apply blk_box rfl | apply blk_map rfl | apply blk_dead rfl | rfl)) ?_
  refine twp_seq ?_
  refine twp_rseq ?_
  refine s_rd _ rfl (by first | exact mv_d (.inl rfl) rfl | exact mv_msl (.inl rfl) rfl | exact mv_mptr (.inl rfl) rfl | exact mv_agg (.inl rfl) rfl | exact mv_tup (.inl rfl) rfl | exact mv_ifc (.inl rfl) rfl | exact mv_fnc (.inl rfl) rfl | exact mv_mmap (.inl rfl) rfl | exact rd_move (.inl rfl)) ?_
  refine s_rd _ rfl (by first | exact len_d rfl sel22 rfl (by first | exact List.length_map _ | rfl) | exact len_msl rfl sel22 rfl | exact len_nil rfl sel22 rfl) ?_
  refine s_rd _ rfl (by first | exact cmp_int rfl rfl rfl rfl | exact cmp_bool rfl rfl rfl rfl) ?_
  refine s_rd _ rfl (by first | exact mv_d (.inl rfl) rfl | exact mv_msl (.inl rfl) rfl | exact mv_mptr (.inl rfl) rfl | exact mv_agg (.inl rfl) rfl | exact mv_tup (.inl rfl) rfl | exact mv_ifc (.inl rfl) rfl | exact mv_fnc (.inl rfl) rfl | exact mv_mmap (.inl rfl) rfl | exact rd_move (.inl rfl)) ?_
  refine s_split 14 rfl (fun q1 => ?_) (fun q1 => ?_)
  · refine s_no rfl rfl rfl rfl ?_
    refine s_no rfl rfl rfl rfl ?_
    refine s_no rfl rfl rfl rfl ?_
    refine s_no rfl rfl rfl rfl ?_
    refine s_no rfl rfl rfl rfl ?_
    refine s_rd _ rfl (by first | exact pick_Td rfl rfl rfl | exact pick_Fd rfl rfl rfl | exact rd_pickBool _ _ _ rfl rfl rfl rfl | exact pick_T rfl rfl rfl | exact pick_F rfl rfl rfl) ?_
    refine s_rd _ rfl (by first | exact mv_d (.inl rfl) rfl | exact mv_msl (.inl rfl) rfl | exact mv_mptr (.inl rfl) rfl | exact mv_agg (.inl rfl) rfl | exact mv_tup (.inl rfl) rfl | exact mv_ifc (.inl rfl) rfl | exact mv_fnc (.inl rfl) rfl | exact mv_mmap (.inl rfl) rfl | exact rd_move (.inl rfl)) ?_
    refine s_no rfl rfl rfl rfl ?_
    refine s_no rfl rfl rfl rfl ?_
    refine s_rd _ rfl (by first | exact pick_Td rfl rfl rfl | exact pick_Fd rfl rfl rfl | exact rd_pickBool _ _ _ rfl rfl rfl rfl | exact pick_T rfl rfl rfl | exact pick_F rfl rfl rfl) ?_
    refine s_rd _ rfl (by first | exact mv_d (.inl rfl) rfl | exact mv_msl (.inl rfl) rfl | exact mv_mptr (.inl rfl) rfl | exact mv_agg (.inl rfl) rfl | exact mv_tup (.inl rfl) rfl | exact mv_ifc (.inl rfl) rfl | exact mv_fnc (.inl rfl) rfl | exact mv_mmap (.inl rfl) rfl | exact rd_move (.inl rfl)) ?_
    refine s_no rfl rfl rfl rfl ?_
    refine s_no rfl rfl rfl rfl ?_
    refine s_rd _ rfl (by first | exact pick_Td rfl rfl rfl | exact pick_Fd rfl rfl rfl | exact rd_pickBool _ _ _ rfl rfl rfl rfl | exact pick_T rfl rfl rfl | exact pick_F rfl rfl rfl) ?_
    refine tops_nil ?_
    refine twp_norm [0, 1, 2, 28] (by repeat (first | exact SubK.nil | apply sub_d rfl | apply sub_msl rfl | apply sub_mptr rfl | apply sub_agg rfl | apply sub_tup rfl | apply sub_ifc rfl | apply sub_fnc rfl | apply sub_mmap rfl | apply SubK.cons _ _ _ _ rfl)) (by repeat (first | exact blk_nil rfl | apply blk_flat rfl | apply blk_box rfl | apply blk_map rfl | apply blk_dead rfl | rfl)) ?_
    refine twp_cond true rfl (fun _ => ?_) (fun h => by cases h)
    refine twp_rseq ?_
    refine s_rd _ rfl (rd_callRN rfl rfl (by repeat (first | exact snaps_nil | refine snaps_cons (.d _) ?_ | refine snaps_cons (snap_full rfl (by simp)) ?_ | refine snaps_cons (snap_full rfl rfl) ?_ | refine snaps_cons (snap_agg (by repeat (first | exact SnapsO.nil | refine SnapsO.cons (Snap.d _) rfl ?_ | refine SnapsO.cons (snap_full rfl rfl) rfl ?_))) ?_)) (alive_n)) ?_
    refine s_rd _ rfl (by first | exact mv_d (.inr rfl) rfl | exact mv_msl (.inr rfl) rfl | exact mv_mptr (.inr rfl) rfl | exact mv_agg (.inr rfl) rfl | exact mv_tup (.inr rfl) rfl | exact mv_ifc (.inr rfl) rfl | exact mv_fnc (.inr rfl) rfl | exact mv_mmap (.inr rfl) rfl | exact rd_move (.inr rfl)) ?_
    refine tops_nil ?_
    refine twp_norm [6] (by repeat (first | exact SubK.nil | apply sub_d rfl | apply sub_msl rfl | apply sub_mptr rfl | apply sub_agg rfl | apply sub_tup rfl | apply sub_ifc rfl | apply sub_fnc rfl | apply sub_mmap rfl | apply SubK.cons _ _ _ _ rfl)) (by repeat (first | exact blk_nil rfl | apply blk_flat rfl | apply blk_box rfl | apply blk_map rfl | apply blk_dead rfl | rfl)) ?_
    refine twp_ret ?_
    refine way_thenRet ?_
    exact Ends.plain _ rfl
  · have q1 : ¬ (100 : Int) < (ms.length : Int) := of_decide_eq_false q1
    refine s_yes rfl rfl rfl ?_
    refine s_rd _ rfl (by first | exact mv_d (.inl rfl) rfl | exact mv_msl (.inl rfl) rfl | exact mv_mptr (.inl rfl) rfl | exact mv_agg (.inl rfl) rfl | exact mv_tup (.inl rfl) rfl | exact mv_ifc (.inl rfl) rfl | exact mv_fnc (.inl rfl) rfl | exact mv_mmap (.inl rfl) rfl | exact rd_move (.inl rfl)) ?_
    refine s_yes rfl rfl rfl ?_
    refine s_rd _ rfl (by first | exact len_d rfl sel37 rfl (by first | exact List.length_map _ | rfl) | exact len_msl rfl sel37 rfl | exact len_nil rfl sel37 rfl) ?_
    refine s_yes rfl rfl rfl ?_
    refine s_rd _ rfl (by first | exact mv_d (.inl rfl) rfl | exact mv_msl (.inl rfl) rfl | exact mv_mptr (.inl rfl) rfl | exact mv_agg (.inl rfl) rfl | exact mv_tup (.inl rfl) rfl | exact mv_ifc (.inl rfl) rfl | exact mv_fnc (.inl rfl) rfl | exact mv_mmap (.inl rfl) rfl | exact rd_move (.inl rfl)) ?_
    refine s_yes rfl rfl rfl ?_
    refine s_rd _ rfl (by first | exact len_d rfl sel22 rfl (by first | exact List.length_map _ | rfl) | exact len_msl rfl sel22 rfl | exact len_nil rfl sel22 rfl) ?_
    refine s_yes rfl rfl rfl ?_
    refine s_rd _ rfl (by first | exact cmp_int rfl rfl rfl rfl | exact cmp_bool rfl rfl rfl rfl) ?_
    refine s_rd _ rfl (by first | exact pick_Td rfl rfl rfl | exact pick_Fd rfl rfl rfl | exact rd_pickBool _ _ _ rfl rfl rfl rfl | exact pick_T rfl rfl rfl | exact pick_F rfl rfl rfl) ?_
    refine s_rd _ rfl (by first | exact mv_d (.inl rfl) rfl | exact mv_msl (.inl rfl) rfl | exact mv_mptr (.inl rfl) rfl | exact mv_agg (.inl rfl) rfl | exact mv_tup (.inl rfl) rfl | exact mv_ifc (.inl rfl) rfl | exact mv_fnc (.inl rfl) rfl | exact mv_mmap (.inl rfl) rfl | exact rd_move (.inl rfl)) ?_
    refine s_split 21 rfl (fun q2 => ?_) (fun q2 => ?_)
    · refine s_no rfl rfl rfl rfl ?_
      refine s_no rfl rfl rfl rfl ?_
      refine s_rd _ rfl (by first | exact pick_Td rfl rfl rfl | exact pick_Fd rfl rfl rfl | exact rd_pickBool _ _ _ rfl rfl rfl rfl | exact pick_T rfl rfl rfl | exact pick_F rfl rfl rfl) ?_
      refine s_rd _ rfl (by first | exact mv_d (.inl rfl) rfl | exact mv_msl (.inl rfl) rfl | exact mv_mptr (.inl rfl) rfl | exact mv_agg (.inl rfl) rfl | exact mv_tup (.inl rfl) rfl | exact mv_ifc (.inl rfl) rfl | exact mv_fnc (.inl rfl) rfl | exact mv_mmap (.inl rfl) rfl | exact rd_move (.inl rfl)) ?_
      refine s_no rfl rfl rfl rfl ?_
      refine s_no rfl rfl rfl rfl ?_
      refine s_rd _ rfl (by first | exact pick_Td rfl rfl rfl | exact pick_Fd rfl rfl rfl | exact rd_pickBool _ _ _ rfl rfl rfl rfl | exact pick_T rfl rfl rfl | exact pick_F rfl rfl rfl) ?_
      refine tops_nil ?_
      refine twp_norm [0, 1, 2, 28] (by repeat (first | exact SubK.nil | apply sub_d rfl | apply sub_msl rfl | apply sub_mptr rfl | apply sub_agg rfl | apply sub_tup rfl | apply sub_ifc rfl | apply sub_fnc rfl | apply sub_mmap rfl | apply SubK.cons _ _ _ _ rfl)) (by repeat (first | exact blk_nil rfl | apply blk_flat rfl | apply blk_box rfl | apply blk_map rfl | apply blk_dead rfl | rfl)) ?_
      refine twp_cond true rfl (fun _ => ?_) (fun h => by cases h)
      refine twp_rseq ?_
      refine s_rd _ rfl (rd_callRN rfl rfl (by repeat (first | exact snaps_nil | refine snaps_cons (.d _) ?_ | refine snaps_cons (snap_full rfl (by simp)) ?_ | refine snaps_cons (snap_full rfl rfl) ?_ | refine snaps_cons (snap_agg (by repeat (first | exact SnapsO.nil | refine SnapsO.cons (Snap.d _) rfl ?_ | refine SnapsO.cons (snap_full rfl rfl) rfl ?_))) ?_)) (alive_n)) ?_
      refine s_rd _ rfl (by first | exact mv_d (.inr rfl) rfl | exact mv_msl (.inr rfl) rfl | exact mv_mptr (.inr rfl) rfl | exact mv_agg (.inr rfl) rfl | exact mv_tup (.inr rfl) rfl | exact mv_ifc (.inr rfl) rfl | exact mv_fnc (.inr rfl) rfl | exact mv_mmap (.inr rfl) rfl | exact rd_move (.inr rfl)) ?_
      refine tops_nil ?_
      refine twp_norm [6] (by repeat (first | exact SubK.nil | apply sub_d rfl | apply sub_msl rfl | apply sub_mptr rfl | apply sub_agg rfl | apply sub_tup rfl | apply sub_ifc rfl | apply sub_fnc rfl | apply sub_mmap rfl | apply SubK.cons _ _ _ _ rfl)) (by repeat (first | exact blk_nil rfl | apply blk_flat rfl | apply blk_box rfl | apply blk_map rfl | apply blk_dead rfl | rfl)) ?_
      refine twp_ret ?_
      refine way_thenRet ?_
      exact Ends.plain _ rfl
    · have q2 : bs.length = ms.length := by simp at q2; omega
      refine s_yes rfl rfl rfl ?_
      refine s_rd _ rfl (by first | exact mv_d (.inl rfl) rfl | exact mv_msl (.inl rfl) rfl | exact mv_mptr (.inl rfl) rfl | exact mv_agg (.inl rfl) rfl | exact mv_tup (.inl rfl) rfl | exact mv_ifc (.inl rfl) rfl | exact mv_fnc (.inl rfl) rfl | exact mv_mmap (.inl rfl) rfl | exact rd_move (.inl rfl)) ?_
      refine s_yes rfl rfl rfl ?_
      refine s_rd _ rfl (by first | exact cmp_int rfl rfl rfl rfl | exact cmp_bool rfl rfl rfl rfl) ?_
      refine s_rd _ rfl (by first | exact pick_Td rfl rfl rfl | exact pick_Fd rfl rfl rfl | exact rd_pickBool _ _ _ rfl rfl rfl rfl | exact pick_T rfl rfl rfl | exact pick_F rfl rfl rfl) ?_
      refine s_rd _ rfl (by first | exact mv_d (.inl rfl) rfl | exact mv_msl (.inl rfl) rfl | exact mv_mptr (.inl rfl) rfl | exact mv_agg (.inl rfl) rfl | exact mv_tup (.inl rfl) rfl | exact mv_ifc (.inl rfl) rfl | exact mv_fnc (.inl rfl) rfl | exact mv_mmap (.inl rfl) rfl | exact rd_move (.inl rfl)) ?_
      refine s_split 25 rfl (fun q3 => ?_) (fun q3 => ?_)
      · refine s_no rfl rfl rfl rfl ?_
        refine s_no rfl rfl rfl rfl ?_
        refine s_rd _ rfl (by first | exact pick_Td rfl rfl rfl | exact pick_Fd rfl rfl rfl | exact rd_pickBool _ _ _ rfl rfl rfl rfl | exact pick_T rfl rfl rfl | exact pick_F rfl rfl rfl) ?_
        refine tops_nil ?_
        refine twp_norm [0, 1, 2, 28] (by repeat (first | exact SubK.nil | apply sub_d rfl | apply sub_msl rfl | apply sub_mptr rfl | apply sub_agg rfl | apply sub_tup rfl | apply sub_ifc rfl | apply sub_fnc rfl | apply sub_mmap rfl | apply SubK.cons _ _ _ _ rfl)) (by repeat (first | exact blk_nil rfl | apply blk_flat rfl | apply blk_box rfl | apply blk_map rfl | apply blk_dead rfl | rfl)) ?_
        refine twp_cond true rfl (fun _ => ?_) (fun h => by cases h)
        refine twp_rseq ?_
        refine s_rd _ rfl (rd_callRN rfl rfl (by repeat (first | exact snaps_nil | refine snaps_cons (.d _) ?_ | refine snaps_cons (snap_full rfl (by simp)) ?_ | refine snaps_cons (snap_full rfl rfl) ?_ | refine snaps_cons (snap_agg (by repeat (first | exact SnapsO.nil | refine SnapsO.cons (Snap.d _) rfl ?_ | refine SnapsO.cons (snap_full rfl rfl) rfl ?_))) ?_)) (alive_n)) ?_
        refine s_rd _ rfl (by first | exact mv_d (.inr rfl) rfl | exact mv_msl (.inr rfl) rfl | exact mv_mptr (.inr rfl) rfl | exact mv_agg (.inr rfl) rfl | exact mv_tup (.inr rfl) rfl | exact mv_ifc (.inr rfl) rfl | exact mv_fnc (.inr rfl) rfl | exact mv_mmap (.inr rfl) rfl | exact rd_move (.inr rfl)) ?_
        refine tops_nil ?_
        refine twp_norm [6] (by repeat (first | exact SubK.nil | apply sub_d rfl | apply sub_msl rfl | apply sub_mptr rfl | apply sub_agg rfl | apply sub_tup rfl | apply sub_ifc rfl | apply sub_fnc rfl | apply sub_mmap rfl | apply SubK.cons _ _ _ _ rfl)) (by repeat (first | exact blk_nil rfl | apply blk_flat rfl | apply blk_box rfl | apply blk_map rfl | apply blk_dead rfl | rfl)) ?_
        refine twp_ret ?_
        refine way_thenRet ?_
        exact Ends.plain _ rfl
      · have q3 : ¬ n < 0 := of_decide_eq_false q3
        refine s_yes rfl rfl rfl ?_
        refine s_rd _ rfl (by first | exact mv_d (.inl rfl) rfl | exact mv_msl (.inl rfl) rfl | exact mv_mptr (.inl rfl) rfl | exact mv_agg (.inl rfl) rfl | exact mv_tup (.inl rfl) rfl | exact mv_ifc (.inl rfl) rfl | exact mv_fnc (.inl rfl) rfl | exact mv_mmap (.inl rfl) rfl | exact rd_move (.inl rfl)) ?_
        refine s_yes rfl rfl rfl ?_
        refine s_rd _ rfl (by first | exact cmp_int rfl rfl rfl rfl | exact cmp_bool rfl rfl rfl rfl) ?_
        refine s_rd _ rfl (by first | exact pick_Td rfl rfl rfl | exact pick_Fd rfl rfl rfl | exact rd_pickBool _ _ _ rfl rfl rfl rfl | exact pick_T rfl rfl rfl | exact pick_F rfl rfl rfl) ?_
        refine tops_nil ?_
        refine twp_norm [0, 1, 2, 28] (by repeat (first | exact SubK.nil | apply sub_d rfl | apply sub_msl rfl | apply sub_mptr rfl | apply sub_agg rfl | apply sub_tup rfl | apply sub_ifc rfl | apply sub_fnc rfl | apply sub_mmap rfl | apply SubK.cons _ _ _ _ rfl)) (by repeat (first | exact blk_nil rfl | apply blk_flat rfl | apply blk_box rfl | apply blk_map rfl | apply blk_dead rfl | rfl)) ?_
        refine twp_cond _ rfl (fun q4 => ?_) (fun q4 => ?_)
        · refine twp_rseq ?_
          refine s_rd _ rfl (rd_callRN rfl rfl (by repeat (first | exact snaps_nil | refine snaps_cons (.d _) ?_ | refine snaps_cons (snap_full rfl (by simp)) ?_ | refine snaps_cons (snap_full rfl rfl) ?_ | refine snaps_cons (snap_agg (by repeat (first | exact SnapsO.nil | refine SnapsO.cons (Snap.d _) rfl ?_ | refine SnapsO.cons (snap_full rfl rfl) rfl ?_))) ?_)) (alive_n)) ?_
          refine s_rd _ rfl (by first | exact mv_d (.inr rfl) rfl | exact mv_msl (.inr rfl) rfl | exact mv_mptr (.inr rfl) rfl | exact mv_agg (.inr rfl) rfl | exact mv_tup (.inr rfl) rfl | exact mv_ifc (.inr rfl) rfl | exact mv_fnc (.inr rfl) rfl | exact mv_mmap (.inr rfl) rfl | exact rd_move (.inr rfl)) ?_
          refine tops_nil ?_
          refine twp_norm [6] (by repeat (first | exact SubK.nil | apply sub_d rfl | apply sub_msl rfl | apply sub_mptr rfl | apply sub_agg rfl | apply sub_tup rfl | apply sub_ifc rfl | apply sub_fnc rfl | apply sub_mmap rfl | apply SubK.cons _ _ _ _ rfl)) (by repeat (first | exact blk_nil rfl | apply blk_flat rfl | apply blk_box rfl | apply blk_map rfl | apply blk_dead rfl | rfl)) ?_
          refine twp_ret ?_
          refine way_thenRet ?_
          exact Ends.plain _ rfl
        · have q4 : ¬ 20 < n := of_decide_eq_false q4
          obtain ⟨k, rfl⟩ : ∃ k : Nat, n = (k : Int) := Int.eq_ofNat_of_zero_le (by omega)
          have hn : ms.length ≤ 100000 := by omega
          refine twp_skip ?_
          refine way_then ?_
          refine twp_norm [0, 1, 2] (by repeat (first | exact SubK.nil | apply sub_d rfl | apply sub_msl rfl | apply sub_mptr rfl | apply sub_agg rfl | apply sub_tup rfl | apply sub_ifc rfl | apply sub_fnc rfl | apply sub_mmap rfl | apply SubK.cons _ _ _ _ rfl)) (by repeat (first | exact blk_nil rfl | apply blk_flat rfl | apply blk_box rfl | apply blk_map rfl | apply blk_dead rfl | rfl)) ?_
          refine twp_rseq ?_
          refine s_assignNil 3 1 rfl rfl ?_
          refine tops_nil ?_
          refine twp_norm [0, 1, 2, 7] (by repeat (first | exact SubK.nil | apply sub_d rfl | apply sub_msl rfl | apply sub_mptr rfl | apply sub_agg rfl | apply sub_tup rfl | apply sub_ifc rfl | apply sub_fnc rfl | apply sub_mmap rfl | apply SubK.cons _ _ _ _ rfl)) (by repeat (first | exact blk_nil rfl | apply blk_flat rfl | apply blk_box rfl | apply blk_map rfl | apply blk_dead rfl | rfl)) ?_
          refine twp_seq ?_
          refine twp_rseq ?_
          refine s_rd _ rfl (by first | exact mv_d (.inl rfl) rfl | exact mv_msl (.inl rfl) rfl | exact mv_mptr (.inl rfl) rfl | exact mv_agg (.inl rfl) rfl | exact mv_tup (.inl rfl) rfl | exact mv_ifc (.inl rfl) rfl | exact mv_fnc (.inl rfl) rfl | exact mv_mmap (.inl rfl) rfl | exact rd_move (.inl rfl)) ?_
          refine s_rd _ rfl (by first | exact len_d rfl sel22 rfl (by first | exact List.length_map _ | rfl) | exact len_msl rfl sel22 rfl | exact len_nil rfl sel22 rfl) ?_
          refine s_rd _ rfl (by first | exact mv_d (.inl rfl) rfl | exact mv_msl (.inl rfl) rfl | exact mv_mptr (.inl rfl) rfl | exact mv_agg (.inl rfl) rfl | exact mv_tup (.inl rfl) rfl | exact mv_ifc (.inl rfl) rfl | exact mv_fnc (.inl rfl) rfl | exact mv_mmap (.inl rfl) rfl | exact rd_move (.inl rfl)) ?_
          refine tops_nil ?_
          refine twp_norm [0, 1, 2, 7, 30, 31, 32] (by repeat (first | exact SubK.nil | apply sub_d rfl | apply sub_msl rfl | apply sub_mptr rfl | apply sub_agg rfl | apply sub_tup rfl | apply sub_ifc rfl | apply sub_fnc rfl | apply sub_mmap rfl | apply SubK.cons _ _ _ _ rfl)) (by repeat (first | exact blk_nil rfl | apply blk_flat rfl | apply blk_box rfl | apply blk_map rfl | apply blk_dead rfl | rfl)) ?_
          refine twp_block ?_
          refine twp_while (fun i => (⟨[(0, .d (.sl 3 (ms.map Mach.enc))), (1, .d (.sl 1 (bs.map D.bool))), (2, .d (.int .i64 ((k : Nat) : Int))), (7, .msl 0 1 0 i), (30, .d (.sl 3 (ms.map Mach.enc))), (31, .d (.int .i64 ((ms.length : Nat) : Int))), (32, .d (.int .i64 ((i : Nat) : Int)))], [.flat 3 1 ((pre (fun j _ => gAt bs j) ms i).map (D.int .i64))]⟩ : St)) (fun i => i ≤ ms.length ∧ ∀ j m, j < i → ms[j]? = some m → goodM (gAt bs j) m) (fun i => ms.length - i) [0, 1, 2, 7, 30, 31, 32] [0] 0 (by decide) (fun i hi => absurd hi (Nat.not_lt_zero i)) ⟨Nat.zero_le _, fun j m hj => absurd hj (Nat.not_lt_zero j)⟩ rfl ?_
          rintro i ⟨hok, hgs⟩
          refine twp_norm [0, 1, 2, 7, 30, 31, 32] (by repeat (first | exact SubK.nil | apply sub_d rfl | apply sub_msl rfl | apply sub_mptr rfl | apply sub_agg rfl | apply sub_tup rfl | apply sub_ifc rfl | apply sub_fnc rfl | apply sub_mmap rfl | apply SubK.cons _ _ _ _ rfl)) (by repeat (first | exact blk_nil rfl | apply blk_flat rfl | apply blk_box rfl | apply blk_map rfl | apply blk_dead rfl | rfl)) ?_
          refine twp_rseq ?_
          refine s_rd _ rfl (by first | exact cmp_int rfl rfl rfl rfl | exact cmp_bool rfl rfl rfl rfl) ?_
          refine tops_nil ?_
          refine twp_norm [0, 1, 2, 7, 30, 31, 32, 33] (by repeat (first | exact SubK.nil | apply sub_d rfl | apply sub_msl rfl | apply sub_mptr rfl | apply sub_agg rfl | apply sub_tup rfl | apply sub_ifc rfl | apply sub_fnc rfl | apply sub_mmap rfl | apply SubK.cons _ _ _ _ rfl)) (by repeat (first | exact blk_nil rfl | apply blk_flat rfl | apply blk_box rfl | apply blk_map rfl | apply blk_dead rfl | rfl)) ?_
          refine twp_seq ?_
          refine twp_cond _ rfl (fun hlt => ?_) (fun hlt => ?_)
          · have hlt : i < ms.length := by simpa using hlt
            obtain ⟨m, hm⟩ : ∃ m, ms[i]? = some m := ⟨_, List.getElem?_eq_getElem hlt⟩
            obtain ⟨b, hb⟩ : ∃ b, bs[i]? = some b := ⟨_, List.getElem?_eq_getElem (by omega)⟩
            have hgi : (pre (fun j _ => gAt bs j) ms (i + 1))[i]? = some (gAt bs i) := by rw [pre_succ _ hm, List.getElem?_append_right (by rw [pre_length _ _ (by omega)]; omega), pre_length _ _ (by omega)]; simp
            refine twp_skip ?_
            refine way_then ?_
            refine twp_norm [0, 1, 2, 7, 30, 31, 32] (by repeat (first | exact SubK.nil | apply sub_d rfl | apply sub_msl rfl | apply sub_mptr rfl | apply sub_agg rfl | apply sub_tup rfl | apply sub_ifc rfl | apply sub_fnc rfl | apply sub_mmap rfl | apply SubK.cons _ _ _ _ rfl)) (by repeat (first | exact blk_nil rfl | apply blk_flat rfl | apply blk_box rfl | apply blk_map rfl | apply blk_dead rfl | rfl)) ?_
            refine twp_seq ?_
            refine twp_block ?_
            refine twp_rseq ?_
            refine s_rd _ rfl (by first | exact mv_d (.inl rfl) rfl | exact mv_msl (.inl rfl) rfl | exact mv_mptr (.inl rfl) rfl | exact mv_agg (.inl rfl) rfl | exact mv_tup (.inl rfl) rfl | exact mv_ifc (.inl rfl) rfl | exact mv_fnc (.inl rfl) rfl | exact mv_mmap (.inl rfl) rfl | exact rd_move (.inl rfl)) ?_
            refine s_rd _ rfl (by first | exact index_msl0 rfl sel22 rfl rfl (by first | assumption | omega | (simp; omega)) | exact index_sl rfl sel22 rfl rfl (by first | exact ⟨by omega, by assumption⟩ | exact idx_map (by assumption) | exact idx_id (by assumption))) ?_
            refine s_rd _ rfl (by first | exact load_ptrW rfl lay39 rfl rfl rfl | exact load_flatW rfl lay39 rfl rfl (by first | rfl | assumption | (simp only [List.getElem?_map, Option.map_some, *]; done)) rfl rfl | exact load_boxA_d rfl lay39 rfl rfl (Nat.le_of_ble_eq_true rfl) rfl | exact load_boxA rfl lay39 rfl rfl (Nat.le_of_ble_eq_true rfl) rfl | exact load_ptrA rfl lay39 rfl (Nat.le_of_ble_eq_true rfl) rfl) ?_
            refine s_alloc rfl zero39 rfl rfl ?_
            refine s_rd _ rfl (by first | exact mv_d (.inr rfl) rfl | exact mv_msl (.inr rfl) rfl | exact mv_mptr (.inr rfl) rfl | exact mv_agg (.inr rfl) rfl | exact mv_tup (.inr rfl) rfl | exact mv_ifc (.inr rfl) rfl | exact mv_fnc (.inr rfl) rfl | exact mv_mmap (.inr rfl) rfl | exact rd_move (.inr rfl)) ?_
            first
              | refine s_store_box lay39 rfl rfl rfl rfl rfl (Nat.le_of_ble_eq_true rfl) rfl ?_
              | refine s_store_flat lay39 rfl rfl rfl rfl (by first | rfl | assumption | (simp only [List.getElem?_map, Option.map_some, *]; done)) (by first | exact .inl rfl | exact .inr rfl) (Nat.le_of_ble_eq_true rfl) rfl ?_
            refine tops_nil ?_
            refine twp_norm [0, 1, 2, 7, 8, 9, 30, 31, 32] (by repeat (first | exact SubK.nil | apply sub_d rfl | apply sub_msl rfl | apply sub_mptr rfl | apply sub_agg rfl | apply sub_tup rfl | apply sub_ifc rfl | apply sub_fnc rfl | apply sub_mmap rfl | apply SubK.cons _ _ _ _ rfl)) (by repeat (first | exact blk_nil rfl | apply blk_flat rfl | apply blk_box rfl | apply blk_map rfl | apply blk_dead rfl | rfl)) ?_
            refine twp_rseq ?_
            refine s_rd _ rfl (by first | exact mv_d (.inl rfl) rfl | exact mv_msl (.inl rfl) rfl | exact mv_mptr (.inl rfl) rfl | exact mv_agg (.inl rfl) rfl | exact mv_tup (.inl rfl) rfl | exact mv_ifc (.inl rfl) rfl | exact mv_fnc (.inl rfl) rfl | exact mv_mmap (.inl rfl) rfl | exact rd_move (.inl rfl)) ?_
            refine s_litD [.const (Value.int IntKind.i64 1)] rfl sel23 zero3 rfl rfl rfl rfl rfl ?_
            refine s_push rfl sel23 zero3 rfl rfl rfl (fun h => absurd h (Nat.not_lt_zero _)) rfl rfl (by simp [pre_length _ _ (Nat.le_of_lt hlt)]) rfl (by omega) ?_
            refine s_rd _ rfl (by first | exact mv_d (.inr rfl) rfl | exact mv_msl (.inr rfl) rfl | exact mv_mptr (.inr rfl) rfl | exact mv_agg (.inr rfl) rfl | exact mv_tup (.inr rfl) rfl | exact mv_ifc (.inr rfl) rfl | exact mv_fnc (.inr rfl) rfl | exact mv_mmap (.inr rfl) rfl | exact rd_move (.inr rfl)) ?_
            refine tops_nil ?_
            refine twp_norm [0, 1, 2, 7, 8, 9, 30, 31, 32] (by repeat (first | exact SubK.nil | apply sub_d rfl | apply sub_msl rfl | apply sub_mptr rfl | apply sub_agg rfl | apply sub_tup rfl | apply sub_ifc rfl | apply sub_fnc rfl | apply sub_mmap rfl | apply SubK.cons _ _ _ _ rfl)) (by repeat (first | exact blk_nil rfl | apply blk_flat rfl | apply blk_box rfl | apply blk_map rfl | apply blk_dead rfl | rfl)) ?_
            refine twp_seq ?_
            refine twp_rseq ?_
            refine s_rd _ rfl (by first | exact mv_d (.inl rfl) rfl | exact mv_msl (.inl rfl) rfl | exact mv_mptr (.inl rfl) rfl | exact mv_agg (.inl rfl) rfl | exact mv_tup (.inl rfl) rfl | exact mv_ifc (.inl rfl) rfl | exact mv_fnc (.inl rfl) rfl | exact mv_mmap (.inl rfl) rfl | exact rd_move (.inl rfl)) ?_
            refine s_rd _ rfl (by first | exact mv_d (.inl rfl) rfl | exact mv_msl (.inl rfl) rfl | exact mv_mptr (.inl rfl) rfl | exact mv_agg (.inl rfl) rfl | exact mv_tup (.inl rfl) rfl | exact mv_ifc (.inl rfl) rfl | exact mv_fnc (.inl rfl) rfl | exact mv_mmap (.inl rfl) rfl | exact rd_move (.inl rfl)) ?_
            refine s_rd _ rfl (by first | exact index_msl0 rfl sel37 rfl rfl (by first | assumption | omega | (simp; omega)) | exact index_sl rfl sel37 rfl rfl (idx_map hb)) ?_
            refine s_rd _ rfl (by first | exact load_ptr rfl lay4 rfl rfl | exact load_flat rfl lay4 rfl rfl (by first | rfl | assumption | (simp only [List.getElem?_map, Option.map_some, *]; done)) rfl | exact load_box_d rfl lay4 rfl rfl rfl | exact load_box rfl lay4 rfl rfl rfl) ?_
            refine tops_nil ?_
            refine twp_norm [0, 1, 2, 7, 8, 9, 30, 31, 32, 43] (by repeat (first | exact SubK.nil | apply sub_d rfl | apply sub_msl rfl | apply sub_mptr rfl | apply sub_agg rfl | apply sub_tup rfl | apply sub_ifc rfl | apply sub_fnc rfl | apply sub_mmap rfl | apply SubK.cons _ _ _ _ rfl)) (by repeat (first | exact blk_nil rfl | apply blk_flat rfl | apply blk_box rfl | apply blk_map rfl | apply blk_dead rfl | rfl)) ?_
            refine twp_cond _ rfl (fun hbt => ?_) (fun hbt => ?_)
            · subst hbt
              have hg0 : ((pre (fun j _ => gAt bs j) ms i).map (D.int .i64) ++ [D.int .i64 1])[i]? = some (D.int .i64 1) := by rw [List.getElem?_append_right (by simp [pre_length _ _ hok])]; simp [pre_length _ _ hok]
              have hE : ((pre (fun j _ => gAt bs j) ms i).map (D.int .i64) ++ [D.int .i64 1]).set i (D.int .i64 2) = (pre (fun j _ => gAt bs j) ms (i + 1)).map (D.int .i64) := by
                rw [pre_succ _ hm, List.set_append_right _ _ (by simp [pre_length _ _ hok])]; simp [pre_length _ _ hok, gAt, hb]
              refine twp_region ?_
              refine s_rd _ rfl (by first | exact mv_d (.inl rfl) rfl | exact mv_msl (.inl rfl) rfl | exact mv_mptr (.inl rfl) rfl | exact mv_agg (.inl rfl) rfl | exact mv_tup (.inl rfl) rfl | exact mv_ifc (.inl rfl) rfl | exact mv_fnc (.inl rfl) rfl | exact mv_mmap (.inl rfl) rfl | exact rd_move (.inl rfl)) ?_
              refine s_rd _ rfl (by first | exact mv_d (.inl rfl) rfl | exact mv_msl (.inl rfl) rfl | exact mv_mptr (.inl rfl) rfl | exact mv_agg (.inl rfl) rfl | exact mv_tup (.inl rfl) rfl | exact mv_ifc (.inl rfl) rfl | exact mv_fnc (.inl rfl) rfl | exact mv_mmap (.inl rfl) rfl | exact rd_move (.inl rfl)) ?_
              refine s_rd _ rfl (by first | exact index_msl0 rfl sel23 rfl rfl (by omega) | exact index_sl rfl sel23 rfl rfl (by first | exact ⟨by omega, by assumption⟩ | exact idx_map (by assumption) | exact idx_id (by assumption))) ?_
              first
                | refine s_store_box lay3 rfl rfl rfl rfl rfl (Nat.le_of_ble_eq_true rfl) rfl ?_
                | refine s_store_flat lay3 rfl rfl rfl rfl hg0 (by first | exact .inl rfl | exact .inr rfl) (Nat.le_of_ble_eq_true rfl) rfl ?_
              refine tops_nil ?_
              refine way_then ?_
              refine twp_norm [0, 1, 2, 7, 8, 9, 30, 31, 32] (by repeat (first | exact SubK.nil | apply sub_d rfl | apply sub_msl rfl | apply sub_mptr rfl | apply sub_agg rfl | apply sub_tup rfl | apply sub_ifc rfl | apply sub_fnc rfl | apply sub_mmap rfl | apply SubK.cons _ _ _ _ rfl)) (by repeat (first | exact blk_nil rfl | apply blk_flat rfl | apply blk_box rfl | apply blk_map rfl | apply blk_dead rfl | rfl)) ?_
              refine twp_dseq follows  ?_
              refine d_hp (congrArg (fun es => Blk.flat 3 1 es :: _) hE) ?_
              refine d_rd [] _ rfl rfl (by first | exact fieldAddr_ptr rfl fld39_1 rfl rfl | exact fieldAddr_mptr rfl fld39_1 rfl rfl) ?_
              first | refine d_rd [] _ rfl rfl (by first | exact load_ptr rfl lay3 rfl rfl | exact load_flat rfl lay3 rfl rfl (by first | rfl | assumption | (simp only [List.getElem?_map, Option.map_some, *]; done)) rfl | exact load_box_d rfl lay3 rfl rfl rfl | exact load_box rfl lay3 rfl rfl rfl) ?_ | refine d_rd [0] _ rfl rfl (by first | exact load_ptr rfl lay3 rfl rfl | exact load_flat rfl lay3 rfl rfl (by first | rfl | assumption | (simp only [List.getElem?_map, Option.map_some, *]; done)) rfl | exact load_box_d rfl lay3 rfl rfl rfl | exact load_box rfl lay3 rfl rfl rfl) ?_ | refine d_rd [1] _ rfl rfl (by first | exact load_ptr rfl lay3 rfl rfl | exact load_flat rfl lay3 rfl rfl (by first | rfl | assumption | (simp only [List.getElem?_map, Option.map_some, *]; done)) rfl | exact load_box_d rfl lay3 rfl rfl rfl | exact load_box rfl lay3 rfl rfl rfl) ?_ | refine d_rd [0, 1] _ rfl rfl (by first | exact load_ptr rfl lay3 rfl rfl | exact load_flat rfl lay3 rfl rfl (by first | rfl | assumption | (simp only [List.getElem?_map, Option.map_some, *]; done)) rfl | exact load_box_d rfl lay3 rfl rfl rfl | exact load_box rfl lay3 rfl rfl rfl) ?_
              refine d_rd [] _ rfl rfl (by first | exact mv_d (.inl rfl) rfl | exact mv_msl (.inl rfl) rfl | exact mv_mptr (.inl rfl) rfl | exact mv_agg (.inl rfl) rfl | exact mv_tup (.inl rfl) rfl | exact mv_ifc (.inl rfl) rfl | exact mv_fnc (.inl rfl) rfl | exact mv_mmap (.inl rfl) rfl | exact rd_move (.inl rfl)) ?_
              refine d_rd [] _ rfl rfl (by first | exact mv_d (.inl rfl) rfl | exact mv_msl (.inl rfl) rfl | exact mv_mptr (.inl rfl) rfl | exact mv_agg (.inl rfl) rfl | exact mv_tup (.inl rfl) rfl | exact mv_ifc (.inl rfl) rfl | exact mv_fnc (.inl rfl) rfl | exact mv_mmap (.inl rfl) rfl | exact rd_move (.inl rfl)) ?_
              refine d_rd [] _ rfl rfl (by first | exact index_msl0 rfl sel23 rfl rfl (by omega) | exact index_sl rfl sel23 rfl rfl (by first | exact ⟨by omega, by assumption⟩ | exact idx_map (by assumption) | exact idx_id (by assumption))) ?_
              first | refine d_rd [] _ rfl rfl (by first | exact load_ptr rfl lay3 rfl rfl | exact load_flat rfl lay3 rfl rfl (el_map hgi) rfl | exact load_box_d rfl lay3 rfl rfl rfl | exact load_box rfl lay3 rfl rfl rfl) ?_ | refine d_rd [0] _ rfl rfl (by first | exact load_ptr rfl lay3 rfl rfl | exact load_flat rfl lay3 rfl rfl (el_map hgi) rfl | exact load_box_d rfl lay3 rfl rfl rfl | exact load_box rfl lay3 rfl rfl rfl) ?_ | refine d_rd [1] _ rfl rfl (by first | exact load_ptr rfl lay3 rfl rfl | exact load_flat rfl lay3 rfl rfl (el_map hgi) rfl | exact load_box_d rfl lay3 rfl rfl rfl | exact load_box rfl lay3 rfl rfl rfl) ?_ | refine d_rd [0, 1] _ rfl rfl (by first | exact load_ptr rfl lay3 rfl rfl | exact load_flat rfl lay3 rfl rfl (el_map hgi) rfl | exact load_box_d rfl lay3 rfl rfl rfl | exact load_box rfl lay3 rfl rfl rfl) ?_
              refine d_rd [] _ rfl rfl (by first | exact cmp_int rfl rfl rfl rfl | exact cmp_bool rfl rfl rfl rfl) ?_
              refine d_rd [] _ rfl rfl (by first | exact mv_d (.inl rfl) rfl | exact mv_msl (.inl rfl) rfl | exact mv_mptr (.inl rfl) rfl | exact mv_agg (.inl rfl) rfl | exact mv_tup (.inl rfl) rfl | exact mv_ifc (.inl rfl) rfl | exact mv_fnc (.inl rfl) rfl | exact mv_mmap (.inl rfl) rfl | exact rd_move (.inl rfl)) ?_
              refine d_split 54 rfl (fun d1 => ?_) (fun d1 => ?_)
              · refine d_rd [] _ rfl (on_yes rfl rfl rfl d1) (by first | exact fieldAddr_ptr rfl fld39_2 rfl rfl | exact fieldAddr_mptr rfl fld39_2 rfl rfl) ?_
                first | refine d_rd [] _ rfl (on_yes rfl rfl rfl d1) (by first | exact load_ptr rfl lay3 rfl rfl | exact load_flat rfl lay3 rfl rfl (by first | rfl | assumption | (simp only [List.getElem?_map, Option.map_some, *]; done)) rfl | exact load_box_d rfl lay3 rfl rfl rfl | exact load_box rfl lay3 rfl rfl rfl) ?_ | refine d_rd [0] _ rfl (on_yes rfl rfl rfl d1) (by first | exact load_ptr rfl lay3 rfl rfl | exact load_flat rfl lay3 rfl rfl (by first | rfl | assumption | (simp only [List.getElem?_map, Option.map_some, *]; done)) rfl | exact load_box_d rfl lay3 rfl rfl rfl | exact load_box rfl lay3 rfl rfl rfl) ?_ | refine d_rd [1] _ rfl (on_yes rfl rfl rfl d1) (by first | exact load_ptr rfl lay3 rfl rfl | exact load_flat rfl lay3 rfl rfl (by first | rfl | assumption | (simp only [List.getElem?_map, Option.map_some, *]; done)) rfl | exact load_box_d rfl lay3 rfl rfl rfl | exact load_box rfl lay3 rfl rfl rfl) ?_ | refine d_rd [0, 1] _ rfl (on_yes rfl rfl rfl d1) (by first | exact load_ptr rfl lay3 rfl rfl | exact load_flat rfl lay3 rfl rfl (by first | rfl | assumption | (simp only [List.getElem?_map, Option.map_some, *]; done)) rfl | exact load_box_d rfl lay3 rfl rfl rfl | exact load_box rfl lay3 rfl rfl rfl) ?_
                refine d_rd [] _ rfl (on_yes rfl rfl rfl d1) (by first | exact cmp_int rfl rfl rfl rfl | exact cmp_bool rfl rfl rfl rfl) ?_
                refine d_rd [] _ rfl (on_yes rfl rfl rfl d1) (by first | exact mv_d (.inl rfl) rfl | exact mv_msl (.inl rfl) rfl | exact mv_mptr (.inl rfl) rfl | exact mv_agg (.inl rfl) rfl | exact mv_tup (.inl rfl) rfl | exact mv_ifc (.inl rfl) rfl | exact mv_fnc (.inl rfl) rfl | exact mv_mmap (.inl rfl) rfl | exact rd_move (.inl rfl)) ?_
                refine d_split 58 rfl (fun d2 => ?_) (fun d2 => ?_)
                · refine d_skip rfl (on_no rfl rfl rfl d2) ?_
                  refine d_skip rfl (on_no rfl rfl rfl d2) ?_
                  refine d_skip rfl (on_no rfl rfl rfl d2) ?_
                  refine d_skip rfl (on_no rfl rfl rfl d2) ?_
                  refine d_skip rfl (on_no rfl rfl rfl d2) ?_
                  refine d_rd [] _ rfl (on_yes rfl rfl rfl d1) (pickh_T rfl rfl d2 rfl) ?_
                  refine d_rd [] _ rfl rfl (pickh_T rfl rfl d1 rfl) ?_
                  refine d_tail ?_ (by kernel_rfl)
                  refine tops_nil ?_
                  refine twp_norm [0, 1, 2, 7, 30, 31, 32, 65] (by repeat (first | exact SubK.nil | apply sub_d rfl | apply sub_msl rfl | apply sub_mptr rfl | apply sub_agg rfl | apply sub_tup rfl | apply sub_ifc rfl | apply sub_fnc rfl | apply sub_mmap rfl | apply SubK.cons _ _ _ _ rfl)) (by repeat (first | exact blk_nil rfl | apply blk_flat rfl | apply blk_box rfl | apply blk_map rfl | apply blk_dead rfl | rfl)) ?_
                  refine twp_cond true rfl (fun _ => ?_) (fun h => by cases h)
                  refine twp_rseq ?_
                  refine s_rd _ rfl (rd_callRN rfl rfl (by repeat (first | exact snaps_nil | refine snaps_cons (.d _) ?_ | refine snaps_cons (snap_full rfl (by simp)) ?_ | refine snaps_cons (snap_full rfl rfl) ?_ | refine snaps_cons (snap_agg (by repeat (first | exact SnapsO.nil | refine SnapsO.cons (Snap.d _) rfl ?_ | refine SnapsO.cons (snap_full rfl rfl) rfl ?_))) ?_)) (alive_n)) ?_
                  refine s_rd _ rfl (by first | exact mv_d (.inr rfl) rfl | exact mv_msl (.inr rfl) rfl | exact mv_mptr (.inr rfl) rfl | exact mv_agg (.inr rfl) rfl | exact mv_tup (.inr rfl) rfl | exact mv_ifc (.inr rfl) rfl | exact mv_fnc (.inr rfl) rfl | exact mv_mmap (.inr rfl) rfl | exact rd_move (.inr rfl)) ?_
                  refine tops_nil ?_
                  refine twp_norm [6] (by repeat (first | exact SubK.nil | apply sub_d rfl | apply sub_msl rfl | apply sub_mptr rfl | apply sub_agg rfl | apply sub_tup rfl | apply sub_ifc rfl | apply sub_fnc rfl | apply sub_mmap rfl | apply SubK.cons _ _ _ _ rfl)) (by repeat (first | exact blk_nil rfl | apply blk_flat rfl | apply blk_box rfl | apply blk_map rfl | apply blk_dead rfl | rfl)) ?_
                  refine twp_ret ?_
                  refine way_blockRet ?_
                  refine way_thenRet ?_
                  refine way_thenRet ?_
                  refine way_blockRet ?_
                  refine way_thenRet ?_
                  exact Ends.plain _ rfl
                · refine d_rd [] _ rfl (on_yes rfl rfl rfl d2) (by first | exact fieldAddr_ptr rfl fld39_0 rfl rfl | exact fieldAddr_mptr rfl fld39_0 rfl rfl) ?_
                  first | refine d_rd [] _ rfl (on_yes rfl rfl rfl d2) (by first | exact load_ptr rfl lay3 rfl rfl | exact load_flat rfl lay3 rfl rfl (by first | rfl | assumption | (simp only [List.getElem?_map, Option.map_some, *]; done)) rfl | exact load_box_d rfl lay3 rfl rfl rfl | exact load_box rfl lay3 rfl rfl rfl) ?_ | refine d_rd [0] _ rfl (on_yes rfl rfl rfl d2) (by first | exact load_ptr rfl lay3 rfl rfl | exact load_flat rfl lay3 rfl rfl (by first | rfl | assumption | (simp only [List.getElem?_map, Option.map_some, *]; done)) rfl | exact load_box_d rfl lay3 rfl rfl rfl | exact load_box rfl lay3 rfl rfl rfl) ?_ | refine d_rd [1] _ rfl (on_yes rfl rfl rfl d2) (by first | exact load_ptr rfl lay3 rfl rfl | exact load_flat rfl lay3 rfl rfl (by first | rfl | assumption | (simp only [List.getElem?_map, Option.map_some, *]; done)) rfl | exact load_box_d rfl lay3 rfl rfl rfl | exact load_box rfl lay3 rfl rfl rfl) ?_ | refine d_rd [0, 1] _ rfl (on_yes rfl rfl rfl d2) (by first | exact load_ptr rfl lay3 rfl rfl | exact load_flat rfl lay3 rfl rfl (by first | rfl | assumption | (simp only [List.getElem?_map, Option.map_some, *]; done)) rfl | exact load_box_d rfl lay3 rfl rfl rfl | exact load_box rfl lay3 rfl rfl rfl) ?_
                  refine d_rd [] _ rfl (on_yes rfl rfl rfl d2) (by first | exact fieldAddr_ptr rfl fld39_1 rfl rfl | exact fieldAddr_mptr rfl fld39_1 rfl rfl) ?_
                  first | refine d_rd [] _ rfl (on_yes rfl rfl rfl d2) (by first | exact load_ptr rfl lay3 rfl rfl | exact load_flat rfl lay3 rfl rfl (by first | rfl | assumption | (simp only [List.getElem?_map, Option.map_some, *]; done)) rfl | exact load_box_d rfl lay3 rfl rfl rfl | exact load_box rfl lay3 rfl rfl rfl) ?_ | refine d_rd [0] _ rfl (on_yes rfl rfl rfl d2) (by first | exact load_ptr rfl lay3 rfl rfl | exact load_flat rfl lay3 rfl rfl (by first | rfl | assumption | (simp only [List.getElem?_map, Option.map_some, *]; done)) rfl | exact load_box_d rfl lay3 rfl rfl rfl | exact load_box rfl lay3 rfl rfl rfl) ?_ | refine d_rd [1] _ rfl (on_yes rfl rfl rfl d2) (by first | exact load_ptr rfl lay3 rfl rfl | exact load_flat rfl lay3 rfl rfl (by first | rfl | assumption | (simp only [List.getElem?_map, Option.map_some, *]; done)) rfl | exact load_box_d rfl lay3 rfl rfl rfl | exact load_box rfl lay3 rfl rfl rfl) ?_ | refine d_rd [0, 1] _ rfl (on_yes rfl rfl rfl d2) (by first | exact load_ptr rfl lay3 rfl rfl | exact load_flat rfl lay3 rfl rfl (by first | rfl | assumption | (simp only [List.getElem?_map, Option.map_some, *]; done)) rfl | exact load_box_d rfl lay3 rfl rfl rfl | exact load_box rfl lay3 rfl rfl rfl) ?_
                  refine d_rd [] _ rfl (on_yes rfl rfl rfl d2) (by first | exact cmp_int rfl rfl rfl rfl | exact cmp_bool rfl rfl rfl rfl) ?_
                  refine d_rd [] _ rfl (on_yes rfl rfl rfl d1) (pickh_F rfl rfl d2 rfl) ?_
                  refine d_rd [] _ rfl rfl (pickh_T rfl rfl d1 rfl) ?_
                  refine d_tail ?_ (by kernel_rfl)
                  refine tops_nil ?_
                  refine twp_norm [0, 1, 2, 7, 30, 31, 32, 65] (by repeat (first | exact SubK.nil | apply sub_d rfl | apply sub_msl rfl | apply sub_mptr rfl | apply sub_agg rfl | apply sub_tup rfl | apply sub_ifc rfl | apply sub_fnc rfl | apply sub_mmap rfl | apply SubK.cons _ _ _ _ rfl)) (by repeat (first | exact blk_nil rfl | apply blk_flat rfl | apply blk_box rfl | apply blk_map rfl | apply blk_dead rfl | rfl)) ?_
                  refine twp_cond _ rfl (fun d3 => ?_) (fun d3 => ?_)
                  · refine twp_rseq ?_
                    refine s_rd _ rfl (rd_callRN rfl rfl (by repeat (first | exact snaps_nil | refine snaps_cons (.d _) ?_ | refine snaps_cons (snap_full rfl (by simp)) ?_ | refine snaps_cons (snap_full rfl rfl) ?_ | refine snaps_cons (snap_agg (by repeat (first | exact SnapsO.nil | refine SnapsO.cons (Snap.d _) rfl ?_ | refine SnapsO.cons (snap_full rfl rfl) rfl ?_))) ?_)) (alive_n)) ?_
                    refine s_rd _ rfl (by first | exact mv_d (.inr rfl) rfl | exact mv_msl (.inr rfl) rfl | exact mv_mptr (.inr rfl) rfl | exact mv_agg (.inr rfl) rfl | exact mv_tup (.inr rfl) rfl | exact mv_ifc (.inr rfl) rfl | exact mv_fnc (.inr rfl) rfl | exact mv_mmap (.inr rfl) rfl | exact rd_move (.inr rfl)) ?_
                    refine tops_nil ?_
                    refine twp_norm [6] (by repeat (first | exact SubK.nil | apply sub_d rfl | apply sub_msl rfl | apply sub_mptr rfl | apply sub_agg rfl | apply sub_tup rfl | apply sub_ifc rfl | apply sub_fnc rfl | apply sub_mmap rfl | apply SubK.cons _ _ _ _ rfl)) (by repeat (first | exact blk_nil rfl | apply blk_flat rfl | apply blk_box rfl | apply blk_map rfl | apply blk_dead rfl | rfl)) ?_
                    refine twp_ret ?_
                    refine way_blockRet ?_
                    refine way_thenRet ?_
                    refine way_thenRet ?_
                    refine way_blockRet ?_
                    refine way_thenRet ?_
                    exact Ends.plain _ rfl
                  · have hgd : goodM (gAt bs i) m := .inr ⟨by simpa using d2, by simpa using d3⟩
                    refine twp_skip ?_
                    refine way_block ?_
                    refine way_then ?_
                    refine twp_norm [0, 1, 2, 7, 30, 31, 32] (by repeat (first | exact SubK.nil | apply sub_d rfl | apply sub_msl rfl | apply sub_mptr rfl | apply sub_agg rfl | apply sub_tup rfl | apply sub_ifc rfl | apply sub_fnc rfl | apply sub_mmap rfl | apply SubK.cons _ _ _ _ rfl)) (by repeat (first | exact blk_nil rfl | apply blk_flat rfl | apply blk_box rfl | apply blk_map rfl | apply blk_dead rfl | rfl)) ?_
                    refine twp_region ?_
                    refine s_rd _ rfl (arith_ok rfl rfl rfl rfl (by first | omega | (constructor <;> omega))) ?_
                    refine s_rd _ rfl (by first | exact mv_d (.inl rfl) rfl | exact mv_msl (.inl rfl) rfl | exact mv_mptr (.inl rfl) rfl | exact mv_agg (.inl rfl) rfl | exact mv_tup (.inl rfl) rfl | exact mv_ifc (.inl rfl) rfl | exact mv_fnc (.inl rfl) rfl | exact mv_mmap (.inl rfl) rfl | exact rd_move (.inl rfl)) ?_
                    refine tops_nil ?_
                    refine way_then ?_
                    exact ⟨(i + 1), [0], by decide, fun i hi => absurd hi (Nat.not_lt_zero i), ⟨by omega, fun j m' hj hm' => by
        rcases Nat.lt_or_ge j i with h | h
        · exact hgs j m' h hm'
        · obtain rfl : j = i := by omega
          rw [hm] at hm'; cases hm'; exact hgd⟩, (by omega), rfl⟩
              · have hgd : goodM (gAt bs i) m := .inl (of_decide_eq_false d1)
                refine d_skip rfl (on_no rfl rfl rfl d1) ?_
                refine d_skip rfl (on_no rfl rfl rfl d1) ?_
                refine d_skip rfl (on_no rfl rfl rfl d1) ?_
                refine d_skip rfl (on_no rfl rfl rfl d1) ?_
                refine d_skip rfl (on_und rfl rfl rfl) ?_
                refine d_skip rfl (on_und rfl rfl rfl) ?_
                refine d_skip rfl (on_und rfl rfl rfl) ?_
                refine d_skip rfl (on_und rfl rfl rfl) ?_
                refine d_skip rfl (on_und rfl rfl rfl) ?_
                refine d_skip rfl (on_no rfl rfl rfl d1) ?_
                refine d_rd [] _ rfl rfl (pickh_F rfl rfl d1 rfl) ?_
                refine d_tail ?_ (by kernel_rfl)
                refine tops_nil ?_
                refine twp_norm [0, 1, 2, 7, 30, 31, 32, 65] (by repeat (first | exact SubK.nil | apply sub_d rfl | apply sub_msl rfl | apply sub_mptr rfl | apply sub_agg rfl | apply sub_tup rfl | apply sub_ifc rfl | apply sub_fnc rfl | apply sub_mmap rfl | apply SubK.cons _ _ _ _ rfl)) (by repeat (first | exact blk_nil rfl | apply blk_flat rfl | apply blk_box rfl | apply blk_map rfl | apply blk_dead rfl | rfl)) ?_
                refine twp_cond false rfl (fun h => by cases h) (fun _ => ?_)
                refine twp_skip ?_
                refine way_block ?_
                refine way_then ?_
                refine twp_norm [0, 1, 2, 7, 30, 31, 32] (by repeat (first | exact SubK.nil | apply sub_d rfl | apply sub_msl rfl | apply sub_mptr rfl | apply sub_agg rfl | apply sub_tup rfl | apply sub_ifc rfl | apply sub_fnc rfl | apply sub_mmap rfl | apply SubK.cons _ _ _ _ rfl)) (by repeat (first | exact blk_nil rfl | apply blk_flat rfl | apply blk_box rfl | apply blk_map rfl | apply blk_dead rfl | rfl)) ?_
                refine twp_region ?_
                refine s_rd _ rfl (arith_ok rfl rfl rfl rfl (by first | omega | (constructor <;> omega))) ?_
                refine s_rd _ rfl (by first | exact mv_d (.inl rfl) rfl | exact mv_msl (.inl rfl) rfl | exact mv_mptr (.inl rfl) rfl | exact mv_agg (.inl rfl) rfl | exact mv_tup (.inl rfl) rfl | exact mv_ifc (.inl rfl) rfl | exact mv_fnc (.inl rfl) rfl | exact mv_mmap (.inl rfl) rfl | exact rd_move (.inl rfl)) ?_
                refine tops_nil ?_
                refine way_then ?_
                exact ⟨(i + 1), [0], by decide, fun i hi => absurd hi (Nat.not_lt_zero i), ⟨by omega, fun j m' hj hm' => by
        rcases Nat.lt_or_ge j i with h | h
        · exact hgs j m' h hm'
        · obtain rfl : j = i := by omega
          rw [hm] at hm'; cases hm'; exact hgd⟩, (by omega), rfl⟩
            · subst hbt
              have hE : (pre (fun j _ => gAt bs j) ms i).map (D.int .i64) ++ [D.int .i64 1] = (pre (fun j _ => gAt bs j) ms (i + 1)).map (D.int .i64) := by rw [pre_succ _ hm]; simp [gAt, hb]
              refine twp_skip ?_
              refine way_then ?_
              refine twp_norm [0, 1, 2, 7, 8, 9, 30, 31, 32] (by repeat (first | exact SubK.nil | apply sub_d rfl | apply sub_msl rfl | apply sub_mptr rfl | apply sub_agg rfl | apply sub_tup rfl | apply sub_ifc rfl | apply sub_fnc rfl | apply sub_mmap rfl | apply SubK.cons _ _ _ _ rfl)) (by repeat (first | exact blk_nil rfl | apply blk_flat rfl | apply blk_box rfl | apply blk_map rfl | apply blk_dead rfl | rfl)) ?_
              refine twp_dseq follows  ?_
              refine d_hp (congrArg (fun es => Blk.flat 3 1 es :: _) hE) ?_
              refine d_rd [] _ rfl rfl (by first | exact fieldAddr_ptr rfl fld39_1 rfl rfl | exact fieldAddr_mptr rfl fld39_1 rfl rfl) ?_
              first | refine d_rd [] _ rfl rfl (by first | exact load_ptr rfl lay3 rfl rfl | exact load_flat rfl lay3 rfl rfl (by first | rfl | assumption | (simp only [List.getElem?_map, Option.map_some, *]; done)) rfl | exact load_box_d rfl lay3 rfl rfl rfl | exact load_box rfl lay3 rfl rfl rfl) ?_ | refine d_rd [0] _ rfl rfl (by first | exact load_ptr rfl lay3 rfl rfl | exact load_flat rfl lay3 rfl rfl (by first | rfl | assumption | (simp only [List.getElem?_map, Option.map_some, *]; done)) rfl | exact load_box_d rfl lay3 rfl rfl rfl | exact load_box rfl lay3 rfl rfl rfl) ?_ | refine d_rd [1] _ rfl rfl (by first | exact load_ptr rfl lay3 rfl rfl | exact load_flat rfl lay3 rfl rfl (by first | rfl | assumption | (simp only [List.getElem?_map, Option.map_some, *]; done)) rfl | exact load_box_d rfl lay3 rfl rfl rfl | exact load_box rfl lay3 rfl rfl rfl) ?_ | refine d_rd [0, 1] _ rfl rfl (by first | exact load_ptr rfl lay3 rfl rfl | exact load_flat rfl lay3 rfl rfl (by first | rfl | assumption | (simp only [List.getElem?_map, Option.map_some, *]; done)) rfl | exact load_box_d rfl lay3 rfl rfl rfl | exact load_box rfl lay3 rfl rfl rfl) ?_
              refine d_rd [] _ rfl rfl (by first | exact mv_d (.inl rfl) rfl | exact mv_msl (.inl rfl) rfl | exact mv_mptr (.inl rfl) rfl | exact mv_agg (.inl rfl) rfl | exact mv_tup (.inl rfl) rfl | exact mv_ifc (.inl rfl) rfl | exact mv_fnc (.inl rfl) rfl | exact mv_mmap (.inl rfl) rfl | exact rd_move (.inl rfl)) ?_
              refine d_rd [] _ rfl rfl (by first | exact mv_d (.inl rfl) rfl | exact mv_msl (.inl rfl) rfl | exact mv_mptr (.inl rfl) rfl | exact mv_agg (.inl rfl) rfl | exact mv_tup (.inl rfl) rfl | exact mv_ifc (.inl rfl) rfl | exact mv_fnc (.inl rfl) rfl | exact mv_mmap (.inl rfl) rfl | exact rd_move (.inl rfl)) ?_
              refine d_rd [] _ rfl rfl (by first | exact index_msl0 rfl sel23 rfl rfl (by omega) | exact index_sl rfl sel23 rfl rfl (by first | exact ⟨by omega, by assumption⟩ | exact idx_map (by assumption) | exact idx_id (by assumption))) ?_
              first | refine d_rd [] _ rfl rfl (by first | exact load_ptr rfl lay3 rfl rfl | exact load_flat rfl lay3 rfl rfl (el_map hgi) rfl | exact load_box_d rfl lay3 rfl rfl rfl | exact load_box rfl lay3 rfl rfl rfl) ?_ | refine d_rd [0] _ rfl rfl (by first | exact load_ptr rfl lay3 rfl rfl | exact load_flat rfl lay3 rfl rfl (el_map hgi) rfl | exact load_box_d rfl lay3 rfl rfl rfl | exact load_box rfl lay3 rfl rfl rfl) ?_ | refine d_rd [1] _ rfl rfl (by first | exact load_ptr rfl lay3 rfl rfl | exact load_flat rfl lay3 rfl rfl (el_map hgi) rfl | exact load_box_d rfl lay3 rfl rfl rfl | exact load_box rfl lay3 rfl rfl rfl) ?_ | refine d_rd [0, 1] _ rfl rfl (by first | exact load_ptr rfl lay3 rfl rfl | exact load_flat rfl lay3 rfl rfl (el_map hgi) rfl | exact load_box_d rfl lay3 rfl rfl rfl | exact load_box rfl lay3 rfl rfl rfl) ?_
              refine d_rd [] _ rfl rfl (by first | exact cmp_int rfl rfl rfl rfl | exact cmp_bool rfl rfl rfl rfl) ?_
              refine d_rd [] _ rfl rfl (by first | exact mv_d (.inl rfl) rfl | exact mv_msl (.inl rfl) rfl | exact mv_mptr (.inl rfl) rfl | exact mv_agg (.inl rfl) rfl | exact mv_tup (.inl rfl) rfl | exact mv_ifc (.inl rfl) rfl | exact mv_fnc (.inl rfl) rfl | exact mv_mmap (.inl rfl) rfl | exact rd_move (.inl rfl)) ?_
              refine d_split 54 rfl (fun d1 => ?_) (fun d1 => ?_)
              · refine d_rd [] _ rfl (on_yes rfl rfl rfl d1) (by first | exact fieldAddr_ptr rfl fld39_2 rfl rfl | exact fieldAddr_mptr rfl fld39_2 rfl rfl) ?_
                first | refine d_rd [] _ rfl (on_yes rfl rfl rfl d1) (by first | exact load_ptr rfl lay3 rfl rfl | exact load_flat rfl lay3 rfl rfl (by first | rfl | assumption | (simp only [List.getElem?_map, Option.map_some, *]; done)) rfl | exact load_box_d rfl lay3 rfl rfl rfl | exact load_box rfl lay3 rfl rfl rfl) ?_ | refine d_rd [0] _ rfl (on_yes rfl rfl rfl d1) (by first | exact load_ptr rfl lay3 rfl rfl | exact load_flat rfl lay3 rfl rfl (by first | rfl | assumption | (simp only [List.getElem?_map, Option.map_some, *]; done)) rfl | exact load_box_d rfl lay3 rfl rfl rfl | exact load_box rfl lay3 rfl rfl rfl) ?_ | refine d_rd [1] _ rfl (on_yes rfl rfl rfl d1) (by first | exact load_ptr rfl lay3 rfl rfl | exact load_flat rfl lay3 rfl rfl (by first | rfl | assumption | (simp only [List.getElem?_map, Option.map_some, *]; done)) rfl | exact load_box_d rfl lay3 rfl rfl rfl | exact load_box rfl lay3 rfl rfl rfl) ?_ | refine d_rd [0, 1] _ rfl (on_yes rfl rfl rfl d1) (by first | exact load_ptr rfl lay3 rfl rfl | exact load_flat rfl lay3 rfl rfl (by first | rfl | assumption | (simp only [List.getElem?_map, Option.map_some, *]; done)) rfl | exact load_box_d rfl lay3 rfl rfl rfl | exact load_box rfl lay3 rfl rfl rfl) ?_
                refine d_rd [] _ rfl (on_yes rfl rfl rfl d1) (by first | exact cmp_int rfl rfl rfl rfl | exact cmp_bool rfl rfl rfl rfl) ?_
                refine d_rd [] _ rfl (on_yes rfl rfl rfl d1) (by first | exact mv_d (.inl rfl) rfl | exact mv_msl (.inl rfl) rfl | exact mv_mptr (.inl rfl) rfl | exact mv_agg (.inl rfl) rfl | exact mv_tup (.inl rfl) rfl | exact mv_ifc (.inl rfl) rfl | exact mv_fnc (.inl rfl) rfl | exact mv_mmap (.inl rfl) rfl | exact rd_move (.inl rfl)) ?_
                refine d_split 58 rfl (fun d2 => ?_) (fun d2 => ?_)
                · refine d_skip rfl (on_no rfl rfl rfl d2) ?_
                  refine d_skip rfl (on_no rfl rfl rfl d2) ?_
                  refine d_skip rfl (on_no rfl rfl rfl d2) ?_
                  refine d_skip rfl (on_no rfl rfl rfl d2) ?_
                  refine d_skip rfl (on_no rfl rfl rfl d2) ?_
                  refine d_rd [] _ rfl (on_yes rfl rfl rfl d1) (pickh_T rfl rfl d2 rfl) ?_
                  refine d_rd [] _ rfl rfl (pickh_T rfl rfl d1 rfl) ?_
                  refine d_tail ?_ (by kernel_rfl)
                  refine tops_nil ?_
                  refine twp_norm [0, 1, 2, 7, 30, 31, 32, 65] (by repeat (first | exact SubK.nil | apply sub_d rfl | apply sub_msl rfl | apply sub_mptr rfl | apply sub_agg rfl | apply sub_tup rfl | apply sub_ifc rfl | apply sub_fnc rfl | apply sub_mmap rfl | apply SubK.cons _ _ _ _ rfl)) (by repeat (first | exact blk_nil rfl | apply blk_flat rfl | apply blk_box rfl | apply blk_map rfl | apply blk_dead rfl | rfl)) ?_
                  refine twp_cond true rfl (fun _ => ?_) (fun h => by cases h)
                  refine twp_rseq ?_
                  refine s_rd _ rfl (rd_callRN rfl rfl (by repeat (first | exact snaps_nil | refine snaps_cons (.d _) ?_ | refine snaps_cons (snap_full rfl (by simp)) ?_ | refine snaps_cons (snap_full rfl rfl) ?_ | refine snaps_cons (snap_agg (by repeat (first | exact SnapsO.nil | refine SnapsO.cons (Snap.d _) rfl ?_ | refine SnapsO.cons (snap_full rfl rfl) rfl ?_))) ?_)) (alive_n)) ?_
                  refine s_rd _ rfl (by first | exact mv_d (.inr rfl) rfl | exact mv_msl (.inr rfl) rfl | exact mv_mptr (.inr rfl) rfl | exact mv_agg (.inr rfl) rfl | exact mv_tup (.inr rfl) rfl | exact mv_ifc (.inr rfl) rfl | exact mv_fnc (.inr rfl) rfl | exact mv_mmap (.inr rfl) rfl | exact rd_move (.inr rfl)) ?_
                  refine tops_nil ?_
                  refine twp_norm [6] (by repeat (first | exact SubK.nil | apply sub_d rfl | apply sub_msl rfl | apply sub_mptr rfl | apply sub_agg rfl | apply sub_tup rfl | apply sub_ifc rfl | apply sub_fnc rfl | apply sub_mmap rfl | apply SubK.cons _ _ _ _ rfl)) (by repeat (first | exact blk_nil rfl | apply blk_flat rfl | apply blk_box rfl | apply blk_map rfl | apply blk_dead rfl | rfl)) ?_
                  refine twp_ret ?_
                  refine way_blockRet ?_
                  refine way_thenRet ?_
                  refine way_thenRet ?_
                  refine way_blockRet ?_
                  refine way_thenRet ?_
                  exact Ends.plain _ rfl
                · refine d_rd [] _ rfl (on_yes rfl rfl rfl d2) (by first | exact fieldAddr_ptr rfl fld39_0 rfl rfl | exact fieldAddr_mptr rfl fld39_0 rfl rfl) ?_
                  first | refine d_rd [] _ rfl (on_yes rfl rfl rfl d2) (by first | exact load_ptr rfl lay3 rfl rfl | exact load_flat rfl lay3 rfl rfl (by first | rfl | assumption | (simp only [List.getElem?_map, Option.map_some, *]; done)) rfl | exact load_box_d rfl lay3 rfl rfl rfl | exact load_box rfl lay3 rfl rfl rfl) ?_ | refine d_rd [0] _ rfl (on_yes rfl rfl rfl d2) (by first | exact load_ptr rfl lay3 rfl rfl | exact load_flat rfl lay3 rfl rfl (by first | rfl | assumption | (simp only [List.getElem?_map, Option.map_some, *]; done)) rfl | exact load_box_d rfl lay3 rfl rfl rfl | exact load_box rfl lay3 rfl rfl rfl) ?_ | refine d_rd [1] _ rfl (on_yes rfl rfl rfl d2) (by first | exact load_ptr rfl lay3 rfl rfl | exact load_flat rfl lay3 rfl rfl (by first | rfl | assumption | (simp only [List.getElem?_map, Option.map_some, *]; done)) rfl | exact load_box_d rfl lay3 rfl rfl rfl | exact load_box rfl lay3 rfl rfl rfl) ?_ | refine d_rd [0, 1] _ rfl (on_yes rfl rfl rfl d2) (by first | exact load_ptr rfl lay3 rfl rfl | exact load_flat rfl lay3 rfl rfl (by first | rfl | assumption | (simp only [List.getElem?_map, Option.map_some, *]; done)) rfl | exact load_box_d rfl lay3 rfl rfl rfl | exact load_box rfl lay3 rfl rfl rfl) ?_
                  refine d_rd [] _ rfl (on_yes rfl rfl rfl d2) (by first | exact fieldAddr_ptr rfl fld39_1 rfl rfl | exact fieldAddr_mptr rfl fld39_1 rfl rfl) ?_
                  first | refine d_rd [] _ rfl (on_yes rfl rfl rfl d2) (by first | exact load_ptr rfl lay3 rfl rfl | exact load_flat rfl lay3 rfl rfl (by first | rfl | assumption | (simp only [List.getElem?_map, Option.map_some, *]; done)) rfl | exact load_box_d rfl lay3 rfl rfl rfl | exact load_box rfl lay3 rfl rfl rfl) ?_ | refine d_rd [0] _ rfl (on_yes rfl rfl rfl d2) (by first | exact load_ptr rfl lay3 rfl rfl | exact load_flat rfl lay3 rfl rfl (by first | rfl | assumption | (simp only [List.getElem?_map, Option.map_some, *]; done)) rfl | exact load_box_d rfl lay3 rfl rfl rfl | exact load_box rfl lay3 rfl rfl rfl) ?_ | refine d_rd [1] _ rfl (on_yes rfl rfl rfl d2) (by first | exact load_ptr rfl lay3 rfl rfl | exact load_flat rfl lay3 rfl rfl (by first | rfl | assumption | (simp only [List.getElem?_map, Option.map_some, *]; done)) rfl | exact load_box_d rfl lay3 rfl rfl rfl | exact load_box rfl lay3 rfl rfl rfl) ?_ | refine d_rd [0, 1] _ rfl (on_yes rfl rfl rfl d2) (by first | exact load_ptr rfl lay3 rfl rfl | exact load_flat rfl lay3 rfl rfl (by first | rfl | assumption | (simp only [List.getElem?_map, Option.map_some, *]; done)) rfl | exact load_box_d rfl lay3 rfl rfl rfl | exact load_box rfl lay3 rfl rfl rfl) ?_
                  refine d_rd [] _ rfl (on_yes rfl rfl rfl d2) (by first | exact cmp_int rfl rfl rfl rfl | exact cmp_bool rfl rfl rfl rfl) ?_
                  refine d_rd [] _ rfl (on_yes rfl rfl rfl d1) (pickh_F rfl rfl d2 rfl) ?_
                  refine d_rd [] _ rfl rfl (pickh_T rfl rfl d1 rfl) ?_
                  refine d_tail ?_ (by kernel_rfl)
                  refine tops_nil ?_
                  refine twp_norm [0, 1, 2, 7, 30, 31, 32, 65] (by repeat (first | exact SubK.nil | apply sub_d rfl | apply sub_msl rfl | apply sub_mptr rfl | apply sub_agg rfl | apply sub_tup rfl | apply sub_ifc rfl | apply sub_fnc rfl | apply sub_mmap rfl | apply SubK.cons _ _ _ _ rfl)) (by repeat (first | exact blk_nil rfl | apply blk_flat rfl | apply blk_box rfl | apply blk_map rfl | apply blk_dead rfl | rfl)) ?_
                  refine twp_cond _ rfl (fun d3 => ?_) (fun d3 => ?_)
                  · refine twp_rseq ?_
                    refine s_rd _ rfl (rd_callRN rfl rfl (by repeat (first | exact snaps_nil | refine snaps_cons (.d _) ?_ | refine snaps_cons (snap_full rfl (by simp)) ?_ | refine snaps_cons (snap_full rfl rfl) ?_ | refine snaps_cons (snap_agg (by repeat (first | exact SnapsO.nil | refine SnapsO.cons (Snap.d _) rfl ?_ | refine SnapsO.cons (snap_full rfl rfl) rfl ?_))) ?_)) (alive_n)) ?_
                    refine s_rd _ rfl (by first | exact mv_d (.inr rfl) rfl | exact mv_msl (.inr rfl) rfl | exact mv_mptr (.inr rfl) rfl | exact mv_agg (.inr rfl) rfl | exact mv_tup (.inr rfl) rfl | exact mv_ifc (.inr rfl) rfl | exact mv_fnc (.inr rfl) rfl | exact mv_mmap (.inr rfl) rfl | exact rd_move (.inr rfl)) ?_
                    refine tops_nil ?_
                    refine twp_norm [6] (by repeat (first | exact SubK.nil | apply sub_d rfl | apply sub_msl rfl | apply sub_mptr rfl | apply sub_agg rfl | apply sub_tup rfl | apply sub_ifc rfl | apply sub_fnc rfl | apply sub_mmap rfl | apply SubK.cons _ _ _ _ rfl)) (by repeat (first | exact blk_nil rfl | apply blk_flat rfl | apply blk_box rfl | apply blk_map rfl | apply blk_dead rfl | rfl)) ?_
                    refine twp_ret ?_
                    refine way_blockRet ?_
                    refine way_thenRet ?_
                    refine way_thenRet ?_
                    refine way_blockRet ?_
                    refine way_thenRet ?_
                    exact Ends.plain _ rfl
                  · have hgd : goodM (gAt bs i) m := .inr ⟨by simpa using d2, by simpa using d3⟩
                    refine twp_skip ?_
                    refine way_block ?_
                    refine way_then ?_
                    refine twp_norm [0, 1, 2, 7, 30, 31, 32] (by repeat (first | exact SubK.nil | apply sub_d rfl | apply sub_msl rfl | apply sub_mptr rfl | apply sub_agg rfl | apply sub_tup rfl | apply sub_ifc rfl | apply sub_fnc rfl | apply sub_mmap rfl | apply SubK.cons _ _ _ _ rfl)) (by repeat (first | exact blk_nil rfl | apply blk_flat rfl | apply blk_box rfl | apply blk_map rfl | apply blk_dead rfl | rfl)) ?_
                    refine twp_region ?_
                    refine s_rd _ rfl (arith_ok rfl rfl rfl rfl (by first | omega | (constructor <;> omega))) ?_
                    refine s_rd _ rfl (by first | exact mv_d (.inl rfl) rfl | exact mv_msl (.inl rfl) rfl | exact mv_mptr (.inl rfl) rfl | exact mv_agg (.inl rfl) rfl | exact mv_tup (.inl rfl) rfl | exact mv_ifc (.inl rfl) rfl | exact mv_fnc (.inl rfl) rfl | exact mv_mmap (.inl rfl) rfl | exact rd_move (.inl rfl)) ?_
                    refine tops_nil ?_
                    refine way_then ?_
                    exact ⟨(i + 1), [0], by decide, fun i hi => absurd hi (Nat.not_lt_zero i), ⟨by omega, fun j m' hj hm' => by
        rcases Nat.lt_or_ge j i with h | h
        · exact hgs j m' h hm'
        · obtain rfl : j = i := by omega
          rw [hm] at hm'; cases hm'; exact hgd⟩, (by omega), rfl⟩
              · have hgd : goodM (gAt bs i) m := .inl (of_decide_eq_false d1)
                refine d_skip rfl (on_no rfl rfl rfl d1) ?_
                refine d_skip rfl (on_no rfl rfl rfl d1) ?_
                refine d_skip rfl (on_no rfl rfl rfl d1) ?_
                refine d_skip rfl (on_no rfl rfl rfl d1) ?_
                refine d_skip rfl (on_und rfl rfl rfl) ?_
                refine d_skip rfl (on_und rfl rfl rfl) ?_
                refine d_skip rfl (on_und rfl rfl rfl) ?_
                refine d_skip rfl (on_und rfl rfl rfl) ?_
                refine d_skip rfl (on_und rfl rfl rfl) ?_
                refine d_skip rfl (on_no rfl rfl rfl d1) ?_
                refine d_rd [] _ rfl rfl (pickh_F rfl rfl d1 rfl) ?_
                refine d_tail ?_ (by kernel_rfl)
                refine tops_nil ?_
                refine twp_norm [0, 1, 2, 7, 30, 31, 32, 65] (by repeat (first | exact SubK.nil | apply sub_d rfl | apply sub_msl rfl | apply sub_mptr rfl | apply sub_agg rfl | apply sub_tup rfl | apply sub_ifc rfl | apply sub_fnc rfl | apply sub_mmap rfl | apply SubK.cons _ _ _ _ rfl)) (by repeat (first | exact blk_nil rfl | apply blk_flat rfl | apply blk_box rfl | apply blk_map rfl | apply blk_dead rfl | rfl)) ?_
                refine twp_cond false rfl (fun h => by cases h) (fun _ => ?_)
                refine twp_skip ?_
                refine way_block ?_
                refine way_then ?_
                refine twp_norm [0, 1, 2, 7, 30, 31, 32] (by repeat (first | exact SubK.nil | apply sub_d rfl | apply sub_msl rfl | apply sub_mptr rfl | apply sub_agg rfl | apply sub_tup rfl | apply sub_ifc rfl | apply sub_fnc rfl | apply sub_mmap rfl | apply SubK.cons _ _ _ _ rfl)) (by repeat (first | exact blk_nil rfl | apply blk_flat rfl | apply blk_box rfl | apply blk_map rfl | apply blk_dead rfl | rfl)) ?_
                refine twp_region ?_
                refine s_rd _ rfl (arith_ok rfl rfl rfl rfl (by first | omega | (constructor <;> omega))) ?_
                refine s_rd _ rfl (by first | exact mv_d (.inl rfl) rfl | exact mv_msl (.inl rfl) rfl | exact mv_mptr (.inl rfl) rfl | exact mv_agg (.inl rfl) rfl | exact mv_tup (.inl rfl) rfl | exact mv_ifc (.inl rfl) rfl | exact mv_fnc (.inl rfl) rfl | exact mv_mmap (.inl rfl) rfl | exact rd_move (.inl rfl)) ?_
                refine tops_nil ?_
                refine way_then ?_
                exact ⟨(i + 1), [0], by decide, fun i hi => absurd hi (Nat.not_lt_zero i), ⟨by omega, fun j m' hj hm' => by
        rcases Nat.lt_or_ge j i with h | h
        · exact hgs j m' h hm'
        · obtain rfl : j = i := by omega
          rw [hm] at hm'; cases hm'; exact hgd⟩, (by omega), rfl⟩
          · have hlt : ¬ i < ms.length := by simpa using hlt
            obtain rfl : i = ms.length := by omega
            have hall : pre (fun j _ => gAt bs j) ms ms.length = goals bs ms := pre_all _ ms (Nat.le_refl _)
            have hgood : ∀ j m, ms[j]? = some m → goodM (gAt bs j) m := fun j m h => hgs j m (List.getElem?_eq_some_iff.1 h).1 h
            have hgl : (goals bs ms).length = ms.length := by simp [goals]
            have hcl : (commands ms (goals bs ms)).length = ms.length := by simp [commands]
            refine twp_exit ?_
            refine way_thenExit ?_
            refine way_thenExit ?_
            refine way_here ?_
            refine way_then ?_
            refine twp_norm [0, 2, 7] (by repeat (first | exact SubK.nil | apply sub_d rfl | apply sub_msl rfl | apply sub_mptr rfl | apply sub_agg rfl | apply sub_tup rfl | apply sub_ifc rfl | apply sub_fnc rfl | apply sub_mmap rfl | apply SubK.cons _ _ _ _ rfl)) (by repeat (first | exact blk_nil rfl | apply blk_flat rfl | apply blk_box rfl | apply blk_map rfl | apply blk_dead rfl | rfl)) ?_
            refine twp_rseq ?_
            refine t_hp (congrArg (fun es => Blk.flat 3 1 (List.map (D.int .i64) es) :: _) hall) ?_
            refine s_rd _ rfl (by first | exact mv_d (.inl rfl) rfl | exact mv_msl (.inl rfl) rfl | exact mv_mptr (.inl rfl) rfl | exact mv_agg (.inl rfl) rfl | exact mv_tup (.inl rfl) rfl | exact mv_ifc (.inl rfl) rfl | exact mv_fnc (.inl rfl) rfl | exact mv_mmap (.inl rfl) rfl | exact rd_move (.inl rfl)) ?_
            refine s_rd _ rfl (by first | exact mv_d (.inl rfl) rfl | exact mv_msl (.inl rfl) rfl | exact mv_mptr (.inl rfl) rfl | exact mv_agg (.inl rfl) rfl | exact mv_tup (.inl rfl) rfl | exact mv_ifc (.inl rfl) rfl | exact mv_fnc (.inl rfl) rfl | exact mv_mmap (.inl rfl) rfl | exact rd_move (.inl rfl)) ?_
            refine s_rd _ rfl (rd_callRN rfl rfl (by repeat (first | exact snaps_nil | refine snaps_cons (.d _) ?_ | refine snaps_cons (snap_full rfl (by rw [List.length_map]; exact hgl.symm)) ?_ | refine snaps_cons (snap_full rfl rfl) ?_ | refine snaps_cons (snap_agg (by repeat (first | exact SnapsO.nil | refine SnapsO.cons (Snap.d _) rfl ?_ | refine SnapsO.cons (snap_full rfl rfl) rfl ?_))) ?_)) (command_n ms (goals bs ms) hn (by omega))) ?_
            refine s_rd _ rfl (by first | exact mv_d (.inl rfl) rfl | exact mv_msl (.inl rfl) rfl | exact mv_mptr (.inl rfl) rfl | exact mv_agg (.inl rfl) rfl | exact mv_tup (.inl rfl) rfl | exact mv_ifc (.inl rfl) rfl | exact mv_fnc (.inl rfl) rfl | exact mv_mmap (.inl rfl) rfl | exact rd_move (.inl rfl)) ?_
            refine s_rd _ rfl (arith_ok rfl rfl rfl rfl (by first | omega | (constructor <;> omega))) ?_
            refine s_rd _ rfl (rd_callRD rfl rfl rfl (steps_d (commands ms (goals bs ms)) (3 + k) (by omega) (by omega) (commands_wf hw (goals_ok bs ms)))) ?_
            refine s_rd _ rfl (by first | exact mv_d (.inr rfl) rfl | exact mv_msl (.inr rfl) rfl | exact mv_mptr (.inr rfl) rfl | exact mv_agg (.inr rfl) rfl | exact mv_tup (.inr rfl) rfl | exact mv_ifc (.inr rfl) rfl | exact mv_fnc (.inr rfl) rfl | exact mv_mmap (.inr rfl) rfl | exact rd_move (.inr rfl)) ?_
            refine tops_nil ?_
            refine twp_norm [7, 10] (by repeat (first | exact SubK.nil | apply sub_d rfl | apply sub_msl rfl | apply sub_mptr rfl | apply sub_agg rfl | apply sub_tup rfl | apply sub_ifc rfl | apply sub_fnc rfl | apply sub_mmap rfl | apply SubK.cons _ _ _ _ rfl)) (by repeat (first | exact blk_nil rfl | apply blk_flat rfl | apply blk_box rfl | apply blk_map rfl | apply blk_dead rfl | rfl)) ?_
            refine twp_rseq ?_
            refine s_rd _ rfl (by first | exact mv_d (.inl rfl) rfl | exact mv_msl (.inl rfl) rfl | exact mv_mptr (.inl rfl) rfl | exact mv_agg (.inl rfl) rfl | exact mv_tup (.inl rfl) rfl | exact mv_ifc (.inl rfl) rfl | exact mv_fnc (.inl rfl) rfl | exact mv_mmap (.inl rfl) rfl | exact rd_move (.inl rfl)) ?_
            refine s_rd _ rfl (rd_callRN rfl rfl (by repeat (first | exact snaps_nil | refine snaps_cons (.d _) ?_ | refine snaps_cons (snap_full rfl (by simp)) ?_ | refine snaps_cons (snap_full rfl rfl) ?_ | refine snaps_cons (snap_agg (by repeat (first | exact SnapsO.nil | refine SnapsO.cons (Snap.d _) rfl ?_ | refine SnapsO.cons (snap_full rfl rfl) rfl ?_))) ?_)) (detected_n ((commands ms (goals bs ms)).map (stepsM (3 + k))) (by simp; omega))) ?_
            refine s_rd _ rfl (by first | exact mv_d (.inl rfl) rfl | exact mv_msl (.inl rfl) rfl | exact mv_mptr (.inl rfl) rfl | exact mv_agg (.inl rfl) rfl | exact mv_tup (.inl rfl) rfl | exact mv_ifc (.inl rfl) rfl | exact mv_fnc (.inl rfl) rfl | exact mv_mmap (.inl rfl) rfl | exact rd_move (.inl rfl)) ?_
            refine s_rd _ rfl (rd_callRN rfl rfl (by repeat (first | exact snaps_nil | refine snaps_cons (.d _) ?_ | refine snaps_cons (snap_full rfl (by rw [List.length_map]; exact hgl.symm)) ?_ | refine snaps_cons (snap_full rfl rfl) ?_ | refine snaps_cons (snap_agg (by repeat (first | exact SnapsO.nil | refine SnapsO.cons (Snap.d _) rfl ?_ | refine SnapsO.cons (snap_full rfl rfl) rfl ?_))) ?_)) (sameInts_n _ (goals bs ms) (by simp; omega) (arrives hgood k))) ?_
            refine s_eq 77 (.d (.bool true)) rfl rfl ?_
            refine s_rd _ rfl (by first | exact mv_d (.inl rfl) rfl | exact mv_msl (.inl rfl) rfl | exact mv_mptr (.inl rfl) rfl | exact mv_agg (.inl rfl) rfl | exact mv_tup (.inl rfl) rfl | exact mv_ifc (.inl rfl) rfl | exact mv_fnc (.inl rfl) rfl | exact mv_mmap (.inl rfl) rfl | exact rd_move (.inl rfl)) ?_
            refine s_yes rfl rfl rfl ?_
            refine s_rd _ rfl (rd_callRN rfl rfl (by repeat (first | exact snaps_nil | refine snaps_cons (.d _) ?_ | refine snaps_cons (snap_full rfl (by simp)) ?_ | refine snaps_cons (snap_full rfl rfl) ?_ | refine snaps_cons (snap_agg (by repeat (first | exact SnapsO.nil | refine SnapsO.cons (Snap.d _) rfl ?_ | refine SnapsO.cons (snap_full rfl rfl) rfl ?_))) ?_)) (alive_n)) ?_
            refine s_eq 79 (.d (.bool true)) rfl rfl ?_
            refine s_rd _ rfl (by first | exact pick_Td rfl rfl rfl | exact pick_Fd rfl rfl rfl | exact rd_pickBool _ _ _ rfl rfl rfl rfl | exact pick_T rfl rfl rfl | exact pick_F rfl rfl rfl) ?_
            refine s_rd _ rfl (by first | exact mv_d (.inr rfl) rfl | exact mv_msl (.inr rfl) rfl | exact mv_mptr (.inr rfl) rfl | exact mv_agg (.inr rfl) rfl | exact mv_tup (.inr rfl) rfl | exact mv_ifc (.inr rfl) rfl | exact mv_fnc (.inr rfl) rfl | exact mv_mmap (.inr rfl) rfl | exact rd_move (.inr rfl)) ?_
            refine tops_nil ?_
            refine twp_norm [6] (by repeat (first | exact SubK.nil | apply sub_d rfl | apply sub_msl rfl | apply sub_mptr rfl | apply sub_agg rfl | apply sub_tup rfl | apply sub_ifc rfl | apply sub_fnc rfl | apply sub_mmap rfl | apply SubK.cons _ _ _ _ rfl)) (by repeat (first | exact blk_nil rfl | apply blk_flat rfl | apply blk_box rfl | apply blk_map rfl | apply blk_dead rfl | rfl)) ?_
            refine twp_ret ?_
            exact Ends.plain _ rfl

theorem ty4 (cs : List D) (_ : cs.length = Try.prog.cellsOf 4) (h : HasTy Try.prog 4 cs) : ∃ b : Bool, True ∧ ofCellsD Try.prog 4 cs = .bool b := by
  obtain ⟨x, rfl⟩ := h.bool_inv Try.underlying4
  exact ⟨x, trivial, by simp [ofCellsD, Try.underlying4]⟩
theorem ty37 (cs : List D) (h : HasTy Try.prog 37 cs) : ∃ bs : List Bool, ofCellsD Try.prog 37 cs = .sl 1 (bs.map D.bool) := by
  obtain ⟨bs, rfl, h1, h2⟩ := h.list Try.underlying37 D.bool (fun _ => True) ty4
  exact ⟨bs, by simp [ofCellsD, Try.underlying37]; kernel_rfl⟩
theorem ty3n' (cs : List D) (h : HasTy Try.prog 3 cs) : ∃ n : Int, I64 n ∧ ofCellsD Try.prog 3 cs = .int .i64 n := by
  obtain ⟨x, rfl, wx⟩ := h.int_inv Try.underlying3
  exact ⟨x, wx, by simp [ofCellsD, Try.underlying3]⟩

end Go.Proofs.Ytmjgelbhflmchaa
