/- The field: positions of the reference, many steps, walked. No condition. -/
import Derived.Test.YtmjgelbhflmchaaFieldD
namespace Go.Proofs.Ytmjgelbhflmchaa
open Go Go.TL

theorem positions_n (ps : List Int) (ms : List Mach) (n : Int) (hn : ps.length ≤ 100000) (hm : ms.length ≤ 100000) : RetN Try.prog 19 [tabD ps, .sl 3 (ms.map Mach.enc), .int .i64 n] (.sl 1 ((positions ps ms n).map (D.int .i64))) := .flat (positions_ret ps ms n hn hm _) (by simp) (mem0_ints _)

/-- What the points from place q on show. -/
def posFrom (ps : List Int) (ms : List Mach) (k q : Nat) : List Int := (List.range k).map fun (s : Nat) => posAt (ps.drop q) (ms.drop q) (s : Int)
theorem posFrom_step {ps : List Int} {ms : List Mach} {k q : Nat} {p : Int} (hp : ps[q]? = some p) (s : Int) : posAt (ps.drop q) (ms.drop q) s = if p = s then (match ms[q]? with | none => 0 | some m => m.pos) else posAt (ps.drop (q + 1)) (ms.drop (q + 1)) s := by
  have hq : q < ps.length := (List.getElem?_eq_some_iff.1 hp).1
  have hx : ps[q] = p := (List.getElem?_eq_some_iff.1 hp).2
  rw [List.drop_eq_getElem_cons hq, hx]
  simp only [posAt]
  split
  · have : (ms.drop q)[0]? = ms[q]? := by simp
    rw [← this]
    cases ms.drop q <;> rfl
  · simp
theorem posFrom_keep {ps : List Int} {ms : List Mach} {k q : Nat} {p : Int} (hp : ps[q]? = some p) (h : p < 0 ∨ (k : Int) ≤ p) : posFrom ps ms k (q + 1) = posFrom ps ms k q := by
  apply List.map_congr_left
  intro s hs
  rw [posFrom_step (k := k) hp, if_neg]
  have := List.mem_range.1 hs
  omega
theorem posFrom_set {ps : List Int} {ms : List Mach} {k q pn : Nat} (hp : ps[q]? = some (pn : Int)) (v : Int) (hv : (match ms[q]? with | none => 0 | some m => m.pos) = v) : (posFrom ps ms k (q + 1)).set pn v = posFrom ps ms k q := by
  unfold posFrom
  rw [range_set]
  apply List.map_congr_left
  intro s hs
  rw [posFrom_step (k := k) hp, hv]
  by_cases e : s = pn
  · subst e; simp
  · rw [if_neg e, if_neg (by omega)]
theorem posFrom_length (ps : List Int) (ms : List Mach) (k q : Nat) : (posFrom ps ms k q).length = k := by simp [posFrom]
theorem posFrom_end (ps : List Int) (ms : List Mach) (k : Nat) : posFrom ps ms k ps.length = List.replicate k 0 := by
  unfold posFrom
  rw [List.drop_length]
  simp [posAt, List.map_const']

theorem callB20 : callB Try.prog 20 = true := by kernel_rfl

theorem positionsR_ret (ps : List Int) (ms : List Mach) (n : Int) (hn : ps.length ≤ 100000) (hm : ms.length ≤ 100000) (mv : Nat → Bool) : Ret Try.prog 20 [] mv ([tabD ps, D.sl 3 (ms.map Mach.enc), D.int .i64 n].map .d) (.msl 0 1 0 (positions ps ms n).length) [.flat 3 1 ((positions ps ms n).map (D.int .i64))] := by
  refine ret_body callB20 Try.func20 rfl Try.ntmps20 rfl rfl (fun wX gX => ?_)
  refine twp_norm [0, 1, 2] (by repeat (first | exact SubK.nil | apply sub_d rfl | apply sub_msl rfl | apply sub_mptr rfl | apply sub_agg rfl | apply sub_tup rfl | apply sub_ifc rfl | apply sub_fnc rfl | apply sub_mmap rfl | apply SubK.cons _ _ _ _ rfl)) (by repeat (first | exact blk_nil rfl | apply blk_flat rfl | apply blk_box rfl | apply blk_map rfl | apply blk_dead rfl | rfl)) ?_
  refine twp_rseq ?_
  refine s_boxA rfl rfl rfl ?_
  refine s_rd _ rfl (by first | exact mv_d (.inr rfl) rfl | exact mv_msl (.inr rfl) rfl | exact mv_mptr (.inr rfl) rfl | exact mv_agg (.inr rfl) rfl | exact mv_tup (.inr rfl) rfl | exact mv_ifc (.inr rfl) rfl | exact mv_fnc (.inr rfl) rfl | exact mv_mmap (.inr rfl) rfl | exact rd_move (.inr rfl)) ?_
  refine tops_nil ?_
  refine twp_norm [1, 2, 3] (by repeat (first | exact SubK.nil | apply sub_d rfl | apply sub_msl rfl | apply sub_mptr rfl | apply sub_agg rfl | apply sub_tup rfl | apply sub_ifc rfl | apply sub_fnc rfl | apply sub_mmap rfl | apply SubK.cons _ _ _ _ rfl)) (by repeat (first | exact blk_nil rfl | apply blk_flat rfl | apply blk_box rfl | apply blk_map rfl | apply blk_dead rfl | rfl)) ?_
  refine twp_seq ?_
  refine twp_rseq ?_
  refine s_rd _ rfl (by first | exact mv_d (.inl rfl) rfl | exact mv_msl (.inl rfl) rfl | exact mv_mptr (.inl rfl) rfl | exact mv_agg (.inl rfl) rfl | exact mv_tup (.inl rfl) rfl | exact mv_ifc (.inl rfl) rfl | exact mv_fnc (.inl rfl) rfl | exact mv_mmap (.inl rfl) rfl | exact rd_move (.inl rfl)) ?_
  refine s_rd _ rfl (by first | exact cmp_int rfl rfl rfl rfl | exact cmp_bool rfl rfl rfl rfl) ?_
  refine s_rd _ rfl (by first | exact mv_d (.inl rfl) rfl | exact mv_msl (.inl rfl) rfl | exact mv_mptr (.inl rfl) rfl | exact mv_agg (.inl rfl) rfl | exact mv_tup (.inl rfl) rfl | exact mv_ifc (.inl rfl) rfl | exact mv_fnc (.inl rfl) rfl | exact mv_mmap (.inl rfl) rfl | exact rd_move (.inl rfl)) ?_
  refine s_split 12 rfl (fun h1 => ?_) (fun h1 => ?_)
  · have h1 : n < 0 := of_decide_eq_true h1
    have hpos : positions ps ms n = [] := by simp [positions, h1]
    refine s_no rfl rfl rfl rfl ?_
    refine s_no rfl rfl rfl rfl ?_
    refine s_rd _ rfl (by first | exact pick_Td rfl rfl rfl | exact pick_Fd rfl rfl rfl | exact rd_pickBool _ _ _ rfl rfl rfl rfl | exact pick_T rfl rfl rfl | exact pick_F rfl rfl rfl) ?_
    refine tops_nil ?_
    refine twp_norm [1, 2, 3, 15] (by repeat (first | exact SubK.nil | apply sub_d rfl | apply sub_msl rfl | apply sub_mptr rfl | apply sub_agg rfl | apply sub_tup rfl | apply sub_ifc rfl | apply sub_fnc rfl | apply sub_mmap rfl | apply SubK.cons _ _ _ _ rfl)) (by repeat (first | exact blk_nil rfl | apply blk_flat rfl | apply blk_box rfl | apply blk_map rfl | apply blk_dead rfl | rfl)) ?_
    refine twp_cond true rfl (fun _ => ?_) (fun h => by cases h)
    refine twp_rseq ?_
    refine s_assignNil 3 1 rfl rfl ?_
    refine tops_nil ?_
    refine twp_norm [6] (by repeat (first | exact SubK.nil | apply sub_d rfl | apply sub_msl rfl | apply sub_mptr rfl | apply sub_agg rfl | apply sub_tup rfl | apply sub_ifc rfl | apply sub_fnc rfl | apply sub_mmap rfl | apply SubK.cons _ _ _ _ rfl)) (by repeat (first | exact blk_nil rfl | apply blk_flat rfl | apply blk_box rfl | apply blk_map rfl | apply blk_dead rfl | rfl)) ?_
    refine twp_ret ?_
    refine way_thenRet ?_
    exact ⟨_, [1], rfl, by decide, fun i hi => absurd hi (Nat.not_lt_zero i), by rw [hpos]; first | (rw [posFrom_length]; rfl) | rfl, by rw [hpos]; rfl⟩
  · have h1 : ¬ n < 0 := of_decide_eq_false h1
    refine s_yes rfl rfl rfl ?_
    refine s_rd _ rfl (by first | exact mv_d (.inl rfl) rfl | exact mv_msl (.inl rfl) rfl | exact mv_mptr (.inl rfl) rfl | exact mv_agg (.inl rfl) rfl | exact mv_tup (.inl rfl) rfl | exact mv_ifc (.inl rfl) rfl | exact mv_fnc (.inl rfl) rfl | exact mv_mmap (.inl rfl) rfl | exact rd_move (.inl rfl)) ?_
    refine s_yes rfl rfl rfl ?_
    refine s_rd _ rfl (by first | exact cmp_int rfl rfl rfl rfl | exact cmp_bool rfl rfl rfl rfl) ?_
    refine s_rd _ rfl (by first | exact pick_Td rfl rfl rfl | exact pick_Fd rfl rfl rfl | exact rd_pickBool _ _ _ rfl rfl rfl rfl | exact pick_T rfl rfl rfl | exact pick_F rfl rfl rfl) ?_
    refine tops_nil ?_
    refine twp_norm [1, 2, 3, 15] (by repeat (first | exact SubK.nil | apply sub_d rfl | apply sub_msl rfl | apply sub_mptr rfl | apply sub_agg rfl | apply sub_tup rfl | apply sub_ifc rfl | apply sub_fnc rfl | apply sub_mmap rfl | apply SubK.cons _ _ _ _ rfl)) (by repeat (first | exact blk_nil rfl | apply blk_flat rfl | apply blk_box rfl | apply blk_map rfl | apply blk_dead rfl | rfl)) ?_
    refine twp_cond _ rfl (fun h2 => ?_) (fun h2 => ?_)
    · have h2 : 32 < n := of_decide_eq_true h2
      have hpos : positions ps ms n = [] := by simp [positions, h2]
      refine twp_rseq ?_
      refine s_assignNil 3 1 rfl rfl ?_
      refine tops_nil ?_
      refine twp_norm [6] (by repeat (first | exact SubK.nil | apply sub_d rfl | apply sub_msl rfl | apply sub_mptr rfl | apply sub_agg rfl | apply sub_tup rfl | apply sub_ifc rfl | apply sub_fnc rfl | apply sub_mmap rfl | apply SubK.cons _ _ _ _ rfl)) (by repeat (first | exact blk_nil rfl | apply blk_flat rfl | apply blk_box rfl | apply blk_map rfl | apply blk_dead rfl | rfl)) ?_
      refine twp_ret ?_
      refine way_thenRet ?_
      exact ⟨_, [1], rfl, by decide, fun i hi => absurd hi (Nat.not_lt_zero i), by rw [hpos]; first | (rw [posFrom_length]; rfl) | rfl, by rw [hpos]; rfl⟩
    · have h2 : ¬ 32 < n := of_decide_eq_false h2
      obtain ⟨k, rfl⟩ : ∃ k : Nat, n = (k : Int) := Int.eq_ofNat_of_zero_le (by omega)
      have hk : k ≤ 32 := by omega
      have hpos0 : positions ps ms (k : Int) = (List.range k).map fun (s : Nat) => posAt ps ms (s : Int) := by simp [positions, h1, h2]
      refine twp_skip ?_
      refine way_then ?_
      refine twp_norm [1, 2, 3] (by repeat (first | exact SubK.nil | apply sub_d rfl | apply sub_msl rfl | apply sub_mptr rfl | apply sub_agg rfl | apply sub_tup rfl | apply sub_ifc rfl | apply sub_fnc rfl | apply sub_mmap rfl | apply SubK.cons _ _ _ _ rfl)) (by repeat (first | exact blk_nil rfl | apply blk_flat rfl | apply blk_box rfl | apply blk_map rfl | apply blk_dead rfl | rfl)) ?_
      refine twp_rseq ?_
      refine s_rd _ rfl (by first | exact mv_d (.inl rfl) rfl | exact mv_msl (.inl rfl) rfl | exact mv_mptr (.inl rfl) rfl | exact mv_agg (.inl rfl) rfl | exact mv_tup (.inl rfl) rfl | exact mv_ifc (.inl rfl) rfl | exact mv_fnc (.inl rfl) rfl | exact mv_mmap (.inl rfl) rfl | exact rd_move (.inl rfl)) ?_
      refine s_makeSlice (n := k) rfl sel23 zero3 rfl rfl rfl rfl (by omega) (by omega) ?_
      refine s_rd _ rfl (by first | exact mv_d (.inr rfl) rfl | exact mv_msl (.inr rfl) rfl | exact mv_mptr (.inr rfl) rfl | exact mv_agg (.inr rfl) rfl | exact mv_tup (.inr rfl) rfl | exact mv_ifc (.inr rfl) rfl | exact mv_fnc (.inr rfl) rfl | exact mv_mmap (.inr rfl) rfl | exact rd_move (.inr rfl)) ?_
      refine tops_nil ?_
      refine twp_norm [1, 2, 3, 7] (by repeat (first | exact SubK.nil | apply sub_d rfl | apply sub_msl rfl | apply sub_mptr rfl | apply sub_agg rfl | apply sub_tup rfl | apply sub_ifc rfl | apply sub_fnc rfl | apply sub_mmap rfl | apply SubK.cons _ _ _ _ rfl)) (by repeat (first | exact blk_nil rfl | apply blk_flat rfl | apply blk_box rfl | apply blk_map rfl | apply blk_dead rfl | rfl)) ?_
      refine twp_seq ?_
      refine twp_rseq ?_
      refine s_rd _ rfl (by first | exact fieldAddr_ptr rfl fld33_1 rfl rfl | exact fieldAddr_mptr rfl fld33_1 rfl rfl) ?_
      refine s_rd _ rfl (by first | exact load_ptr rfl lay23 rfl rfl | exact load_flat rfl lay23 rfl rfl (by first | rfl | assumption | (simp only [List.getElem?_map, Option.map_some, *]; done)) rfl | exact load_box_d rfl lay23 rfl rfl rfl | exact load_box rfl lay23 rfl rfl rfl) ?_
      refine s_rd _ rfl (by first | exact len_d rfl sel23 rfl (by first | exact List.length_map _ | rfl) | exact len_msl rfl sel23 rfl | exact len_nil rfl sel23 rfl) ?_
      refine s_rd _ rfl (arith_ok rfl rfl rfl rfl (by first | omega | (constructor <;> omega))) ?_
      refine s_rd _ rfl (by first | exact mv_d (.inr rfl) rfl | exact mv_msl (.inr rfl) rfl | exact mv_mptr (.inr rfl) rfl | exact mv_agg (.inr rfl) rfl | exact mv_tup (.inr rfl) rfl | exact mv_ifc (.inr rfl) rfl | exact mv_fnc (.inr rfl) rfl | exact mv_mmap (.inr rfl) rfl | exact rd_move (.inr rfl)) ?_
      refine tops_nil ?_
      refine twp_norm [1, 2, 3, 7, 8] (by repeat (first | exact SubK.nil | apply sub_d rfl | apply sub_msl rfl | apply sub_mptr rfl | apply sub_agg rfl | apply sub_tup rfl | apply sub_ifc rfl | apply sub_fnc rfl | apply sub_mmap rfl | apply SubK.cons _ _ _ _ rfl)) (by repeat (first | exact blk_nil rfl | apply blk_flat rfl | apply blk_box rfl | apply blk_map rfl | apply blk_dead rfl | rfl)) ?_
      refine twp_block ?_
      refine twp_while (fun q => (⟨[(1, .d (.sl 3 (ms.map Mach.enc))), (2, .d (.int .i64 ((k : Nat) : Int))), (3, .mptr 0 0 0 0), (7, .msl 1 1 0 k), (8, .d (.int .i64 (((q : Nat) : Int) - 1)))], [.box 33 [.d .nilsl, .d (.sl 1 (ps.map (D.int .i64))), .d .nilsl, .d (.int .i64 0), .d (.int .i64 0)], .flat 3 1 ((posFrom ps ms k q).map (D.int .i64))]⟩ : St)) (fun q => q ≤ ps.length) (fun q => q) [1, 2, 3, 7, 8] [0, 1] ps.length (by decide) (fun i hi => absurd hi (Nat.not_lt_zero i)) (Nat.le_refl _) (by rw [posFrom_end, List.map_replicate]; rfl) ?_
      rintro q hok
      refine twp_norm [1, 2, 3, 7, 8] (by repeat (first | exact SubK.nil | apply sub_d rfl | apply sub_msl rfl | apply sub_mptr rfl | apply sub_agg rfl | apply sub_tup rfl | apply sub_ifc rfl | apply sub_fnc rfl | apply sub_mmap rfl | apply SubK.cons _ _ _ _ rfl)) (by repeat (first | exact blk_nil rfl | apply blk_flat rfl | apply blk_box rfl | apply blk_map rfl | apply blk_dead rfl | rfl)) ?_
      refine twp_seq ?_
      refine twp_rseq ?_
      refine s_rd _ rfl (by first | exact mv_d (.inl rfl) rfl | exact mv_msl (.inl rfl) rfl | exact mv_mptr (.inl rfl) rfl | exact mv_agg (.inl rfl) rfl | exact mv_tup (.inl rfl) rfl | exact mv_ifc (.inl rfl) rfl | exact mv_fnc (.inl rfl) rfl | exact mv_mmap (.inl rfl) rfl | exact rd_move (.inl rfl)) ?_
      refine s_rd _ rfl (by first | exact cmp_int rfl rfl rfl rfl | exact cmp_bool rfl rfl rfl rfl) ?_
      refine tops_nil ?_
      refine twp_norm [1, 2, 3, 7, 8, 23] (by repeat (first | exact SubK.nil | apply sub_d rfl | apply sub_msl rfl | apply sub_mptr rfl | apply sub_agg rfl | apply sub_tup rfl | apply sub_ifc rfl | apply sub_fnc rfl | apply sub_mmap rfl | apply SubK.cons _ _ _ _ rfl)) (by repeat (first | exact blk_nil rfl | apply blk_flat rfl | apply blk_box rfl | apply blk_map rfl | apply blk_dead rfl | rfl)) ?_
      refine twp_cond _ rfl (fun hlt => ?_) (fun hlt => ?_)
      · have hlt : 0 ≤ (q : Int) - 1 := of_decide_eq_true hlt
        obtain ⟨q, rfl⟩ : ∃ q', q = q' + 1 := ⟨q - 1, by omega⟩
        obtain ⟨p, hp⟩ : ∃ p, ps[q]? = some p := ⟨_, List.getElem?_eq_getElem (by omega)⟩
        refine twp_skip ?_
        refine way_then ?_
        refine twp_norm [1, 2, 3, 7, 8] (by repeat (first | exact SubK.nil | apply sub_d rfl | apply sub_msl rfl | apply sub_mptr rfl | apply sub_agg rfl | apply sub_tup rfl | apply sub_ifc rfl | apply sub_fnc rfl | apply sub_mmap rfl | apply SubK.cons _ _ _ _ rfl)) (by repeat (first | exact blk_nil rfl | apply blk_flat rfl | apply blk_box rfl | apply blk_map rfl | apply blk_dead rfl | rfl)) ?_
        refine twp_seq ?_
        refine twp_block ?_
        refine twp_rseq ?_
        refine s_eq 8 (.d (.int .i64 ((q : Nat) : Int))) rfl (congrArg (fun z => AV.d (D.int .i64 z)) (by omega)) ?_
        refine s_rd _ rfl (by first | exact fieldAddr_ptr rfl fld33_1 rfl rfl | exact fieldAddr_mptr rfl fld33_1 rfl rfl) ?_
        refine s_rd _ rfl (by first | exact load_ptr rfl lay23 rfl rfl | exact load_flat rfl lay23 rfl rfl (by first | rfl | assumption | (simp only [List.getElem?_map, Option.map_some, *]; done)) rfl | exact load_box_d rfl lay23 rfl rfl rfl | exact load_box rfl lay23 rfl rfl rfl) ?_
        refine s_rd _ rfl (by first | exact mv_d (.inl rfl) rfl | exact mv_msl (.inl rfl) rfl | exact mv_mptr (.inl rfl) rfl | exact mv_agg (.inl rfl) rfl | exact mv_tup (.inl rfl) rfl | exact mv_ifc (.inl rfl) rfl | exact mv_fnc (.inl rfl) rfl | exact mv_mmap (.inl rfl) rfl | exact rd_move (.inl rfl)) ?_
        refine s_rd _ rfl (by first | exact index_msl0 rfl sel23 rfl rfl (by first | assumption | omega | (simp; omega)) | exact index_sl rfl sel23 rfl rfl (idx_map hp)) ?_
        refine s_rd _ rfl (by first | exact load_ptr rfl lay3 rfl rfl | exact load_flat rfl lay3 rfl rfl (by first | rfl | assumption | (simp only [List.getElem?_map, Option.map_some, *]; done)) rfl | exact load_box_d rfl lay3 rfl rfl rfl | exact load_box rfl lay3 rfl rfl rfl) ?_
        refine s_rd _ rfl (by first | exact mv_d (.inr rfl) rfl | exact mv_msl (.inr rfl) rfl | exact mv_mptr (.inr rfl) rfl | exact mv_agg (.inr rfl) rfl | exact mv_tup (.inr rfl) rfl | exact mv_ifc (.inr rfl) rfl | exact mv_fnc (.inr rfl) rfl | exact mv_mmap (.inr rfl) rfl | exact rd_move (.inr rfl)) ?_
        refine tops_nil ?_
        refine twp_norm [1, 2, 3, 7, 8, 9] (by repeat (first | exact SubK.nil | apply sub_d rfl | apply sub_msl rfl | apply sub_mptr rfl | apply sub_agg rfl | apply sub_tup rfl | apply sub_ifc rfl | apply sub_fnc rfl | apply sub_mmap rfl | apply SubK.cons _ _ _ _ rfl)) (by repeat (first | exact blk_nil rfl | apply blk_flat rfl | apply blk_box rfl | apply blk_map rfl | apply blk_dead rfl | rfl)) ?_
        refine twp_seq ?_
        refine twp_rseq ?_
        refine s_rd _ rfl (by first | exact mv_d (.inl rfl) rfl | exact mv_msl (.inl rfl) rfl | exact mv_mptr (.inl rfl) rfl | exact mv_agg (.inl rfl) rfl | exact mv_tup (.inl rfl) rfl | exact mv_ifc (.inl rfl) rfl | exact mv_fnc (.inl rfl) rfl | exact mv_mmap (.inl rfl) rfl | exact rd_move (.inl rfl)) ?_
        refine s_rd _ rfl (by first | exact cmp_int rfl rfl rfl rfl | exact cmp_bool rfl rfl rfl rfl) ?_
        refine s_rd _ rfl (by first | exact mv_d (.inl rfl) rfl | exact mv_msl (.inl rfl) rfl | exact mv_mptr (.inl rfl) rfl | exact mv_agg (.inl rfl) rfl | exact mv_tup (.inl rfl) rfl | exact mv_ifc (.inl rfl) rfl | exact mv_fnc (.inl rfl) rfl | exact mv_mmap (.inl rfl) rfl | exact rd_move (.inl rfl)) ?_
        refine s_split 33 rfl (fun h3 => ?_) (fun h3 => ?_)
        · have h3 : p < 0 := of_decide_eq_true h3
          have hE := congrArg (List.map (D.int .i64)) (posFrom_keep (ms := ms) (k := k) hp (.inl h3))
          refine s_no rfl rfl rfl rfl ?_
          refine s_no rfl rfl rfl rfl ?_
          refine s_no rfl rfl rfl rfl ?_
          refine s_rd _ rfl (by first | exact pick_Td rfl rfl rfl | exact pick_Fd rfl rfl rfl | exact rd_pickBool _ _ _ rfl rfl rfl rfl | exact pick_T rfl rfl rfl | exact pick_F rfl rfl rfl) ?_
          refine tops_nil ?_
          refine twp_norm [1, 2, 3, 7, 8, 9, 37] (by repeat (first | exact SubK.nil | apply sub_d rfl | apply sub_msl rfl | apply sub_mptr rfl | apply sub_agg rfl | apply sub_tup rfl | apply sub_ifc rfl | apply sub_fnc rfl | apply sub_mmap rfl | apply SubK.cons _ _ _ _ rfl)) (by repeat (first | exact blk_nil rfl | apply blk_flat rfl | apply blk_box rfl | apply blk_map rfl | apply blk_dead rfl | rfl)) ?_
          refine twp_cond true rfl (fun _ => ?_) (fun h => by cases h)
          refine twp_exit ?_
          refine way_thenExit ?_
          refine way_here ?_
          refine way_then ?_
          refine twp_norm [1, 2, 3, 7, 8] (by repeat (first | exact SubK.nil | apply sub_d rfl | apply sub_msl rfl | apply sub_mptr rfl | apply sub_agg rfl | apply sub_tup rfl | apply sub_ifc rfl | apply sub_fnc rfl | apply sub_mmap rfl | apply SubK.cons _ _ _ _ rfl)) (by repeat (first | exact blk_nil rfl | apply blk_flat rfl | apply blk_box rfl | apply blk_map rfl | apply blk_dead rfl | rfl)) ?_
          refine twp_region ?_
          refine s_rd _ rfl (by first | exact mv_d (.inl rfl) rfl | exact mv_msl (.inl rfl) rfl | exact mv_mptr (.inl rfl) rfl | exact mv_agg (.inl rfl) rfl | exact mv_tup (.inl rfl) rfl | exact mv_ifc (.inl rfl) rfl | exact mv_fnc (.inl rfl) rfl | exact mv_mmap (.inl rfl) rfl | exact rd_move (.inl rfl)) ?_
          refine s_rd _ rfl (arith_ok rfl rfl rfl rfl (by first | omega | (constructor <;> omega))) ?_
          refine s_rd _ rfl (by first | exact mv_d (.inr rfl) rfl | exact mv_msl (.inr rfl) rfl | exact mv_mptr (.inr rfl) rfl | exact mv_agg (.inr rfl) rfl | exact mv_tup (.inr rfl) rfl | exact mv_ifc (.inr rfl) rfl | exact mv_fnc (.inr rfl) rfl | exact mv_mmap (.inr rfl) rfl | exact rd_move (.inr rfl)) ?_
          refine tops_nil ?_
          refine way_then ?_
          exact ⟨q, [0, 1], by decide, fun i hi => absurd hi (Nat.not_lt_zero i), (by omega), (by omega), (congrArg (fun es => (⟨(fun q => ([(1, .d (.sl 3 (ms.map Mach.enc))), (2, .d (.int .i64 ((k : Nat) : Int))), (3, .mptr 0 0 0 0), (7, .msl 1 1 0 k), (8, .d (.int .i64 (((q : Nat) : Int) - 1)))] : Fr)) q, [.box 33 [.d .nilsl, .d (.sl 1 (ps.map (D.int .i64))), .d .nilsl, .d (.int .i64 0), .d (.int .i64 0)], .flat 3 1 es]⟩ : St)) hE)⟩
        · have h3 : ¬ p < 0 := of_decide_eq_false h3
          refine s_yes rfl rfl rfl ?_
          refine s_rd _ rfl (by first | exact mv_d (.inl rfl) rfl | exact mv_msl (.inl rfl) rfl | exact mv_mptr (.inl rfl) rfl | exact mv_agg (.inl rfl) rfl | exact mv_tup (.inl rfl) rfl | exact mv_ifc (.inl rfl) rfl | exact mv_fnc (.inl rfl) rfl | exact mv_mmap (.inl rfl) rfl | exact rd_move (.inl rfl)) ?_
          refine s_yes rfl rfl rfl ?_
          refine s_rd _ rfl (by first | exact mv_d (.inl rfl) rfl | exact mv_msl (.inl rfl) rfl | exact mv_mptr (.inl rfl) rfl | exact mv_agg (.inl rfl) rfl | exact mv_tup (.inl rfl) rfl | exact mv_ifc (.inl rfl) rfl | exact mv_fnc (.inl rfl) rfl | exact mv_mmap (.inl rfl) rfl | exact rd_move (.inl rfl)) ?_
          refine s_yes rfl rfl rfl ?_
          refine s_rd _ rfl (by first | exact cmp_int rfl rfl rfl rfl | exact cmp_bool rfl rfl rfl rfl) ?_
          refine s_rd _ rfl (by first | exact pick_Td rfl rfl rfl | exact pick_Fd rfl rfl rfl | exact rd_pickBool _ _ _ rfl rfl rfl rfl | exact pick_T rfl rfl rfl | exact pick_F rfl rfl rfl) ?_
          refine tops_nil ?_
          refine twp_norm [1, 2, 3, 7, 8, 9, 37] (by repeat (first | exact SubK.nil | apply sub_d rfl | apply sub_msl rfl | apply sub_mptr rfl | apply sub_agg rfl | apply sub_tup rfl | apply sub_ifc rfl | apply sub_fnc rfl | apply sub_mmap rfl | apply SubK.cons _ _ _ _ rfl)) (by repeat (first | exact blk_nil rfl | apply blk_flat rfl | apply blk_box rfl | apply blk_map rfl | apply blk_dead rfl | rfl)) ?_
          refine twp_cond _ rfl (fun h4 => ?_) (fun h4 => ?_)
          · have h4 : (k : Int) ≤ p := of_decide_eq_true h4
            have hE := congrArg (List.map (D.int .i64)) (posFrom_keep (ms := ms) (k := k) hp (.inr h4))
            refine twp_exit ?_
            refine way_thenExit ?_
            refine way_here ?_
            refine way_then ?_
            refine twp_norm [1, 2, 3, 7, 8] (by repeat (first | exact SubK.nil | apply sub_d rfl | apply sub_msl rfl | apply sub_mptr rfl | apply sub_agg rfl | apply sub_tup rfl | apply sub_ifc rfl | apply sub_fnc rfl | apply sub_mmap rfl | apply SubK.cons _ _ _ _ rfl)) (by repeat (first | exact blk_nil rfl | apply blk_flat rfl | apply blk_box rfl | apply blk_map rfl | apply blk_dead rfl | rfl)) ?_
            refine twp_region ?_
            refine s_rd _ rfl (by first | exact mv_d (.inl rfl) rfl | exact mv_msl (.inl rfl) rfl | exact mv_mptr (.inl rfl) rfl | exact mv_agg (.inl rfl) rfl | exact mv_tup (.inl rfl) rfl | exact mv_ifc (.inl rfl) rfl | exact mv_fnc (.inl rfl) rfl | exact mv_mmap (.inl rfl) rfl | exact rd_move (.inl rfl)) ?_
            refine s_rd _ rfl (arith_ok rfl rfl rfl rfl (by first | omega | (constructor <;> omega))) ?_
            refine s_rd _ rfl (by first | exact mv_d (.inr rfl) rfl | exact mv_msl (.inr rfl) rfl | exact mv_mptr (.inr rfl) rfl | exact mv_agg (.inr rfl) rfl | exact mv_tup (.inr rfl) rfl | exact mv_ifc (.inr rfl) rfl | exact mv_fnc (.inr rfl) rfl | exact mv_mmap (.inr rfl) rfl | exact rd_move (.inr rfl)) ?_
            refine tops_nil ?_
            refine way_then ?_
            exact ⟨q, [0, 1], by decide, fun i hi => absurd hi (Nat.not_lt_zero i), (by omega), (by omega), (congrArg (fun es => (⟨(fun q => ([(1, .d (.sl 3 (ms.map Mach.enc))), (2, .d (.int .i64 ((k : Nat) : Int))), (3, .mptr 0 0 0 0), (7, .msl 1 1 0 k), (8, .d (.int .i64 (((q : Nat) : Int) - 1)))] : Fr)) q, [.box 33 [.d .nilsl, .d (.sl 1 (ps.map (D.int .i64))), .d .nilsl, .d (.int .i64 0), .d (.int .i64 0)], .flat 3 1 es]⟩ : St)) hE)⟩
          · have h4 : ¬ (k : Int) ≤ p := of_decide_eq_false h4
            obtain ⟨pn, rfl⟩ : ∃ pn : Nat, p = (pn : Int) := Int.eq_ofNat_of_zero_le (by omega)
            have hpk : pn < k := by omega
            obtain ⟨v0, hg⟩ : ∃ v, ((posFrom ps ms k (q + 1)).map (D.int .i64))[pn]? = some (D.int .i64 v) := ⟨_, el_map (List.getElem?_eq_getElem (by rw [posFrom_length]; exact hpk))⟩
            refine twp_skip ?_
            refine way_then ?_
            refine twp_norm [1, 2, 3, 7, 8, 9] (by repeat (first | exact SubK.nil | apply sub_d rfl | apply sub_msl rfl | apply sub_mptr rfl | apply sub_agg rfl | apply sub_tup rfl | apply sub_ifc rfl | apply sub_fnc rfl | apply sub_mmap rfl | apply SubK.cons _ _ _ _ rfl)) (by repeat (first | exact blk_nil rfl | apply blk_flat rfl | apply blk_box rfl | apply blk_map rfl | apply blk_dead rfl | rfl)) ?_
            refine twp_rseq ?_
            refine s_rd _ rfl (by first | exact mv_d (.inl rfl) rfl | exact mv_msl (.inl rfl) rfl | exact mv_mptr (.inl rfl) rfl | exact mv_agg (.inl rfl) rfl | exact mv_tup (.inl rfl) rfl | exact mv_ifc (.inl rfl) rfl | exact mv_fnc (.inl rfl) rfl | exact mv_mmap (.inl rfl) rfl | exact rd_move (.inl rfl)) ?_
            refine s_rd _ rfl (by first | exact mv_d (.inl rfl) rfl | exact mv_msl (.inl rfl) rfl | exact mv_mptr (.inl rfl) rfl | exact mv_agg (.inl rfl) rfl | exact mv_tup (.inl rfl) rfl | exact mv_ifc (.inl rfl) rfl | exact mv_fnc (.inl rfl) rfl | exact mv_mmap (.inl rfl) rfl | exact rd_move (.inl rfl)) ?_
            refine s_rd _ rfl (by first | exact index_msl0 rfl sel23 rfl rfl (by first | assumption | omega | (simp; omega)) | exact index_sl rfl sel23 rfl rfl (by first | exact ⟨by omega, by assumption⟩ | exact idx_map (by assumption) | exact idx_id (by assumption))) ?_
            first
              | refine s_store_box lay3 rfl rfl rfl rfl rfl (Nat.le_of_ble_eq_true rfl) rfl ?_
              | refine s_store_flat lay3 rfl rfl rfl rfl hg (by first | exact .inl rfl | exact .inr rfl) (Nat.le_of_ble_eq_true rfl) rfl ?_
            refine tops_nil ?_
            refine twp_norm [1, 2, 3, 7, 8, 9] (by repeat (first | exact SubK.nil | apply sub_d rfl | apply sub_msl rfl | apply sub_mptr rfl | apply sub_agg rfl | apply sub_tup rfl | apply sub_ifc rfl | apply sub_fnc rfl | apply sub_mmap rfl | apply SubK.cons _ _ _ _ rfl)) (by repeat (first | exact blk_nil rfl | apply blk_flat rfl | apply blk_box rfl | apply blk_map rfl | apply blk_dead rfl | rfl)) ?_
            refine twp_rseq ?_
            refine s_rd _ rfl (by first | exact mv_d (.inl rfl) rfl | exact mv_msl (.inl rfl) rfl | exact mv_mptr (.inl rfl) rfl | exact mv_agg (.inl rfl) rfl | exact mv_tup (.inl rfl) rfl | exact mv_ifc (.inl rfl) rfl | exact mv_fnc (.inl rfl) rfl | exact mv_mmap (.inl rfl) rfl | exact rd_move (.inl rfl)) ?_
            refine s_rd _ rfl (by first | exact mv_d (.inl rfl) rfl | exact mv_msl (.inl rfl) rfl | exact mv_mptr (.inl rfl) rfl | exact mv_agg (.inl rfl) rfl | exact mv_tup (.inl rfl) rfl | exact mv_ifc (.inl rfl) rfl | exact mv_fnc (.inl rfl) rfl | exact mv_mmap (.inl rfl) rfl | exact rd_move (.inl rfl)) ?_
            refine s_rd _ rfl (by first | exact len_d rfl sel22 rfl (by first | exact List.length_map _ | rfl) | exact len_msl rfl sel22 rfl | exact len_nil rfl sel22 rfl) ?_
            refine s_rd _ rfl (by first | exact cmp_int rfl rfl rfl rfl | exact cmp_bool rfl rfl rfl rfl) ?_
            refine tops_nil ?_
            refine twp_norm [1, 2, 3, 7, 8, 9, 44] (by repeat (first | exact SubK.nil | apply sub_d rfl | apply sub_msl rfl | apply sub_mptr rfl | apply sub_agg rfl | apply sub_tup rfl | apply sub_ifc rfl | apply sub_fnc rfl | apply sub_mmap rfl | apply SubK.cons _ _ _ _ rfl)) (by repeat (first | exact blk_nil rfl | apply blk_flat rfl | apply blk_box rfl | apply blk_map rfl | apply blk_dead rfl | rfl)) ?_
            refine twp_cond _ rfl (fun h5 => ?_) (fun h5 => ?_)
            · have h5 : (q : Int) < (ms.length : Int) := of_decide_eq_true h5
              obtain ⟨m, hmm⟩ : ∃ m, ms[q]? = some m := ⟨_, List.getElem?_eq_getElem (by omega)⟩
              have hl : pn < ((posFrom ps ms k (q + 1)).map (D.int .i64)).length := by simp [posFrom_length, hpk]
              have hE : (((posFrom ps ms k (q + 1)).map (D.int .i64)).set pn (D.int .i64 0)).set pn (D.int .i64 m.pos) = (posFrom ps ms k q).map (D.int .i64) := by rw [List.set_set, ← List.map_set, posFrom_set hp m.pos (by simp [hmm])]
              refine twp_region ?_
              refine s_rd _ rfl (by first | exact mv_d (.inl rfl) rfl | exact mv_msl (.inl rfl) rfl | exact mv_mptr (.inl rfl) rfl | exact mv_agg (.inl rfl) rfl | exact mv_tup (.inl rfl) rfl | exact mv_ifc (.inl rfl) rfl | exact mv_fnc (.inl rfl) rfl | exact mv_mmap (.inl rfl) rfl | exact rd_move (.inl rfl)) ?_
              refine s_rd _ rfl (by first | exact mv_d (.inl rfl) rfl | exact mv_msl (.inl rfl) rfl | exact mv_mptr (.inl rfl) rfl | exact mv_agg (.inl rfl) rfl | exact mv_tup (.inl rfl) rfl | exact mv_ifc (.inl rfl) rfl | exact mv_fnc (.inl rfl) rfl | exact mv_mmap (.inl rfl) rfl | exact rd_move (.inl rfl)) ?_
              refine s_rd _ rfl (by first | exact mv_d (.inl rfl) rfl | exact mv_msl (.inl rfl) rfl | exact mv_mptr (.inl rfl) rfl | exact mv_agg (.inl rfl) rfl | exact mv_tup (.inl rfl) rfl | exact mv_ifc (.inl rfl) rfl | exact mv_fnc (.inl rfl) rfl | exact mv_mmap (.inl rfl) rfl | exact rd_move (.inl rfl)) ?_
              refine s_rd _ rfl (by first | exact mv_d (.inl rfl) rfl | exact mv_msl (.inl rfl) rfl | exact mv_mptr (.inl rfl) rfl | exact mv_agg (.inl rfl) rfl | exact mv_tup (.inl rfl) rfl | exact mv_ifc (.inl rfl) rfl | exact mv_fnc (.inl rfl) rfl | exact mv_mmap (.inl rfl) rfl | exact rd_move (.inl rfl)) ?_
              refine s_rd _ rfl (by first | exact index_msl0 rfl sel22 rfl rfl (by first | assumption | omega | (simp; omega)) | exact index_sl rfl sel22 rfl rfl (idx_map hmm)) ?_
              refine s_rd _ rfl (by first | exact fieldAddr_ptr rfl fld39_0 rfl rfl | exact fieldAddr_mptr rfl fld39_0 rfl rfl) ?_
              refine s_rd _ rfl (by first | exact load_ptr rfl lay3 rfl rfl | exact load_flat rfl lay3 rfl rfl (by first | rfl | assumption | (simp only [List.getElem?_map, Option.map_some, *]; done)) rfl | exact load_box_d rfl lay3 rfl rfl rfl | exact load_box rfl lay3 rfl rfl rfl) ?_
              refine s_rd _ rfl (by first | exact index_msl0 rfl sel23 rfl rfl (by first | assumption | omega | (simp; omega)) | exact index_sl rfl sel23 rfl rfl (by first | exact ⟨by omega, by assumption⟩ | exact idx_map (by assumption) | exact idx_id (by assumption))) ?_
              first
                | refine s_store_box lay3 rfl rfl rfl rfl rfl (Nat.le_of_ble_eq_true rfl) rfl ?_
                | refine s_store_flat lay3 rfl rfl rfl rfl (el_set hl) (by first | exact .inl rfl | exact .inr rfl) (Nat.le_of_ble_eq_true rfl) rfl ?_
              refine tops_nil ?_
              refine way_block ?_
              refine way_then ?_
              refine twp_norm [1, 2, 3, 7, 8] (by repeat (first | exact SubK.nil | apply sub_d rfl | apply sub_msl rfl | apply sub_mptr rfl | apply sub_agg rfl | apply sub_tup rfl | apply sub_ifc rfl | apply sub_fnc rfl | apply sub_mmap rfl | apply SubK.cons _ _ _ _ rfl)) (by repeat (first | exact blk_nil rfl | apply blk_flat rfl | apply blk_box rfl | apply blk_map rfl | apply blk_dead rfl | rfl)) ?_
              refine twp_region ?_
              refine s_rd _ rfl (by first | exact mv_d (.inl rfl) rfl | exact mv_msl (.inl rfl) rfl | exact mv_mptr (.inl rfl) rfl | exact mv_agg (.inl rfl) rfl | exact mv_tup (.inl rfl) rfl | exact mv_ifc (.inl rfl) rfl | exact mv_fnc (.inl rfl) rfl | exact mv_mmap (.inl rfl) rfl | exact rd_move (.inl rfl)) ?_
              refine s_rd _ rfl (arith_ok rfl rfl rfl rfl (by first | omega | (constructor <;> omega))) ?_
              refine s_rd _ rfl (by first | exact mv_d (.inr rfl) rfl | exact mv_msl (.inr rfl) rfl | exact mv_mptr (.inr rfl) rfl | exact mv_agg (.inr rfl) rfl | exact mv_tup (.inr rfl) rfl | exact mv_ifc (.inr rfl) rfl | exact mv_fnc (.inr rfl) rfl | exact mv_mmap (.inr rfl) rfl | exact rd_move (.inr rfl)) ?_
              refine tops_nil ?_
              refine way_then ?_
              exact ⟨q, [0, 1], by decide, fun i hi => absurd hi (Nat.not_lt_zero i), (by omega), (by omega), (congrArg (fun es => (⟨(fun q => ([(1, .d (.sl 3 (ms.map Mach.enc))), (2, .d (.int .i64 ((k : Nat) : Int))), (3, .mptr 0 0 0 0), (7, .msl 1 1 0 k), (8, .d (.int .i64 (((q : Nat) : Int) - 1)))] : Fr)) q, [.box 33 [.d .nilsl, .d (.sl 1 (ps.map (D.int .i64))), .d .nilsl, .d (.int .i64 0), .d (.int .i64 0)], .flat 3 1 es]⟩ : St)) hE)⟩
            · have h5 : ¬ (q : Int) < (ms.length : Int) := of_decide_eq_false h5
              have hE : ((posFrom ps ms k (q + 1)).map (D.int .i64)).set pn (D.int .i64 0) = (posFrom ps ms k q).map (D.int .i64) := by rw [← List.map_set, posFrom_set hp 0 (by simp [List.getElem?_eq_none (show ms.length ≤ q by omega)])]
              refine twp_skip ?_
              refine way_block ?_
              refine way_then ?_
              refine twp_norm [1, 2, 3, 7, 8] (by repeat (first | exact SubK.nil | apply sub_d rfl | apply sub_msl rfl | apply sub_mptr rfl | apply sub_agg rfl | apply sub_tup rfl | apply sub_ifc rfl | apply sub_fnc rfl | apply sub_mmap rfl | apply SubK.cons _ _ _ _ rfl)) (by repeat (first | exact blk_nil rfl | apply blk_flat rfl | apply blk_box rfl | apply blk_map rfl | apply blk_dead rfl | rfl)) ?_
              refine twp_region ?_
              refine s_rd _ rfl (by first | exact mv_d (.inl rfl) rfl | exact mv_msl (.inl rfl) rfl | exact mv_mptr (.inl rfl) rfl | exact mv_agg (.inl rfl) rfl | exact mv_tup (.inl rfl) rfl | exact mv_ifc (.inl rfl) rfl | exact mv_fnc (.inl rfl) rfl | exact mv_mmap (.inl rfl) rfl | exact rd_move (.inl rfl)) ?_
              refine s_rd _ rfl (arith_ok rfl rfl rfl rfl (by first | omega | (constructor <;> omega))) ?_
              refine s_rd _ rfl (by first | exact mv_d (.inr rfl) rfl | exact mv_msl (.inr rfl) rfl | exact mv_mptr (.inr rfl) rfl | exact mv_agg (.inr rfl) rfl | exact mv_tup (.inr rfl) rfl | exact mv_ifc (.inr rfl) rfl | exact mv_fnc (.inr rfl) rfl | exact mv_mmap (.inr rfl) rfl | exact rd_move (.inr rfl)) ?_
              refine tops_nil ?_
              refine way_then ?_
              exact ⟨q, [0, 1], by decide, fun i hi => absurd hi (Nat.not_lt_zero i), (by omega), (by omega), (congrArg (fun es => (⟨(fun q => ([(1, .d (.sl 3 (ms.map Mach.enc))), (2, .d (.int .i64 ((k : Nat) : Int))), (3, .mptr 0 0 0 0), (7, .msl 1 1 0 k), (8, .d (.int .i64 (((q : Nat) : Int) - 1)))] : Fr)) q, [.box 33 [.d .nilsl, .d (.sl 1 (ps.map (D.int .i64))), .d .nilsl, .d (.int .i64 0), .d (.int .i64 0)], .flat 3 1 es]⟩ : St)) hE)⟩
      · have hlt : ¬ 0 ≤ (q : Int) - 1 := of_decide_eq_false hlt
        obtain rfl : q = 0 := by omega
        have hpos : positions ps ms (k : Int) = posFrom ps ms k 0 := by rw [hpos0]; simp [posFrom]
        refine twp_exit ?_
        refine way_thenExit ?_
        refine way_thenExit ?_
        refine way_here ?_
        refine way_then ?_
        refine twp_norm [7] (by repeat (first | exact SubK.nil | apply sub_d rfl | apply sub_msl rfl | apply sub_mptr rfl | apply sub_agg rfl | apply sub_tup rfl | apply sub_ifc rfl | apply sub_fnc rfl | apply sub_mmap rfl | apply SubK.cons _ _ _ _ rfl)) (by repeat (first | exact blk_nil rfl | apply blk_flat rfl | apply blk_box rfl | apply blk_map rfl | apply blk_dead rfl | rfl)) ?_
        refine twp_rseq ?_
        refine s_rd _ rfl (by first | exact mv_d (.inl rfl) rfl | exact mv_msl (.inl rfl) rfl | exact mv_mptr (.inl rfl) rfl | exact mv_agg (.inl rfl) rfl | exact mv_tup (.inl rfl) rfl | exact mv_ifc (.inl rfl) rfl | exact mv_fnc (.inl rfl) rfl | exact mv_mmap (.inl rfl) rfl | exact rd_move (.inl rfl)) ?_
        refine s_rd _ rfl (by first | exact mv_d (.inr rfl) rfl | exact mv_msl (.inr rfl) rfl | exact mv_mptr (.inr rfl) rfl | exact mv_agg (.inr rfl) rfl | exact mv_tup (.inr rfl) rfl | exact mv_ifc (.inr rfl) rfl | exact mv_fnc (.inr rfl) rfl | exact mv_mmap (.inr rfl) rfl | exact rd_move (.inr rfl)) ?_
        refine tops_nil ?_
        refine twp_norm [6] (by repeat (first | exact SubK.nil | apply sub_d rfl | apply sub_msl rfl | apply sub_mptr rfl | apply sub_agg rfl | apply sub_tup rfl | apply sub_ifc rfl | apply sub_fnc rfl | apply sub_mmap rfl | apply SubK.cons _ _ _ _ rfl)) (by repeat (first | exact blk_nil rfl | apply blk_flat rfl | apply blk_box rfl | apply blk_map rfl | apply blk_dead rfl | rfl)) ?_
        refine twp_ret ?_
        exact ⟨_, [1], rfl, by decide, fun i hi => absurd hi (Nat.not_lt_zero i), by rw [hpos]; first | (rw [posFrom_length]; rfl) | rfl, by rw [hpos]; rfl⟩

theorem positionsR_n (ps : List Int) (ms : List Mach) (n : Int) (hn : ps.length ≤ 100000) (hm : ms.length ≤ 100000) : RetN Try.prog 20 [tabD ps, .sl 3 (ms.map Mach.enc), .int .i64 n] (.sl 1 ((positions ps ms n).map (D.int .i64))) := .flat (positionsR_ret ps ms n hn hm _) (by simp) (mem0_ints _)

/-- Many steps of one machine. -/
def stepsM : Nat → Mach → Mach
  | 0, m => m
  | n + 1, m => stepM (stepsM n m)
theorem stepM_wf {m : Mach} (h : m.wf) : (stepM m).wf := by
  obtain ⟨h1, h2, h3⟩ := h
  unfold I64 at h1 h2 h3
  unfold stepM
  split
  · exact ⟨h1, h2, h3⟩
  · split
    · exact ⟨h2, h2, by show I64 (m.timer - 1); unfold I64; omega⟩
    · exact ⟨h1, h2, by show I64 (m.timer - 1); unfold I64; omega⟩
theorem stepsM_wf {m : Mach} (h : m.wf) : ∀ n, (stepsM n m).wf
  | 0 => h
  | n + 1 => stepM_wf (stepsM_wf h n)
theorem map_wf {f : Mach → Mach} {xs : List Mach} (hf : ∀ m, m.wf → (f m).wf) (h : ∀ m ∈ xs, m.wf) : ∀ m ∈ xs.map f, m.wf := fun m hm => by
  obtain ⟨x, hx, rfl⟩ := List.mem_map.1 hm
  exact hf x (h x hx)
theorem stepsM_map (xs : List Mach) (i : Nat) : (xs.map (stepsM i)).map stepM = xs.map (stepsM (i + 1)) := by rw [List.map_map]; rfl

theorem callB21 : callB Try.prog 21 = true := by kernel_rfl

theorem steps_ret (ms : List Mach) (n : Nat) (hn : ms.length ≤ 100000) (hk : n ≤ 1000000) (hw : ∀ m ∈ ms, m.wf) (mv : Nat → Bool) : Ret Try.prog 21 [] mv ([D.sl 3 (ms.map Mach.enc), D.int .i64 n].map .d) (.d (.sl 3 ((ms.map (stepsM n)).map Mach.enc))) [] := by
  refine ret_body callB21 Try.func21 rfl Try.ntmps21 rfl rfl (fun wX gX => ?_)
  refine twp_norm [0, 1] (by repeat (first | exact SubK.nil | apply sub_d rfl | apply sub_msl rfl | apply sub_mptr rfl | apply sub_agg rfl | apply sub_tup rfl | apply sub_ifc rfl | apply sub_fnc rfl | apply sub_mmap rfl | apply SubK.cons _ _ _ _ rfl)) (by repeat (first | exact blk_nil rfl | apply blk_flat rfl | apply blk_box rfl | apply blk_map rfl | apply blk_dead rfl | rfl)) ?_
  refine twp_rseq ?_
  refine s_rd _ rfl (by first | exact mv_d (.inr rfl) rfl | exact mv_msl (.inr rfl) rfl | exact mv_mptr (.inr rfl) rfl | exact mv_agg (.inr rfl) rfl | exact mv_tup (.inr rfl) rfl | exact mv_ifc (.inr rfl) rfl | exact mv_fnc (.inr rfl) rfl | exact mv_mmap (.inr rfl) rfl | exact rd_move (.inr rfl)) ?_
  refine tops_nil ?_
  refine twp_norm [0, 1] (by repeat (first | exact SubK.nil | apply sub_d rfl | apply sub_msl rfl | apply sub_mptr rfl | apply sub_agg rfl | apply sub_tup rfl | apply sub_ifc rfl | apply sub_fnc rfl | apply sub_mmap rfl | apply SubK.cons _ _ _ _ rfl)) (by repeat (first | exact blk_nil rfl | apply blk_flat rfl | apply blk_box rfl | apply blk_map rfl | apply blk_dead rfl | rfl)) ?_
  refine twp_seq ?_
  refine twp_rseq ?_
  refine s_rd _ rfl (by first | exact mv_d (.inl rfl) rfl | exact mv_msl (.inl rfl) rfl | exact mv_mptr (.inl rfl) rfl | exact mv_agg (.inl rfl) rfl | exact mv_tup (.inl rfl) rfl | exact mv_ifc (.inl rfl) rfl | exact mv_fnc (.inl rfl) rfl | exact mv_mmap (.inl rfl) rfl | exact rd_move (.inl rfl)) ?_
  refine s_rd _ rfl (by first | exact mv_d (.inl rfl) rfl | exact mv_msl (.inl rfl) rfl | exact mv_mptr (.inl rfl) rfl | exact mv_agg (.inl rfl) rfl | exact mv_tup (.inl rfl) rfl | exact mv_ifc (.inl rfl) rfl | exact mv_fnc (.inl rfl) rfl | exact mv_mmap (.inl rfl) rfl | exact rd_move (.inl rfl)) ?_
  refine tops_nil ?_
  refine twp_norm [0, 5, 6] (by repeat (first | exact SubK.nil | apply sub_d rfl | apply sub_msl rfl | apply sub_mptr rfl | apply sub_agg rfl | apply sub_tup rfl | apply sub_ifc rfl | apply sub_fnc rfl | apply sub_mmap rfl | apply SubK.cons _ _ _ _ rfl)) (by repeat (first | exact blk_nil rfl | apply blk_flat rfl | apply blk_box rfl | apply blk_map rfl | apply blk_dead rfl | rfl)) ?_
  refine twp_block ?_
  refine twp_while (fun i => (⟨[(0, .d (.sl 3 ((ms.map (stepsM i)).map Mach.enc))), (5, .d (.int .i64 ((n : Nat) : Int))), (6, .d (.int .i64 ((i : Nat) : Int)))], []⟩ : St)) (fun i => i ≤ n) (fun i => n - i) [0, 5, 6] [] 0 (by decide) (fun i hi => absurd hi (Nat.not_lt_zero i)) (by simp) (by rw [show stepsM 0 = id from rfl, List.map_id]; rfl) ?_
  rintro i hok
  refine twp_norm [0, 5, 6] (by repeat (first | exact SubK.nil | apply sub_d rfl | apply sub_msl rfl | apply sub_mptr rfl | apply sub_agg rfl | apply sub_tup rfl | apply sub_ifc rfl | apply sub_fnc rfl | apply sub_mmap rfl | apply SubK.cons _ _ _ _ rfl)) (by repeat (first | exact blk_nil rfl | apply blk_flat rfl | apply blk_box rfl | apply blk_map rfl | apply blk_dead rfl | rfl)) ?_
  refine twp_rseq ?_
  refine s_rd _ rfl (by first | exact cmp_int rfl rfl rfl rfl | exact cmp_bool rfl rfl rfl rfl) ?_
  refine tops_nil ?_
  refine twp_norm [0, 5, 6, 7] (by repeat (first | exact SubK.nil | apply sub_d rfl | apply sub_msl rfl | apply sub_mptr rfl | apply sub_agg rfl | apply sub_tup rfl | apply sub_ifc rfl | apply sub_fnc rfl | apply sub_mmap rfl | apply SubK.cons _ _ _ _ rfl)) (by repeat (first | exact blk_nil rfl | apply blk_flat rfl | apply blk_box rfl | apply blk_map rfl | apply blk_dead rfl | rfl)) ?_
  refine twp_seq ?_
  refine twp_cond _ rfl (fun hlt => ?_) (fun hlt => ?_)
  · have hlt : i < n := by simpa using hlt
    refine twp_skip ?_
    refine way_then ?_
    refine twp_norm [0, 5, 6] (by repeat (first | exact SubK.nil | apply sub_d rfl | apply sub_msl rfl | apply sub_mptr rfl | apply sub_agg rfl | apply sub_tup rfl | apply sub_ifc rfl | apply sub_fnc rfl | apply sub_mmap rfl | apply SubK.cons _ _ _ _ rfl)) (by repeat (first | exact blk_nil rfl | apply blk_flat rfl | apply blk_box rfl | apply blk_map rfl | apply blk_dead rfl | rfl)) ?_
    refine twp_seq ?_
    refine twp_block ?_
    refine twp_region ?_
    refine s_rd _ rfl (by first | exact mv_d (.inl rfl) rfl | exact mv_msl (.inl rfl) rfl | exact mv_mptr (.inl rfl) rfl | exact mv_agg (.inl rfl) rfl | exact mv_tup (.inl rfl) rfl | exact mv_ifc (.inl rfl) rfl | exact mv_fnc (.inl rfl) rfl | exact mv_mmap (.inl rfl) rfl | exact rd_move (.inl rfl)) ?_
    refine s_rd _ rfl (rd_callRD rfl rfl rfl (((step_n (ms.map (stepsM i)) (by simpa using hn) (map_wf (fun m h => stepsM_wf h i) hw)).to (by rw [stepsM_map])).retD)) ?_
    refine s_rd _ rfl (by first | exact mv_d (.inr rfl) rfl | exact mv_msl (.inr rfl) rfl | exact mv_mptr (.inr rfl) rfl | exact mv_agg (.inr rfl) rfl | exact mv_tup (.inr rfl) rfl | exact mv_ifc (.inr rfl) rfl | exact mv_fnc (.inr rfl) rfl | exact mv_mmap (.inr rfl) rfl | exact rd_move (.inr rfl)) ?_
    refine tops_nil ?_
    refine way_block ?_
    refine way_then ?_
    refine twp_norm [0, 5, 6] (by repeat (first | exact SubK.nil | apply sub_d rfl | apply sub_msl rfl | apply sub_mptr rfl | apply sub_agg rfl | apply sub_tup rfl | apply sub_ifc rfl | apply sub_fnc rfl | apply sub_mmap rfl | apply SubK.cons _ _ _ _ rfl)) (by repeat (first | exact blk_nil rfl | apply blk_flat rfl | apply blk_box rfl | apply blk_map rfl | apply blk_dead rfl | rfl)) ?_
    refine twp_region ?_
    refine s_rd _ rfl (arith_ok rfl rfl rfl rfl (by first | omega | (constructor <;> omega))) ?_
    refine s_rd _ rfl (by first | exact mv_d (.inl rfl) rfl | exact mv_msl (.inl rfl) rfl | exact mv_mptr (.inl rfl) rfl | exact mv_agg (.inl rfl) rfl | exact mv_tup (.inl rfl) rfl | exact mv_ifc (.inl rfl) rfl | exact mv_fnc (.inl rfl) rfl | exact mv_mmap (.inl rfl) rfl | exact rd_move (.inl rfl)) ?_
    refine tops_nil ?_
    refine way_then ?_
    exact ⟨(i + 1), [], by decide, fun i hi => absurd hi (Nat.not_lt_zero i), (by omega), (by omega), rfl⟩
  · have hlt : ¬ i < n := by simpa using hlt
    obtain rfl : i = n := by omega
    refine twp_exit ?_
    refine way_thenExit ?_
    refine way_thenExit ?_
    refine way_here ?_
    refine way_then ?_
    refine twp_norm [0] (by repeat (first | exact SubK.nil | apply sub_d rfl | apply sub_msl rfl | apply sub_mptr rfl | apply sub_agg rfl | apply sub_tup rfl | apply sub_ifc rfl | apply sub_fnc rfl | apply sub_mmap rfl | apply SubK.cons _ _ _ _ rfl)) (by repeat (first | exact blk_nil rfl | apply blk_flat rfl | apply blk_box rfl | apply blk_map rfl | apply blk_dead rfl | rfl)) ?_
    refine twp_rseq ?_
    refine s_rd _ rfl (by first | exact mv_d (.inl rfl) rfl | exact mv_msl (.inl rfl) rfl | exact mv_mptr (.inl rfl) rfl | exact mv_agg (.inl rfl) rfl | exact mv_tup (.inl rfl) rfl | exact mv_ifc (.inl rfl) rfl | exact mv_fnc (.inl rfl) rfl | exact mv_mmap (.inl rfl) rfl | exact rd_move (.inl rfl)) ?_
    refine s_rd _ rfl (by first | exact mv_d (.inr rfl) rfl | exact mv_msl (.inr rfl) rfl | exact mv_mptr (.inr rfl) rfl | exact mv_agg (.inr rfl) rfl | exact mv_tup (.inr rfl) rfl | exact mv_ifc (.inr rfl) rfl | exact mv_fnc (.inr rfl) rfl | exact mv_mmap (.inr rfl) rfl | exact rd_move (.inr rfl)) ?_
    refine tops_nil ?_
    refine twp_norm [4] (by repeat (first | exact SubK.nil | apply sub_d rfl | apply sub_msl rfl | apply sub_mptr rfl | apply sub_agg rfl | apply sub_tup rfl | apply sub_ifc rfl | apply sub_fnc rfl | apply sub_mmap rfl | apply SubK.cons _ _ _ _ rfl)) (by repeat (first | exact blk_nil rfl | apply blk_flat rfl | apply blk_box rfl | apply blk_map rfl | apply blk_dead rfl | rfl)) ?_
    refine twp_ret ?_
    exact Ends.plain _ rfl

end Go.Proofs.Ytmjgelbhflmchaa
