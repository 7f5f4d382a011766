/- The field: beginnings, positions, comparisons, walked. No condition. -/
import Derived.Test.YtmjgelbhflmchaaFieldB
namespace Go.Proofs.Ytmjgelbhflmchaa
open Go Go.TL

/-- A table: of its parts only the second matters here. -/
def tabD (ps : List Int) : D := .agg [.nilsl, .sl 1 (ps.map (D.int .i64)), .nilsl, .int .i64 0, .int .i64 0]
def startM (ps : List Int) : List Mach := ps.map fun _ => ⟨1, 1, 0⟩

theorem callB17 : callB Try.prog 17 = true := by kernel_rfl

theorem fld33_1 : fld Try.prog 33 1 = some 1 := by kernel_rfl

theorem lay23 : lay Try.prog 23 = some (false, 1) := by kernel_rfl

theorem start_ret (ps : List Int) (hn : ps.length ≤ 100000) (mv : Nat → Bool) : Ret Try.prog 17 [] mv ([tabD ps].map .d) (.msl 0 3 0 ps.length) [.flat 39 3 ((ps.map fun _ => (⟨1, 1, 0⟩ : Mach)).map Mach.enc)] := by
  refine ret_body callB17 Try.func17 rfl Try.ntmps17 rfl rfl (fun wX gX => ?_)
  refine twp_norm [0] (by repeat (first | exact SubK.nil | apply sub_d rfl | apply sub_msl rfl | apply sub_mptr rfl | apply sub_agg rfl | apply sub_tup rfl | apply sub_ifc rfl | apply sub_fnc rfl | apply sub_mmap rfl | apply SubK.cons _ _ _ _ rfl)) (by repeat (first | exact blk_nil rfl | apply blk_flat rfl | apply blk_box rfl | apply blk_map rfl | apply blk_dead rfl | rfl)) ?_
  refine twp_rseq ?_
  refine s_boxA rfl rfl rfl ?_
  refine s_rd _ rfl (by first | exact mv_d (.inr rfl) rfl | exact mv_msl (.inr rfl) rfl | exact mv_mptr (.inr rfl) rfl | exact mv_agg (.inr rfl) rfl | exact mv_tup (.inr rfl) rfl | exact mv_ifc (.inr rfl) rfl | exact mv_fnc (.inr rfl) rfl | exact mv_mmap (.inr rfl) rfl | exact rd_move (.inr rfl)) ?_
  refine tops_nil ?_
  refine twp_norm [1] (by repeat (first | exact SubK.nil | apply sub_d rfl | apply sub_msl rfl | apply sub_mptr rfl | apply sub_agg rfl | apply sub_tup rfl | apply sub_ifc rfl | apply sub_fnc rfl | apply sub_mmap rfl | apply SubK.cons _ _ _ _ rfl)) (by repeat (first | exact blk_nil rfl | apply blk_flat rfl | apply blk_box rfl | apply blk_map rfl | apply blk_dead rfl | rfl)) ?_
  refine twp_rseq ?_
  refine s_rd _ rfl (by first | exact fieldAddr_ptr rfl fld33_1 rfl rfl | exact fieldAddr_mptr rfl fld33_1 rfl rfl) ?_
  refine s_rd _ rfl (by first | exact load_ptr rfl lay23 rfl rfl | exact load_flat rfl lay23 rfl rfl (by first | rfl | assumption | (simp only [List.getElem?_map, Option.map_some, *]; done)) rfl | exact load_box_d rfl lay23 rfl rfl rfl | exact load_box rfl lay23 rfl rfl rfl) ?_
  refine s_rd _ rfl (by first | exact len_d rfl sel23 rfl (by first | exact List.length_map _ | rfl) | exact len_msl rfl sel23 rfl | exact len_nil rfl sel23 rfl) ?_
  refine s_makeSlice (n := ps.length) rfl sel22 zero39 rfl rfl rfl rfl (by omega) (by omega) ?_
  refine s_rd _ rfl (by first | exact mv_d (.inr rfl) rfl | exact mv_msl (.inr rfl) rfl | exact mv_mptr (.inr rfl) rfl | exact mv_agg (.inr rfl) rfl | exact mv_tup (.inr rfl) rfl | exact mv_ifc (.inr rfl) rfl | exact mv_fnc (.inr rfl) rfl | exact mv_mmap (.inr rfl) rfl | exact rd_move (.inr rfl)) ?_
  refine tops_nil ?_
  refine twp_norm [3] (by repeat (first | exact SubK.nil | apply sub_d rfl | apply sub_msl rfl | apply sub_mptr rfl | apply sub_agg rfl | apply sub_tup rfl | apply sub_ifc rfl | apply sub_fnc rfl | apply sub_mmap rfl | apply SubK.cons _ _ _ _ rfl)) (by repeat (first | exact blk_nil rfl | apply blk_flat rfl | apply blk_box rfl | apply blk_map rfl | apply blk_dead rfl | rfl)) ?_
  refine twp_seq ?_
  refine twp_rseq ?_
  refine s_rd _ rfl (by first | exact mv_d (.inl rfl) rfl | exact mv_msl (.inl rfl) rfl | exact mv_mptr (.inl rfl) rfl | exact mv_agg (.inl rfl) rfl | exact mv_tup (.inl rfl) rfl | exact mv_ifc (.inl rfl) rfl | exact mv_fnc (.inl rfl) rfl | exact mv_mmap (.inl rfl) rfl | exact rd_move (.inl rfl)) ?_
  refine s_rd _ rfl (by first | exact len_d rfl sel22 rfl (by first | exact List.length_map _ | rfl) | exact len_msl rfl sel22 rfl | exact len_nil rfl sel22 rfl) ?_
  refine s_rd _ rfl (by first | exact mv_d (.inl rfl) rfl | exact mv_msl (.inl rfl) rfl | exact mv_mptr (.inl rfl) rfl | exact mv_agg (.inl rfl) rfl | exact mv_tup (.inl rfl) rfl | exact mv_ifc (.inl rfl) rfl | exact mv_fnc (.inl rfl) rfl | exact mv_mmap (.inl rfl) rfl | exact rd_move (.inl rfl)) ?_
  refine tops_nil ?_
  refine twp_norm [3, 10, 11] (by repeat (first | exact SubK.nil | apply sub_d rfl | apply sub_msl rfl | apply sub_mptr rfl | apply sub_agg rfl | apply sub_tup rfl | apply sub_ifc rfl | apply sub_fnc rfl | apply sub_mmap rfl | apply SubK.cons _ _ _ _ rfl)) (by repeat (first | exact blk_nil rfl | apply blk_flat rfl | apply blk_box rfl | apply blk_map rfl | apply blk_dead rfl | rfl)) ?_
  refine twp_block ?_
  refine twp_while (fun i => (⟨[(3, .msl 0 3 0 ps.length), (10, .d (.int .i64 ((ps.length : Nat) : Int))), (11, .d (.int .i64 ((i : Nat) : Int)))], [.flat 39 3 ((mix (fun _ => (⟨1, 1, 0⟩ : Mach)) (List.replicate ps.length ⟨0, 0, 0⟩) i).map Mach.enc)]⟩ : St)) (fun i => i ≤ ps.length) (fun i => ps.length - i) [3, 10, 11] [1] 0 (by decide) (fun i hi => absurd hi (Nat.not_lt_zero i)) (by simp) (by rw [mix_zero, List.map_replicate]; try rfl) ?_
  rintro i hok
  refine twp_norm [3, 10, 11] (by repeat (first | exact SubK.nil | apply sub_d rfl | apply sub_msl rfl | apply sub_mptr rfl | apply sub_agg rfl | apply sub_tup rfl | apply sub_ifc rfl | apply sub_fnc rfl | apply sub_mmap rfl | apply SubK.cons _ _ _ _ rfl)) (by repeat (first | exact blk_nil rfl | apply blk_flat rfl | apply blk_box rfl | apply blk_map rfl | apply blk_dead rfl | rfl)) ?_
  refine twp_rseq ?_
  refine s_rd _ rfl (by first | exact cmp_int rfl rfl rfl rfl | exact cmp_bool rfl rfl rfl rfl) ?_
  refine tops_nil ?_
  refine twp_norm [3, 10, 11, 12] (by repeat (first | exact SubK.nil | apply sub_d rfl | apply sub_msl rfl | apply sub_mptr rfl | apply sub_agg rfl | apply sub_tup rfl | apply sub_ifc rfl | apply sub_fnc rfl | apply sub_mmap rfl | apply SubK.cons _ _ _ _ rfl)) (by repeat (first | exact blk_nil rfl | apply blk_flat rfl | apply blk_box rfl | apply blk_map rfl | apply blk_dead rfl | rfl)) ?_
  refine twp_seq ?_
  refine twp_cond _ rfl (fun hlt => ?_) (fun hlt => ?_)
  · have hlt : i < ps.length := by simpa using hlt
    have hm : (List.replicate ps.length (⟨0, 0, 0⟩ : Mach))[i]? = some ⟨0, 0, 0⟩ := by simp [hlt]
    have hg := el_map (f := Mach.enc) (mix_get (fun _ => (⟨1, 1, 0⟩ : Mach)) hm)
    have hE : ((mix (fun _ => (⟨1, 1, 0⟩ : Mach)) (List.replicate ps.length ⟨0, 0, 0⟩) i).map Mach.enc).set i (Mach.enc ⟨1, 1, 0⟩) = (mix (fun _ => (⟨1, 1, 0⟩ : Mach)) (List.replicate ps.length ⟨0, 0, 0⟩) (i + 1)).map Mach.enc := (by rw [← List.map_set]; exact congrArg (List.map Mach.enc) (mix_set (fun _ => (⟨1, 1, 0⟩ : Mach)) hm))
    refine twp_skip ?_
    refine way_then ?_
    refine twp_norm [3, 10, 11] (by repeat (first | exact SubK.nil | apply sub_d rfl | apply sub_msl rfl | apply sub_mptr rfl | apply sub_agg rfl | apply sub_tup rfl | apply sub_ifc rfl | apply sub_fnc rfl | apply sub_mmap rfl | apply SubK.cons _ _ _ _ rfl)) (by repeat (first | exact blk_nil rfl | apply blk_flat rfl | apply blk_box rfl | apply blk_map rfl | apply blk_dead rfl | rfl)) ?_
    refine twp_seq ?_
    refine twp_block ?_
    refine twp_rseq ?_
    refine s_rd _ rfl (by first | exact mv_d (.inl rfl) rfl | exact mv_msl (.inl rfl) rfl | exact mv_mptr (.inl rfl) rfl | exact mv_agg (.inl rfl) rfl | exact mv_tup (.inl rfl) rfl | exact mv_ifc (.inl rfl) rfl | exact mv_fnc (.inl rfl) rfl | exact mv_mmap (.inl rfl) rfl | exact rd_move (.inl rfl)) ?_
    refine s_rd _ rfl (by first | exact mv_d (.inr rfl) rfl | exact mv_msl (.inr rfl) rfl | exact mv_mptr (.inr rfl) rfl | exact mv_agg (.inr rfl) rfl | exact mv_tup (.inr rfl) rfl | exact mv_ifc (.inr rfl) rfl | exact mv_fnc (.inr rfl) rfl | exact mv_mmap (.inr rfl) rfl | exact rd_move (.inr rfl)) ?_
    refine tops_nil ?_
    refine twp_norm [3, 4, 10, 11] (by repeat (first | exact SubK.nil | apply sub_d rfl | apply sub_msl rfl | apply sub_mptr rfl | apply sub_agg rfl | apply sub_tup rfl | apply sub_ifc rfl | apply sub_fnc rfl | apply sub_mmap rfl | apply SubK.cons _ _ _ _ rfl)) (by repeat (first | exact blk_nil rfl | apply blk_flat rfl | apply blk_box rfl | apply blk_map rfl | apply blk_dead rfl | rfl)) ?_
    refine twp_region ?_
    refine s_rd _ rfl (by first | exact mv_d (.inl rfl) rfl | exact mv_msl (.inl rfl) rfl | exact mv_mptr (.inl rfl) rfl | exact mv_agg (.inl rfl) rfl | exact mv_tup (.inl rfl) rfl | exact mv_ifc (.inl rfl) rfl | exact mv_fnc (.inl rfl) rfl | exact mv_mmap (.inl rfl) rfl | exact rd_move (.inl rfl)) ?_
    refine s_rd _ rfl (by first | exact mv_d (.inl rfl) rfl | exact mv_msl (.inl rfl) rfl | exact mv_mptr (.inl rfl) rfl | exact mv_agg (.inl rfl) rfl | exact mv_tup (.inl rfl) rfl | exact mv_ifc (.inl rfl) rfl | exact mv_fnc (.inl rfl) rfl | exact mv_mmap (.inl rfl) rfl | exact rd_move (.inl rfl)) ?_
    refine s_rd _ rfl (by first | exact build_d rfl plc39 zero39 rfl rfl rfl rfl | exact rd_build rfl plc39 zero39 rfl rfl rfl rfl) ?_
    refine s_rd _ rfl (by first | exact index_msl0 rfl sel22 rfl rfl (by first | assumption | omega | (simp; omega)) | exact index_sl rfl sel22 rfl rfl (by first | exact ⟨by omega, by assumption⟩ | exact idx_map (by assumption) | exact idx_id (by assumption))) ?_
    first
      | refine s_store_box lay39 rfl rfl rfl rfl rfl (Nat.le_of_ble_eq_true rfl) rfl ?_
      | refine s_store_flat lay39 rfl rfl rfl rfl hg (by first | exact .inl rfl | exact .inr rfl) (Nat.le_of_ble_eq_true rfl) rfl ?_
    refine tops_nil ?_
    refine way_block ?_
    refine way_then ?_
    refine twp_norm [3, 10, 11] (by repeat (first | exact SubK.nil | apply sub_d rfl | apply sub_msl rfl | apply sub_mptr rfl | apply sub_agg rfl | apply sub_tup rfl | apply sub_ifc rfl | apply sub_fnc rfl | apply sub_mmap rfl | apply SubK.cons _ _ _ _ rfl)) (by repeat (first | exact blk_nil rfl | apply blk_flat rfl | apply blk_box rfl | apply blk_map rfl | apply blk_dead rfl | rfl)) ?_
    refine twp_region ?_
    refine s_rd _ rfl (arith_ok rfl rfl rfl rfl (by first | omega | (constructor <;> omega))) ?_
    refine s_rd _ rfl (by first | exact mv_d (.inl rfl) rfl | exact mv_msl (.inl rfl) rfl | exact mv_mptr (.inl rfl) rfl | exact mv_agg (.inl rfl) rfl | exact mv_tup (.inl rfl) rfl | exact mv_ifc (.inl rfl) rfl | exact mv_fnc (.inl rfl) rfl | exact mv_mmap (.inl rfl) rfl | exact rd_move (.inl rfl)) ?_
    refine tops_nil ?_
    refine way_then ?_
    exact ⟨(i + 1), [0], by decide, fun i hi => absurd hi (Nat.not_lt_zero i), (by omega), (by omega), (congrArg (fun es => (⟨(fun i => ([(3, .msl 0 3 0 ps.length), (10, .d (.int .i64 ((ps.length : Nat) : Int))), (11, .d (.int .i64 ((i : Nat) : Int)))] : Fr)) (i + 1), [.flat 39 3 es]⟩ : St)) hE)⟩
  · have hlt : ¬ i < ps.length := by simpa using hlt
    refine twp_exit ?_
    refine way_thenExit ?_
    refine way_thenExit ?_
    refine way_here ?_
    refine way_then ?_
    refine twp_norm [3] (by repeat (first | exact SubK.nil | apply sub_d rfl | apply sub_msl rfl | apply sub_mptr rfl | apply sub_agg rfl | apply sub_tup rfl | apply sub_ifc rfl | apply sub_fnc rfl | apply sub_mmap rfl | apply SubK.cons _ _ _ _ rfl)) (by repeat (first | exact blk_nil rfl | apply blk_flat rfl | apply blk_box rfl | apply blk_map rfl | apply blk_dead rfl | rfl)) ?_
    refine twp_rseq ?_
    refine s_rd _ rfl (by first | exact mv_d (.inl rfl) rfl | exact mv_msl (.inl rfl) rfl | exact mv_mptr (.inl rfl) rfl | exact mv_agg (.inl rfl) rfl | exact mv_tup (.inl rfl) rfl | exact mv_ifc (.inl rfl) rfl | exact mv_fnc (.inl rfl) rfl | exact mv_mmap (.inl rfl) rfl | exact rd_move (.inl rfl)) ?_
    refine s_rd _ rfl (by first | exact mv_d (.inr rfl) rfl | exact mv_msl (.inr rfl) rfl | exact mv_mptr (.inr rfl) rfl | exact mv_agg (.inr rfl) rfl | exact mv_tup (.inr rfl) rfl | exact mv_ifc (.inr rfl) rfl | exact mv_fnc (.inr rfl) rfl | exact mv_mmap (.inr rfl) rfl | exact rd_move (.inr rfl)) ?_
    refine tops_nil ?_
    refine twp_norm [2] (by repeat (first | exact SubK.nil | apply sub_d rfl | apply sub_msl rfl | apply sub_mptr rfl | apply sub_agg rfl | apply sub_tup rfl | apply sub_ifc rfl | apply sub_fnc rfl | apply sub_mmap rfl | apply SubK.cons _ _ _ _ rfl)) (by repeat (first | exact blk_nil rfl | apply blk_flat rfl | apply blk_box rfl | apply blk_map rfl | apply blk_dead rfl | rfl)) ?_
    refine twp_ret ?_
    exact ⟨_, [0], rfl, by decide, fun i hi => absurd hi (Nat.not_lt_zero i), rfl, by rw [mix_all _ _ (by simp; omega), List.map_replicate]; simp [List.map_const']; rfl⟩

theorem callB18 : callB Try.prog 18 = true := by kernel_rfl

theorem startR_ret (ps : List Int) (hn : ps.length ≤ 100000) (mv : Nat → Bool) : Ret Try.prog 18 [] mv ([tabD ps].map .d) (.msl 0 3 0 ps.length) [.flat 39 3 ((ps.mapIdx fun _ _ => (⟨1, 1, 0⟩ : Mach)).map Mach.enc)] := by
  refine ret_body callB18 Try.func18 rfl Try.ntmps18 rfl rfl (fun wX gX => ?_)
  refine twp_norm [0] (by repeat (first | exact SubK.nil | apply sub_d rfl | apply sub_msl rfl | apply sub_mptr rfl | apply sub_agg rfl | apply sub_tup rfl | apply sub_ifc rfl | apply sub_fnc rfl | apply sub_mmap rfl | apply SubK.cons _ _ _ _ rfl)) (by repeat (first | exact blk_nil rfl | apply blk_flat rfl | apply blk_box rfl | apply blk_map rfl | apply blk_dead rfl | rfl)) ?_
  refine twp_rseq ?_
  refine s_boxA rfl rfl rfl ?_
  refine s_rd _ rfl (by first | exact mv_d (.inr rfl) rfl | exact mv_msl (.inr rfl) rfl | exact mv_mptr (.inr rfl) rfl | exact mv_agg (.inr rfl) rfl | exact mv_tup (.inr rfl) rfl | exact mv_ifc (.inr rfl) rfl | exact mv_fnc (.inr rfl) rfl | exact mv_mmap (.inr rfl) rfl | exact rd_move (.inr rfl)) ?_
  refine tops_nil ?_
  refine twp_norm [1] (by repeat (first | exact SubK.nil | apply sub_d rfl | apply sub_msl rfl | apply sub_mptr rfl | apply sub_agg rfl | apply sub_tup rfl | apply sub_ifc rfl | apply sub_fnc rfl | apply sub_mmap rfl | apply SubK.cons _ _ _ _ rfl)) (by repeat (first | exact blk_nil rfl | apply blk_flat rfl | apply blk_box rfl | apply blk_map rfl | apply blk_dead rfl | rfl)) ?_
  refine twp_rseq ?_
  refine s_assignNil 39 3 rfl rfl ?_
  refine tops_nil ?_
  refine twp_norm [1, 3] (by repeat (first | exact SubK.nil | apply sub_d rfl | apply sub_msl rfl | apply sub_mptr rfl | apply sub_agg rfl | apply sub_tup rfl | apply sub_ifc rfl | apply sub_fnc rfl | apply sub_mmap rfl | apply SubK.cons _ _ _ _ rfl)) (by repeat (first | exact blk_nil rfl | apply blk_flat rfl | apply blk_box rfl | apply blk_map rfl | apply blk_dead rfl | rfl)) ?_
  refine twp_seq ?_
  refine twp_rseq ?_
  refine s_rd _ rfl (by first | exact mv_d (.inr rfl) rfl | exact mv_msl (.inr rfl) rfl | exact mv_mptr (.inr rfl) rfl | exact mv_agg (.inr rfl) rfl | exact mv_tup (.inr rfl) rfl | exact mv_ifc (.inr rfl) rfl | exact mv_fnc (.inr rfl) rfl | exact mv_mmap (.inr rfl) rfl | exact rd_move (.inr rfl)) ?_
  refine tops_nil ?_
  refine twp_norm [1, 3, 4] (by repeat (first | exact SubK.nil | apply sub_d rfl | apply sub_msl rfl | apply sub_mptr rfl | apply sub_agg rfl | apply sub_tup rfl | apply sub_ifc rfl | apply sub_fnc rfl | apply sub_mmap rfl | apply SubK.cons _ _ _ _ rfl)) (by repeat (first | exact blk_nil rfl | apply blk_flat rfl | apply blk_box rfl | apply blk_map rfl | apply blk_dead rfl | rfl)) ?_
  refine twp_block ?_
  refine twp_while (fun i => (⟨[(1, .mptr 1 0 0 0), (3, .msl 0 3 0 i), (4, .d (.int .i64 ((i : Nat) : Int)))], [.flat 39 3 ((pre (fun _ _ => (⟨1, 1, 0⟩ : Mach)) ps i).map Mach.enc), .box 33 [.d .nilsl, .d (.sl 1 (ps.map (D.int .i64))), .d .nilsl, .d (.int .i64 0), .d (.int .i64 0)]]⟩ : St)) (fun i => i ≤ ps.length) (fun i => ps.length - i) [1, 3, 4] [1, 0] 0 (by decide) (fun i hi => absurd hi (Nat.not_lt_zero i)) (by simp) rfl ?_
  rintro i hok
  refine twp_norm [1, 3, 4] (by repeat (first | exact SubK.nil | apply sub_d rfl | apply sub_msl rfl | apply sub_mptr rfl | apply sub_agg rfl | apply sub_tup rfl | apply sub_ifc rfl | apply sub_fnc rfl | apply sub_mmap rfl | apply SubK.cons _ _ _ _ rfl)) (by repeat (first | exact blk_nil rfl | apply blk_flat rfl | apply blk_box rfl | apply blk_map rfl | apply blk_dead rfl | rfl)) ?_
  refine twp_seq ?_
  refine twp_rseq ?_
  refine s_rd _ rfl (by first | exact mv_d (.inl rfl) rfl | exact mv_msl (.inl rfl) rfl | exact mv_mptr (.inl rfl) rfl | exact mv_agg (.inl rfl) rfl | exact mv_tup (.inl rfl) rfl | exact mv_ifc (.inl rfl) rfl | exact mv_fnc (.inl rfl) rfl | exact mv_mmap (.inl rfl) rfl | exact rd_move (.inl rfl)) ?_
  refine s_rd _ rfl (by first | exact fieldAddr_ptr rfl fld33_1 rfl rfl | exact fieldAddr_mptr rfl fld33_1 rfl rfl) ?_
  refine s_rd _ rfl (by first | exact load_ptr rfl lay23 rfl rfl | exact load_flat rfl lay23 rfl rfl (by first | rfl | assumption | (simp only [List.getElem?_map, Option.map_some, *]; done)) rfl | exact load_box_d rfl lay23 rfl rfl rfl | exact load_box rfl lay23 rfl rfl rfl) ?_
  refine s_rd _ rfl (by first | exact len_d rfl sel23 rfl (by first | exact List.length_map _ | rfl) | exact len_msl rfl sel23 rfl | exact len_nil rfl sel23 rfl) ?_
  refine s_rd _ rfl (by first | exact cmp_int rfl rfl rfl rfl | exact cmp_bool rfl rfl rfl rfl) ?_
  refine tops_nil ?_
  refine twp_norm [1, 3, 4, 9] (by repeat (first | exact SubK.nil | apply sub_d rfl | apply sub_msl rfl | apply sub_mptr rfl | apply sub_agg rfl | apply sub_tup rfl | apply sub_ifc rfl | apply sub_fnc rfl | apply sub_mmap rfl | apply SubK.cons _ _ _ _ rfl)) (by repeat (first | exact blk_nil rfl | apply blk_flat rfl | apply blk_box rfl | apply blk_map rfl | apply blk_dead rfl | rfl)) ?_
  refine twp_cond _ rfl (fun hlt => ?_) (fun hlt => ?_)
  · have hlt : i < ps.length := by simpa using hlt
    obtain ⟨m, hm⟩ : ∃ m, ps[i]? = some m := ⟨_, List.getElem?_eq_getElem hlt⟩
    refine twp_skip ?_
    refine way_then ?_
    refine twp_norm [1, 3, 4] (by repeat (first | exact SubK.nil | apply sub_d rfl | apply sub_msl rfl | apply sub_mptr rfl | apply sub_agg rfl | apply sub_tup rfl | apply sub_ifc rfl | apply sub_fnc rfl | apply sub_mmap rfl | apply SubK.cons _ _ _ _ rfl)) (by repeat (first | exact blk_nil rfl | apply blk_flat rfl | apply blk_box rfl | apply blk_map rfl | apply blk_dead rfl | rfl)) ?_
    refine twp_seq ?_
    refine twp_block ?_
    refine twp_region ?_
    refine s_rd _ rfl (by first | exact mv_d (.inl rfl) rfl | exact mv_msl (.inl rfl) rfl | exact mv_mptr (.inl rfl) rfl | exact mv_agg (.inl rfl) rfl | exact mv_tup (.inl rfl) rfl | exact mv_ifc (.inl rfl) rfl | exact mv_fnc (.inl rfl) rfl | exact mv_mmap (.inl rfl) rfl | exact rd_move (.inl rfl)) ?_
    refine s_rd _ rfl (by first | exact build_d rfl plc39 zero39 rfl rfl rfl rfl | exact rd_build rfl plc39 zero39 rfl rfl rfl rfl) ?_
    refine s_litD [.tmp 13] rfl sel22 zero39 rfl rfl rfl rfl rfl ?_
    refine s_push rfl sel22 zero39 rfl rfl rfl (fun h => absurd h (Nat.not_lt_zero _)) rfl rfl (by simp [pre_length _ _ (Nat.le_of_lt hlt)]) (pre_snoc' _ _ hm rfl) (by omega) ?_
    refine s_rd _ rfl (by first | exact mv_d (.inr rfl) rfl | exact mv_msl (.inr rfl) rfl | exact mv_mptr (.inr rfl) rfl | exact mv_agg (.inr rfl) rfl | exact mv_tup (.inr rfl) rfl | exact mv_ifc (.inr rfl) rfl | exact mv_fnc (.inr rfl) rfl | exact mv_mmap (.inr rfl) rfl | exact rd_move (.inr rfl)) ?_
    refine tops_nil ?_
    refine way_block ?_
    refine way_then ?_
    refine twp_norm [1, 3, 4] (by repeat (first | exact SubK.nil | apply sub_d rfl | apply sub_msl rfl | apply sub_mptr rfl | apply sub_agg rfl | apply sub_tup rfl | apply sub_ifc rfl | apply sub_fnc rfl | apply sub_mmap rfl | apply SubK.cons _ _ _ _ rfl)) (by repeat (first | exact blk_nil rfl | apply blk_flat rfl | apply blk_box rfl | apply blk_map rfl | apply blk_dead rfl | rfl)) ?_
    refine twp_region ?_
    refine s_rd _ rfl (by first | exact mv_d (.inl rfl) rfl | exact mv_msl (.inl rfl) rfl | exact mv_mptr (.inl rfl) rfl | exact mv_agg (.inl rfl) rfl | exact mv_tup (.inl rfl) rfl | exact mv_ifc (.inl rfl) rfl | exact mv_fnc (.inl rfl) rfl | exact mv_mmap (.inl rfl) rfl | exact rd_move (.inl rfl)) ?_
    refine s_rd _ rfl (arith_ok rfl rfl rfl rfl (by first | omega | (constructor <;> omega))) ?_
    refine s_rd _ rfl (by first | exact mv_d (.inr rfl) rfl | exact mv_msl (.inr rfl) rfl | exact mv_mptr (.inr rfl) rfl | exact mv_agg (.inr rfl) rfl | exact mv_tup (.inr rfl) rfl | exact mv_ifc (.inr rfl) rfl | exact mv_fnc (.inr rfl) rfl | exact mv_mmap (.inr rfl) rfl | exact rd_move (.inr rfl)) ?_
    refine tops_nil ?_
    refine way_then ?_
    exact ⟨(i + 1), [0, 1], by decide, fun i hi => absurd hi (Nat.not_lt_zero i), (by omega), (by omega), rfl⟩
  · have hlt : ¬ i < ps.length := by simpa using hlt
    have hi : i = ps.length := by omega
    refine twp_exit ?_
    refine way_thenExit ?_
    refine way_thenExit ?_
    refine way_here ?_
    refine way_then ?_
    refine twp_norm [3] (by repeat (first | exact SubK.nil | apply sub_d rfl | apply sub_msl rfl | apply sub_mptr rfl | apply sub_agg rfl | apply sub_tup rfl | apply sub_ifc rfl | apply sub_fnc rfl | apply sub_mmap rfl | apply SubK.cons _ _ _ _ rfl)) (by repeat (first | exact blk_nil rfl | apply blk_flat rfl | apply blk_box rfl | apply blk_map rfl | apply blk_dead rfl | rfl)) ?_
    refine twp_rseq ?_
    refine s_rd _ rfl (by first | exact mv_d (.inl rfl) rfl | exact mv_msl (.inl rfl) rfl | exact mv_mptr (.inl rfl) rfl | exact mv_agg (.inl rfl) rfl | exact mv_tup (.inl rfl) rfl | exact mv_ifc (.inl rfl) rfl | exact mv_fnc (.inl rfl) rfl | exact mv_mmap (.inl rfl) rfl | exact rd_move (.inl rfl)) ?_
    refine s_rd _ rfl (by first | exact mv_d (.inr rfl) rfl | exact mv_msl (.inr rfl) rfl | exact mv_mptr (.inr rfl) rfl | exact mv_agg (.inr rfl) rfl | exact mv_tup (.inr rfl) rfl | exact mv_ifc (.inr rfl) rfl | exact mv_fnc (.inr rfl) rfl | exact mv_mmap (.inr rfl) rfl | exact rd_move (.inr rfl)) ?_
    refine tops_nil ?_
    refine twp_norm [2] (by repeat (first | exact SubK.nil | apply sub_d rfl | apply sub_msl rfl | apply sub_mptr rfl | apply sub_agg rfl | apply sub_tup rfl | apply sub_ifc rfl | apply sub_fnc rfl | apply sub_mmap rfl | apply SubK.cons _ _ _ _ rfl)) (by repeat (first | exact blk_nil rfl | apply blk_flat rfl | apply blk_box rfl | apply blk_map rfl | apply blk_dead rfl | rfl)) ?_
    refine twp_ret ?_
    exact ⟨_, [0], rfl, by decide, fun i hi => absurd hi (Nat.not_lt_zero i), by rw [hi]; rfl, by rw [pre_all _ ps (Nat.le_of_eq hi.symm)]; rfl⟩

theorem start_n (ps : List Int) (hn : ps.length ≤ 100000) : RetN Try.prog 17 [tabD ps] (.sl 3 ((startM ps).map Mach.enc)) := .flat (start_ret ps hn (fun _ => false)) (by simp [startM]) (mem0_map _)
theorem startR_n (ps : List Int) (hn : ps.length ≤ 100000) : RetN Try.prog 18 [tabD ps] (.sl 3 ((startM ps).map Mach.enc)) := by
  have hh := (startR_ret ps hn (fun _ => false))
  rw [mapIdx_const] at hh
  exact .flat hh (by simp [startM]) (mem0_map _)

/-- Both lists are alike up to i. -/
def likeTo {α : Type} (xs ys : List α) (i : Nat) : Prop := ∀ j, j < i → xs[j]? = ys[j]?
theorem like_all {α : Type} {xs ys : List α} {i : Nat} (hl : xs.length = ys.length) (h : likeTo xs ys i) (hi : xs.length ≤ i) : xs = ys := by
  apply List.ext_getElem?
  intro j
  rcases Nat.lt_or_ge j i with hj | hj
  · exact h j hj
  · rw [List.getElem?_eq_none (by omega), List.getElem?_eq_none (by omega)]
theorem like_succ {α : Type} {xs ys : List α} {i : Nat} (h : likeTo xs ys i) (hi : xs[i]? = ys[i]?) : likeTo xs ys (i + 1) := fun j hj => by
  rcases Nat.lt_or_ge j i with hlt | hge
  · exact h j hlt
  · rw [show j = i by omega]; exact hi

theorem callB14 : callB Try.prog 14 = true := by kernel_rfl

theorem sameInts_ret (xs ys : List Int) (hn : xs.length ≤ 1000000) (b : Bool) (hb : b = true ↔ xs = ys) (mv : Nat → Bool) : Ret Try.prog 14 [] mv ([D.sl 1 (xs.map (D.int .i64)), D.sl 1 (ys.map (D.int .i64))].map .d) (.d (.bool b)) [] := by
  refine ret_body callB14 Try.func14 rfl Try.ntmps14 rfl rfl (fun wX gX => ?_)
  refine twp_norm [0, 1] (by repeat (first | exact SubK.nil | apply sub_d rfl | apply sub_msl rfl | apply sub_mptr rfl | apply sub_agg rfl | apply sub_tup rfl | apply sub_ifc rfl | apply sub_fnc rfl | apply sub_mmap rfl | apply SubK.cons _ _ _ _ rfl)) (by repeat (first | exact blk_nil rfl | apply blk_flat rfl | apply blk_box rfl | apply blk_map rfl | apply blk_dead rfl | rfl)) ?_
  refine twp_rseq ?_
  refine s_rd _ rfl (by first | exact mv_d (.inr rfl) rfl | exact mv_msl (.inr rfl) rfl | exact mv_mptr (.inr rfl) rfl | exact mv_agg (.inr rfl) rfl | exact mv_tup (.inr rfl) rfl | exact mv_ifc (.inr rfl) rfl | exact mv_fnc (.inr rfl) rfl | exact mv_mmap (.inr rfl) rfl | exact rd_move (.inr rfl)) ?_
  refine tops_nil ?_
  refine twp_norm [0, 1] (by repeat (first | exact SubK.nil | apply sub_d rfl | apply sub_msl rfl | apply sub_mptr rfl | apply sub_agg rfl | apply sub_tup rfl | apply sub_ifc rfl | apply sub_fnc rfl | apply sub_mmap rfl | apply SubK.cons _ _ _ _ rfl)) (by repeat (first | exact blk_nil rfl | apply blk_flat rfl | apply blk_box rfl | apply blk_map rfl | apply blk_dead rfl | rfl)) ?_
  refine twp_seq ?_
  refine twp_rseq ?_
  refine s_rd _ rfl (by first | exact mv_d (.inl rfl) rfl | exact mv_msl (.inl rfl) rfl | exact mv_mptr (.inl rfl) rfl | exact mv_agg (.inl rfl) rfl | exact mv_tup (.inl rfl) rfl | exact mv_ifc (.inl rfl) rfl | exact mv_fnc (.inl rfl) rfl | exact mv_mmap (.inl rfl) rfl | exact rd_move (.inl rfl)) ?_
  refine s_rd _ rfl (by first | exact len_d rfl sel23 rfl (by first | exact List.length_map _ | rfl) | exact len_msl rfl sel23 rfl | exact len_nil rfl sel23 rfl) ?_
  refine s_rd _ rfl (by first | exact mv_d (.inl rfl) rfl | exact mv_msl (.inl rfl) rfl | exact mv_mptr (.inl rfl) rfl | exact mv_agg (.inl rfl) rfl | exact mv_tup (.inl rfl) rfl | exact mv_ifc (.inl rfl) rfl | exact mv_fnc (.inl rfl) rfl | exact mv_mmap (.inl rfl) rfl | exact rd_move (.inl rfl)) ?_
  refine s_rd _ rfl (by first | exact len_d rfl sel23 rfl (by first | exact List.length_map _ | rfl) | exact len_msl rfl sel23 rfl | exact len_nil rfl sel23 rfl) ?_
  refine s_rd _ rfl (by first | exact cmp_int rfl rfl rfl rfl | exact cmp_bool rfl rfl rfl rfl) ?_
  refine tops_nil ?_
  refine twp_norm [0, 1, 10] (by repeat (first | exact SubK.nil | apply sub_d rfl | apply sub_msl rfl | apply sub_mptr rfl | apply sub_agg rfl | apply sub_tup rfl | apply sub_ifc rfl | apply sub_fnc rfl | apply sub_mmap rfl | apply SubK.cons _ _ _ _ rfl)) (by repeat (first | exact blk_nil rfl | apply blk_flat rfl | apply blk_box rfl | apply blk_map rfl | apply blk_dead rfl | rfl)) ?_
  refine twp_cond _ rfl (fun hne => ?_) (fun hne => ?_)
  · have hne : ¬ xs.length = ys.length := by simp at hne; omega
    have hbf : b = false := by
      cases hbb : b with
      | false => rfl
      | true => exact absurd (congrArg List.length (hb.1 hbb)) hne
    refine twp_rseq ?_
    refine s_rd _ rfl (by first | exact mv_d (.inr rfl) rfl | exact mv_msl (.inr rfl) rfl | exact mv_mptr (.inr rfl) rfl | exact mv_agg (.inr rfl) rfl | exact mv_tup (.inr rfl) rfl | exact mv_ifc (.inr rfl) rfl | exact mv_fnc (.inr rfl) rfl | exact mv_mmap (.inr rfl) rfl | exact rd_move (.inr rfl)) ?_
    refine tops_nil ?_
    refine twp_norm [4] (by repeat (first | exact SubK.nil | apply sub_d rfl | apply sub_msl rfl | apply sub_mptr rfl | apply sub_agg rfl | apply sub_tup rfl | apply sub_ifc rfl | apply sub_fnc rfl | apply sub_mmap rfl | apply SubK.cons _ _ _ _ rfl)) (by repeat (first | exact blk_nil rfl | apply blk_flat rfl | apply blk_box rfl | apply blk_map rfl | apply blk_dead rfl | rfl)) ?_
    refine twp_ret ?_
    refine way_thenRet ?_
    first | (rw [hbt]; exact Ends.plain _ rfl) | (rw [hbf]; exact Ends.plain _ rfl)
  · have hlen : xs.length = ys.length := by simp at hne; omega
    refine twp_skip ?_
    refine way_then ?_
    refine twp_norm [0, 1] (by repeat (first | exact SubK.nil | apply sub_d rfl | apply sub_msl rfl | apply sub_mptr rfl | apply sub_agg rfl | apply sub_tup rfl | apply sub_ifc rfl | apply sub_fnc rfl | apply sub_mmap rfl | apply SubK.cons _ _ _ _ rfl)) (by repeat (first | exact blk_nil rfl | apply blk_flat rfl | apply blk_box rfl | apply blk_map rfl | apply blk_dead rfl | rfl)) ?_
    refine twp_seq ?_
    refine twp_rseq ?_
    refine s_rd _ rfl (by first | exact mv_d (.inr rfl) rfl | exact mv_msl (.inr rfl) rfl | exact mv_mptr (.inr rfl) rfl | exact mv_agg (.inr rfl) rfl | exact mv_tup (.inr rfl) rfl | exact mv_ifc (.inr rfl) rfl | exact mv_fnc (.inr rfl) rfl | exact mv_mmap (.inr rfl) rfl | exact rd_move (.inr rfl)) ?_
    refine tops_nil ?_
    refine twp_norm [0, 1, 5] (by repeat (first | exact SubK.nil | apply sub_d rfl | apply sub_msl rfl | apply sub_mptr rfl | apply sub_agg rfl | apply sub_tup rfl | apply sub_ifc rfl | apply sub_fnc rfl | apply sub_mmap rfl | apply SubK.cons _ _ _ _ rfl)) (by repeat (first | exact blk_nil rfl | apply blk_flat rfl | apply blk_box rfl | apply blk_map rfl | apply blk_dead rfl | rfl)) ?_
    refine twp_block ?_
    refine twp_while (fun i => (⟨[(0, .d (.sl 1 (xs.map (D.int .i64)))), (1, .d (.sl 1 (ys.map (D.int .i64)))), (5, .d (.int .i64 ((i : Nat) : Int)))], []⟩ : St)) (fun i => i ≤ xs.length ∧ likeTo xs ys i) (fun i => xs.length - i) [0, 1, 5] [] 0 (by decide) (fun i hi => absurd hi (Nat.not_lt_zero i)) ⟨Nat.zero_le _, fun j hj => absurd hj (Nat.not_lt_zero j)⟩ rfl ?_
    rintro i ⟨hok, hlike⟩
    refine twp_norm [0, 1, 5] (by repeat (first | exact SubK.nil | apply sub_d rfl | apply sub_msl rfl | apply sub_mptr rfl | apply sub_agg rfl | apply sub_tup rfl | apply sub_ifc rfl | apply sub_fnc rfl | apply sub_mmap rfl | apply SubK.cons _ _ _ _ rfl)) (by repeat (first | exact blk_nil rfl | apply blk_flat rfl | apply blk_box rfl | apply blk_map rfl | apply blk_dead rfl | rfl)) ?_
    refine twp_seq ?_
    refine twp_rseq ?_
    refine s_rd _ rfl (by first | exact mv_d (.inl rfl) rfl | exact mv_msl (.inl rfl) rfl | exact mv_mptr (.inl rfl) rfl | exact mv_agg (.inl rfl) rfl | exact mv_tup (.inl rfl) rfl | exact mv_ifc (.inl rfl) rfl | exact mv_fnc (.inl rfl) rfl | exact mv_mmap (.inl rfl) rfl | exact rd_move (.inl rfl)) ?_
    refine s_rd _ rfl (by first | exact mv_d (.inl rfl) rfl | exact mv_msl (.inl rfl) rfl | exact mv_mptr (.inl rfl) rfl | exact mv_agg (.inl rfl) rfl | exact mv_tup (.inl rfl) rfl | exact mv_ifc (.inl rfl) rfl | exact mv_fnc (.inl rfl) rfl | exact mv_mmap (.inl rfl) rfl | exact rd_move (.inl rfl)) ?_
    refine s_rd _ rfl (by first | exact len_d rfl sel23 rfl (by first | exact List.length_map _ | rfl) | exact len_msl rfl sel23 rfl | exact len_nil rfl sel23 rfl) ?_
    refine s_rd _ rfl (by first | exact cmp_int rfl rfl rfl rfl | exact cmp_bool rfl rfl rfl rfl) ?_
    refine tops_nil ?_
    refine twp_norm [0, 1, 5, 14] (by repeat (first | exact SubK.nil | apply sub_d rfl | apply sub_msl rfl | apply sub_mptr rfl | apply sub_agg rfl | apply sub_tup rfl | apply sub_ifc rfl | apply sub_fnc rfl | apply sub_mmap rfl | apply SubK.cons _ _ _ _ rfl)) (by repeat (first | exact blk_nil rfl | apply blk_flat rfl | apply blk_box rfl | apply blk_map rfl | apply blk_dead rfl | rfl)) ?_
    refine twp_cond _ rfl (fun hlt => ?_) (fun hlt => ?_)
    · have hlt : i < xs.length := by simpa using hlt
      obtain ⟨x, hx⟩ : ∃ x, xs[i]? = some x := ⟨_, List.getElem?_eq_getElem hlt⟩
      obtain ⟨y, hy⟩ : ∃ y, ys[i]? = some y := ⟨_, List.getElem?_eq_getElem (hlen ▸ hlt)⟩
      refine twp_skip ?_
      refine way_then ?_
      refine twp_norm [0, 1, 5] (by repeat (first | exact SubK.nil | apply sub_d rfl | apply sub_msl rfl | apply sub_mptr rfl | apply sub_agg rfl | apply sub_tup rfl | apply sub_ifc rfl | apply sub_fnc rfl | apply sub_mmap rfl | apply SubK.cons _ _ _ _ rfl)) (by repeat (first | exact blk_nil rfl | apply blk_flat rfl | apply blk_box rfl | apply blk_map rfl | apply blk_dead rfl | rfl)) ?_
      refine twp_seq ?_
      refine twp_block ?_
      refine twp_dseq follows  ?_
      refine d_rd [] _ rfl rfl (by first | exact mv_d (.inl rfl) rfl | exact mv_msl (.inl rfl) rfl | exact mv_mptr (.inl rfl) rfl | exact mv_agg (.inl rfl) rfl | exact mv_tup (.inl rfl) rfl | exact mv_ifc (.inl rfl) rfl | exact mv_fnc (.inl rfl) rfl | exact mv_mmap (.inl rfl) rfl | exact rd_move (.inl rfl)) ?_
      refine d_rd [] _ rfl rfl (by first | exact mv_d (.inl rfl) rfl | exact mv_msl (.inl rfl) rfl | exact mv_mptr (.inl rfl) rfl | exact mv_agg (.inl rfl) rfl | exact mv_tup (.inl rfl) rfl | exact mv_ifc (.inl rfl) rfl | exact mv_fnc (.inl rfl) rfl | exact mv_mmap (.inl rfl) rfl | exact rd_move (.inl rfl)) ?_
      refine d_rd [] _ rfl rfl (by first | exact index_msl0 rfl sel23 rfl rfl (by first | assumption | omega | (simp; omega)) | exact index_sl rfl sel23 rfl rfl (idx_map hx)) ?_
      first | refine d_rd [] _ rfl rfl (by first | exact load_ptr rfl lay3 rfl rfl | exact load_flat rfl lay3 rfl rfl (by first | rfl | assumption | (simp only [List.getElem?_map, Option.map_some, *]; done)) rfl | exact load_box_d rfl lay3 rfl rfl rfl | exact load_box rfl lay3 rfl rfl rfl) ?_ | refine d_rd [0] _ rfl rfl (by first | exact load_ptr rfl lay3 rfl rfl | exact load_flat rfl lay3 rfl rfl (by first | rfl | assumption | (simp only [List.getElem?_map, Option.map_some, *]; done)) rfl | exact load_box_d rfl lay3 rfl rfl rfl | exact load_box rfl lay3 rfl rfl rfl) ?_ | refine d_rd [1] _ rfl rfl (by first | exact load_ptr rfl lay3 rfl rfl | exact load_flat rfl lay3 rfl rfl (by first | rfl | assumption | (simp only [List.getElem?_map, Option.map_some, *]; done)) rfl | exact load_box_d rfl lay3 rfl rfl rfl | exact load_box rfl lay3 rfl rfl rfl) ?_ | refine d_rd [2] _ rfl rfl (by first | exact load_ptr rfl lay3 rfl rfl | exact load_flat rfl lay3 rfl rfl (by first | rfl | assumption | (simp only [List.getElem?_map, Option.map_some, *]; done)) rfl | exact load_box_d rfl lay3 rfl rfl rfl | exact load_box rfl lay3 rfl rfl rfl) ?_ | refine d_rd [3] _ rfl rfl (by first | exact load_ptr rfl lay3 rfl rfl | exact load_flat rfl lay3 rfl rfl (by first | rfl | assumption | (simp only [List.getElem?_map, Option.map_some, *]; done)) rfl | exact load_box_d rfl lay3 rfl rfl rfl | exact load_box rfl lay3 rfl rfl rfl) ?_ | refine d_rd [0, 1] _ rfl rfl (by first | exact load_ptr rfl lay3 rfl rfl | exact load_flat rfl lay3 rfl rfl (by first | rfl | assumption | (simp only [List.getElem?_map, Option.map_some, *]; done)) rfl | exact load_box_d rfl lay3 rfl rfl rfl | exact load_box rfl lay3 rfl rfl rfl) ?_
      refine d_rd [] _ rfl rfl (by first | exact mv_d (.inl rfl) rfl | exact mv_msl (.inl rfl) rfl | exact mv_mptr (.inl rfl) rfl | exact mv_agg (.inl rfl) rfl | exact mv_tup (.inl rfl) rfl | exact mv_ifc (.inl rfl) rfl | exact mv_fnc (.inl rfl) rfl | exact mv_mmap (.inl rfl) rfl | exact rd_move (.inl rfl)) ?_
      refine d_rd [] _ rfl rfl (by first | exact mv_d (.inl rfl) rfl | exact mv_msl (.inl rfl) rfl | exact mv_mptr (.inl rfl) rfl | exact mv_agg (.inl rfl) rfl | exact mv_tup (.inl rfl) rfl | exact mv_ifc (.inl rfl) rfl | exact mv_fnc (.inl rfl) rfl | exact mv_mmap (.inl rfl) rfl | exact rd_move (.inl rfl)) ?_
      refine d_rd [] _ rfl rfl (by first | exact index_msl0 rfl sel23 rfl rfl (by first | assumption | omega | (simp; omega)) | exact index_sl rfl sel23 rfl rfl (idx_map hy)) ?_
      first | refine d_rd [] _ rfl rfl (by first | exact load_ptr rfl lay3 rfl rfl | exact load_flat rfl lay3 rfl rfl (by first | rfl | assumption | (simp only [List.getElem?_map, Option.map_some, *]; done)) rfl | exact load_box_d rfl lay3 rfl rfl rfl | exact load_box rfl lay3 rfl rfl rfl) ?_ | refine d_rd [0] _ rfl rfl (by first | exact load_ptr rfl lay3 rfl rfl | exact load_flat rfl lay3 rfl rfl (by first | rfl | assumption | (simp only [List.getElem?_map, Option.map_some, *]; done)) rfl | exact load_box_d rfl lay3 rfl rfl rfl | exact load_box rfl lay3 rfl rfl rfl) ?_ | refine d_rd [1] _ rfl rfl (by first | exact load_ptr rfl lay3 rfl rfl | exact load_flat rfl lay3 rfl rfl (by first | rfl | assumption | (simp only [List.getElem?_map, Option.map_some, *]; done)) rfl | exact load_box_d rfl lay3 rfl rfl rfl | exact load_box rfl lay3 rfl rfl rfl) ?_ | refine d_rd [2] _ rfl rfl (by first | exact load_ptr rfl lay3 rfl rfl | exact load_flat rfl lay3 rfl rfl (by first | rfl | assumption | (simp only [List.getElem?_map, Option.map_some, *]; done)) rfl | exact load_box_d rfl lay3 rfl rfl rfl | exact load_box rfl lay3 rfl rfl rfl) ?_ | refine d_rd [3] _ rfl rfl (by first | exact load_ptr rfl lay3 rfl rfl | exact load_flat rfl lay3 rfl rfl (by first | rfl | assumption | (simp only [List.getElem?_map, Option.map_some, *]; done)) rfl | exact load_box_d rfl lay3 rfl rfl rfl | exact load_box rfl lay3 rfl rfl rfl) ?_ | refine d_rd [0, 1] _ rfl rfl (by first | exact load_ptr rfl lay3 rfl rfl | exact load_flat rfl lay3 rfl rfl (by first | rfl | assumption | (simp only [List.getElem?_map, Option.map_some, *]; done)) rfl | exact load_box_d rfl lay3 rfl rfl rfl | exact load_box rfl lay3 rfl rfl rfl) ?_
      refine d_rd [] _ rfl rfl (by first | exact cmp_int rfl rfl rfl rfl | exact cmp_bool rfl rfl rfl rfl) ?_
      refine d_tail ?_ (by kernel_rfl)
      refine tops_nil ?_
      refine twp_norm [0, 1, 5, 25] (by repeat (first | exact SubK.nil | apply sub_d rfl | apply sub_msl rfl | apply sub_mptr rfl | apply sub_agg rfl | apply sub_tup rfl | apply sub_ifc rfl | apply sub_fnc rfl | apply sub_mmap rfl | apply SubK.cons _ _ _ _ rfl)) (by repeat (first | exact blk_nil rfl | apply blk_flat rfl | apply blk_box rfl | apply blk_map rfl | apply blk_dead rfl | rfl)) ?_
      refine twp_cond _ rfl (fun hxy => ?_) (fun hxy => ?_)
      · have hxy : ¬ x = y := by simpa using hxy
        have hbf : b = false := by
          cases hbb : b with
          | false => rfl
          | true => exact absurd (by have := hb.1 hbb; subst this; rw [hx] at hy; exact Option.some.inj hy) hxy
        refine twp_rseq ?_
        refine s_rd _ rfl (by first | exact mv_d (.inr rfl) rfl | exact mv_msl (.inr rfl) rfl | exact mv_mptr (.inr rfl) rfl | exact mv_agg (.inr rfl) rfl | exact mv_tup (.inr rfl) rfl | exact mv_ifc (.inr rfl) rfl | exact mv_fnc (.inr rfl) rfl | exact mv_mmap (.inr rfl) rfl | exact rd_move (.inr rfl)) ?_
        refine tops_nil ?_
        refine twp_norm [4] (by repeat (first | exact SubK.nil | apply sub_d rfl | apply sub_msl rfl | apply sub_mptr rfl | apply sub_agg rfl | apply sub_tup rfl | apply sub_ifc rfl | apply sub_fnc rfl | apply sub_mmap rfl | apply SubK.cons _ _ _ _ rfl)) (by repeat (first | exact blk_nil rfl | apply blk_flat rfl | apply blk_box rfl | apply blk_map rfl | apply blk_dead rfl | rfl)) ?_
        refine twp_ret ?_
        refine way_blockRet ?_
        refine way_thenRet ?_
        refine way_thenRet ?_
        refine way_blockRet ?_
        refine way_thenRet ?_
        first | (rw [hbt]; exact Ends.plain _ rfl) | (rw [hbf]; exact Ends.plain _ rfl)
      · have hxy : x = y := by simpa using hxy
        refine twp_skip ?_
        refine way_block ?_
        refine way_then ?_
        refine twp_norm [0, 1, 5] (by repeat (first | exact SubK.nil | apply sub_d rfl | apply sub_msl rfl | apply sub_mptr rfl | apply sub_agg rfl | apply sub_tup rfl | apply sub_ifc rfl | apply sub_fnc rfl | apply sub_mmap rfl | apply SubK.cons _ _ _ _ rfl)) (by repeat (first | exact blk_nil rfl | apply blk_flat rfl | apply blk_box rfl | apply blk_map rfl | apply blk_dead rfl | rfl)) ?_
        refine twp_region ?_
        refine s_rd _ rfl (by first | exact mv_d (.inl rfl) rfl | exact mv_msl (.inl rfl) rfl | exact mv_mptr (.inl rfl) rfl | exact mv_agg (.inl rfl) rfl | exact mv_tup (.inl rfl) rfl | exact mv_ifc (.inl rfl) rfl | exact mv_fnc (.inl rfl) rfl | exact mv_mmap (.inl rfl) rfl | exact rd_move (.inl rfl)) ?_
        refine s_rd _ rfl (arith_ok rfl rfl rfl rfl (by first | omega | (constructor <;> omega))) ?_
        refine s_rd _ rfl (by first | exact mv_d (.inr rfl) rfl | exact mv_msl (.inr rfl) rfl | exact mv_mptr (.inr rfl) rfl | exact mv_agg (.inr rfl) rfl | exact mv_tup (.inr rfl) rfl | exact mv_ifc (.inr rfl) rfl | exact mv_fnc (.inr rfl) rfl | exact mv_mmap (.inr rfl) rfl | exact rd_move (.inr rfl)) ?_
        refine tops_nil ?_
        refine way_then ?_
        exact ⟨(i + 1), [], by decide, fun i hi => absurd hi (Nat.not_lt_zero i), ⟨by omega, like_succ hlike (hx.trans ((congrArg some hxy).trans hy.symm))⟩, (by omega), rfl⟩
    · have hlt : ¬ i < xs.length := by simpa using hlt
      have hbt : b = true := hb.2 (like_all hlen hlike (by omega))
      refine twp_exit ?_
      refine way_thenExit ?_
      refine way_thenExit ?_
      refine way_here ?_
      refine way_then ?_
      refine twp_norm [] (by repeat (first | exact SubK.nil | apply sub_d rfl | apply sub_msl rfl | apply sub_mptr rfl | apply sub_agg rfl | apply sub_tup rfl | apply sub_ifc rfl | apply sub_fnc rfl | apply sub_mmap rfl | apply SubK.cons _ _ _ _ rfl)) (by repeat (first | exact blk_nil rfl | apply blk_flat rfl | apply blk_box rfl | apply blk_map rfl | apply blk_dead rfl | rfl)) ?_
      refine twp_rseq ?_
      refine s_rd _ rfl (by first | exact mv_d (.inr rfl) rfl | exact mv_msl (.inr rfl) rfl | exact mv_mptr (.inr rfl) rfl | exact mv_agg (.inr rfl) rfl | exact mv_tup (.inr rfl) rfl | exact mv_ifc (.inr rfl) rfl | exact mv_fnc (.inr rfl) rfl | exact mv_mmap (.inr rfl) rfl | exact rd_move (.inr rfl)) ?_
      refine tops_nil ?_
      refine twp_norm [4] (by repeat (first | exact SubK.nil | apply sub_d rfl | apply sub_msl rfl | apply sub_mptr rfl | apply sub_agg rfl | apply sub_tup rfl | apply sub_ifc rfl | apply sub_fnc rfl | apply sub_mmap rfl | apply SubK.cons _ _ _ _ rfl)) (by repeat (first | exact blk_nil rfl | apply blk_flat rfl | apply blk_box rfl | apply blk_map rfl | apply blk_dead rfl | rfl)) ?_
      refine twp_ret ?_
      first | (rw [hbt]; exact Ends.plain _ rfl) | (rw [hbf]; exact Ends.plain _ rfl)

theorem callB9 : callB Try.prog 9 = true := by kernel_rfl

theorem kinds39 : kinds Try.prog 30 39 = some [.int .i64, .int .i64, .int .i64] := by kernel_rfl

theorem keyt39 : (Try.prog.keyTypeAt 30 39 && !Try.prog.eqGuardType Try.prog.depth 39 && (match Try.prog.underlying 39 with | some (.struct _) => true | _ => false) && [TypeDesc.int .i64, TypeDesc.int .i64, TypeDesc.int .i64].length == Try.prog.cellsOf 39) = true := by kernel_rfl

theorem same_ret (xs ys : List Mach) (hn : xs.length ≤ 1000000) (hwx : ∀ m ∈ xs, m.wf) (hwy : ∀ m ∈ ys, m.wf) (b : Bool) (hb : b = true ↔ xs = ys) (mv : Nat → Bool) : Ret Try.prog 9 [] mv ([D.sl 3 (xs.map Mach.enc), D.sl 3 (ys.map Mach.enc)].map .d) (.d (.bool b)) [] := by
  refine ret_body callB9 Try.func9 rfl Try.ntmps9 rfl rfl (fun wX gX => ?_)
  refine twp_norm [0, 1] (by repeat (first | exact SubK.nil | apply sub_d rfl | apply sub_msl rfl | apply sub_mptr rfl | apply sub_agg rfl | apply sub_tup rfl | apply sub_ifc rfl | apply sub_fnc rfl | apply sub_mmap rfl | apply SubK.cons _ _ _ _ rfl)) (by repeat (first | exact blk_nil rfl | apply blk_flat rfl | apply blk_box rfl | apply blk_map rfl | apply blk_dead rfl | rfl)) ?_
  refine twp_rseq ?_
  refine s_rd _ rfl (by first | exact mv_d (.inr rfl) rfl | exact mv_msl (.inr rfl) rfl | exact mv_mptr (.inr rfl) rfl | exact mv_agg (.inr rfl) rfl | exact mv_tup (.inr rfl) rfl | exact mv_ifc (.inr rfl) rfl | exact mv_fnc (.inr rfl) rfl | exact mv_mmap (.inr rfl) rfl | exact rd_move (.inr rfl)) ?_
  refine tops_nil ?_
  refine twp_norm [0, 1] (by repeat (first | exact SubK.nil | apply sub_d rfl | apply sub_msl rfl | apply sub_mptr rfl | apply sub_agg rfl | apply sub_tup rfl | apply sub_ifc rfl | apply sub_fnc rfl | apply sub_mmap rfl | apply SubK.cons _ _ _ _ rfl)) (by repeat (first | exact blk_nil rfl | apply blk_flat rfl | apply blk_box rfl | apply blk_map rfl | apply blk_dead rfl | rfl)) ?_
  refine twp_seq ?_
  refine twp_rseq ?_
  refine s_rd _ rfl (by first | exact mv_d (.inl rfl) rfl | exact mv_msl (.inl rfl) rfl | exact mv_mptr (.inl rfl) rfl | exact mv_agg (.inl rfl) rfl | exact mv_tup (.inl rfl) rfl | exact mv_ifc (.inl rfl) rfl | exact mv_fnc (.inl rfl) rfl | exact mv_mmap (.inl rfl) rfl | exact rd_move (.inl rfl)) ?_
  refine s_rd _ rfl (by first | exact len_d rfl sel22 rfl (by first | exact List.length_map _ | rfl) | exact len_msl rfl sel22 rfl | exact len_nil rfl sel22 rfl) ?_
  refine s_rd _ rfl (by first | exact mv_d (.inl rfl) rfl | exact mv_msl (.inl rfl) rfl | exact mv_mptr (.inl rfl) rfl | exact mv_agg (.inl rfl) rfl | exact mv_tup (.inl rfl) rfl | exact mv_ifc (.inl rfl) rfl | exact mv_fnc (.inl rfl) rfl | exact mv_mmap (.inl rfl) rfl | exact rd_move (.inl rfl)) ?_
  refine s_rd _ rfl (by first | exact len_d rfl sel22 rfl (by first | exact List.length_map _ | rfl) | exact len_msl rfl sel22 rfl | exact len_nil rfl sel22 rfl) ?_
  refine s_rd _ rfl (by first | exact cmp_int rfl rfl rfl rfl | exact cmp_bool rfl rfl rfl rfl) ?_
  refine tops_nil ?_
  refine twp_norm [0, 1, 10] (by repeat (first | exact SubK.nil | apply sub_d rfl | apply sub_msl rfl | apply sub_mptr rfl | apply sub_agg rfl | apply sub_tup rfl | apply sub_ifc rfl | apply sub_fnc rfl | apply sub_mmap rfl | apply SubK.cons _ _ _ _ rfl)) (by repeat (first | exact blk_nil rfl | apply blk_flat rfl | apply blk_box rfl | apply blk_map rfl | apply blk_dead rfl | rfl)) ?_
  refine twp_cond _ rfl (fun hne => ?_) (fun hne => ?_)
  · have hne : ¬ xs.length = ys.length := by simp at hne; omega
    have hbf : b = false := by
      cases hbb : b with
      | false => rfl
      | true => exact absurd (congrArg List.length (hb.1 hbb)) hne
    refine twp_rseq ?_
    refine s_rd _ rfl (by first | exact mv_d (.inr rfl) rfl | exact mv_msl (.inr rfl) rfl | exact mv_mptr (.inr rfl) rfl | exact mv_agg (.inr rfl) rfl | exact mv_tup (.inr rfl) rfl | exact mv_ifc (.inr rfl) rfl | exact mv_fnc (.inr rfl) rfl | exact mv_mmap (.inr rfl) rfl | exact rd_move (.inr rfl)) ?_
    refine tops_nil ?_
    refine twp_norm [4] (by repeat (first | exact SubK.nil | apply sub_d rfl | apply sub_msl rfl | apply sub_mptr rfl | apply sub_agg rfl | apply sub_tup rfl | apply sub_ifc rfl | apply sub_fnc rfl | apply sub_mmap rfl | apply SubK.cons _ _ _ _ rfl)) (by repeat (first | exact blk_nil rfl | apply blk_flat rfl | apply blk_box rfl | apply blk_map rfl | apply blk_dead rfl | rfl)) ?_
    refine twp_ret ?_
    refine way_thenRet ?_
    first | (rw [hbt]; exact Ends.plain _ rfl) | (rw [hbf]; exact Ends.plain _ rfl)
  · have hlen : xs.length = ys.length := by simp at hne; omega
    refine twp_skip ?_
    refine way_then ?_
    refine twp_norm [0, 1] (by repeat (first | exact SubK.nil | apply sub_d rfl | apply sub_msl rfl | apply sub_mptr rfl | apply sub_agg rfl | apply sub_tup rfl | apply sub_ifc rfl | apply sub_fnc rfl | apply sub_mmap rfl | apply SubK.cons _ _ _ _ rfl)) (by repeat (first | exact blk_nil rfl | apply blk_flat rfl | apply blk_box rfl | apply blk_map rfl | apply blk_dead rfl | rfl)) ?_
    refine twp_seq ?_
    refine twp_rseq ?_
    refine s_rd _ rfl (by first | exact mv_d (.inr rfl) rfl | exact mv_msl (.inr rfl) rfl | exact mv_mptr (.inr rfl) rfl | exact mv_agg (.inr rfl) rfl | exact mv_tup (.inr rfl) rfl | exact mv_ifc (.inr rfl) rfl | exact mv_fnc (.inr rfl) rfl | exact mv_mmap (.inr rfl) rfl | exact rd_move (.inr rfl)) ?_
    refine tops_nil ?_
    refine twp_norm [0, 1, 5] (by repeat (first | exact SubK.nil | apply sub_d rfl | apply sub_msl rfl | apply sub_mptr rfl | apply sub_agg rfl | apply sub_tup rfl | apply sub_ifc rfl | apply sub_fnc rfl | apply sub_mmap rfl | apply SubK.cons _ _ _ _ rfl)) (by repeat (first | exact blk_nil rfl | apply blk_flat rfl | apply blk_box rfl | apply blk_map rfl | apply blk_dead rfl | rfl)) ?_
    refine twp_block ?_
    refine twp_while (fun i => (⟨[(0, .d (.sl 3 (xs.map Mach.enc))), (1, .d (.sl 3 (ys.map Mach.enc))), (5, .d (.int .i64 ((i : Nat) : Int)))], []⟩ : St)) (fun i => i ≤ xs.length ∧ likeTo xs ys i) (fun i => xs.length - i) [0, 1, 5] [] 0 (by decide) (fun i hi => absurd hi (Nat.not_lt_zero i)) ⟨Nat.zero_le _, fun j hj => absurd hj (Nat.not_lt_zero j)⟩ rfl ?_
    rintro i ⟨hok, hlike⟩
    refine twp_norm [0, 1, 5] (by repeat (first | exact SubK.nil | apply sub_d rfl | apply sub_msl rfl | apply sub_mptr rfl | apply sub_agg rfl | apply sub_tup rfl | apply sub_ifc rfl | apply sub_fnc rfl | apply sub_mmap rfl | apply SubK.cons _ _ _ _ rfl)) (by repeat (first | exact blk_nil rfl | apply blk_flat rfl | apply blk_box rfl | apply blk_map rfl | apply blk_dead rfl | rfl)) ?_
    refine twp_seq ?_
    refine twp_rseq ?_
    refine s_rd _ rfl (by first | exact mv_d (.inl rfl) rfl | exact mv_msl (.inl rfl) rfl | exact mv_mptr (.inl rfl) rfl | exact mv_agg (.inl rfl) rfl | exact mv_tup (.inl rfl) rfl | exact mv_ifc (.inl rfl) rfl | exact mv_fnc (.inl rfl) rfl | exact mv_mmap (.inl rfl) rfl | exact rd_move (.inl rfl)) ?_
    refine s_rd _ rfl (by first | exact mv_d (.inl rfl) rfl | exact mv_msl (.inl rfl) rfl | exact mv_mptr (.inl rfl) rfl | exact mv_agg (.inl rfl) rfl | exact mv_tup (.inl rfl) rfl | exact mv_ifc (.inl rfl) rfl | exact mv_fnc (.inl rfl) rfl | exact mv_mmap (.inl rfl) rfl | exact rd_move (.inl rfl)) ?_
    refine s_rd _ rfl (by first | exact len_d rfl sel22 rfl (by first | exact List.length_map _ | rfl) | exact len_msl rfl sel22 rfl | exact len_nil rfl sel22 rfl) ?_
    refine s_rd _ rfl (by first | exact cmp_int rfl rfl rfl rfl | exact cmp_bool rfl rfl rfl rfl) ?_
    refine tops_nil ?_
    refine twp_norm [0, 1, 5, 14] (by repeat (first | exact SubK.nil | apply sub_d rfl | apply sub_msl rfl | apply sub_mptr rfl | apply sub_agg rfl | apply sub_tup rfl | apply sub_ifc rfl | apply sub_fnc rfl | apply sub_mmap rfl | apply SubK.cons _ _ _ _ rfl)) (by repeat (first | exact blk_nil rfl | apply blk_flat rfl | apply blk_box rfl | apply blk_map rfl | apply blk_dead rfl | rfl)) ?_
    refine twp_cond _ rfl (fun hlt => ?_) (fun hlt => ?_)
    · have hlt : i < xs.length := by simpa using hlt
      obtain ⟨x, hx⟩ : ∃ x, xs[i]? = some x := ⟨_, List.getElem?_eq_getElem hlt⟩
      obtain ⟨y, hy⟩ : ∃ y, ys[i]? = some y := ⟨_, List.getElem?_eq_getElem (hlen ▸ hlt)⟩
      have hxw := hwx x (List.mem_of_getElem? hx)
      have hyw := hwy y (List.mem_of_getElem? hy)
      refine twp_skip ?_
      refine way_then ?_
      refine twp_norm [0, 1, 5] (by repeat (first | exact SubK.nil | apply sub_d rfl | apply sub_msl rfl | apply sub_mptr rfl | apply sub_agg rfl | apply sub_tup rfl | apply sub_ifc rfl | apply sub_fnc rfl | apply sub_mmap rfl | apply SubK.cons _ _ _ _ rfl)) (by repeat (first | exact blk_nil rfl | apply blk_flat rfl | apply blk_box rfl | apply blk_map rfl | apply blk_dead rfl | rfl)) ?_
      refine twp_seq ?_
      refine twp_block ?_
      refine twp_dseq follows  ?_
      refine d_rd [] _ rfl rfl (by first | exact mv_d (.inl rfl) rfl | exact mv_msl (.inl rfl) rfl | exact mv_mptr (.inl rfl) rfl | exact mv_agg (.inl rfl) rfl | exact mv_tup (.inl rfl) rfl | exact mv_ifc (.inl rfl) rfl | exact mv_fnc (.inl rfl) rfl | exact mv_mmap (.inl rfl) rfl | exact rd_move (.inl rfl)) ?_
      refine d_rd [] _ rfl rfl (by first | exact mv_d (.inl rfl) rfl | exact mv_msl (.inl rfl) rfl | exact mv_mptr (.inl rfl) rfl | exact mv_agg (.inl rfl) rfl | exact mv_tup (.inl rfl) rfl | exact mv_ifc (.inl rfl) rfl | exact mv_fnc (.inl rfl) rfl | exact mv_mmap (.inl rfl) rfl | exact rd_move (.inl rfl)) ?_
      refine d_rd [] _ rfl rfl (by first | exact index_msl0 rfl sel22 rfl rfl (by first | assumption | omega | (simp; omega)) | exact index_sl rfl sel22 rfl rfl (idx_map hx)) ?_
      first | refine d_rd [] _ rfl rfl (by first | exact load_ptrW rfl lay39 rfl rfl rfl | exact load_flatW rfl lay39 rfl rfl (by first | rfl | assumption | (simp only [List.getElem?_map, Option.map_some, *]; done)) rfl rfl | exact load_boxA_d rfl lay39 rfl rfl (Nat.le_of_ble_eq_true rfl) rfl | exact load_boxA rfl lay39 rfl rfl (Nat.le_of_ble_eq_true rfl) rfl | exact load_ptrA rfl lay39 rfl (Nat.le_of_ble_eq_true rfl) rfl) ?_ | refine d_rd [0] _ rfl rfl (by first | exact load_ptrW rfl lay39 rfl rfl rfl | exact load_flatW rfl lay39 rfl rfl (by first | rfl | assumption | (simp only [List.getElem?_map, Option.map_some, *]; done)) rfl rfl | exact load_boxA_d rfl lay39 rfl rfl (Nat.le_of_ble_eq_true rfl) rfl | exact load_boxA rfl lay39 rfl rfl (Nat.le_of_ble_eq_true rfl) rfl | exact load_ptrA rfl lay39 rfl (Nat.le_of_ble_eq_true rfl) rfl) ?_ | refine d_rd [1] _ rfl rfl (by first | exact load_ptrW rfl lay39 rfl rfl rfl | exact load_flatW rfl lay39 rfl rfl (by first | rfl | assumption | (simp only [List.getElem?_map, Option.map_some, *]; done)) rfl rfl | exact load_boxA_d rfl lay39 rfl rfl (Nat.le_of_ble_eq_true rfl) rfl | exact load_boxA rfl lay39 rfl rfl (Nat.le_of_ble_eq_true rfl) rfl | exact load_ptrA rfl lay39 rfl (Nat.le_of_ble_eq_true rfl) rfl) ?_ | refine d_rd [2] _ rfl rfl (by first | exact load_ptrW rfl lay39 rfl rfl rfl | exact load_flatW rfl lay39 rfl rfl (by first | rfl | assumption | (simp only [List.getElem?_map, Option.map_some, *]; done)) rfl rfl | exact load_boxA_d rfl lay39 rfl rfl (Nat.le_of_ble_eq_true rfl) rfl | exact load_boxA rfl lay39 rfl rfl (Nat.le_of_ble_eq_true rfl) rfl | exact load_ptrA rfl lay39 rfl (Nat.le_of_ble_eq_true rfl) rfl) ?_ | refine d_rd [3] _ rfl rfl (by first | exact load_ptrW rfl lay39 rfl rfl rfl | exact load_flatW rfl lay39 rfl rfl (by first | rfl | assumption | (simp only [List.getElem?_map, Option.map_some, *]; done)) rfl rfl | exact load_boxA_d rfl lay39 rfl rfl (Nat.le_of_ble_eq_true rfl) rfl | exact load_boxA rfl lay39 rfl rfl (Nat.le_of_ble_eq_true rfl) rfl | exact load_ptrA rfl lay39 rfl (Nat.le_of_ble_eq_true rfl) rfl) ?_ | refine d_rd [0, 1] _ rfl rfl (by first | exact load_ptrW rfl lay39 rfl rfl rfl | exact load_flatW rfl lay39 rfl rfl (by first | rfl | assumption | (simp only [List.getElem?_map, Option.map_some, *]; done)) rfl rfl | exact load_boxA_d rfl lay39 rfl rfl (Nat.le_of_ble_eq_true rfl) rfl | exact load_boxA rfl lay39 rfl rfl (Nat.le_of_ble_eq_true rfl) rfl | exact load_ptrA rfl lay39 rfl (Nat.le_of_ble_eq_true rfl) rfl) ?_
      refine d_rd [] _ rfl rfl (by first | exact mv_d (.inl rfl) rfl | exact mv_msl (.inl rfl) rfl | exact mv_mptr (.inl rfl) rfl | exact mv_agg (.inl rfl) rfl | exact mv_tup (.inl rfl) rfl | exact mv_ifc (.inl rfl) rfl | exact mv_fnc (.inl rfl) rfl | exact mv_mmap (.inl rfl) rfl | exact rd_move (.inl rfl)) ?_
      refine d_rd [] _ rfl rfl (by first | exact mv_d (.inl rfl) rfl | exact mv_msl (.inl rfl) rfl | exact mv_mptr (.inl rfl) rfl | exact mv_agg (.inl rfl) rfl | exact mv_tup (.inl rfl) rfl | exact mv_ifc (.inl rfl) rfl | exact mv_fnc (.inl rfl) rfl | exact mv_mmap (.inl rfl) rfl | exact rd_move (.inl rfl)) ?_
      refine d_rd [] _ rfl rfl (by first | exact index_msl0 rfl sel22 rfl rfl (by first | assumption | omega | (simp; omega)) | exact index_sl rfl sel22 rfl rfl (idx_map hy)) ?_
      first | refine d_rd [] _ rfl rfl (by first | exact load_ptrW rfl lay39 rfl rfl rfl | exact load_flatW rfl lay39 rfl rfl (by first | rfl | assumption | (simp only [List.getElem?_map, Option.map_some, *]; done)) rfl rfl | exact load_boxA_d rfl lay39 rfl rfl (Nat.le_of_ble_eq_true rfl) rfl | exact load_boxA rfl lay39 rfl rfl (Nat.le_of_ble_eq_true rfl) rfl | exact load_ptrA rfl lay39 rfl (Nat.le_of_ble_eq_true rfl) rfl) ?_ | refine d_rd [0] _ rfl rfl (by first | exact load_ptrW rfl lay39 rfl rfl rfl | exact load_flatW rfl lay39 rfl rfl (by first | rfl | assumption | (simp only [List.getElem?_map, Option.map_some, *]; done)) rfl rfl | exact load_boxA_d rfl lay39 rfl rfl (Nat.le_of_ble_eq_true rfl) rfl | exact load_boxA rfl lay39 rfl rfl (Nat.le_of_ble_eq_true rfl) rfl | exact load_ptrA rfl lay39 rfl (Nat.le_of_ble_eq_true rfl) rfl) ?_ | refine d_rd [1] _ rfl rfl (by first | exact load_ptrW rfl lay39 rfl rfl rfl | exact load_flatW rfl lay39 rfl rfl (by first | rfl | assumption | (simp only [List.getElem?_map, Option.map_some, *]; done)) rfl rfl | exact load_boxA_d rfl lay39 rfl rfl (Nat.le_of_ble_eq_true rfl) rfl | exact load_boxA rfl lay39 rfl rfl (Nat.le_of_ble_eq_true rfl) rfl | exact load_ptrA rfl lay39 rfl (Nat.le_of_ble_eq_true rfl) rfl) ?_ | refine d_rd [2] _ rfl rfl (by first | exact load_ptrW rfl lay39 rfl rfl rfl | exact load_flatW rfl lay39 rfl rfl (by first | rfl | assumption | (simp only [List.getElem?_map, Option.map_some, *]; done)) rfl rfl | exact load_boxA_d rfl lay39 rfl rfl (Nat.le_of_ble_eq_true rfl) rfl | exact load_boxA rfl lay39 rfl rfl (Nat.le_of_ble_eq_true rfl) rfl | exact load_ptrA rfl lay39 rfl (Nat.le_of_ble_eq_true rfl) rfl) ?_ | refine d_rd [3] _ rfl rfl (by first | exact load_ptrW rfl lay39 rfl rfl rfl | exact load_flatW rfl lay39 rfl rfl (by first | rfl | assumption | (simp only [List.getElem?_map, Option.map_some, *]; done)) rfl rfl | exact load_boxA_d rfl lay39 rfl rfl (Nat.le_of_ble_eq_true rfl) rfl | exact load_boxA rfl lay39 rfl rfl (Nat.le_of_ble_eq_true rfl) rfl | exact load_ptrA rfl lay39 rfl (Nat.le_of_ble_eq_true rfl) rfl) ?_ | refine d_rd [0, 1] _ rfl rfl (by first | exact load_ptrW rfl lay39 rfl rfl rfl | exact load_flatW rfl lay39 rfl rfl (by first | rfl | assumption | (simp only [List.getElem?_map, Option.map_some, *]; done)) rfl rfl | exact load_boxA_d rfl lay39 rfl rfl (Nat.le_of_ble_eq_true rfl) rfl | exact load_boxA rfl lay39 rfl rfl (Nat.le_of_ble_eq_true rfl) rfl | exact load_ptrA rfl lay39 rfl (Nat.le_of_ble_eq_true rfl) rfl) ?_
      refine d_rd [] _ rfl rfl (eq_not ( rfl) rfl rfl kinds39 keyt39 rfl rfl ⟨⟨rfl, hxw.1⟩, ⟨rfl, hxw.2.1⟩, ⟨rfl, hxw.2.2⟩, trivial⟩ ⟨⟨rfl, hyw.1⟩, ⟨rfl, hyw.2.1⟩, ⟨rfl, hyw.2.2⟩, trivial⟩ (b := decide (x = y)) (by rw [decide_eq_true_eq]; cases x; cases y; simp)) ?_
      refine d_tail ?_ (by kernel_rfl)
      refine tops_nil ?_
      refine twp_norm [0, 1, 5, 25] (by repeat (first | exact SubK.nil | apply sub_d rfl | apply sub_msl rfl | apply sub_mptr rfl | apply sub_agg rfl | apply sub_tup rfl | apply sub_ifc rfl | apply sub_fnc rfl | apply sub_mmap rfl | apply SubK.cons _ _ _ _ rfl)) (by repeat (first | exact blk_nil rfl | apply blk_flat rfl | apply blk_box rfl | apply blk_map rfl | apply blk_dead rfl | rfl)) ?_
      refine twp_cond _ rfl (fun hxy => ?_) (fun hxy => ?_)
      · have hxy : ¬ x = y := by simpa using hxy
        have hbf : b = false := by
          cases hbb : b with
          | false => rfl
          | true => exact absurd (by have := hb.1 hbb; subst this; rw [hx] at hy; exact Option.some.inj hy) hxy
        refine twp_rseq ?_
        refine s_rd _ rfl (by first | exact mv_d (.inr rfl) rfl | exact mv_msl (.inr rfl) rfl | exact mv_mptr (.inr rfl) rfl | exact mv_agg (.inr rfl) rfl | exact mv_tup (.inr rfl) rfl | exact mv_ifc (.inr rfl) rfl | exact mv_fnc (.inr rfl) rfl | exact mv_mmap (.inr rfl) rfl | exact rd_move (.inr rfl)) ?_
        refine tops_nil ?_
        refine twp_norm [4] (by repeat (first | exact SubK.nil | apply sub_d rfl | apply sub_msl rfl | apply sub_mptr rfl | apply sub_agg rfl | apply sub_tup rfl | apply sub_ifc rfl | apply sub_fnc rfl | apply sub_mmap rfl | apply SubK.cons _ _ _ _ rfl)) (by repeat (first | exact blk_nil rfl | apply blk_flat rfl | apply blk_box rfl | apply blk_map rfl | apply blk_dead rfl | rfl)) ?_
        refine twp_ret ?_
        refine way_blockRet ?_
        refine way_thenRet ?_
        refine way_thenRet ?_
        refine way_blockRet ?_
        refine way_thenRet ?_
        first | (rw [hbt]; exact Ends.plain _ rfl) | (rw [hbf]; exact Ends.plain _ rfl)
      · have hxy : x = y := by simpa using hxy
        refine twp_skip ?_
        refine way_block ?_
        refine way_then ?_
        refine twp_norm [0, 1, 5] (by repeat (first | exact SubK.nil | apply sub_d rfl | apply sub_msl rfl | apply sub_mptr rfl | apply sub_agg rfl | apply sub_tup rfl | apply sub_ifc rfl | apply sub_fnc rfl | apply sub_mmap rfl | apply SubK.cons _ _ _ _ rfl)) (by repeat (first | exact blk_nil rfl | apply blk_flat rfl | apply blk_box rfl | apply blk_map rfl | apply blk_dead rfl | rfl)) ?_
        refine twp_region ?_
        refine s_rd _ rfl (by first | exact mv_d (.inl rfl) rfl | exact mv_msl (.inl rfl) rfl | exact mv_mptr (.inl rfl) rfl | exact mv_agg (.inl rfl) rfl | exact mv_tup (.inl rfl) rfl | exact mv_ifc (.inl rfl) rfl | exact mv_fnc (.inl rfl) rfl | exact mv_mmap (.inl rfl) rfl | exact rd_move (.inl rfl)) ?_
        refine s_rd _ rfl (arith_ok rfl rfl rfl rfl (by first | omega | (constructor <;> omega))) ?_
        refine s_rd _ rfl (by first | exact mv_d (.inr rfl) rfl | exact mv_msl (.inr rfl) rfl | exact mv_mptr (.inr rfl) rfl | exact mv_agg (.inr rfl) rfl | exact mv_tup (.inr rfl) rfl | exact mv_ifc (.inr rfl) rfl | exact mv_fnc (.inr rfl) rfl | exact mv_mmap (.inr rfl) rfl | exact rd_move (.inr rfl)) ?_
        refine tops_nil ?_
        refine way_then ?_
        exact ⟨(i + 1), [], by decide, fun i hi => absurd hi (Nat.not_lt_zero i), ⟨by omega, like_succ hlike (hx.trans ((congrArg some hxy).trans hy.symm))⟩, (by omega), rfl⟩
    · have hlt : ¬ i < xs.length := by simpa using hlt
      have hbt : b = true := hb.2 (like_all hlen hlike (by omega))
      refine twp_exit ?_
      refine way_thenExit ?_
      refine way_thenExit ?_
      refine way_here ?_
      refine way_then ?_
      refine twp_norm [] (by repeat (first | exact SubK.nil | apply sub_d rfl | apply sub_msl rfl | apply sub_mptr rfl | apply sub_agg rfl | apply sub_tup rfl | apply sub_ifc rfl | apply sub_fnc rfl | apply sub_mmap rfl | apply SubK.cons _ _ _ _ rfl)) (by repeat (first | exact blk_nil rfl | apply blk_flat rfl | apply blk_box rfl | apply blk_map rfl | apply blk_dead rfl | rfl)) ?_
      refine twp_rseq ?_
      refine s_rd _ rfl (by first | exact mv_d (.inr rfl) rfl | exact mv_msl (.inr rfl) rfl | exact mv_mptr (.inr rfl) rfl | exact mv_agg (.inr rfl) rfl | exact mv_tup (.inr rfl) rfl | exact mv_ifc (.inr rfl) rfl | exact mv_fnc (.inr rfl) rfl | exact mv_mmap (.inr rfl) rfl | exact rd_move (.inr rfl)) ?_
      refine tops_nil ?_
      refine twp_norm [4] (by repeat (first | exact SubK.nil | apply sub_d rfl | apply sub_msl rfl | apply sub_mptr rfl | apply sub_agg rfl | apply sub_tup rfl | apply sub_ifc rfl | apply sub_fnc rfl | apply sub_mmap rfl | apply SubK.cons _ _ _ _ rfl)) (by repeat (first | exact blk_nil rfl | apply blk_flat rfl | apply blk_box rfl | apply blk_map rfl | apply blk_dead rfl | rfl)) ?_
      refine twp_ret ?_
      first | (rw [hbt]; exact Ends.plain _ rfl) | (rw [hbf]; exact Ends.plain _ rfl)

theorem sameInts_n (xs ys : List Int) (hn : xs.length ≤ 1000000) (h : xs = ys) : RetN Try.prog 14 [.sl 1 (xs.map (D.int .i64)), .sl 1 (ys.map (D.int .i64))] (.bool true) := .lit (sameInts_ret xs ys hn true (by simp [h]) _) rfl
theorem same_n (xs ys : List Mach) (hn : xs.length ≤ 1000000) (hwx : ∀ m ∈ xs, m.wf) (hwy : ∀ m ∈ ys, m.wf) (h : xs = ys) : RetN Try.prog 9 [.sl 3 (xs.map Mach.enc), .sl 3 (ys.map Mach.enc)] (.bool true) := .lit (same_ret xs ys hn hwx hwy true (by simp [h]) _) rfl

end Go.Proofs.Ytmjgelbhflmchaa
