/- The field: its functions, walked. No condition. -/
import Derived.Test.YtmjgelbhflmchaaRows
import Derived.Test.YtmjgelbhflmchaaTlU
import Derived.KernelRfl
namespace Go.Proofs.Ytmjgelbhflmchaa
open Go Go.TL

theorem follows : Try.prog.follows .mixedOrders = true := by kernel_rfl

/-- A machine that moves points. -/
structure Mach where
  pos : Int
  goal : Int
  timer : Int

def Mach.enc (m : Mach) : D := .agg [.int .i64 m.pos, .int .i64 m.goal, .int .i64 m.timer]
instance : DecidableEq Mach := fun a b => decidable_of_iff (a.pos = b.pos ∧ a.goal = b.goal ∧ a.timer = b.timer) (by cases a; cases b; simp)
def I64 (n : Int) : Prop := -9223372036854775808 ≤ n ∧ n ≤ 9223372036854775807
def Mach.wf (m : Mach) : Prop := I64 m.pos ∧ I64 m.goal ∧ I64 m.timer
instance (n : Int) : Decidable (I64 n) := inferInstanceAs (Decidable (_ ∧ _))
instance (m : Mach) : Decidable m.wf := inferInstanceAs (Decidable (_ ∧ _))

/-- The first i elements turned, the others not yet. -/
def mix {α : Type} (f : α → α) (xs : List α) (i : Nat) : List α := (xs.take i).map f ++ xs.drop i
theorem mix_zero {α : Type} (f : α → α) (xs : List α) : mix f xs 0 = xs := by simp [mix]
theorem mix_all {α : Type} (f : α → α) (xs : List α) {i : Nat} (h : xs.length ≤ i) : mix f xs i = xs.map f := by simp [mix, List.take_of_length_le h, List.drop_eq_nil_of_le h]
theorem mix_length {α : Type} (f : α → α) (xs : List α) (i : Nat) : (mix f xs i).length = xs.length := by simp [mix]; omega
theorem mix_get {α : Type} (f : α → α) {xs : List α} {i : Nat} {x : α} (h : xs[i]? = some x) : (mix f xs i)[i]? = some x := by
  have hi : i < xs.length := (List.getElem?_eq_some_iff.1 h).1
  simp [mix, List.getElem?_append, Nat.min_eq_left (Nat.le_of_lt hi), h]
theorem mix_set {α : Type} (f : α → α) {xs : List α} {i : Nat} {x : α} (h : xs[i]? = some x) : (mix f xs i).set i (f x) = mix f xs (i + 1) := by
  have hi : i < xs.length := (List.getElem?_eq_some_iff.1 h).1
  have hx : xs[i] = x := (List.getElem?_eq_some_iff.1 h).2
  unfold mix
  rw [List.set_append_right _ _ (by simp [Nat.min_eq_left (Nat.le_of_lt hi)])]
  have h1 : xs.drop i = x :: xs.drop (i + 1) := by rw [← hx]; exact List.drop_eq_getElem_cons hi
  rw [h1]
  simp [Nat.min_eq_left (Nat.le_of_lt hi), List.take_add_one, h]
theorem mix_keep {α : Type} (f : α → α) {xs : List α} {i : Nat} {x : α} (h : xs[i]? = some x) (he : f x = x) : mix f xs i = mix f xs (i + 1) := by
  rw [← mix_set f h, he]
  apply List.ext_getElem?
  intro j
  rw [List.getElem?_set]
  split
  · rename_i e; subst e; rw [mix_get f h]; split
    · rfl
    · rename_i hl; exact absurd ((List.getElem?_eq_some_iff.1 (mix_get f h)).1) hl
  · rfl
theorem el_set {α : Type} {l : List α} {i : Nat} {x : α} (h : i < l.length) : (l.set i x)[i]? = some x := by simp [h]

/-- One step of one machine. -/
def stepM (m : Mach) : Mach := if m.timer ≤ 0 then m else if m.timer - 1 = 0 then ⟨m.goal, m.goal, m.timer - 1⟩ else ⟨m.pos, m.goal, m.timer - 1⟩

theorem callB22 : callB Try.prog 22 = true := by kernel_rfl

theorem sel22 : sel Try.prog 22 = some (39, 3, 24) := by kernel_rfl

theorem zero39 : (Try.prog.info? 39).bind (·.zero) = Option.some (Go.Value.agg #[Go.Value.int Go.IntKind.i64 0, Go.Value.int Go.IntKind.i64 0, Go.Value.int Go.IntKind.i64 0]) := by kernel_rfl

theorem duplicate_ret (ms : List Mach) (hn : ms.length ≤ 100000) (mv : Nat → Bool) : Ret Try.prog 22 [] mv ([D.sl 3 (ms.map Mach.enc)].map .d) (.msl 0 3 0 ms.length) [.flat 39 3 (ms.map Mach.enc)] := by
  refine ret_body callB22 Try.func22 rfl Try.ntmps22 rfl rfl (fun wX gX => ?_)
  refine twp_norm [0] (by repeat (first | exact SubK.nil | apply sub_d rfl | apply sub_msl rfl | apply sub_mptr rfl | apply sub_agg rfl | apply sub_tup rfl | apply sub_ifc rfl | apply sub_fnc rfl | apply sub_mmap rfl | apply SubK.cons _ _ _ _ rfl)) (by repeat (first | exact blk_nil rfl | apply blk_flat rfl | apply blk_box rfl | apply blk_map rfl | apply blk_dead rfl | rfl)) ?_
  refine twp_rseq ?_
  refine s_rd _ rfl (by first | exact mv_d (.inr rfl) rfl | exact mv_msl (.inr rfl) rfl | exact mv_mptr (.inr rfl) rfl | exact mv_agg (.inr rfl) rfl | exact mv_tup (.inr rfl) rfl | exact mv_ifc (.inr rfl) rfl | exact mv_fnc (.inr rfl) rfl | exact mv_mmap (.inr rfl) rfl | exact rd_move (.inr rfl)) ?_
  refine tops_nil ?_
  refine twp_norm [0] (by repeat (first | exact SubK.nil | apply sub_d rfl | apply sub_msl rfl | apply sub_mptr rfl | apply sub_agg rfl | apply sub_tup rfl | apply sub_ifc rfl | apply sub_fnc rfl | apply sub_mmap rfl | apply SubK.cons _ _ _ _ rfl)) (by repeat (first | exact blk_nil rfl | apply blk_flat rfl | apply blk_box rfl | apply blk_map rfl | apply blk_dead rfl | rfl)) ?_
  refine twp_rseq ?_
  refine s_rd _ rfl (by first | exact mv_d (.inl rfl) rfl | exact mv_msl (.inl rfl) rfl | exact mv_mptr (.inl rfl) rfl | exact mv_agg (.inl rfl) rfl | exact mv_tup (.inl rfl) rfl | exact mv_ifc (.inl rfl) rfl | exact mv_fnc (.inl rfl) rfl | exact mv_mmap (.inl rfl) rfl | exact rd_move (.inl rfl)) ?_
  refine s_rd _ rfl (by first | exact len_d rfl sel22 rfl (by first | exact List.length_map _ | rfl) | exact len_msl rfl sel22 rfl | exact len_nil rfl sel22 rfl) ?_
  refine s_makeSlice (n := ms.length) rfl sel22 zero39 rfl rfl rfl rfl (by omega) (by omega) ?_
  refine s_rd _ rfl (by first | exact mv_d (.inr rfl) rfl | exact mv_msl (.inr rfl) rfl | exact mv_mptr (.inr rfl) rfl | exact mv_agg (.inr rfl) rfl | exact mv_tup (.inr rfl) rfl | exact mv_ifc (.inr rfl) rfl | exact mv_fnc (.inr rfl) rfl | exact mv_mmap (.inr rfl) rfl | exact rd_move (.inr rfl)) ?_
  refine tops_nil ?_
  refine twp_norm [0, 3] (by repeat (first | exact SubK.nil | apply sub_d rfl | apply sub_msl rfl | apply sub_mptr rfl | apply sub_agg rfl | apply sub_tup rfl | apply sub_ifc rfl | apply sub_fnc rfl | apply sub_mmap rfl | apply SubK.cons _ _ _ _ rfl)) (by repeat (first | exact blk_nil rfl | apply blk_flat rfl | apply blk_box rfl | apply blk_map rfl | apply blk_dead rfl | rfl)) ?_
  refine twp_rseq ?_
  refine s_rd _ rfl (by first | exact mv_d (.inl rfl) rfl | exact mv_msl (.inl rfl) rfl | exact mv_mptr (.inl rfl) rfl | exact mv_agg (.inl rfl) rfl | exact mv_tup (.inl rfl) rfl | exact mv_ifc (.inl rfl) rfl | exact mv_fnc (.inl rfl) rfl | exact mv_mmap (.inl rfl) rfl | exact rd_move (.inl rfl)) ?_
  refine s_rd _ rfl (by first | exact mv_d (.inl rfl) rfl | exact mv_msl (.inl rfl) rfl | exact mv_mptr (.inl rfl) rfl | exact mv_agg (.inl rfl) rfl | exact mv_tup (.inl rfl) rfl | exact mv_ifc (.inl rfl) rfl | exact mv_fnc (.inl rfl) rfl | exact mv_mmap (.inl rfl) rfl | exact rd_move (.inl rfl)) ?_
  refine s_copy (es' := ms.map Mach.enc) (n := ms.length) (ds := ms.map Mach.enc) rfl sel22 rfl rfl (by simp) rfl ⟨rfl, rfl⟩ (by simp) (by simp [spl, List.take_of_length_le]) ?_
  refine tops_nil ?_
  refine twp_norm [3] (by repeat (first | exact SubK.nil | apply sub_d rfl | apply sub_msl rfl | apply sub_mptr rfl | apply sub_agg rfl | apply sub_tup rfl | apply sub_ifc rfl | apply sub_fnc rfl | apply sub_mmap rfl | apply SubK.cons _ _ _ _ rfl)) (by repeat (first | exact blk_nil rfl | apply blk_flat rfl | apply blk_box rfl | apply blk_map rfl | apply blk_dead rfl | rfl)) ?_
  refine twp_rseq ?_
  refine s_rd _ rfl (by first | exact mv_d (.inl rfl) rfl | exact mv_msl (.inl rfl) rfl | exact mv_mptr (.inl rfl) rfl | exact mv_agg (.inl rfl) rfl | exact mv_tup (.inl rfl) rfl | exact mv_ifc (.inl rfl) rfl | exact mv_fnc (.inl rfl) rfl | exact mv_mmap (.inl rfl) rfl | exact rd_move (.inl rfl)) ?_
  refine s_rd _ rfl (by first | exact mv_d (.inr rfl) rfl | exact mv_msl (.inr rfl) rfl | exact mv_mptr (.inr rfl) rfl | exact mv_agg (.inr rfl) rfl | exact mv_tup (.inr rfl) rfl | exact mv_ifc (.inr rfl) rfl | exact mv_fnc (.inr rfl) rfl | exact mv_mmap (.inr rfl) rfl | exact rd_move (.inr rfl)) ?_
  refine tops_nil ?_
  refine twp_norm [2] (by repeat (first | exact SubK.nil | apply sub_d rfl | apply sub_msl rfl | apply sub_mptr rfl | apply sub_agg rfl | apply sub_tup rfl | apply sub_ifc rfl | apply sub_fnc rfl | apply sub_mmap rfl | apply SubK.cons _ _ _ _ rfl)) (by repeat (first | exact blk_nil rfl | apply blk_flat rfl | apply blk_box rfl | apply blk_map rfl | apply blk_dead rfl | rfl)) ?_
  refine twp_ret ?_
  exact ⟨_, [0], rfl, by decide, fun i hi => absurd hi (Nat.not_lt_zero i), rfl, rfl⟩

theorem callB12 : callB Try.prog 12 = true := by kernel_rfl

theorem fld39_2 : fld Try.prog 39 2 = some 2 := by kernel_rfl

theorem lay3 : lay Try.prog 3 = some (false, 1) := by kernel_rfl

theorem fld39_1 : fld Try.prog 39 1 = some 1 := by kernel_rfl

theorem fld39_0 : fld Try.prog 39 0 = some 0 := by kernel_rfl

theorem step_ret (ms : List Mach) (hn : ms.length ≤ 100000) (hw : ∀ m ∈ ms, m.wf) (mv : Nat → Bool) : Ret Try.prog 12 [] mv ([D.sl 3 (ms.map Mach.enc)].map .d) (.msl 0 3 0 ms.length) [.flat 39 3 ((ms.map stepM).map Mach.enc)] := by
  refine ret_body callB12 Try.func12 rfl Try.ntmps12 rfl rfl (fun wX gX => ?_)
  refine twp_norm [0] (by repeat (first | exact SubK.nil | apply sub_d rfl | apply sub_msl rfl | apply sub_mptr rfl | apply sub_agg rfl | apply sub_tup rfl | apply sub_ifc rfl | apply sub_fnc rfl | apply sub_mmap rfl | apply SubK.cons _ _ _ _ rfl)) (by repeat (first | exact blk_nil rfl | apply blk_flat rfl | apply blk_box rfl | apply blk_map rfl | apply blk_dead rfl | rfl)) ?_
  refine twp_rseq ?_
  refine s_rd _ rfl (by first | exact mv_d (.inr rfl) rfl | exact mv_msl (.inr rfl) rfl | exact mv_mptr (.inr rfl) rfl | exact mv_agg (.inr rfl) rfl | exact mv_tup (.inr rfl) rfl | exact mv_ifc (.inr rfl) rfl | exact mv_fnc (.inr rfl) rfl | exact mv_mmap (.inr rfl) rfl | exact rd_move (.inr rfl)) ?_
  refine tops_nil ?_
  refine twp_norm [0] (by repeat (first | exact SubK.nil | apply sub_d rfl | apply sub_msl rfl | apply sub_mptr rfl | apply sub_agg rfl | apply sub_tup rfl | apply sub_ifc rfl | apply sub_fnc rfl | apply sub_mmap rfl | apply SubK.cons _ _ _ _ rfl)) (by repeat (first | exact blk_nil rfl | apply blk_flat rfl | apply blk_box rfl | apply blk_map rfl | apply blk_dead rfl | rfl)) ?_
  refine twp_rseq ?_
  refine s_rd _ rfl (by first | exact mv_d (.inl rfl) rfl | exact mv_msl (.inl rfl) rfl | exact mv_mptr (.inl rfl) rfl | exact mv_agg (.inl rfl) rfl | exact mv_tup (.inl rfl) rfl | exact mv_ifc (.inl rfl) rfl | exact mv_fnc (.inl rfl) rfl | exact mv_mmap (.inl rfl) rfl | exact rd_move (.inl rfl)) ?_
  refine s_callD (ds := [D.sl 3 (ms.map Mach.enc)]) rfl rfl rfl (duplicate_ret ms hn mv) rfl rfl ?_
  refine s_rd _ rfl (by first | exact mv_d (.inr rfl) rfl | exact mv_msl (.inr rfl) rfl | exact mv_mptr (.inr rfl) rfl | exact mv_agg (.inr rfl) rfl | exact mv_tup (.inr rfl) rfl | exact mv_ifc (.inr rfl) rfl | exact mv_fnc (.inr rfl) rfl | exact mv_mmap (.inr rfl) rfl | exact rd_move (.inr rfl)) ?_
  refine tops_nil ?_
  refine twp_norm [3] (by repeat (first | exact SubK.nil | apply sub_d rfl | apply sub_msl rfl | apply sub_mptr rfl | apply sub_agg rfl | apply sub_tup rfl | apply sub_ifc rfl | apply sub_fnc rfl | apply sub_mmap rfl | apply SubK.cons _ _ _ _ rfl)) (by repeat (first | exact blk_nil rfl | apply blk_flat rfl | apply blk_box rfl | apply blk_map rfl | apply blk_dead rfl | rfl)) ?_
  refine twp_seq ?_
  refine twp_rseq ?_
  refine s_rd _ rfl (by first | exact mv_d (.inl rfl) rfl | exact mv_msl (.inl rfl) rfl | exact mv_mptr (.inl rfl) rfl | exact mv_agg (.inl rfl) rfl | exact mv_tup (.inl rfl) rfl | exact mv_ifc (.inl rfl) rfl | exact mv_fnc (.inl rfl) rfl | exact mv_mmap (.inl rfl) rfl | exact rd_move (.inl rfl)) ?_
  refine s_rd _ rfl (by first | exact len_d rfl sel22 rfl (by first | exact List.length_map _ | rfl) | exact len_msl rfl sel22 rfl | exact len_nil rfl sel22 rfl) ?_
  refine s_rd _ rfl (by first | exact mv_d (.inl rfl) rfl | exact mv_msl (.inl rfl) rfl | exact mv_mptr (.inl rfl) rfl | exact mv_agg (.inl rfl) rfl | exact mv_tup (.inl rfl) rfl | exact mv_ifc (.inl rfl) rfl | exact mv_fnc (.inl rfl) rfl | exact mv_mmap (.inl rfl) rfl | exact rd_move (.inl rfl)) ?_
  refine tops_nil ?_
  refine twp_norm [3, 8, 9] (by repeat (first | exact SubK.nil | apply sub_d rfl | apply sub_msl rfl | apply sub_mptr rfl | apply sub_agg rfl | apply sub_tup rfl | apply sub_ifc rfl | apply sub_fnc rfl | apply sub_mmap rfl | apply SubK.cons _ _ _ _ rfl)) (by repeat (first | exact blk_nil rfl | apply blk_flat rfl | apply blk_box rfl | apply blk_map rfl | apply blk_dead rfl | rfl)) ?_
  refine twp_block ?_
  refine twp_while (fun i => (⟨[(3, .msl 0 3 0 ms.length), (8, .d (.int .i64 ((ms.length : Nat) : Int))), (9, .d (.int .i64 ((i : Nat) : Int)))], [.flat 39 3 ((mix stepM ms i).map Mach.enc)]⟩ : St)) (fun i => i ≤ ms.length) (fun i => ms.length - i) [3, 8, 9] [0] 0 (by decide) (fun i hi => absurd hi (Nat.not_lt_zero i)) (by simp) (by rw [mix_zero]; rfl) ?_
  rintro i hok
  refine twp_norm [3, 8, 9] (by repeat (first | exact SubK.nil | apply sub_d rfl | apply sub_msl rfl | apply sub_mptr rfl | apply sub_agg rfl | apply sub_tup rfl | apply sub_ifc rfl | apply sub_fnc rfl | apply sub_mmap rfl | apply SubK.cons _ _ _ _ rfl)) (by repeat (first | exact blk_nil rfl | apply blk_flat rfl | apply blk_box rfl | apply blk_map rfl | apply blk_dead rfl | rfl)) ?_
  refine twp_rseq ?_
  refine s_rd _ rfl (by first | exact cmp_int rfl rfl rfl rfl | exact cmp_bool rfl rfl rfl rfl) ?_
  refine tops_nil ?_
  refine twp_norm [3, 8, 9, 10] (by repeat (first | exact SubK.nil | apply sub_d rfl | apply sub_msl rfl | apply sub_mptr rfl | apply sub_agg rfl | apply sub_tup rfl | apply sub_ifc rfl | apply sub_fnc rfl | apply sub_mmap rfl | apply SubK.cons _ _ _ _ rfl)) (by repeat (first | exact blk_nil rfl | apply blk_flat rfl | apply blk_box rfl | apply blk_map rfl | apply blk_dead rfl | rfl)) ?_
  refine twp_seq ?_
  refine twp_cond _ rfl (fun hlt => ?_) (fun hlt => ?_)
  · have hlt : i < ms.length := by simpa using hlt
    obtain ⟨m, hm⟩ : ∃ m, ms[i]? = some m := ⟨_, List.getElem?_eq_getElem hlt⟩
    have hmw : m.wf := hw m (List.mem_of_getElem? hm)
    have hg := el_map (f := Mach.enc) (mix_get stepM hm)
    have hl : i < ((mix stepM ms i).map Mach.enc).length := by simpa [mix_length] using hlt
    refine twp_skip ?_
    refine way_then ?_
    refine twp_norm [3, 8, 9] (by repeat (first | exact SubK.nil | apply sub_d rfl | apply sub_msl rfl | apply sub_mptr rfl | apply sub_agg rfl | apply sub_tup rfl | apply sub_ifc rfl | apply sub_fnc rfl | apply sub_mmap rfl | apply SubK.cons _ _ _ _ rfl)) (by repeat (first | exact blk_nil rfl | apply blk_flat rfl | apply blk_box rfl | apply blk_map rfl | apply blk_dead rfl | rfl)) ?_
    refine twp_seq ?_
    refine twp_block ?_
    refine twp_rseq ?_
    refine s_rd _ rfl (by first | exact mv_d (.inl rfl) rfl | exact mv_msl (.inl rfl) rfl | exact mv_mptr (.inl rfl) rfl | exact mv_agg (.inl rfl) rfl | exact mv_tup (.inl rfl) rfl | exact mv_ifc (.inl rfl) rfl | exact mv_fnc (.inl rfl) rfl | exact mv_mmap (.inl rfl) rfl | exact rd_move (.inl rfl)) ?_
    refine s_rd _ rfl (by first | exact mv_d (.inr rfl) rfl | exact mv_msl (.inr rfl) rfl | exact mv_mptr (.inr rfl) rfl | exact mv_agg (.inr rfl) rfl | exact mv_tup (.inr rfl) rfl | exact mv_ifc (.inr rfl) rfl | exact mv_fnc (.inr rfl) rfl | exact mv_mmap (.inr rfl) rfl | exact rd_move (.inr rfl)) ?_
    refine tops_nil ?_
    refine twp_norm [3, 4, 8, 9] (by repeat (first | exact SubK.nil | apply sub_d rfl | apply sub_msl rfl | apply sub_mptr rfl | apply sub_agg rfl | apply sub_tup rfl | apply sub_ifc rfl | apply sub_fnc rfl | apply sub_mmap rfl | apply SubK.cons _ _ _ _ rfl)) (by repeat (first | exact blk_nil rfl | apply blk_flat rfl | apply blk_box rfl | apply blk_map rfl | apply blk_dead rfl | rfl)) ?_
    refine twp_seq ?_
    refine twp_rseq ?_
    refine s_rd _ rfl (by first | exact mv_d (.inl rfl) rfl | exact mv_msl (.inl rfl) rfl | exact mv_mptr (.inl rfl) rfl | exact mv_agg (.inl rfl) rfl | exact mv_tup (.inl rfl) rfl | exact mv_ifc (.inl rfl) rfl | exact mv_fnc (.inl rfl) rfl | exact mv_mmap (.inl rfl) rfl | exact rd_move (.inl rfl)) ?_
    refine s_rd _ rfl (by first | exact mv_d (.inl rfl) rfl | exact mv_msl (.inl rfl) rfl | exact mv_mptr (.inl rfl) rfl | exact mv_agg (.inl rfl) rfl | exact mv_tup (.inl rfl) rfl | exact mv_ifc (.inl rfl) rfl | exact mv_fnc (.inl rfl) rfl | exact mv_mmap (.inl rfl) rfl | exact rd_move (.inl rfl)) ?_
    refine s_rd _ rfl (by first | exact index_msl0 rfl sel22 rfl rfl (by first | assumption | omega | (simp; omega)) | exact index_sl rfl sel22 rfl rfl (by first | exact ⟨by omega, by assumption⟩ | exact idx_map (by assumption) | exact idx_id (by assumption))) ?_
    refine s_rd _ rfl (by first | exact fieldAddr_ptr rfl fld39_2 rfl rfl | exact fieldAddr_mptr rfl fld39_2 rfl rfl) ?_
    refine s_rd _ rfl (by first | exact load_ptr rfl lay3 rfl rfl | exact load_flat rfl lay3 rfl rfl (hg) rfl | exact load_box_d rfl lay3 rfl rfl rfl | exact load_box rfl lay3 rfl rfl rfl) ?_
    refine s_rd _ rfl (by first | exact cmp_int rfl rfl rfl rfl | exact cmp_bool rfl rfl rfl rfl) ?_
    refine tops_nil ?_
    refine twp_norm [3, 4, 8, 9, 17] (by repeat (first | exact SubK.nil | apply sub_d rfl | apply sub_msl rfl | apply sub_mptr rfl | apply sub_agg rfl | apply sub_tup rfl | apply sub_ifc rfl | apply sub_fnc rfl | apply sub_mmap rfl | apply SubK.cons _ _ _ _ rfl)) (by repeat (first | exact blk_nil rfl | apply blk_flat rfl | apply blk_box rfl | apply blk_map rfl | apply blk_dead rfl | rfl)) ?_
    refine twp_cond _ rfl (fun ht => ?_) (fun ht => ?_)
    · have ht : m.timer ≤ 0 := of_decide_eq_true ht
      have hE := congrArg (List.map Mach.enc) (mix_keep stepM hm (show stepM m = m by simp [stepM, ht]))
      refine twp_exit ?_
      refine way_thenExit ?_
      refine way_here ?_
      refine way_then ?_
      refine twp_norm [3, 8, 9] (by repeat (first | exact SubK.nil | apply sub_d rfl | apply sub_msl rfl | apply sub_mptr rfl | apply sub_agg rfl | apply sub_tup rfl | apply sub_ifc rfl | apply sub_fnc rfl | apply sub_mmap rfl | apply SubK.cons _ _ _ _ rfl)) (by repeat (first | exact blk_nil rfl | apply blk_flat rfl | apply blk_box rfl | apply blk_map rfl | apply blk_dead rfl | rfl)) ?_
      refine twp_region ?_
      refine s_rd _ rfl (arith_ok rfl rfl rfl rfl (by omega)) ?_
      refine s_rd _ rfl (by first | exact mv_d (.inl rfl) rfl | exact mv_msl (.inl rfl) rfl | exact mv_mptr (.inl rfl) rfl | exact mv_agg (.inl rfl) rfl | exact mv_tup (.inl rfl) rfl | exact mv_ifc (.inl rfl) rfl | exact mv_fnc (.inl rfl) rfl | exact mv_mmap (.inl rfl) rfl | exact rd_move (.inl rfl)) ?_
      refine tops_nil ?_
      refine way_then ?_
      exact ⟨(i + 1), [0], by decide, fun i hi => absurd hi (Nat.not_lt_zero i), (by omega), (by omega), (congrArg (fun es => (⟨(fun i => ([(3, .msl 0 3 0 ms.length), (8, .d (.int .i64 ((ms.length : Nat) : Int))), (9, .d (.int .i64 ((i : Nat) : Int)))] : Fr)) (i + 1), [.flat 39 3 es]⟩ : St)) hE)⟩
    · have ht : ¬ m.timer ≤ 0 := of_decide_eq_false ht
      refine twp_skip ?_
      refine way_then ?_
      refine twp_norm [3, 4, 8, 9] (by repeat (first | exact SubK.nil | apply sub_d rfl | apply sub_msl rfl | apply sub_mptr rfl | apply sub_agg rfl | apply sub_tup rfl | apply sub_ifc rfl | apply sub_fnc rfl | apply sub_mmap rfl | apply SubK.cons _ _ _ _ rfl)) (by repeat (first | exact blk_nil rfl | apply blk_flat rfl | apply blk_box rfl | apply blk_map rfl | apply blk_dead rfl | rfl)) ?_
      refine twp_rseq ?_
      refine s_rd _ rfl (by first | exact mv_d (.inl rfl) rfl | exact mv_msl (.inl rfl) rfl | exact mv_mptr (.inl rfl) rfl | exact mv_agg (.inl rfl) rfl | exact mv_tup (.inl rfl) rfl | exact mv_ifc (.inl rfl) rfl | exact mv_fnc (.inl rfl) rfl | exact mv_mmap (.inl rfl) rfl | exact rd_move (.inl rfl)) ?_
      refine s_rd _ rfl (by first | exact mv_d (.inl rfl) rfl | exact mv_msl (.inl rfl) rfl | exact mv_mptr (.inl rfl) rfl | exact mv_agg (.inl rfl) rfl | exact mv_tup (.inl rfl) rfl | exact mv_ifc (.inl rfl) rfl | exact mv_fnc (.inl rfl) rfl | exact mv_mmap (.inl rfl) rfl | exact rd_move (.inl rfl)) ?_
      refine s_rd _ rfl (by first | exact index_msl0 rfl sel22 rfl rfl (by first | assumption | omega | (simp; omega)) | exact index_sl rfl sel22 rfl rfl (by first | exact ⟨by omega, by assumption⟩ | exact idx_map (by assumption) | exact idx_id (by assumption))) ?_
      refine s_rd _ rfl (by first | exact fieldAddr_ptr rfl fld39_2 rfl rfl | exact fieldAddr_mptr rfl fld39_2 rfl rfl) ?_
      refine s_rd _ rfl (by first | exact load_ptr rfl lay3 rfl rfl | exact load_flat rfl lay3 rfl rfl (hg) rfl | exact load_box_d rfl lay3 rfl rfl rfl | exact load_box rfl lay3 rfl rfl rfl) ?_
      refine s_rd _ rfl (arith_ok rfl rfl rfl rfl (by have := hmw.2.2; unfold I64 at this; omega)) ?_
      refine s_rd _ rfl (by first | exact index_msl0 rfl sel22 rfl rfl (by first | assumption | omega | (simp; omega)) | exact index_sl rfl sel22 rfl rfl (by first | exact ⟨by omega, by assumption⟩ | exact idx_map (by assumption) | exact idx_id (by assumption))) ?_
      refine s_rd _ rfl (by first | exact fieldAddr_ptr rfl fld39_2 rfl rfl | exact fieldAddr_mptr rfl fld39_2 rfl rfl) ?_
      first
        | refine s_store_box lay3 rfl rfl rfl rfl rfl (Nat.le_of_ble_eq_true rfl) rfl ?_
        | refine s_store_flat lay3 rfl rfl rfl rfl hg (by first | exact .inl rfl | exact .inr rfl) (Nat.le_of_ble_eq_true rfl) rfl ?_
      refine tops_nil ?_
      refine twp_norm [3, 4, 8, 9] (by repeat (first | exact SubK.nil | apply sub_d rfl | apply sub_msl rfl | apply sub_mptr rfl | apply sub_agg rfl | apply sub_tup rfl | apply sub_ifc rfl | apply sub_fnc rfl | apply sub_mmap rfl | apply SubK.cons _ _ _ _ rfl)) (by repeat (first | exact blk_nil rfl | apply blk_flat rfl | apply blk_box rfl | apply blk_map rfl | apply blk_dead rfl | rfl)) ?_
      refine twp_rseq ?_
      refine s_rd _ rfl (by first | exact mv_d (.inl rfl) rfl | exact mv_msl (.inl rfl) rfl | exact mv_mptr (.inl rfl) rfl | exact mv_agg (.inl rfl) rfl | exact mv_tup (.inl rfl) rfl | exact mv_ifc (.inl rfl) rfl | exact mv_fnc (.inl rfl) rfl | exact mv_mmap (.inl rfl) rfl | exact rd_move (.inl rfl)) ?_
      refine s_rd _ rfl (by first | exact mv_d (.inl rfl) rfl | exact mv_msl (.inl rfl) rfl | exact mv_mptr (.inl rfl) rfl | exact mv_agg (.inl rfl) rfl | exact mv_tup (.inl rfl) rfl | exact mv_ifc (.inl rfl) rfl | exact mv_fnc (.inl rfl) rfl | exact mv_mmap (.inl rfl) rfl | exact rd_move (.inl rfl)) ?_
      refine s_rd _ rfl (by first | exact index_msl0 rfl sel22 rfl rfl (by first | assumption | omega | (simp; omega)) | exact index_sl rfl sel22 rfl rfl (by first | exact ⟨by omega, by assumption⟩ | exact idx_map (by assumption) | exact idx_id (by assumption))) ?_
      refine s_rd _ rfl (by first | exact fieldAddr_ptr rfl fld39_2 rfl rfl | exact fieldAddr_mptr rfl fld39_2 rfl rfl) ?_
      refine s_rd _ rfl (by first | exact load_ptr rfl lay3 rfl rfl | exact load_flat rfl lay3 rfl rfl (el_set hl) rfl | exact load_box_d rfl lay3 rfl rfl rfl | exact load_box rfl lay3 rfl rfl rfl) ?_
      refine s_rd _ rfl (by first | exact cmp_int rfl rfl rfl rfl | exact cmp_bool rfl rfl rfl rfl) ?_
      refine tops_nil ?_
      refine twp_norm [3, 4, 8, 9, 31] (by repeat (first | exact SubK.nil | apply sub_d rfl | apply sub_msl rfl | apply sub_mptr rfl | apply sub_agg rfl | apply sub_tup rfl | apply sub_ifc rfl | apply sub_fnc rfl | apply sub_mmap rfl | apply SubK.cons _ _ _ _ rfl)) (by repeat (first | exact blk_nil rfl | apply blk_flat rfl | apply blk_box rfl | apply blk_map rfl | apply blk_dead rfl | rfl)) ?_
      refine twp_cond _ rfl (fun hz => ?_) (fun hz => ?_)
      · have hz : m.timer - 1 = 0 := of_decide_eq_true hz
        have hE : (((mix stepM ms i).map Mach.enc).set i (Mach.enc ⟨m.pos, m.goal, m.timer - 1⟩)).set i (Mach.enc ⟨m.goal, m.goal, m.timer - 1⟩) = (mix stepM ms (i + 1)).map Mach.enc := by rw [List.set_set, ← mix_set stepM hm, List.map_set]; simp [stepM, ht, hz]
        refine twp_region ?_
        refine s_rd _ rfl (by first | exact mv_d (.inl rfl) rfl | exact mv_msl (.inl rfl) rfl | exact mv_mptr (.inl rfl) rfl | exact mv_agg (.inl rfl) rfl | exact mv_tup (.inl rfl) rfl | exact mv_ifc (.inl rfl) rfl | exact mv_fnc (.inl rfl) rfl | exact mv_mmap (.inl rfl) rfl | exact rd_move (.inl rfl)) ?_
        refine s_rd _ rfl (by first | exact mv_d (.inl rfl) rfl | exact mv_msl (.inl rfl) rfl | exact mv_mptr (.inl rfl) rfl | exact mv_agg (.inl rfl) rfl | exact mv_tup (.inl rfl) rfl | exact mv_ifc (.inl rfl) rfl | exact mv_fnc (.inl rfl) rfl | exact mv_mmap (.inl rfl) rfl | exact rd_move (.inl rfl)) ?_
        refine s_rd _ rfl (by first | exact mv_d (.inl rfl) rfl | exact mv_msl (.inl rfl) rfl | exact mv_mptr (.inl rfl) rfl | exact mv_agg (.inl rfl) rfl | exact mv_tup (.inl rfl) rfl | exact mv_ifc (.inl rfl) rfl | exact mv_fnc (.inl rfl) rfl | exact mv_mmap (.inl rfl) rfl | exact rd_move (.inl rfl)) ?_
        refine s_rd _ rfl (by first | exact mv_d (.inl rfl) rfl | exact mv_msl (.inl rfl) rfl | exact mv_mptr (.inl rfl) rfl | exact mv_agg (.inl rfl) rfl | exact mv_tup (.inl rfl) rfl | exact mv_ifc (.inl rfl) rfl | exact mv_fnc (.inl rfl) rfl | exact mv_mmap (.inl rfl) rfl | exact rd_move (.inl rfl)) ?_
        refine s_rd _ rfl (by first | exact index_msl0 rfl sel22 rfl rfl (by first | assumption | omega | (simp; omega)) | exact index_sl rfl sel22 rfl rfl (by first | exact ⟨by omega, by assumption⟩ | exact idx_map (by assumption) | exact idx_id (by assumption))) ?_
        refine s_rd _ rfl (by first | exact fieldAddr_ptr rfl fld39_1 rfl rfl | exact fieldAddr_mptr rfl fld39_1 rfl rfl) ?_
        refine s_rd _ rfl (by first | exact load_ptr rfl lay3 rfl rfl | exact load_flat rfl lay3 rfl rfl (el_set hl) rfl | exact load_box_d rfl lay3 rfl rfl rfl | exact load_box rfl lay3 rfl rfl rfl) ?_
        refine s_rd _ rfl (by first | exact index_msl0 rfl sel22 rfl rfl (by first | assumption | omega | (simp; omega)) | exact index_sl rfl sel22 rfl rfl (by first | exact ⟨by omega, by assumption⟩ | exact idx_map (by assumption) | exact idx_id (by assumption))) ?_
        refine s_rd _ rfl (by first | exact fieldAddr_ptr rfl fld39_0 rfl rfl | exact fieldAddr_mptr rfl fld39_0 rfl rfl) ?_
        first
          | refine s_store_box lay3 rfl rfl rfl rfl rfl (Nat.le_of_ble_eq_true rfl) rfl ?_
          | refine s_store_flat lay3 rfl rfl rfl rfl (el_set hl) (by first | exact .inl rfl | exact .inr rfl) (Nat.le_of_ble_eq_true rfl) rfl ?_
        refine tops_nil ?_
        refine way_block ?_
        refine way_then ?_
        refine twp_norm [3, 8, 9] (by repeat (first | exact SubK.nil | apply sub_d rfl | apply sub_msl rfl | apply sub_mptr rfl | apply sub_agg rfl | apply sub_tup rfl | apply sub_ifc rfl | apply sub_fnc rfl | apply sub_mmap rfl | apply SubK.cons _ _ _ _ rfl)) (by repeat (first | exact blk_nil rfl | apply blk_flat rfl | apply blk_box rfl | apply blk_map rfl | apply blk_dead rfl | rfl)) ?_
        refine twp_region ?_
        refine s_rd _ rfl (arith_ok rfl rfl rfl rfl (by omega)) ?_
        refine s_rd _ rfl (by first | exact mv_d (.inl rfl) rfl | exact mv_msl (.inl rfl) rfl | exact mv_mptr (.inl rfl) rfl | exact mv_agg (.inl rfl) rfl | exact mv_tup (.inl rfl) rfl | exact mv_ifc (.inl rfl) rfl | exact mv_fnc (.inl rfl) rfl | exact mv_mmap (.inl rfl) rfl | exact rd_move (.inl rfl)) ?_
        refine tops_nil ?_
        refine way_then ?_
        exact ⟨(i + 1), [0], by decide, fun i hi => absurd hi (Nat.not_lt_zero i), (by omega), (by omega), (congrArg (fun es => (⟨(fun i => ([(3, .msl 0 3 0 ms.length), (8, .d (.int .i64 ((ms.length : Nat) : Int))), (9, .d (.int .i64 ((i : Nat) : Int)))] : Fr)) (i + 1), [.flat 39 3 es]⟩ : St)) hE)⟩
      · have hz : ¬ m.timer - 1 = 0 := of_decide_eq_false hz
        have hE : ((mix stepM ms i).map Mach.enc).set i (Mach.enc ⟨m.pos, m.goal, m.timer - 1⟩) = (mix stepM ms (i + 1)).map Mach.enc := by rw [← mix_set stepM hm, List.map_set]; simp [stepM, ht, hz]
        refine twp_skip ?_
        refine way_block ?_
        refine way_then ?_
        refine twp_norm [3, 8, 9] (by repeat (first | exact SubK.nil | apply sub_d rfl | apply sub_msl rfl | apply sub_mptr rfl | apply sub_agg rfl | apply sub_tup rfl | apply sub_ifc rfl | apply sub_fnc rfl | apply sub_mmap rfl | apply SubK.cons _ _ _ _ rfl)) (by repeat (first | exact blk_nil rfl | apply blk_flat rfl | apply blk_box rfl | apply blk_map rfl | apply blk_dead rfl | rfl)) ?_
        refine twp_region ?_
        refine s_rd _ rfl (arith_ok rfl rfl rfl rfl (by omega)) ?_
        refine s_rd _ rfl (by first | exact mv_d (.inl rfl) rfl | exact mv_msl (.inl rfl) rfl | exact mv_mptr (.inl rfl) rfl | exact mv_agg (.inl rfl) rfl | exact mv_tup (.inl rfl) rfl | exact mv_ifc (.inl rfl) rfl | exact mv_fnc (.inl rfl) rfl | exact mv_mmap (.inl rfl) rfl | exact rd_move (.inl rfl)) ?_
        refine tops_nil ?_
        refine way_then ?_
        exact ⟨(i + 1), [0], by decide, fun i hi => absurd hi (Nat.not_lt_zero i), (by omega), (by omega), (congrArg (fun es => (⟨(fun i => ([(3, .msl 0 3 0 ms.length), (8, .d (.int .i64 ((ms.length : Nat) : Int))), (9, .d (.int .i64 ((i : Nat) : Int)))] : Fr)) (i + 1), [.flat 39 3 es]⟩ : St)) hE)⟩
  · have hlt : ¬ i < ms.length := by simpa using hlt
    have hi : ms.length ≤ i := by omega
    refine twp_exit ?_
    refine way_thenExit ?_
    refine way_thenExit ?_
    refine way_here ?_
    refine way_then ?_
    refine twp_norm [3] (by repeat (first | exact SubK.nil | apply sub_d rfl | apply sub_msl rfl | apply sub_mptr rfl | apply sub_agg rfl | apply sub_tup rfl | apply sub_ifc rfl | apply sub_fnc rfl | apply sub_mmap rfl | apply SubK.cons _ _ _ _ rfl)) (by repeat (first | exact blk_nil rfl | apply blk_flat rfl | apply blk_box rfl | apply blk_map rfl | apply blk_dead rfl | rfl)) ?_
    refine twp_rseq ?_
    refine s_rd _ rfl (by first | exact mv_d (.inl rfl) rfl | exact mv_msl (.inl rfl) rfl | exact mv_mptr (.inl rfl) rfl | exact mv_agg (.inl rfl) rfl | exact mv_tup (.inl rfl) rfl | exact mv_ifc (.inl rfl) rfl | exact mv_fnc (.inl rfl) rfl | exact mv_mmap (.inl rfl) rfl | exact rd_move (.inl rfl)) ?_
    refine s_rd _ rfl (by first | exact mv_d (.inr rfl) rfl | exact mv_msl (.inr rfl) rfl | exact mv_mptr (.inr rfl) rfl | exact mv_agg (.inr rfl) rfl | exact mv_tup (.inr rfl) rfl | exact mv_ifc (.inr rfl) rfl | exact mv_fnc (.inr rfl) rfl | exact mv_mmap (.inr rfl) rfl | exact rd_move (.inr rfl)) ?_
    refine tops_nil ?_
    refine twp_norm [2] (by repeat (first | exact SubK.nil | apply sub_d rfl | apply sub_msl rfl | apply sub_mptr rfl | apply sub_agg rfl | apply sub_tup rfl | apply sub_ifc rfl | apply sub_fnc rfl | apply sub_mmap rfl | apply SubK.cons _ _ _ _ rfl)) (by repeat (first | exact blk_nil rfl | apply blk_flat rfl | apply blk_box rfl | apply blk_map rfl | apply blk_dead rfl | rfl)) ?_
    refine twp_ret ?_
    exact ⟨_, [0], rfl, by decide, fun i hi => absurd hi (Nat.not_lt_zero i), rfl, by rw [mix_all stepM ms hi]; rfl⟩

theorem mem0_map (xs : List Mach) : ∀ e ∈ xs.map Mach.enc, D.mem0 e = true := fun e he => by
  simp only [List.mem_map] at he
  obtain ⟨m, _, rfl⟩ := he
  rfl
theorem mem0_ints (xs : List Int) : ∀ e ∈ xs.map (D.int .i64), D.mem0 e = true := fun e he => by
  simp only [List.mem_map] at he
  obtain ⟨m, _, rfl⟩ := he
  rfl

theorem step_n (ms : List Mach) (hn : ms.length ≤ 100000) (hw : ∀ m ∈ ms, m.wf) : RetN Try.prog 12 [.sl 3 (ms.map Mach.enc)] (.sl 3 ((ms.map stepM).map Mach.enc)) :=
  .flat (step_ret ms hn hw _) (by simp) (mem0_map _)

/-- What was made of the first i elements. -/
def pre {α β : Type} (f : Nat → α → β) (xs : List α) (i : Nat) : List β := (xs.take i).mapIdx f
theorem pre_zero {α β : Type} (f : Nat → α → β) (xs : List α) : pre f xs 0 = [] := by simp [pre]
theorem pre_all {α β : Type} (f : Nat → α → β) (xs : List α) {i : Nat} (h : xs.length ≤ i) : pre f xs i = xs.mapIdx f := by simp [pre, List.take_of_length_le h]
theorem pre_length {α β : Type} (f : Nat → α → β) (xs : List α) {i : Nat} (h : i ≤ xs.length) : (pre f xs i).length = i := by simp [pre]; omega
theorem pre_succ {α β : Type} (f : Nat → α → β) {xs : List α} {i : Nat} {x : α} (h : xs[i]? = some x) : pre f xs (i + 1) = pre f xs i ++ [f i x] := by
  have hi : i < xs.length := (List.getElem?_eq_some_iff.1 h).1
  simp [pre, List.take_add_one, h, List.mapIdx_append, Nat.min_eq_left (Nat.le_of_lt hi)]
theorem pre_snoc {α β : Type} (f : Nat → α → β) (e : β → D) {xs : List α} {i : Nat} {x : α} (h : xs[i]? = some x) : (pre f xs i).map e ++ [e (f i x)] = (pre f xs (i + 1)).map e := by rw [pre_succ f h]; simp
theorem mapIdx_const {α β : Type} (f : α → β) (xs : List α) : xs.mapIdx (fun _ x => f x) = xs.map f := by
  apply List.ext_getElem? ; intro i; simp

theorem callB15 : callB Try.prog 15 = true := by kernel_rfl

theorem lay39 : lay Try.prog 39 = some (true, 3) := by kernel_rfl

theorem sel23 : sel Try.prog 23 = some (3, 1, 8) := by kernel_rfl

theorem zero3 : (Try.prog.info? 3).bind (·.zero) = Option.some (Go.Value.int Go.IntKind.i64 0) := by kernel_rfl

theorem detected_ret (ms : List Mach) (hn : ms.length ≤ 100000) (mv : Nat → Bool) : Ret Try.prog 15 [] mv ([D.sl 3 (ms.map Mach.enc)].map .d) (.msl 0 1 0 ms.length) [.flat 3 1 ((ms.mapIdx (fun _ m => m.pos)).map (D.int .i64))] := by
  refine ret_body callB15 Try.func15 rfl Try.ntmps15 rfl rfl (fun wX gX => ?_)
  refine twp_norm [0] (by repeat (first | exact SubK.nil | apply sub_d rfl | apply sub_msl rfl | apply sub_mptr rfl | apply sub_agg rfl | apply sub_tup rfl | apply sub_ifc rfl | apply sub_fnc rfl | apply sub_mmap rfl | apply SubK.cons _ _ _ _ rfl)) (by repeat (first | exact blk_nil rfl | apply blk_flat rfl | apply blk_box rfl | apply blk_map rfl | apply blk_dead rfl | rfl)) ?_
  refine twp_rseq ?_
  refine s_rd _ rfl (by first | exact mv_d (.inr rfl) rfl | exact mv_msl (.inr rfl) rfl | exact mv_mptr (.inr rfl) rfl | exact mv_agg (.inr rfl) rfl | exact mv_tup (.inr rfl) rfl | exact mv_ifc (.inr rfl) rfl | exact mv_fnc (.inr rfl) rfl | exact mv_mmap (.inr rfl) rfl | exact rd_move (.inr rfl)) ?_
  refine tops_nil ?_
  refine twp_norm [0] (by repeat (first | exact SubK.nil | apply sub_d rfl | apply sub_msl rfl | apply sub_mptr rfl | apply sub_agg rfl | apply sub_tup rfl | apply sub_ifc rfl | apply sub_fnc rfl | apply sub_mmap rfl | apply SubK.cons _ _ _ _ rfl)) (by repeat (first | exact blk_nil rfl | apply blk_flat rfl | apply blk_box rfl | apply blk_map rfl | apply blk_dead rfl | rfl)) ?_
  refine twp_rseq ?_
  refine s_assignNil 3 1 rfl rfl ?_
  refine tops_nil ?_
  refine twp_norm [0, 3] (by repeat (first | exact SubK.nil | apply sub_d rfl | apply sub_msl rfl | apply sub_mptr rfl | apply sub_agg rfl | apply sub_tup rfl | apply sub_ifc rfl | apply sub_fnc rfl | apply sub_mmap rfl | apply SubK.cons _ _ _ _ rfl)) (by repeat (first | exact blk_nil rfl | apply blk_flat rfl | apply blk_box rfl | apply blk_map rfl | apply blk_dead rfl | rfl)) ?_
  refine twp_seq ?_
  refine twp_rseq ?_
  refine s_rd _ rfl (by first | exact mv_d (.inl rfl) rfl | exact mv_msl (.inl rfl) rfl | exact mv_mptr (.inl rfl) rfl | exact mv_agg (.inl rfl) rfl | exact mv_tup (.inl rfl) rfl | exact mv_ifc (.inl rfl) rfl | exact mv_fnc (.inl rfl) rfl | exact mv_mmap (.inl rfl) rfl | exact rd_move (.inl rfl)) ?_
  refine s_rd _ rfl (by first | exact len_d rfl sel22 rfl (by first | exact List.length_map _ | rfl) | exact len_msl rfl sel22 rfl | exact len_nil rfl sel22 rfl) ?_
  refine s_rd _ rfl (by first | exact mv_d (.inl rfl) rfl | exact mv_msl (.inl rfl) rfl | exact mv_mptr (.inl rfl) rfl | exact mv_agg (.inl rfl) rfl | exact mv_tup (.inl rfl) rfl | exact mv_ifc (.inl rfl) rfl | exact mv_fnc (.inl rfl) rfl | exact mv_mmap (.inl rfl) rfl | exact rd_move (.inl rfl)) ?_
  refine tops_nil ?_
  refine twp_norm [3, 6, 7, 8] (by repeat (first | exact SubK.nil | apply sub_d rfl | apply sub_msl rfl | apply sub_mptr rfl | apply sub_agg rfl | apply sub_tup rfl | apply sub_ifc rfl | apply sub_fnc rfl | apply sub_mmap rfl | apply SubK.cons _ _ _ _ rfl)) (by repeat (first | exact blk_nil rfl | apply blk_flat rfl | apply blk_box rfl | apply blk_map rfl | apply blk_dead rfl | rfl)) ?_
  refine twp_block ?_
  refine twp_while (fun i => (⟨[(3, .msl 0 1 0 i), (6, .d (.sl 3 (ms.map Mach.enc))), (7, .d (.int .i64 ((ms.length : Nat) : Int))), (8, .d (.int .i64 ((i : Nat) : Int)))], [.flat 3 1 ((pre (fun _ m => m.pos) ms i).map (D.int .i64))]⟩ : St)) (fun i => i ≤ ms.length) (fun i => ms.length - i) [3, 6, 7, 8] [0] 0 (by decide) (fun i hi => absurd hi (Nat.not_lt_zero i)) (by simp) rfl ?_
  rintro i hok
  refine twp_norm [3, 6, 7, 8] (by repeat (first | exact SubK.nil | apply sub_d rfl | apply sub_msl rfl | apply sub_mptr rfl | apply sub_agg rfl | apply sub_tup rfl | apply sub_ifc rfl | apply sub_fnc rfl | apply sub_mmap rfl | apply SubK.cons _ _ _ _ rfl)) (by repeat (first | exact blk_nil rfl | apply blk_flat rfl | apply blk_box rfl | apply blk_map rfl | apply blk_dead rfl | rfl)) ?_
  refine twp_rseq ?_
  refine s_rd _ rfl (by first | exact cmp_int rfl rfl rfl rfl | exact cmp_bool rfl rfl rfl rfl) ?_
  refine tops_nil ?_
  refine twp_norm [3, 6, 7, 8, 9] (by repeat (first | exact SubK.nil | apply sub_d rfl | apply sub_msl rfl | apply sub_mptr rfl | apply sub_agg rfl | apply sub_tup rfl | apply sub_ifc rfl | apply sub_fnc rfl | apply sub_mmap rfl | apply SubK.cons _ _ _ _ rfl)) (by repeat (first | exact blk_nil rfl | apply blk_flat rfl | apply blk_box rfl | apply blk_map rfl | apply blk_dead rfl | rfl)) ?_
  refine twp_seq ?_
  refine twp_cond _ rfl (fun hlt => ?_) (fun hlt => ?_)
  · have hlt : i < ms.length := by simpa using hlt
    obtain ⟨m, hm⟩ : ∃ m, ms[i]? = some m := ⟨_, List.getElem?_eq_getElem hlt⟩
    refine twp_skip ?_
    refine way_then ?_
    refine twp_norm [3, 6, 7, 8] (by repeat (first | exact SubK.nil | apply sub_d rfl | apply sub_msl rfl | apply sub_mptr rfl | apply sub_agg rfl | apply sub_tup rfl | apply sub_ifc rfl | apply sub_fnc rfl | apply sub_mmap rfl | apply SubK.cons _ _ _ _ rfl)) (by repeat (first | exact blk_nil rfl | apply blk_flat rfl | apply blk_box rfl | apply blk_map rfl | apply blk_dead rfl | rfl)) ?_
    refine twp_seq ?_
    refine twp_block ?_
    refine twp_rseq ?_
    refine s_rd _ rfl (by first | exact index_msl0 rfl sel22 rfl rfl (by first | assumption | omega | (simp; omega)) | exact index_sl rfl sel22 rfl rfl (by first | exact ⟨by omega, by assumption⟩ | exact idx_map (by assumption) | exact idx_id (by assumption))) ?_
    refine s_rd _ rfl (by first | exact load_ptrW rfl lay39 rfl rfl rfl | exact load_flatW rfl lay39 rfl rfl (by first | rfl | assumption | (simp only [List.getElem?_map, Option.map_some, *]; done)) rfl rfl | exact load_boxA_d rfl lay39 rfl rfl (Nat.le_of_ble_eq_true rfl) rfl | exact load_boxA rfl lay39 rfl rfl (Nat.le_of_ble_eq_true rfl) rfl | exact load_ptrA rfl lay39 rfl (Nat.le_of_ble_eq_true rfl) rfl) ?_
    refine s_alloc rfl zero39 rfl rfl ?_
    first
      | refine s_store_box lay39 rfl rfl rfl rfl rfl (Nat.le_of_ble_eq_true rfl) rfl ?_
      | refine s_store_flat lay39 rfl rfl rfl rfl (by first | rfl | assumption | (simp only [List.getElem?_map, Option.map_some, *]; done)) (by first | exact .inl rfl | exact .inr rfl) (Nat.le_of_ble_eq_true rfl) rfl ?_
    refine tops_nil ?_
    refine twp_norm [3, 5, 6, 7, 8] (by repeat (first | exact SubK.nil | apply sub_d rfl | apply sub_msl rfl | apply sub_mptr rfl | apply sub_agg rfl | apply sub_tup rfl | apply sub_ifc rfl | apply sub_fnc rfl | apply sub_mmap rfl | apply SubK.cons _ _ _ _ rfl)) (by repeat (first | exact blk_nil rfl | apply blk_flat rfl | apply blk_box rfl | apply blk_map rfl | apply blk_dead rfl | rfl)) ?_
    refine twp_region ?_
    refine s_rd _ rfl (by first | exact mv_d (.inl rfl) rfl | exact mv_msl (.inl rfl) rfl | exact mv_mptr (.inl rfl) rfl | exact mv_agg (.inl rfl) rfl | exact mv_tup (.inl rfl) rfl | exact mv_ifc (.inl rfl) rfl | exact mv_fnc (.inl rfl) rfl | exact mv_mmap (.inl rfl) rfl | exact rd_move (.inl rfl)) ?_
    refine s_rd _ rfl (by first | exact fieldAddr_ptr rfl fld39_0 rfl rfl | exact fieldAddr_mptr rfl fld39_0 rfl rfl) ?_
    refine s_rd _ rfl (by first | exact load_ptr rfl lay3 rfl rfl | exact load_flat rfl lay3 rfl rfl (by first | rfl | assumption | (simp only [List.getElem?_map, Option.map_some, *]; done)) rfl | exact load_box_d rfl lay3 rfl rfl rfl | exact load_box rfl lay3 rfl rfl rfl) ?_
    refine s_litD [.tmp 14] rfl sel23 zero3 rfl rfl rfl rfl rfl ?_
    refine s_push rfl sel23 zero3 rfl rfl rfl (fun h => absurd h (Nat.not_lt_zero _)) rfl rfl (by simp [pre_length _ _ (Nat.le_of_lt hlt)]) (pre_snoc _ _ hm) (by omega) ?_
    refine s_rd _ rfl (by first | exact mv_d (.inr rfl) rfl | exact mv_msl (.inr rfl) rfl | exact mv_mptr (.inr rfl) rfl | exact mv_agg (.inr rfl) rfl | exact mv_tup (.inr rfl) rfl | exact mv_ifc (.inr rfl) rfl | exact mv_fnc (.inr rfl) rfl | exact mv_mmap (.inr rfl) rfl | exact rd_move (.inr rfl)) ?_
    refine tops_nil ?_
    refine way_block ?_
    refine way_then ?_
    refine twp_norm [3, 6, 7, 8] (by repeat (first | exact SubK.nil | apply sub_d rfl | apply sub_msl rfl | apply sub_mptr rfl | apply sub_agg rfl | apply sub_tup rfl | apply sub_ifc rfl | apply sub_fnc rfl | apply sub_mmap rfl | apply SubK.cons _ _ _ _ rfl)) (by repeat (first | exact blk_nil rfl | apply blk_flat rfl | apply blk_box rfl | apply blk_map rfl | apply blk_dead rfl | rfl)) ?_
    refine twp_region ?_
    refine s_rd _ rfl (arith_ok rfl rfl rfl rfl (by first | omega | (constructor <;> omega))) ?_
    refine s_rd _ rfl (by first | exact mv_d (.inl rfl) rfl | exact mv_msl (.inl rfl) rfl | exact mv_mptr (.inl rfl) rfl | exact mv_agg (.inl rfl) rfl | exact mv_tup (.inl rfl) rfl | exact mv_ifc (.inl rfl) rfl | exact mv_fnc (.inl rfl) rfl | exact mv_mmap (.inl rfl) rfl | exact rd_move (.inl rfl)) ?_
    refine tops_nil ?_
    refine way_then ?_
    exact ⟨(i + 1), [0], by decide, fun i hi => absurd hi (Nat.not_lt_zero i), (by omega), (by omega), rfl⟩
  · have hlt : ¬ i < ms.length := by simpa using hlt
    have hi : i = ms.length := by omega
    refine twp_exit ?_
    refine way_thenExit ?_
    refine way_thenExit ?_
    refine way_here ?_
    refine way_then ?_
    refine twp_norm [3] (by repeat (first | exact SubK.nil | apply sub_d rfl | apply sub_msl rfl | apply sub_mptr rfl | apply sub_agg rfl | apply sub_tup rfl | apply sub_ifc rfl | apply sub_fnc rfl | apply sub_mmap rfl | apply SubK.cons _ _ _ _ rfl)) (by repeat (first | exact blk_nil rfl | apply blk_flat rfl | apply blk_box rfl | apply blk_map rfl | apply blk_dead rfl | rfl)) ?_
    refine twp_rseq ?_
    refine s_rd _ rfl (by first | exact mv_d (.inl rfl) rfl | exact mv_msl (.inl rfl) rfl | exact mv_mptr (.inl rfl) rfl | exact mv_agg (.inl rfl) rfl | exact mv_tup (.inl rfl) rfl | exact mv_ifc (.inl rfl) rfl | exact mv_fnc (.inl rfl) rfl | exact mv_mmap (.inl rfl) rfl | exact rd_move (.inl rfl)) ?_
    refine s_rd _ rfl (by first | exact mv_d (.inr rfl) rfl | exact mv_msl (.inr rfl) rfl | exact mv_mptr (.inr rfl) rfl | exact mv_agg (.inr rfl) rfl | exact mv_tup (.inr rfl) rfl | exact mv_ifc (.inr rfl) rfl | exact mv_fnc (.inr rfl) rfl | exact mv_mmap (.inr rfl) rfl | exact rd_move (.inr rfl)) ?_
    refine tops_nil ?_
    refine twp_norm [2] (by repeat (first | exact SubK.nil | apply sub_d rfl | apply sub_msl rfl | apply sub_mptr rfl | apply sub_agg rfl | apply sub_tup rfl | apply sub_ifc rfl | apply sub_fnc rfl | apply sub_mmap rfl | apply SubK.cons _ _ _ _ rfl)) (by repeat (first | exact blk_nil rfl | apply blk_flat rfl | apply blk_box rfl | apply blk_map rfl | apply blk_dead rfl | rfl)) ?_
    refine twp_ret ?_
    exact ⟨_, [0], rfl, by decide, fun i hi => absurd hi (Nat.not_lt_zero i), by rw [hi]; rfl, by rw [pre_all _ ms (Nat.le_of_eq hi.symm)]; rfl⟩

theorem detected_n (ms : List Mach) (hn : ms.length ≤ 100000) : RetN Try.prog 15 [.sl 3 (ms.map Mach.enc)] (.sl 1 ((ms.map Mach.pos).map (D.int .i64))) := by
  have h := (detected_ret ms hn (fun _ => false))
  rw [mapIdx_const] at h
  exact .flat h (by simp) (mem0_ints _)
theorem pre_snoc' {α β : Type} (f : Nat → α → β) (e : β → D) {xs : List α} {i : Nat} {x : α} {c : D} (h : xs[i]? = some x) (hc : e (f i x) = c) : (pre f xs i).map e ++ [c] = (pre f xs (i + 1)).map e := by rw [← hc, pre_snoc f e h]

theorem callB16 : callB Try.prog 16 = true := by kernel_rfl

theorem detectedR_ret (ms : List Mach) (hn : ms.length ≤ 100000) (mv : Nat → Bool) : Ret Try.prog 16 [] mv ([D.sl 3 (ms.map Mach.enc)].map .d) (.msl 0 1 0 ms.length) [.flat 3 1 ((ms.mapIdx (fun _ m => m.pos)).map (D.int .i64))] := by
  refine ret_body callB16 Try.func16 rfl Try.ntmps16 rfl rfl (fun wX gX => ?_)
  refine twp_norm [0] (by repeat (first | exact SubK.nil | apply sub_d rfl | apply sub_msl rfl | apply sub_mptr rfl | apply sub_agg rfl | apply sub_tup rfl | apply sub_ifc rfl | apply sub_fnc rfl | apply sub_mmap rfl | apply SubK.cons _ _ _ _ rfl)) (by repeat (first | exact blk_nil rfl | apply blk_flat rfl | apply blk_box rfl | apply blk_map rfl | apply blk_dead rfl | rfl)) ?_
  refine twp_rseq ?_
  refine s_rd _ rfl (by first | exact mv_d (.inr rfl) rfl | exact mv_msl (.inr rfl) rfl | exact mv_mptr (.inr rfl) rfl | exact mv_agg (.inr rfl) rfl | exact mv_tup (.inr rfl) rfl | exact mv_ifc (.inr rfl) rfl | exact mv_fnc (.inr rfl) rfl | exact mv_mmap (.inr rfl) rfl | exact rd_move (.inr rfl)) ?_
  refine tops_nil ?_
  refine twp_norm [0] (by repeat (first | exact SubK.nil | apply sub_d rfl | apply sub_msl rfl | apply sub_mptr rfl | apply sub_agg rfl | apply sub_tup rfl | apply sub_ifc rfl | apply sub_fnc rfl | apply sub_mmap rfl | apply SubK.cons _ _ _ _ rfl)) (by repeat (first | exact blk_nil rfl | apply blk_flat rfl | apply blk_box rfl | apply blk_map rfl | apply blk_dead rfl | rfl)) ?_
  refine twp_rseq ?_
  refine s_assignNil 3 1 rfl rfl ?_
  refine tops_nil ?_
  refine twp_norm [0, 3] (by repeat (first | exact SubK.nil | apply sub_d rfl | apply sub_msl rfl | apply sub_mptr rfl | apply sub_agg rfl | apply sub_tup rfl | apply sub_ifc rfl | apply sub_fnc rfl | apply sub_mmap rfl | apply SubK.cons _ _ _ _ rfl)) (by repeat (first | exact blk_nil rfl | apply blk_flat rfl | apply blk_box rfl | apply blk_map rfl | apply blk_dead rfl | rfl)) ?_
  refine twp_seq ?_
  refine twp_rseq ?_
  refine s_rd _ rfl (by first | exact mv_d (.inr rfl) rfl | exact mv_msl (.inr rfl) rfl | exact mv_mptr (.inr rfl) rfl | exact mv_agg (.inr rfl) rfl | exact mv_tup (.inr rfl) rfl | exact mv_ifc (.inr rfl) rfl | exact mv_fnc (.inr rfl) rfl | exact mv_mmap (.inr rfl) rfl | exact rd_move (.inr rfl)) ?_
  refine tops_nil ?_
  refine twp_norm [0, 3, 4] (by repeat (first | exact SubK.nil | apply sub_d rfl | apply sub_msl rfl | apply sub_mptr rfl | apply sub_agg rfl | apply sub_tup rfl | apply sub_ifc rfl | apply sub_fnc rfl | apply sub_mmap rfl | apply SubK.cons _ _ _ _ rfl)) (by repeat (first | exact blk_nil rfl | apply blk_flat rfl | apply blk_box rfl | apply blk_map rfl | apply blk_dead rfl | rfl)) ?_
  refine twp_block ?_
  refine twp_while (fun i => (⟨[(0, .d (.sl 3 (ms.map Mach.enc))), (3, .msl 0 1 0 i), (4, .d (.int .i64 ((i : Nat) : Int)))], [.flat 3 1 ((pre (fun _ m => m.pos) ms i).map (D.int .i64))]⟩ : St)) (fun i => i ≤ ms.length) (fun i => ms.length - i) [0, 3, 4] [0] 0 (by decide) (fun i hi => absurd hi (Nat.not_lt_zero i)) (by simp) rfl ?_
  rintro i hok
  refine twp_norm [0, 3, 4] (by repeat (first | exact SubK.nil | apply sub_d rfl | apply sub_msl rfl | apply sub_mptr rfl | apply sub_agg rfl | apply sub_tup rfl | apply sub_ifc rfl | apply sub_fnc rfl | apply sub_mmap rfl | apply SubK.cons _ _ _ _ rfl)) (by repeat (first | exact blk_nil rfl | apply blk_flat rfl | apply blk_box rfl | apply blk_map rfl | apply blk_dead rfl | rfl)) ?_
  refine twp_seq ?_
  refine twp_rseq ?_
  refine s_rd _ rfl (by first | exact mv_d (.inl rfl) rfl | exact mv_msl (.inl rfl) rfl | exact mv_mptr (.inl rfl) rfl | exact mv_agg (.inl rfl) rfl | exact mv_tup (.inl rfl) rfl | exact mv_ifc (.inl rfl) rfl | exact mv_fnc (.inl rfl) rfl | exact mv_mmap (.inl rfl) rfl | exact rd_move (.inl rfl)) ?_
  refine s_rd _ rfl (by first | exact mv_d (.inl rfl) rfl | exact mv_msl (.inl rfl) rfl | exact mv_mptr (.inl rfl) rfl | exact mv_agg (.inl rfl) rfl | exact mv_tup (.inl rfl) rfl | exact mv_ifc (.inl rfl) rfl | exact mv_fnc (.inl rfl) rfl | exact mv_mmap (.inl rfl) rfl | exact rd_move (.inl rfl)) ?_
  refine s_rd _ rfl (by first | exact len_d rfl sel22 rfl (by first | exact List.length_map _ | rfl) | exact len_msl rfl sel22 rfl | exact len_nil rfl sel22 rfl) ?_
  refine s_rd _ rfl (by first | exact cmp_int rfl rfl rfl rfl | exact cmp_bool rfl rfl rfl rfl) ?_
  refine tops_nil ?_
  refine twp_norm [0, 3, 4, 8] (by repeat (first | exact SubK.nil | apply sub_d rfl | apply sub_msl rfl | apply sub_mptr rfl | apply sub_agg rfl | apply sub_tup rfl | apply sub_ifc rfl | apply sub_fnc rfl | apply sub_mmap rfl | apply SubK.cons _ _ _ _ rfl)) (by repeat (first | exact blk_nil rfl | apply blk_flat rfl | apply blk_box rfl | apply blk_map rfl | apply blk_dead rfl | rfl)) ?_
  refine twp_cond _ rfl (fun hlt => ?_) (fun hlt => ?_)
  · have hlt : i < ms.length := by simpa using hlt
    obtain ⟨m, hm⟩ : ∃ m, ms[i]? = some m := ⟨_, List.getElem?_eq_getElem hlt⟩
    refine twp_skip ?_
    refine way_then ?_
    refine twp_norm [0, 3, 4] (by repeat (first | exact SubK.nil | apply sub_d rfl | apply sub_msl rfl | apply sub_mptr rfl | apply sub_agg rfl | apply sub_tup rfl | apply sub_ifc rfl | apply sub_fnc rfl | apply sub_mmap rfl | apply SubK.cons _ _ _ _ rfl)) (by repeat (first | exact blk_nil rfl | apply blk_flat rfl | apply blk_box rfl | apply blk_map rfl | apply blk_dead rfl | rfl)) ?_
    refine twp_seq ?_
    refine twp_block ?_
    refine twp_region ?_
    refine s_rd _ rfl (by first | exact mv_d (.inl rfl) rfl | exact mv_msl (.inl rfl) rfl | exact mv_mptr (.inl rfl) rfl | exact mv_agg (.inl rfl) rfl | exact mv_tup (.inl rfl) rfl | exact mv_ifc (.inl rfl) rfl | exact mv_fnc (.inl rfl) rfl | exact mv_mmap (.inl rfl) rfl | exact rd_move (.inl rfl)) ?_
    refine s_rd _ rfl (by first | exact mv_d (.inl rfl) rfl | exact mv_msl (.inl rfl) rfl | exact mv_mptr (.inl rfl) rfl | exact mv_agg (.inl rfl) rfl | exact mv_tup (.inl rfl) rfl | exact mv_ifc (.inl rfl) rfl | exact mv_fnc (.inl rfl) rfl | exact mv_mmap (.inl rfl) rfl | exact rd_move (.inl rfl)) ?_
    refine s_rd _ rfl (by first | exact mv_d (.inl rfl) rfl | exact mv_msl (.inl rfl) rfl | exact mv_mptr (.inl rfl) rfl | exact mv_agg (.inl rfl) rfl | exact mv_tup (.inl rfl) rfl | exact mv_ifc (.inl rfl) rfl | exact mv_fnc (.inl rfl) rfl | exact mv_mmap (.inl rfl) rfl | exact rd_move (.inl rfl)) ?_
    refine s_rd _ rfl (by first | exact index_msl0 rfl sel22 rfl rfl (by first | assumption | omega | (simp; omega)) | exact index_sl rfl sel22 rfl rfl (by first | exact ⟨by omega, by assumption⟩ | exact idx_map (by assumption) | exact idx_id (by assumption))) ?_
    refine s_rd _ rfl (by first | exact fieldAddr_ptr rfl fld39_0 rfl rfl | exact fieldAddr_mptr rfl fld39_0 rfl rfl) ?_
    refine s_rd _ rfl (by first | exact load_ptr rfl lay3 rfl rfl | exact load_flat rfl lay3 rfl rfl (by first | rfl | assumption | (simp only [List.getElem?_map, Option.map_some, *]; done)) rfl | exact load_box_d rfl lay3 rfl rfl rfl | exact load_box rfl lay3 rfl rfl rfl) ?_
    refine s_litD [.tmp 16] rfl sel23 zero3 rfl rfl rfl rfl rfl ?_
    refine s_push rfl sel23 zero3 rfl rfl rfl (fun h => absurd h (Nat.not_lt_zero _)) rfl rfl (by simp [pre_length _ _ (Nat.le_of_lt hlt)]) (pre_snoc _ _ hm) (by omega) ?_
    refine s_rd _ rfl (by first | exact mv_d (.inr rfl) rfl | exact mv_msl (.inr rfl) rfl | exact mv_mptr (.inr rfl) rfl | exact mv_agg (.inr rfl) rfl | exact mv_tup (.inr rfl) rfl | exact mv_ifc (.inr rfl) rfl | exact mv_fnc (.inr rfl) rfl | exact mv_mmap (.inr rfl) rfl | exact rd_move (.inr rfl)) ?_
    refine tops_nil ?_
    refine way_block ?_
    refine way_then ?_
    refine twp_norm [0, 3, 4] (by repeat (first | exact SubK.nil | apply sub_d rfl | apply sub_msl rfl | apply sub_mptr rfl | apply sub_agg rfl | apply sub_tup rfl | apply sub_ifc rfl | apply sub_fnc rfl | apply sub_mmap rfl | apply SubK.cons _ _ _ _ rfl)) (by repeat (first | exact blk_nil rfl | apply blk_flat rfl | apply blk_box rfl | apply blk_map rfl | apply blk_dead rfl | rfl)) ?_
    refine twp_region ?_
    refine s_rd _ rfl (by first | exact mv_d (.inl rfl) rfl | exact mv_msl (.inl rfl) rfl | exact mv_mptr (.inl rfl) rfl | exact mv_agg (.inl rfl) rfl | exact mv_tup (.inl rfl) rfl | exact mv_ifc (.inl rfl) rfl | exact mv_fnc (.inl rfl) rfl | exact mv_mmap (.inl rfl) rfl | exact rd_move (.inl rfl)) ?_
    refine s_rd _ rfl (arith_ok rfl rfl rfl rfl (by first | omega | (constructor <;> omega))) ?_
    refine s_rd _ rfl (by first | exact mv_d (.inr rfl) rfl | exact mv_msl (.inr rfl) rfl | exact mv_mptr (.inr rfl) rfl | exact mv_agg (.inr rfl) rfl | exact mv_tup (.inr rfl) rfl | exact mv_ifc (.inr rfl) rfl | exact mv_fnc (.inr rfl) rfl | exact mv_mmap (.inr rfl) rfl | exact rd_move (.inr rfl)) ?_
    refine tops_nil ?_
    refine way_then ?_
    exact ⟨(i + 1), [0], by decide, fun i hi => absurd hi (Nat.not_lt_zero i), (by omega), (by omega), rfl⟩
  · have hlt : ¬ i < ms.length := by simpa using hlt
    have hi : i = ms.length := by omega
    refine twp_exit ?_
    refine way_thenExit ?_
    refine way_thenExit ?_
    refine way_here ?_
    refine way_then ?_
    refine twp_norm [3] (by repeat (first | exact SubK.nil | apply sub_d rfl | apply sub_msl rfl | apply sub_mptr rfl | apply sub_agg rfl | apply sub_tup rfl | apply sub_ifc rfl | apply sub_fnc rfl | apply sub_mmap rfl | apply SubK.cons _ _ _ _ rfl)) (by repeat (first | exact blk_nil rfl | apply blk_flat rfl | apply blk_box rfl | apply blk_map rfl | apply blk_dead rfl | rfl)) ?_
    refine twp_rseq ?_
    refine s_rd _ rfl (by first | exact mv_d (.inl rfl) rfl | exact mv_msl (.inl rfl) rfl | exact mv_mptr (.inl rfl) rfl | exact mv_agg (.inl rfl) rfl | exact mv_tup (.inl rfl) rfl | exact mv_ifc (.inl rfl) rfl | exact mv_fnc (.inl rfl) rfl | exact mv_mmap (.inl rfl) rfl | exact rd_move (.inl rfl)) ?_
    refine s_rd _ rfl (by first | exact mv_d (.inr rfl) rfl | exact mv_msl (.inr rfl) rfl | exact mv_mptr (.inr rfl) rfl | exact mv_agg (.inr rfl) rfl | exact mv_tup (.inr rfl) rfl | exact mv_ifc (.inr rfl) rfl | exact mv_fnc (.inr rfl) rfl | exact mv_mmap (.inr rfl) rfl | exact rd_move (.inr rfl)) ?_
    refine tops_nil ?_
    refine twp_norm [2] (by repeat (first | exact SubK.nil | apply sub_d rfl | apply sub_msl rfl | apply sub_mptr rfl | apply sub_agg rfl | apply sub_tup rfl | apply sub_ifc rfl | apply sub_fnc rfl | apply sub_mmap rfl | apply SubK.cons _ _ _ _ rfl)) (by repeat (first | exact blk_nil rfl | apply blk_flat rfl | apply blk_box rfl | apply blk_map rfl | apply blk_dead rfl | rfl)) ?_
    refine twp_ret ?_
    exact ⟨_, [0], rfl, by decide, fun i hi => absurd hi (Nat.not_lt_zero i), by rw [hi]; rfl, by rw [pre_all _ ms (Nat.le_of_eq hi.symm)]; rfl⟩

theorem callB13 : callB Try.prog 13 = true := by kernel_rfl

theorem stepR_ret (ms : List Mach) (hn : ms.length ≤ 100000) (hw : ∀ m ∈ ms, m.wf) (mv : Nat → Bool) : Ret Try.prog 13 [] mv ([D.sl 3 (ms.map Mach.enc)].map .d) (.msl 0 3 0 ms.length) [.flat 39 3 ((ms.mapIdx (fun _ m => stepM m)).map Mach.enc)] := by
  refine ret_body callB13 Try.func13 rfl Try.ntmps13 rfl rfl (fun wX gX => ?_)
  refine twp_norm [0] (by repeat (first | exact SubK.nil | apply sub_d rfl | apply sub_msl rfl | apply sub_mptr rfl | apply sub_agg rfl | apply sub_tup rfl | apply sub_ifc rfl | apply sub_fnc rfl | apply sub_mmap rfl | apply SubK.cons _ _ _ _ rfl)) (by repeat (first | exact blk_nil rfl | apply blk_flat rfl | apply blk_box rfl | apply blk_map rfl | apply blk_dead rfl | rfl)) ?_
  refine twp_rseq ?_
  refine s_rd _ rfl (by first | exact mv_d (.inr rfl) rfl | exact mv_msl (.inr rfl) rfl | exact mv_mptr (.inr rfl) rfl | exact mv_agg (.inr rfl) rfl | exact mv_tup (.inr rfl) rfl | exact mv_ifc (.inr rfl) rfl | exact mv_fnc (.inr rfl) rfl | exact mv_mmap (.inr rfl) rfl | exact rd_move (.inr rfl)) ?_
  refine tops_nil ?_
  refine twp_norm [0] (by repeat (first | exact SubK.nil | apply sub_d rfl | apply sub_msl rfl | apply sub_mptr rfl | apply sub_agg rfl | apply sub_tup rfl | apply sub_ifc rfl | apply sub_fnc rfl | apply sub_mmap rfl | apply SubK.cons _ _ _ _ rfl)) (by repeat (first | exact blk_nil rfl | apply blk_flat rfl | apply blk_box rfl | apply blk_map rfl | apply blk_dead rfl | rfl)) ?_
  refine twp_rseq ?_
  refine s_assignNil 39 3 rfl rfl ?_
  refine tops_nil ?_
  refine twp_norm [0, 3] (by repeat (first | exact SubK.nil | apply sub_d rfl | apply sub_msl rfl | apply sub_mptr rfl | apply sub_agg rfl | apply sub_tup rfl | apply sub_ifc rfl | apply sub_fnc rfl | apply sub_mmap rfl | apply SubK.cons _ _ _ _ rfl)) (by repeat (first | exact blk_nil rfl | apply blk_flat rfl | apply blk_box rfl | apply blk_map rfl | apply blk_dead rfl | rfl)) ?_
  refine twp_seq ?_
  refine twp_rseq ?_
  refine s_rd _ rfl (by first | exact mv_d (.inr rfl) rfl | exact mv_msl (.inr rfl) rfl | exact mv_mptr (.inr rfl) rfl | exact mv_agg (.inr rfl) rfl | exact mv_tup (.inr rfl) rfl | exact mv_ifc (.inr rfl) rfl | exact mv_fnc (.inr rfl) rfl | exact mv_mmap (.inr rfl) rfl | exact rd_move (.inr rfl)) ?_
  refine tops_nil ?_
  refine twp_norm [0, 3, 4] (by repeat (first | exact SubK.nil | apply sub_d rfl | apply sub_msl rfl | apply sub_mptr rfl | apply sub_agg rfl | apply sub_tup rfl | apply sub_ifc rfl | apply sub_fnc rfl | apply sub_mmap rfl | apply SubK.cons _ _ _ _ rfl)) (by repeat (first | exact blk_nil rfl | apply blk_flat rfl | apply blk_box rfl | apply blk_map rfl | apply blk_dead rfl | rfl)) ?_
  refine twp_block ?_
  refine twp_while (fun i => (⟨[(0, .d (.sl 3 (ms.map Mach.enc))), (3, .msl 0 3 0 i), (4, .d (.int .i64 ((i : Nat) : Int)))], [.flat 39 3 ((pre (fun _ m => stepM m) ms i).map Mach.enc)]⟩ : St)) (fun i => i ≤ ms.length) (fun i => ms.length - i) [0, 3, 4] [0] 0 (by decide) (fun i hi => absurd hi (Nat.not_lt_zero i)) (by simp) rfl ?_
  rintro i hok
  refine twp_norm [0, 3, 4] (by repeat (first | exact SubK.nil | apply sub_d rfl | apply sub_msl rfl | apply sub_mptr rfl | apply sub_agg rfl | apply sub_tup rfl | apply sub_ifc rfl | apply sub_fnc rfl | apply sub_mmap rfl | apply SubK.cons _ _ _ _ rfl)) (by repeat (first | exact blk_nil rfl | apply blk_flat rfl | apply blk_box rfl | apply blk_map rfl | apply blk_dead rfl | rfl)) ?_
  refine twp_seq ?_
  refine twp_rseq ?_
  refine s_rd _ rfl (by first | exact mv_d (.inl rfl) rfl | exact mv_msl (.inl rfl) rfl | exact mv_mptr (.inl rfl) rfl | exact mv_agg (.inl rfl) rfl | exact mv_tup (.inl rfl) rfl | exact mv_ifc (.inl rfl) rfl | exact mv_fnc (.inl rfl) rfl | exact mv_mmap (.inl rfl) rfl | exact rd_move (.inl rfl)) ?_
  refine s_rd _ rfl (by first | exact mv_d (.inl rfl) rfl | exact mv_msl (.inl rfl) rfl | exact mv_mptr (.inl rfl) rfl | exact mv_agg (.inl rfl) rfl | exact mv_tup (.inl rfl) rfl | exact mv_ifc (.inl rfl) rfl | exact mv_fnc (.inl rfl) rfl | exact mv_mmap (.inl rfl) rfl | exact rd_move (.inl rfl)) ?_
  refine s_rd _ rfl (by first | exact len_d rfl sel22 rfl (by first | exact List.length_map _ | rfl) | exact len_msl rfl sel22 rfl | exact len_nil rfl sel22 rfl) ?_
  refine s_rd _ rfl (by first | exact cmp_int rfl rfl rfl rfl | exact cmp_bool rfl rfl rfl rfl) ?_
  refine tops_nil ?_
  refine twp_norm [0, 3, 4, 9] (by repeat (first | exact SubK.nil | apply sub_d rfl | apply sub_msl rfl | apply sub_mptr rfl | apply sub_agg rfl | apply sub_tup rfl | apply sub_ifc rfl | apply sub_fnc rfl | apply sub_mmap rfl | apply SubK.cons _ _ _ _ rfl)) (by repeat (first | exact blk_nil rfl | apply blk_flat rfl | apply blk_box rfl | apply blk_map rfl | apply blk_dead rfl | rfl)) ?_
  refine twp_cond _ rfl (fun hlt => ?_) (fun hlt => ?_)
  · have hlt : i < ms.length := by simpa using hlt
    obtain ⟨m, hm⟩ : ∃ m, ms[i]? = some m := ⟨_, List.getElem?_eq_getElem hlt⟩
    have hmw : m.wf := hw m (List.mem_of_getElem? hm)
    refine twp_skip ?_
    refine way_then ?_
    refine twp_norm [0, 3, 4] (by repeat (first | exact SubK.nil | apply sub_d rfl | apply sub_msl rfl | apply sub_mptr rfl | apply sub_agg rfl | apply sub_tup rfl | apply sub_ifc rfl | apply sub_fnc rfl | apply sub_mmap rfl | apply SubK.cons _ _ _ _ rfl)) (by repeat (first | exact blk_nil rfl | apply blk_flat rfl | apply blk_box rfl | apply blk_map rfl | apply blk_dead rfl | rfl)) ?_
    refine twp_seq ?_
    refine twp_block ?_
    refine twp_rseq ?_
    refine s_rd _ rfl (by first | exact mv_d (.inl rfl) rfl | exact mv_msl (.inl rfl) rfl | exact mv_mptr (.inl rfl) rfl | exact mv_agg (.inl rfl) rfl | exact mv_tup (.inl rfl) rfl | exact mv_ifc (.inl rfl) rfl | exact mv_fnc (.inl rfl) rfl | exact mv_mmap (.inl rfl) rfl | exact rd_move (.inl rfl)) ?_
    refine s_rd _ rfl (by first | exact mv_d (.inl rfl) rfl | exact mv_msl (.inl rfl) rfl | exact mv_mptr (.inl rfl) rfl | exact mv_agg (.inl rfl) rfl | exact mv_tup (.inl rfl) rfl | exact mv_ifc (.inl rfl) rfl | exact mv_fnc (.inl rfl) rfl | exact mv_mmap (.inl rfl) rfl | exact rd_move (.inl rfl)) ?_
    refine s_rd _ rfl (by first | exact index_msl0 rfl sel22 rfl rfl (by first | assumption | omega | (simp; omega)) | exact index_sl rfl sel22 rfl rfl (by first | exact ⟨by omega, by assumption⟩ | exact idx_map (by assumption) | exact idx_id (by assumption))) ?_
    refine s_rd _ rfl (by first | exact load_ptrW rfl lay39 rfl rfl rfl | exact load_flatW rfl lay39 rfl rfl (by first | rfl | assumption | (simp only [List.getElem?_map, Option.map_some, *]; done)) rfl rfl | exact load_boxA_d rfl lay39 rfl rfl (Nat.le_of_ble_eq_true rfl) rfl | exact load_boxA rfl lay39 rfl rfl (Nat.le_of_ble_eq_true rfl) rfl | exact load_ptrA rfl lay39 rfl (Nat.le_of_ble_eq_true rfl) rfl) ?_
    refine s_alloc rfl zero39 rfl rfl ?_
    first
      | refine s_store_box lay39 rfl rfl rfl rfl rfl (Nat.le_of_ble_eq_true rfl) rfl ?_
      | refine s_store_flat lay39 rfl rfl rfl rfl (by first | rfl | assumption | (simp only [List.getElem?_map, Option.map_some, *]; done)) (by first | exact .inl rfl | exact .inr rfl) (Nat.le_of_ble_eq_true rfl) rfl ?_
    refine tops_nil ?_
    refine twp_norm [0, 3, 4, 5] (by repeat (first | exact SubK.nil | apply sub_d rfl | apply sub_msl rfl | apply sub_mptr rfl | apply sub_agg rfl | apply sub_tup rfl | apply sub_ifc rfl | apply sub_fnc rfl | apply sub_mmap rfl | apply SubK.cons _ _ _ _ rfl)) (by repeat (first | exact blk_nil rfl | apply blk_flat rfl | apply blk_box rfl | apply blk_map rfl | apply blk_dead rfl | rfl)) ?_
    refine twp_seq ?_
    refine twp_rseq ?_
    refine s_rd _ rfl (by first | exact fieldAddr_ptr rfl fld39_2 rfl rfl | exact fieldAddr_mptr rfl fld39_2 rfl rfl) ?_
    refine s_rd _ rfl (by first | exact load_ptr rfl lay3 rfl rfl | exact load_flat rfl lay3 rfl rfl (by first | rfl | assumption | (simp only [List.getElem?_map, Option.map_some, *]; done)) rfl | exact load_box_d rfl lay3 rfl rfl rfl | exact load_box rfl lay3 rfl rfl rfl) ?_
    refine s_rd _ rfl (by first | exact cmp_int rfl rfl rfl rfl | exact cmp_bool rfl rfl rfl rfl) ?_
    refine tops_nil ?_
    refine twp_norm [0, 3, 4, 5, 18] (by repeat (first | exact SubK.nil | apply sub_d rfl | apply sub_msl rfl | apply sub_mptr rfl | apply sub_agg rfl | apply sub_tup rfl | apply sub_ifc rfl | apply sub_fnc rfl | apply sub_mmap rfl | apply SubK.cons _ _ _ _ rfl)) (by repeat (first | exact blk_nil rfl | apply blk_flat rfl | apply blk_box rfl | apply blk_map rfl | apply blk_dead rfl | rfl)) ?_
    refine twp_cond _ rfl (fun ht => ?_) (fun ht => ?_)
    · have ht : 0 < m.timer := of_decide_eq_true ht
      refine twp_rseq ?_
      refine s_rd _ rfl (by first | exact fieldAddr_ptr rfl fld39_2 rfl rfl | exact fieldAddr_mptr rfl fld39_2 rfl rfl) ?_
      refine s_rd _ rfl (by first | exact load_ptr rfl lay3 rfl rfl | exact load_flat rfl lay3 rfl rfl (by first | rfl | assumption | (simp only [List.getElem?_map, Option.map_some, *]; done)) rfl | exact load_box_d rfl lay3 rfl rfl rfl | exact load_box rfl lay3 rfl rfl rfl) ?_
      refine s_rd _ rfl (arith_ok rfl rfl rfl rfl (by have := hmw.2.2; unfold I64 at this; omega)) ?_
      refine s_rd _ rfl (by first | exact fieldAddr_ptr rfl fld39_2 rfl rfl | exact fieldAddr_mptr rfl fld39_2 rfl rfl) ?_
      first
        | refine s_store_box lay3 rfl rfl rfl rfl rfl (Nat.le_of_ble_eq_true rfl) rfl ?_
        | refine s_store_flat lay3 rfl rfl rfl rfl (by first | rfl | assumption | (simp only [List.getElem?_map, Option.map_some, *]; done)) (by first | exact .inl rfl | exact .inr rfl) (Nat.le_of_ble_eq_true rfl) rfl ?_
      refine tops_nil ?_
      refine twp_norm [0, 3, 4, 5] (by repeat (first | exact SubK.nil | apply sub_d rfl | apply sub_msl rfl | apply sub_mptr rfl | apply sub_agg rfl | apply sub_tup rfl | apply sub_ifc rfl | apply sub_fnc rfl | apply sub_mmap rfl | apply SubK.cons _ _ _ _ rfl)) (by repeat (first | exact blk_nil rfl | apply blk_flat rfl | apply blk_box rfl | apply blk_map rfl | apply blk_dead rfl | rfl)) ?_
      refine twp_rseq ?_
      refine s_rd _ rfl (by first | exact fieldAddr_ptr rfl fld39_2 rfl rfl | exact fieldAddr_mptr rfl fld39_2 rfl rfl) ?_
      refine s_rd _ rfl (by first | exact load_ptr rfl lay3 rfl rfl | exact load_flat rfl lay3 rfl rfl (by first | rfl | assumption | (simp only [List.getElem?_map, Option.map_some, *]; done)) rfl | exact load_box_d rfl lay3 rfl rfl rfl | exact load_box rfl lay3 rfl rfl rfl) ?_
      refine s_rd _ rfl (by first | exact cmp_int rfl rfl rfl rfl | exact cmp_bool rfl rfl rfl rfl) ?_
      refine tops_nil ?_
      refine twp_norm [0, 3, 4, 5, 25] (by repeat (first | exact SubK.nil | apply sub_d rfl | apply sub_msl rfl | apply sub_mptr rfl | apply sub_agg rfl | apply sub_tup rfl | apply sub_ifc rfl | apply sub_fnc rfl | apply sub_mmap rfl | apply SubK.cons _ _ _ _ rfl)) (by repeat (first | exact blk_nil rfl | apply blk_flat rfl | apply blk_box rfl | apply blk_map rfl | apply blk_dead rfl | rfl)) ?_
      refine twp_cond _ rfl (fun hz => ?_) (fun hz => ?_)
      · have hz : m.timer - 1 = 0 := of_decide_eq_true hz
        have hs : stepM m = ⟨m.goal, m.goal, m.timer - 1⟩ := by simp [stepM, hz]; omega
        refine twp_region ?_
        refine s_rd _ rfl (by first | exact fieldAddr_ptr rfl fld39_1 rfl rfl | exact fieldAddr_mptr rfl fld39_1 rfl rfl) ?_
        refine s_rd _ rfl (by first | exact load_ptr rfl lay3 rfl rfl | exact load_flat rfl lay3 rfl rfl (by first | rfl | assumption | (simp only [List.getElem?_map, Option.map_some, *]; done)) rfl | exact load_box_d rfl lay3 rfl rfl rfl | exact load_box rfl lay3 rfl rfl rfl) ?_
        refine s_rd _ rfl (by first | exact fieldAddr_ptr rfl fld39_0 rfl rfl | exact fieldAddr_mptr rfl fld39_0 rfl rfl) ?_
        first
          | refine s_store_box lay3 rfl rfl rfl rfl rfl (Nat.le_of_ble_eq_true rfl) rfl ?_
          | refine s_store_flat lay3 rfl rfl rfl rfl (by first | rfl | assumption | (simp only [List.getElem?_map, Option.map_some, *]; done)) (by first | exact .inl rfl | exact .inr rfl) (Nat.le_of_ble_eq_true rfl) rfl ?_
        refine tops_nil ?_
        refine way_then ?_
        refine twp_norm [0, 3, 4, 5] (by repeat (first | exact SubK.nil | apply sub_d rfl | apply sub_msl rfl | apply sub_mptr rfl | apply sub_agg rfl | apply sub_tup rfl | apply sub_ifc rfl | apply sub_fnc rfl | apply sub_mmap rfl | apply SubK.cons _ _ _ _ rfl)) (by repeat (first | exact blk_nil rfl | apply blk_flat rfl | apply blk_box rfl | apply blk_map rfl | apply blk_dead rfl | rfl)) ?_
        refine twp_region ?_
        refine s_rd _ rfl (by first | exact mv_d (.inl rfl) rfl | exact mv_msl (.inl rfl) rfl | exact mv_mptr (.inl rfl) rfl | exact mv_agg (.inl rfl) rfl | exact mv_tup (.inl rfl) rfl | exact mv_ifc (.inl rfl) rfl | exact mv_fnc (.inl rfl) rfl | exact mv_mmap (.inl rfl) rfl | exact rd_move (.inl rfl)) ?_
        refine s_rd _ rfl (by first | exact load_ptrW rfl lay39 rfl rfl rfl | exact load_flatW rfl lay39 rfl rfl (by first | rfl | assumption | (simp only [List.getElem?_map, Option.map_some, *]; done)) rfl rfl | exact load_boxA_d rfl lay39 rfl rfl (Nat.le_of_ble_eq_true rfl) rfl | exact load_boxA rfl lay39 rfl rfl (Nat.le_of_ble_eq_true rfl) rfl | exact load_ptrA rfl lay39 rfl (Nat.le_of_ble_eq_true rfl) rfl) ?_
        refine s_litD [.tmp 30] rfl sel22 zero39 rfl rfl rfl rfl rfl ?_
        refine s_push rfl sel22 zero39 rfl rfl rfl (fun h => absurd h (Nat.not_lt_zero _)) rfl rfl (by simp [pre_length _ _ (Nat.le_of_lt hlt)]) (pre_snoc' _ _ hm (by show Mach.enc (stepM m) = _; rw [hs]; rfl)) (by omega) ?_
        refine s_rd _ rfl (by first | exact mv_d (.inr rfl) rfl | exact mv_msl (.inr rfl) rfl | exact mv_mptr (.inr rfl) rfl | exact mv_agg (.inr rfl) rfl | exact mv_tup (.inr rfl) rfl | exact mv_ifc (.inr rfl) rfl | exact mv_fnc (.inr rfl) rfl | exact mv_mmap (.inr rfl) rfl | exact rd_move (.inr rfl)) ?_
        refine tops_nil ?_
        refine way_block ?_
        refine way_then ?_
        refine twp_norm [0, 3, 4] (by repeat (first | exact SubK.nil | apply sub_d rfl | apply sub_msl rfl | apply sub_mptr rfl | apply sub_agg rfl | apply sub_tup rfl | apply sub_ifc rfl | apply sub_fnc rfl | apply sub_mmap rfl | apply SubK.cons _ _ _ _ rfl)) (by repeat (first | exact blk_nil rfl | apply blk_flat rfl | apply blk_box rfl | apply blk_map rfl | apply blk_dead rfl | rfl)) ?_
        refine twp_region ?_
        refine s_rd _ rfl (by first | exact mv_d (.inl rfl) rfl | exact mv_msl (.inl rfl) rfl | exact mv_mptr (.inl rfl) rfl | exact mv_agg (.inl rfl) rfl | exact mv_tup (.inl rfl) rfl | exact mv_ifc (.inl rfl) rfl | exact mv_fnc (.inl rfl) rfl | exact mv_mmap (.inl rfl) rfl | exact rd_move (.inl rfl)) ?_
        refine s_rd _ rfl (arith_ok rfl rfl rfl rfl (by first | omega | (constructor <;> omega))) ?_
        refine s_rd _ rfl (by first | exact mv_d (.inr rfl) rfl | exact mv_msl (.inr rfl) rfl | exact mv_mptr (.inr rfl) rfl | exact mv_agg (.inr rfl) rfl | exact mv_tup (.inr rfl) rfl | exact mv_ifc (.inr rfl) rfl | exact mv_fnc (.inr rfl) rfl | exact mv_mmap (.inr rfl) rfl | exact rd_move (.inr rfl)) ?_
        refine tops_nil ?_
        refine way_then ?_
        exact ⟨(i + 1), [0], by decide, fun i hi => absurd hi (Nat.not_lt_zero i), (by omega), (by omega), rfl⟩
      · have hz : ¬ m.timer - 1 = 0 := of_decide_eq_false hz
        have hs : stepM m = ⟨m.pos, m.goal, m.timer - 1⟩ := by simp [stepM, hz]; omega
        refine twp_skip ?_
        refine way_then ?_
        refine twp_norm [0, 3, 4, 5] (by repeat (first | exact SubK.nil | apply sub_d rfl | apply sub_msl rfl | apply sub_mptr rfl | apply sub_agg rfl | apply sub_tup rfl | apply sub_ifc rfl | apply sub_fnc rfl | apply sub_mmap rfl | apply SubK.cons _ _ _ _ rfl)) (by repeat (first | exact blk_nil rfl | apply blk_flat rfl | apply blk_box rfl | apply blk_map rfl | apply blk_dead rfl | rfl)) ?_
        refine twp_region ?_
        refine s_rd _ rfl (by first | exact mv_d (.inl rfl) rfl | exact mv_msl (.inl rfl) rfl | exact mv_mptr (.inl rfl) rfl | exact mv_agg (.inl rfl) rfl | exact mv_tup (.inl rfl) rfl | exact mv_ifc (.inl rfl) rfl | exact mv_fnc (.inl rfl) rfl | exact mv_mmap (.inl rfl) rfl | exact rd_move (.inl rfl)) ?_
        refine s_rd _ rfl (by first | exact load_ptrW rfl lay39 rfl rfl rfl | exact load_flatW rfl lay39 rfl rfl (by first | rfl | assumption | (simp only [List.getElem?_map, Option.map_some, *]; done)) rfl rfl | exact load_boxA_d rfl lay39 rfl rfl (Nat.le_of_ble_eq_true rfl) rfl | exact load_boxA rfl lay39 rfl rfl (Nat.le_of_ble_eq_true rfl) rfl | exact load_ptrA rfl lay39 rfl (Nat.le_of_ble_eq_true rfl) rfl) ?_
        refine s_litD [.tmp 30] rfl sel22 zero39 rfl rfl rfl rfl rfl ?_
        refine s_push rfl sel22 zero39 rfl rfl rfl (fun h => absurd h (Nat.not_lt_zero _)) rfl rfl (by simp [pre_length _ _ (Nat.le_of_lt hlt)]) (pre_snoc' _ _ hm (by show Mach.enc (stepM m) = _; rw [hs]; rfl)) (by omega) ?_
        refine s_rd _ rfl (by first | exact mv_d (.inr rfl) rfl | exact mv_msl (.inr rfl) rfl | exact mv_mptr (.inr rfl) rfl | exact mv_agg (.inr rfl) rfl | exact mv_tup (.inr rfl) rfl | exact mv_ifc (.inr rfl) rfl | exact mv_fnc (.inr rfl) rfl | exact mv_mmap (.inr rfl) rfl | exact rd_move (.inr rfl)) ?_
        refine tops_nil ?_
        refine way_block ?_
        refine way_then ?_
        refine twp_norm [0, 3, 4] (by repeat (first | exact SubK.nil | apply sub_d rfl | apply sub_msl rfl | apply sub_mptr rfl | apply sub_agg rfl | apply sub_tup rfl | apply sub_ifc rfl | apply sub_fnc rfl | apply sub_mmap rfl | apply SubK.cons _ _ _ _ rfl)) (by repeat (first | exact blk_nil rfl | apply blk_flat rfl | apply blk_box rfl | apply blk_map rfl | apply blk_dead rfl | rfl)) ?_
        refine twp_region ?_
        refine s_rd _ rfl (by first | exact mv_d (.inl rfl) rfl | exact mv_msl (.inl rfl) rfl | exact mv_mptr (.inl rfl) rfl | exact mv_agg (.inl rfl) rfl | exact mv_tup (.inl rfl) rfl | exact mv_ifc (.inl rfl) rfl | exact mv_fnc (.inl rfl) rfl | exact mv_mmap (.inl rfl) rfl | exact rd_move (.inl rfl)) ?_
        refine s_rd _ rfl (arith_ok rfl rfl rfl rfl (by first | omega | (constructor <;> omega))) ?_
        refine s_rd _ rfl (by first | exact mv_d (.inr rfl) rfl | exact mv_msl (.inr rfl) rfl | exact mv_mptr (.inr rfl) rfl | exact mv_agg (.inr rfl) rfl | exact mv_tup (.inr rfl) rfl | exact mv_ifc (.inr rfl) rfl | exact mv_fnc (.inr rfl) rfl | exact mv_mmap (.inr rfl) rfl | exact rd_move (.inr rfl)) ?_
        refine tops_nil ?_
        refine way_then ?_
        exact ⟨(i + 1), [0], by decide, fun i hi => absurd hi (Nat.not_lt_zero i), (by omega), (by omega), rfl⟩
    · have ht : ¬ 0 < m.timer := of_decide_eq_false ht
      have hs : stepM m = m := by simp [stepM]; omega
      refine twp_skip ?_
      refine way_then ?_
      refine twp_norm [0, 3, 4, 5] (by repeat (first | exact SubK.nil | apply sub_d rfl | apply sub_msl rfl | apply sub_mptr rfl | apply sub_agg rfl | apply sub_tup rfl | apply sub_ifc rfl | apply sub_fnc rfl | apply sub_mmap rfl | apply SubK.cons _ _ _ _ rfl)) (by repeat (first | exact blk_nil rfl | apply blk_flat rfl | apply blk_box rfl | apply blk_map rfl | apply blk_dead rfl | rfl)) ?_
      refine twp_region ?_
      refine s_rd _ rfl (by first | exact mv_d (.inl rfl) rfl | exact mv_msl (.inl rfl) rfl | exact mv_mptr (.inl rfl) rfl | exact mv_agg (.inl rfl) rfl | exact mv_tup (.inl rfl) rfl | exact mv_ifc (.inl rfl) rfl | exact mv_fnc (.inl rfl) rfl | exact mv_mmap (.inl rfl) rfl | exact rd_move (.inl rfl)) ?_
      refine s_rd _ rfl (by first | exact load_ptrW rfl lay39 rfl rfl rfl | exact load_flatW rfl lay39 rfl rfl (by first | rfl | assumption | (simp only [List.getElem?_map, Option.map_some, *]; done)) rfl rfl | exact load_boxA_d rfl lay39 rfl rfl (Nat.le_of_ble_eq_true rfl) rfl | exact load_boxA rfl lay39 rfl rfl (Nat.le_of_ble_eq_true rfl) rfl | exact load_ptrA rfl lay39 rfl (Nat.le_of_ble_eq_true rfl) rfl) ?_
      refine s_litD [.tmp 30] rfl sel22 zero39 rfl rfl rfl rfl rfl ?_
      refine s_push rfl sel22 zero39 rfl rfl rfl (fun h => absurd h (Nat.not_lt_zero _)) rfl rfl (by simp [pre_length _ _ (Nat.le_of_lt hlt)]) (pre_snoc' _ _ hm (by show Mach.enc (stepM m) = _; rw [hs]; rfl)) (by omega) ?_
      refine s_rd _ rfl (by first | exact mv_d (.inr rfl) rfl | exact mv_msl (.inr rfl) rfl | exact mv_mptr (.inr rfl) rfl | exact mv_agg (.inr rfl) rfl | exact mv_tup (.inr rfl) rfl | exact mv_ifc (.inr rfl) rfl | exact mv_fnc (.inr rfl) rfl | exact mv_mmap (.inr rfl) rfl | exact rd_move (.inr rfl)) ?_
      refine tops_nil ?_
      refine way_block ?_
      refine way_then ?_
      refine twp_norm [0, 3, 4] (by repeat (first | exact SubK.nil | apply sub_d rfl | apply sub_msl rfl | apply sub_mptr rfl | apply sub_agg rfl | apply sub_tup rfl | apply sub_ifc rfl | apply sub_fnc rfl | apply sub_mmap rfl | apply SubK.cons _ _ _ _ rfl)) (by repeat (first | exact blk_nil rfl | apply blk_flat rfl | apply blk_box rfl | apply blk_map rfl | apply blk_dead rfl | rfl)) ?_
      refine twp_region ?_
      refine s_rd _ rfl (by first | exact mv_d (.inl rfl) rfl | exact mv_msl (.inl rfl) rfl | exact mv_mptr (.inl rfl) rfl | exact mv_agg (.inl rfl) rfl | exact mv_tup (.inl rfl) rfl | exact mv_ifc (.inl rfl) rfl | exact mv_fnc (.inl rfl) rfl | exact mv_mmap (.inl rfl) rfl | exact rd_move (.inl rfl)) ?_
      refine s_rd _ rfl (arith_ok rfl rfl rfl rfl (by first | omega | (constructor <;> omega))) ?_
      refine s_rd _ rfl (by first | exact mv_d (.inr rfl) rfl | exact mv_msl (.inr rfl) rfl | exact mv_mptr (.inr rfl) rfl | exact mv_agg (.inr rfl) rfl | exact mv_tup (.inr rfl) rfl | exact mv_ifc (.inr rfl) rfl | exact mv_fnc (.inr rfl) rfl | exact mv_mmap (.inr rfl) rfl | exact rd_move (.inr rfl)) ?_
      refine tops_nil ?_
      refine way_then ?_
      exact ⟨(i + 1), [0], by decide, fun i hi => absurd hi (Nat.not_lt_zero i), (by omega), (by omega), rfl⟩
  · have hlt : ¬ i < ms.length := by simpa using hlt
    have hi : i = ms.length := by omega
    refine twp_exit ?_
    refine way_thenExit ?_
    refine way_thenExit ?_
    refine way_here ?_
    refine way_then ?_
    refine twp_norm [3] (by repeat (first | exact SubK.nil | apply sub_d rfl | apply sub_msl rfl | apply sub_mptr rfl | apply sub_agg rfl | apply sub_tup rfl | apply sub_ifc rfl | apply sub_fnc rfl | apply sub_mmap rfl | apply SubK.cons _ _ _ _ rfl)) (by repeat (first | exact blk_nil rfl | apply blk_flat rfl | apply blk_box rfl | apply blk_map rfl | apply blk_dead rfl | rfl)) ?_
    refine twp_rseq ?_
    refine s_rd _ rfl (by first | exact mv_d (.inl rfl) rfl | exact mv_msl (.inl rfl) rfl | exact mv_mptr (.inl rfl) rfl | exact mv_agg (.inl rfl) rfl | exact mv_tup (.inl rfl) rfl | exact mv_ifc (.inl rfl) rfl | exact mv_fnc (.inl rfl) rfl | exact mv_mmap (.inl rfl) rfl | exact rd_move (.inl rfl)) ?_
    refine s_rd _ rfl (by first | exact mv_d (.inr rfl) rfl | exact mv_msl (.inr rfl) rfl | exact mv_mptr (.inr rfl) rfl | exact mv_agg (.inr rfl) rfl | exact mv_tup (.inr rfl) rfl | exact mv_ifc (.inr rfl) rfl | exact mv_fnc (.inr rfl) rfl | exact mv_mmap (.inr rfl) rfl | exact rd_move (.inr rfl)) ?_
    refine tops_nil ?_
    refine twp_norm [2] (by repeat (first | exact SubK.nil | apply sub_d rfl | apply sub_msl rfl | apply sub_mptr rfl | apply sub_agg rfl | apply sub_tup rfl | apply sub_ifc rfl | apply sub_fnc rfl | apply sub_mmap rfl | apply SubK.cons _ _ _ _ rfl)) (by repeat (first | exact blk_nil rfl | apply blk_flat rfl | apply blk_box rfl | apply blk_map rfl | apply blk_dead rfl | rfl)) ?_
    refine twp_ret ?_
    exact ⟨_, [0], rfl, by decide, fun i hi => absurd hi (Nat.not_lt_zero i), by rw [hi]; rfl, by rw [pre_all _ ms (Nat.le_of_eq hi.symm)]; rfl⟩

theorem detectedR_n (ms : List Mach) (hn : ms.length ≤ 100000) : RetN Try.prog 16 [.sl 3 (ms.map Mach.enc)] (.sl 1 ((ms.map Mach.pos).map (D.int .i64))) := by
  have h := (detectedR_ret ms hn (fun _ => false))
  rw [mapIdx_const] at h
  exact .flat h (by simp) (mem0_ints _)
theorem stepR_n (ms : List Mach) (hn : ms.length ≤ 100000) (hw : ∀ m ∈ ms, m.wf) : RetN Try.prog 13 [.sl 3 (ms.map Mach.enc)] (.sl 3 ((ms.map stepM).map Mach.enc)) := by
  have h := (stepR_ret ms hn hw (fun _ => false))
  rw [mapIdx_const] at h
  exact .flat h (by simp) (mem0_map _)

end Go.Proofs.Ytmjgelbhflmchaa
