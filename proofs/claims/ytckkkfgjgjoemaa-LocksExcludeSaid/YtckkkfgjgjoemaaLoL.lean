/- The laws of chapter 21, as their models say them. No condition but those that the laws name. -/
import Derived.Test.YtckkkfgjgjoemaaLoH
set_option linter.unusedVariables false
set_option linter.unusedSimpArgs false
set_option maxHeartbeats 400000
set_option maxRecDepth 100000
namespace Go.Proofs.Ytckkkfgjgjoemaa
open Go Go.TL

theorem alive21 : law21_alive = some true := by decide +kernel

def smallR (r : Route) : Bool := decide (r.sections.length ≤ 30 ∧ r.overSections.length ≤ 30 ∧ r.points.length ≤ 30 ∧ r.overPoints.length ≤ 30 ∧ r.flank.length ≤ 30 ∧ r.path.length ≤ 30)
def smallB (t : Table) (s : Inter) : Bool := t.routes.all smallR && decide (t.routes.length ≤ 50 ∧ t.points.length ≤ 40 ∧ t.homes.length ≤ 40 ∧ s.routes.length ≤ 50 ∧ s.lies.length ≤ 40)
theorem small_eq (t : Table) (s : Inter) (ht : t.Wf) : law21_Small t s = some (smallB t s) := by
  have h0 := len_ok ht.routes.1
  unfold law21_Small smallB
  rw [loop_any t.routes (fun r => !smallR r) (.inr false) (.inl ()) (by omega) (fun i r hr => ?_) (by rw [if_neg (by omega)]; rfl), not_all_any']
  · cases t.routes.all smallR
    · rfl
    · simp only [Bool.not_true, Bool.false_eq_true, if_false, bindS_inl, Option.some.injEq, Bool.true_and]
      rw [Bool.eq_iff_iff]
      simp only [Bool.and_eq_true, decide_eq_true_eq]
      omega
  · have hi := (List.getElem?_eq_some_iff.1 hr).1
    rw [if_pos (by omega), getM_at hr, guardM_true (i64_nat hi (by omega))]
    unfold smallR
    by_cases hb : r.sections.length ≤ 30 ∧ r.overSections.length ≤ 30 ∧ r.points.length ≤ 30 ∧ r.overPoints.length ≤ 30 ∧ r.flank.length ≤ 30 ∧ r.path.length ≤ 30
    · rw [if_neg (by simp only [Bool.or_eq_true, decide_eq_true_eq]; omega), if_neg (by simpa using hb)]
    · rw [if_pos (by simp only [Bool.or_eq_true, decide_eq_true_eq]; omega), if_pos (by rw [decide_eq_false hb]; rfl)]; rfl
theorem small_ok {t : Table} {s : Inter} (h : smallB t s = true) : TOk t := by
  unfold smallB at h
  simp only [Bool.and_eq_true, decide_eq_true_eq, List.all_eq_true] at h
  obtain ⟨h1, h2⟩ := h
  refine ⟨by omega, by omega, fun r hr => ?_⟩
  have := h1 r hr
  unfold smallR at this
  have := of_decide_eq_true this
  exact ⟨by omega, by omega, by omega, by omega⟩
theorem wf_ok {t : Table} (h : t.Wf) : SOk t := fun r hr s hs => by
  have hw := h.routes.2 r hr
  simp only [allS, List.mem_append] at hs
  rcases hs with (hs | hs) | hs
  · have := hw.points.2 s hs; exact ⟨this.el, this.pos⟩
  · have := hw.overPoints.2 s hs; exact ⟨this.el, this.pos⟩
  · have := hw.flank.2 s hs; exact ⟨this.el, this.pos⟩

theorem sound_law {t : Table} {s : Inter} (ht : t.Wf) (hs : s.Wf) : law21_LocksSound t s = some true := by
  unfold law21_LocksSound
  rw [small_eq t s ht, bindM_some]
  cases hb : smallB t s with
  | false => rfl
  | true =>
    have hT := small_ok hb
    simp only [Bool.not_true, Bool.false_eq_true, if_false]
    rw [sound_eq t s hT (wf_ok ht), bindM_some, sound21_eq t s hT (wf_ok ht), bindM_some, if_pos (by simp), alive21]
    rfl

theorem free_law {t : Table} {s : Inter} {p : Inputs} {n : Int} (ht : t.Wf) (hs : s.Wf) (hp : p.Wf) (hn : I64 n) : law21_LocksFree t s p n = some true := by
  unfold law21_LocksFree
  rw [small_eq t s ht, bindM_some]
  cases hb : smallB t s with
  | false => rfl
  | true =>
    have hT := small_ok hb
    simp only [Bool.not_true, Bool.false_eq_true, if_false]
    rw [free_eq t s p n hT (wf_ok ht), bindM_some, free21_eq t s p n hT (wf_ok ht), bindM_some, if_pos rfl, alive21]
    rfl

theorem ints_eq (l : List Int) (h : Cnt l) : law21_ints l l = some true := by
  unfold law21_ints
  rw [if_pos rfl, loop_any l (fun _ => false) (.inr false) (.inl ()) h (fun i e he => ?_) (by rw [if_neg (by omega)]; rfl)]
  · have : (l.any fun _ => false) = false := by simp
    rw [this]; rfl
  · have hi := (List.getElem?_eq_some_iff.1 he).1
    rw [if_pos (by omega), getM_at he, getM_at he, if_pos rfl, guardM_true (i64_nat hi h)]
    rfl
theorem sets_eq (l : List Setting) (h : Cnt l) (ho : ∀ s ∈ l, Setting.ok s) : law21_settings l l = some true := by
  unfold law21_settings
  rw [if_pos rfl, loop_any l (fun _ => false) (.inr false) (.inl ()) h (fun i e he => ?_) (by rw [if_neg (by omega)]; rfl)]
  · have : (l.any fun _ => false) = false := by simp
    rw [this]; rfl
  · have hi := (List.getElem?_eq_some_iff.1 he).1
    have hok := ho e (List.mem_of_getElem? he)
    rw [if_pos (by omega), getM_at he, getM_at he, guardM_true ⟨hok, hok⟩]
    simp [guardM_true (i64_nat hi h)]

theorem boundI_ok {t : Table} {s : Inter} (h : TOk t) (ho : SOk t) (n : Int) : (boundI t s n).length ≤ 3000000 ∧ ∀ e ∈ boundI t s n, Setting.ok e := by
  by_cases hd : 0 ≤ n ∧ n < t.routes.length ∧ fitsB t s = true
  · obtain ⟨i, rfl⟩ := Int.eq_ofNat_of_zero_le hd.1
    have H := fitsAt hd.2.2 (i := i) (by omega)
    rw [boundI_at hd.2.2 H]
    exact ⟨boundR_len _ _ _ (h.each _ H.mem), fun e he => ho _ H.mem e (boundR_mem he)⟩
  · rw [boundI_no hd]; exact ⟨by simp, fun e he => by cases he⟩

theorem of_law {t : Table} {s : Inter} {n : Int} (ht : t.Wf) (hs : s.Wf) (hn : I64 n) : law21_LocksOf t s n = some true := by
  unfold law21_LocksOf
  rw [small_eq t s ht, bindM_some]
  cases hb : smallB t s with
  | false => rw [alive21]; rfl
  | true =>
    have hT := small_ok hb
    have hO := wf_ok ht
    have h1 := pathI_len t s n hT
    have h2 := overI_len t s n hT
    have h3 := boundI_ok (s := s) hT hO n
    simp only [Bool.not_true, Bool.false_eq_true, if_false]
    rw [Path_eq t s n hT, Path21_eq t s n hT, Over_eq t s n hT, Over21_eq t s n hT, Bound_eq t s n hT hO, Bound21_eq t s n hT hO]
    simp only [bindM_some]
    rw [ints_eq _ (by unfold Cnt; omega), ints_eq _ (by unfold Cnt; omega), sets_eq _ (by unfold Cnt; omega) h3.2, alive21]
    rfl

theorem pathI_at {t : Table} {s : Inter} {i : Nat} (hf : fitsB t s = true) (H : FitsAt t s i) : pathI t s (i : Int) = pathAt t s i := lockI_at hf H.r H.x

theorem sound_paths {t : Table} {s : Inter} (h : soundB t s = true) {a b : Nat} (ha : a < t.routes.length) (hb : b < t.routes.length) (hne : a ≠ b) : meetB (pathAt t s a) (pathAt t s b) = false := by
  have h' := h
  unfold soundB at h'
  rw [Bool.and_eq_true, Bool.and_eq_true] at h'
  have key : ∀ a b, b < a → a < t.routes.length → clashAt t s a b = false := fun a b hba ha => by
    have := allB_iff.1 (allB_iff.1 h'.1.2 a ha) b hba
    simpa using this
  have h1 : clashAt t s a b = false := by
    rcases Nat.lt_or_gt_of_ne hne with hl | hl
    · rw [clash_symm]; exact key b a hl hb
    · exact key a b hl ha
  unfold clashAt clashB at h1
  cases hm : meetB (pathAt t s a) (pathAt t s b) with
  | false => rfl
  | true => rw [hm] at h1; simp at h1

theorem exclude_law {t : Table} {s : Inter} {a b : Int} (ht : t.Wf) (hs : s.Wf) (ha : I64 a) (hb : I64 b) : law21_LocksExclude t s a b = some true := by
  unfold law21_LocksExclude
  rw [small_eq t s ht, bindM_some]
  cases hsm : smallB t s with
  | false => simp only [Bool.not_false, if_true, bindM_some, alive21]
  | true =>
    have hT := small_ok hsm
    have hO := wf_ok ht
    simp only [Bool.not_true, Bool.false_eq_true, if_false]
    rw [sound_eq t s hT hO, bindM_some]
    cases hso : soundB t s with
    | false => simp only [Bool.not_false, if_true, bindM_some, alive21]
    | true =>
      simp only [Bool.not_true, Bool.false_eq_true, if_false, bindM_some]
      by_cases hab : a = b
      · rw [if_pos (by simpa using hab), alive21]; rfl
      · rw [if_neg (by simpa using hab), Path_eq t s a hT, bindM_some, Path_eq t s b hT, bindM_some]
        have h1 := pathI_len t s a hT
        have h2 := pathI_len t s b hT
        have hno : ((pathI t s a).any fun x => (pathI t s b).any fun y => decide (x = y)) = false := by
          have hf := sound_fits hso
          by_cases h3 : 0 ≤ a ∧ a < t.routes.length
          · by_cases h4 : 0 ≤ b ∧ b < t.routes.length
            · obtain ⟨i, rfl⟩ := Int.eq_ofNat_of_zero_le h3.1
              obtain ⟨j, rfl⟩ := Int.eq_ofNat_of_zero_le h4.1
              have hi : i < t.routes.length := by omega
              have hj : j < t.routes.length := by omega
              rw [pathI_at hf (fitsAt hf hi), pathI_at hf (fitsAt hf hj)]
              have := sound_paths hso hi hj (by omega)
              unfold meetB at this
              rw [List.any_eq_false] at this ⊢
              intro x hx
              have h5 := this x hx
              simpa using h5
            · have : pathI t s b = [] := lockI_no (by omega)
              rw [this]; simp
          · have : pathI t s a = [] := lockI_no (by omega)
            rw [this]; rfl
        rw [loop_any (pathI t s a) (fun x => (pathI t s b).any fun y => decide (x = y)) (.inr false) (.inl ()) (by omega) (fun i x hx => ?_) (by rw [if_neg (by omega)]; rfl), hno]
        · simp only [Bool.false_eq_true, if_false, bindS_inl, alive21, bindM_some]
        · have hi := (List.getElem?_eq_some_iff.1 hx).1
          have hg : I64 ((i : Int) + 1) := i64_nat hi (by omega)
          rw [if_pos (by omega), loop_any (pathI t s b) (fun y => decide (x = y)) (.inr (.inr (.inr false))) (.inl ()) (by omega) (fun j y hy => ?_) (by rw [if_neg (by omega)]; rfl)]
          · cases (pathI t s b).any fun y => decide (x = y)
            · simp only [Bool.false_eq_true, if_false, bindS_inl, guardM_true hg]
            · simp only [if_true]; rfl
          · have hj := (List.getElem?_eq_some_iff.1 hy).1
            rw [if_pos (by omega), getM_at hx, getM_at hy]
            by_cases he : x = y
            · rw [if_pos he, if_pos (by simpa using he)]; rfl
            · rw [if_neg he, if_neg (by simpa using he), guardM_true (i64_nat hj (by omega))]

end Go.Proofs.Ytckkkfgjgjoemaa
