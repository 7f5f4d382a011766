/- Locks: the reference's Sound; Free. No condition. -/
import Derived.Test.YtckkkfgjgjoemaaLoE
set_option linter.unusedSimpArgs false
set_option linter.unusedVariables false
namespace Go.Proofs.Ytckkkfgjgjoemaa
open Go Go.TL

theorem bindM_assoc {α β γ : Type} (m : Option α) (k : α → Option β) (l : β → Option γ) : bindM (bindM m k) l = bindM m fun a => bindM (k a) l := by cases m <;> rfl

/-- Two routes do not contradict each other, as the reference asks it: one way. -/
def apartAt (t : Table) (s : Inter) (a b : Nat) : Bool :=
  !(meetB (pathAt t s a) (pathAt t s b) || (meetB (overAt t s a) (pathAt t s b) && !followB (rAt t a) (rAt t b))) && (!meetB (overAt t s a) (overAt t s b) || followB (rAt t a) (rAt t b) || followB (rAt t b) (rAt t a))
theorem clash_apart (t : Table) (s : Inter) (a b : Nat) : (!clashAt t s a b) = (apartAt t s a b && apartAt t s b a) := by
  unfold clashAt clashB apartAt
  rw [meetB_comm (pathAt t s b) (pathAt t s a), meetB_comm (overAt t s b) (pathAt t s a), meetB_comm (overAt t s b) (overAt t s a)]
  cases meetB (pathAt t s a) (pathAt t s b) <;> cases meetB (overAt t s a) (pathAt t s b) <;> cases meetB (pathAt t s a) (overAt t s b) <;> cases meetB (overAt t s a) (overAt t s b) <;> cases followB (rAt t a) (rAt t b) <;> cases followB (rAt t b) (rAt t a) <;> rfl
theorem clash_symm (t : Table) (s : Inter) (a b : Nat) : clashAt t s a b = clashAt t s b a := by
  have h1 := clash_apart t s a b
  have h2 := clash_apart t s b a
  rw [Bool.and_comm, ← h1] at h2
  simpa using h2.symm

theorem path21At {t : Table} {s : Inter} (h : TOk t) {i : Nat} (H : FitsAt t s i) : ref21_path t s (i : Int) = some (pathAt t s i) := path21_eq t s h H.r H.x H.fits
theorem over21At {t : Table} {s : Inter} (h : TOk t) {i : Nat} (H : FitsAt t s i) : ref21_over t s (i : Int) = some (overAt t s i) := over21_eq t s h H.r H.x
theorem pathAt_cnt {t : Table} {s : Inter} (h : TOk t) {i : Nat} (H : FitsAt t s i) : Cnt (pathAt t s i) := by have := pathR_len _ (xAt s i) (h.each _ H.mem); unfold Cnt pathAt; omega
theorem overAt_cnt {t : Table} {s : Inter} (h : TOk t) {i : Nat} (H : FitsAt t s i) : Cnt (overAt t s i) := by have := overR_len _ (xAt s i) (h.each _ H.mem); unfold Cnt overAt; omega

theorem apart_eq {t : Table} {s : Inter} (h : TOk t) {a b : Nat} (H : FitsAt t s a) (H' : FitsAt t s b) : ref21_apart t s (a : Int) (b : Int) = some (apartAt t s a b) := by
  have c1 := pathAt_cnt h H
  have c2 := pathAt_cnt h H'
  have c3 := overAt_cnt h H
  have c4 := overAt_cnt h H'
  unfold ref21_apart apartAt
  rw [path21At h H, path21At h H', over21At h H, over21At h H', follows21_eq t H.r H'.r, follows21_eq t H'.r H.r]
  simp only [bindM_some]
  rw [meet21_eq _ _ c1 c2, meet21_eq _ _ c3 c2, meet21_eq _ _ c3 c4]
  simp only [bindM_some]
  cases meetB (pathAt t s a) (pathAt t s b) <;> cases meetB (overAt t s a) (pathAt t s b) <;> cases meetB (overAt t s a) (overAt t s b) <;> cases followB (rAt t a) (rAt t b) <;> cases followB (rAt t b) (rAt t a) <;> rfl

theorem sound_ref (t : Table) (s : Inter) : soundB t s = (fitsB t s && allB t.routes.length fun a => (boundAt t s a).all (lieOk t s) && allB t.routes.length fun b => decide (a = b) || apartAt t s a b) := by
  unfold soundB
  rw [Bool.eq_iff_iff]
  simp only [Bool.and_eq_true, allB_iff, Bool.or_eq_true, decide_eq_true_eq]
  constructor
  · rintro ⟨⟨h1, h2⟩, h3⟩
    refine ⟨h1, fun a ha => ⟨h3 a ha, fun b hb => ?_⟩⟩
    rcases Nat.lt_trichotomy a b with hl | hl | hl
    · have := h2 b hb a hl
      rw [clash_apart, Bool.and_eq_true] at this
      exact .inr this.2
    · exact .inl hl
    · have := h2 a ha b hl
      rw [clash_apart, Bool.and_eq_true] at this
      exact .inr this.1
  · rintro ⟨h1, h2⟩
    refine ⟨⟨h1, fun a ha b hb => ?_⟩, fun a ha => (h2 a ha).1⟩
    rw [clash_apart, Bool.and_eq_true]
    rcases (h2 a ha).2 b (by omega) with h | h
    · omega
    · rcases (h2 b (by omega)).2 a ha with h' | h'
      · omega
      · exact ⟨h, h'⟩

theorem sound21_eq (t : Table) (s : Inter) (h : TOk t) (ho : SOk t) : ref21_Sound t s = some (soundB t s) := by
  rw [sound_ref]
  unfold ref21_Sound
  rw [fits21_eq t s h, bindM_some]
  by_cases hf : fitsB t s = true
  · have hc := (fitsB_iff.1 hf).1
    have hrl := h.routes
    rw [hf, if_neg (by simp), Bool.true_and]
    rw [loop_anyI t.routes.length (fun a => !((boundAt t s a).all (lieOk t s) && allB t.routes.length fun b => decide (a = b) || apartAt t s a b)) (.inr false) (.inl ()) (by omega) (fun a ha => ?_) (by rw [if_neg (by omega)]; rfl)]
    · rw [anyB_all]
      simp only [Bool.not_not]
      cases (allB t.routes.length fun a => (boundAt t s a).all (lieOk t s) && allB t.routes.length fun b => decide (a = b) || apartAt t s a b) <;> rfl
    · have H := fitsAt hf ha
      have hbl := boundR_len t (rAt t a) (xAt s a) (h.each _ H.mem)
      rw [if_pos (by omega), bound21_eq t s h ho hc H.r H.x H.fits, bindM_some]
      rw [loop_any (boundR t (rAt t a) (xAt s a)) (fun e => !lieOk t s e) (.inr (.inr (.inr (.inr false)))) (.inl ()) (by omega) (fun i e he => ?_) (by rw [if_neg (by omega)]; rfl)]
      · rw [show boundAt t s a = boundR t (rAt t a) (xAt s a) from rfl, not_all_any' (boundR t (rAt t a) (xAt s a)) (lieOk t s)]
        cases hA : ((boundR t (rAt t a) (xAt s a)).all (lieOk t s))
        · simp only [Bool.not_false, Bool.false_and, if_true]; rfl
        · rw [if_neg (by simp), bindS_inl, Bool.true_and]
          rw [loop_anyI t.routes.length (fun b => !(decide (a = b) || apartAt t s a b)) (.inr (.inr (.inr false))) (.inl ()) (by omega) (fun b hb => ?_) (by rw [if_neg (by omega)]; rfl)]
          · rw [anyB_all]
            simp only [Bool.not_not]
            have hg : I64 ((a : Int) + 1) := i64_nat ha (by omega)
            cases (allB t.routes.length fun b => decide (a = b) || apartAt t s a b)
            · simp only [Bool.not_false, Bool.false_and, if_true]; rfl
            · simp only [Bool.not_true, Bool.false_eq_true, if_false, bindS_inl, guardM_true hg]
          · have H' := fitsAt hf hb
            have hg : I64 ((b : Int) + 1) := i64_nat hb (by omega)
            rw [if_pos (by omega), apart_eq h H H', bindM_some]
            by_cases hab : a = b
            · subst hab; simp [guardM_true hg]
            · rw [if_neg (by omega), bindM_some, decide_eq_false hab, Bool.false_or]
              cases apartAt t s a b
              · simp only [Bool.not_false, Bool.false_and, if_true]; rfl
              · simp only [Bool.not_true, Bool.false_eq_true, if_false, guardM_true hg]
      · have hi := (List.getElem?_eq_some_iff.1 he).1
        obtain ⟨k, hk, hkl⟩ := sett_index ((check_all hc).2.2.1 _ H.mem).2 (boundR_mem (List.mem_of_getElem? he))
        have hp := h.points
        rw [if_pos (by omega), getM_at he, index16_eq t e.el (by unfold Cnt; omega), bindM_some, hk, show idxI (some k) = (k : Int) from rfl, getM_at (lies_at hf hk), getM_at he]
        unfold lieOk
        by_cases h1 : lieOf t s e.el = e.pos
        · rw [if_pos h1, if_neg (by simpa using h1), guardM_true (i64_nat hi (by omega))]
        · rw [if_neg h1, if_pos (by simpa using h1)]; rfl
  · simp only [Bool.not_eq_true] at hf
    rw [hf]
    rfl

end Go.Proofs.Ytckkkfgjgjoemaa
