/- Locks: the reference's Free; what routes lock. No condition. -/
import Derived.Test.YtckkkfgjgjoemaaLoG
set_option linter.unusedSimpArgs false
set_option linter.unusedVariables false
namespace Go.Proofs.Ytckkkfgjgjoemaa
open Go Go.TL

theorem busy21_eq (t : Table) (s : Inter) (h : TOk t) (hf : fitsB t s = true) {i : Nat} (hi : i < t.routes.length) : ref21_busy t s (i : Int) = some ((List.range t.routes.length).any (busyAt t s i)) := by
  have H := fitsAt hf hi
  have hS := h.each _ H.mem
  have hrl := h.routes
  have hsec := hS.secs
  unfold ref21_busy
  rw [getM_at H.r]
  rw [loop_anyI t.routes.length (busyAt t s i) (.inr true) (.inl ()) (by omega) (fun o ho => ?_) (by rw [if_neg (by omega)]; rfl)]
  · cases (List.range t.routes.length).any (busyAt t s i)
    · rfl
    · simp only [if_true]; rfl
  · have H' := fitsAt hf ho
    have hg : I64 ((o : Int) + 1) := i64_nat ho (by omega)
    have c1 : Cnt (rAt t i).sections := by unfold Cnt; omega
    have c2 : Cnt (rAt t i).overSections := by unfold Cnt; omega
    have c3 := pathAt_cnt h H'
    have c4 := overAt_cnt h H'
    rw [if_pos (by omega)]
    unfold busyAt
    by_cases hio : o = i
    · subst hio; simp [guardM_true hg]
    · rw [if_neg (by omega), path21At h H', over21At h H', follows21_eq t H.r H'.r, follows21_eq t H'.r H.r, decide_eq_false hio]
      simp only [bindM_some]
      rw [meet21_eq _ _ c1 c3, meet21_eq _ _ c1 c4, meet21_eq _ _ c2 c3, meet21_eq _ _ c2 c4]
      simp only [bindM_some]
      unfold clashB
      generalize meetB (rAt t i).sections (pathAt t s o) = m1
      generalize meetB (rAt t i).sections (overAt t s o) = m2
      generalize meetB (rAt t i).overSections (pathAt t s o) = m3
      generalize meetB (rAt t i).overSections (overAt t s o) = m4
      generalize followB (rAt t i) (rAt t o) = f1
      generalize followB (rAt t o) (rAt t i) = f2
      cases m1 <;> cases m2 <;> cases m3 <;> cases m4 <;> cases f1 <;> cases f2 <;> simp [guardM_true hg]

theorem contra21_eq (t : Table) (s : Inter) (h : TOk t) (hso : SOk t) (hf : fitsB t s = true) {i : Nat} (hi : i < t.routes.length) : ref21_contradicted t s (i : Int) = some ((List.range t.routes.length).any (contraAt t s i)) := by
  have H := fitsAt hf hi
  have hS := h.each _ H.mem
  have hrl := h.routes
  have hc := (fitsB_iff.1 hf).1
  have hall : (allS (rAt t i)).length ≤ 3000000 := by have := hS.points; have := hS.over; have := hS.flank; simp [allS]; omega
  have hasc := Nat.le_trans (ascS_len (allS (rAt t i))) hall
  unfold ref21_contradicted
  rw [getM_at H.r, Settings16_eq _ hS, bindM_some]
  rw [loop_anyI t.routes.length (contraAt t s i) (.inr true) (.inl ()) (by omega) (fun o ho => ?_) (by rw [if_neg (by omega)]; rfl)]
  · cases (List.range t.routes.length).any (contraAt t s i)
    · rfl
    · simp only [if_true]; rfl
  · have H' := fitsAt hf ho
    have hg : I64 ((o : Int) + 1) := i64_nat ho (by omega)
    have hbl := boundR_len t (rAt t o) (xAt s o) (h.each _ H'.mem)
    rw [if_pos (by omega), bound21_eq t s h hso hc H'.r H'.x H'.fits, bindM_some]
    unfold contraAt
    by_cases hio : o = i
    · subst hio
      rw [loop_to (fun _ => (0 : Int)) 0 (o := (Sum.inl () : Unit ⊕ (Int ⊕ (Unit ⊕ Bool)))) rfl (by omega) (fun j hj => absurd hj (Nat.not_lt_zero j)) (by simp)]
      simp [guardM_true hg]
    · have hne : ¬ (o : Int) = (i : Int) := by omega
      rw [loop_any (boundR t (rAt t o) (xAt s o)) (fun e => (ascS (allS (rAt t i))).any fun x => decide (x.el = e.el) && !decide (x.pos = e.pos)) (.inr (.inr (.inr true))) (.inl ()) (by omega) (fun j e he => ?_) (by rw [if_neg (by simp)]; rfl)]
      · have e1 : ((boundR t (rAt t o) (xAt s o)).any fun e => (ascS (allS (rAt t i))).any fun x => decide (x.el = e.el) && !decide (x.pos = e.pos)) = !agreeB (ascS (allS (rAt t i))) (boundAt t s o) := by
          rw [← agree_any, show boundAt t s o = boundR t (rAt t o) (xAt s o) from rfl, Bool.eq_iff_iff]
          simp only [List.any_eq_true]
          constructor
          · rintro ⟨e, he, x, hx, h1⟩; exact ⟨x, hx, e, he, h1⟩
          · rintro ⟨e, he, x, hx, h1⟩; exact ⟨x, hx, e, he, h1⟩
        rw [e1, decide_eq_false hio]
        cases agreeB (ascS (allS (rAt t i))) (boundAt t s o)
        · simp only [Bool.not_false, Bool.and_self, if_true]; rfl
        · simp [guardM_true hg]
      · have hj := (List.getElem?_eq_some_iff.1 he).1
        have hg2 : I64 ((j : Int) + 1) := i64_nat hj (by omega)
        rw [if_pos (by simp [hne]; omega)]
        rw [loop_any (ascS (allS (rAt t i))) (fun x => decide (x.el = e.el) && !decide (x.pos = e.pos)) (.inr (.inr (.inr (.inr (.inr true))))) (.inl ()) (by omega) (fun k x hx => ?_) (by rw [if_neg (by omega)]; rfl)]
        · cases ((ascS (allS (rAt t i))).any fun x => decide (x.el = e.el) && !decide (x.pos = e.pos))
          · simp [guardM_true hg2]
          · simp only [if_true]; rfl
        · have hk := (List.getElem?_eq_some_iff.1 hx).1
          have hg3 : I64 ((k : Int) + 1) := i64_nat hk (by omega)
          rw [if_pos (by omega), getM_at hx, getM_at he, getM_at hx, getM_at he]
          by_cases h1 : x.el = e.el
          · rw [if_pos h1, bindM_some, decide_eq_true h1, Bool.true_and]
            cases decide (x.pos = e.pos)
            · simp only [Bool.not_false, if_true]; rfl
            · simp [guardM_true hg3]
          · rw [if_neg h1, bindM_some, decide_eq_false h1]
            simp [guardM_true hg3]

theorem closedLoop (l : List Int) (hl : l.length ≤ 1000000) (p : Inputs) : loopM (fun x12 =>
          if x12 < (l.length : Int) then
            getM l x12 fun e15 =>
            bindM (ref21_Closed p e15) fun r16 =>
            if r16 = true then
              inrM (
                inrM (
                  some (13 : Int)))
            else
              guardM (I64 (x12 + (1 : Int))) <|
              some (.inl (x12 + (1 : Int)))
          else
            inrM (
              some (.inl ()))) (0 : Int) = some (if l.any (closedB p.closed) = true then Sum.inr (13 : Int) else Sum.inl ()) := by
  refine loop_any l (closedB p.closed) (Sum.inr (13 : Int)) (Sum.inl ()) (by omega) (fun i e he => ?_) (by rw [if_neg (by omega)]; rfl)
  have hi := (List.getElem?_eq_some_iff.1 he).1
  rw [if_pos (by omega), getM_at he, closed21_eq, bindM_some]
  cases closedB p.closed e
  · simp [guardM_true (i64_nat hi (show l.length ≤ 9223372036854775807 by omega))]
  · simp only [if_true]; rfl

theorem needLoop21 (t : Table) (s : Inter) (p : Inputs) (h : TOk t) (hf : fitsB t s = true) (l : List Setting) (hl : l.length ≤ 3000000) (hm : ∀ e ∈ l, ∃ k, indexI t.points e.el = some k ∧ k < t.points.length) :
    loopM (fun x41 =>
              if x41 < (l.length : Int) then
                getM l x41 fun e44 =>
                bindM (ref16_Index t e44.el) fun r45 =>
                bindM (
                  getM s.lies r45 fun e48 =>
                  getM l x41 fun e49 =>
                  if e48 = e49.pos then
                    some false
                  else
                    getM t.homes r45 fun e51 =>
                    bindM (ref21_occupied p e51) fun r52 =>
                    some r52) fun x46 =>
                if x46 = true then
                  inrM (
                    inrM (
                      some (14 : Int)))
                else
                  guardM (I64 (x41 + (1 : Int))) <|
                  some (.inl (x41 + (1 : Int)))
              else
                inrM (
                  some (.inl ()))) (0 : Int) = some (if l.any (blockedB t s p) = true then Sum.inr (14 : Int) else Sum.inl ()) := by
  have hc := (fitsB_iff.1 hf).1
  refine loop_any l (blockedB t s p) (Sum.inr (14 : Int)) (Sum.inl ()) (by omega) (fun i e he => ?_) (by rw [if_neg (by omega)]; rfl)
  have hi := (List.getElem?_eq_some_iff.1 he).1
  obtain ⟨k, hk, hkl⟩ := hm e (List.mem_of_getElem? he)
  have hp := h.points
  have hg1 : I64 ((i : Int) + 1) := i64_nat hi (by omega)
  rw [if_pos (by omega), getM_at he, index16_eq t e.el (by unfold Cnt; omega), bindM_some, hk, show idxI (some k) = (k : Int) from rfl, getM_at (lies_at hf hk), getM_at he]
  unfold blockedB
  by_cases h1 : lieOf t s e.el = e.pos
  · rw [if_pos h1, bindM_some]; simp [h1, guardM_true hg1]
  · rw [if_neg h1, getM_at (homes_at hc hk), occupied21_eq, bindM_some, bindM_some]
    cases closedB p.occupied (homeOf t e.el)
    · simp [guardM_true hg1]
    · simp [h1]

theorem free21_eq (t : Table) (s : Inter) (p : Inputs) (n : Int) (h : TOk t) (ho : SOk t) : ref21_Free t s p n = some (freeI t s p n) := by
  unfold ref21_Free freeI
  rw [sound21_eq t s h ho, bindM_some, headM, bindM_some]
  by_cases hd : soundB t s = false ∨ n < 0 ∨ (t.routes.length : Int) ≤ n
  · rw [if_pos (decide_eq_true hd), if_pos hd]
  · rw [if_neg (by simpa using hd), if_neg hd]
    have hs : soundB t s = true := by
      cases h1 : soundB t s with
      | true => rfl
      | false => exact absurd (.inl h1) hd
    have hf := sound_fits hs
    have hc := (fitsB_iff.1 hf).1
    obtain ⟨i, rfl⟩ := Int.eq_ofNat_of_zero_le (show 0 ≤ n from by omega)
    have hi : i < t.routes.length := by omega
    have H := fitsAt hf hi
    have hS := h.each _ H.mem
    have hsec := hS.secs
    have hall : (allS (rAt t i)).length ≤ 3000000 := by have := hS.points; have := hS.over; have := hS.flank; simp [allS]; omega
    have hasc := Nat.le_trans (ascS_len (allS (rAt t i))) hall
    rw [show ((i : Int)).toNat = i from rfl, getM_at H.x]
    by_cases h0 : (xAt s i).state = 0
    · rw [if_pos h0, if_neg (fun h => h h0), getM_at H.r, closedLoop _ (by omega) p, List.any_append]
      cases (rAt t i).sections.any (closedB p.closed)
      · simp only [Bool.false_eq_true, if_false, bindS_inl, Bool.false_or]
        rw [closedLoop _ (by omega) p]
        cases (rAt t i).overSections.any (closedB p.closed)
        · simp only [Bool.false_eq_true, if_false, bindS_inl]
          rw [busy21_eq t s h hf hi, bindM_some]
          cases (List.range t.routes.length).any (busyAt t s i)
          · simp only [Bool.false_eq_true, if_false]
            rw [contra21_eq t s h ho hf hi, bindM_some]
            cases (List.range t.routes.length).any (contraAt t s i)
            · simp only [Bool.false_eq_true, if_false]
              rw [Settings16_eq _ hS, bindM_some, needLoop21 t s p h hf _ hasc (fun e he => sett_index ((check_all hc).2.2.1 _ H.mem).2 (ascS_mem.1 he))]
              cases (ascS (allS (rAt t i))).any (blockedB t s p) <;> simp
            · simp
          · simp
        · simp
      · simp
    · rw [if_neg h0, if_pos h0]

/-! ### Bound -/

theorem boundI_at {t : Table} {s : Inter} {i : Nat} (hf : fitsB t s = true) (H : FitsAt t s i) : boundI t s (i : Int) = boundAt t s i := by
  unfold boundI
  rw [if_pos ⟨hf, by omega⟩, show ((i : Int)).toNat = i from rfl, H.r, H.x]
  rfl
theorem boundI_no {t : Table} {s : Inter} {n : Int} (hd : ¬ (0 ≤ n ∧ n < t.routes.length ∧ fitsB t s = true)) : boundI t s n = [] := by
  unfold boundI
  by_cases h1 : fitsB t s = true ∧ 0 ≤ n
  · rw [if_pos h1, List.getElem?_eq_none (l := t.routes) (by have : ¬ n < t.routes.length := fun h2 => hd ⟨h1.2, h2, h1.1⟩; omega)]
  · rw [if_neg h1]

theorem Bound_eq (t : Table) (s : Inter) (n : Int) (h : TOk t) (ho : SOk t) : locks_Bound t s n = some (boundI t s n) := by
  unfold locks_Bound
  rw [lock_head t s n h, bindM_some]
  by_cases hd : 0 ≤ n ∧ n < t.routes.length ∧ fitsB t s = true
  · obtain ⟨i, rfl⟩ := Int.eq_ofNat_of_zero_le hd.1
    have H := fitsAt hd.2.2 (i := i) (by omega)
    rw [decide_eq_true hd, boundI_at hd.2.2 H, getM_at H.r, getM_at H.x, lbound_eq t _ _ h ho (fitsB_iff.1 hd.2.2).1 H.mem (rel_fits H.fits)]
    rfl
  · rw [decide_eq_false hd, boundI_no hd]
    rfl

theorem Bound21_eq (t : Table) (s : Inter) (n : Int) (h : TOk t) (ho : SOk t) : ref21_Bound t s n = some (boundI t s n) := by
  unfold ref21_Bound
  rw [locked21_eq t s n h, bindM_some]
  by_cases hd : 0 ≤ n ∧ n < t.routes.length ∧ fitsB t s = true
  · obtain ⟨i, rfl⟩ := Int.eq_ofNat_of_zero_le hd.1
    have H := fitsAt hd.2.2 (i := i) (by omega)
    have hl : lockedB t s (i : Int) = !decide ((xAt s i).state = 0) := by
      unfold lockedB
      rw [decide_eq_true hd, show ((i : Int)).toNat = i from rfl, H.x, Bool.true_and]
      simp
    rw [hl, boundI_at hd.2.2 H, bound21_eq t s h ho (fitsB_iff.1 hd.2.2).1 H.r H.x H.fits]
    by_cases h0 : (xAt s i).state = 0
    · simp [h0, boundR, boundAt]
    · simp [h0, boundAt]
  · rw [boundI_no hd]
    unfold lockedB
    rw [decide_eq_false hd]
    rfl

end Go.Proofs.Ytckkkfgjgjoemaa
