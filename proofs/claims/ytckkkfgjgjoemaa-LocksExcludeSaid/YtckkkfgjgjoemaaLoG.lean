/- Locks: why a route cannot be called. No condition. -/
import Derived.Test.YtckkkfgjgjoemaaLoF
set_option linter.unusedSimpArgs false
set_option linter.unusedVariables false
namespace Go.Proofs.Ytckkkfgjgjoemaa
open Go Go.TL

/-- Is an input of a section true or missing? -/
def closedB (l : List Bool) (n : Int) : Bool := if n < 0 then true else if (l.length : Int) ≤ n then true else l.getD n.toNat false
theorem closedM (l : List Bool) (n : Int) : (bindM (if n < (0 : Int) then some true else if (l.length : Int) ≤ n then some true else getM l n fun e5 => some e5) fun x1 => some x1) = some (closedB l n) := by
  unfold closedB
  by_cases h1 : n < 0
  · rw [if_pos h1, if_pos h1]; rfl
  · rw [if_neg h1, if_neg h1]
    by_cases h2 : (l.length : Int) ≤ n
    · rw [if_pos h2, if_pos h2]; rfl
    · rw [if_neg h2, if_neg h2]
      obtain ⟨i, rfl⟩ := Int.eq_ofNat_of_zero_le (show 0 ≤ n by omega)
      have he : l[i]? = some (l.getD i false) := by rw [List.getD_eq_getElem?_getD, List.getElem?_eq_getElem (by omega)]; rfl
      rw [getM_at he]; rfl
theorem restrictive_eq (l : List Bool) (n : Int) : locks_restrictive l n = some (closedB l n) := closedM l n
theorem closed21_eq (p : Inputs) (n : Int) : ref21_Closed p n = some (closedB p.closed n) := closedM p.closed n
theorem occupied21_eq (p : Inputs) (n : Int) : ref21_occupied p n = some (closedB p.occupied n) := closedM p.occupied n

def setX : RouteState := ⟨1, 0, 0⟩
theorem setX_fits (n : Nat) : routeFitsB setX n = true := rfl
theorem pathR_set (r : Route) : pathR r setX = r.sections := rfl
theorem overR_set (r : Route) : overR r setX = r.overSections := rfl

def busyAt (t : Table) (s : Inter) (i o : Nat) : Bool := !decide (o = i) && clashB (rAt t i) (rAt t o) (rAt t i).sections (rAt t i).overSections (pathAt t s o) (overAt t s o)
def contraAt (t : Table) (s : Inter) (i o : Nat) : Bool := !decide (o = i) && !agreeB (ascS (allS (rAt t i))) (boundAt t s o)
def blockedB (t : Table) (s : Inter) (p : Inputs) (e : Setting) : Bool := !decide (lieOf t s e.el = e.pos) && closedB p.occupied (homeOf t e.el)
/-- Why a route cannot be called. -/
def freeI (t : Table) (s : Inter) (p : Inputs) (n : Int) : Int :=
  if soundB t s = false ∨ n < 0 ∨ (t.routes.length : Int) ≤ n then 1
  else if ¬ (xAt s n.toNat).state = 0 then 11
  else if ((rAt t n.toNat).sections ++ (rAt t n.toNat).overSections).any (closedB p.closed) = true then 13
  else if (List.range t.routes.length).any (busyAt t s n.toNat) = true then 12
  else if (List.range t.routes.length).any (contraAt t s n.toNat) = true then 10
  else if (ascS (allS (rAt t n.toNat))).any (blockedB t s p) = true then 14
  else 0

theorem sound_fits {t : Table} {s : Inter} (h : soundB t s = true) : fitsB t s = true := by
  unfold soundB at h
  rw [Bool.and_eq_true, Bool.and_eq_true] at h
  exact h.1.1

theorem headM (b : Bool) (n : Int) (L : Nat) : (if (!b) = true then some true else if n < (0 : Int) then some true else some (decide ((L : Int) ≤ n))) = some (decide (b = false ∨ n < 0 ∨ (L : Int) ≤ n)) := by
  cases b
  · simp
  · simp only [Bool.not_true, Bool.false_eq_true, if_false, false_or]
    by_cases h : n < 0
    · simp [h]
    · simp [h]

theorem needLoop (t : Table) (s : Inter) (p : Inputs) (h : TOk t) (hf : fitsB t s = true) (l : List Setting) (hl : l.length ≤ 3000000) (hm : ∀ e ∈ l, ∃ k, indexI t.points e.el = some k ∧ k < t.points.length) (g : Int → Option Bool) (hg : ∀ n, g n = some (closedB p.occupied n)) :
    loopM (fun x60 =>
          if x60 < (l.length : Int) then
            getM l x60 fun e63 =>
            bindM (table_Index t e63.el) fun r64 =>
            bindM (
              getM s.lies r64 fun e67 =>
              if e67 = e63.pos then
                some false
              else
                getM t.homes r64 fun e69 =>
                bindM (g e69) fun r70 =>
                some r70) fun x65 =>
            if x65 = true then
              inrM (
                inrM (
                  some (14 : Int)))
            else
              guardM (I64 (x60 + (1 : Int))) <|
              some (.inl (x60 + (1 : Int)))
          else
            inrM (
              some (.inl ()))) (0 : Int) = some (if l.any (blockedB t s p) = true then Sum.inr (14 : Int) else Sum.inl ()) := by
  have hc := (fitsB_iff.1 hf).1
  refine loop_any l (blockedB t s p) (Sum.inr (14 : Int)) (Sum.inl ()) (by omega) (fun i e he => ?_) (by rw [if_neg (by omega)]; rfl)
  have hi := (List.getElem?_eq_some_iff.1 he).1
  obtain ⟨k, hk, hkl⟩ := hm e (List.mem_of_getElem? he)
  have hp := h.points
  have hg1 : I64 ((i : Int) + 1) := i64_nat hi (by omega)
  rw [if_pos (by omega), getM_at he, tindex_eq t e.el (by unfold Cnt; omega), bindM_some, hk, show idxI (some k) = (k : Int) from rfl, getM_at (lies_at hf hk)]
  unfold blockedB
  by_cases h1 : lieOf t s e.el = e.pos
  · rw [if_pos h1, bindM_some]; simp [h1, guardM_true hg1]
  · rw [if_neg h1, getM_at (homes_at hc hk), hg, bindM_some, bindM_some]
    cases closedB p.occupied (homeOf t e.el)
    · simp [guardM_true hg1]
    · simp [h1]

theorem free_eq (t : Table) (s : Inter) (p : Inputs) (n : Int) (h : TOk t) (ho : SOk t) : locks_Free t s p n = some (freeI t s p n) := by
  unfold locks_Free freeI
  rw [sound_eq t s h ho, bindM_some, headM, bindM_some]
  by_cases hd : soundB t s = false ∨ n < 0 ∨ (t.routes.length : Int) ≤ n
  · rw [if_pos (decide_eq_true hd), if_pos hd]
  · rw [if_neg (by simpa using hd), if_neg hd]
    have hs : soundB t s = true := by
      cases h1 : soundB t s with
      | true => rfl
      | false => exact absurd (.inl h1) hd
    have hf := sound_fits hs
    have hc := (fitsB_iff.1 hf).1
    obtain ⟨i, rfl⟩ := Int.eq_ofNat_of_zero_le (show 0 ≤ n from by omega)
    have hi : i < t.routes.length := by omega
    have hrl := h.routes
    have H := fitsAt hf hi
    have hS := h.each _ H.mem
    have hall : (allS (rAt t i)).length ≤ 3000000 := by have := hS.points; have := hS.over; have := hS.flank; simp [allS]; omega
    have hasc := Nat.le_trans (ascS_len (allS (rAt t i))) hall
    rw [show ((i : Int)).toNat = i from rfl, getM_at H.x]
    by_cases h0 : (xAt s i).state = 0
    · rw [if_pos h0, if_neg (fun h => h h0), getM_at H.r, show (⟨1, 0, 0⟩ : RouteState) = setX from rfl, locked_eq _ _ hS (setX_fits _), bindM_some]
      have hwl : (lockedL (rAt t i) setX).length ≤ 2000000 := by
        have h1 := pathR_len _ setX hS
        have h2 := overR_len _ setX hS
        unfold lockedL; simp; omega
      rw [loop_any (lockedL (rAt t i) setX) (fun e => closedB p.closed e.a0) (.inr 13) (.inl ()) (by omega) (fun j e he => ?_) (by rw [if_neg (by omega)]; rfl)]
      · have e1 : ((lockedL (rAt t i) setX).any fun e => closedB p.closed e.a0) = ((rAt t i).sections ++ (rAt t i).overSections).any (closedB p.closed) := by
          unfold lockedL
          rw [List.any_append, List.any_append, List.any_map, List.any_map, pathR_set, overR_set]
          rfl
        rw [e1]
        cases ((rAt t i).sections ++ (rAt t i).overSections).any (closedB p.closed)
        · simp only [Bool.false_eq_true, if_false, bindS_inl]
          rw [loop_anyI t.routes.length (busyAt t s i) (.inr 12) (.inl ()) (by omega) (fun o hoo => ?_) (by rw [if_neg (by omega)]; rfl)]
          · cases (List.range t.routes.length).any (busyAt t s i)
            · simp only [Bool.false_eq_true, if_false, bindS_inl]
              rw [settings_eq _ hS (ho _ H.mem), bindM_some]
              rw [loop_anyI t.routes.length (contraAt t s i) (.inr 10) (.inl ()) (by omega) (fun o hoo => ?_) (by rw [if_neg (by omega)]; rfl)]
              · cases (List.range t.routes.length).any (contraAt t s i)
                · simp only [Bool.false_eq_true, if_false, bindS_inl]
                  rw [needLoop t s p h hf _ hasc (fun e he => sett_index ((check_all hc).2.2.1 _ H.mem).2 (ascS_mem.1 he)) (locks_restrictive p.occupied) (restrictive_eq p.occupied)]
                  cases (ascS (allS (rAt t i))).any (blockedB t s p) <;> rfl
                · simp only [if_true]; rfl
              · have H' := fitsAt hf hoo
                have hg : I64 ((o : Int) + 1) := i64_nat hoo (by omega)
                have hbl := boundR_len t (rAt t o) (xAt s o) (h.each _ H'.mem)
                rw [if_pos (by omega), getM_at H'.r]
                unfold contraAt
                by_cases hio : o = i
                · subst hio; simp [guardM_true hg]
                · rw [if_neg (by omega), getM_at H'.x, lbound_eq t _ _ h ho hc H'.mem (rel_fits H'.fits), bindM_some, agree_eq _ _ (by unfold Cnt; omega) (by unfold Cnt; omega), bindM_some, bindM_some, decide_eq_false hio]
                  rw [show boundAt t s o = boundR t (rAt t o) (xAt s o) from rfl]
                  cases agreeB (ascS (allS (rAt t i))) (boundR t (rAt t o) (xAt s o))
                  · simp only [Bool.not_false, Bool.and_self, if_true]; rfl
                  · simp [guardM_true hg]
            · simp only [if_true]; rfl
          · have H' := fitsAt hf hoo
            have hg : I64 ((o : Int) + 1) := i64_nat hoo (by omega)
            rw [if_pos (by omega), getM_at H'.r]
            unfold busyAt
            by_cases hio : o = i
            · subst hio; simp [guardM_true hg]
            · rw [if_neg (by omega), getM_at H'.x, locked_eq _ _ (h.each _ H'.mem) H'.fits, bindM_some, clashR_eq h hc H.mem H'.mem, bindM_some, bindM_some, decide_eq_false hio, pathR_set, overR_set]
              rw [show pathR (rAt t o) (xAt s o) = pathAt t s o from rfl, show overR (rAt t o) (xAt s o) = overAt t s o from rfl]
              cases clashB (rAt t i) (rAt t o) (rAt t i).sections (rAt t i).overSections (pathAt t s o) (overAt t s o)
              · simp [guardM_true hg]
              · simp only [Bool.not_false, Bool.and_self, if_true]; rfl
        · simp only [if_true]; rfl
      · have hj := (List.getElem?_eq_some_iff.1 he).1
        rw [if_pos (by omega), getM_at he, restrictive_eq, bindM_some]
        cases closedB p.closed e.a0
        · simp [guardM_true (i64_nat hj (show (lockedL (rAt t i) setX).length ≤ 9223372036854775807 by omega))]
        · simp only [if_true]; rfl
    · rw [if_neg h0, if_pos h0]

end Go.Proofs.Ytckkkfgjgjoemaa
