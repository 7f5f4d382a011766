/- Texts of this proof, joined, without what it does not use. No condition. -/
import Derived.Test.YtckkkfgjgjoemaaQn

set_option linter.unusedSimpArgs false
set_option linter.unusedVariables false
namespace Go.Proofs.Ytckkkfgjgjoemaa
open Go Go.TL

/-- Is an input of a section true or missing? -/
def closedB (l : List Bool) (n : Int) : Bool := if n < 0 then true else if (l.length : Int) ≤ n then true else l.getD n.toNat false
theorem closedM (l : List Bool) (n : Int) : (bindM (if n < (0 : Int) then some true else if (l.length : Int) ≤ n then some true else getM l n fun e5 => some e5) fun x1 => some x1) = some (closedB l n) := by
  unfold closedB
  by_cases h1 : n < 0
  · rw [if_pos h1, if_pos h1]; rfl
  · rw [if_neg h1, if_neg h1]
    by_cases h2 : (l.length : Int) ≤ n
    · rw [if_pos h2, if_pos h2]; rfl
    · rw [if_neg h2, if_neg h2]
      obtain ⟨i, rfl⟩ := Int.eq_ofNat_of_zero_le (show 0 ≤ n by omega)
      have he : l[i]? = some (l.getD i false) := by rw [List.getD_eq_getElem?_getD, List.getElem?_eq_getElem (by omega)]; rfl
      rw [getM_at he]; rfl
theorem restrictive_eq (l : List Bool) (n : Int) : locks_restrictive l n = some (closedB l n) := closedM l n
def setX : RouteState := ⟨1, 0, 0⟩
theorem setX_fits (n : Nat) : routeFitsB setX n = true := rfl
theorem pathR_set (r : Route) : pathR r setX = r.sections := rfl
theorem overR_set (r : Route) : overR r setX = r.overSections := rfl

def busyAt (t : Table) (s : Inter) (i o : Nat) : Bool := !decide (o = i) && clashB (rAt t i) (rAt t o) (rAt t i).sections (rAt t i).overSections (pathAt t s o) (overAt t s o)
def contraAt (t : Table) (s : Inter) (i o : Nat) : Bool := !decide (o = i) && !agreeB (ascS (allS (rAt t i))) (boundAt t s o)
def blockedB (t : Table) (s : Inter) (p : Inputs) (e : Setting) : Bool := !decide (lieOf t s e.el = e.pos) && closedB p.occupied (homeOf t e.el)
/-- Why a route cannot be called. -/
def freeI (t : Table) (s : Inter) (p : Inputs) (n : Int) : Int :=
  if soundB t s = false ∨ n < 0 ∨ (t.routes.length : Int) ≤ n then 1
  else if ¬ (xAt s n.toNat).state = 0 then 11
  else if ((rAt t n.toNat).sections ++ (rAt t n.toNat).overSections).any (closedB p.closed) = true then 13
  else if (List.range t.routes.length).any (busyAt t s n.toNat) = true then 12
  else if (List.range t.routes.length).any (contraAt t s n.toNat) = true then 10
  else if (ascS (allS (rAt t n.toNat))).any (blockedB t s p) = true then 14
  else 0

theorem sound_fits {t : Table} {s : Inter} (h : soundB t s = true) : fitsB t s = true := by
  unfold soundB at h
  rw [Bool.and_eq_true, Bool.and_eq_true] at h
  exact h.1.1

theorem headM (b : Bool) (n : Int) (L : Nat) : (if (!b) = true then some true else if n < (0 : Int) then some true else some (decide ((L : Int) ≤ n))) = some (decide (b = false ∨ n < 0 ∨ (L : Int) ≤ n)) := by
  cases b
  · simp
  · simp only [Bool.not_true, Bool.false_eq_true, if_false, false_or]
    by_cases h : n < 0
    · simp [h]
    · simp [h]

theorem needLoop (t : Table) (s : Inter) (p : Inputs) (h : TOk t) (hf : fitsB t s = true) (l : List Setting) (hl : l.length ≤ 3000000) (hm : ∀ e ∈ l, ∃ k, indexI t.points e.el = some k ∧ k < t.points.length) (g : Int → Option Bool) (hg : ∀ n, g n = some (closedB p.occupied n)) :
    loopM (fun x60 =>
          if x60 < (l.length : Int) then
            getM l x60 fun e63 =>
            bindM (table_Index t e63.el) fun r64 =>
            bindM (
              getM s.lies r64 fun e67 =>
              if e67 = e63.pos then
                some false
              else
                getM t.homes r64 fun e69 =>
                bindM (g e69) fun r70 =>
                some r70) fun x65 =>
            if x65 = true then
              inrM (
                inrM (
                  some (14 : Int)))
            else
              guardM (I64 (x60 + (1 : Int))) <|
              some (.inl (x60 + (1 : Int)))
          else
            inrM (
              some (.inl ()))) (0 : Int) = some (if l.any (blockedB t s p) = true then Sum.inr (14 : Int) else Sum.inl ()) := by
  have hc := (fitsB_iff.1 hf).1
  refine loop_any l (blockedB t s p) (Sum.inr (14 : Int)) (Sum.inl ()) (by omega) (fun i e he => ?_) (by rw [if_neg (by omega)]; rfl)
  have hi := (List.getElem?_eq_some_iff.1 he).1
  obtain ⟨k, hk, hkl⟩ := hm e (List.mem_of_getElem? he)
  have hp := h.points
  have hg1 : I64 ((i : Int) + 1) := i64_nat hi (by omega)
  rw [if_pos (by omega), getM_at he, tindex_eq t e.el (by unfold Cnt; omega), bindM_some, hk, show idxI (some k) = (k : Int) from rfl, getM_at (lies_at hf hk)]
  unfold blockedB
  by_cases h1 : lieOf t s e.el = e.pos
  · rw [if_pos h1, bindM_some]; simp [h1, guardM_true hg1]
  · rw [if_neg h1, getM_at (homes_at hc hk), hg, bindM_some, bindM_some]
    cases closedB p.occupied (homeOf t e.el)
    · simp [guardM_true hg1]
    · simp [h1]

theorem free_eq (t : Table) (s : Inter) (p : Inputs) (n : Int) (h : TOk t) (ho : SOk t) : locks_Free t s p n = some (freeI t s p n) := by
  unfold locks_Free freeI
  rw [sound_eq t s h ho, bindM_some, headM, bindM_some]
  by_cases hd : soundB t s = false ∨ n < 0 ∨ (t.routes.length : Int) ≤ n
  · rw [if_pos (decide_eq_true hd), if_pos hd]
  · rw [if_neg (by simpa using hd), if_neg hd]
    have hs : soundB t s = true := by
      cases h1 : soundB t s with
      | true => rfl
      | false => exact absurd (.inl h1) hd
    have hf := sound_fits hs
    have hc := (fitsB_iff.1 hf).1
    obtain ⟨i, rfl⟩ := Int.eq_ofNat_of_zero_le (show 0 ≤ n from by omega)
    have hi : i < t.routes.length := by omega
    have hrl := h.routes
    have H := fitsAt hf hi
    have hS := h.each _ H.mem
    have hall : (allS (rAt t i)).length ≤ 3000000 := by have := hS.points; have := hS.over; have := hS.flank; simp [allS]; omega
    have hasc := Nat.le_trans (ascS_len (allS (rAt t i))) hall
    rw [show ((i : Int)).toNat = i from rfl, getM_at H.x]
    by_cases h0 : (xAt s i).state = 0
    · rw [if_pos h0, if_neg (fun h => h h0), getM_at H.r, show (⟨1, 0, 0⟩ : RouteState) = setX from rfl, locked_eq _ _ hS (setX_fits _), bindM_some]
      have hwl : (lockedL (rAt t i) setX).length ≤ 2000000 := by
        have h1 := pathR_len _ setX hS
        have h2 := overR_len _ setX hS
        unfold lockedL; simp; omega
      rw [loop_any (lockedL (rAt t i) setX) (fun e => closedB p.closed e.a0) (.inr 13) (.inl ()) (by omega) (fun j e he => ?_) (by rw [if_neg (by omega)]; rfl)]
      · have e1 : ((lockedL (rAt t i) setX).any fun e => closedB p.closed e.a0) = ((rAt t i).sections ++ (rAt t i).overSections).any (closedB p.closed) := by
          unfold lockedL
          rw [List.any_append, List.any_append, List.any_map, List.any_map, pathR_set, overR_set]
          rfl
        rw [e1]
        cases ((rAt t i).sections ++ (rAt t i).overSections).any (closedB p.closed)
        · simp only [Bool.false_eq_true, if_false, bindS_inl]
          rw [loop_anyI t.routes.length (busyAt t s i) (.inr 12) (.inl ()) (by omega) (fun o hoo => ?_) (by rw [if_neg (by omega)]; rfl)]
          · cases (List.range t.routes.length).any (busyAt t s i)
            · simp only [Bool.false_eq_true, if_false, bindS_inl]
              rw [settings_eq _ hS (ho _ H.mem), bindM_some]
              rw [loop_anyI t.routes.length (contraAt t s i) (.inr 10) (.inl ()) (by omega) (fun o hoo => ?_) (by rw [if_neg (by omega)]; rfl)]
              · cases (List.range t.routes.length).any (contraAt t s i)
                · simp only [Bool.false_eq_true, if_false, bindS_inl]
                  rw [needLoop t s p h hf _ hasc (fun e he => sett_index ((check_all hc).2.2.1 _ H.mem).2 (ascS_mem.1 he)) (locks_restrictive p.occupied) (restrictive_eq p.occupied)]
                  cases (ascS (allS (rAt t i))).any (blockedB t s p) <;> rfl
                · simp only [if_true]; rfl
              · have H' := fitsAt hf hoo
                have hg : I64 ((o : Int) + 1) := i64_nat hoo (by omega)
                have hbl := boundR_len t (rAt t o) (xAt s o) (h.each _ H'.mem)
                rw [if_pos (by omega), getM_at H'.r]
                unfold contraAt
                by_cases hio : o = i
                · subst hio; simp [guardM_true hg]
                · rw [if_neg (by omega), getM_at H'.x, lbound_eq t _ _ h ho hc H'.mem (rel_fits H'.fits), bindM_some, agree_eq _ _ (by unfold Cnt; omega) (by unfold Cnt; omega), bindM_some, bindM_some, decide_eq_false hio]
                  rw [show boundAt t s o = boundR t (rAt t o) (xAt s o) from rfl]
                  cases agreeB (ascS (allS (rAt t i))) (boundR t (rAt t o) (xAt s o))
                  · simp only [Bool.not_false, Bool.and_self, if_true]; rfl
                  · simp [guardM_true hg]
            · simp only [if_true]; rfl
          · have H' := fitsAt hf hoo
            have hg : I64 ((o : Int) + 1) := i64_nat hoo (by omega)
            rw [if_pos (by omega), getM_at H'.r]
            unfold busyAt
            by_cases hio : o = i
            · subst hio; simp [guardM_true hg]
            · rw [if_neg (by omega), getM_at H'.x, locked_eq _ _ (h.each _ H'.mem) H'.fits, bindM_some, clashR_eq h hc H.mem H'.mem, bindM_some, bindM_some, decide_eq_false hio, pathR_set, overR_set]
              rw [show pathR (rAt t o) (xAt s o) = pathAt t s o from rfl, show overR (rAt t o) (xAt s o) = overAt t s o from rfl]
              cases clashB (rAt t i) (rAt t o) (rAt t i).sections (rAt t i).overSections (pathAt t s o) (overAt t s o)
              · simp [guardM_true hg]
              · simp only [Bool.not_false, Bool.and_self, if_true]; rfl
        · simp only [if_true]; rfl
      · have hj := (List.getElem?_eq_some_iff.1 he).1
        rw [if_pos (by omega), getM_at he, restrictive_eq, bindM_some]
        cases closedB p.closed e.a0
        · simp [guardM_true (i64_nat hj (show (lockedL (rAt t i) setX).length ≤ 9223372036854775807 by omega))]
        · simp only [if_true]; rfl
    · rw [if_neg h0, if_pos h0]

end Go.Proofs.Ytckkkfgjgjoemaa

set_option linter.unusedSimpArgs false
set_option linter.unusedVariables false
namespace Go.Proofs.Ytckkkfgjgjoemaa
open Go Go.TL

end Go.Proofs.Ytckkkfgjgjoemaa

set_option linter.unusedVariables false
set_option linter.unusedSimpArgs false
set_option maxHeartbeats 400000
set_option maxRecDepth 100000
namespace Go.Proofs.Ytckkkfgjgjoemaa
open Go Go.TL

theorem alive21 : law21_alive = some true := by decide +kernel

def smallR (r : Route) : Bool := decide (r.sections.length ≤ 30 ∧ r.overSections.length ≤ 30 ∧ r.points.length ≤ 30 ∧ r.overPoints.length ≤ 30 ∧ r.flank.length ≤ 30 ∧ r.path.length ≤ 30)
def smallB (t : Table) (s : Inter) : Bool := t.routes.all smallR && decide (t.routes.length ≤ 50 ∧ t.points.length ≤ 40 ∧ t.homes.length ≤ 40 ∧ s.routes.length ≤ 50 ∧ s.lies.length ≤ 40)
theorem small_eq (t : Table) (s : Inter) (ht : t.Wf) : law21_Small t s = some (smallB t s) := by
  have h0 := len_ok ht.routes.1
  unfold law21_Small smallB
  rw [loop_any t.routes (fun r => !smallR r) (.inr false) (.inl ()) (by omega) (fun i r hr => ?_) (by rw [if_neg (by omega)]; rfl), not_all_any']
  · cases t.routes.all smallR
    · rfl
    · simp only [Bool.not_true, Bool.false_eq_true, if_false, bindS_inl, Option.some.injEq, Bool.true_and]
      rw [Bool.eq_iff_iff]
      simp only [Bool.and_eq_true, decide_eq_true_eq]
      omega
  · have hi := (List.getElem?_eq_some_iff.1 hr).1
    rw [if_pos (by omega), getM_at hr, guardM_true (i64_nat hi (by omega))]
    unfold smallR
    by_cases hb : r.sections.length ≤ 30 ∧ r.overSections.length ≤ 30 ∧ r.points.length ≤ 30 ∧ r.overPoints.length ≤ 30 ∧ r.flank.length ≤ 30 ∧ r.path.length ≤ 30
    · rw [if_neg (by simp only [Bool.or_eq_true, decide_eq_true_eq]; omega), if_neg (by simpa using hb)]
    · rw [if_pos (by simp only [Bool.or_eq_true, decide_eq_true_eq]; omega), if_pos (by rw [decide_eq_false hb]; rfl)]; rfl
theorem small_ok {t : Table} {s : Inter} (h : smallB t s = true) : TOk t := by
  unfold smallB at h
  simp only [Bool.and_eq_true, decide_eq_true_eq, List.all_eq_true] at h
  obtain ⟨h1, h2⟩ := h
  refine ⟨by omega, by omega, fun r hr => ?_⟩
  have := h1 r hr
  unfold smallR at this
  have := of_decide_eq_true this
  exact ⟨by omega, by omega, by omega, by omega⟩
theorem wf_ok {t : Table} (h : t.Wf) : SOk t := fun r hr s hs => by
  have hw := h.routes.2 r hr
  simp only [allS, List.mem_append] at hs
  rcases hs with (hs | hs) | hs
  · have := hw.points.2 s hs; exact ⟨this.el, this.pos⟩
  · have := hw.overPoints.2 s hs; exact ⟨this.el, this.pos⟩
  · have := hw.flank.2 s hs; exact ⟨this.el, this.pos⟩

theorem pathI_at {t : Table} {s : Inter} {i : Nat} (hf : fitsB t s = true) (H : FitsAt t s i) : pathI t s (i : Int) = pathAt t s i := lockI_at hf H.r H.x

end Go.Proofs.Ytckkkfgjgjoemaa

set_option linter.unusedVariables false
set_option linter.unusedSimpArgs false
set_option maxHeartbeats 400000
set_option maxRecDepth 100000
namespace Go.Proofs.Ytckkkfgjgjoemaa
open Go Go.TL

def placeOf (t : Table) (el : Int) : Nat := (indexI t.points el).getD 0
/-- The positions after so many settings. -/
def liesTo (t : Table) (l : List Setting) (b : List Int) : List Int := l.foldl (fun b e => b.set (placeOf t e.el) e.pos) b
theorem liesTo_len (t : Table) (l : List Setting) : ∀ b, (liesTo t l b).length = b.length := by
  induction l with
  | nil => intro b; rfl
  | cons e r ih => intro b; unfold liesTo; rw [List.foldl_cons]; exact (ih _).trans List.length_set
theorem liesTo_mem (t : Table) (l : List Setting) (P : Int → Prop) (hl : ∀ e ∈ l, P e.pos) : ∀ b, (∀ p ∈ b, P p) → ∀ p ∈ liesTo t l b, P p := by
  induction l with
  | nil => intro b hb p hp; exact hb p hp
  | cons e r ih =>
    intro b hb p hp
    unfold liesTo at hp; rw [List.foldl_cons] at hp
    refine ih (fun x hx => hl x (List.mem_cons_of_mem _ hx)) _ (fun q hq => ?_) p hp
    rcases List.mem_or_eq_of_mem_set hq with h | h
    · exact hb q h
    · rw [h]; exact hl e (List.mem_cons_self ..)
theorem liesTo_no (t : Table) (l : List Setting) (k : Nat) (h : ∀ e ∈ l, placeOf t e.el ≠ k) : ∀ b, (liesTo t l b)[k]? = b[k]? := by
  induction l with
  | nil => intro b; rfl
  | cons e r ih =>
    intro b
    unfold liesTo; rw [List.foldl_cons]
    refine (ih (fun x hx => h x (List.mem_cons_of_mem _ hx)) _).trans ?_
    rw [List.getElem?_set_ne (h e (List.mem_cons_self ..))]
theorem liesTo_yes (t : Table) (l : List Setting) (k : Nat) (v : Int) (h : ∀ e ∈ l, placeOf t e.el = k → e.pos = v) : ∀ b, k < b.length → (∃ e ∈ l, placeOf t e.el = k) ∨ b[k]? = some v → (liesTo t l b)[k]? = some v := by
  induction l with
  | nil => intro b hk hx; rcases hx with ⟨e, he, _⟩ | hx; cases he; exact hx
  | cons e r ih =>
    intro b hk hx
    unfold liesTo; rw [List.foldl_cons]
    refine ih (fun x hx => h x (List.mem_cons_of_mem _ hx)) _ (by rw [List.length_set]; exact hk) ?_
    by_cases hp : placeOf t e.el = k
    · right; rw [hp, List.getElem?_set_self hk, h e (List.mem_cons_self ..) hp]
    · rcases hx with ⟨x, hx, hxk⟩ | hx
      · rcases List.mem_cons.1 hx with rfl | hx
        · exact absurd hxk hp
        · exact .inl ⟨x, hx, hxk⟩
      · right; rw [List.getElem?_set_ne hp]; exact hx
theorem liesTo_succ (t : Table) (l : List Setting) (b : List Int) {i : Nat} {e : Setting} (h : l[i]? = some e) : liesTo t (l.take (i + 1)) b = (liesTo t (l.take i) b).set (placeOf t e.el) e.pos := by
  obtain ⟨hi, rfl⟩ := List.getElem?_eq_some_iff.1 h
  unfold liesTo
  rw [List.take_succ_eq_append_getElem hi, List.foldl_append]; rfl

def callI (t : Table) (s : Inter) (i : Nat) : Inter := ⟨s.routes.set i setX, liesTo t (ascS (allS (rAt t i))) s.lies⟩

theorem Call21_eq (t : Table) (s : Inter) (h : TOk t) (hf : fitsB t s = true) {i : Nat} (hi : i < t.routes.length) : ref21_Call t s (i : Int) = some (callI t s i) := by
  have H := fitsAt hf hi
  have hf' := fitsB_iff.1 hf
  have hc := check_all hf'.1
  have h1 := h.routes
  have h2 := h.points
  unfold ref21_Call
  have hS := (h.each _ H.mem)
  have hlen : (ascS (allS (rAt t i))).length ≤ 3000000 := by
    have := ascS_len (allS (rAt t i)); simp only [allS, List.length_append] at this ⊢
    have a := hS.points; have b := hS.over; have c := hS.flank; omega
  rw [List.nil_append, List.nil_append, guardM_true (by omega), guardM_true (by omega), getM_at H.x, getM_at H.r, Settings16_eq _ hS, bindM_some]
  rw [loop_acc (b := s.lies) (ascS (allS (rAt t i))).length (fun k => liesTo t ((ascS (allS (rAt t i))).take k) s.lies) (o := liesTo t (ascS (allS (rAt t i))) s.lies) (by simp [liesTo]) (by omega) (fun k hk => ?_) ?_]
  · rfl
  · dsimp only
    rw [if_neg (by omega), List.take_length]; rfl
  · have he : (ascS (allS (rAt t i)))[k]? = some (ascS (allS (rAt t i)))[k] := by rw [List.getElem?_eq_getElem]
    generalize (ascS (allS (rAt t i)))[k] = e at he
    obtain ⟨q, hq, hql⟩ := sett_index (hc.2.2.1 _ H.mem).2 (ascS_mem.1 (List.mem_of_getElem? he))
    dsimp only
    rw [if_pos (by omega), getM_at he, index16_eq t e.el (by unfold Cnt; omega), bindM_some, getM_at he, hq]
    have hz : (liesTo t ((ascS (allS (rAt t i))).take k) s.lies)[q]? = some ((liesTo t ((ascS (allS (rAt t i))).take k) s.lies).getD q 0) := by
      have hlt : q < (liesTo t ((ascS (allS (rAt t i))).take k) s.lies).length := by rw [liesTo_len]; omega
      rw [List.getD_eq_getElem?_getD, List.getElem?_eq_getElem hlt]; rfl
    rw [show idxI (some q) = (q : Int) from rfl, getM_at hz, guardM_true (i64_nat hk (by omega)), Int.toNat_natCast, liesTo_succ t _ _ he, show placeOf t e.el = q by simp [placeOf, hq]]

/-- Settings of one route at the same points are in the same position. -/
theorem one_pos {t : Table} {r : Route} (hs : settsB t r = true) (ha : agreesB r = true) {e e' : Setting} (he : e ∈ allS r) (he' : e' ∈ allS r) (hel : e.el = e'.el) : e.pos = e'.pos := by
  have inner : ∀ l : List Setting, settingsB t l = true → ∀ (i j : Nat), i < j → ∀ (x y : Setting), l[i]? = some x → l[j]? = some y → x.el < y.el := by
    intro l hl i j
    induction j with
    | zero => intro h; omega
    | succ j ih =>
      intro hij x y hx hy
      obtain ⟨hj, rfl⟩ := List.getElem?_eq_some_iff.1 hy
      have hj' : l[j]? = some l[j] := by rw [List.getElem?_eq_getElem]
      have h1 := allB_iff.1 hl (j + 1) hj
      rw [settB_at hy (by rw [Nat.add_sub_cancel]; exact hj')] at h1
      have h2 := (of_decide_eq_true h1).2.2.2 (by omega)
      rcases Nat.lt_or_ge i j with hlt | hge
      · have := ih hlt x _ hx hj'; omega
      · have : i = j := by omega
        subst this
        rw [hx] at hj'; cases hj'; exact h2
  have same : ∀ l : List Setting, settingsB t l = true → ∀ (x y : Setting), x ∈ l → y ∈ l → x.el = y.el → x.pos = y.pos := by
    intro l hl x y hx hy hxy
    obtain ⟨i, hi, rfl⟩ := List.mem_iff_getElem.1 hx
    obtain ⟨j, hj, rfl⟩ := List.mem_iff_getElem.1 hy
    rcases Nat.lt_trichotomy i j with h | h | h
    · have := inner l hl i j h _ _ (List.getElem?_eq_getElem hi) (List.getElem?_eq_getElem hj); omega
    · subst h; rfl
    · have := inner l hl j i h _ _ (List.getElem?_eq_getElem hj) (List.getElem?_eq_getElem hi); omega
  have cross : ∀ l m : List Setting, agreeB l m = true → ∀ (x y : Setting), x ∈ l → y ∈ m → x.el = y.el → x.pos = y.pos := by
    intro l m hl x y hx hy hxy
    unfold agreeB at hl
    rw [List.all_eq_true] at hl
    have := hl x hx
    rw [List.all_eq_true] at this
    have := this y hy
    rw [hxy] at this
    simpa using this
  unfold settsB at hs
  unfold agreesB at ha
  simp only [Bool.and_eq_true] at hs ha
  simp only [allS, List.mem_append] at he he'
  rcases he with (he | he) | he <;> rcases he' with (he' | he') | he'
  · exact same _ hs.1.1 _ _ he he' hel
  · exact cross _ _ ha.1.1 _ _ he he' hel
  · exact cross _ _ ha.1.2 _ _ he he' hel
  · exact (cross _ _ ha.1.1 _ _ he' he hel.symm).symm
  · exact same _ hs.1.2 _ _ he he' hel
  · exact cross _ _ ha.2 _ _ he he' hel
  · exact (cross _ _ ha.1.2 _ _ he' he hel.symm).symm
  · exact (cross _ _ ha.2 _ _ he' he hel.symm).symm
  · exact same _ hs.2 _ _ he he' hel

theorem place_inj {t : Table} {a b : Int} {k q : Nat} (ha : indexI t.points a = some k) (hb : indexI t.points b = some q) (h : k = q) : a = b := by
  subst h
  obtain ⟨x, hx, hxa, _⟩ := idx_get ha
  obtain ⟨y, hy, hyb, _⟩ := idx_get hb
  rw [hx] at hy; cases hy
  simp only [beq_iff_eq] at hxa hyb
  omega

theorem call_lie_in {t : Table} {s : Inter} (hf : fitsB t s = true) {i : Nat} (hi : i < t.routes.length) {e : Setting} (he : e ∈ allS (rAt t i)) : lieOf t (callI t s i) e.el = e.pos := by
  have H := fitsAt hf hi
  have hf' := fitsB_iff.1 hf
  have hc := check_all hf'.1
  obtain ⟨q, hq, hql⟩ := sett_index (hc.2.2.1 _ H.mem).2 he
  have := liesTo_yes t (ascS (allS (rAt t i))) q e.pos (fun x hx hxq => by
    have hx := ascS_mem.1 hx
    obtain ⟨q', hq', _⟩ := sett_index (hc.2.2.1 _ H.mem).2 hx
    have : q' = q := by simpa [placeOf, hq'] using hxq
    exact one_pos (hc.2.2.1 _ H.mem).2 (hc.2.2.2.1 _ H.mem) hx he (place_inj hq' hq this)) s.lies (by omega) (.inl ⟨e, ascS_mem.2 he, by simp [placeOf, hq]⟩)
  unfold lieOf callI; rw [hq]; simp only [Option.bind_some]; rw [this]; rfl
theorem call_lie_out {t : Table} {s : Inter} (hf : fitsB t s = true) {i : Nat} (hi : i < t.routes.length) {el : Int} (he : ∀ e ∈ allS (rAt t i), e.el ≠ el) (hel : (indexI t.points el).isSome = true) : lieOf t (callI t s i) el = lieOf t s el := by
  have H := fitsAt hf hi
  have hc := check_all (fitsB_iff.1 hf).1
  obtain ⟨q, hq⟩ := Option.isSome_iff_exists.1 hel
  have := liesTo_no t (ascS (allS (rAt t i))) q (fun x hx hxq => by
    have hx := ascS_mem.1 hx
    obtain ⟨q', hq', _⟩ := sett_index (hc.2.2.1 _ H.mem).2 hx
    have : q' = q := by simpa [placeOf, hq'] using hxq
    exact he x hx (place_inj hq' hq this)) s.lies
  unfold lieOf callI; rw [hq]; simp only [Option.bind_some]; rw [this]

theorem xAt_set_self {s : Inter} {i : Nat} {x : RouteState} {l : List Int} (hi : i < s.routes.length) : xAt ⟨s.routes.set i x, l⟩ i = x := by
  simp [xAt, List.getElem?_set_self hi]
theorem xAt_set_ne {s : Inter} {i o : Nat} {x : RouteState} {l : List Int} (h : o ≠ i) : xAt ⟨s.routes.set i x, l⟩ o = xAt s o := by
  simp [xAt, List.getElem?_set_ne (Ne.symm h)]
/-- One route's state is changed. -/
theorem fits_set {t : Table} {s : Inter} (hf : fitsB t s = true) {i : Nat} (hi : i < t.routes.length) {x : RouteState} (hx : routeFitsB x (rAt t i).sections.length = true) {l : List Int} (hl : l.length = s.lies.length) (hm : ∀ p ∈ l, lieB p = true) : fitsB t ⟨s.routes.set i x, l⟩ = true := by
  have H := fitsAt hf hi
  have hf' := fitsB_iff.1 hf
  refine fitsB_iff.2 ⟨hf'.1, by simpa using hf'.2.1, by simpa [hl] using hf'.2.2.1, fun o ho => ?_, hm⟩
  simp only [List.length_set] at ho
  by_cases e : o = i
  · subst e
    rw [stateFitB_at (by simp only []; rw [List.getElem?_set_self ho]) H.r]; exact hx
  · have H' := fitsAt hf (i := o) (by omega)
    rw [stateFitB_at (x := xAt s o) (by simp only []; rw [List.getElem?_set_ne (Ne.symm e)]; exact H'.x) H'.r]; exact H'.fits
theorem clash_all {t : Table} {s : Inter} (h : soundB t s = true) {a b : Nat} (ha : a < t.routes.length) (hb : b < t.routes.length) (hne : a ≠ b) : clashAt t s a b = false := by
  have h' := h
  unfold soundB at h'
  rw [Bool.and_eq_true, Bool.and_eq_true] at h'
  have key : ∀ a b, b < a → a < t.routes.length → clashAt t s a b = false := fun a b hba ha => by
    have := allB_iff.1 (allB_iff.1 h'.1.2 a ha) b hba
    simpa using this
  rcases Nat.lt_or_gt_of_ne hne with hl | hl
  · rw [clash_symm]; exact key b a hl hb
  · exact key a b hl ha
theorem bound_all {t : Table} {s : Inter} (h : soundB t s = true) {a : Nat} (ha : a < t.routes.length) : ∀ e ∈ boundAt t s a, lieOf t s e.el = e.pos := by
  unfold soundB at h
  rw [Bool.and_eq_true] at h
  intro e he
  have := List.all_eq_true.1 (allB_iff.1 h.2 a ha) e he
  exact of_decide_eq_true this
theorem sound_of {t : Table} {s : Inter} (hf : fitsB t s = true) (h1 : ∀ a b, a < t.routes.length → b < t.routes.length → a ≠ b → clashAt t s a b = false) (h2 : ∀ a, a < t.routes.length → ∀ e ∈ boundAt t s a, lieOf t s e.el = e.pos) : soundB t s = true := by
  unfold soundB
  rw [Bool.and_eq_true, Bool.and_eq_true]
  refine ⟨⟨hf, allB_iff.2 fun a ha => allB_iff.2 fun b hb => ?_⟩, allB_iff.2 fun a ha => List.all_eq_true.2 fun e he => decide_eq_true (h2 a ha e he)⟩
  rw [h1 a b ha (by omega) (by omega)]; rfl

theorem free_zero {t : Table} {s : Inter} {p : Inputs} {n : Int} (h : freeI t s p n = 0) : soundB t s = true ∧ 0 ≤ n ∧ n < t.routes.length ∧ (xAt s n.toNat).state = 0 ∧ (∀ o, o < t.routes.length → busyAt t s n.toNat o = false) ∧ (∀ o, o < t.routes.length → contraAt t s n.toNat o = false) := by
  unfold freeI at h
  split at h
  · omega
  · rename_i h1
    split at h
    · omega
    · rename_i h2
      split at h
      · omega
      · split at h
        · omega
        · rename_i h4
          split at h
          · omega
          · rename_i h5
            refine ⟨by cases hs : soundB t s; · exact absurd (.inl hs) h1
                       · rfl, by omega, by omega, by omega, fun o ho => ?_, fun o ho => ?_⟩
            · cases hb : busyAt t s n.toNat o
              · rfl
              · exact absurd (List.any_eq_true.2 ⟨o, List.mem_range.2 ho, hb⟩) h4
            · cases hb : contraAt t s n.toNat o
              · rfl
              · exact absurd (List.any_eq_true.2 ⟨o, List.mem_range.2 ho, hb⟩) h5

theorem pathAt_ne {t : Table} {s : Inter} {i o : Nat} {x : RouteState} {l : List Int} (h : o ≠ i) : pathAt t ⟨s.routes.set i x, l⟩ o = pathAt t s o := by unfold pathAt; rw [xAt_set_ne h]
theorem overAt_ne {t : Table} {s : Inter} {i o : Nat} {x : RouteState} {l : List Int} (h : o ≠ i) : overAt t ⟨s.routes.set i x, l⟩ o = overAt t s o := by unfold overAt; rw [xAt_set_ne h]
theorem boundAt_ne {t : Table} {s : Inter} {i o : Nat} {x : RouteState} {l : List Int} (h : o ≠ i) : boundAt t ⟨s.routes.set i x, l⟩ o = boundAt t s o := by unfold boundAt; rw [xAt_set_ne h]

theorem call_sound {t : Table} {s : Inter} {p : Inputs} {i : Nat} (h : freeI t s p (i : Int) = 0) : soundB t (callI t s i) = true := by
  obtain ⟨hs, _, hi, _, hb, hcn⟩ := free_zero h
  have hi : i < t.routes.length := by omega
  rw [Int.toNat_natCast] at hb hcn
  have hf := sound_fits hs
  have H := fitsAt hf hi
  have hf' := fitsB_iff.1 hf
  have hc := check_all hf'.1
  have hn : i < s.routes.length := by omega
  have hF : fitsB t (callI t s i) = true := fits_set hf hi (setX_fits _) (liesTo_len ..) (fun q hq => by
    refine liesTo_mem t _ (fun p => lieB p = true) (fun e he => ?_) s.lies hf'.2.2.2.2 q hq
    have he := ascS_mem.1 he
    have hs := (hc.2.2.1 _ H.mem).2
    unfold settsB at hs
    simp only [Bool.and_eq_true] at hs
    have : 1 ≤ e.pos ∧ e.pos ≤ 2 := by
      simp only [allS, List.mem_append] at he
      rcases he with (he | he) | he
      · exact (settB_mem hs.1.1 he).2
      · exact (settB_mem hs.1.2 he).2
      · exact (settB_mem hs.2 he).2
    exact decide_eq_true (by omega))
  have key : ∀ o, o < t.routes.length → o ≠ i → clashAt t (callI t s i) i o = false := fun o ho hne => by
    have h1 := hb o ho
    unfold busyAt at h1
    rw [decide_eq_false hne, Bool.not_false, Bool.true_and] at h1
    unfold clashAt
    rw [show pathAt t (callI t s i) i = (rAt t i).sections by unfold pathAt callI; rw [xAt_set_self hn, pathR_set], show overAt t (callI t s i) i = (rAt t i).overSections by unfold overAt callI; rw [xAt_set_self hn, overR_set], show pathAt t (callI t s i) o = pathAt t s o from pathAt_ne hne, show overAt t (callI t s i) o = overAt t s o from overAt_ne hne]
    exact h1
  refine sound_of hF (fun a b ha hb' hne => ?_) (fun a ha e he => ?_)
  · by_cases e : a = i
    · subst e; exact key b hb' (Ne.symm hne)
    · by_cases e' : b = i
      · subst e'; rw [clash_symm]; exact key a ha e
      · have := clash_all hs ha hb' hne
        unfold clashAt at this ⊢
        rw [show pathAt t (callI t s i) a = pathAt t s a from pathAt_ne e, show overAt t (callI t s i) a = overAt t s a from overAt_ne e, show pathAt t (callI t s i) b = pathAt t s b from pathAt_ne e', show overAt t (callI t s i) b = overAt t s b from overAt_ne e']
        exact this
  · by_cases hai : a = i
    · subst hai
      exact call_lie_in hf hi (boundR_mem he)
    · rw [show boundAt t (callI t s i) a = boundAt t s a from boundAt_ne hai] at he
      have h1 := bound_all hs ha e he
      by_cases hx : ∃ e' ∈ allS (rAt t i), e'.el = e.el
      · obtain ⟨e', he', hel⟩ := hx
        have h2 := hcn a ha
        unfold contraAt at h2
        rw [decide_eq_false hai, Bool.not_false, Bool.true_and, Bool.not_eq_false'] at h2
        unfold agreeB at h2
        have h3 := List.all_eq_true.1 (List.all_eq_true.1 h2 e' (ascS_mem.2 he')) e he
        have h4 := call_lie_in hf hi he'
        rw [hel] at h4 h3
        have h5 : e'.pos = e.pos := by simpa using h3
        omega
      · refine (call_lie_out hf hi (fun x hx' hxe => hx ⟨x, hx', hxe⟩) ?_).trans h1
        have H' := fitsAt hf ha
        obtain ⟨q, hq, _⟩ := sett_index (hc.2.2.1 _ H'.mem).2 (boundR_mem he)
        rw [hq]; rfl

theorem call_law {t : Table} {s : Inter} {p : Inputs} {n : Int} (ht : t.Wf) (hs : s.Wf) (hp : p.Wf) (hn : I64 n) : law21_LocksCall t s p n = some true := by
  unfold law21_LocksCall
  rw [small_eq t s ht, bindM_some]
  cases hb : smallB t s with
  | false => simp only [Bool.not_false, if_true, bindM_some, alive21]
  | true =>
    have hT := small_ok hb
    have hO := wf_ok ht
    simp only [Bool.not_true, Bool.false_eq_true, if_false]
    rw [free_eq t s p n hT hO, bindM_some, bindM_some]
    by_cases hz : freeI t s p n = 0
    · obtain ⟨hs', h0, h1, _⟩ := free_zero hz
      obtain ⟨i, rfl⟩ := Int.eq_ofNat_of_zero_le h0
      rw [if_neg (by simpa using hz), if_neg (by omega), if_neg (by omega), sound21_eq t s hT hO, bindM_some, hs']
      simp only [Bool.not_true, Bool.false_eq_true, if_false, bindM_some]
      rw [Call21_eq t s hT (sound_fits hs') (by omega), bindM_some, sound_eq t _ hT hO, bindM_some, call_sound hz, alive21]
      rfl
    · rw [if_pos (by simpa using hz), alive21]; rfl

end Go.Proofs.Ytckkkfgjgjoemaa

set_option linter.unusedVariables false
set_option linter.unusedSimpArgs false
set_option maxHeartbeats 400000
set_option maxRecDepth 100000
namespace Go.Proofs.Ytckkkfgjgjoemaa
open Go Go.TL

def idleX : RouteState := ⟨0, 0, 0⟩
/-- Relation of a route's state to what becomes of it: it is idle, or nothing new is locked. -/
structure Less (n : Nat) (x y : RouteState) : Prop where
  fits : routeFitsB y n = true
  idle : x.state = 0 → y.state = 0
  rel : y.state ≠ 0 → x.rel ≤ y.rel

theorem fits_low {y : RouteState} {n : Nat} (h : y = idleX ∨ y = ⟨1, 0, 0⟩ ∨ y = ⟨2, 0, 0⟩) : routeFitsB y n = true := by
  rcases h with rfl | rfl | rfl <;> rfl
theorem fits_used {k m : Int} {n : Nat} (h0 : 0 ≤ k) (h1 : k < n) (h2 : m = 0 ∨ (k = n - 1 ∧ 0 < m ∧ m < 4)) : routeFitsB ⟨3, k, m⟩ n = true := by
  rw [routeFits_used rfl]; exact decide_eq_true ⟨h0, h1, h2⟩
theorem fits_held {k m : Int} {n : Nat} (h0 : 0 ≤ k) (h1 : k < n) (h2 : 0 ≤ m) (h3 : m < 12) : routeFitsB ⟨4, k, m⟩ n = true := by
  rw [routeFits_held rfl]; exact decide_eq_true ⟨h0, h1, h2, h3⟩

theorem drop_suffix {x y : RouteState} {n : Nat} {r : Route} (h : Less n x y) (hx : 0 ≤ x.rel) : ∃ d, pathR r y = (pathR r x).drop d := by
  by_cases hy : y.state = 0
  · exact ⟨(pathR r x).length, by unfold pathR; rw [if_pos hy, List.drop_length]⟩
  · have hx0 : ¬ x.state = 0 := fun e => hy (h.idle e)
    have := h.rel hy
    refine ⟨y.rel.toNat - x.rel.toNat, ?_⟩
    unfold pathR
    rw [if_neg hy, if_neg hx0, List.drop_drop]
    congr 1
    omega
theorem less_path {x y : RouteState} {n : Nat} {r : Route} (h : Less n x y) (hx : 0 ≤ x.rel) : ∀ k, k ∈ pathR r y → k ∈ pathR r x := by
  obtain ⟨d, hd⟩ := drop_suffix (r := r) h hx
  intro k hk
  rw [hd] at hk
  exact List.mem_of_mem_drop hk
theorem less_over {x y : RouteState} {n : Nat} {r : Route} (h : Less n x y) : overR r y = [] ∨ overR r y = overR r x := by
  by_cases hy : y.state = 0
  · exact .inl (by unfold overR; rw [if_pos hy])
  · have hx0 : ¬ x.state = 0 := fun e => hy (h.idle e)
    exact .inr (by unfold overR; rw [if_neg hy, if_neg hx0])
theorem less_bound {t : Table} {x y : RouteState} {n : Nat} {r : Route} (h : Less n x y) (hx : 0 ≤ x.rel) : ∀ e, e ∈ boundR t r y → e ∈ boundR t r x := by
  intro e he
  by_cases hy : y.state = 0
  · unfold boundR at he; rw [if_pos hy] at he; cases he
  · have hx0 : ¬ x.state = 0 := fun e => hy (h.idle e)
    have hr := h.rel hy
    unfold boundR at he ⊢
    rw [if_neg hy] at he
    rw [if_neg hx0]
    rw [ascS_mem] at he ⊢
    simp only [List.mem_append, List.mem_filter] at he ⊢
    rcases he with (he | he) | he
    · refine .inl (.inl ⟨he.1, ?_⟩)
      have h2 := he.2
      unfold keptB at h2 ⊢
      simp only [Bool.not_eq_true', decide_eq_false_iff_not] at h2 ⊢
      intro hm
      refine h2 ?_
      have : x.rel.toNat ≤ y.rel.toNat := by omega
      have h3 : r.sections.take x.rel.toNat = (r.sections.take y.rel.toNat).take x.rel.toNat := by rw [List.take_take, Nat.min_eq_left this]
      rw [h3] at hm
      exact List.mem_of_mem_take hm
    · exact .inl (.inr he)
    · exact .inr he
theorem meetB_mono {a b c d : List Int} (h1 : ∀ n, n ∈ a → n ∈ c) (h2 : ∀ n, n ∈ b → n ∈ d) (h : meetB c d = false) : meetB a b = false := by
  unfold meetB at h ⊢
  rw [List.any_eq_false] at h ⊢
  intro n hn
  have := h n (h1 n hn)
  simp only [decide_eq_true_eq] at this ⊢
  exact fun hb => this (h2 n hb)
theorem clashB_mono {a b : Route} {pa oa pb ob pa' oa' pb' ob' : List Int} (h1 : ∀ n, n ∈ pa → n ∈ pa') (h2 : ∀ n, n ∈ oa → n ∈ oa') (h3 : ∀ n, n ∈ pb → n ∈ pb') (h4 : ∀ n, n ∈ ob → n ∈ ob') (h : clashB a b pa' oa' pb' ob' = false) : clashB a b pa oa pb ob = false := by
  unfold clashB at h ⊢
  simp only [Bool.or_eq_false_iff] at h ⊢
  have imp : ∀ {u v w : Bool}, (u = false → w = false) → (u && v) = false → (w && v) = false := fun {u v w} hh hu => by
    cases v with
    | false => simp
    | true => simpa using hh (by simpa using hu)
  refine ⟨⟨⟨meetB_mono h1 h3 h.1.1.1, ?_⟩, ?_⟩, ?_⟩
  · exact imp (meetB_mono h2 h3) h.1.1.2
  · exact imp (meetB_mono h1 h4) h.1.2
  · have h5 := h.2
    rw [Bool.and_assoc] at h5 ⊢
    exact imp (meetB_mono h2 h4) h5
theorem over_mono {x y : RouteState} {n : Nat} {r : Route} (h : Less n x y) : ∀ k, k ∈ overR r y → k ∈ overR r x := by
  intro k hk
  rcases less_over (r := r) h with e | e
  · rw [e] at hk; cases hk
  · rw [e] at hk; exact hk
/-- All routes lock the same or less. -/
theorem sound_less {t : Table} {s s' : Inter} (h : soundB t s = true) (hl : s'.lies = s.lies) (hlen : s'.routes.length = s.routes.length) (hless : ∀ i, i < t.routes.length → Less (rAt t i).sections.length (xAt s i) (xAt s' i)) : soundB t s' = true := by
  have hf := sound_fits h
  have hf' := fitsB_iff.1 hf
  have hF : fitsB t s' = true := fitsB_iff.2 ⟨hf'.1, by omega, by rw [hl]; exact hf'.2.2.1, fun i hi => by
    have H := fitsAt hf (i := i) (by omega)
    rw [stateFitB_at (xAt_of hi) H.r]; exact (hless i (by omega)).fits, by rw [hl]; exact hf'.2.2.2.2⟩
  have pos : ∀ i, i < t.routes.length → 0 ≤ (xAt s i).rel := fun i hi => (rel_fits (fitsAt hf hi).fits).1
  refine sound_of hF (fun a b ha hb hne => ?_) (fun a ha e he => ?_)
  · exact clashB_mono (less_path (hless a ha) (pos a ha)) (over_mono (hless a ha)) (less_path (hless b hb) (pos b hb)) (over_mono (hless b hb)) (clash_all h ha hb hne)
  · have := bound_all h ha e (less_bound (hless a ha) (pos a ha) e he)
    unfold lieOf at this ⊢
    rw [hl]; exact this
theorem less_refl {x : RouteState} {n : Nat} (h : routeFitsB x n = true) : Less n x x := ⟨h, fun h => h, fun _ => Int.le_refl _⟩

end Go.Proofs.Ytckkkfgjgjoemaa

set_option linter.unusedVariables false
set_option linter.unusedSimpArgs false
set_option maxHeartbeats 400000
set_option maxRecDepth 100000
namespace Go.Proofs.Ytckkkfgjgjoemaa
open Go Go.TL

theorem set_less {t : Table} {s : Inter} (hf : fitsB t s = true) {i : Nat} (hi : i < t.routes.length) {y : RouteState} (hy : Less (rAt t i).sections.length (xAt s i) y) : ∀ o, o < t.routes.length → Less (rAt t o).sections.length (xAt s o) (xAt ⟨s.routes.set i y, s.lies⟩ o) := by
  intro o ho
  have hf' := fitsB_iff.1 hf
  by_cases e : o = i
  · subst e; rw [xAt_set_self (by omega)]; exact hy
  · rw [xAt_set_ne e]; exact less_refl (fitsAt hf ho).fits
theorem less_idle {x : RouteState} {n : Nat} : Less n x idleX := ⟨fits_low (.inl rfl), fun _ => rfl, fun h => absurd rfl h⟩

theorem release_law {t : Table} {s : Inter} {n : Int} (ht : t.Wf) (hs : s.Wf) (hn : I64 n) : law21_LocksRelease t s n = some true := by
  unfold law21_LocksRelease
  rw [small_eq t s ht, bindM_some]
  cases hb : smallB t s with
  | false => simp only [Bool.not_false, if_true, bindM_some, alive21]
  | true =>
    have hT := small_ok hb
    have hO := wf_ok ht
    simp only [Bool.not_true, Bool.false_eq_true, if_false]
    rw [sound_eq t s hT hO, bindM_some]
    cases hsd : soundB t s with
    | false => simp only [Bool.not_false, if_true, bindM_some, alive21]
    | true =>
      simp only [Bool.not_true, Bool.false_eq_true, if_false]
      have hf := sound_fits hsd
      have hf' := fitsB_iff.1 hf
      by_cases h0 : n < 0
      · rw [if_pos h0]; simp only [bindM_some, if_true, alive21]
      · by_cases h1 : (t.routes.length : Int) ≤ n
        · rw [if_neg h0, if_pos h1]; simp only [bindM_some, if_true, alive21]
        · obtain ⟨i, rfl⟩ := Int.eq_ofNat_of_zero_le (show 0 ≤ n by omega)
          have hi : i < t.routes.length := by omega
          have H := fitsAt hf hi
          have hr := hT.routes
          have hz := rel_fits H.fits
          have hS := hT.each _ H.mem
          have hSl := hS.secs
          rw [if_neg h0, if_neg h1, decide_eq_true (by omega)]
          simp only [Bool.not_true, bindM_some, Bool.false_eq_true, if_false, List.nil_append, Int.toNat_natCast]
          have ha : soundB t ⟨s.routes.set i ⟨0, 0, 0⟩, s.lies⟩ = true := sound_less hsd rfl (by simp) (set_less hf hi less_idle)
          rw [guardM_true (by omega), getM_at H.x, sound_eq t _ hT hO, bindM_some, ha]
          simp only [Bool.not_true, Bool.false_eq_true, if_false]
          rw [getM_at H.x]
          have hg : I64 ((xAt s i).rel + 1) := by constructor <;> omega
          by_cases hst : ((xAt s i).state = 3 ∨ (xAt s i).state = 4) ∧ (xAt s i).rel + 1 < (rAt t i).sections.length
          · have hcond : (if (xAt s i).state = (3 : Int) then guardM (I64 ((xAt s i).rel + (1 : Int))) <| getM t.routes (i : Int) fun e20 => some (decide ((e20.sections.length : Int) ≤ ((xAt s i).rel + (1 : Int)))) else if (xAt s i).state = (4 : Int) then guardM (I64 ((xAt s i).rel + (1 : Int))) <| getM t.routes (i : Int) fun e23 => some (decide ((e23.sections.length : Int) ≤ ((xAt s i).rel + (1 : Int)))) else some true) = some false := by
              rw [guardM_true hg, getM_at H.r, decide_eq_false (by omega)]
              rcases hst.1 with h | h
              · rw [if_pos h]
              · rw [if_neg (by omega), if_pos h]
            rw [hcond, bindM_some]
            simp only [Bool.false_eq_true, if_false]
            have hL : Less (rAt t i).sections.length (xAt s i) ⟨(xAt s i).state, (xAt s i).rel + 1, 0⟩ := by
              refine ⟨?_, fun h => h, fun _ => by simp only []; omega⟩
              rcases hst.1 with h | h
              · rw [h]; exact fits_used (by omega) (by omega) (.inl rfl)
              · rw [h]; exact fits_held (by omega) (by omega) (by omega) (by omega)
            have hb' : soundB t ⟨s.routes.set i ⟨(xAt s i).state, (xAt s i).rel + 1, 0⟩, s.lies⟩ = true := sound_less hsd rfl (by simp) (set_less hf hi hL)
            have H' := fitsAt (sound_fits hb') hi
            rw [guardM_true (by omega), guardM_true hg, getM_at H.x, sound_eq t _ hT hO, bindM_some, hb', if_pos rfl, Path_eq t _ _ hT, bindM_some, Path_eq t s _ hT, bindM_some, pathI_at hf H, pathI_at (sound_fits hb') H']
            have hp1 : (pathAt t s i).length = (rAt t i).sections.length - (xAt s i).rel.toNat := by
              unfold pathAt pathR
              rw [if_neg (by omega), List.length_drop]
            have hp2 : (pathAt t ⟨s.routes.set i ⟨(xAt s i).state, (xAt s i).rel + 1, 0⟩, s.lies⟩ i).length = (rAt t i).sections.length - ((xAt s i).rel + 1).toNat := by
              unfold pathAt pathR
              rw [xAt_set_self (by omega), if_neg (by simp only []; omega), List.length_drop]
            rw [hp1, hp2, guardM_true (by constructor <;> omega), if_pos (by omega), alive21]
            rfl
          · have hcond : (if (xAt s i).state = (3 : Int) then guardM (I64 ((xAt s i).rel + (1 : Int))) <| getM t.routes (i : Int) fun e20 => some (decide ((e20.sections.length : Int) ≤ ((xAt s i).rel + (1 : Int)))) else if (xAt s i).state = (4 : Int) then guardM (I64 ((xAt s i).rel + (1 : Int))) <| getM t.routes (i : Int) fun e23 => some (decide ((e23.sections.length : Int) ≤ ((xAt s i).rel + (1 : Int)))) else some true) = some true := by
              rw [guardM_true hg, getM_at H.r]
              by_cases h3 : (xAt s i).state = 3
              · rw [if_pos h3, decide_eq_true (by omega)]
              · rw [if_neg h3]
                by_cases h4 : (xAt s i).state = 4
                · rw [if_pos h4, decide_eq_true (by omega)]
                · rw [if_neg h4]
            rw [hcond, bindM_some, if_pos rfl, alive21]
            rfl

end Go.Proofs.Ytckkkfgjgjoemaa
