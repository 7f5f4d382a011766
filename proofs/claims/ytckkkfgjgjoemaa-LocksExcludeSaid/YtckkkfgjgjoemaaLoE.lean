/- Locks: sound states. No condition. -/
import Derived.Test.YtckkkfgjgjoemaaLoD
set_option linter.unusedSimpArgs false
set_option linter.unusedVariables false
namespace Go.Proofs.Ytckkkfgjgjoemaa
open Go Go.TL

/-- A route and its state, by their number. -/
def rAt (t : Table) (i : Nat) : Route := (t.routes[i]?).getD default
def xAt (s : Inter) (i : Nat) : RouteState := (s.routes[i]?).getD default
theorem rAt_of {t : Table} {i : Nat} (h : i < t.routes.length) : t.routes[i]? = some (rAt t i) := by unfold rAt; rw [List.getElem?_eq_getElem h]; rfl
theorem xAt_of {s : Inter} {i : Nat} (h : i < s.routes.length) : s.routes[i]? = some (xAt s i) := by unfold xAt; rw [List.getElem?_eq_getElem h]; rfl

structure FitsAt (t : Table) (s : Inter) (i : Nat) : Prop where
  r : t.routes[i]? = some (rAt t i)
  x : s.routes[i]? = some (xAt s i)
  mem : rAt t i ∈ t.routes
  fits : routeFitsB (xAt s i) (rAt t i).sections.length = true
theorem fitsAt {t : Table} {s : Inter} (h : fitsB t s = true) {i : Nat} (hi : i < t.routes.length) : FitsAt t s i := by
  have h' := fitsB_iff.1 h
  have hr := rAt_of hi
  have hx := xAt_of (s := s) (i := i) (by omega)
  refine ⟨hr, hx, List.mem_of_getElem? hr, ?_⟩
  have := h'.2.2.2.1 i (by omega)
  rwa [stateFitB_at hx hr] at this

def pathAt (t : Table) (s : Inter) (i : Nat) : List Int := pathR (rAt t i) (xAt s i)
def overAt (t : Table) (s : Inter) (i : Nat) : List Int := overR (rAt t i) (xAt s i)
def boundAt (t : Table) (s : Inter) (i : Nat) : List Setting := boundR t (rAt t i) (xAt s i)
def clashAt (t : Table) (s : Inter) (a b : Nat) : Bool := clashB (rAt t a) (rAt t b) (pathAt t s a) (overAt t s a) (pathAt t s b) (overAt t s b)
/-- The position that points lie in. -/
def lieOf (t : Table) (s : Inter) (el : Int) : Int := ((indexI t.points el).bind (s.lies[·]?)).getD 0
def lieOk (t : Table) (s : Inter) (e : Setting) : Bool := decide (lieOf t s e.el = e.pos)
def soundB (t : Table) (s : Inter) : Bool :=
  fitsB t s && (allB t.routes.length fun a => allB a fun b => !clashAt t s a b) && allB t.routes.length fun a => (boundAt t s a).all (lieOk t s)

theorem lies_at {t : Table} {s : Inter} (h : fitsB t s = true) {el : Int} {k : Nat} (hk : indexI t.points el = some k) : s.lies[k]? = some (lieOf t s el) := by
  have h' := fitsB_iff.1 h
  obtain ⟨_, _, _, hlt⟩ := idx_get hk
  have : s.lies[k]? = some s.lies[k] := by rw [List.getElem?_eq_getElem]
  simp [lieOf, hk, this]

theorem right_secs {t : Table} {r : Route} (h : rightB t r = true) (hl : limB t = true) : ∀ n ∈ r.sections ++ r.overSections, 0 ≤ n ∧ n < t.sections ∧ n < 24 := by
  intro n hn
  unfold rightB at h
  simp only [Bool.and_eq_true] at h
  obtain ⟨i, hi, rfl⟩ := List.mem_iff_getElem.1 hn
  have h1 := allB_iff.1 h.1.1.2 i hi
  rw [secB_at (s := (r.sections ++ r.overSections)[i]) (by rw [List.getElem?_eq_getElem hi]), Bool.and_eq_true] at h1
  have h2 := of_decide_eq_true hl
  have h3 : 0 ≤ (r.sections ++ r.overSections)[i] ∧ (r.sections ++ r.overSections)[i] < t.sections := by simpa [inB] using h1.1
  omega
theorem pathR_mem {r : Route} {x : RouteState} {n : Int} (h : n ∈ pathR r x) : n ∈ r.sections := by
  unfold pathR at h; split at h
  · cases h
  · exact List.mem_of_mem_drop h
theorem overR_mem {r : Route} {x : RouteState} {n : Int} (h : n ∈ overR r x) : n ∈ r.overSections := by
  unfold overR at h; split at h
  · cases h
  · exact h
theorem path_i64 {t : Table} {r : Route} (hc : checkI t = 0) (hr : r ∈ t.routes) (h : Short r) (x : RouteState) : (pathR r x).length ≤ 1000000 ∧ ∀ n ∈ pathR r x, I64 n := by
  obtain ⟨h1, _, h3, _⟩ := check_all hc
  refine ⟨pathR_len r x h, fun n hn => ?_⟩
  have := right_secs (h3 r hr).1 h1 n (List.mem_append_left _ (pathR_mem hn))
  unfold I64; omega
theorem over_i64 {t : Table} {r : Route} (hc : checkI t = 0) (hr : r ∈ t.routes) (h : Short r) (x : RouteState) : (overR r x).length ≤ 1000000 ∧ ∀ n ∈ overR r x, I64 n := by
  obtain ⟨h1, _, h3, _⟩ := check_all hc
  refine ⟨overR_len r x h, fun n hn => ?_⟩
  have := right_secs (h3 r hr).1 h1 n (List.mem_append_right _ (overR_mem hn))
  unfold I64; omega

theorem clashR_eq {t : Table} (h : TOk t) (hc : checkI t = 0) {a b : Route} (ha : a ∈ t.routes) (hb : b ∈ t.routes) (x y : RouteState) : locks_clash a b (lockedL a x) (lockedL b y) = some (clashB a b (pathR a x) (overR a x) (pathR b y) (overR b y)) :=
  clash_eq a b _ _ _ _ (path_i64 hc ha (h.each a ha) x) (over_i64 hc ha (h.each a ha) x) (path_i64 hc hb (h.each b hb) y) (over_i64 hc hb (h.each b hb) y)

theorem anyB_all (n : Nat) (P : Nat → Bool) : ((List.range n).any P) = !allB n fun i => !P i := by simp [allB, List.not_all_eq_any_not]

theorem sound_eq (t : Table) (s : Inter) (h : TOk t) (ho : SOk t) : locks_Sound t s = some (soundB t s) := by
  unfold locks_Sound soundB
  rw [fits_eq t s h, bindM_some]
  by_cases hf : fitsB t s = true
  · have hc := (fitsB_iff.1 hf).1
    have hrl := h.routes
    rw [hf, if_neg (by simp), Bool.true_and]
    rw [loop_acc (b := ([] : List (List A2_int))) (o := (List.range t.routes.length).map fun i => lockedL (rAt t i) (xAt s i)) t.routes.length (fun i => (List.range i).map fun i => lockedL (rAt t i) (xAt s i)) rfl (by omega) (fun i hi => ?_) (by dsimp only; rw [if_neg (by omega)]; rfl), bindM_some]
    · have hb3 : ∀ i, i < t.routes.length → ((List.range t.routes.length).map fun i => lockedL (rAt t i) (xAt s i))[i]? = some (lockedL (rAt t i) (xAt s i)) := by
        intro i hi; rw [List.getElem?_map, List.getElem?_range hi]; rfl
      generalize ((List.range t.routes.length).map fun i => lockedL (rAt t i) (xAt s i)) = b3 at hb3
      rw [loop_anyI t.routes.length (fun a => (List.range a).any fun b => clashAt t s a b) (.inr false) (.inl ()) (by omega) (fun a ha => ?_) (by rw [if_neg (by omega)]; rfl)]
      · rw [anyB_all]
        have e1 : (allB t.routes.length fun i => !(List.range i).any fun b => clashAt t s i b) = allB t.routes.length fun a => allB a fun b => !clashAt t s a b := by
          unfold allB; congr 1; funext a; rw [anyB_all]; simp [allB]
        rw [e1]
        cases hA : (allB t.routes.length fun a => allB a fun b => !clashAt t s a b)
        · rfl
        · rw [if_neg (by simp), bindS_inl]
          rw [loop_anyI t.routes.length (fun a => (boundAt t s a).any fun e => !lieOk t s e) (.inr false) (.inl ()) (by omega) (fun a ha => ?_) (by rw [if_neg (by omega)]; rfl)]
          · rw [anyB_all]
            have e2 : (allB t.routes.length fun i => !(boundAt t s i).any fun e => !lieOk t s e) = allB t.routes.length fun a => (boundAt t s a).all (lieOk t s) := by
              unfold allB; congr 1; funext a; rw [not_all_any']; simp
            rw [e2]
            cases (allB t.routes.length fun a => (boundAt t s a).all (lieOk t s)) <;> rfl
          · have H := fitsAt hf ha
            have hbl := boundR_len t (rAt t a) (xAt s a) (h.each _ H.mem)
            rw [if_pos (by omega), getM_at H.r, getM_at H.x, lbound_eq t _ _ h ho hc H.mem (rel_fits H.fits), bindM_some]
            rw [loop_any (boundR t (rAt t a) (xAt s a)) (fun e => !lieOk t s e) (.inr (.inr (.inr false))) (.inl ()) (by omega) (fun i e he => ?_) (by rw [if_neg (by omega)]; rfl)]
            · rw [show boundAt t s a = boundR t (rAt t a) (xAt s a) from rfl]
              cases ((boundR t (rAt t a) (xAt s a)).any fun e => !lieOk t s e)
              · rw [if_neg (by simp), if_neg (by simp), bindS_inl, guardM_true (i64_nat ha (by omega))]
              · rfl
            · have hi := (List.getElem?_eq_some_iff.1 he).1
              obtain ⟨k, hk, hkl⟩ := sett_index ((check_all hc).2.2.1 _ H.mem).2 (boundR_mem (List.mem_of_getElem? he))
              have hp := h.points
              rw [if_pos (by omega), getM_at he, tindex_eq t e.el (by unfold Cnt; omega), bindM_some, hk, show idxI (some k) = (k : Int) from rfl, getM_at (lies_at hf hk)]
              unfold lieOk
              by_cases h1 : lieOf t s e.el = e.pos
              · rw [if_pos h1, if_neg (by simpa using h1), guardM_true (i64_nat hi (by omega))]
              · rw [if_neg h1, if_pos (by simpa using h1)]; rfl
      · rw [if_pos (by omega)]
        rw [loop_anyI a (fun b => clashAt t s a b) (.inr (.inr (.inr false))) (.inl ()) (by omega) (fun b hb => ?_) (by rw [if_neg (by omega)]; rfl)]
        · cases ((List.range a).any fun b => clashAt t s a b)
          · rw [if_neg (by simp), if_neg (by simp), bindS_inl, guardM_true (i64_nat ha (by omega))]
          · rfl
        · have H := fitsAt hf ha
          have H' := fitsAt hf (i := b) (by omega)
          rw [if_pos (by omega), getM_at H.r, getM_at H'.r, getM_at (hb3 a ha), getM_at (hb3 b (by omega)), clashR_eq h hc H.mem H'.mem, bindM_some]
          rw [show clashB (rAt t a) (rAt t b) (pathR (rAt t a) (xAt s a)) (overR (rAt t a) (xAt s a)) (pathR (rAt t b) (xAt s b)) (overR (rAt t b) (xAt s b)) = clashAt t s a b from rfl]
          have hg : I64 ((b : Int) + 1) := i64_nat hb (by omega)
          cases clashAt t s a b
          · simp only [Bool.false_eq_true, if_false, guardM_true hg]
          · rw [if_pos rfl, if_pos rfl]; rfl
    · dsimp only
      have H := fitsAt hf hi
      rw [if_pos (by omega), getM_at H.r, getM_at H.x, locked_eq _ _ (h.each _ H.mem) H.fits, bindM_some, guardM_true (by simp; omega), guardM_true (i64_nat hi (by omega)), List.range_succ, List.map_append]
      rfl
  · simp only [Bool.not_eq_true] at hf
    rw [hf]
    rfl

end Go.Proofs.Ytckkkfgjgjoemaa
