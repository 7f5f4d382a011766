/- Locks, in plain Lean: what a route locks, and when two contradict each other. No condition. -/
import Derived.Test.YtckkkfgjgjoemaaLoB
set_option linter.unusedSimpArgs false
set_option linter.unusedVariables false
namespace Go.Proofs.Ytckkkfgjgjoemaa
open Go Go.TL

/-! ### Loops that gather -/

theorem loop_filter {α : Type} {f : Int × List α → Option ((Int × List α) ⊕ List α)} (l : List α) (P : α → Bool) (hn : l.length ≤ 1000000000) (hf : ∀ (i : Nat) (e : α) (b : List α), l[i]? = some e → b.length ≤ i → f ((i : Int), b) = some (.inl ((i : Int) + 1, if P e = true then b ++ [e] else b))) (he : ∀ b, f ((l.length : Int), b) = some (.inr b)) : loopM f (0, []) = some (l.filter P) := by
  refine loop_acc l.length (fun i => (l.take i).filter P) (by simp) (by omega) (fun i hi => ?_) (by rw [he]; simp)
  have e1 : l[i]? = some l[i] := by simp
  rw [hf i l[i] _ e1 (Nat.le_trans (List.length_filter_le _ _) (by rw [List.length_take]; omega)), List.take_add_one, e1, List.filter_append]
  congr 3
  split
  · rename_i h; simp [h]
  · rename_i h; simp [h]
theorem loop_map {α β : Type} {f : Int × List β → Option ((Int × List β) ⊕ List β)} (l : List α) (g : α → β) (b0 : List β) (hn : l.length ≤ 1000000000) (hf : ∀ (i : Nat) (e : α) (b : List β), l[i]? = some e → b.length = b0.length + i → f ((i : Int), b) = some (.inl ((i : Int) + 1, b ++ [g e]))) (he : ∀ b, f ((l.length : Int), b) = some (.inr b)) : loopM f (0, b0) = some (b0 ++ l.map g) := by
  refine loop_acc l.length (fun i => b0 ++ (l.take i).map g) (by simp) (by omega) (fun i hi => ?_) (by rw [he]; simp)
  have e1 : l[i]? = some l[i] := by simp
  rw [hf i l[i] _ e1 (by rw [List.length_append, List.length_map, List.length_take, Nat.min_eq_left (by omega)]), List.take_add_one, e1]
  simp only [Option.toList_some, List.map_append, List.map_cons, List.map_nil, List.append_assoc]

/-! ### What a table that is checked says -/

theorem check_all {t : Table} (h : checkI t = 0) : limB t = true ∧ pointsB t = true ∧ (∀ r ∈ t.routes, rightB t r = true ∧ settsB t r = true) ∧ (∀ r ∈ t.routes, agreesB r = true) ∧ namesB t.routes = true := by
  unfold checkI at h
  split at h
  · cases h
  split at h
  · cases h
  split at h
  · cases h
  split at h
  · cases h
  split at h
  · cases h
  rename_i h1 h2 h3 h4 h5
  simp only [Bool.not_eq_false] at h1 h2 h3 h4 h5
  rw [List.all_eq_true] at h3 h4
  exact ⟨h1, h2, fun r hr => by have := h3 r hr; rwa [Bool.and_eq_true] at this, h4, h5⟩

theorem settB_mem {t : Table} {l : List Setting} (h : settingsB t l = true) {s : Setting} (hs : s ∈ l) : (indexI t.points s.el).isSome = true ∧ 1 ≤ s.pos ∧ s.pos ≤ 2 := by
  obtain ⟨i, hi, rfl⟩ := List.mem_iff_getElem.1 hs
  have h1 := allB_iff.1 h i hi
  rw [settB_at (x := l[i]) (y := l[i - 1]) (by simp) (by rw [List.getElem?_eq_getElem])] at h1
  have := of_decide_eq_true h1
  exact ⟨this.1, this.2.1, this.2.2.1⟩

theorem sett_index {t : Table} {r : Route} (h : settsB t r = true) {s : Setting} (hs : s ∈ allS r) : ∃ k, indexI t.points s.el = some k ∧ k < t.points.length := by
  unfold settsB at h
  rw [Bool.and_eq_true, Bool.and_eq_true] at h
  have : (indexI t.points s.el).isSome = true := by
    simp only [allS, List.mem_append] at hs
    rcases hs with (hs | hs) | hs
    · exact (settB_mem h.1.1 hs).1
    · exact (settB_mem h.1.2 hs).1
    · exact (settB_mem h.2 hs).1
  obtain ⟨k, hk⟩ := Option.isSome_iff_exists.1 this
  exact ⟨k, hk, by obtain ⟨_, _, _, h⟩ := idx_get hk; exact h⟩

/-- All settings of a table are in range. -/
def SOk (t : Table) : Prop := ∀ r ∈ t.routes, ∀ s ∈ allS r, Setting.ok s

/-! ### bound -/

def homeOf (t : Table) (el : Int) : Int := ((indexI t.points el).bind (t.homes[·]?)).getD 0
theorem homeOf_at {t : Table} {el : Int} {k : Nat} (h : indexI t.points el = some k) {x : Int} (hx : t.homes[k]? = some x) : homeOf t el = x := by simp [homeOf, h, hx]
def keptB (t : Table) (r : Route) (x : RouteState) (s : Setting) : Bool := !decide (homeOf t s.el ∈ r.sections.take x.rel.toNat)
/-- The settings that a route locks. -/
def boundR (t : Table) (r : Route) (x : RouteState) : List Setting := if x.state = 0 then [] else ascS (r.points.filter (keptB t r x) ++ r.overPoints ++ r.flank)

theorem homes_at {t : Table} (h : checkI t = 0) {el : Int} {k : Nat} (hk : indexI t.points el = some k) : t.homes[k]? = some (homeOf t el) := by
  obtain ⟨_, h2, _⟩ := check_all h
  unfold pointsB at h2
  rw [Bool.and_eq_true, decide_eq_true_eq] at h2
  obtain ⟨_, _, _, hlt⟩ := idx_get hk
  have : t.homes[k]? = some t.homes[k] := by rw [List.getElem?_eq_getElem]
  rw [homeOf_at hk this, this]

theorem idset_has_eq (l : List Int) (x : Int) (h : Cnt l) : idset_Has l x = some (decide (x ∈ l)) := by simp [idset_Has, contains_eq l x h]

theorem lbound_eq (t : Table) (r : Route) (x : RouteState) (h : TOk t) (ho : SOk t) (hc : checkI t = 0) (hr : r ∈ t.routes) (hx : 0 ≤ x.rel ∧ x.rel ≤ r.sections.length) : locks_bound t r x = some (boundR t r x) := by
  have hs := h.each r hr
  obtain ⟨_, _, h3, _⟩ := check_all hc
  unfold locks_bound boundR
  by_cases h0 : x.state = 0
  · rw [if_pos h0, if_pos h0]
  · rw [if_neg h0, if_neg h0]
    obtain ⟨n, hn⟩ := Int.eq_ofNat_of_zero_le hx.1
    rw [loop_filter r.points (keptB t r x) (by have := hs.points; omega) (fun i e b he hb => ?_) (fun b => by dsimp only; rw [if_neg (by omega)]; rfl), bindM_some]
    · have hR := settings_eq (⟨⟨#[]⟩, 0, 0, [], r.points.filter (keptB t r x), [], 0, 0, [], r.overPoints, [], r.flank, [], []⟩ : Route) ⟨Nat.zero_le _, Nat.le_trans (List.length_filter_le _ _) hs.points, hs.over, hs.flank⟩ (fun s hm => ?_)
      · rw [hR]; rfl
      · refine ho r hr s ?_
        simp only [allS, List.mem_append, List.mem_filter] at hm ⊢
        grind
    · dsimp only
      have hi : i < r.points.length := (List.getElem?_eq_some_iff.1 he).1
      obtain ⟨k, hk, hkl⟩ := sett_index (h3 r hr).2 (s := e) (by simp [allS, List.mem_of_getElem? he])
      have hh := homes_at hc hk
      have hsec := hs.secs
      have hp := hs.points
      rw [if_pos (by omega), getM_at he, guardM_true ⟨by omega, hx.1, hx.2⟩, tindex_eq t e.el (by have := h.points; unfold Cnt; omega), bindM_some, hk]
      rw [show idxI (some k) = (k : Int) from rfl, getM_at hh, hn, sub_take, idset_has_eq _ _ (by unfold Cnt; rw [List.length_take]; omega), bindM_some]
      have hkb : keptB t r x e = !decide (homeOf t e.el ∈ r.sections.take n) := by unfold keptB; rw [hn]; rfl
      rw [hkb]
      split
      · rename_i h1
        rw [guardM_true (by simp; omega), guardM_true (i64_nat hi (by omega))]
      · rename_i h1
        rw [guardM_true (i64_nat hi (by omega))]

end Go.Proofs.Ytckkkfgjgjoemaa
