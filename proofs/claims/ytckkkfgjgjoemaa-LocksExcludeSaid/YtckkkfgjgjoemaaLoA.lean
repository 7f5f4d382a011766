/- Settings in order, in plain Lean: table.Settings and its reference. No condition. -/
import Derived.Test.YtckkkfgjgjoemaaPlS
import Derived.Test.YtckkkfgjgjoemaaPlF
set_option linter.unusedSimpArgs false
set_option linter.unusedVariables false
namespace Go.Proofs.Ytckkkfgjgjoemaa
open Go Go.TL

/-! ### The order -/

def ltS (x y : Setting) : Bool := decide (x.el < y.el) || (decide (x.el = y.el) && decide (x.pos < y.pos))
theorem ltS_iff {x y : Setting} : ltS x y = true ↔ x.el < y.el ∨ x.el = y.el ∧ x.pos < y.pos := by simp [ltS]
theorem ltS_irrefl (x : Setting) : ltS x x = false := by simp [ltS]
theorem ltS_trans {x y z : Setting} (h1 : ltS x y = true) (h2 : ltS y z = true) : ltS x z = true := by rw [ltS_iff] at *; omega
theorem ltS_asymm {x y : Setting} (h1 : ltS x y = true) (h2 : ltS y x = true) : False := by rw [ltS_iff] at *; omega
theorem eq_of_el {x y : Setting} (h1 : x.el = y.el) (h2 : x.pos = y.pos) : x = y := by
  obtain ⟨a, b⟩ := x; obtain ⟨c, d⟩ := y; simp_all
theorem ltS_tri {x y : Setting} (h1 : ltS x y = false) (h2 : ltS y x = false) : x = y := by
  have h1' : ¬ (x.el < y.el ∨ x.el = y.el ∧ x.pos < y.pos) := fun h => by rw [← ltS_iff, h1] at h; cases h
  have h2' : ¬ (y.el < x.el ∨ y.el = x.el ∧ y.pos < x.pos) := fun h => by rw [← ltS_iff, h2] at h; cases h
  exact eq_of_el (by omega) (by omega)

def insS (x : Setting) : List Setting → List Setting
  | [] => [x]
  | y :: r => if ltS x y = true then x :: y :: r else if x = y then y :: r else y :: insS x r
/-- All elements, ascending, each once. -/
def ascS : List Setting → List Setting
  | [] => []
  | x :: r => insS x (ascS r)
abbrev Asc (l : List Setting) : Prop := l.Pairwise (fun a b => ltS a b = true)

theorem insS_mem {s x : Setting} : ∀ {l}, s ∈ insS x l ↔ s = x ∨ s ∈ l
  | [] => by simp [insS]
  | y :: r => by
    unfold insS
    split
    · simp
    · split
      · rename_i e; subst e; simp
      · simp only [List.mem_cons, insS_mem]; grind
theorem ascS_mem {s : Setting} : ∀ {l}, s ∈ ascS l ↔ s ∈ l
  | [] => by simp [ascS]
  | x :: r => by simp [ascS, insS_mem, ascS_mem]
theorem insS_asc (x : Setting) : ∀ l, Asc l → Asc (insS x l)
  | [], _ => by simp [insS]
  | y :: r, h => by
    have h' := List.pairwise_cons.1 h
    unfold insS
    split
    · rename_i hxy
      refine List.pairwise_cons.2 ⟨fun b hb => ?_, h⟩
      rcases List.mem_cons.1 hb with rfl | hb
      · exact hxy
      · exact ltS_trans hxy (h'.1 b hb)
    · split
      · exact h
      · rename_i h1 h2
        refine List.pairwise_cons.2 ⟨fun b hb => ?_, insS_asc x r h'.2⟩
        rcases insS_mem.1 hb with rfl | hb
        · cases h3 : ltS y b with
          | true => rfl
          | false => exact absurd (ltS_tri (by simpa using h1) h3) h2
        · exact h'.1 b hb
theorem ascS_asc : ∀ l, Asc (ascS l)
  | [] => .nil
  | x :: r => insS_asc x _ (ascS_asc r)
theorem asc_unique : ∀ {l m : List Setting}, Asc l → Asc m → (∀ s, s ∈ l ↔ s ∈ m) → l = m
  | [], [], _, _, _ => rfl
  | [], y :: m, _, _, h => absurd ((h y).2 (List.mem_cons_self ..)) (by simp)
  | x :: l, [], _, _, h => absurd ((h x).1 (List.mem_cons_self ..)) (by simp)
  | x :: l, y :: m, h1, h2, h => by
    have h1' := List.pairwise_cons.1 h1
    have h2' := List.pairwise_cons.1 h2
    have e : x = y := by
      rcases List.mem_cons.1 ((h x).1 (List.mem_cons_self ..)) with e | hx
      · exact e
      · rcases List.mem_cons.1 ((h y).2 (List.mem_cons_self ..)) with e | hy
        · exact e.symm
        · exact (ltS_asymm (h2'.1 x hx) (h1'.1 y hy)).elim
    subst e
    have := asc_unique h1'.2 h2'.2 fun s => ⟨fun hs => by
      rcases List.mem_cons.1 ((h s).1 (List.mem_cons_of_mem _ hs)) with e | h3
      · subst e; have := h1'.1 s hs; rw [ltS_irrefl] at this; cases this
      · exact h3, fun hs => by
      rcases List.mem_cons.1 ((h s).2 (List.mem_cons_of_mem _ hs)) with e | h3
      · subst e; have := h2'.1 s hs; rw [ltS_irrefl] at this; cases this
      · exact h3⟩
    rw [this]
theorem ascS_eq {l m : List Setting} (h : Asc m) (hm : ∀ s, s ∈ m ↔ s ∈ l) : m = ascS l := asc_unique h (ascS_asc l) fun s => by rw [hm, ascS_mem]
theorem ascS_len (l : List Setting) : (ascS l).length ≤ l.length := by
  induction l with
  | nil => simp [ascS]
  | cons x r ih =>
    have : ∀ m, (insS x m).length ≤ m.length + 1 := by
      intro m
      induction m with
      | nil => simp [insS]
      | cons y q ih => unfold insS; split <;> (try split) <;> simp <;> omega
    have h := this (ascS r)
    simp only [ascS, List.length_cons]; omega

/-! ### table.Settings -/

theorem ltM_settings (x y : Setting) : ltM table_Settings_c1 x y = ltS x y := by
  rw [Bool.eq_iff_iff, ltS_iff]
  simp only [ltM, settings_c1_eq, Option.getD_some, sgn, decide_eq_true_eq]
  split <;> split <;> (try split) <;> (try split) <;> omega

/-- Of a list in order, the first of each of its elements. -/
def dedTo (L : List Setting) : Nat → List Setting
  | 0 => []
  | i + 1 => match L[i]? with
    | none => dedTo L i
    | some e => if i = 0 ∨ ¬ L[i - 1]? = some e then dedTo L i ++ [e] else dedTo L i
theorem dedTo_len (L : List Setting) : ∀ i, (dedTo L i).length ≤ i
  | 0 => Nat.le_refl _
  | i + 1 => by
    have := dedTo_len L i
    unfold dedTo
    split
    · omega
    · split
      · simp; omega
      · omega
theorem dedTo_ok (L : List Setting) (hs : L.Pairwise (fun a b => ltS b a = false)) : ∀ i, i ≤ L.length → Asc (dedTo L i) ∧ ∀ s, s ∈ dedTo L i ↔ s ∈ L.take i
  | 0, _ => ⟨.nil, fun s => by simp [dedTo]⟩
  | i + 1, hi => by
    obtain ⟨h1, h2⟩ := dedTo_ok L hs i (by omega)
    have he : L[i]? = some L[i] := by simp
    rw [List.pairwise_iff_getElem] at hs
    have htake : L.take (i + 1) = L.take i ++ [L[i]] := by rw [List.take_add_one, he]; rfl
    unfold dedTo
    rw [he]
    simp only
    split
    · rename_i hc
      refine ⟨List.pairwise_append.2 ⟨h1, by simp, fun a ha b hb => ?_⟩, fun s => by rw [htake, List.mem_append, List.mem_append, h2]⟩
      simp only [List.mem_singleton] at hb
      subst hb
      rcases hc with h0 | hc
      · subst h0; simp [dedTo] at ha
      · have hi0 : i ≠ 0 := fun e => by subst e; simp [dedTo] at ha
        obtain ⟨j, hj, rfl⟩ := List.mem_take_iff_getElem.1 ((h2 a).1 ha)
        have e1 : L[i - 1]? = some L[i - 1] := by rw [List.getElem?_eq_getElem]
        have hne : L[i - 1] ≠ L[i] := fun e => hc (by rw [e1, e])
        have hlt : ltS L[i - 1] L[i] = true := by
          cases h3 : ltS L[i - 1] L[i] with
          | true => rfl
          | false => exact absurd (ltS_tri h3 (hs (i - 1) i (by omega) (by omega) (by omega))) hne
        by_cases hj' : j = i - 1
        · subst hj'; exact hlt
        · have h4 := hs j (i - 1) (by omega) (by omega) (by omega)
          cases h5 : ltS L[j] L[i - 1] with
          | true => exact ltS_trans h5 hlt
          | false => rw [ltS_tri h5 h4]; exact hlt
    · rename_i hc
      refine ⟨h1, fun s => ?_⟩
      rw [htake, List.mem_append, h2]
      have hi0 : i ≠ 0 := fun e => hc (.inl e)
      have e1 : L[i - 1]? = some L[i] := by
        cases h : decide (L[i - 1]? = some L[i]) with
        | true => exact of_decide_eq_true h
        | false => exact absurd (.inr (of_decide_eq_false h)) hc
      have hm : L[i] ∈ L.take i := List.mem_take_iff_getElem.2 ⟨i - 1, by omega, by rw [List.getElem?_eq_getElem (by omega)] at e1; exact Option.some.inj e1⟩
      refine ⟨.inl, fun h => ?_⟩
      rcases h with h | h
      · exact h
      · simp only [List.mem_singleton] at h; subst h; exact hm

abbrev allS (r : Route) : List Setting := r.points ++ r.overPoints ++ r.flank
theorem concatS_eq (xss : List (List Setting)) (h : xss.length ≤ 1000 ∧ xss.flatten.length ≤ 1000000000) : slices_Concat_Setting xss = some xss.flatten := guardM_true h

theorem settings_eq (r : Route) (h : Short r) (ho : ∀ s ∈ allS r, Setting.ok s) : table_Settings r = some (ascS (allS r)) := by
  have hfl : [r.points, r.overPoints, r.flank].flatten = allS r := by simp [allS]
  have hlen : (allS r).length ≤ 3000000 := by have := h.points; have := h.over; have := h.flank; simp [allS]; omega
  unfold table_Settings
  rw [concatS_eq _ ⟨by simp, by rw [hfl]; omega⟩, bindM_some, hfl, guardM_true (by omega)]
  generalize hL : sortM table_Settings_c1 (allS r) = L
  have hLl : L.length = (allS r).length := by rw [← hL, sortM_length]
  have hmem : ∀ s, s ∈ L ↔ s ∈ allS r := fun s => by rw [← hL]; exact (sortM_perm _).mem_iff
  have hsort : L.Pairwise (fun a b => ltS b a = false) := by
    rw [← hL]
    have := sortM_sorted table_Settings_c1_sort (allS r)
    exact this.imp fun {a b} hab => by rw [← ltM_settings]; exact hab
  obtain ⟨h1, h2⟩ := dedTo_ok L hsort L.length (Nat.le_refl _)
  have hfin : dedTo L L.length = ascS (allS r) := ascS_eq h1 fun s => by rw [h2, List.take_length, hmem]
  rw [loop_acc (b := ([] : List Setting)) (o := ascS (allS r)) L.length (dedTo L) rfl (by omega) (fun i hi => ?_) (by dsimp only; rw [if_neg (by omega), hfin]; rfl)]
  · rfl
  · have he : L[i]? = some L[i] := by simp
    have hg : (dedTo L i ++ [L[i]]).length ≤ 1000000000 := by have := dedTo_len L i; simp; omega
    dsimp only
    rw [if_pos (by omega), getM_at he]
    have hcond : (if (i : Int) = 0 then some true else guardM (I64 ((i : Int) - 1)) (getM L ((i : Int) - 1) fun e17 => guardM (Setting.ok L[i] ∧ Setting.ok e17) (some (!decide (L[i] = e17))))) = some (decide (i = 0 ∨ ¬ L[i - 1]? = some L[i])) := by
      by_cases h0 : i = 0
      · subst h0; simp
      · have e1 : L[i - 1]? = some L[i - 1] := by rw [List.getElem?_eq_getElem]
        have e2 : ((i : Int) - 1) = ((i - 1 : Nat) : Int) := by omega
        rw [if_neg (by omega), guardM_true (by unfold I64; omega), e2, getM_at e1, guardM_true ⟨ho _ ((hmem _).1 (List.getElem_mem _)), ho _ ((hmem _).1 (List.getElem_mem _))⟩, e1]
        have e3 : (L[i] = L[i - 1]) = (L[i - 1] = L[i]) := propext eq_comm
        simp only [Option.some.injEq, h0, false_or, e3, decide_not]
    rw [hcond, bindM_some]
    have hstep : dedTo L (i + 1) = if i = 0 ∨ ¬ L[i - 1]? = some L[i] then dedTo L i ++ [L[i]] else dedTo L i := by rw [dedTo, he]
    by_cases hc : i = 0 ∨ ¬ L[i - 1]? = some L[i]
    · rw [if_pos (by simpa using hc), guardM_true hg, guardM_true (i64_nat (n := L.length) hi (by omega)), hstep, if_pos hc]
    · rw [if_neg (by simpa using hc), guardM_true (i64_nat (n := L.length) hi (by omega)), hstep, if_neg hc]

end Go.Proofs.Ytckkkfgjgjoemaa
