/- Tables, states and locks, in plain Lean. No condition. -/
import Derived.Test.YtckkkfgjgjoemaaGnT
import Derived.Test.YtckkkfgjgjoemaaPlA
set_option linter.unusedSimpArgs false
set_option linter.unusedVariables false
namespace Go.Proofs.Ytckkkfgjgjoemaa
open Go Go.TL

/-! ### The place of an element -/

def idxI : Option Nat → Int
  | some i => i
  | none => -1
theorem idxI_some (o : Option Nat) : decide (0 ≤ idxI o) = o.isSome := by cases o <;> simp [idxI]
theorem idxI_neg (o : Option Nat) : decide (idxI o < 0) = !o.isSome := by
  cases o with
  | none => simp [idxI]
  | some i => show decide ((i : Int) < 0) = false; simp

theorem idx_none {α : Type} {p : α → Bool} {l : List α} {i : Nat} (h : anyTo p l i) (hi : ¬ i < l.length) : l.findIdx? p = none := by
  have := anyTo_end h hi
  rw [List.findIdx?_eq_none_iff]
  intro x hx
  rw [List.any_eq_false] at this
  simpa using this x hx
theorem idx_at {α : Type} {p : α → Bool} {l : List α} {i : Nat} {x : α} (h : anyTo p l i) (hx : l[i]? = some x) (hs : p x = true) : l.findIdx? p = some i := by
  rw [List.findIdx?_eq_some_iff_getElem]
  have hlt := (List.getElem?_eq_some_iff.1 hx).1
  have he := (List.getElem?_eq_some_iff.1 hx).2
  refine ⟨hlt, by rw [he]; exact hs, fun j hj => ?_⟩
  unfold anyTo at h
  rw [List.any_eq_false] at h
  have := h l[j] (List.mem_take_iff_getElem.2 ⟨j, by omega, rfl⟩)
  simpa using this
theorem idx_get {α : Type} {p : α → Bool} {l : List α} {i : Nat} (h : l.findIdx? p = some i) : ∃ x, l[i]? = some x ∧ p x = true ∧ i < l.length := by
  rw [List.findIdx?_eq_some_iff_getElem] at h
  obtain ⟨hlt, hp, _⟩ := h
  exact ⟨l[i], by simp [hlt], hp, hlt⟩
theorem idx_le {α : Type} {p : α → Bool} {l : List α} (h : l.length ≤ 9223372036854775807) : -1 ≤ idxI (l.findIdx? p) ∧ idxI (l.findIdx? p) ≤ 9223372036854775807 := by
  cases e : l.findIdx? p with
  | none => simp [idxI]
  | some i => obtain ⟨_, _, _, hi⟩ := idx_get e; simp only [idxI]; omega

def indexI (l : List Int) (x : Int) : Option Nat := l.findIdx? fun y => y == x
theorem indexI_mem (l : List Int) (x : Int) : (indexI l x).isSome = decide (x ∈ l) := by
  unfold indexI
  rw [List.findIdx?_isSome, Bool.eq_iff_iff, List.any_eq_true]
  simp

theorem beq_of {x y : Int} (h : decide (x = y) = true) : (y == x) = true := by have := of_decide_eq_true h; simp [this]
theorem beq_no {x y : Int} (h : decide (x = y) = false) : (y == x) = false := by have := of_decide_eq_false h; simp; omega
theorem mem_at {α : Type} [DecidableEq α] {l : List α} {i : Nat} {x y : α} (hy : l[i]? = some y) (h : y = x) : decide (x ∈ l) = true := by subst h; exact decide_eq_true (List.mem_of_getElem? hy)
theorem notMem_of {l : List Int} {x : Int} (h : (l.any fun y => y == x) = false) : decide (x ∈ l) = false := by
  rw [decide_eq_false_iff_not]
  intro hm
  rw [List.any_eq_false] at h
  exact h x hm (by simp)

/-! ### All of those below n -/

def allB (n : Nat) (P : Nat → Bool) : Bool := (List.range n).all P
def upTo (P : Nat → Bool) (i : Nat) : Prop := ∀ j, j < i → P j = true
theorem upTo_zero {P : Nat → Bool} : upTo P 0 := fun j hj => absurd hj (Nat.not_lt_zero j)
theorem upTo_succ {P : Nat → Bool} {i : Nat} (h : upTo P i) (hi : P i = true) : upTo P (i + 1) := fun j hj => by
  rcases Nat.lt_or_ge j i with h1 | h1
  · exact h j h1
  · rw [show j = i by omega]; exact hi
theorem allB_all {P : Nat → Bool} {n i : Nat} (h : upTo P i) (hi : ¬ i < n) : allB n P = true := by
  unfold allB
  rw [List.all_eq_true]
  intro j hj
  exact h j (by have := List.mem_range.1 hj; omega)
theorem allB_no {P : Nat → Bool} {n i : Nat} (hi : i < n) (h : P i = false) : allB n P = false := by
  rw [Bool.eq_false_iff]
  intro hc
  unfold allB at hc
  rw [List.all_eq_true] at hc
  rw [hc i (List.mem_range.2 hi)] at h
  cases h
theorem allB_iff {P : Nat → Bool} {n : Nat} : allB n P = true ↔ ∀ i, i < n → P i = true := by
  unfold allB
  rw [List.all_eq_true]
  simp

/-! ### Tables -/

def inB (n c : Int) : Bool := decide (0 ≤ n ∧ n < c)

def pointB (t : Table) (i : Nat) : Bool := decide (0 ≤ t.points.getD i 0 ∧ (0 < i → t.points.getD (i - 1) 0 < t.points.getD i 0) ∧ 0 ≤ t.homes.getD i 0 ∧ t.homes.getD i 0 < t.sections)
def pointsB (t : Table) : Bool := decide (t.homes.length = t.points.length) && allB t.points.length (pointB t)
theorem pointB_at {t : Table} {i : Nat} {p q h : Int} (hp : t.points[i]? = some p) (hq : t.points[i - 1]? = some q) (hh : t.homes[i]? = some h) : pointB t i = decide (0 ≤ p ∧ (0 < i → q < p) ∧ 0 ≤ h ∧ h < t.sections) := by
  simp only [pointB, List.getD_eq_getElem?_getD, hp, hq, hh, Option.getD_some]

def settB (t : Table) (l : List Setting) (i : Nat) : Bool := decide ((indexI t.points (l.getD i ⟨0, 0⟩).el).isSome = true ∧ 1 ≤ (l.getD i ⟨0, 0⟩).pos ∧ (l.getD i ⟨0, 0⟩).pos ≤ 2 ∧ (0 < i → (l.getD (i - 1) ⟨0, 0⟩).el < (l.getD i ⟨0, 0⟩).el))
def settingsB (t : Table) (l : List Setting) : Bool := allB l.length (settB t l)
theorem settB_at {t : Table} {l : List Setting} {i : Nat} {x y : Setting} (hx : l[i]? = some x) (hy : l[i - 1]? = some y) : settB t l i = decide ((indexI t.points x.el).isSome = true ∧ 1 ≤ x.pos ∧ x.pos ≤ 2 ∧ (0 < i → y.el < x.el)) := by
  simp only [settB, List.getD_eq_getElem?_getD, hx, hy, Option.getD_some]

def agreeB (a b : List Setting) : Bool := a.all fun x => b.all fun y => !(decide (x.el = y.el) && !decide (x.pos = y.pos))

def secB (t : Table) (l : List Int) (i : Nat) : Bool := inB (l.getD i 0) t.sections && !decide (l.getD i 0 ∈ l.take i)
def secsB (t : Table) (l : List Int) : Bool := allB l.length (secB t l)
theorem secB_at {t : Table} {l : List Int} {i : Nat} {s : Int} (hs : l[i]? = some s) : secB t l i = (inB s t.sections && !decide (s ∈ l.take i)) := by
  simp only [secB, List.getD_eq_getElem?_getD, hs, Option.getD_some]

def headB (t : Table) (r : Route) : Bool := inB r.entry t.signals && decide (-1 ≤ r.exit ∧ r.exit < t.signals) && decide (1 ≤ r.path.length ∧ r.path.length ≤ 12)
def rightB (t : Table) (r : Route) : Bool := headB t r && decide (0 < r.sections.length) && secsB t (r.sections ++ r.overSections) && inB r.approach t.sections && decide (1 ≤ r.length)
def settsB (t : Table) (r : Route) : Bool := settingsB t r.points && settingsB t r.overPoints && settingsB t r.flank
def agreesB (r : Route) : Bool := agreeB r.points r.overPoints && agreeB r.points r.flank && agreeB r.overPoints r.flank
def nameB (l : List Route) (i : Nat) : Bool := (l[i]?).all fun r => !((l.take i).any fun q => decide (q.name = r.name))
def namesB (l : List Route) : Bool := allB l.length (nameB l)
theorem nameB_at {l : List Route} {i : Nat} {r : Route} (hr : l[i]? = some r) : nameB l i = !((l.take i).any fun q => decide (q.name = r.name)) := by simp only [nameB, hr, Option.all_some]
def limB (t : Table) : Bool := decide (t.routes.length ≤ 48 ∧ t.points.length ≤ 32 ∧ 0 ≤ t.sections ∧ t.sections ≤ 24 ∧ 0 ≤ t.signals ∧ t.signals ≤ 20)

def checkI (t : Table) : Int :=
  if limB t = false then 2
  else if pointsB t = false then 1
  else if t.routes.all (fun r => rightB t r && settsB t r) = false then 1
  else if t.routes.all agreesB = false then 10
  else if namesB t.routes = false then 8
  else 0
section chk
variable {t : Table}
theorem check_lim (h : limB t = false) : checkI t = 2 := by simp [checkI, h]
theorem check_points (h1 : limB t = true) (h : pointsB t = false) : checkI t = 1 := by simp [checkI, h1, h]
theorem check_right {r : Route} {i : Nat} (h1 : limB t = true) (h2 : pointsB t = true) (hr : t.routes[i]? = some r) (h : (rightB t r && settsB t r) = false) : checkI t = 1 := by
  unfold checkI
  rw [if_neg (by simp [h1]), if_neg (by simp [h2]), if_pos (allTo_no hr h)]
theorem check_agree {r : Route} {i : Nat} (h1 : limB t = true) (h2 : pointsB t = true) (h3 : t.routes.all (fun r => rightB t r && settsB t r) = true) (hr : t.routes[i]? = some r) (h : agreesB r = false) : checkI t = 10 := by
  unfold checkI
  rw [if_neg (by simp [h1]), if_neg (by simp [h2]), if_neg (by rw [h3]; simp), if_pos (allTo_no hr h)]
theorem check_names (h1 : limB t = true) (h2 : pointsB t = true) (h3 : t.routes.all (fun r => rightB t r && settsB t r) = true) (h4 : t.routes.all agreesB = true) (h : namesB t.routes = false) : checkI t = 8 := by
  unfold checkI
  rw [if_neg (by simp [h1]), if_neg (by simp [h2]), if_neg (by rw [h3]; simp), if_neg (by rw [h4]; simp), if_pos h]
theorem check_ok (h1 : limB t = true) (h2 : pointsB t = true) (h3 : t.routes.all (fun r => rightB t r && settsB t r) = true) (h4 : t.routes.all agreesB = true) (h : namesB t.routes = true) : checkI t = 0 := by
  unfold checkI
  rw [if_neg (by simp [h1]), if_neg (by simp [h2]), if_neg (by rw [h3]; simp), if_neg (by rw [h4]; simp), if_neg (by simp [h])]
theorem all_and {α : Type} {p q : α → Bool} {l : List α} (hp : l.all p = true) (hq : l.all q = true) : l.all (fun x => p x && q x) = true := by
  rw [List.all_eq_true] at *
  intro x hx
  rw [hp x hx, hq x hx]; rfl
theorem check_lims (h : checkI t = 0) : limB t = true := by
  cases e : limB t with
  | true => rfl
  | false => rw [check_lim e] at h; exact absurd h (by decide)
end chk

/-! ### The sections used so far -/

def usedTo (l : List Int) (i : Nat) : List Bool := (List.range 24).map fun (j : Nat) => decide ((j : Int) ∈ l.take i)
theorem usedTo_zero (l : List Int) : usedTo l 0 = List.replicate 24 false := by simp [usedTo, List.map_const']
theorem usedTo_length (l : List Int) (i : Nat) : (usedTo l i).length = 24 := by simp [usedTo]
theorem usedTo_get (l : List Int) (i : Nat) {s : Int} (h0 : 0 ≤ s) (h1 : s < 24) : (usedTo l i)[s.toNat]? = some (decide (s ∈ l.take i)) := by
  have : s.toNat < 24 := by omega
  simp [usedTo, this, Int.toNat_of_nonneg h0]
theorem usedTo_set {l : List Int} {i : Nat} {s : Int} (hs : l[i]? = some s) (h0 : 0 ≤ s) (h1 : s < 24) : (usedTo l i).set s.toNat true = usedTo l (i + 1) := by
  apply List.ext_getElem?
  intro j
  by_cases hj : j < 24
  · have e1 : ∀ k, (usedTo l k)[j]? = some (decide ((j : Int) ∈ l.take k)) := fun k => by simp [usedTo, hj]
    rw [List.getElem?_set, e1, e1, List.take_add_one, hs]
    split
    · rename_i e
      rw [if_pos (by rw [usedTo_length]; omega)]
      have : (j : Int) = s := by omega
      simp [this]
    · rename_i e
      have : ¬ (j : Int) = s := by omega
      simp [this]
  · rw [List.getElem?_eq_none (by simp [usedTo]; omega), List.getElem?_eq_none (by simp [usedTo]; omega)]

/-! ### The names so far -/

def namesTo (l : List Route) (i : Nat) : List (ByteArray × Bool) := (l.take i).map fun r => (r.name, true)
theorem namesTo_zero (l : List Route) : namesTo l 0 = [] := by simp [namesTo]
theorem namesTo_succ {l : List Route} {i : Nat} {r : Route} (hr : l[i]? = some r) : namesTo l i ++ [(r.name, true)] = namesTo l (i + 1) := by
  unfold namesTo; rw [List.take_add_one, hr]; simp
theorem namesTo_assoc (l : List Route) (i : Nat) (s : ByteArray) : (match assocE (namesTo l i) s with | some b => D.bool b | none => D.bool false) = D.bool ((l.take i).any fun q => decide (q.name = s)) := by
  unfold namesTo
  induction l.take i with
  | nil => rfl
  | cons x r ih =>
    simp only [List.map_cons, List.any_cons, assocE, List.find?_cons]
    cases h : decide (x.name = s) with
    | true => simp
    | false => simpa [assocE] using ih
theorem namesTo_none {l : List Route} {i : Nat} {s : ByteArray} (h : ((l.take i).any fun q => decide (q.name = s)) = false) : assocE (namesTo l i) s = none := by
  unfold namesTo assocE
  rw [Option.map_eq_none_iff, List.find?_eq_none]
  intro x hx
  simp only [List.mem_map] at hx
  obtain ⟨r, hr, rfl⟩ := hx
  rw [List.any_eq_false] at h
  simpa using h r hr
theorem namesTo_nodup {l : List Route} : ∀ {i : Nat}, upTo (nameB l) i → ((namesTo l i).map (·.1)).Nodup
  | 0, _ => by simp [namesTo]
  | i + 1, h => by
    have ih := namesTo_nodup (i := i) fun j hj => h j (by omega)
    cases hr : l[i]? with
    | none => unfold namesTo at *; rw [List.take_add_one, hr]; simpa using ih
    | some r =>
      have hn := h i (by omega)
      rw [nameB_at hr] at hn
      rw [← namesTo_succ hr, List.map_append, List.nodup_append]
      refine ⟨ih, by simp, fun a ha b hb e => ?_⟩
      simp only [List.map_cons, List.map_nil, List.mem_singleton] at hb
      subst hb; subst e
      unfold namesTo at ha
      simp only [List.map_map, List.mem_map, Function.comp_apply] at ha
      obtain ⟨q, hq, he⟩ := ha
      simp only [Bool.not_eq_true', List.any_eq_false] at hn
      exact hn q hq (by simp [he])
theorem find_name {l : List Route} {i : Nat} {r : Route} (hr : l[i]? = some r) : decide (idxI (l.findIdx? fun q => decide (q.name = r.name)) = (i : Int)) = nameB l i := by
  rw [nameB_at hr, Bool.eq_iff_iff]
  have hi := (List.getElem?_eq_some_iff.1 hr).1
  have hri := (List.getElem?_eq_some_iff.1 hr).2
  simp only [decide_eq_true_eq, Bool.not_eq_true', List.any_eq_false]
  constructor
  · intro h q hq
    cases e : l.findIdx? fun q => decide (q.name = r.name) with
    | none => rw [e] at h; simp only [idxI] at h; omega
    | some j =>
      rw [e] at h
      simp only [idxI] at h
      have : j = i := by omega
      subst this
      rw [List.findIdx?_eq_some_iff_getElem] at e
      obtain ⟨_, _, h3⟩ := e
      obtain ⟨k, hk, rfl⟩ := List.mem_take_iff_getElem.1 hq
      simpa using h3 k (by omega)
  · intro h
    have : l.findIdx? (fun q => decide (q.name = r.name)) = some i := by
      refine idx_at (x := r) ?_ hr (by simp)
      unfold anyTo
      rw [List.any_eq_false]
      simpa using h
    rw [this]; rfl

/-! ### States -/

def routeFitsB (x : RouteState) (n : Int) : Bool :=
  if x.state = 0 ∨ x.state = 1 ∨ x.state = 2 then decide (x.rel = 0 ∧ x.timer = 0)
  else if x.state = 3 then decide (0 ≤ x.rel ∧ x.rel < n ∧ (x.timer = 0 ∨ (x.rel = n - 1 ∧ 0 < x.timer ∧ x.timer < 4)))
  else if x.state = 4 then decide (0 ≤ x.rel ∧ x.rel < n ∧ 0 ≤ x.timer ∧ x.timer < 12)
  else false
theorem routeFits_low {x : RouteState} {n : Int} (h : x.state = 0 ∨ x.state = 1 ∨ x.state = 2) : routeFitsB x n = decide (x.rel = 0 ∧ x.timer = 0) := by unfold routeFitsB; rw [if_pos h]
theorem routeFits_used {x : RouteState} {n : Int} (h : x.state = 3) : routeFitsB x n = decide (0 ≤ x.rel ∧ x.rel < n ∧ (x.timer = 0 ∨ (x.rel = n - 1 ∧ 0 < x.timer ∧ x.timer < 4))) := by unfold routeFitsB; rw [if_neg (by omega), if_pos h]
theorem routeFits_held {x : RouteState} {n : Int} (h : x.state = 4) : routeFitsB x n = decide (0 ≤ x.rel ∧ x.rel < n ∧ 0 ≤ x.timer ∧ x.timer < 12) := by unfold routeFitsB; rw [if_neg (by omega), if_neg (by omega), if_pos h]
theorem routeFits_no {x : RouteState} {n : Int} (h : ¬ (x.state = 0 ∨ x.state = 1 ∨ x.state = 2)) (h3 : ¬ x.state = 3) (h4 : ¬ x.state = 4) : routeFitsB x n = false := by unfold routeFitsB; rw [if_neg h, if_neg h3, if_neg h4]

def stateFitB (t : Table) (s : Inter) (i : Nat) : Bool := (s.routes[i]?).all fun x => (t.routes[i]?).all fun r => routeFitsB x r.sections.length
def lieB (p : Int) : Bool := decide (p = 1 ∨ p = 2)
def fitsB (t : Table) (s : Inter) : Bool := decide (checkI t = 0 ∧ s.routes.length = t.routes.length ∧ s.lies.length = t.points.length) && allB s.routes.length (stateFitB t s) && s.lies.all lieB
theorem stateFitB_at {t : Table} {s : Inter} {i : Nat} {x : RouteState} {r : Route} (hx : s.routes[i]? = some x) (hr : t.routes[i]? = some r) : stateFitB t s i = routeFitsB x r.sections.length := by simp only [stateFitB, hx, hr, Option.all_some]
theorem fitsB_iff {t : Table} {s : Inter} : fitsB t s = true ↔ checkI t = 0 ∧ s.routes.length = t.routes.length ∧ s.lies.length = t.points.length ∧ (∀ i, i < s.routes.length → stateFitB t s i = true) ∧ ∀ p ∈ s.lies, lieB p = true := by
  unfold fitsB
  rw [Bool.and_eq_true, Bool.and_eq_true, decide_eq_true_eq, allB_iff, List.all_eq_true]
  constructor
  · rintro ⟨⟨⟨h1, h2, h3⟩, h4⟩, h5⟩; exact ⟨h1, h2, h3, h4, h5⟩
  · rintro ⟨h1, h2, h3, h4, h5⟩; exact ⟨⟨⟨h1, h2, h3⟩, h4⟩, h5⟩

/-- What a route locks in a state that fits. -/
def pathR (r : Route) (x : RouteState) : List Int := if x.state = 0 then [] else r.sections.drop x.rel.toNat
def overR (r : Route) (x : RouteState) : List Int := if x.state = 0 then [] else r.overSections
def lockI (f : Route → RouteState → List Int) (t : Table) (s : Inter) (n : Int) : List Int :=
  if fitsB t s = true ∧ 0 ≤ n then match t.routes[n.toNat]?, s.routes[n.toNat]? with | some r, some x => f r x | _, _ => [] else []
def pathI := lockI pathR
def overI := lockI overR
theorem lockI_no {f : Route → RouteState → List Int} {t : Table} {s : Inter} {n : Int} (h : n < 0 ∨ (t.routes.length : Int) ≤ n ∨ fitsB t s = false) : lockI f t s n = [] := by
  unfold lockI
  split
  · rename_i h1
    rw [List.getElem?_eq_none (l := t.routes) (by
      rcases h with h | h | h
      · omega
      · omega
      · rw [h] at h1; exact absurd h1.1 (by decide))]
  · rfl
theorem lockI_at {f : Route → RouteState → List Int} {t : Table} {s : Inter} {i : Nat} {r : Route} {x : RouteState} (h : fitsB t s = true) (hr : t.routes[i]? = some r) (hx : s.routes[i]? = some x) : lockI f t s (i : Int) = f r x := by
  unfold lockI
  rw [if_pos ⟨h, by omega⟩]
  simp [hr, hx]

end Go.Proofs.Ytckkkfgjgjoemaa
