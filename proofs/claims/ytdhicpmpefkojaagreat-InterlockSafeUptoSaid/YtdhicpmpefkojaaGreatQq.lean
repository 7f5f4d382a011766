/- Texts of this proof, joined, without what it does not use. No condition. -/
import Derived.Test.YtdhicpmpefkojaaGreatQp

set_option linter.unusedVariables false
set_option linter.unusedSimpArgs false
set_option maxHeartbeats 400000
set_option maxRecDepth 100000
namespace Go.Proofs.YtdhicpmpefkojaaGreat
open Go Go.TL

def smallR (r : Route) : Bool := decide (r.sections.length ≤ 30 ∧ r.overSections.length ≤ 30 ∧ r.points.length ≤ 30 ∧ r.overPoints.length ≤ 30 ∧ r.flank.length ≤ 30 ∧ r.path.length ≤ 30)
def smallB (t : Table) (s : Inter) : Bool := t.routes.all smallR && decide (t.routes.length ≤ 50 ∧ t.points.length ≤ 40 ∧ t.homes.length ≤ 40 ∧ s.routes.length ≤ 50 ∧ s.lies.length ≤ 40)
theorem small_eq (t : Table) (s : Inter) (ht : t.Wf) : law21_Small t s = some (smallB t s) := by
 have h0 := len_ok ht.routes.1
 unfold law21_Small smallB
 rw [loop_any t.routes (fun r => !smallR r) (.inr false) (.inl ()) (by omega) (fun i r hr => ?_) (by rw [if_neg (by omega)]; rfl), not_all_any']
 ·cases t.routes.all smallR
  ·rfl
  ·simp only [Bool.not_true, Bool.false_eq_true, if_false, bindS_inl, Option.some.injEq, Bool.true_and]
   rw [Bool.eq_iff_iff]
   simp only [Bool.and_eq_true, decide_eq_true_eq]
   omega
 ·have hi := (List.getElem?_eq_some_iff.1 hr).1
  rw [if_pos (by omega), getM_at hr, guardM_true (i64_nat hi (by omega))]
  unfold smallR
  by_cases hb : r.sections.length ≤ 30 ∧ r.overSections.length ≤ 30 ∧ r.points.length ≤ 30 ∧ r.overPoints.length ≤ 30 ∧ r.flank.length ≤ 30 ∧ r.path.length ≤ 30
  ·rw [if_neg (by simp only [Bool.or_eq_true, decide_eq_true_eq]; omega), if_neg (by simpa using hb)]
  ·rw [if_pos (by simp only [Bool.or_eq_true, decide_eq_true_eq]; omega), if_pos (by rw [decide_eq_false hb]; rfl)]; rfl
theorem wf_ok {t : Table} (h : t.Wf) : SOk t := fun r hr s hs => by
 have hw := h.routes.2 r hr
 simp only [allS, List.mem_append] at hs
 rcases hs with (hs | hs) | hs
 ·have := hw.points.2 s hs; exact ⟨this.el, this.pos⟩
 ·have := hw.overPoints.2 s hs; exact ⟨this.el, this.pos⟩
 ·have := hw.flank.2 s hs; exact ⟨this.el, this.pos⟩

theorem pathI_at {t : Table} {s : Inter} {i : Nat} (hf : fitsB t s = true) (H : FitsAt t s i) : pathI t s (i : Int) = pathAt t s i := lockI_at hf H.r H.x

end Go.Proofs.YtdhicpmpefkojaaGreat

set_option linter.unusedVariables false
set_option linter.unusedSimpArgs false
set_option maxHeartbeats 400000
set_option maxRecDepth 100000
namespace Go.Proofs.YtdhicpmpefkojaaGreat
open Go Go.TL

def placeOf (t : Table) (el : Int) : Nat := (indexI t.points el).getD 0
/-- The positions after so many settings. -/
def liesTo (t : Table) (l : List Setting) (b : List Int) : List Int := l.foldl (fun b e => b.set (placeOf t e.el) e.pos) b
theorem liesTo_len (t : Table) (l : List Setting) : ∀ b, (liesTo t l b).length = b.length := by
  induction l with
  | nil => intro b; rfl
  | cons e r ih => intro b; unfold liesTo; rw [List.foldl_cons]; exact (ih _).trans List.length_set
theorem liesTo_mem (t : Table) (l : List Setting) (P : Int → Prop) (hl : ∀ e ∈ l, P e.pos) : ∀ b, (∀ p ∈ b, P p) → ∀ p ∈ liesTo t l b, P p := by
  induction l with
  | nil => intro b hb p hp; exact hb p hp
  | cons e r ih =>
    intro b hb p hp
    unfold liesTo at hp; rw [List.foldl_cons] at hp
    refine ih (fun x hx => hl x (List.mem_cons_of_mem _ hx)) _ (fun q hq => ?_) p hp
    rcases List.mem_or_eq_of_mem_set hq with h | h
    · exact hb q h
    · rw [h]; exact hl e (List.mem_cons_self ..)
theorem liesTo_no (t : Table) (l : List Setting) (k : Nat) (h : ∀ e ∈ l, placeOf t e.el ≠ k) : ∀ b, (liesTo t l b)[k]? = b[k]? := by
  induction l with
  | nil => intro b; rfl
  | cons e r ih =>
    intro b
    unfold liesTo; rw [List.foldl_cons]
    refine (ih (fun x hx => h x (List.mem_cons_of_mem _ hx)) _).trans ?_
    rw [List.getElem?_set_ne (h e (List.mem_cons_self ..))]
theorem liesTo_yes (t : Table) (l : List Setting) (k : Nat) (v : Int) (h : ∀ e ∈ l, placeOf t e.el = k → e.pos = v) : ∀ b, k < b.length → (∃ e ∈ l, placeOf t e.el = k) ∨ b[k]? = some v → (liesTo t l b)[k]? = some v := by
  induction l with
  | nil => intro b hk hx; rcases hx with ⟨e, he, _⟩ | hx; cases he; exact hx
  | cons e r ih =>
    intro b hk hx
    unfold liesTo; rw [List.foldl_cons]
    refine ih (fun x hx => h x (List.mem_cons_of_mem _ hx)) _ (by rw [List.length_set]; exact hk) ?_
    by_cases hp : placeOf t e.el = k
    · right; rw [hp, List.getElem?_set_self hk, h e (List.mem_cons_self ..) hp]
    · rcases hx with ⟨x, hx, hxk⟩ | hx
      · rcases List.mem_cons.1 hx with rfl | hx
        · exact absurd hxk hp
        · exact .inl ⟨x, hx, hxk⟩
      · right; rw [List.getElem?_set_ne hp]; exact hx
theorem liesTo_succ (t : Table) (l : List Setting) (b : List Int) {i : Nat} {e : Setting} (h : l[i]? = some e) : liesTo t (l.take (i + 1)) b = (liesTo t (l.take i) b).set (placeOf t e.el) e.pos := by
  obtain ⟨hi, rfl⟩ := List.getElem?_eq_some_iff.1 h
  unfold liesTo
  rw [List.take_succ_eq_append_getElem hi, List.foldl_append]; rfl

def callI (t : Table) (s : Inter) (i : Nat) : Inter := ⟨s.routes.set i setX, liesTo t (ascS (allS (rAt t i))) s.lies⟩

/-- Settings of one route at the same points are in the same position. -/
theorem one_pos {t : Table} {r : Route} (hs : settsB t r = true) (ha : agreesB r = true) {e e' : Setting} (he : e ∈ allS r) (he' : e' ∈ allS r) (hel : e.el = e'.el) : e.pos = e'.pos := by
  have inner : ∀ l : List Setting, settingsB t l = true → ∀ (i j : Nat), i < j → ∀ (x y : Setting), l[i]? = some x → l[j]? = some y → x.el < y.el := by
    intro l hl i j
    induction j with
    | zero => intro h; omega
    | succ j ih =>
      intro hij x y hx hy
      obtain ⟨hj, rfl⟩ := List.getElem?_eq_some_iff.1 hy
      have hj' : l[j]? = some l[j] := by rw [List.getElem?_eq_getElem]
      have h1 := allB_iff.1 hl (j + 1) hj
      rw [settB_at hy (by rw [Nat.add_sub_cancel]; exact hj')] at h1
      have h2 := (of_decide_eq_true h1).2.2.2 (by omega)
      rcases Nat.lt_or_ge i j with hlt | hge
      · have := ih hlt x _ hx hj'; omega
      · have : i = j := by omega
        subst this
        rw [hx] at hj'; cases hj'; exact h2
  have same : ∀ l : List Setting, settingsB t l = true → ∀ (x y : Setting), x ∈ l → y ∈ l → x.el = y.el → x.pos = y.pos := by
    intro l hl x y hx hy hxy
    obtain ⟨i, hi, rfl⟩ := List.mem_iff_getElem.1 hx
    obtain ⟨j, hj, rfl⟩ := List.mem_iff_getElem.1 hy
    rcases Nat.lt_trichotomy i j with h | h | h
    · have := inner l hl i j h _ _ (List.getElem?_eq_getElem hi) (List.getElem?_eq_getElem hj); omega
    · subst h; rfl
    · have := inner l hl j i h _ _ (List.getElem?_eq_getElem hj) (List.getElem?_eq_getElem hi); omega
  have cross : ∀ l m : List Setting, agreeB l m = true → ∀ (x y : Setting), x ∈ l → y ∈ m → x.el = y.el → x.pos = y.pos := by
    intro l m hl x y hx hy hxy
    unfold agreeB at hl
    rw [List.all_eq_true] at hl
    have := hl x hx
    rw [List.all_eq_true] at this
    have := this y hy
    rw [hxy] at this
    simpa using this
  unfold settsB at hs
  unfold agreesB at ha
  simp only [Bool.and_eq_true] at hs ha
  simp only [allS, List.mem_append] at he he'
  rcases he with (he | he) | he <;> rcases he' with (he' | he') | he'
  · exact same _ hs.1.1 _ _ he he' hel
  · exact cross _ _ ha.1.1 _ _ he he' hel
  · exact cross _ _ ha.1.2 _ _ he he' hel
  · exact (cross _ _ ha.1.1 _ _ he' he hel.symm).symm
  · exact same _ hs.1.2 _ _ he he' hel
  · exact cross _ _ ha.2 _ _ he he' hel
  · exact (cross _ _ ha.1.2 _ _ he' he hel.symm).symm
  · exact (cross _ _ ha.2 _ _ he' he hel.symm).symm
  · exact same _ hs.2 _ _ he he' hel

theorem place_inj {t : Table} {a b : Int} {k q : Nat} (ha : indexI t.points a = some k) (hb : indexI t.points b = some q) (h : k = q) : a = b := by
  subst h
  obtain ⟨x, hx, hxa, _⟩ := idx_get ha
  obtain ⟨y, hy, hyb, _⟩ := idx_get hb
  rw [hx] at hy; cases hy
  simp only [beq_iff_eq] at hxa hyb
  omega

theorem call_lie_in {t : Table} {s : Inter} (hf : fitsB t s = true) {i : Nat} (hi : i < t.routes.length) {e : Setting} (he : e ∈ allS (rAt t i)) : lieOf t (callI t s i) e.el = e.pos := by
  have H := fitsAt hf hi
  have hf' := fitsB_iff.1 hf
  have hc := check_all hf'.1
  obtain ⟨q, hq, hql⟩ := sett_index (hc.2.2.1 _ H.mem).2 he
  have := liesTo_yes t (ascS (allS (rAt t i))) q e.pos (fun x hx hxq => by
    have hx := ascS_mem.1 hx
    obtain ⟨q', hq', _⟩ := sett_index (hc.2.2.1 _ H.mem).2 hx
    have : q' = q := by simpa [placeOf, hq'] using hxq
    exact one_pos (hc.2.2.1 _ H.mem).2 (hc.2.2.2.1 _ H.mem) hx he (place_inj hq' hq this)) s.lies (by omega) (.inl ⟨e, ascS_mem.2 he, by simp [placeOf, hq]⟩)
  unfold lieOf callI; rw [hq]; simp only [Option.bind_some]; rw [this]; rfl
theorem call_lie_out {t : Table} {s : Inter} (hf : fitsB t s = true) {i : Nat} (hi : i < t.routes.length) {el : Int} (he : ∀ e ∈ allS (rAt t i), e.el ≠ el) (hel : (indexI t.points el).isSome = true) : lieOf t (callI t s i) el = lieOf t s el := by
  have H := fitsAt hf hi
  have hc := check_all (fitsB_iff.1 hf).1
  obtain ⟨q, hq⟩ := Option.isSome_iff_exists.1 hel
  have := liesTo_no t (ascS (allS (rAt t i))) q (fun x hx hxq => by
    have hx := ascS_mem.1 hx
    obtain ⟨q', hq', _⟩ := sett_index (hc.2.2.1 _ H.mem).2 hx
    have : q' = q := by simpa [placeOf, hq'] using hxq
    exact he x hx (place_inj hq' hq this)) s.lies
  unfold lieOf callI; rw [hq]; simp only [Option.bind_some]; rw [this]

theorem xAt_set_self {s : Inter} {i : Nat} {x : RouteState} {l : List Int} (hi : i < s.routes.length) : xAt ⟨s.routes.set i x, l⟩ i = x := by
  simp [xAt, List.getElem?_set_self hi]
theorem xAt_set_ne {s : Inter} {i o : Nat} {x : RouteState} {l : List Int} (h : o ≠ i) : xAt ⟨s.routes.set i x, l⟩ o = xAt s o := by
  simp [xAt, List.getElem?_set_ne (Ne.symm h)]
/-- One route's state is changed. -/
theorem fits_set {t : Table} {s : Inter} (hf : fitsB t s = true) {i : Nat} (hi : i < t.routes.length) {x : RouteState} (hx : routeFitsB x (rAt t i).sections.length = true) {l : List Int} (hl : l.length = s.lies.length) (hm : ∀ p ∈ l, lieB p = true) : fitsB t ⟨s.routes.set i x, l⟩ = true := by
  have H := fitsAt hf hi
  have hf' := fitsB_iff.1 hf
  refine fitsB_iff.2 ⟨hf'.1, by simpa using hf'.2.1, by simpa [hl] using hf'.2.2.1, fun o ho => ?_, hm⟩
  simp only [List.length_set] at ho
  by_cases e : o = i
  · subst e
    rw [stateFitB_at (by simp only []; rw [List.getElem?_set_self ho]) H.r]; exact hx
  · have H' := fitsAt hf (i := o) (by omega)
    rw [stateFitB_at (x := xAt s o) (by simp only []; rw [List.getElem?_set_ne (Ne.symm e)]; exact H'.x) H'.r]; exact H'.fits
theorem clash_all {t : Table} {s : Inter} (h : soundB t s = true) {a b : Nat} (ha : a < t.routes.length) (hb : b < t.routes.length) (hne : a ≠ b) : clashAt t s a b = false := by
  have h' := h
  unfold soundB at h'
  rw [Bool.and_eq_true, Bool.and_eq_true] at h'
  have key : ∀ a b, b < a → a < t.routes.length → clashAt t s a b = false := fun a b hba ha => by
    have := allB_iff.1 (allB_iff.1 h'.1.2 a ha) b hba
    simpa using this
  rcases Nat.lt_or_gt_of_ne hne with hl | hl
  · rw [clash_symm]; exact key b a hl hb
  · exact key a b hl ha
theorem bound_all {t : Table} {s : Inter} (h : soundB t s = true) {a : Nat} (ha : a < t.routes.length) : ∀ e ∈ boundAt t s a, lieOf t s e.el = e.pos := by
  unfold soundB at h
  rw [Bool.and_eq_true] at h
  intro e he
  have := List.all_eq_true.1 (allB_iff.1 h.2 a ha) e he
  exact of_decide_eq_true this
theorem sound_of {t : Table} {s : Inter} (hf : fitsB t s = true) (h1 : ∀ a b, a < t.routes.length → b < t.routes.length → a ≠ b → clashAt t s a b = false) (h2 : ∀ a, a < t.routes.length → ∀ e ∈ boundAt t s a, lieOf t s e.el = e.pos) : soundB t s = true := by
  unfold soundB
  rw [Bool.and_eq_true, Bool.and_eq_true]
  refine ⟨⟨hf, allB_iff.2 fun a ha => allB_iff.2 fun b hb => ?_⟩, allB_iff.2 fun a ha => List.all_eq_true.2 fun e he => decide_eq_true (h2 a ha e he)⟩
  rw [h1 a b ha (by omega) (by omega)]; rfl

theorem free_zero {t : Table} {s : Inter} {p : Inputs} {n : Int} (h : freeI t s p n = 0) : soundB t s = true ∧ 0 ≤ n ∧ n < t.routes.length ∧ (xAt s n.toNat).state = 0 ∧ (∀ o, o < t.routes.length → busyAt t s n.toNat o = false) ∧ (∀ o, o < t.routes.length → contraAt t s n.toNat o = false) := by
  unfold freeI at h
  split at h
  · omega
  · rename_i h1
    split at h
    · omega
    · rename_i h2
      split at h
      · omega
      · split at h
        · omega
        · rename_i h4
          split at h
          · omega
          · rename_i h5
            refine ⟨by cases hs : soundB t s; · exact absurd (.inl hs) h1
                       · rfl, by omega, by omega, by omega, fun o ho => ?_, fun o ho => ?_⟩
            · cases hb : busyAt t s n.toNat o
              · rfl
              · exact absurd (List.any_eq_true.2 ⟨o, List.mem_range.2 ho, hb⟩) h4
            · cases hb : contraAt t s n.toNat o
              · rfl
              · exact absurd (List.any_eq_true.2 ⟨o, List.mem_range.2 ho, hb⟩) h5

theorem pathAt_ne {t : Table} {s : Inter} {i o : Nat} {x : RouteState} {l : List Int} (h : o ≠ i) : pathAt t ⟨s.routes.set i x, l⟩ o = pathAt t s o := by unfold pathAt; rw [xAt_set_ne h]
theorem overAt_ne {t : Table} {s : Inter} {i o : Nat} {x : RouteState} {l : List Int} (h : o ≠ i) : overAt t ⟨s.routes.set i x, l⟩ o = overAt t s o := by unfold overAt; rw [xAt_set_ne h]
theorem boundAt_ne {t : Table} {s : Inter} {i o : Nat} {x : RouteState} {l : List Int} (h : o ≠ i) : boundAt t ⟨s.routes.set i x, l⟩ o = boundAt t s o := by unfold boundAt; rw [xAt_set_ne h]

theorem call_sound {t : Table} {s : Inter} {p : Inputs} {i : Nat} (h : freeI t s p (i : Int) = 0) : soundB t (callI t s i) = true := by
  obtain ⟨hs, _, hi, _, hb, hcn⟩ := free_zero h
  have hi : i < t.routes.length := by omega
  rw [Int.toNat_natCast] at hb hcn
  have hf := sound_fits hs
  have H := fitsAt hf hi
  have hf' := fitsB_iff.1 hf
  have hc := check_all hf'.1
  have hn : i < s.routes.length := by omega
  have hF : fitsB t (callI t s i) = true := fits_set hf hi (setX_fits _) (liesTo_len ..) (fun q hq => by
    refine liesTo_mem t _ (fun p => lieB p = true) (fun e he => ?_) s.lies hf'.2.2.2.2 q hq
    have he := ascS_mem.1 he
    have hs := (hc.2.2.1 _ H.mem).2
    unfold settsB at hs
    simp only [Bool.and_eq_true] at hs
    have : 1 ≤ e.pos ∧ e.pos ≤ 2 := by
      simp only [allS, List.mem_append] at he
      rcases he with (he | he) | he
      · exact (settB_mem hs.1.1 he).2
      · exact (settB_mem hs.1.2 he).2
      · exact (settB_mem hs.2 he).2
    exact decide_eq_true (by omega))
  have key : ∀ o, o < t.routes.length → o ≠ i → clashAt t (callI t s i) i o = false := fun o ho hne => by
    have h1 := hb o ho
    unfold busyAt at h1
    rw [decide_eq_false hne, Bool.not_false, Bool.true_and] at h1
    unfold clashAt
    rw [show pathAt t (callI t s i) i = (rAt t i).sections by unfold pathAt callI; rw [xAt_set_self hn, pathR_set], show overAt t (callI t s i) i = (rAt t i).overSections by unfold overAt callI; rw [xAt_set_self hn, overR_set], show pathAt t (callI t s i) o = pathAt t s o from pathAt_ne hne, show overAt t (callI t s i) o = overAt t s o from overAt_ne hne]
    exact h1
  refine sound_of hF (fun a b ha hb' hne => ?_) (fun a ha e he => ?_)
  · by_cases e : a = i
    · subst e; exact key b hb' (Ne.symm hne)
    · by_cases e' : b = i
      · subst e'; rw [clash_symm]; exact key a ha e
      · have := clash_all hs ha hb' hne
        unfold clashAt at this ⊢
        rw [show pathAt t (callI t s i) a = pathAt t s a from pathAt_ne e, show overAt t (callI t s i) a = overAt t s a from overAt_ne e, show pathAt t (callI t s i) b = pathAt t s b from pathAt_ne e', show overAt t (callI t s i) b = overAt t s b from overAt_ne e']
        exact this
  · by_cases hai : a = i
    · subst hai
      exact call_lie_in hf hi (boundR_mem he)
    · rw [show boundAt t (callI t s i) a = boundAt t s a from boundAt_ne hai] at he
      have h1 := bound_all hs ha e he
      by_cases hx : ∃ e' ∈ allS (rAt t i), e'.el = e.el
      · obtain ⟨e', he', hel⟩ := hx
        have h2 := hcn a ha
        unfold contraAt at h2
        rw [decide_eq_false hai, Bool.not_false, Bool.true_and, Bool.not_eq_false'] at h2
        unfold agreeB at h2
        have h3 := List.all_eq_true.1 (List.all_eq_true.1 h2 e' (ascS_mem.2 he')) e he
        have h4 := call_lie_in hf hi he'
        rw [hel] at h4 h3
        have h5 : e'.pos = e.pos := by simpa using h3
        omega
      · refine (call_lie_out hf hi (fun x hx' hxe => hx ⟨x, hx', hxe⟩) ?_).trans h1
        have H' := fitsAt hf ha
        obtain ⟨q, hq, _⟩ := sett_index (hc.2.2.1 _ H'.mem).2 (boundR_mem he)
        rw [hq]; rfl

end Go.Proofs.YtdhicpmpefkojaaGreat

set_option linter.unusedVariables false
set_option linter.unusedSimpArgs false
set_option maxHeartbeats 400000
set_option maxRecDepth 100000
namespace Go.Proofs.YtdhicpmpefkojaaGreat
open Go Go.TL

abbrev occB (p : Inputs) (n : Int) : Bool := closedB p.occupied n
def claimedB (p : Inputs) (i : Nat) : Bool := decide (p.claimed.length ≤ i) || p.claimed.getD i false
def passedB (p : Inputs) (i : Nat) : Bool := decide (i < p.passed.length) && p.passed.getD i false
def cancelB (p : Inputs) (i : Nat) : Bool := decide ((i : Int) ∈ p.cancels)
def detectB (t : Table) (p : Inputs) (e : Setting) : Bool := decide (p.detected[placeOf t e.el]? = some e.pos)
def provedR (t : Table) (p : Inputs) (r : Route) : Bool := !((r.sections ++ r.overSections).any (occB p)) && (ascS (allS r)).all (detectB t p)
def emptiedAt (t : Table) (s : Inter) (p : Inputs) (i : Nat) : Bool := !(pathAt t s i).any (occB p)
def idleX : RouteState := ⟨0, 0, 0⟩
def secAt (r : Route) (k : Int) : Int := r.sections.getD k.toNat 0
/-- What becomes of a route: c claimed, q passed, l cancelled, m emptied, v proved. -/
def nextX (r : Route) (p : Inputs) (c q l m v : Bool) (x : RouteState) : RouteState :=
 if x.state = 1 then (if l = true then idleX else if v = true then ⟨2, 0, 0⟩ else ⟨1, 0, 0⟩)
 else if x.state = 2 then
  (if occB p (secAt r 0) = true then ⟨3, 0, 0⟩
  else if (l && !c && !occB p r.approach) = true then idleX
  else if (l || !v) = true then ⟨4, 0, 0⟩ else ⟨2, 0, 0⟩)
 else if x.state = 3 then
  (if c = true then ⟨3, x.rel, 0⟩
  else if (l && m) = true then ⟨4, x.rel, 0⟩
  else if (!occB p (secAt r x.rel)) = true then
   (if x.rel = (r.sections.length : Int) - 1 then idleX else if (q || occB p (secAt r (x.rel + 1))) = true then ⟨3, x.rel + 1, 0⟩ else ⟨3, x.rel, 0⟩)
  else if x.rel < (r.sections.length : Int) - 1 then ⟨3, x.rel, 0⟩
  else if x.timer + 1 = 4 then idleX else ⟨3, x.rel, x.timer + 1⟩)
 else if x.state = 4 then
  (if occB p (secAt r x.rel) = true then ⟨3, x.rel, 0⟩
  else if (c || !m) = true then ⟨4, x.rel, 0⟩
  else if x.timer + 1 = 12 then idleX else ⟨4, x.rel, x.timer + 1⟩)
 else idleX
section
variable {r : Route} {p : Inputs} {c q l m v : Bool} {x : RouteState}
theorem nextX_1 (h : x.state = 1) : nextX r p c q l m v x = if l = true then idleX else if v = true then ⟨2, 0, 0⟩ else ⟨1, 0, 0⟩ := by unfold nextX; rw [if_pos h]
theorem nextX_2 (h : x.state = 2) : nextX r p c q l m v x = if occB p (secAt r 0) = true then ⟨3, 0, 0⟩ else if (l && !c && !occB p r.approach) = true then idleX else if (l || !v) = true then ⟨4, 0, 0⟩ else ⟨2, 0, 0⟩ := by unfold nextX; rw [if_neg (by omega), if_pos h]
theorem nextX_3 (h : x.state = 3) : nextX r p c q l m v x = if c = true then ⟨3, x.rel, 0⟩
  else if (l && m) = true then ⟨4, x.rel, 0⟩
  else if (!occB p (secAt r x.rel)) = true then
   (if x.rel = (r.sections.length : Int) - 1 then idleX else if (q || occB p (secAt r (x.rel + 1))) = true then ⟨3, x.rel + 1, 0⟩ else ⟨3, x.rel, 0⟩)
  else if x.rel < (r.sections.length : Int) - 1 then ⟨3, x.rel, 0⟩
  else if x.timer + 1 = 4 then idleX else ⟨3, x.rel, x.timer + 1⟩ := by unfold nextX; rw [if_neg (by omega), if_neg (by omega), if_pos h]
theorem nextX_4 (h : x.state = 4) : nextX r p c q l m v x = if occB p (secAt r x.rel) = true then ⟨3, x.rel, 0⟩
  else if (c || !m) = true then ⟨4, x.rel, 0⟩
  else if x.timer + 1 = 12 then idleX else ⟨4, x.rel, x.timer + 1⟩ := by unfold nextX; rw [if_neg (by omega), if_neg (by omega), if_neg (by omega), if_pos h]
theorem nextX_0 (h1 : ¬ x.state = 1) (h2 : ¬ x.state = 2) (h3 : ¬ x.state = 3) (h4 : ¬ x.state = 4) : nextX r p c q l m v x = idleX := by unfold nextX; rw [if_neg h1, if_neg h2, if_neg h3, if_neg h4]
end
def nextAt (t : Table) (s : Inter) (p : Inputs) (i : Nat) : RouteState :=
 nextX (rAt t i) p (claimedB p i) (passedB p i) (cancelB p i) (emptiedAt t s p i) (provedR t p (rAt t i)) (xAt s i)
def nextI (t : Table) (s : Inter) (p : Inputs) (n : Int) : RouteState := if 0 ≤ n ∧ n < t.routes.length ∧ fitsB t s = true then nextAt t s p n.toNat else idleX

/-- Relation of a route's state to what becomes of it: it is idle, or nothing new is locked. -/
structure Less (n : Nat) (x y : RouteState) : Prop where
 fits : routeFitsB y n = true
 idle : x.state = 0 → y.state = 0
 rel : y.state ≠ 0 → x.rel ≤ y.rel

theorem fits_cases {x : RouteState} {n : Nat} (h : routeFitsB x n = true) : ((x.state = 0 ∨ x.state = 1 ∨ x.state = 2) ∧ x.rel = 0 ∧ x.timer = 0) ∨ (x.state = 3 ∧ 0 ≤ x.rel ∧ x.rel < n ∧ (x.timer = 0 ∨ (x.rel = n - 1 ∧ 0 < x.timer ∧ x.timer < 4))) ∨ (x.state = 4 ∧ 0 ≤ x.rel ∧ x.rel < n ∧ 0 ≤ x.timer ∧ x.timer < 12) := by
 by_cases h1 : x.state = 0 ∨ x.state = 1 ∨ x.state = 2
 ·rw [routeFits_low h1] at h; exact .inl ⟨h1, of_decide_eq_true h⟩
 ·by_cases h3 : x.state = 3
  ·rw [routeFits_used h3] at h; exact .inr (.inl ⟨h3, of_decide_eq_true h⟩)
  ·by_cases h4 : x.state = 4
   ·rw [routeFits_held h4] at h; exact .inr (.inr ⟨h4, of_decide_eq_true h⟩)
   ·rw [routeFits_no h1 h3 h4] at h; cases h
theorem fits_low {y : RouteState} {n : Nat} (h : y = idleX ∨ y = ⟨1, 0, 0⟩ ∨ y = ⟨2, 0, 0⟩) : routeFitsB y n = true := by
 rcases h with rfl | rfl | rfl <;> rfl
theorem fits_used {k m : Int} {n : Nat} (h0 : 0 ≤ k) (h1 : k < n) (h2 : m = 0 ∨ (k = n - 1 ∧ 0 < m ∧ m < 4)) : routeFitsB ⟨3, k, m⟩ n = true := by
 rw [routeFits_used rfl]; exact decide_eq_true ⟨h0, h1, h2⟩
theorem fits_held {k m : Int} {n : Nat} (h0 : 0 ≤ k) (h1 : k < n) (h2 : 0 ≤ m) (h3 : m < 12) : routeFitsB ⟨4, k, m⟩ n = true := by
 rw [routeFits_held rfl]; exact decide_eq_true ⟨h0, h1, h2, h3⟩

theorem next_less {r : Route} {p : Inputs} {c q l m v : Bool} {x : RouteState} (hn : 0 < r.sections.length) (h : routeFitsB x r.sections.length = true) : Less r.sections.length x (nextX r p c q l m v x) := by
 have idle : Less r.sections.length x idleX := ⟨fits_low (.inl rfl), fun _ => rfl, fun h => absurd rfl h⟩
 rcases fits_cases h with ⟨h1, h2, h3⟩ | ⟨h1, h2, h3, h4⟩ | ⟨h1, h2, h3, h4, h5⟩
 ·unfold nextX
  rcases h1 with h1 | h1 | h1
  ·rw [if_neg (by omega), if_neg (by omega), if_neg (by omega), if_neg (by omega)]; exact idle
  ·rw [if_pos h1]
   split
   ·exact idle
   ·split
    ·exact ⟨fits_low (.inr (.inr rfl)), fun h => by omega, fun _ => by simp only []; omega⟩
    ·exact ⟨fits_low (.inr (.inl rfl)), fun h => by omega, fun _ => by simp only []; omega⟩
  ·rw [if_neg (by omega), if_pos h1]
   split
   ·exact ⟨fits_used (by omega) (by omega) (.inl rfl), fun h => by omega, fun _ => by simp only []; omega⟩
   ·split
    ·exact idle
    ·split
     ·exact ⟨fits_held (by omega) (by omega) (by omega) (by omega), fun h => by omega, fun _ => by simp only []; omega⟩
     ·exact ⟨fits_low (.inr (.inr rfl)), fun h => by omega, fun _ => by simp only []; omega⟩
 ·unfold nextX
  rw [if_neg (by omega), if_neg (by omega), if_pos h1]
  have stay : Less r.sections.length x ⟨3, x.rel, 0⟩ := ⟨fits_used h2 h3 (.inl rfl), fun h => by omega, fun _ => Int.le_refl _⟩
  split
  ·exact stay
  ·split
   ·exact ⟨fits_held h2 h3 (by omega) (by omega), fun h => by omega, fun _ => Int.le_refl _⟩
   ·split
    ·split
     ·exact idle
     ·split
      ·exact ⟨fits_used (by omega) (by omega) (.inl rfl), fun h => by omega, fun _ => by simp only []; omega⟩
      ·exact stay
    ·split
     ·exact stay
     ·split
      ·exact idle
      ·exact ⟨fits_used h2 h3 (.inr (by omega)), fun h => by omega, fun _ => Int.le_refl _⟩
 ·unfold nextX
  rw [if_neg (by omega), if_neg (by omega), if_neg (by omega), if_pos h1]
  split
  ·exact ⟨fits_used h2 h3 (.inl rfl), fun h => by omega, fun _ => Int.le_refl _⟩
  ·split
   ·exact ⟨fits_held h2 h3 (by omega) (by omega), fun h => by omega, fun _ => Int.le_refl _⟩
   ·split
    ·exact idle
    ·exact ⟨fits_held h2 h3 (by omega) (by omega), fun h => by omega, fun _ => Int.le_refl _⟩

theorem drop_suffix {x y : RouteState} {n : Nat} {r : Route} (h : Less n x y) (hx : 0 ≤ x.rel) : ∃ d, pathR r y = (pathR r x).drop d := by
 by_cases hy : y.state = 0
 ·exact ⟨(pathR r x).length, by unfold pathR; rw [if_pos hy, List.drop_length]⟩
 ·have hx0 : ¬ x.state = 0 := fun e => hy (h.idle e)
  have := h.rel hy
  refine ⟨y.rel.toNat - x.rel.toNat, ?_⟩
  unfold pathR
  rw [if_neg hy, if_neg hx0, List.drop_drop]
  congr 1
  omega
theorem less_path {x y : RouteState} {n : Nat} {r : Route} (h : Less n x y) (hx : 0 ≤ x.rel) : ∀ k, k ∈ pathR r y → k ∈ pathR r x := by
 obtain ⟨d, hd⟩ := drop_suffix (r := r) h hx
 intro k hk
 rw [hd] at hk
 exact List.mem_of_mem_drop hk
theorem less_over {x y : RouteState} {n : Nat} {r : Route} (h : Less n x y) : overR r y = [] ∨ overR r y = overR r x := by
 by_cases hy : y.state = 0
 ·exact .inl (by unfold overR; rw [if_pos hy])
 ·have hx0 : ¬ x.state = 0 := fun e => hy (h.idle e)
  exact .inr (by unfold overR; rw [if_neg hy, if_neg hx0])
theorem less_bound {t : Table} {x y : RouteState} {n : Nat} {r : Route} (h : Less n x y) (hx : 0 ≤ x.rel) : ∀ e, e ∈ boundR t r y → e ∈ boundR t r x := by
 intro e he
 by_cases hy : y.state = 0
 ·unfold boundR at he; rw [if_pos hy] at he; cases he
 ·have hx0 : ¬ x.state = 0 := fun e => hy (h.idle e)
  have hr := h.rel hy
  unfold boundR at he ⊢
  rw [if_neg hy] at he
  rw [if_neg hx0]
  rw [ascS_mem] at he ⊢
  simp only [List.mem_append, List.mem_filter] at he ⊢
  rcases he with (he | he) | he
  ·refine .inl (.inl ⟨he.1, ?_⟩)
   have h2 := he.2
   unfold keptB at h2 ⊢
   simp only [Bool.not_eq_true', decide_eq_false_iff_not] at h2 ⊢
   intro hm
   refine h2 ?_
   have : x.rel.toNat ≤ y.rel.toNat := by omega
   have h3 : r.sections.take x.rel.toNat = (r.sections.take y.rel.toNat).take x.rel.toNat := by rw [List.take_take, Nat.min_eq_left this]
   rw [h3] at hm
   exact List.mem_of_mem_take hm
  ·exact .inl (.inr he)
  ·exact .inr he
theorem meetB_mono {a b c d : List Int} (h1 : ∀ n, n ∈ a → n ∈ c) (h2 : ∀ n, n ∈ b → n ∈ d) (h : meetB c d = false) : meetB a b = false := by
 unfold meetB at h ⊢
 rw [List.any_eq_false] at h ⊢
 intro n hn
 have := h n (h1 n hn)
 simp only [decide_eq_true_eq] at this ⊢
 exact fun hb => this (h2 n hb)
theorem clashB_mono {a b : Route} {pa oa pb ob pa' oa' pb' ob' : List Int} (h1 : ∀ n, n ∈ pa → n ∈ pa') (h2 : ∀ n, n ∈ oa → n ∈ oa') (h3 : ∀ n, n ∈ pb → n ∈ pb') (h4 : ∀ n, n ∈ ob → n ∈ ob') (h : clashB a b pa' oa' pb' ob' = false) : clashB a b pa oa pb ob = false := by
 unfold clashB at h ⊢
 simp only [Bool.or_eq_false_iff] at h ⊢
 have imp : ∀ {u v w : Bool}, (u = false → w = false) → (u && v) = false → (w && v) = false := fun {u v w} hh hu => by
  cases v with
  | false => simp
  | true => simpa using hh (by simpa using hu)
 refine ⟨⟨⟨meetB_mono h1 h3 h.1.1.1, ?_⟩, ?_⟩, ?_⟩
 ·exact imp (meetB_mono h2 h3) h.1.1.2
 ·exact imp (meetB_mono h1 h4) h.1.2
 ·have h5 := h.2
  rw [Bool.and_assoc] at h5 ⊢
  exact imp (meetB_mono h2 h4) h5
theorem over_mono {x y : RouteState} {n : Nat} {r : Route} (h : Less n x y) : ∀ k, k ∈ overR r y → k ∈ overR r x := by
 intro k hk
 rcases less_over (r := r) h with e | e
 ·rw [e] at hk; cases hk
 ·rw [e] at hk; exact hk
/-- All routes lock the same or less. -/
theorem sound_less {t : Table} {s s' : Inter} (h : soundB t s = true) (hl : s'.lies = s.lies) (hlen : s'.routes.length = s.routes.length) (hless : ∀ i, i < t.routes.length → Less (rAt t i).sections.length (xAt s i) (xAt s' i)) : soundB t s' = true := by
 have hf := sound_fits h
 have hf' := fitsB_iff.1 hf
 have hF : fitsB t s' = true := fitsB_iff.2 ⟨hf'.1, by omega, by rw [hl]; exact hf'.2.2.1, fun i hi => by
  have H := fitsAt hf (i := i) (by omega)
  rw [stateFitB_at (xAt_of hi) H.r]; exact (hless i (by omega)).fits, by rw [hl]; exact hf'.2.2.2.2⟩
 have pos : ∀ i, i < t.routes.length → 0 ≤ (xAt s i).rel := fun i hi => (rel_fits (fitsAt hf hi).fits).1
 refine sound_of hF (fun a b ha hb hne => ?_) (fun a ha e he => ?_)
 ·exact clashB_mono (less_path (hless a ha) (pos a ha)) (over_mono (hless a ha)) (less_path (hless b hb) (pos b hb)) (over_mono (hless b hb)) (clash_all h ha hb hne)
 ·have := bound_all h ha e (less_bound (hless a ha) (pos a ha) e he)
  unfold lieOf at this ⊢
  rw [hl]; exact this
end Go.Proofs.YtdhicpmpefkojaaGreat

set_option linter.unusedVariables false
set_option linter.unusedSimpArgs false
set_option maxHeartbeats 400000
set_option maxRecDepth 100000
namespace Go.Proofs.YtdhicpmpefkojaaGreat
open Go Go.TL

theorem pocc_eq (p : Inputs) (n : Int) : progress_Occupied p n = some (occB p n) := closedM p.occupied n
theorem rocc_eq (p : Inputs) (n : Int) : ref22_Occupied p n = some (occB p n) := closedM p.occupied n
theorem containsFunc_eq (l : List Int) (f : Int → Option Bool) (P : Int → Bool) (hf : ∀ x, f x = some (P x)) (h : Cnt l) : slices_ContainsFunc_int l f = some (l.any P) := by
 unfold slices_ContainsFunc_int slices_IndexFunc_int
 rw [loop_find l P (fun i => .inr (i : Int)) (.inl ()) h (fun i e he => ?_) (by rw [if_neg (by omega)]; rfl)]
 ·have hx : l.any P = (l.findIdx? P).isSome := by
   cases hq : l.findIdx? P with
   | none =>
    rw [List.findIdx?_eq_none_iff] at hq
    have : l.any P = false := by rw [List.any_eq_false]; simpa using hq
    rw [this]; rfl
   | some i =>
    obtain ⟨x, hx, hp, _⟩ := idx_get hq
    exact List.any_eq_true.2 ⟨x, List.mem_of_getElem? hx, hp⟩
  rw [hx]
  cases l.findIdx? P <;> simp <;> omega
 ·have hi := (List.getElem?_eq_some_iff.1 he).1
  rw [if_pos (by omega), getM_at he, hf, bindM_some]
  cases P e
  ·simp only [Bool.false_eq_true, if_false, guardM_true (i64_nat hi h)]
  ·simp only [if_true, inrM_some]

theorem route_pos {t : Table} {r : Route} (h : rightB t r = true) : 0 < r.sections.length := by
 unfold rightB at h
 simp only [Bool.and_eq_true] at h
 exact of_decide_eq_true h.1.1.1.2

theorem fitsLoop (t : Table) (s : Inter) (h : TOk t) (hc : checkI t = 0) (hlen : s.routes.length = t.routes.length) (hlies : s.lies.length = t.points.length) (f : Int → Option Bool) (hf : ∀ x, f x = some (!lieB x)) : bindS (
   loopM (fun x9 =>
    if x9 < (s.routes.length : Int) then
     getM s.routes x9 fun e12 =>
     getM t.routes x9 fun e13 =>
     if ((decide (e12.state < (0 : Int))) || (decide ((4 : Int) < e12.state))) = true then
      inrM (
       inrM (
        some false))
     else
      if ((!(((decide (e12.state = (3 : Int))) || (decide (e12.state = (4 : Int)))))) && ((!(decide (e12.rel = (0 : Int)))) || (!(decide (e12.timer = (0 : Int)))))) = true then
       inrM (
        inrM (
         some false))
      else
       if ((decide (e12.rel < (0 : Int))) || ((decide ((e13.sections.length : Int) ≤ e12.rel)) || (decide (e12.timer < (0 : Int))))) = true then
        inrM (
         inrM (
          some false))
       else
        bindM (
         if e12.state = (3 : Int) then
          if (0 : Int) < e12.timer then
           guardM (I64 ((e13.sections.length : Int) - (1 : Int))) <|
           if e12.rel = ((e13.sections.length : Int) - (1 : Int)) then
            some (decide ((4 : Int) ≤ e12.timer))
           else
            some true
          else
           some false
         else
          some false) fun x29 =>
        if x29 = true then
         inrM (
          inrM (
           some false))
        else
         if ((decide (e12.state = (4 : Int))) && (decide ((12 : Int) ≤ e12.timer))) = true then
          inrM (
           inrM (
            some false))
         else
          guardM (I64 (x9 + (1 : Int))) <|
          some (.inl (x9 + (1 : Int)))
    else
     inrM (
      some (.inl ()))) (0 : Int)) (fun _ =>
  bindM (slices_ContainsFunc_int s.lies f) fun r44 =>
  some (!(r44))) = some (allB s.routes.length (stateFitB t s) && s.lies.all lieB) := by
 have hp := h.points
 have hrt := h.routes
 have hck := check_all hc
 rw [loop_anyI s.routes.length (fun i => !stateFitB t s i) (.inr false) (.inl ()) (by omega) (fun i hi => ?_) (by rw [if_neg (by omega)]; rfl), not_all_any]
 ·cases allB s.routes.length (stateFitB t s) with
  | false => rfl
  | true =>
   simp only [Bool.not_true, Bool.false_eq_true, if_false, bindS_inl]
   rw [containsFunc_eq s.lies _ _ hf (by unfold Cnt; omega), bindM_some, not_all_any', Bool.not_not, Bool.true_and]
 ·have hx := xAt_of (s := s) hi
  have hr := rAt_of (t := t) (i := i) (by omega)
  have hm := List.mem_of_getElem? hr
  have hpos := route_pos (hck.2.2.1 _ hm).1
  have hS := (h.each _ hm).secs
  have hfl : ∀ {X : Option (Int ⊕ (Unit ⊕ Bool))}, routeFitsB (xAt s i) (rAt t i).sections.length = false → X = some (.inr (.inr false)) → X = if (!stateFitB t s i) = true then some (.inr (.inr false)) else some (.inl ((i : Int) + 1)) := by
   intro X hq hX
   rw [stateFitB_at hx hr, hq, hX]; rfl
  rw [if_pos (by omega), getM_at hx, getM_at hr]
  have nofit : ∀ (hq : ¬ (((xAt s i).state = 0 ∨ (xAt s i).state = 1 ∨ (xAt s i).state = 2) ∧ (xAt s i).rel = 0 ∧ (xAt s i).timer = 0)) (hq2 : ¬ ((xAt s i).state = 3 ∧ 0 ≤ (xAt s i).rel ∧ (xAt s i).rel < (rAt t i).sections.length ∧ ((xAt s i).timer = 0 ∨ ((xAt s i).rel = (rAt t i).sections.length - 1 ∧ 0 < (xAt s i).timer ∧ (xAt s i).timer < 4)))) (hq3 : ¬ ((xAt s i).state = 4 ∧ 0 ≤ (xAt s i).rel ∧ (xAt s i).rel < (rAt t i).sections.length ∧ 0 ≤ (xAt s i).timer ∧ (xAt s i).timer < 12)), routeFitsB (xAt s i) (rAt t i).sections.length = false := by
   intro h1 h2 h3
   cases hq : routeFitsB (xAt s i) (rAt t i).sections.length
   ·rfl
   ·rcases fits_cases hq with h | h | h
    ·exact absurd h h1
    ·exact absurd h h2
    ·exact absurd h h3
  by_cases c1 : (xAt s i).state < 0 ∨ 4 < (xAt s i).state
  ·rw [if_pos (by simpa using c1)]
   exact hfl (nofit (by omega) (by omega) (by omega)) rfl
  ·rw [if_neg (by simpa using c1)]
   by_cases c2 : ¬ ((xAt s i).state = 3 ∨ (xAt s i).state = 4) ∧ (¬ (xAt s i).rel = 0 ∨ ¬ (xAt s i).timer = 0)
   ·rw [if_pos (by simp only [Bool.and_eq_true, Bool.or_eq_true, Bool.not_eq_true', Bool.or_eq_false_iff, decide_eq_false_iff_not]; omega)]
    exact hfl (nofit (by omega) (by omega) (by omega)) rfl
   ·rw [if_neg (by simp only [Bool.and_eq_true, Bool.or_eq_true, Bool.not_eq_true', Bool.or_eq_false_iff, decide_eq_false_iff_not]; omega)]
    by_cases c3 : (xAt s i).rel < 0 ∨ ((rAt t i).sections.length : Int) ≤ (xAt s i).rel ∨ (xAt s i).timer < 0
    ·rw [if_pos (by simpa using c3)]
     exact hfl (nofit (by omega) (by omega) (by omega)) rfl
    ·rw [if_neg (by simpa using c3)]
     have key : (if (xAt s i).state = (3 : Int) then if (0 : Int) < (xAt s i).timer then guardM (I64 (((rAt t i).sections.length : Int) - (1 : Int))) <| if (xAt s i).rel = (((rAt t i).sections.length : Int) - (1 : Int)) then some (decide ((4 : Int) ≤ (xAt s i).timer)) else some true else some false else some false) = some (decide ((xAt s i).state = 3 ∧ 0 < (xAt s i).timer ∧ ¬ ((xAt s i).rel = ((rAt t i).sections.length : Int) - 1 ∧ (xAt s i).timer < 4))) := by
      rw [guardM_true (by constructor <;> omega)]
      by_cases d1 : (xAt s i).state = 3
      ·rw [if_pos d1]
       by_cases d2 : 0 < (xAt s i).timer
       ·rw [if_pos d2]
        by_cases d3 : (xAt s i).rel = ((rAt t i).sections.length : Int) - 1
        ·rw [if_pos d3]; congr 1; rw [decide_eq_decide]; omega
        ·rw [if_neg d3]; congr 1; symm; rw [decide_eq_true_eq]; omega
       ·rw [if_neg d2]; congr 1; symm; rw [decide_eq_false_iff_not]; omega
      ·rw [if_neg d1]; congr 1; symm; rw [decide_eq_false_iff_not]; omega
     rw [key, bindM_some]
     by_cases c4 : (xAt s i).state = 3 ∧ 0 < (xAt s i).timer ∧ ¬ ((xAt s i).rel = ((rAt t i).sections.length : Int) - 1 ∧ (xAt s i).timer < 4)
     ·rw [if_pos (decide_eq_true c4)]
      exact hfl (nofit (by omega) (by omega) (by omega)) rfl
     ·rw [if_neg (by simpa using c4)]
      by_cases c5 : (xAt s i).state = 4 ∧ 12 ≤ (xAt s i).timer
      ·rw [if_pos (by simpa using c5)]
       exact hfl (nofit (by omega) (by omega) (by omega)) rfl
      ·rw [if_neg (by simpa using c5), guardM_true (i64_nat hi (by omega)), stateFitB_at hx hr]
       have : routeFitsB (xAt s i) (rAt t i).sections.length = true := by
        by_cases e3 : (xAt s i).state = 3
        ·rw [routeFits_used e3]; exact decide_eq_true (by omega)
        ·by_cases e4 : (xAt s i).state = 4
         ·rw [routeFits_held e4]; exact decide_eq_true (by omega)
         ·rw [routeFits_low (by omega)]; exact decide_eq_true (by omega)
       rw [this]; rfl

theorem pfits_eq (t : Table) (s : Inter) (h : TOk t) : progress_fits t s = some (fitsB t s) := by
 unfold progress_fits fitsB
 simp only [check_eq t h, bindM_some, fits_head]
 by_cases hd : checkI t = 0 ∧ s.routes.length = t.routes.length ∧ s.lies.length = t.points.length
 ·rw [decide_eq_true hd]
  simp only [Bool.not_true, Bool.false_eq_true, if_false, Bool.true_and]
  refine fitsLoop t s h hd.1 hd.2.1 hd.2.2 _ fun x => ?_
  unfold progress_fits_c1 lieB
  congr 1
  by_cases h1 : x = 1 <;> by_cases h2 : x = 2 <;> simp [h1, h2]
 ·simp [hd]

theorem pemptied_eq (t : Table) (s : Inter) (p : Inputs) (n : Int) (h : TOk t) : progress_Emptied t s p n = some (!(pathI t s n).any (occB p)) := by
 have hl := pathI_len t s n h
 unfold progress_Emptied
 rw [Path_eq t s n h, bindM_some, loop_any (pathI t s n) (occB p) (.inr false) (.inl ()) (by omega) (fun i x hx => ?_) (by rw [if_neg (by omega)]; rfl)]
 ·cases (pathI t s n).any (occB p) <;> rfl
 ·have hi := (List.getElem?_eq_some_iff.1 hx).1
  rw [if_pos (by omega), getM_at hx, pocc_eq, bindM_some, guardM_true (i64_nat hi (by omega))]
  cases occB p x <;> rfl
/-- Points that are detected as a setting says; the model of the program. -/
theorem detect_at {t : Table} {p : Inputs} {e : Setting} {q : Nat} (hq : indexI t.points e.el = some q) : (if (p.detected.length : Int) ≤ (q : Int) then some true else getM p.detected (q : Int) fun e25 => some (!(decide (e25 = e.pos)))) = some (!detectB t p e) := by
 have hpl : placeOf t e.el = q := by simp [placeOf, hq]
 unfold detectB
 rw [hpl]
 by_cases h1 : (p.detected.length : Int) ≤ (q : Int)
 ·rw [if_pos h1, List.getElem?_eq_none (by omega)]; rfl
 ·have hx : p.detected[q]? = some (p.detected[q]'(by omega)) := by rw [List.getElem?_eq_getElem]
  rw [if_neg h1, getM_at hx, hx]
  congr 2
  rw [decide_eq_decide]; simp
theorem settings_len {r : Route} (h : Short r) : (ascS (allS r)).length ≤ 6000000 := by
 have := ascS_len (allS r)
 simp only [allS, List.length_append] at this ⊢
 have a := h.points; have b := h.over; have c := h.flank; omega

theorem pproved_eq (t : Table) (p : Inputs) (r : Route) (h : TOk t) (ho : SOk t) (hc : checkI t = 0) (hr : r ∈ t.routes) : progress_proved t p r = some (provedR t p r) := by
 have hS := h.each r hr
 have hs := hS.secs
 have hp := h.points
 have hlen := settings_len hS
 have hck := check_all hc
 unfold progress_proved provedR
 rw [concat_eq _ (by simp; omega), bindM_some]
 have hfl : ([r.sections, r.overSections] : List (List Int)).flatten = r.sections ++ r.overSections := by simp
 rw [hfl, loop_any (r.sections ++ r.overSections) (occB p) (.inr false) (.inl ()) (by simp; omega) (fun i x hx => ?_) (by rw [if_neg (by omega)]; rfl)]
 ·cases (r.sections ++ r.overSections).any (occB p) with
  | true => rfl
  | false =>
   simp only [Bool.false_eq_true, if_false, bindS_inl, Bool.not_false, Bool.true_and]
   rw [settings_eq r hS (ho r hr), bindM_some, loop_any (ascS (allS r)) (fun e => !detectB t p e) (.inr false) (.inl ()) (by omega) (fun i e he => ?_) (by rw [if_neg (by omega)]; rfl), not_all_any']
   ·cases (ascS (allS r)).all (detectB t p) <;> rfl
   ·have hi := (List.getElem?_eq_some_iff.1 he).1
    obtain ⟨q, hq, hql⟩ := sett_index (hck.2.2.1 _ hr).2 (ascS_mem.1 (List.mem_of_getElem? he))
    rw [if_pos (by omega), getM_at he, tindex_eq t e.el (by unfold Cnt; omega), bindM_some, hq, show idxI (some q) = (q : Int) from rfl, detect_at hq, bindM_some, guardM_true (i64_nat hi (by omega))]
    cases detectB t p e <;> rfl
 ·have hi := (List.getElem?_eq_some_iff.1 hx).1
  rw [if_pos (by omega), getM_at hx, pocc_eq, bindM_some, guardM_true (i64_nat hi (by simp at hi ⊢; omega))]
  cases occB p x <;> rfl

end Go.Proofs.YtdhicpmpefkojaaGreat

set_option linter.unusedVariables false
set_option linter.unusedSimpArgs false
set_option maxHeartbeats 400000
set_option maxRecDepth 100000
namespace Go.Proofs.YtdhicpmpefkojaaGreat
open Go Go.TL

theorem sec_at {r : Route} {k : Int} (h0 : 0 ≤ k) (h1 : k < r.sections.length) : 0 ≤ k ∧ r.sections[k.toNat]? = some (secAt r k) := by
 refine ⟨h0, ?_⟩
 unfold secAt
 rw [List.getElem?_eq_getElem (by omega), List.getD_eq_getElem?_getD, List.getElem?_eq_getElem (by omega)]; rfl
theorem getM_sec {β : Type} {r : Route} {k : Int} (h0 : 0 ≤ k) (h1 : k < r.sections.length) (f : Int → Option β) : getM r.sections k f = f (secAt r k) := getM_int h0 (sec_at h0 h1).2

section view
variable {t : Table} {p : Inputs} {r : Route} {x : RouteState} {c q l m : Bool}
theorem clear_eq {y : RouteState} (h : TOk t) (ho : SOk t) (hc : checkI t = 0) (hr : r ∈ t.routes) (hx : x.state = 2) : progress_view_clear ⟨t, p, r, y, c, q, l, m⟩ = some (nextX r p c q l m (provedR t p r) x) := by
 have hpos := route_pos ((check_all hc).2.2.1 _ hr).1
 rw [nextX_2 hx]
 unfold progress_view_clear
 dsimp only
 rw [getM_sec (by omega) (by omega), pocc_eq, bindM_some]
 cases occB p (secAt r 0) with
 | true => rfl
 | false =>
  simp only [Bool.false_eq_true, if_false, pocc_eq, bindM_some, pproved_eq t p r h ho hc hr]
  cases l <;> cases c <;> cases occB p r.approach <;> cases provedR t p r <;> rfl
theorem used_eq (hx : x.state = 3) (h : Short r) (hf : routeFitsB x r.sections.length = true) (v : Bool) : progress_view_used ⟨t, p, r, x, c, q, l, m⟩ = some (nextX r p c q l m v x) := by
 have hS := h.secs
 rcases fits_cases hf with ⟨h1, _, _⟩ | ⟨_, h2, h3, h4⟩ | ⟨h1, _⟩
 ·omega
 ·rw [nextX_3 hx]
  unfold progress_view_used
  dsimp only
  rw [guardM_true (by constructor <;> omega)]
  cases c with
  | true => rfl
  | false =>
   simp only [Bool.false_eq_true, if_false]
   by_cases hlm : (l && m) = true
   ·rw [if_pos hlm, if_pos hlm]
   ·rw [if_neg hlm, if_neg hlm, getM_sec h2 (by omega), pocc_eq, bindM_some]
    cases occB p (secAt r x.rel) with
    | false =>
     simp only [Bool.not_false, if_true]
     by_cases hk : x.rel = (r.sections.length : Int) - 1
     ·rw [if_pos hk, if_pos hk]; rfl
     ·rw [if_neg hk, if_neg hk]
      have hg : I64 (x.rel + 1) := by constructor <;> omega
      rw [guardM_true hg, guardM_true hg, getM_sec (by omega) (by omega), pocc_eq]
      cases q <;> cases occB p (secAt r (x.rel + 1)) <;> rfl
    | true =>
     simp only [Bool.not_true, Bool.false_eq_true, if_false]
     by_cases hk : x.rel < (r.sections.length : Int) - 1
     ·rw [if_pos hk, if_pos hk]
     ·rw [if_neg hk, if_neg hk, guardM_true (by constructor <;> omega)]
      by_cases ht : x.timer + 1 = 4
      ·rw [if_pos ht, if_pos ht]; rfl
      ·rw [if_neg ht, if_neg ht]
 ·omega
theorem held_eq (hx : x.state = 4) (h : Short r) (hf : routeFitsB x r.sections.length = true) (v : Bool) : progress_view_held ⟨t, p, r, x, c, q, l, m⟩ = some (nextX r p c q l m v x) := by
 have hS := h.secs
 rcases fits_cases hf with ⟨h1, _, _⟩ | ⟨h1, _⟩ | ⟨_, h2, h3, h4, h5⟩
 ·omega
 ·omega
 ·rw [nextX_4 hx]
  unfold progress_view_held
  dsimp only
  rw [getM_sec h2 (by omega), pocc_eq, bindM_some]
  cases occB p (secAt r x.rel) with
  | true => rfl
  | false =>
   simp only [Bool.false_eq_true, if_false]
   by_cases hcm : (c || !m) = true
   ·rw [if_pos hcm, if_pos hcm]
   ·rw [if_neg hcm, if_neg hcm, guardM_true (by constructor <;> omega)]
    by_cases ht : x.timer + 1 = 12
    ·rw [if_pos ht, if_pos ht]; rfl
    ·rw [if_neg ht, if_neg ht]
end view

theorem getM_claimed {β : Type} {p : Inputs} {i : Nat} (h : ¬ (p.claimed.length : Int) ≤ (i : Int)) (f : Bool → Option β) : getM p.claimed (i : Int) f = f (claimedB p i) := by
 have hi : i < p.claimed.length := by omega
 have hx : p.claimed[i]? = some (claimedB p i) := by
  unfold claimedB
  rw [decide_eq_false (by omega), Bool.false_or, List.getD_eq_getElem?_getD, List.getElem?_eq_getElem hi]; rfl
 exact getM_at hx
theorem getM_passed {β : Type} {p : Inputs} {i : Nat} (h : (i : Int) < (p.passed.length : Int)) (f : Bool → Option β) : getM p.passed (i : Int) f = f (passedB p i) := by
 have hi : i < p.passed.length := by omega
 have hx : p.passed[i]? = some (passedB p i) := by
  unfold passedB
  rw [decide_eq_true hi, Bool.true_and, List.getD_eq_getElem?_getD, List.getElem?_eq_getElem hi]; rfl
 exact getM_at hx
theorem claimed_out {p : Inputs} {i : Nat} (h : (p.claimed.length : Int) ≤ (i : Int)) : claimedB p i = true := by unfold claimedB; rw [decide_eq_true (by omega)]; rfl
theorem passed_out {p : Inputs} {i : Nat} (h : ¬ (i : Int) < (p.passed.length : Int)) : passedB p i = false := by unfold passedB; rw [decide_eq_false (by omega)]; rfl

theorem nextI_no {t : Table} {s : Inter} {p : Inputs} {n : Int} (h : ¬ (0 ≤ n ∧ n < t.routes.length ∧ fitsB t s = true)) : nextI t s p n = idleX := if_neg h
theorem nextI_at {t : Table} {s : Inter} {p : Inputs} {i : Nat} (hi : i < t.routes.length) (hf : fitsB t s = true) : nextI t s p (i : Int) = nextAt t s p i := by
 unfold nextI; rw [if_pos ⟨by omega, by omega, hf⟩, Int.toNat_natCast]

theorem Next_eq (t : Table) (s : Inter) (p : Inputs) (n : Int) (h : TOk t) (ho : SOk t) (hp : p.cancels.length ≤ 100) : progress_Next t s p n = some (nextI t s p n) := by
 unfold progress_Next
 by_cases h0 : n < 0
 ·rw [if_pos h0, nextI_no (by omega)]; rfl
 ·by_cases h1 : (t.routes.length : Int) ≤ n
  ·rw [if_neg h0, if_pos h1, nextI_no (by omega)]; rfl
  ·rw [if_neg h0, if_neg h1, pfits_eq t s h, bindM_some, bindM_some]
   cases hf : fitsB t s with
   | false => rw [nextI_no (by rw [hf]; simp)]; rfl
   | true =>
    obtain ⟨i, rfl⟩ := Int.eq_ofNat_of_zero_le (show 0 ≤ n by omega)
    have hi : i < t.routes.length := by omega
    have H := fitsAt hf hi
    have hc := (fitsB_iff.1 hf).1
    have hS := h.each _ H.mem
    rw [nextI_at hi hf]
    simp only [Bool.not_true, Bool.false_eq_true, if_false]
    have hE : progress_Emptied t s p (i : Int) = some (emptiedAt t s p i) := by rw [pemptied_eq t s p _ h, pathI_at hf H]; rfl
    have hC : slices_Contains_int p.cancels (i : Int) = some (cancelB p i) := contains_eq _ _ (by unfold Cnt; omega)
    rw [hE, hC, getM_at H.r, getM_at H.x]
    have key : ∀ {β : Type} (f : Bool → Bool → Option β), (if (p.claimed.length : Int) ≤ (i : Int) then if (i : Int) < (p.passed.length : Int) then getM p.passed (i : Int) fun e42 => f true e42 else f true false else getM p.claimed (i : Int) fun e32 => if (i : Int) < (p.passed.length : Int) then getM p.passed (i : Int) fun e36 => f e32 e36 else f e32 false) = f (claimedB p i) (passedB p i) := by
     intro β f
     by_cases a1 : (p.claimed.length : Int) ≤ (i : Int) <;> by_cases a2 : (i : Int) < (p.passed.length : Int)
     ·rw [if_pos a1, if_pos a2, getM_passed a2, claimed_out a1]
     ·rw [if_pos a1, if_neg a2, claimed_out a1, passed_out a2]
     ·rw [if_neg a1, getM_claimed a1, if_pos a2, getM_passed a2]
     ·rw [if_neg a1, getM_claimed a1, if_neg a2, passed_out a2]
    rw [key (fun u v => bindM (some (cancelB p i)) fun r43 => bindM (some (emptiedAt t s p i)) fun r44 => some ((rAt t i).name, (rAt t i).entry, (rAt t i).exit, (rAt t i).path, (rAt t i).points, (rAt t i).sections, (rAt t i).approach, (rAt t i).length, (rAt t i).over, (rAt t i).overPoints, (rAt t i).overSections, (rAt t i).flank, (rAt t i).guards, (rAt t i).gaps, (xAt s i).state, (xAt s i).rel, (xAt s i).timer, u, v, r43, r44))]
    simp only [bindM_some]
    have e2 : ∀ y v q l m, (⟨t, p, ⟨(rAt t i).name, (rAt t i).entry, (rAt t i).exit, (rAt t i).path, (rAt t i).points, (rAt t i).sections, (rAt t i).approach, (rAt t i).length, (rAt t i).over, (rAt t i).overPoints, (rAt t i).overSections, (rAt t i).flank, (rAt t i).guards, (rAt t i).gaps⟩, y, v, q, l, m⟩ : View) = ⟨t, p, rAt t i, y, v, q, l, m⟩ := fun _ _ _ _ _ => rfl
    have e3 : (⟨(xAt s i).state, (xAt s i).rel, (xAt s i).timer⟩ : RouteState) = xAt s i := rfl
    have e4 : (⟨(rAt t i).name, (rAt t i).entry, (rAt t i).exit, (rAt t i).path, (rAt t i).points, (rAt t i).sections, (rAt t i).approach, (rAt t i).length, (rAt t i).over, (rAt t i).overPoints, (rAt t i).overSections, (rAt t i).flank, (rAt t i).guards, (rAt t i).gaps⟩ : Route) = rAt t i := rfl
    simp only [e2, e3, e4]
    unfold nextAt
    have hP := pproved_eq t p (rAt t i) h ho hc H.mem
    by_cases s1 : (xAt s i).state = 1
    ·rw [if_pos s1, hP, bindM_some]
     rcases fits_cases H.fits with ⟨_, hr0, ht0⟩ | ⟨hh, _⟩ | ⟨hh, _⟩
     ·have hxe : xAt s i = ⟨1, 0, 0⟩ := by rw [← e3, s1, hr0, ht0]
      cases hcl : cancelB p i with
      | true => rw [nextX_1 s1]; rfl
      | false =>
       simp only [Bool.false_eq_true, if_false]
       cases hpv : provedR t p (rAt t i) with
       | false => rw [nextX_1 s1, hxe]; rfl
       | true =>
        simp only [Bool.not_true, Bool.false_eq_true, if_false, bindS_inl]
        have hcl2 := clear_eq (x := ⟨2, 0, 0⟩) (y := xAt s i) (p := p) (c := claimedB p i) (q := passedB p i) (l := false) (m := emptiedAt t s p i) h ho hc H.mem rfl
        rw [hcl2, bindM_some, nextX_2 rfl, nextX_1 s1]
        have hfree : occB p (secAt (rAt t i) 0) = false := by
         have hpos := route_pos ((check_all hc).2.2.1 _ H.mem).1
         have hm : secAt (rAt t i) 0 ∈ (rAt t i).sections ++ (rAt t i).overSections := List.mem_append.2 (.inl (List.mem_of_getElem? (sec_at (r := rAt t i) (k := 0) (by omega) (by omega)).2))
         unfold provedR at hpv
         rw [Bool.and_eq_true, Bool.not_eq_true', List.any_eq_false] at hpv
         have := hpv.1 _ hm
         simpa using this
        rw [hfree, hpv]
        rfl
     ·omega
     ·omega
    ·rw [if_neg s1]
     by_cases s2 : (xAt s i).state = 2
     ·rw [if_pos s2]
      simp only [bindS_inl]
      rw [clear_eq (x := xAt s i) h ho hc H.mem s2]; rfl
     ·rw [if_neg s2]
      by_cases s3 : (xAt s i).state = 3
      ·rw [if_pos s3, used_eq s3 hS H.fits (provedR t p (rAt t i))]; rfl
      ·rw [if_neg s3]
       by_cases s4 : (xAt s i).state = 4
       ·rw [if_pos s4, held_eq s4 hS H.fits (provedR t p (rAt t i))]; rfl
       ·rw [if_neg s4, nextX_0 s1 s2 s3 s4]; rfl

/-! ### The reference -/
end Go.Proofs.YtdhicpmpefkojaaGreat

set_option linter.unusedVariables false
set_option linter.unusedSimpArgs false
set_option maxHeartbeats 400000
set_option maxRecDepth 100000
namespace Go.Proofs.YtdhicpmpefkojaaGreat
open Go Go.TL

def insZ (x : Int) : List Int → List Int
 | [] => [x]
 | y :: r => if x < y then x :: y :: r else if x = y then y :: r else y :: insZ x r
/-- All elements, ascending, each once. -/
def ascZ : List Int → List Int
 | [] => []
 | x :: r => insZ x (ascZ r)
abbrev AscZ (l : List Int) : Prop := l.Pairwise (· < ·)
theorem insZ_mem {s x : Int} : ∀ {l}, s ∈ insZ x l ↔ s = x ∨ s ∈ l
 | [] => by simp [insZ]
 | y :: r => by
  unfold insZ
  split
  ·simp
  ·split
   ·rename_i e; subst e; simp
   ·simp only [List.mem_cons, insZ_mem]; grind
theorem ascZ_mem {s : Int} : ∀ {l}, s ∈ ascZ l ↔ s ∈ l
 | [] => by simp [ascZ]
 | x :: r => by simp [ascZ, insZ_mem, ascZ_mem]
theorem insZ_asc (x : Int) : ∀ l, AscZ l → AscZ (insZ x l)
 | [], _ => by simp [insZ]
 | y :: r, h => by
  have h' := List.pairwise_cons.1 h
  unfold insZ
  split
  ·rename_i hlt
   refine List.pairwise_cons.2 ⟨fun a ha => ?_, h⟩
   rcases List.mem_cons.1 ha with rfl | ha
   ·exact hlt
   ·have := h'.1 a ha; omega
  ·split
   ·exact h
   ·refine List.pairwise_cons.2 ⟨fun a ha => ?_, insZ_asc x r h'.2⟩
    rcases insZ_mem.1 ha with rfl | ha
    ·omega
    ·exact h'.1 a ha
theorem ascZ_asc : ∀ l, AscZ (ascZ l)
 | [] => .nil
 | x :: r => insZ_asc x _ (ascZ_asc r)
theorem ascZ_unique : ∀ {l m : List Int}, AscZ l → AscZ m → (∀ s, s ∈ l ↔ s ∈ m) → l = m
 | [], [], _, _, _ => rfl
 | [], y :: m, _, _, h => absurd ((h y).2 (List.mem_cons_self ..)) (by simp)
 | x :: l, [], _, _, h => absurd ((h x).1 (List.mem_cons_self ..)) (by simp)
 | x :: l, y :: m, h1, h2, h => by
  have h1' := List.pairwise_cons.1 h1
  have h2' := List.pairwise_cons.1 h2
  have hxy : x = y := by
   rcases List.mem_cons.1 ((h x).1 (List.mem_cons_self ..)) with e | hx
   ·exact e
   ·rcases List.mem_cons.1 ((h y).2 (List.mem_cons_self ..)) with e | hy
    ·exact e.symm
    ·have := h2'.1 x hx; have := h1'.1 y hy; omega
  subst hxy
  congr 1
  refine ascZ_unique h1'.2 h2'.2 fun s => ⟨fun hs => ?_, fun hs => ?_⟩
  ·rcases List.mem_cons.1 ((h s).1 (List.mem_cons_of_mem _ hs)) with e | hm
   ·have := h1'.1 s hs; omega
   ·exact hm
  ·rcases List.mem_cons.1 ((h s).2 (List.mem_cons_of_mem _ hs)) with e | hm
   ·have := h2'.1 s hs; omega
   ·exact hm
theorem ascZ_eq {l m : List Int} (h : AscZ m) (hm : ∀ s, s ∈ m ↔ s ∈ l) : m = ascZ l :=
 ascZ_unique h (ascZ_asc l) fun s => (hm s).trans ascZ_mem.symm
theorem insZ_len (x : Int) : ∀ l, (insZ x l).length ≤ l.length + 1
 | [] => by simp [insZ]
 | y :: r => by
  unfold insZ
  split
  ·simp
  ·split
   ·simp
   ·have := insZ_len x r; simp only [List.length_cons]; omega
theorem ascZ_len : ∀ l, (ascZ l).length ≤ l.length
 | [] => Nat.le_refl _
 | x :: r => by have h1 := ascZ_len r; have h2 := insZ_len x (ascZ r); simp only [ascZ, List.length_cons]; omega

/-! ### idset.Make -/
theorem sortI_sorted (l : List Int) : (sortI l).Pairwise (· ≤ ·) := by
 have := sortM_sorted sgnM_sort l
 exact this.imp fun {a b} h => by rw [ltM_sgn] at h; simpa using h
theorem sortI_mem {s : Int} {l : List Int} : s ∈ sortI l ↔ s ∈ l := (sortM_perm (m := sgnM) l).mem_iff
theorem compact_upto (L : List Int) (hs : L.Pairwise (· ≤ ·)) : ∀ i, i ≤ L.length → AscZ (Go.Lib.compactUpTo L.toArray i) ∧ ∀ s, s ∈ Go.Lib.compactUpTo L.toArray i ↔ s ∈ L.take i
 | 0, _ => ⟨.nil, fun s => by simp [Go.Lib.compactUpTo]⟩
 | i + 1, hi => by
  obtain ⟨h1, h2⟩ := compact_upto L hs i (by omega)
  have hil : i < L.length := by omega
  have htake : L.take (i + 1) = L.take i ++ [L[i]] := List.take_succ_eq_append_getElem hil
  have hget : L.toArray[i]! = L[i] := by rw [getElem!_pos L.toArray i (by simpa using hil)]; simp
  rw [Go.Lib.compactUpTo_succ, hget]
  have hle := List.pairwise_iff_getElem.1 hs
  cases hk : Go.Lib.keeps L.toArray i with
  | true =>
   rw [if_pos rfl]
   refine ⟨List.pairwise_append.2 ⟨h1, by simp, fun a ha b hb => ?_⟩, fun s => by rw [htake, List.mem_append, List.mem_append, h2]⟩
   simp only [List.mem_singleton] at hb
   subst hb
   obtain ⟨j, hj, rfl⟩ := List.mem_take_iff_getElem.1 ((h2 a).1 ha)
   have hj' : j < i := by omega
   have hi0 : i ≠ 0 := by omega
   have hk' := of_decide_eq_true hk
   rcases hk' with h0 | hne
   ·exact absurd h0 hi0
   ·rw [hget, getElem!_pos L.toArray (i - 1) (by simp; omega)] at hne
    simp only [List.getElem_toArray] at hne
    have a1 : L[j] ≤ L[i - 1] := by
     rcases Nat.lt_or_ge j (i - 1) with h | h
     ·exact hle j (i - 1) (by omega) (by omega) h
     ·have : j = i - 1 := by omega
      subst this; exact Int.le_refl _
    have a2 := hle (i - 1) i (by omega) (by omega) (by omega)
    omega
  | false =>
   rw [if_neg (by simp), List.append_nil]
   refine ⟨h1, fun s => ?_⟩
   have hk' := of_decide_eq_false hk
   have hi0 : i ≠ 0 := fun e => hk' (.inl e)
   have he : L.toArray[i]! = L.toArray[i - 1]! := by
    by_cases h : L.toArray[i]! = L.toArray[i - 1]!
    ·exact h
    ·exact absurd (.inr h) hk'
   rw [hget, getElem!_pos L.toArray (i - 1) (by simp; omega)] at he
   simp only [List.getElem_toArray] at he
   rw [h2, htake, List.mem_append]
   refine ⟨.inl, fun h => ?_⟩
   rcases h with h | h
   ·exact h
   ·simp only [List.mem_singleton] at h
    rw [h, he]
    exact List.mem_take_iff_getElem.2 ⟨i - 1, by omega, rfl⟩
theorem make_asc (l : List Int) : Go.Lib.compact (sortI l) = ascZ l := by
 have h := compact_upto (sortI l) (sortI_sorted l) (sortI l).length (Nat.le_refl _)
 refine ascZ_eq h.1 fun s => ?_
 show s ∈ Go.Lib.compactUpTo (sortI l).toArray (sortI l).length ↔ _
 rw [h.2, List.take_length, sortI_mem]
theorem idset_make_eq (l : List Int) (h : l.length ≤ 1000000000) : idset_Make l = some (ascZ l) := by
 unfold idset_Make
 rw [clone_eq l h, bindM_some, guardM_true h, guardM_true (by rw [sortI_length]; exact h), make_asc]

/-! ### The reference -/
end Go.Proofs.YtdhicpmpefkojaaGreat

set_option linter.unusedVariables false
set_option linter.unusedSimpArgs false
set_option maxHeartbeats 400000
set_option maxRecDepth 100000
namespace Go.Proofs.YtdhicpmpefkojaaGreat
open Go Go.TL

/-- Which signals are clear: after so many routes. -/
def sigTo (t : Table) (s : Inter) (i : Nat) : List Bool := (List.range t.signals.toNat).map fun (g : Nat) => (List.range i).any fun k => decide ((xAt s k).state = 2) && decide ((rAt t k).entry = (g : Int))
def sigI (t : Table) (s : Inter) : List Bool := sigTo t s t.routes.length
theorem sigTo_zero (t : Table) (s : Inter) : sigTo t s 0 = List.replicate t.signals.toNat false := by
 unfold sigTo
 apply List.ext_getElem?
 intro j
 rw [List.getElem?_map, List.getElem?_replicate]
 by_cases h : j < t.signals.toNat
 ·rw [List.getElem?_range h, if_pos h]; rfl
 ·rw [List.getElem?_eq_none (by simpa using h), if_neg h]; rfl
theorem sigTo_len (t : Table) (s : Inter) (i : Nat) : (sigTo t s i).length = t.signals.toNat := by simp [sigTo]
theorem sigTo_get (t : Table) (s : Inter) (i : Nat) {g : Nat} (h : g < t.signals.toNat) : (sigTo t s i)[g]? = some ((List.range i).any fun k => decide ((xAt s k).state = 2) && decide ((rAt t k).entry = (g : Int))) := by
 unfold sigTo; rw [List.getElem?_map, List.getElem?_range h]; rfl
theorem sigTo_same {t : Table} {s : Inter} {i : Nat} (h : ¬ (xAt s i).state = 2) : sigTo t s (i + 1) = sigTo t s i := by
 unfold sigTo
 congr 1; funext g
 rw [List.range_succ, List.any_append]
 simp [h]
theorem sigTo_set {t : Table} {s : Inter} {i : Nat} (h : (xAt s i).state = 2) (h0 : 0 ≤ (rAt t i).entry) : (sigTo t s i).set (rAt t i).entry.toNat true = sigTo t s (i + 1) := by
 apply List.ext_getElem?
 intro g
 by_cases hg : g < t.signals.toNat
 ·rw [sigTo_get t s (i + 1) hg, List.range_succ, List.any_append]
  by_cases e : (rAt t i).entry.toNat = g
  ·subst e
   rw [List.getElem?_set_self (by rw [sigTo_len]; exact hg)]
   simp [h, Int.toNat_of_nonneg h0, h0]
  ·rw [List.getElem?_set_ne e, sigTo_get t s i hg]
   have : ¬ (rAt t i).entry = (g : Int) := by omega
   simp [this]
 ·rw [List.getElem?_eq_none (by simpa [sigTo_len] using hg), List.getElem?_eq_none (by simpa [sigTo_len] using hg)]
theorem entry_in {t : Table} {r : Route} (h : rightB t r = true) : 0 ≤ r.entry ∧ r.entry < t.signals := by
 unfold rightB at h
 simp only [Bool.and_eq_true] at h
 have h1 := h.1.1.1.1
 unfold headB at h1
 simp only [Bool.and_eq_true] at h1
 exact of_decide_eq_true h1.1.1

/-! ### Calls -/
def callStep (t : Table) (p : Inputs) (q : Inter × List Int) (n : Int) : Inter × List Int :=
 if freeI t q.1 p n = 0 then (callI t q.1 n.toNat, q.2) else (q.1, q.2 ++ [n])
def callsI (t : Table) (p : Inputs) (q : Inter × List Int) (l : List Int) : Inter × List Int := l.foldl (callStep t p) q
theorem callsI_succ (t : Table) (p : Inputs) (q : Inter × List Int) {l : List Int} {i : Nat} {n : Int} (h : l[i]? = some n) : callsI t p q (l.take (i + 1)) = callStep t p (callsI t p q (l.take i)) n := by
 obtain ⟨hi, rfl⟩ := List.getElem?_eq_some_iff.1 h
 unfold callsI
 rw [List.take_succ_eq_append_getElem hi, List.foldl_append]; rfl
theorem callsI_ind (t : Table) (p : Inputs) (P : Inter → Prop) (hP : ∀ (s : Inter) (i : Nat), freeI t s p (i : Int) = 0 → P s → P (callI t s i)) : ∀ (l : List Int) (q : Inter × List Int), P q.1 → P (callsI t p q l).1
 | [], _, h => h
 | n :: r, q, h => by
  refine callsI_ind t p P hP r _ ?_
  unfold callStep
  split
  ·rename_i hz
   have h0 := (free_zero hz).2.1
   obtain ⟨i, rfl⟩ := Int.eq_ofNat_of_zero_le h0
   exact hP _ _ hz h
  ·exact h
theorem callsI_len (t : Table) (p : Inputs) : ∀ (l : List Int) (q : Inter × List Int), (callsI t p q l).2.length ≤ q.2.length + l.length
 | [], _ => Nat.le_refl _
 | n :: r, q => by
  have := callsI_len t p r (callStep t p q n)
  have h1 : (callStep t p q n).2.length ≤ q.2.length + 1 := by
   unfold callStep; split <;> simp
  show (callsI t p (callStep t p q n) r).2.length ≤ _
  simp only [List.length_cons]; omega

/-! ### A cycle -/
def progI (t : Table) (s : Inter) (p : Inputs) : Inter := ⟨(List.range s.routes.length).map (nextAt t s p), s.lies⟩
def cycleI (t : Table) (s : Inter) (p : Inputs) : Inter × Outputs :=
 if soundB t s = true then
  ((callsI t p (progI t s p, []) (ascZ p.calls)).1, ⟨sigI t (callsI t p (progI t s p, []) (ascZ p.calls)).1, (callsI t p (progI t s p, []) (ascZ p.calls)).1.lies, (callsI t p (progI t s p, []) (ascZ p.calls)).2⟩)
 else (s, ⟨if checkI t = 0 then List.replicate t.signals.toNat false else [], s.lies, ascZ p.calls⟩)
theorem progI_x {t : Table} {s : Inter} {p : Inputs} {i : Nat} (h : i < s.routes.length) : xAt (progI t s p) i = nextAt t s p i := by
 unfold xAt progI
 rw [List.getElem?_map, List.getElem?_range h]; rfl
theorem progI_sound {t : Table} {s : Inter} {p : Inputs} (h : soundB t s = true) : soundB t (progI t s p) = true := by
 have hf := sound_fits h
 have hf' := fitsB_iff.1 hf
 refine sound_less h rfl (by simp [progI]) fun i hi => ?_
 rw [progI_x (by omega)]
 have H := fitsAt hf hi
 exact next_less (route_pos ((check_all hf'.1).2.2.1 _ H.mem).1) H.fits
theorem cycle_sound {t : Table} {s : Inter} {p : Inputs} (h : soundB t s = true) : soundB t (cycleI t s p).1 = true := by
 unfold cycleI
 rw [if_pos h]
 exact callsI_ind t p (fun s => soundB t s = true) (fun s i hz _ => call_sound hz) _ _ (progI_sound h)
theorem call_lies {t : Table} {s : Inter} {p : Inputs} {i : Nat} (hz : freeI t s p (i : Int) = 0) {k : Nat} (hk : k < t.points.length) : (callI t s i).lies[k]? = s.lies[k]? ∨ ∃ n, t.homes[k]? = some n ∧ occB p n = false := by
 obtain ⟨hs, _, hi, _⟩ := free_zero hz
 have hi : i < t.routes.length := by omega
 have hf := sound_fits hs
 have H := fitsAt hf hi
 have hf' := fitsB_iff.1 hf
 have hc := check_all hf'.1
 by_cases hex : ∃ e ∈ allS (rAt t i), placeOf t e.el = k ∧ ¬ lieOf t s e.el = e.pos
 ·right
  obtain ⟨e, he, hek, hne⟩ := hex
  obtain ⟨q, hq, hql⟩ := sett_index (hc.2.2.1 _ H.mem).2 he
  have hqk : q = k := by rw [← hek]; simp [placeOf, hq]
  subst hqk
  refine ⟨homeOf t e.el, homes_at hf'.1 hq, ?_⟩
  -- the last test of freeI
  have hb : ∀ e ∈ allS (rAt t i), blockedB t s p e = false := by
   intro e he
   unfold freeI at hz
   split at hz
   ·omega
   ·split at hz
    ·omega
    ·split at hz
     ·omega
     ·split at hz
      ·omega
      ·split at hz
       ·omega
       ·split at hz
        ·omega
        ·rename_i h6
         rw [Int.toNat_natCast] at h6
         cases hbl : blockedB t s p e with
         | false => rfl
         | true => exact absurd (List.any_eq_true.2 ⟨e, ascS_mem.2 he, hbl⟩) h6
  have := hb e he
  unfold blockedB at this
  rw [decide_eq_false hne, Bool.not_false, Bool.true_and] at this
  exact this
 ·left
  have hall : ∀ e ∈ allS (rAt t i), placeOf t e.el = k → lieOf t s e.el = e.pos := fun e he hek => Classical.byContradiction fun h => hex ⟨e, he, hek, h⟩
  have hkl : k < s.lies.length := by omega
  have hv : s.lies[k]? = some s.lies[k] := List.getElem?_eq_getElem hkl
  have := liesTo_yes t (ascS (allS (rAt t i))) k s.lies[k] (fun e he hek => by
   have he := ascS_mem.1 he
   have h1 := hall e he hek
   obtain ⟨q, hq, hql⟩ := sett_index (hc.2.2.1 _ H.mem).2 he
   have hqk : q = k := by rw [← hek]; simp [placeOf, hq]
   subst hqk
   have := lies_at hf hq
   rw [hv] at this
   rw [← h1]; exact (Option.some.inj this).symm) s.lies hkl (.inr hv)
  show (liesTo t (ascS (allS (rAt t i))) s.lies)[k]? = _
  rw [this, hv]
theorem cycle_lies {t : Table} {s : Inter} {p : Inputs} (h : soundB t s = true) {k : Nat} (hk : k < t.points.length) : (cycleI t s p).1.lies[k]? = s.lies[k]? ∨ ∃ n, t.homes[k]? = some n ∧ occB p n = false := by
 unfold cycleI
 rw [if_pos h]
 refine callsI_ind t p (fun s' => s'.lies[k]? = s.lies[k]? ∨ ∃ n, t.homes[k]? = some n ∧ occB p n = false) (fun s' i hz hs => ?_) _ _ (.inl rfl)
 rcases hs with hs | hs
 ·rcases call_lies hz hk with h1 | h1
  ·exact .inl (h1.trans hs)
  ·exact .inr h1
 ·exact .inr hs

/-! ### The start -/
def startI (t : Table) : Inter := if checkI t = 0 then ⟨List.replicate t.routes.length idleX, List.replicate t.points.length 1⟩ else ⟨[], []⟩
theorem start_sound {t : Table} (h : checkI t = 0) : soundB t (startI t) = true := by
 unfold startI
 rw [if_pos h]
 have hx : ∀ i, i < t.routes.length → xAt ⟨List.replicate t.routes.length idleX, List.replicate t.points.length 1⟩ i = idleX := fun i hi => by
  unfold xAt; rw [List.getElem?_replicate, if_pos hi]; rfl
 have hF : fitsB t ⟨List.replicate t.routes.length idleX, List.replicate t.points.length 1⟩ = true := by
  refine fitsB_iff.2 ⟨h, by simp, by simp, fun i hi => ?_, fun p hp => ?_⟩
  ·simp only [List.length_replicate] at hi
   rw [stateFitB_at (x := idleX) (by rw [List.getElem?_replicate, if_pos hi]) (rAt_of hi)]; exact fits_low (.inl rfl)
  ·rw [List.eq_of_mem_replicate hp]; rfl
 refine sound_of hF (fun a b ha hb hne => ?_) (fun a ha e he => ?_)
 ·unfold clashAt pathAt overAt
  rw [hx a ha, hx b hb]
  rfl
 ·unfold boundAt at he
  rw [hx a ha] at he
  cases he

/-! ### Everything free, nothing claimed, all cancelled -/
structure FreeIn (t : Table) (p : Inputs) : Prop where
 occ : ∀ n, 0 ≤ n → n < t.sections → occB p n = false
 claimed : ∀ i, i < t.routes.length → claimedB p i = false
 cancel : ∀ i, i < t.routes.length → cancelB p i = true
end Go.Proofs.YtdhicpmpefkojaaGreat

set_option linter.unusedVariables false
set_option linter.unusedSimpArgs false
set_option maxHeartbeats 400000
set_option maxRecDepth 100000
namespace Go.Proofs.YtdhicpmpefkojaaGreat
open Go Go.TL

theorem cloneR_eq (l : List RouteState) (h : l.length ≤ 1000000000) : slices_Clone_RouteState l = some l := by
 unfold slices_Clone_RouteState
 rw [List.nil_append, guardM_true h]
 cases l <;> rfl
theorem clone_inter (s : Inter) (h : s.routes.length ≤ 1000000000) (h' : s.lies.length ≤ 1000000000) : interlock_clone s = some s := by
 unfold interlock_clone
 rw [cloneR_eq _ h, bindM_some, clone_eq _ h', bindM_some]

/-! ### Signals -/
theorem sigRound {t : Table} {s : Inter} (h : TOk t) (hf : fitsB t s = true) {i : Nat} (hi : i < t.routes.length) : 0 ≤ (rAt t i).entry ∧ (sigTo t s i)[(rAt t i).entry.toNat]? = some ((sigTo t s i).getD (rAt t i).entry.toNat false) := by
 have H := fitsAt hf hi
 have hc := check_all (fitsB_iff.1 hf).1
 have he := entry_in (hc.2.2.1 _ H.mem).1
 refine ⟨he.1, ?_⟩
 have hlt : (rAt t i).entry.toNat < (sigTo t s i).length := by rw [sigTo_len]; omega
 rw [List.getD_eq_getElem?_getD, List.getElem?_eq_getElem hlt]; rfl
theorem signals_eq (t : Table) (s : Inter) (h : TOk t) (hf : fitsB t s = true) : interlock_signals t s = some (sigI t s) := by
 have hf' := fitsB_iff.1 hf
 have hl := of_decide_eq_true (check_all hf'.1).1
 have h1 := h.routes
 unfold interlock_signals
 rw [guardM_true (by omega)]
 rw [loop_acc (b := List.replicate t.signals.toNat false) t.routes.length (fun i => sigTo t s i) (o := sigI t s) (sigTo_zero t s).symm (by omega) (fun i hi => ?_) (by dsimp only; rw [if_neg (by omega)]; rfl)]
 ·rfl
 ·have H := fitsAt hf hi
  obtain ⟨he, hg⟩ := sigRound h hf hi
  dsimp only
  rw [if_pos (by omega), getM_at H.r, getM_at H.x]
  by_cases hx : (xAt s i).state = 2
  ·rw [if_pos hx, getM_int he hg, guardM_true (i64_nat hi (by omega)), sigTo_set hx he]
  ·rw [if_neg hx, guardM_true (i64_nat hi (by omega)), sigTo_same hx]
theorem cycle_call_eq (t : Table) (s : Inter) (p : Inputs) (ref : List Int) (n : Int) (h : TOk t) (ho : SOk t) (hr : ref.length ≤ 100000) : interlock_cycle_call ⟨s, t, p, ref⟩ n = some ⟨(callStep t p (s, ref) n).1, t, p, (callStep t p (s, ref) n).2⟩ := by
 unfold interlock_cycle_call callStep
 dsimp only
 rw [free_eq t s p n h ho, bindM_some]
 by_cases hz : freeI t s p n = 0
 ·rw [if_pos hz, if_pos hz]
  obtain ⟨hs, h0, hi, _⟩ := free_zero hz
  obtain ⟨i, rfl⟩ := Int.eq_ofNat_of_zero_le h0
  have hi : i < t.routes.length := by omega
  have hf := sound_fits hs
  have H := fitsAt hf hi
  have hf' := fitsB_iff.1 hf
  have hc := check_all hf'.1
  have h1 := h.routes
  have h2 := h.points
  have hS := (h.each _ H.mem)
  have hlen : (ascS (allS (rAt t i))).length ≤ 6000000 := by
   have := ascS_len (allS (rAt t i)); simp only [allS, List.length_append] at this ⊢
   have a := hS.points; have b := hS.over; have c := hS.flank; omega
  rw [getM_at H.x, getM_at H.r, settings_eq _ hS (fun e he => ho _ H.mem e he), bindM_some]
  rw [loop_acc (b := s.lies) (ascS (allS (rAt t i))).length (fun k => liesTo t ((ascS (allS (rAt t i))).take k) s.lies) (o := (⟨callI t s i, t, p, ref⟩ : Cycle)) (by simp [liesTo]) (by omega) (fun k hk => ?_) ?_]
  ·rw [Int.toNat_natCast]
  ·dsimp only
   rw [if_neg (by omega), List.take_length]; rfl
  ·have he : (ascS (allS (rAt t i)))[k]? = some (ascS (allS (rAt t i)))[k] := by rw [List.getElem?_eq_getElem]
   generalize (ascS (allS (rAt t i)))[k] = e at he
   obtain ⟨q, hq, hql⟩ := sett_index (hc.2.2.1 _ H.mem).2 (ascS_mem.1 (List.mem_of_getElem? he))
   dsimp only
   rw [if_pos (by omega), getM_at he, tindex_eq t e.el (by unfold Cnt; omega), bindM_some, hq]
   have hz : (liesTo t ((ascS (allS (rAt t i))).take k) s.lies)[q]? = some ((liesTo t ((ascS (allS (rAt t i))).take k) s.lies).getD q 0) := by
    have hlt : q < (liesTo t ((ascS (allS (rAt t i))).take k) s.lies).length := by rw [liesTo_len]; omega
    rw [List.getD_eq_getElem?_getD, List.getElem?_eq_getElem hlt]; rfl
   rw [show idxI (some q) = (q : Int) from rfl, getM_at hz, guardM_true (i64_nat hk (by omega)), Int.toNat_natCast, liesTo_succ t _ _ he, show placeOf t e.el = q by simp [placeOf, hq]]
 ·rw [if_neg hz, if_neg hz, guardM_true (by simp; omega)]

/-! ### A cycle -/
theorem calls_keep {t : Table} {p : Inputs} (l : List Int) (q : Inter × List Int) (h : fitsB t q.1 = true) : fitsB t (callsI t p q l).1 = true :=
 callsI_ind t p (fun s => fitsB t s = true) (fun s i hz _ => sound_fits (call_sound hz)) l q h
theorem prog_loop {t : Table} {s : Inter} {p : Inputs} (hf : fitsB t s = true) (i : Nat) (hi : i < s.routes.length) (l : List RouteState) (hl : l.length = s.routes.length) : ((List.range i).map (nextAt t s p) ++ l.drop i).set i (nextAt t s p i) = (List.range (i + 1)).map (nextAt t s p) ++ l.drop (i + 1) := by
 rw [List.range_succ, List.map_append]
 rw [List.drop_eq_getElem_cons (show i < l.length by omega)]
 rw [List.set_append_right _ _ (by simp), List.length_map, List.length_range, Nat.sub_self, List.set_cons_zero]
 simp
theorem prog_at {t : Table} {s : Inter} {p : Inputs} (i : Nat) (l : List RouteState) (hi : i < l.length) : ((List.range i).map (nextAt t s p) ++ l.drop i)[i]? = some l[i] := by
 rw [List.getElem?_append_right (by simp)]
 simp [List.getElem?_drop, List.getElem?_eq_getElem hi]

theorem Cycle_eq (t : Table) (s : Inter) (p : Inputs) (h : TOk t) (ho : SOk t) (hc : p.cancels.length ≤ 100) (hk : p.calls.length ≤ 100) (hs : s.routes.length ≤ 100) (hl : s.lies.length ≤ 100) : interlock_Cycle t s p = some (cycleI t s p) := by
 unfold interlock_Cycle cycleI
 rw [idset_make_eq _ (by omega), bindM_some, sound_eq t s h ho, bindM_some]
 have hal := ascZ_len p.calls
 cases hS : soundB t s with
 | false =>
  simp only [Bool.not_false, if_true, Bool.false_eq_true, if_false]
  rw [clone_eq _ (by omega), bindM_some, check_eq t h, bindM_some, clone_inter s (by omega) (by omega)]
  by_cases hz : checkI t = 0
  ·have hlm := of_decide_eq_true (check_all hz).1
   rw [if_pos hz, if_pos hz, guardM_true (by omega)]; rfl
  ·rw [if_neg hz, if_neg hz]; rfl
 | true =>
  have hf := sound_fits hS
  have hf' := fitsB_iff.1 hf
  simp only [Bool.not_true, Bool.false_eq_true, if_false, if_true]
  rw [clone_inter s (by omega) (by omega), bindM_some]
  rw [loop_acc (b := s.routes) s.routes.length (fun i => (List.range i).map (nextAt t s p) ++ s.routes.drop i) (o := (progI t s p).routes) (by simp) (by omega) (fun i hi => ?_) (by dsimp only; rw [if_neg (by omega)]; simp [progI])]
  ·rw [bindM_some]
   have key := loop_to (f := fun (z : Int × List Int × List RouteState × List Int) =>
    if z.1 < ((ascZ p.calls).length : Int) then
     getM (ascZ p.calls) z.1 fun e40 =>
     bindM (interlock_cycle_call (⟨(⟨z.2.2.1, z.2.2.2⟩ : Inter), t, p, z.2.1⟩ : Cycle) e40) fun r41 =>
     guardM (I64 (z.1 + (1 : Int))) <|
     some (.inl ((z.1 + (1 : Int)), r41.refused, r41.inter.routes, r41.inter.lies))
    else
     inrM (
      some (z.2.2.1, z.2.2.2, z.2.1)))
    (fun i : Nat => ((i : Int), (callsI t p (progI t s p, []) ((ascZ p.calls).take i)).2, (callsI t p (progI t s p, []) ((ascZ p.calls).take i)).1.routes, (callsI t p (progI t s p, []) ((ascZ p.calls).take i)).1.lies)) (ascZ p.calls).length
    (o := ((callsI t p (progI t s p, []) (ascZ p.calls)).1.routes, (callsI t p (progI t s p, []) (ascZ p.calls)).1.lies, (callsI t p (progI t s p, []) (ascZ p.calls)).2))
    (s := ((0 : Int), ([] : List Int), (progI t s p).routes, s.lies)) rfl (by omega) (fun i hi => ?_) (by dsimp only; rw [if_neg (by omega), List.take_length]; rfl)
   ·rw [key, bindM_some]
    have hfe : fitsB t (callsI t p (progI t s p, []) (ascZ p.calls)).1 = true := calls_keep _ _ (sound_fits (progI_sound hS))
    have hfe' := fitsB_iff.1 hfe
    have hpts := h.points
    show bindM (interlock_signals t (callsI t p (progI t s p, []) (ascZ p.calls)).1) _ = _
    have hlp : s.lies.length = t.points.length := hf'.2.2.1
    have hle : (callsI t p (progI t s p, []) (ascZ p.calls)).1.lies.length = t.points.length := hfe'.2.2.1
    rw [signals_eq t _ h hfe, bindM_some, clone_eq _ (show (callsI t p (progI t s p, []) (ascZ p.calls)).1.lies.length ≤ 1000000000 by omega), bindM_some]
   ·have hx : (ascZ p.calls)[i]? = some (ascZ p.calls)[i] := List.getElem?_eq_getElem hi
    have hlr := callsI_len t p ((ascZ p.calls).take i) (progI t s p, [])
    simp only [List.length_take, List.length_nil] at hlr
    dsimp only
    rw [if_pos (by omega), getM_at hx, cycle_call_eq t _ p _ _ h ho (by omega), bindM_some, guardM_true (i64_nat hi (by omega)), callsI_succ t p _ hx]
    rfl
  ·dsimp only
   rw [if_pos (by omega), Next_eq t s p _ h ho hc, bindM_some, nextI_at (by omega) hf, getM_at (prog_at i _ hi), guardM_true (i64_nat hi (by omega)), Int.toNat_natCast, prog_loop hf i hi _ rfl]

theorem Start_eq (t : Table) (h : TOk t) : interlock_Start t = some (startI t) := by
 have h1 := h.routes
 have h2 := h.points
 unfold interlock_Start startI
 rw [check_eq t h, bindM_some]
 by_cases hz : checkI t = 0
 ·rw [if_pos hz, if_pos hz, guardM_true (by omega)]
  rw [loop_acc (b := []) t.points.length (fun i => List.replicate i (1 : Int)) (o := List.replicate t.points.length 1) rfl (by omega) (fun i hi => ?_) (by dsimp only; rw [if_neg (by omega)]; rfl)]
  ·rw [bindM_some, Int.toNat_natCast]; rfl
  ·dsimp only
   rw [if_pos (by omega), guardM_true (by simp; omega), guardM_true (i64_nat hi (by omega)), List.replicate_succ']
 ·rw [if_neg hz, if_neg hz]
end Go.Proofs.YtdhicpmpefkojaaGreat

set_option linter.unusedVariables false
set_option linter.unusedSimpArgs false
set_option maxHeartbeats 400000
set_option maxRecDepth 100000
namespace Go.Proofs.YtdhicpmpefkojaaGreat
open Go Go.TL

theorem alive23 : law23_alive = some true := by decide +kernel
theorem few23 (p : Inputs) : ∃ b, law22_Few p = some b ∧ (b = true → p.cancels.length ≤ 100 ∧ p.calls.length ≤ 100) := by
 refine ⟨_, rfl, fun h => ?_⟩
 simp only [Bool.and_eq_true, decide_eq_true_eq] at h
 omega
theorem small_len {t : Table} {s : Inter} (h : smallB t s = true) : s.routes.length ≤ 100 ∧ s.lies.length ≤ 100 ∧ t.routes.length ≤ 50 := by
 unfold smallB at h
 simp only [Bool.and_eq_true, decide_eq_true_eq] at h
 omega
end Go.Proofs.YtdhicpmpefkojaaGreat

set_option linter.unusedVariables false
set_option linter.unusedSimpArgs false
set_option maxHeartbeats 400000
set_option maxRecDepth 100000
namespace Go.Proofs.YtdhicpmpefkojaaGreat
open Go Go.TL

theorem bulk_list {α : Type} (f : α → D) : ∀ l : List α, l.length ≤ D.bulks (l.map f) := fun l => by
 have := D.length_le (l.map f)
 rwa [List.length_map] at this
theorem tok_bulk {t : Table} (h : t.enc.bulk ≤ 1048576) : TOk t := by
 unfold Table.enc at h
 simp only [D.bulk, D.bulks] at h
 have h1 := bulk_list Route.enc t.routes
 have h2 := bulk_list (D.int .i64) t.points
 refine ⟨by omega, by omega, fun r hr => ?_⟩
 have h3 : r.enc.bulk ≤ D.bulks (t.routes.map Route.enc) := D.part_le (List.mem_map.2 ⟨r, hr, rfl⟩)
 generalize D.bulks (t.routes.map Route.enc) = N at h h3
 unfold Route.enc at h3
 simp only [D.bulk, D.bulks] at h3
 have g1 := bulk_list (D.int .i64) r.sections
 have g2 := bulk_list (D.int .i64) r.overSections
 have g3 := bulk_list Setting.enc r.points
 have g4 := bulk_list Setting.enc r.overPoints
 have g5 := bulk_list Setting.enc r.flank
 exact ⟨by omega, by omega, by omega, by omega⟩

structure SafeInv (t : Table) (s : Inter) : Prop where
 routes : s.routes.length ≤ 100
 lies : s.lies.length ≤ 100
 same : s.lies.length = t.points.length
 sound : soundB t s = true ∨ (checkI t ≠ 0 ∧ s = ⟨[], []⟩)

theorem safeLoop {ρ : Type} {t : Table} (l : List Inputs) {f : Int × List RouteState × List Int → Option ((Int × List RouteState × List Int) ⊕ (ρ ⊕ Bool))} (hl : l.length ≤ 20)
  (round : ∀ (i : Nat) (p : Inputs) (s : Inter), l[i]? = some p → SafeInv t s → f ((i : Int), s.routes, s.lies) = some (.inr (.inr true)) ∨ ∃ s', SafeInv t s' ∧ f ((i : Int), s.routes, s.lies) = some (.inl (((i : Int) + 1), s'.routes, s'.lies)))
  (last : ∀ a b, ∃ c, f ((l.length : Int), a, b) = some (.inr (.inl c))) : ∀ (k i : Nat) (s : Inter), i + k = l.length → SafeInv t s → ∃ o, iterM f (k + 1) ((i : Int), s.routes, s.lies) = some o ∧ (o = .inr true ∨ ∃ c, o = .inl c)
 | 0, i, s, hi, hs => by
  obtain rfl : i = l.length := by omega
  obtain ⟨c, hc⟩ := last s.routes s.lies
  exact ⟨_, by simp only [iterM, hc], .inr ⟨c, rfl⟩⟩
 | k + 1, i, s, hi, hs => by
  have hlt : i < l.length := by omega
  rcases round i _ s (List.getElem?_eq_getElem hlt) hs with h | ⟨s', hs', h⟩
  ·exact ⟨_, by simp only [iterM, h], .inl rfl⟩
  ·obtain ⟨o, ho, hx⟩ := safeLoop l hl round last k (i + 1) s' (by omega) hs'
   refine ⟨o, ?_, hx⟩
   rw [iterM, h]
   exact ho

theorem safe_end {σ ρ : Type} {f : σ → Option (σ ⊕ (ρ ⊕ Bool))} {s : σ} {K : ρ → Option Bool} {n : Nat} (hn : n ≤ roundsM) (key : ∃ o, iterM f n s = some o ∧ (o = .inr true ∨ ∃ c, o = .inl c)) (hK : ∀ c, K c = some true) : bindS (loopM f s) K = some true := by
 obtain ⟨o, ho, hx⟩ := key
 rw [loopM_of ho hn]
 rcases hx with rfl | ⟨c, rfl⟩
 ·rfl
 ·exact hK c

theorem cycle_olies (t : Table) (s : Inter) (p : Inputs) : (cycleI t s p).2.lies = (cycleI t s p).1.lies := by unfold cycleI; split <;> rfl

theorem liesLoop23 {ρ1 ρ2 ρ3 : Type} {t : Table} {s a : Inter} {o : Outputs} {p : Inputs} (hol : o.lies = a.lies) (hsl : s.lies.length ≤ 100) (hql : a.lies.length = s.lies.length) (hK : ∀ k, k < s.lies.length → a.lies[k]? = s.lies[k]? ∨ ∃ n, t.homes[k]? = some n ∧ occB p n = false) :
  loopM (σ := Int) (ρ := Unit ⊕ ρ1 ⊕ ρ2 ⊕ ρ3 ⊕ Bool) (fun x51 =>
   if x51 < (s.lies.length : Int) then
    bindM (
     getM a.lies x51 fun e56 =>
     getM o.lies x51 fun e57 =>
     if e56 = e57 then
      getM a.lies x51 fun e59 =>
      getM s.lies x51 fun e60 =>
      if e59 = e60 then
       some false
      else
       if (t.homes.length : Int) ≤ x51 then
        some true
       else
        getM t.homes x51 fun e64 =>
        bindM (ref22_Occupied p e64) fun r65 =>
        some r65
     else
      some true) fun x54 =>
    if x54 = true then
     inrM (inrM (inrM (inrM (inrM (some false)))))
    else
     guardM (I64 (x51 + (1 : Int))) <|
     some (.inl (x51 + (1 : Int)))
   else
    inrM (some (.inl ()))) (0 : Int) = some (.inl ()) := by
 refine loop_to (fun k => (k : Int)) s.lies.length rfl (by omega) (fun k hk => ?_) (by rw [if_neg (by omega)]; rfl)
 obtain ⟨e, he⟩ : ∃ e, a.lies[k]? = some e := ⟨_, List.getElem?_eq_getElem (by omega)⟩
 obtain ⟨e', he'⟩ : ∃ e, s.lies[k]? = some e := ⟨_, List.getElem?_eq_getElem hk⟩
 have ho' : o.lies[k]? = some e := by rw [hol]; exact he
 rw [if_pos (show (k : Int) < (s.lies.length : Int) by omega)]
 simp only [getM_at he, getM_at ho', getM_at he', if_true]
 by_cases hee : e = e'
 ·rw [if_pos hee, bindM_some, if_neg (by simp), guardM_true (i64_nat hk (by omega))]; rfl
 ·rcases hK k hk with h | ⟨n, hn, hocc⟩
  ·rw [he, he'] at h; exact absurd (Option.some.inj h) hee
  ·have hkh := (List.getElem?_eq_some_iff.1 hn).1
   rw [if_neg hee, if_neg (show ¬ (t.homes.length : Int) ≤ (k : Int) by omega), getM_at hn, rocc_eq, bindM_some, hocc, bindM_some, if_neg (by simp), guardM_true (i64_nat hk (by omega))]; rfl

theorem safe_law {t : Table} {l : List Inputs} {Q : Prop} {ds : List D} (ht : t.Wf) (_ : Q) (hb : D.bulks (t.enc :: ds) ≤ 1048576) : law23_InterlockSafe t l = some true := by
 have hT : TOk t := tok_bulk (by simp only [D.bulks] at hb; omega)
 have hO := wf_ok ht
 unfold law23_InterlockSafe
 rw [Start_eq t hT, bindM_some, small_eq t _ ht, bindM_some]
 cases hsm : smallB t (startI t) with
 | false => simp only [Bool.not_false, if_true, bindM_some, alive23]
 | true =>
  have hlen := small_len hsm
  simp only [Bool.not_true, Bool.false_eq_true, if_false]
  by_cases h20 : (20 : Int) < (l.length : Int)
  ·simp only [if_pos h20, bindM_some, if_true, alive23]
  ·rw [if_neg h20, bindM_some]
   by_cases hlies : (((startI t).lies.length : Nat) : Int) = (t.points.length : Int)
   ·rw [if_neg (by simp [hlies])]
    have hinv : SafeInv t (startI t) := by
     refine ⟨hlen.1, hlen.2.1, by omega, ?_⟩
     by_cases hz : checkI t = 0
     ·exact .inl (start_sound hz)
     ·exact .inr ⟨hz, by unfold startI; rw [if_neg hz]⟩
    refine safe_end (n := l.length + 1) (by unfold roundsM; omega) (safeLoop (t := t) l (by omega) ?round ?last l.length 0 (startI t) (by omega) hinv) ?fin
    case round =>
     intro i p s hp hs
     have hi := (List.getElem?_eq_some_iff.1 hp).1
     obtain ⟨b, hb, hb'⟩ := few23 p
     simp only [if_pos (show (i : Int) < (l.length : Int) by omega), getM_at hp, hb, bindM_some]
     cases b with
     | false => left; simp only [Bool.not_false, if_true, alive23, bindM_some, inrM_some, bindS_inr]
     | true =>
      right
      have hc := hb' rfl
      simp only [Bool.not_true, Bool.false_eq_true, if_false]
      rw [show (⟨s.routes, s.lies⟩ : Inter) = s from rfl, Cycle_eq t s p hT hO hc.1 hc.2 hs.routes hs.lies]
      have hol := cycle_olies t s p
      have hinv' : SafeInv t (cycleI t s p).1 ∧ (∀ k, k < s.lies.length → (cycleI t s p).1.lies[k]? = s.lies[k]? ∨ ∃ n, t.homes[k]? = some n ∧ occB p n = false) ∧ ((0 : Int) < (t.routes.length : Int) → (s.routes.length : Int) = (t.routes.length : Int) → soundB t (cycleI t s p).1 = true) := by
       rcases hs.sound with hS | ⟨hz, he⟩
       ·have hcs := cycle_sound (p := p) hS
        have hf' := fitsB_iff.1 (sound_fits hcs)
        have hg' := fitsB_iff.1 (sound_fits hS)
        exact ⟨⟨by rw [hf'.2.1]; omega, by rw [hf'.2.2.1, ← hg'.2.2.1]; exact hs.lies, hf'.2.2.1, .inl hcs⟩, fun k hk => cycle_lies hS (by rw [← hs.same]; exact hk), fun _ _ => hcs⟩
       ·have hu : soundB t s = false := by
         cases h : soundB t s with
         | false => rfl
         | true => exact absurd (fitsB_iff.1 (sound_fits h)).1 hz
        have hq : (cycleI t s p).1 = s := by unfold cycleI; rw [if_neg (by rw [hu]; simp)]
        rw [hq]
        refine ⟨hs, fun k _ => .inl rfl, fun h1 h2 => ?_⟩
        subst he
        simp at h2
        omega
      obtain ⟨hI, hK, hSd⟩ := hinv'
      have hql : (cycleI t s p).1.lies.length = s.lies.length := by rw [hI.same, hs.same]
      generalize cycleI t s p = q at hol hI hK hSd hql ⊢
      obtain ⟨a, o⟩ := q
      dsimp only at hol hI hK hSd hql ⊢
      refine ⟨a, hI, ?_⟩
      rw [bindM_some]
      have hx : (if (0 : Int) < (t.routes.length : Int) then if (s.routes.length : Int) = (t.routes.length : Int) then bindM (ref21_Sound t a) fun r39 => some (!r39) else some false else some false) = some false := by
       split
       ·rename_i h1
        split
        ·rename_i h2
         rw [sound21_eq t a hT hO, bindM_some, hSd h1 h2]; rfl
        ·rfl
       ·rfl
      rw [hx, bindM_some, if_neg (by simp), if_neg (by simp [hol, hql])]
      dsimp only
      rw [liesLoop23 hol hs.lies hql hK, bindS_inl, bindS_inl, guardM_true (i64_nat hi (by omega))]
    case last =>
     intro a b
     exact ⟨(a, b), by simp only [if_neg (show ¬ (l.length : Int) < (l.length : Int) by omega)]; rfl⟩
    case fin => exact fun c => by simp only [alive23, bindM_some]
   ·rw [if_pos (by simp [hlies])]
    simp only [alive23, bindM_some]

end Go.Proofs.YtdhicpmpefkojaaGreat
