/- Tables and states, second part: the reference's check, states that fit, what a route locks. The lists must not be longer than the model of Go allows, and those of a route be short. -/
import Derived.Test.YtckkkfgjgjoemaaPlE
set_option linter.unusedVariables false
set_option linter.unusedSimpArgs false
set_option maxHeartbeats 400000
namespace Go.Proofs.Ytckkkfgjgjoemaa
open Go Go.TL

theorem find16_eq (t : Table) (s : ByteArray) (h : Cnt t.routes) : ref16_Find t s = some (idxI (t.routes.findIdx? fun q => decide (q.name = s))) := by
  unfold ref16_Find
  rw [loop_find t.routes (fun q => decide (q.name = s)) (fun i => .inr (i : Int)) (.inl ()) h]
  · cases t.routes.findIdx? (fun q => decide (q.name = s)) <;> rfl
  · intro i e he
    have hi := (List.getElem?_eq_some_iff.1 he).1
    simp only [lt_cast hi, if_true, getM_at he]
    by_cases hx : e.name = s
    · simp [hx]
    · simp [hx, i64_nat hi h]
  · simp

theorem points16_eq (t : Table) (h : Cnt t.points) (e : t.homes.length = t.points.length) (k : Unit → Option Int) : bindS (
        loopM (fun x10 =>
          if x10 < (t.points.length : Int) then
            getM t.points x10 fun e13 =>
            bindM (
              if e13 < (0 : Int) then
                some true
              else
                if (0 : Int) < x10 then
                  guardM (I64 (x10 - (1 : Int))) <|
                  getM t.points (x10 - (1 : Int)) fun e22 =>
                  if e13 ≤ e22 then
                    some true
                  else
                    getM t.homes x10 fun e24 =>
                    if e24 < (0 : Int) then
                      some true
                    else
                      getM t.homes x10 fun e26 =>
                      some (decide (t.sections ≤ e26))
                else
                  getM t.homes x10 fun e18 =>
                  if e18 < (0 : Int) then
                    some true
                  else
                    getM t.homes x10 fun e20 =>
                    some (decide (t.sections ≤ e20))) fun x14 =>
            if x14 = true then
              inrM (
                inrM (
                  some (1 : Int)))
            else
              guardM (I64 (x10 + (1 : Int))) <|
              some (.inl (x10 + (1 : Int)))
          else
            inrM (
              some (.inl ()))) (0 : Int)) k = if allB t.points.length (pointB t) = true then k () else some 1 := by
  rw [loop_anyI t.points.length (fun i => !pointB t i) (.inr 1) (.inl ()) h, not_all_any]
  · cases allB t.points.length (pointB t) <;> rfl
  · intro i hi
    obtain ⟨p, hp⟩ := get_lt hi
    obtain ⟨q, hq⟩ := get_lt (xs := t.points) (i := i - 1) (by omega)
    obtain ⟨hm, hh⟩ := get_lt (xs := t.homes) (i := i) (by omega)
    simp only [lt_cast hi, if_true, getM_at hp, getM_at hh, bindM_some]
    rw [pointB_at hp hq hh]
    by_cases h0 : 0 < i
    · have e1 : ((i : Int) - 1) = ((i - 1 : Nat) : Int) := by omega
      have e2 : I64 ((i - 1 : Nat) : Int) := by unfold I64; omega
      have e3 : (0 : Int) < (i : Int) := by omega
      simp only [e1, guardM_true e2, getM_at hq, e3, if_true, bindM_ite, bindM_some, guardM_true (i64_nat hi h), inrM_some]
      grind
    · have e3 : ¬ (0 : Int) < (i : Int) := by omega
      simp only [e3, if_false, bindM_ite, bindM_some, guardM_true (i64_nat hi h), inrM_some]
      grind
  · simp

theorem loop_names16 (t : Table) (h : t.routes.length ≤ 1000000) (k : Unit → Option Int) : bindS (
        loopM (fun x72 =>
          if x72 < (t.routes.length : Int) then
            getM t.routes x72 fun e75 =>
            bindM (ref16_Find t e75.name) fun r76 =>
            if r76 = x72 then
              guardM (I64 (x72 + (1 : Int))) <|
              some (.inl (x72 + (1 : Int)))
            else
              inrM (
                inrM (
                  some (8 : Int)))
          else
            inrM (
              some (.inl ()))) (0 : Int)) k = if namesB t.routes = true then k () else some 8 := by
  rw [loop_anyI t.routes.length (fun i => !nameB t.routes i) (.inr 8) (.inl ()) (by omega), not_all_any]
  · unfold namesB
    cases allB t.routes.length (nameB t.routes) <;> rfl
  · intro i hi
    obtain ⟨x, hx⟩ := get_lt hi
    have hf := find_name hx
    simp only [lt_cast hi, if_true, getM_at hx, find16_eq t _ (show Cnt t.routes by unfold Cnt; omega), bindM_some, guardM_true (i64_nat hi (by omega)), inrM_some]
    cases hb : nameB t.routes i with
    | true => rw [hb] at hf; rw [if_pos (of_decide_eq_true hf)]; simp
    | false => rw [hb] at hf; rw [if_neg (of_decide_eq_false hf)]; simp
  · simp

theorem right16_settB (t : Table) (r : Route) (ht : Cnt t.points) (h : Short r) : (bindM (ref16_right t r) fun a => if (!(a)) = true then some true else bindM (ref16_settings t r.points) fun b => if (!(b)) = true then some true else bindM (ref16_settings t r.overPoints) fun c => if (!(c)) = true then some true else bindM (ref16_settings t r.flank) fun d => some (!(d))) = some (!(rightB t r && settsB t r)) := by
  have h1 := h.points; have h2 := h.over; have h3 := h.flank
  rw [right16_eq t r h, settings16_eq t _ ht (by omega), settings16_eq t _ ht (by omega), settings16_eq t _ ht (by omega)]
  unfold settsB
  cases rightB t r <;> cases settingsB t r.points <;> cases settingsB t r.overPoints <;> cases settingsB t r.flank <;> rfl

theorem check16_eq (t : Table) (h : TOk t) : ref16_Check t = some (checkI t) := by
  have hp := h.points
  have hr := h.routes
  unfold ref16_Check
  by_cases hl : limB t = true
  · rw [if_neg (by unfold limB at hl; simp only [decide_eq_true_eq] at hl; simp only [Bool.or_eq_true, decide_eq_true_eq]; omega)]
    by_cases e : t.homes.length = t.points.length
    · rw [if_pos (by rw [e]), points16_eq t (by omega) e, loop_routesB t.routes (fun r => rightB t r && settsB t r) 1 hr _ (fun r hm => right16_settB t r (by omega) (h.each r hm)), loop_routesB t.routes agreesB 10 hr _ (fun r hm => agrees16_eq r (h.each r hm)), loop_names16 t hr]
      unfold checkI
      simp only [hl]
      have hpb : pointsB t = allB t.points.length (pointB t) := by unfold pointsB; simp [e]
      rw [hpb]
      cases allB t.points.length (pointB t) <;> cases t.routes.all (fun r => rightB t r && settsB t r) <;> cases t.routes.all agreesB <;> cases namesB t.routes <;> rfl
    · rw [if_neg (by omega), check_points hl (by unfold pointsB; simp [e])]
  · rw [if_pos (by unfold limB at hl; simp only [decide_eq_true_eq] at hl; simp only [Bool.or_eq_true, decide_eq_true_eq]; omega), check_lim (by simpa using hl)]

/-! ### States -/

theorem routeFits_eq (x : RouteState) (n : Int) (hn : 0 ≤ n ∧ n ≤ 1000000) : locks_routeFits x n = some (routeFitsB x n) := by
  unfold locks_routeFits
  simp only [guardM_true (show I64 (n - 1) by unfold I64; omega), bindM_ite, bindM_some]
  simp only [ite_some, Option.some.injEq]
  rw [Bool.eq_iff_iff]
  unfold routeFitsB
  simp only [bool_ite, Bool.and_eq_true, decide_eq_true_eq, Bool.or_eq_true, and_true, Bool.false_eq_true, and_false, or_false]
  rcases Decidable.em (x.state = 0) with s0 | s0 <;> rcases Decidable.em (x.state = 1) with s1 | s1 <;> rcases Decidable.em (x.state = 2) with s2 | s2 <;> rcases Decidable.em (x.state = 3) with s3 | s3 <;> rcases Decidable.em (x.state = 4) with s4 | s4 <;> first | omega | (simp only [s0, s1, s2, s3, s4, if_true, if_false, true_and, false_and, or_false, false_or, not_true, not_false_iff, and_true, and_false, true_or, or_true]; omega)
theorem fitsRoute_eq (x : RouteState) (n : Int) (hn : 0 ≤ n ∧ n ≤ 1000000) : ref21_fitsRoute x n = some (routeFitsB x n) := by
  unfold ref21_fitsRoute
  simp only [guardM_true (show I64 (n - 1) by unfold I64; omega), bindM_ite, bindM_some]
  simp only [ite_some, Option.some.injEq]
  rw [Bool.eq_iff_iff]
  unfold routeFitsB
  simp only [bool_ite, Bool.and_eq_true, decide_eq_true_eq, Bool.or_eq_true, and_true, Bool.false_eq_true, and_false, or_false]
  rcases Decidable.em (x.state = 0) with s0 | s0 <;> rcases Decidable.em (x.state = 1) with s1 | s1 <;> rcases Decidable.em (x.state = 2) with s2 | s2 <;> rcases Decidable.em (x.state = 3) with s3 | s3 <;> rcases Decidable.em (x.state = 4) with s4 | s4 <;> first | omega | (simp only [s0, s1, s2, s3, s4, if_true, if_false, true_and, false_and, or_false, false_or, not_true, not_false_iff, and_true, and_false, true_or, or_true]; omega)

theorem stateLoop (t : Table) (s : Inter) (h : TOk t) (hlen : s.routes.length = t.routes.length) (g : RouteState → Int → Option Bool) (hg : ∀ x n, 0 ≤ n ∧ n ≤ 1000000 → g x n = some (routeFitsB x n)) (k : Unit → Option Bool) : bindS (
      loopM (fun x9 =>
        if x9 < (s.routes.length : Int) then
          getM s.routes x9 fun e12 =>
          getM t.routes x9 fun e13 =>
          bindM (g e12 (e13.sections.length : Int)) fun r14 =>
          if (!(r14)) = true then
            inrM (
              inrM (
                some false))
          else
            guardM (I64 (x9 + (1 : Int))) <|
            some (.inl (x9 + (1 : Int)))
        else
          inrM (
            some (.inl ()))) (0 : Int)) k = if allB s.routes.length (stateFitB t s) = true then k () else some false := by
  have hr := h.routes
  rw [loop_anyI s.routes.length (fun i => !stateFitB t s i) (.inr false) (.inl ()) (by omega), not_all_any]
  · cases allB s.routes.length (stateFitB t s) <;> rfl
  · intro i hi
    obtain ⟨x, hx⟩ := get_lt hi
    obtain ⟨r, hrr⟩ := get_lt (xs := t.routes) (i := i) (by omega)
    have hs := (h.each r (List.mem_of_getElem? hrr)).secs
    simp only [lt_cast hi, if_true, getM_at hx, getM_at hrr, hg x _ (show 0 ≤ (r.sections.length : Int) ∧ (r.sections.length : Int) ≤ 1000000 by omega), bindM_some, stateFitB_at hx hrr, guardM_true (i64_nat hi (by omega)), inrM_some]
  · simp
theorem liesLoop (l : List Int) (h : Cnt l) (k : Unit → Option Bool) : bindS (
      loopM (fun x22 =>
        if x22 < (l.length : Int) then
          getM l x22 fun e25 =>
          if ((!(decide (e25 = (1 : Int)))) && (!(decide (e25 = (2 : Int))))) = true then
            inrM (
              inrM (
                some false))
          else
            guardM (I64 (x22 + (1 : Int))) <|
            some (.inl (x22 + (1 : Int)))
        else
          inrM (
            some (.inl ()))) (0 : Int)) k = if l.all lieB = true then k () else some false := by
  rw [loop_any l (fun r => !lieB r) (.inr false) (.inl ()) h, not_all_any']
  · cases l.all lieB <;> rfl
  · intro i x hx
    have hi := (List.getElem?_eq_some_iff.1 hx).1
    simp only [lt_cast hi, if_true, getM_at hx, guardM_true (i64_nat hi h), inrM_some, lieB]
    by_cases h1 : x = 1 <;> by_cases h2 : x = 2 <;> simp [h1, h2]
  · simp
theorem liesLoop21 (l : List Int) (h : Cnt l) (k : Unit → Option Bool) : bindS (
      loopM (fun x22 =>
        if x22 < (l.length : Int) then
          bindM (
            getM l x22 fun e27 =>
            if e27 = (1 : Int) then
              some false
            else
              getM l x22 fun e29 =>
              some (!(decide (e29 = (2 : Int))))) fun x25 =>
          if x25 = true then
            inrM (
              inrM (
                some false))
          else
            guardM (I64 (x22 + (1 : Int))) <|
            some (.inl (x22 + (1 : Int)))
        else
          inrM (
            some (.inl ()))) (0 : Int)) k = if l.all lieB = true then k () else some false := by
  rw [loop_any l (fun r => !lieB r) (.inr false) (.inl ()) h, not_all_any']
  · cases l.all lieB <;> rfl
  · intro i x hx
    have hi := (List.getElem?_eq_some_iff.1 hx).1
    simp only [lt_cast hi, if_true, getM_at hx, guardM_true (i64_nat hi h), inrM_some, lieB, bindM_ite, bindM_some]
    by_cases h1 : x = 1 <;> by_cases h2 : x = 2 <;> simp [h1, h2]
  · simp
theorem fits_head (t : Table) (s : Inter) : (if checkI t = (0 : Int) then if (s.routes.length : Int) = (t.routes.length : Int) then some (!(decide ((s.lies.length : Int) = (t.points.length : Int)))) else some true else some true) = some (!decide (checkI t = 0 ∧ s.routes.length = t.routes.length ∧ s.lies.length = t.points.length)) := by
  by_cases h1 : checkI t = 0 <;> by_cases h2 : s.routes.length = t.routes.length <;> by_cases h3 : s.lies.length = t.points.length <;> simp [h1, h2, h3] <;> omega
theorem fits_eq (t : Table) (s : Inter) (h : TOk t) : locks_fits t s = some (fitsB t s) := by
  have hp := h.points
  unfold locks_fits fitsB
  simp only [check_eq t h, bindM_some, fits_head]
  by_cases hd : checkI t = 0 ∧ s.routes.length = t.routes.length ∧ s.lies.length = t.points.length
  · rw [decide_eq_true hd]
    simp only [Bool.not_true, Bool.false_eq_true, if_false]
    rw [stateLoop t s h hd.2.1 _ (fun x n hn => routeFits_eq x n hn), liesLoop s.lies (by unfold Cnt; omega)]
    cases allB s.routes.length (stateFitB t s) <;> cases s.lies.all lieB <;> rfl
  · simp [hd]
theorem fits21_eq (t : Table) (s : Inter) (h : TOk t) : ref21_Fits t s = some (fitsB t s) := by
  have hp := h.points
  unfold ref21_Fits fitsB
  simp only [check16_eq t h, bindM_some, fits_head]
  by_cases hd : checkI t = 0 ∧ s.routes.length = t.routes.length ∧ s.lies.length = t.points.length
  · rw [decide_eq_true hd]
    simp only [Bool.not_true, Bool.false_eq_true, if_false]
    rw [stateLoop t s h hd.2.1 _ (fun x n hn => fitsRoute_eq x n hn), liesLoop21 s.lies (by unfold Cnt; omega)]
    cases allB s.routes.length (stateFitB t s) <;> cases s.lies.all lieB <;> rfl
  · simp [hd]

theorem fits_get {t : Table} {s : Inter} (h : fitsB t s = true) {i : Nat} (hi : i < t.routes.length) : ∃ r x, t.routes[i]? = some r ∧ s.routes[i]? = some x ∧ routeFitsB x r.sections.length = true := by
  obtain ⟨_, h2, _, h4, _⟩ := fitsB_iff.1 h
  obtain ⟨r, hr⟩ := get_lt hi
  obtain ⟨x, hx⟩ := get_lt (xs := s.routes) (i := i) (by omega)
  exact ⟨r, x, hr, hx, by rw [← stateFitB_at hx hr]; exact h4 i (by omega)⟩
theorem rel_fits {x : RouteState} {n : Nat} (h : routeFitsB x n = true) : 0 ≤ x.rel ∧ x.rel ≤ n := by
  unfold routeFitsB at h
  split at h
  · simp at h; omega
  · split at h
    · simp at h; omega
    · split at h
      · simp at h; omega
      · cases h

theorem clone_eq (l : List Int) (h : l.length ≤ 1000000000) : slices_Clone_int l = some l := by
  unfold slices_Clone_int
  rw [guardM_true (by simpa using h)]
  cases l <;> simp [nilM]
theorem lpath_eq (r : Route) (x : RouteState) (h : Short r) (hx : routeFitsB x r.sections.length = true) : locks_path r x = some (pathR r x) := by
  have hr := rel_fits hx
  have hs := h.secs
  unfold locks_path pathR
  split
  · rfl
  · rw [guardM_true ⟨hr.1, hr.2, Int.le_refl _⟩]
    have e : x.rel = ((x.rel.toNat : Nat) : Int) := by omega
    rw [e, sub_drop]
    simp only [Int.toNat_natCast]
    rw [clone_eq _ (by simp; omega)]
    rfl
theorem lover_eq (r : Route) (x : RouteState) (h : Short r) : locks_over r x = some (overR r x) := by
  have hs := h.secs
  unfold locks_over overR
  split
  · rfl
  · rw [clone_eq _ (by omega)]; rfl
theorem lock_head (t : Table) (s : Inter) (n : Int) (h : TOk t) : (if n < (0 : Int) then some true else if (t.routes.length : Int) ≤ n then some true else bindM (locks_fits t s) fun r5 => some (!(r5))) = some (!decide (0 ≤ n ∧ n < t.routes.length ∧ fitsB t s = true)) := by
  simp only [fits_eq t s h, bindM_some]
  by_cases h1 : n < 0
  · rw [if_pos h1]; simp; omega
  · by_cases h2 : (t.routes.length : Int) ≤ n
    · rw [if_neg h1, if_pos h2]; simp; omega
    · rw [if_neg h1, if_neg h2]
      cases fitsB t s <;> simp <;> omega
theorem Path_eq (t : Table) (s : Inter) (n : Int) (h : TOk t) : locks_Path t s n = some (pathI t s n) := by
  unfold locks_Path
  simp only [lock_head t s n h, bindM_some]
  by_cases hd : 0 ≤ n ∧ n < t.routes.length ∧ fitsB t s = true
  · obtain ⟨i, rfl⟩ := Int.eq_ofNat_of_zero_le hd.1
    obtain ⟨r, x, hr, hx, hf⟩ := fits_get hd.2.2 (i := i) (by omega)
    simp only [hd, decide_true, Bool.not_true, Bool.false_eq_true, if_false, and_self, getM_at hr, getM_at hx]
    rw [lpath_eq r x (h.each r (List.mem_of_getElem? hr)) hf]
    unfold pathI
    rw [lockI_at hd.2.2 hr hx]; rfl
  · simp only [hd, decide_false, Bool.not_false, if_true]
    unfold pathI
    rw [lockI_no (by
      by_cases h1 : n < 0
      · exact .inl h1
      · by_cases h2 : (t.routes.length : Int) ≤ n
        · exact .inr (.inl h2)
        · refine .inr (.inr ?_)
          cases e : fitsB t s with
          | false => rfl
          | true => exact absurd ⟨by omega, by omega, e⟩ hd)]
theorem Over_eq (t : Table) (s : Inter) (n : Int) (h : TOk t) : locks_Over t s n = some (overI t s n) := by
  unfold locks_Over
  simp only [lock_head t s n h, bindM_some]
  by_cases hd : 0 ≤ n ∧ n < t.routes.length ∧ fitsB t s = true
  · obtain ⟨i, rfl⟩ := Int.eq_ofNat_of_zero_le hd.1
    obtain ⟨r, x, hr, hx, hf⟩ := fits_get hd.2.2 (i := i) (by omega)
    simp only [hd, decide_true, Bool.not_true, Bool.false_eq_true, if_false, and_self, getM_at hr, getM_at hx]
    rw [lover_eq r x (h.each r (List.mem_of_getElem? hr))]
    unfold overI
    rw [lockI_at hd.2.2 hr hx]; rfl
  · simp only [hd, decide_false, Bool.not_false, if_true]
    unfold overI
    rw [lockI_no (by
      by_cases h1 : n < 0
      · exact .inl h1
      · by_cases h2 : (t.routes.length : Int) ≤ n
        · exact .inr (.inl h2)
        · refine .inr (.inr ?_)
          cases e : fitsB t s with
          | false => rfl
          | true => exact absurd ⟨by omega, by omega, e⟩ hd)]

/-! ### The reference's locks -/

theorem path21_eq (t : Table) (s : Inter) (h : TOk t) {i : Nat} {r : Route} {x : RouteState} (hr : t.routes[i]? = some r) (hx : s.routes[i]? = some x) (hf : routeFitsB x r.sections.length = true) : ref21_path t s (i : Int) = some (pathR r x) := by
  have hrl := rel_fits hf
  have hs := (h.each r (List.mem_of_getElem? hr)).secs
  unfold ref21_path pathR
  rw [getM_at hx]
  split
  · rfl
  · rw [getM_at hr, getM_at hx, guardM_true ⟨hrl.1, hrl.2, Int.le_refl _⟩]
    have e : x.rel = ((x.rel.toNat : Nat) : Int) := by omega
    rw [e, sub_drop]
    simp only [Int.toNat_natCast]
    rw [guardM_true (by simp; omega), List.nil_append]
theorem over21_eq (t : Table) (s : Inter) (h : TOk t) {i : Nat} {r : Route} {x : RouteState} (hr : t.routes[i]? = some r) (hx : s.routes[i]? = some x) : ref21_over t s (i : Int) = some (overR r x) := by
  have hs := (h.each r (List.mem_of_getElem? hr)).secs
  unfold ref21_over overR
  rw [getM_at hx]
  split
  · rfl
  · rw [getM_at hr, guardM_true (by simp; omega), List.nil_append]
def lockedB (t : Table) (s : Inter) (n : Int) : Bool := decide (0 ≤ n ∧ n < t.routes.length ∧ fitsB t s = true) && !decide ((s.routes[n.toNat]?.map (·.state)) = some 0)
theorem locked21_eq (t : Table) (s : Inter) (n : Int) (h : TOk t) : ref21_locked t s n = some (lockedB t s n) := by
  unfold ref21_locked lockedB
  simp only [fits21_eq t s h, bindM_some]
  by_cases hd : 0 ≤ n ∧ n < t.routes.length ∧ fitsB t s = true
  · obtain ⟨i, rfl⟩ := Int.eq_ofNat_of_zero_le hd.1
    obtain ⟨r, x, hr, hx, hf⟩ := fits_get hd.2.2 (i := i) (by omega)
    rw [if_pos hd.1, if_pos hd.2.1, if_pos hd.2.2, getM_at hx]
    simp [hd, hx]
  · by_cases h1 : 0 ≤ n
    · by_cases h2 : n < t.routes.length
      · have h3 : fitsB t s = false := by
          cases e : fitsB t s with
          | false => rfl
          | true => exact absurd ⟨h1, h2, e⟩ hd
        rw [if_pos h1, if_pos h2]
        simp [h3]
      · rw [if_pos h1, if_neg h2]; simp [hd]
    · rw [if_neg h1]; simp [hd]
theorem lock21 (f : Route → RouteState → List Int) (hf0 : ∀ r x, x.state = 0 → f r x = []) (g : Table → Inter → Int → Option (List Int)) (t : Table) (s : Inter) (n : Int) (h : TOk t)
    (hg : ∀ (i : Nat) (r : Route) (x : RouteState), t.routes[i]? = some r → s.routes[i]? = some x → routeFitsB x r.sections.length = true → g t s (i : Int) = some (f r x)) : (bindM (ref21_locked t s n) fun r1 => if (!(r1)) = true then some ([] : List Int) else bindM (g t s n) fun r3 => some r3) = some (lockI f t s n) := by
  simp only [locked21_eq t s n h, bindM_some]
  unfold lockedB
  by_cases hd : 0 ≤ n ∧ n < t.routes.length ∧ fitsB t s = true
  · obtain ⟨i, rfl⟩ := Int.eq_ofNat_of_zero_le hd.1
    obtain ⟨r, x, hr, hx, hf⟩ := fits_get hd.2.2 (i := i) (by omega)
    rw [lockI_at hd.2.2 hr hx]
    by_cases hst : x.state = 0
    · simp [hd, hx, hst, hf0 r x hst]
    · simp [hd, hx, hst, hg i r x hr hx hf]
  · simp only [hd, decide_false, Bool.false_and, Bool.not_false, if_true]
    rw [lockI_no (by
      by_cases h1 : n < 0
      · exact .inl h1
      · by_cases h2 : (t.routes.length : Int) ≤ n
        · exact .inr (.inl h2)
        · refine .inr (.inr ?_)
          cases e : fitsB t s with
          | false => rfl
          | true => exact absurd ⟨by omega, by omega, e⟩ hd)]
theorem Path21_eq (t : Table) (s : Inter) (n : Int) (h : TOk t) : ref21_Path t s n = some (pathI t s n) := lock21 pathR (fun r x e => by simp [pathR, e]) ref21_path t s n h fun i r x hr hx hf => path21_eq t s h hr hx hf
theorem Over21_eq (t : Table) (s : Inter) (n : Int) (h : TOk t) : ref21_Over t s n = some (overI t s n) := lock21 overR (fun r x e => by simp [overR, e]) ref21_over t s n h fun i r x hr hx hf => over21_eq t s h hr hx
theorem lockI_len (f : Route → RouteState → List Int) (hf : ∀ r x, (f r x).length ≤ r.sections.length + r.overSections.length) (t : Table) (s : Inter) (n : Int) (h : TOk t) : (lockI f t s n).length ≤ 1000000 := by
  unfold lockI
  split
  · split
    · rename_i r x hr hx
      have := (h.each r (List.mem_of_getElem? hr)).secs
      have := hf r x
      omega
    · simp
  · simp
theorem pathI_len (t : Table) (s : Inter) (n : Int) (h : TOk t) : (pathI t s n).length ≤ 1000000 := lockI_len pathR (fun r x => by unfold pathR; split <;> simp <;> omega) t s n h
theorem overI_len (t : Table) (s : Inter) (n : Int) (h : TOk t) : (overI t s n).length ≤ 1000000 := lockI_len overR (fun r x => by unfold overR; split <;> simp) t s n h

end Go.Proofs.Ytckkkfgjgjoemaa
