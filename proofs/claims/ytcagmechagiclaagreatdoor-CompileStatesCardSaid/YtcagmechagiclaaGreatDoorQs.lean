/- Texts of this proof, joined, without what it does not use. No condition. -/
import Derived.Test.YtcagmechagiclaaGreatDoorQr

set_option linter.unusedVariables false
set_option linter.unusedSimpArgs false
set_option maxHeartbeats 400000
namespace Go.Proofs.YtcagmechagiclaaGreatDoor
open Go Go.TL

theorem find16_eq (t : Table) (s : ByteArray) (h : Cnt t.routes) : ref16_Find t s = some (idxI (t.routes.findIdx? fun q => decide (q.name = s))) := by
 unfold ref16_Find
 rw [loop_find t.routes (fun q => decide (q.name = s)) (fun i => .inr (i : Int)) (.inl ()) h]
 ·cases t.routes.findIdx? (fun q => decide (q.name = s)) <;> rfl
 ·intro i e he
  have hi := (List.getElem?_eq_some_iff.1 he).1
  simp only [lt_cast hi, if_true, getM_at he]
  by_cases hx : e.name = s
  ·simp [hx]
  ·simp [hx, i64_nat hi h]
 ·simp

theorem points16_eq (t : Table) (h : Cnt t.points) (e : t.homes.length = t.points.length) (k : Unit → Option Int) : bindS (
    loopM (fun x10 =>
     if x10 < (t.points.length : Int) then
      getM t.points x10 fun e13 =>
      bindM (
       if e13 < (0 : Int) then
        some true
       else
        if (0 : Int) < x10 then
         guardM (I64 (x10 - (1 : Int))) <|
         getM t.points (x10 - (1 : Int)) fun e22 =>
         if e13 ≤ e22 then
          some true
         else
          getM t.homes x10 fun e24 =>
          if e24 < (0 : Int) then
           some true
          else
           getM t.homes x10 fun e26 =>
           some (decide (t.sections ≤ e26))
        else
         getM t.homes x10 fun e18 =>
         if e18 < (0 : Int) then
          some true
         else
          getM t.homes x10 fun e20 =>
          some (decide (t.sections ≤ e20))) fun x14 =>
      if x14 = true then
       inrM (
        inrM (
         some (1 : Int)))
      else
       guardM (I64 (x10 + (1 : Int))) <|
       some (.inl (x10 + (1 : Int)))
     else
      inrM (
       some (.inl ()))) (0 : Int)) k = if allB t.points.length (pointB t) = true then k () else some 1 := by
 rw [loop_anyI t.points.length (fun i => !pointB t i) (.inr 1) (.inl ()) h, not_all_any]
 ·cases allB t.points.length (pointB t) <;> rfl
 ·intro i hi
  obtain ⟨p, hp⟩ := get_lt hi
  obtain ⟨q, hq⟩ := get_lt (xs := t.points) (i := i - 1) (by omega)
  obtain ⟨hm, hh⟩ := get_lt (xs := t.homes) (i := i) (by omega)
  simp only [lt_cast hi, if_true, getM_at hp, getM_at hh, bindM_some]
  rw [pointB_at hp hq hh]
  by_cases h0 : 0 < i
  ·have e1 : ((i : Int) - 1) = ((i - 1 : Nat) : Int) := by omega
   have e2 : I64 ((i - 1 : Nat) : Int) := by unfold I64; omega
   have e3 : (0 : Int) < (i : Int) := by omega
   simp only [e1, guardM_true e2, getM_at hq, e3, if_true, bindM_ite, bindM_some, guardM_true (i64_nat hi h), inrM_some]
   grind
  ·have e3 : ¬ (0 : Int) < (i : Int) := by omega
   simp only [e3, if_false, bindM_ite, bindM_some, guardM_true (i64_nat hi h), inrM_some]
   grind
 ·simp

theorem loop_names16 (t : Table) (h : t.routes.length ≤ 2000000) (k : Unit → Option Int) : bindS (
    loopM (fun x72 =>
     if x72 < (t.routes.length : Int) then
      getM t.routes x72 fun e75 =>
      bindM (ref16_Find t e75.name) fun r76 =>
      if r76 = x72 then
       guardM (I64 (x72 + (1 : Int))) <|
       some (.inl (x72 + (1 : Int)))
      else
       inrM (
        inrM (
         some (8 : Int)))
     else
      inrM (
       some (.inl ()))) (0 : Int)) k = if namesB t.routes = true then k () else some 8 := by
 rw [loop_anyI t.routes.length (fun i => !nameB t.routes i) (.inr 8) (.inl ()) (by omega), not_all_any]
 ·unfold namesB
  cases allB t.routes.length (nameB t.routes) <;> rfl
 ·intro i hi
  obtain ⟨x, hx⟩ := get_lt hi
  have hf := find_name hx
  simp only [lt_cast hi, if_true, getM_at hx, find16_eq t _ (show Cnt t.routes by unfold Cnt; omega), bindM_some, guardM_true (i64_nat hi (by omega)), inrM_some]
  cases hb : nameB t.routes i with
  | true => rw [hb] at hf; rw [if_pos (of_decide_eq_true hf)]; simp
  | false => rw [hb] at hf; rw [if_neg (of_decide_eq_false hf)]; simp
 ·simp

theorem right16_settB (t : Table) (r : Route) (ht : Cnt t.points) (h : Short r) : (bindM (ref16_right t r) fun a => if (!(a)) = true then some true else bindM (ref16_settings t r.points) fun b => if (!(b)) = true then some true else bindM (ref16_settings t r.overPoints) fun c => if (!(c)) = true then some true else bindM (ref16_settings t r.flank) fun d => some (!(d))) = some (!(rightB t r && settsB t r)) := by
 have h1 := h.points; have h2 := h.over; have h3 := h.flank
 rw [right16_eq t r h, settings16_eq t _ ht (by omega), settings16_eq t _ ht (by omega), settings16_eq t _ ht (by omega)]
 unfold settsB
 cases rightB t r <;> cases settingsB t r.points <;> cases settingsB t r.overPoints <;> cases settingsB t r.flank <;> rfl

theorem check16_eq (t : Table) (h : TOk t) : ref16_Check t = some (checkI t) := by
 have hp := h.points
 have hr := h.routes
 unfold ref16_Check
 by_cases hl : limB t = true
 ·rw [if_neg (by unfold limB at hl; simp only [decide_eq_true_eq] at hl; simp only [Bool.or_eq_true, decide_eq_true_eq]; omega)]
  by_cases e : t.homes.length = t.points.length
  ·rw [if_pos (by rw [e]), points16_eq t (by omega) e, loop_routesB t.routes (fun r => rightB t r && settsB t r) 1 hr _ (fun r hm => right16_settB t r (by omega) (h.each r hm)), loop_routesB t.routes agreesB 10 hr _ (fun r hm => agrees16_eq r (h.each r hm)), loop_names16 t hr]
   unfold checkI
   simp only [hl]
   have hpb : pointsB t = allB t.points.length (pointB t) := by unfold pointsB; simp [e]
   rw [hpb]
   cases allB t.points.length (pointB t) <;> cases t.routes.all (fun r => rightB t r && settsB t r) <;> cases t.routes.all agreesB <;> cases namesB t.routes <;> rfl
  ·rw [if_neg (by omega), check_points hl (by unfold pointsB; simp [e])]
 ·rw [if_pos (by unfold limB at hl; simp only [decide_eq_true_eq] at hl; simp only [Bool.or_eq_true, decide_eq_true_eq]; omega), check_lim (by simpa using hl)]

/-! ### States -/

end Go.Proofs.YtcagmechagiclaaGreatDoor

set_option linter.unusedSimpArgs false
set_option linter.unusedVariables false
namespace Go.Proofs.YtcagmechagiclaaGreatDoor
open Go Go.TL

/-! ### The order -/

end Go.Proofs.YtcagmechagiclaaGreatDoor

set_option linter.unusedSimpArgs false
set_option linter.unusedVariables false
namespace Go.Proofs.YtcagmechagiclaaGreatDoor
open Go Go.TL

end Go.Proofs.YtcagmechagiclaaGreatDoor

set_option linter.unusedSimpArgs false
set_option linter.unusedVariables false
namespace Go.Proofs.YtcagmechagiclaaGreatDoor
open Go Go.TL

/-! ### Loops that gather -/

theorem check_all {t : Table} (h : checkI t = 0) : limB t = true ∧ pointsB t = true ∧ (∀ r ∈ t.routes, rightB t r = true ∧ settsB t r = true) ∧ (∀ r ∈ t.routes, agreesB r = true) ∧ namesB t.routes = true := by
 unfold checkI at h
 split at h
 ·cases h
 split at h
 ·cases h
 split at h
 ·cases h
 split at h
 ·cases h
 split at h
 ·cases h
 rename_i h1 h2 h3 h4 h5
 simp only [Bool.not_eq_false] at h1 h2 h3 h4 h5
 rw [List.all_eq_true] at h3 h4
 exact ⟨h1, h2, fun r hr => by have := h3 r hr; rwa [Bool.and_eq_true] at this, h4, h5⟩

end Go.Proofs.YtcagmechagiclaaGreatDoor

set_option linter.unusedSimpArgs false
set_option linter.unusedVariables false
namespace Go.Proofs.YtcagmechagiclaaGreatDoor
open Go Go.TL

end Go.Proofs.YtcagmechagiclaaGreatDoor

set_option linter.unusedSimpArgs false
set_option linter.unusedVariables false
namespace Go.Proofs.YtcagmechagiclaaGreatDoor
open Go Go.TL

/-- A route and its state, by their number. -/
def rAt (t : Table) (i : Nat) : Route := (t.routes[i]?).getD default
def xAt (s : Inter) (i : Nat) : RouteState := (s.routes[i]?).getD default
structure FitsAt (t : Table) (s : Inter) (i : Nat) : Prop where
 r : t.routes[i]? = some (rAt t i)
 x : s.routes[i]? = some (xAt s i)
 mem : rAt t i ∈ t.routes
 fits : routeFitsB (xAt s i) (rAt t i).sections.length = true
end Go.Proofs.YtcagmechagiclaaGreatDoor

set_option linter.unusedSimpArgs false
set_option linter.unusedVariables false
namespace Go.Proofs.YtcagmechagiclaaGreatDoor
open Go Go.TL

end Go.Proofs.YtcagmechagiclaaGreatDoor

set_option linter.unusedSimpArgs false
set_option linter.unusedVariables false
namespace Go.Proofs.YtcagmechagiclaaGreatDoor
open Go Go.TL

/-- Is an input of a section true or missing? -/
def closedB (l : List Bool) (n : Int) : Bool := if n < 0 then true else if (l.length : Int) ≤ n then true else l.getD n.toNat false
end Go.Proofs.YtcagmechagiclaaGreatDoor

set_option linter.unusedSimpArgs false
set_option linter.unusedVariables false
namespace Go.Proofs.YtcagmechagiclaaGreatDoor
open Go Go.TL

/-! ### Bound -/

end Go.Proofs.YtcagmechagiclaaGreatDoor

set_option linter.unusedVariables false
set_option linter.unusedSimpArgs false
set_option maxHeartbeats 400000
set_option maxRecDepth 100000
namespace Go.Proofs.YtcagmechagiclaaGreatDoor
open Go Go.TL

theorem alive24 : law24_alive = some true := by decide +kernel

def sumR (r : Route) : Nat := r.path.length + r.sections.length + r.overSections.length + r.points.length + r.overPoints.length + r.flank.length
def smallT (t : Table) : Bool := t.routes.all (fun r => decide (sumR r ≤ 200)) && decide (t.routes.length ≤ 100 ∧ t.points.length ≤ 100)
theorem smallT_eq (t : Table) (ht : t.Wf) : law24_small t = some (smallT t) := by
 have h0 := len_ok ht.routes.1
 unfold law24_small smallT
 rw [loop_any t.routes (fun r => !decide (sumR r ≤ 200)) (.inr false) (.inl ()) (by omega) (fun i r hr => ?_) (by rw [if_neg (by omega)]; rfl), not_all_any']
 ·cases t.routes.all (fun r => decide (sumR r ≤ 200))
  ·rfl
  ·simp only [Bool.not_true, Bool.false_eq_true, if_false, bindS_inl, Option.some.injEq, Bool.true_and]
   rw [Bool.eq_iff_iff]
   simp only [Bool.and_eq_true, decide_eq_true_eq]
   omega
 ·have hi := (List.getElem?_eq_some_iff.1 hr).1
  have hw := ht.routes.2 r (List.mem_of_getElem? hr)
  have h1 := len_ok hw.path.1
  have h2 := len_ok hw.sections.1
  have h3 := len_ok hw.overSections.1
  have h4 := len_ok hw.points.1
  have h5 := len_ok hw.overPoints.1
  have h6 := len_ok hw.flank.1
  rw [if_pos (by omega), getM_at hr, guardM_true (by unfold I64; omega), guardM_true (by unfold I64; omega), guardM_true (by unfold I64; omega), guardM_true (by unfold I64; omega), guardM_true (by unfold I64; omega)]
  unfold sumR
  by_cases hb : r.path.length + r.sections.length + r.overSections.length + r.points.length + r.overPoints.length + r.flank.length ≤ 200
  ·rw [if_neg (by omega), guardM_true (i64_nat hi (by omega)), if_neg (by simpa using hb)]
  ·rw [if_pos (by omega), if_pos (by rw [decide_eq_false hb]; rfl)]; rfl
theorem smallT_ok {t : Table} (h : smallT t = true) : TOk t ∧ t.routes.length ≤ 100 ∧ t.points.length ≤ 100 ∧ ∀ r ∈ t.routes, sumR r ≤ 200 := by
 unfold smallT at h
 simp only [Bool.and_eq_true, decide_eq_true_eq, List.all_eq_true] at h
 obtain ⟨h1, h2⟩ := h
 refine ⟨⟨by omega, by omega, fun r hr => ?_⟩, h2.1, h2.2, h1⟩
 have := h1 r hr
 unfold sumR at this
 exact ⟨by omega, by omega, by omega, by omega⟩
theorem bools_eq (l : List Bool) (h : Cnt l) : law24_bools l l = some true := by
 unfold law24_bools
 unfold Cnt at h
 rw [if_pos rfl, loop_any l (fun _ => false) (.inr false) (.inl ()) (by omega) (fun i e he => ?_) (by rw [if_neg (by omega)]; rfl)]
 ·rw [List.any_eq_false.2 (fun _ _ => by simp), if_neg (by simp), bindS_inl]
 ·have hi := (List.getElem?_eq_some_iff.1 he).1
  rw [if_pos (by omega), getM_at he, getM_at he, if_neg (by simp), guardM_true (i64_nat hi (by omega)), if_neg (by simp)]

end Go.Proofs.YtcagmechagiclaaGreatDoor

set_option linter.unusedVariables false
set_option linter.unusedSimpArgs false
set_option maxHeartbeats 400000
set_option maxRecDepth 100000
namespace Go.Proofs.YtcagmechagiclaaGreatDoor
open Go Go.TL

end Go.Proofs.YtcagmechagiclaaGreatDoor

set_option linter.unusedVariables false
set_option linter.unusedSimpArgs false
set_option maxHeartbeats 400000
set_option maxRecDepth 100000
namespace Go.Proofs.YtcagmechagiclaaGreatDoor
open Go Go.TL

def placeOf (t : Table) (el : Int) : Nat := (indexI t.points el).getD 0
end Go.Proofs.YtcagmechagiclaaGreatDoor

set_option linter.unusedVariables false
set_option linter.unusedSimpArgs false
set_option maxHeartbeats 400000
set_option maxRecDepth 100000
namespace Go.Proofs.YtcagmechagiclaaGreatDoor
open Go Go.TL

abbrev occB (p : Inputs) (n : Int) : Bool := closedB p.occupied n
def claimedB (p : Inputs) (i : Nat) : Bool := decide (p.claimed.length ≤ i) || p.claimed.getD i false
def cancelB (p : Inputs) (i : Nat) : Bool := decide ((i : Int) ∈ p.cancels)
section
variable {r : Route} {p : Inputs} {c q l m v : Bool} {x : RouteState}
end
/-- Relation of a route's state to what becomes of it: it is idle, or nothing new is locked. -/
structure Less (n : Nat) (x y : RouteState) : Prop where
 fits : routeFitsB y n = true
 idle : x.state = 0 → y.state = 0
 rel : y.state ≠ 0 → x.rel ≤ y.rel

end Go.Proofs.YtcagmechagiclaaGreatDoor

set_option linter.unusedVariables false
set_option linter.unusedSimpArgs false
set_option maxHeartbeats 400000
set_option maxRecDepth 100000
namespace Go.Proofs.YtcagmechagiclaaGreatDoor
open Go Go.TL

end Go.Proofs.YtcagmechagiclaaGreatDoor

set_option linter.unusedVariables false
set_option linter.unusedSimpArgs false
set_option maxHeartbeats 400000
set_option maxRecDepth 100000
namespace Go.Proofs.YtcagmechagiclaaGreatDoor
open Go Go.TL

section view
variable {t : Table} {p : Inputs} {r : Route} {x : RouteState} {c q l m : Bool}
end view

end Go.Proofs.YtcagmechagiclaaGreatDoor

set_option linter.unusedVariables false
set_option linter.unusedSimpArgs false
set_option maxHeartbeats 400000
set_option maxRecDepth 100000
namespace Go.Proofs.YtcagmechagiclaaGreatDoor
open Go Go.TL

end Go.Proofs.YtcagmechagiclaaGreatDoor

set_option linter.unusedVariables false
set_option linter.unusedSimpArgs false
set_option maxHeartbeats 400000
set_option maxRecDepth 100000
namespace Go.Proofs.YtcagmechagiclaaGreatDoor
open Go Go.TL

structure FreeIn (t : Table) (p : Inputs) : Prop where
 occ : ∀ n, 0 ≤ n → n < t.sections → occB p n = false
 claimed : ∀ i, i < t.routes.length → claimedB p i = false
 cancel : ∀ i, i < t.routes.length → cancelB p i = true
end Go.Proofs.YtcagmechagiclaaGreatDoor

set_option linter.unusedVariables false
set_option linter.unusedSimpArgs false
set_option maxHeartbeats 400000
set_option maxRecDepth 100000
namespace Go.Proofs.YtcagmechagiclaaGreatDoor
open Go Go.TL

theorem same_eq (s : Inter) (h : s.routes.length ≤ 2000000) (h' : s.lies.length ≤ 2000000) (ho : ∀ x ∈ s.routes, RouteState.ok x) : ref21_Same s s = some true := by
 unfold ref21_Same
 rw [if_neg (by simp)]
 rw [loop_any s.routes (fun _ => false) (.inr false) (.inl ()) (by omega) (fun i e he => ?_) (by rw [if_neg (by omega)]; rfl)]
 ·rw [List.any_eq_false.2 (fun _ _ => by simp), if_neg (by simp), bindS_inl]
  rw [loop_any s.lies (fun _ => false) (.inr false) (.inl ()) (by omega) (fun i e he => ?_) (by rw [if_neg (by omega)]; rfl)]
  ·rw [List.any_eq_false.2 (fun _ _ => by simp), if_neg (by simp), bindS_inl]
  ·have hi := (List.getElem?_eq_some_iff.1 he).1
   rw [if_pos (by omega)]
   simp only [getM_at he, if_true]
   rw [guardM_true (i64_nat hi (by omega))]; rfl
 ·have hi := (List.getElem?_eq_some_iff.1 he).1
  have := ho e (List.mem_of_getElem? he)
  rw [if_pos (by omega)]
  simp only [getM_at he]
  simp only [if_true]
  rw [guardM_true ⟨this, this⟩, guardM_true (i64_nat hi (by omega))]; rfl
end Go.Proofs.YtcagmechagiclaaGreatDoor

set_option linter.unusedVariables false
set_option linter.unusedSimpArgs false
set_option maxHeartbeats 400000
set_option maxRecDepth 100000
namespace Go.Proofs.YtcagmechagiclaaGreatDoor
open Go Go.TL

/-! ### Numbers -/

def inN (t : Table) : Nat := 2 * t.sections.toNat + 2 * t.points.length + 4 * t.routes.length
def widN (r : Route) : Nat := 5 + r.sections.length
def baseN (t : Table) (i : Nat) : Nat := inN t + t.points.length + ((t.routes.take i).map widN).sum
def basesL (t : Table) (i : Nat) : List Int := (List.range i).map fun i => (baseN t i : Int)
def extraN (t : Table) : Nat := baseN t t.routes.length
def allN (t : Table) : Nat := extraN t + 5 * t.routes.length

/-- A small table that is right. -/
structure COk (t : Table) : Prop where
 ok : TOk t
 nr : t.routes.length ≤ 100
 np : t.points.length ≤ 100
 sum : ∀ r ∈ t.routes, sumR r ≤ 200
 chk : checkI t = 0
theorem COk.lim {t : Table} (h : COk t) : t.routes.length ≤ 48 ∧ t.points.length ≤ 32 ∧ 0 ≤ t.sections ∧ t.sections ≤ 24 ∧ 0 ≤ t.signals ∧ t.signals ≤ 20 := of_decide_eq_true (check_all h.chk).1
theorem COk.secs {t : Table} (h : COk t) {r : Route} (hr : r ∈ t.routes) : 0 < r.sections.length ∧ r.sections.length ≤ 200 := by
 have h1 := ((check_all h.chk).2.2.1 r hr).1
 unfold rightB at h1
 simp only [Bool.and_eq_true, decide_eq_true_eq] at h1
 have h2 := h.sum r hr
 unfold sumR at h2
 exact ⟨h1.1.1.1.2, by omega⟩
theorem COk.entry {t : Table} (h : COk t) {r : Route} (hr : r ∈ t.routes) : 0 ≤ r.entry ∧ r.entry < t.signals := by
 have h1 := ((check_all h.chk).2.2.1 r hr).1
 unfold rightB headB inB at h1
 simp only [Bool.and_eq_true, decide_eq_true_eq] at h1
 exact h1.1.1.1.1.1.1

theorem baseN_zero (t : Table) : baseN t 0 = inN t + t.points.length := by unfold baseN; simp
theorem baseN_succ {t : Table} {i : Nat} {r : Route} (hr : t.routes[i]? = some r) : baseN t (i + 1) = baseN t i + widN r := by
 unfold baseN
 rw [List.take_add_one, hr]
 simp [Nat.add_assoc]
theorem basesL_succ (t : Table) (i : Nat) : basesL t (i + 1) = basesL t i ++ [(baseN t i : Int)] := by
 unfold basesL
 rw [List.range_succ]
 simp
theorem basesL_len (t : Table) (i : Nat) : (basesL t i).length = i := by unfold basesL; simp
theorem basesL_at {t : Table} {n i : Nat} (h : i < n) : (basesL t n)[i]? = some (baseN t i : Int) := by unfold basesL; simp [h]
theorem sum_wid {l : List Route} (h : ∀ r ∈ l, sumR r ≤ 200) : (l.map widN).sum ≤ 205 * l.length := by
 induction l with
 | nil => simp
 | cons r l ih =>
  have h1 := h r (by simp)
  have h2 := ih (fun r hr => h r (by simp [hr]))
  simp only [List.map_cons, List.sum_cons, List.length_cons]
  unfold sumR at h1
  have h3 : widN r = 5 + r.sections.length := rfl
  omega
theorem COk.base {t : Table} (h : COk t) (i : Nat) : baseN t i ≤ 30000 := by
 have h1 := sum_wid (l := t.routes.take i) (fun r hr => h.sum r (List.mem_of_mem_take hr))
 have h2 : (t.routes.take i).length ≤ 48 := by rw [List.length_take]; have := h.lim; omega
 have h3 := h.lim
 unfold baseN inN
 omega
theorem baseN_mono {t : Table} : ∀ (i n : Nat), i ≤ n → baseN t i ≤ baseN t n := by
 intro i n h
 induction n with
 | zero => rw [show i = 0 by omega]; exact Nat.le_refl _
 | succ n ih =>
  rcases Nat.lt_or_ge n i with h1 | h1
  ·rw [show i = n + 1 by omega]; exact Nat.le_refl _
  ·refine Nat.le_trans (ih h1) ?_
   cases e : t.routes[n]? with
   | some r => rw [baseN_succ e]; omega
   | none =>
    have := List.getElem?_eq_none_iff.1 e
    unfold baseN
    rw [List.take_of_length_le (by omega), List.take_of_length_le (by omega)]; exact Nat.le_refl _
theorem baseN_in {t : Table} {i : Nat} {r : Route} (hr : t.routes[i]? = some r) : baseN t i + widN r ≤ extraN t := by
 have hi := (List.getElem?_eq_some_iff.1 hr).1
 rw [← baseN_succ hr]
 exact baseN_mono _ _ (by omega)

abbrev noT : Table := ⟨[], [], [], 0, 0⟩
abbrev numT (t : Table) : Numbering := ⟨t, (inN t : Int), basesL t t.routes.length, (extraN t : Int), (allN t : Int)⟩

theorem number_eq {t : Table} (h : TOk t) (hs : smallT t = true) : compile_number t = some (if checkI t = 0 then if 2000 < allN t then (⟨noT, 0, [], 0, 0⟩, 2) else (numT t, 0) else (⟨noT, 0, [], 0, 0⟩, checkI t)) := by
 unfold compile_number
 rw [check_eq t h, bindM_some]
 by_cases hz : checkI t = 0
 ·obtain ⟨hT, h1, h2, h3⟩ := smallT_ok hs
  have hC : COk t := ⟨h, h1, h2, h3, hz⟩
  rw [if_pos hz, if_pos hz]
  have hlm := hC.lim
  have hsn : t.sections = ((t.sections.toNat : Nat) : Int) := by omega
  have hin : ((((2 : Int) * t.sections) + ((2 : Int) * (t.points.length : Int))) + ((4 : Int) * (t.routes.length : Int))) = (inN t : Int) := by unfold inN; omega
  rw [guardM_true (by unfold I64; omega), guardM_true (by unfold I64; omega), guardM_true (by unfold I64; omega), guardM_true (by unfold I64; omega), guardM_true (by unfold I64; omega), guardM_true (by unfold I64; omega), hin]
  have hb := hC.base
  rw [loop_acc (b := (((inN t : Int) + (t.points.length : Int)), ([] : List Int))) t.routes.length (fun i => ((baseN t i : Int), basesL t i)) (o := ((extraN t : Int), basesL t t.routes.length)) (by rw [baseN_zero]; simp [basesL]) (by omega) (fun i hi => ?_) (by dsimp only; rw [if_neg (by omega)]; rfl), bindM_some]
  ·dsimp only
   have := hb t.routes.length
   have he : extraN t = baseN t t.routes.length := rfl
   rw [guardM_true (by unfold I64; omega), guardM_true (by unfold I64; omega)]
   have ha : (extraN t : Int) + (5 : Int) * (t.routes.length : Int) = (allN t : Int) := by unfold allN; omega
   rw [ha]
   by_cases hl : 2000 < allN t
   ·rw [if_pos (by omega), if_pos hl]
   ·rw [if_neg (by omega), if_neg hl]
  ·dsimp only
   have hr := List.getElem?_eq_getElem hi
   have hsec := hC.secs (List.getElem_mem hi)
   have := hb i
   rw [if_pos (by omega), guardM_true (by rw [List.length_append, basesL_len]; simp; omega)]
   unfold compile_numbering_last
   dsimp only
   rw [getM_at hr, guardM_true (by unfold I64; omega), bindM_some, guardM_true (by unfold I64; omega), guardM_true (by unfold I64; omega), guardM_true (by unfold I64; omega), guardM_true (i64_nat hi (by omega)), baseN_succ hr, basesL_succ]
   unfold widN
   rw [show ((baseN t i : Int) + ((4 : Int) + ((t.routes[i].sections.length : Int) - 1) + 2)) = ((baseN t i + (5 + t.routes[i].sections.length) : Nat) : Int) by omega]
 ·rw [if_neg hz, if_neg hz]

theorem places_eq {t : Table} (h : COk t) : ref24_PlacesOf t = some ⟨2 * t.sections, 2 * t.sections + 2 * (t.points.length : Int), (inN t : Int), (extraN t : Int), (allN t : Int), basesL t t.routes.length⟩ := by
 unfold ref24_PlacesOf
 have hlm := h.lim
 have hin : ((((2 : Int) * t.sections) + ((2 : Int) * (t.points.length : Int))) + ((4 : Int) * (t.routes.length : Int))) = (inN t : Int) := by unfold inN; omega
 rw [guardM_true (by unfold I64; omega), guardM_true (by unfold I64; omega), guardM_true (by unfold I64; omega), guardM_true (by unfold I64; omega), guardM_true (by unfold I64; omega), guardM_true (by unfold I64; omega), hin]
 have hb := h.base
 rw [loop_to (fun i => ((baseN t i : Int), ((i : Int), basesL t i))) (o := ((extraN t : Int), basesL t t.routes.length)) t.routes.length (by rw [baseN_zero]; simp [basesL]) (by omega) (fun i hi => ?_) (by dsimp only; rw [if_neg (by omega)]; rfl), bindM_some]
 ·dsimp only
  have := hb t.routes.length
  have he : extraN t = baseN t t.routes.length := rfl
  rw [guardM_true (by unfold I64; omega), guardM_true (by unfold I64; omega)]
  have ha : (extraN t : Int) + (5 : Int) * (t.routes.length : Int) = (allN t : Int) := by unfold allN; omega
  rw [ha]
 ·dsimp only
  have hr := List.getElem?_eq_getElem hi
  have hsec := h.secs (List.getElem_mem hi)
  have := hb i
  have hm : max (0 : Int) ((t.routes[i].sections.length : Int) - 1) = (t.routes[i].sections.length : Int) - 1 := by omega
  rw [if_pos (by omega), guardM_true (by rw [List.length_append, basesL_len]; simp; omega), guardM_true (by unfold I64; omega), getM_at hr, guardM_true (by unfold I64; omega), hm, guardM_true (by unfold I64; omega), guardM_true (i64_nat hi (by omega)), baseN_succ hr, basesL_succ]
  unfold widN
  rw [show ((baseN t i : Int) + 6 + ((t.routes[i].sections.length : Int) - 1)) = ((baseN t i + (5 + t.routes[i].sections.length) : Nat) : Int) by omega]
  rfl

def fitsN (t : Table) (m : Machine) : Bool := decide (allN t ≤ 2000 ∧ m.vars.length = allN t ∧ m.counts.length = allN t - inN t)
theorem inN_le (t : Table) : inN t + t.points.length ≤ extraN t ∧ extraN t ≤ allN t := by
 unfold allN extraN baseN
 omega
theorem nfits_eq {t : Table} (h : COk t) (ha : allN t ≤ 2000) (m : Machine) : compile_numbering_fits (numT t) m = some (fitsN t m) := by
 unfold compile_numbering_fits fitsN
 have := inN_le t
 dsimp only
 by_cases e : m.vars.length = allN t
 ·rw [if_pos (by omega), guardM_true (by unfold I64; omega), bindM_some]
  congr 1
  rw [Bool.eq_iff_iff]
  simp only [decide_eq_true_eq]
  omega
 ·rw [if_neg (by omega), bindM_some, decide_eq_false (by omega)]
theorem rfits_eq {t : Table} (h : TOk t) (hs : smallT t = true) (m : Machine) : ref24_fits t m = some (decide (checkI t = 0) && fitsN t m) := by
 unfold ref24_fits fitsN
 rw [check16_eq t h, bindM_some]
 by_cases hz : checkI t = 0
 ·obtain ⟨hT, h1, h2, h3⟩ := smallT_ok hs
  have hC : COk t := ⟨h, h1, h2, h3, hz⟩
  have := inN_le t
  rw [if_pos hz, places_eq hC, bindM_some, decide_eq_true hz, Bool.true_and]
  dsimp only
  by_cases ha : allN t ≤ 2000
  ·rw [if_pos (by omega)]
   by_cases e : m.vars.length = allN t
   ·rw [if_pos (by omega), guardM_true (by unfold I64; omega), bindM_some]
    congr 1
    rw [Bool.eq_iff_iff]
    simp only [decide_eq_true_eq]
    omega
   ·rw [if_neg (by omega), bindM_some, decide_eq_false (by omega)]
  ·rw [if_neg (by omega), bindM_some, decide_eq_false (by omega)]
 ·rw [if_neg hz, decide_eq_false hz, Bool.false_and]

end Go.Proofs.YtcagmechagiclaaGreatDoor

set_option linter.unusedVariables false
set_option linter.unusedSimpArgs false
set_option maxHeartbeats 400000
set_option maxRecDepth 100000
namespace Go.Proofs.YtcagmechagiclaaGreatDoor
open Go Go.TL

/-- The value of a variable. -/
def vb (m : Machine) (j : Nat) : Bool := m.vars.getD j false
def cn (m : Machine) (j : Nat) : Int := m.counts.getD j 0
theorem getM_vb {m : Machine} {j : Nat} {i : Int} {β : Type} {k : Bool → Option β} (hi : i = (j : Int)) (h : j < m.vars.length) : getM m.vars i k = k (vb m j) := by
 rw [hi, getM_at (List.getElem?_eq_getElem h)]
 simp [vb, List.getD_eq_getElem?_getD, List.getElem?_eq_getElem h]
theorem getM_cn {m : Machine} {j : Nat} {i : Int} {β : Type} {k : Int → Option β} (hi : i = (j : Int)) (h : j < m.counts.length) : getM m.counts i k = k (cn m j) := by
 rw [hi, getM_at (List.getElem?_eq_getElem h)]
 simp [cn, List.getD_eq_getElem?_getD, List.getElem?_eq_getElem h]

def stI (m : Machine) (b : Nat) : Int := if vb m b = true then 1 else if vb m (b + 1) = true then 2 else if vb m (b + 2) = true then 3 else if vb m (b + 3) = true then 4 else 0
/-- How many of the first n hold, until one does not. -/
def leadN (P : Nat → Bool) (n : Nat) : Nat := (List.range n).findIdx fun c => !P c
theorem leadN_le (P : Nat → Bool) (n : Nat) : leadN P n ≤ n := by
 unfold leadN
 have := List.findIdx_le_length (xs := List.range n) (p := fun c => !P c)
 rwa [List.length_range] at this
theorem leadN_lt {P : Nat → Bool} {n i : Nat} (h : i < leadN P n) : P i = true := by
 unfold leadN at h
 have := List.not_of_lt_findIdx h
 simpa using this
theorem leadN_end {P : Nat → Bool} {n : Nat} (h : leadN P n < n) : P (leadN P n) = false := by
 have h1 : (List.range n).findIdx (fun c => !P c) < (List.range n).length := by rw [List.length_range]; exact h
 have := List.findIdx_getElem (w := h1)
 simpa [leadN] using this
def lastN (t : Table) (i : Nat) : Nat := match t.routes[i]? with | some r => r.sections.length - 1 | none => 0
def rsI (t : Table) (m : Machine) (i : Nat) : RouteState :=
 if stI m (baseN t i) = 4 then ⟨4, (leadN (fun c => vb m (baseN t i + 4 + c)) (lastN t i) : Int), cn m (2 * i)⟩
 else if stI m (baseN t i) = 3 then ⟨3, (leadN (fun c => vb m (baseN t i + 4 + c)) (lastN t i) : Int), cn m (2 * i + 1)⟩
 else ⟨stI m (baseN t i), 0, 0⟩
theorem stI_cases (m : Machine) (b : Nat) : stI m b = 0 ∨ stI m b = 1 ∨ stI m b = 2 ∨ stI m b = 3 ∨ stI m b = 4 := by
 unfold stI
 split
 ·simp
 split
 ·simp
 split
 ·simp
 split <;> simp

/-- Rounds of which the count is the only state. -/
theorem loop_lead {ρ : Type} {f : Int → Option (Int ⊕ ρ)} (P : Nat → Bool) (n : Nat) (o : Nat → ρ) (hn : n ≤ 9223372036854775806) (hf : ∀ i, i < n → f (i : Int) = if P i = true then some (.inl ((i : Int) + 1)) else some (.inr (o i))) (he : f (n : Int) = some (.inr (o n))) : loopM f 0 = some (o (leadN P n)) := by
 have hl := leadN_le P n
 refine loop_to (fun i => (i : Int)) (leadN P n) rfl (by omega) (fun i hi => ?_) ?_
 ·rw [hf i (by omega), leadN_lt hi, if_pos rfl]; rfl
 ·rcases Nat.lt_or_ge (leadN P n) n with h | h
  ·rw [hf _ h, leadN_end h, if_neg (by simp)]
  ·have : leadN P n = n := by omega
   rw [this]; exact he

theorem routeState_eq {t : Table} (hC : COk t) {m : Machine} (hm : fitsN t m = true) {i : Nat} (hi : i < t.routes.length) : compile_numbering_routeState (numT t) m (i : Int) = some (rsI t m i) := by
 have hF := of_decide_eq_true hm
 have hr := List.getElem?_eq_getElem hi
 have hsec := hC.secs (List.getElem_mem hi)
 have hb := baseN_in hr
 have hw : widN t.routes[i] = 5 + t.routes[i].sections.length := rfl
 have hln : lastN t i = t.routes[i].sections.length - 1 := by unfold lastN; rw [hr]
 have hin := inN_le t
 have hlm := hC.lim
 have hx : extraN t - inN t ≥ t.points.length := by omega
 have h5 : allN t = extraN t + 5 * t.routes.length := rfl
 unfold compile_numbering_routeState
 have hp (x : Int) {β : Type} (k : Int → Option β) (h0 : 0 ≤ x) (hxx : x ≤ 1000000) : bindM (compile_numbering_part (numT t) (i : Int) x) k = k ((baseN t i : Int) + x) := by
  unfold compile_numbering_part
  dsimp only
  rw [getM_at (basesL_at hi), guardM_true (by unfold I64; omega), bindM_some]
 rw [loop_cnt 4 (fun j => if vb m (baseN t i + j) = true then some ((j : Int) + 1) else none) 0 (by omega) (fun j hj => ?_) (by rw [if_neg (by omega)]; rfl)]
 ·have hst : ((List.range 4).findSome? (fun j => if vb m (baseN t i + j) = true then some ((j : Int) + 1) else none)).getD 0 = stI m (baseN t i) := by
   rw [show List.range 4 = [0, 1, 2, 3] from rfl]
   unfold stI
   simp only [List.findSome?_cons, List.findSome?_nil, Nat.add_zero]
   cases vb m (baseN t i) <;> cases vb m (baseN t i + 1) <;> cases vb m (baseN t i + 2) <;> cases vb m (baseN t i + 3) <;> rfl
  rw [hst, bindM_some]
  have hloop : loopM (fun c20 =>
    bindM (
     bindM (compile_numbering_last (numT t) (i : Int)) fun r24 =>
     if c20 < r24 then
      guardM (I64 ((4 : Int) + c20)) <|
      bindM (compile_numbering_part (numT t) (i : Int) ((4 : Int) + c20)) fun r27 =>
      getM m.vars r27 fun e28 =>
      some e28
     else
      some false) fun x22 =>
    if x22 = true then
     guardM (I64 (c20 + (1 : Int))) <|
     some (.inl (c20 + (1 : Int)))
    else
     inrM (
      some c20)) (0 : Int) = some (leadN (fun c => vb m (baseN t i + 4 + c)) (lastN t i) : Int) := by
   have hlast {β : Type} (k : Int → Option β) : bindM (compile_numbering_last (numT t) (i : Int)) k = k (lastN t i : Int) := by
    unfold compile_numbering_last
    dsimp only
    rw [getM_at hr, guardM_true (by unfold I64; omega), bindM_some, hln, show ((t.routes[i].sections.length : Int) - 1) = ((t.routes[i].sections.length - 1 : Nat) : Int) by omega]
   refine loop_lead _ (lastN t i) (fun c => (c : Int)) (by omega) (fun c hc => ?_) (by rw [hlast, if_neg (by omega)]; rfl)
   rw [hlast, if_pos (by omega), guardM_true (by unfold I64; omega), hp _ _ (by omega) (by omega), getM_vb (j := baseN t i + 4 + c) (by omega) (by omega), bindM_some]
   cases vb m (baseN t i + 4 + c)
   ·rw [if_neg (by simp), if_neg (by simp)]; rfl
   ·rw [if_pos rfl, if_pos rfl, guardM_true (by unfold I64; omega)]
  unfold rsI
  have hst2 := stI_cases m (baseN t i)
  generalize stI m (baseN t i) = st at hst2
  by_cases e4 : st = 4
  ·subst e4
   rw [if_neg (by simp), hloop, bindM_some, if_pos rfl, if_pos rfl, guardM_true (by unfold I64; omega), getM_cn (j := 2 * i) (by omega) (by omega)]
  ·by_cases e3 : st = 3
   ·subst e3
    rw [if_neg (by simp), hloop, bindM_some, if_neg (by simp), if_neg (by simp), if_pos rfl, guardM_true (by unfold I64; omega), guardM_true (by unfold I64; omega), getM_cn (j := 2 * i + 1) (by omega) (by omega)]
   ·rw [if_pos (by simp [e3, e4]), if_neg e4, if_neg e3]
 ·rw [if_pos (by omega)]
  have he : ([(1 : Int), (2 : Int), (3 : Int), (4 : Int)] : List Int)[j]? = some ((j : Int) + 1) := by
   rcases (by omega : j = 0 ∨ j = 1 ∨ j = 2 ∨ j = 3) with h | h | h | h <;> subst h <;> rfl
  rw [getM_at he, guardM_true (by unfold I64; omega), hp _ _ (by omega) (by omega), getM_vb (j := baseN t i + j) (by omega) (by omega)]
  cases vb m (baseN t i + j)
  ·rw [if_neg (by simp), if_neg (by simp), guardM_true (by unfold I64; omega)]
  ·rw [if_pos rfl, if_pos rfl]; rfl

def lieI (t : Table) (m : Machine) (k : Nat) : Int := if vb m (inN t + k) = true then 2 else 1
def stateI (t : Table) (m : Machine) : Inter := ⟨(List.range t.routes.length).map (rsI t m), (List.range t.points.length).map (lieI t m)⟩
theorem map_succ {β : Type} (f : Nat → β) (i : Nat) : (List.range (i + 1)).map f = (List.range i).map f ++ [f i] := by rw [List.range_succ]; simp

theorem State_eq {t : Table} (h : TOk t) (hs : smallT t = true) (m : Machine) : compile_State t m = some (if checkI t = 0 ∧ fitsN t m = true then stateI t m else ⟨[], []⟩) := by
 unfold compile_State
 rw [number_eq h hs, bindM_some]
 by_cases hz : checkI t = 0
 ·obtain ⟨hT, h1, h2, h3⟩ := smallT_ok hs
  have hC : COk t := ⟨h, h1, h2, h3, hz⟩
  rw [if_pos hz]
  by_cases ha : 2000 < allN t
  ·rw [if_pos ha, if_neg (by intro hc; have := of_decide_eq_true hc.2; omega)]
   dsimp only
   rw [if_neg (by omega), bindM_some, if_pos rfl]
  ·rw [if_neg ha]
   dsimp only
   rw [if_pos rfl, nfits_eq hC (by omega), bindM_some, bindM_some]
   cases hf : fitsN t m with
   | false => rw [if_pos (by simp), if_neg (by simp)]
   | true =>
    have hF := of_decide_eq_true hf
    have hin := inN_le t
    have hlm := hC.lim
    rw [if_neg (by simp), if_pos ⟨hz, rfl⟩]
    rw [loop_acc t.routes.length (fun i => (List.range i).map (rsI t m)) (o := (List.range t.routes.length).map (rsI t m)) (by rfl) (by omega) (fun i hi => ?_) (by dsimp only; rw [if_neg (by omega)]; rfl), bindM_some]
    ·rw [loop_acc t.points.length (fun i => (List.range i).map (lieI t m)) (o := (List.range t.points.length).map (lieI t m)) (by rfl) (by omega) (fun i hi => ?_) (by dsimp only; rw [if_neg (by omega)]; rfl), bindM_some]
     ·rfl
     ·dsimp only
      rw [if_pos (by omega)]
      unfold compile_numbering_lie
      dsimp only
      rw [guardM_true (by unfold I64; omega), bindM_some, getM_vb (j := inN t + i) (by omega) (by omega), ite_some, bindM_some, guardM_true (by simp; omega), guardM_true (i64_nat hi (by omega)), map_succ]
      rfl
    ·dsimp only
     rw [if_pos (by omega), routeState_eq hC hf hi, bindM_some, guardM_true (by simp; omega), guardM_true (i64_nat hi (by omega)), map_succ]
 ·rw [if_neg hz, if_neg (by intro hc; exact hz hc.1)]
  dsimp only
  rw [if_neg hz, bindM_some, if_pos rfl]

end Go.Proofs.YtcagmechagiclaaGreatDoor

set_option linter.unusedVariables false
set_option linter.unusedSimpArgs false
set_option maxHeartbeats 400000
set_option maxRecDepth 100000
namespace Go.Proofs.YtcagmechagiclaaGreatDoor
open Go Go.TL

theorem loop_4 {σ ρ : Type} {f : σ → Option (σ ⊕ ρ)} (s0 s1 s2 s3 s4 : σ) (o : ρ) (h0 : f s0 = some (.inl s1)) (h1 : f s1 = some (.inl s2)) (h2 : f s2 = some (.inl s3)) (h3 : f s3 = some (.inl s4)) (h4 : f s4 = some (.inr o)) : loopM f s0 = some o := by
 refine loop_to (fun k => [s0, s1, s2, s3, s4].getD k s4) 4 rfl (by omega) (fun k hk => ?_) h4
 rcases (by omega : k = 0 ∨ k = 1 ∨ k = 2 ∨ k = 3) with hk | hk | hk | hk <;> subst hk
 ·exact h0
 ·exact h1
 ·exact h2
 ·exact h3

/-! ### The reference's state -/

theorem RState_eq {t : Table} (h : TOk t) (hs : smallT t = true) (m : Machine) : ref24_State t m = some (if checkI t = 0 ∧ fitsN t m = true then stateI t m else ⟨[], []⟩) := by
 unfold ref24_State
 rw [rfits_eq h hs, bindM_some]
 by_cases hz : checkI t = 0
 ·obtain ⟨hT, h1, h2, h3⟩ := smallT_ok hs
  have hC : COk t := ⟨h, h1, h2, h3, hz⟩
  rw [decide_eq_true hz, Bool.true_and]
  cases hf : fitsN t m with
  | false => rw [if_pos (by simp), if_neg (by simp)]
  | true =>
   have hF := of_decide_eq_true hf
   have hin := inN_le t
   have hlm := hC.lim
   have h5 : allN t = extraN t + 5 * t.routes.length := rfl
   rw [if_neg (by simp), if_pos ⟨hz, rfl⟩, places_eq hC, bindM_some]
   dsimp only
   rw [loop_acc t.points.length (fun i => (List.range i).map (lieI t m)) (o := (List.range t.points.length).map (lieI t m)) (by rfl) (by omega) (fun i hi => ?_) (by dsimp only; rw [if_neg (by omega)]; rfl), bindM_some]
   ·rw [loop_acc t.routes.length (fun i => (List.range i).map (rsI t m)) (o := (List.range t.routes.length).map (rsI t m)) (by rfl) (by omega) (fun i hi => ?_) (by dsimp only; rw [if_neg (by omega)]; rfl), bindM_some]
    ·rfl
    ·have hr := List.getElem?_eq_getElem hi
     have hsec := hC.secs (List.getElem_mem hi)
     have hb := baseN_in hr
     have hw : widN t.routes[i] = 5 + t.routes[i].sections.length := rfl
     have hln : lastN t i = t.routes[i].sections.length - 1 := by unfold lastN; rw [hr]
     dsimp only
     rw [if_pos (by omega), getM_at (basesL_at hi)]
     have hst : loopM (fun ((n38 : Int), (c39 : Int)) =>
        if (0 : Int) ≤ n38 then
         guardM (I64 ((baseN t i : Int) + n38)) <|
         getM m.vars ((baseN t i : Int) + n38) fun e43 =>
         if e43 = true then
          guardM (I64 (n38 + (1 : Int))) <|
          guardM (I64 (n38 - (1 : Int))) <|
          some (.inl ((n38 - (1 : Int)), (n38 + (1 : Int))))
         else
          guardM (I64 (n38 - (1 : Int))) <|
          some (.inl ((n38 - (1 : Int)), c39))
        else
         inrM (
          some c39)) ((3 : Int), (0 : Int)) = some (stI m (baseN t i)) := by
      refine loop_4 _ ((2 : Int), if vb m (baseN t i + 3) = true then 4 else 0) ((1 : Int), if vb m (baseN t i + 2) = true then 3 else if vb m (baseN t i + 3) = true then 4 else 0) ((0 : Int), if vb m (baseN t i + 1) = true then 2 else if vb m (baseN t i + 2) = true then 3 else if vb m (baseN t i + 3) = true then 4 else 0) ((-1 : Int), stI m (baseN t i)) _ ?_ ?_ ?_ ?_ (by dsimp only; rw [if_neg (by omega)]; rfl) <;> dsimp only
      ·rw [if_pos (by omega), guardM_true (by unfold I64; omega), getM_vb (j := baseN t i + 3) (by omega) (by omega)]
       by_cases hv : vb m (baseN t i + 3) = true
       ·rw [if_pos hv, guardM_true (by unfold I64; omega), guardM_true (by unfold I64; omega), if_pos hv]; rfl
       ·rw [if_neg hv, guardM_true (by unfold I64; omega), if_neg hv]; rfl
      ·rw [if_pos (by omega), guardM_true (by unfold I64; omega), getM_vb (j := baseN t i + 2) (by omega) (by omega)]
       by_cases hv : vb m (baseN t i + 2) = true
       ·rw [if_pos hv, guardM_true (by unfold I64; omega), guardM_true (by unfold I64; omega), if_pos hv]; rfl
       ·rw [if_neg hv, guardM_true (by unfold I64; omega), if_neg hv]; rfl
      ·rw [if_pos (by omega), guardM_true (by unfold I64; omega), getM_vb (j := baseN t i + 1) (by omega) (by omega)]
       by_cases hv : vb m (baseN t i + 1) = true
       ·rw [if_pos hv, guardM_true (by unfold I64; omega), guardM_true (by unfold I64; omega), if_pos hv]; rfl
       ·rw [if_neg hv, guardM_true (by unfold I64; omega), if_neg hv]; rfl
      ·rw [if_pos (by omega), guardM_true (by unfold I64; omega), getM_vb (j := baseN t i) (by omega) (by omega)]
       unfold stI
       by_cases hv : vb m (baseN t i) = true
       ·rw [if_pos hv, guardM_true (by unfold I64; omega), guardM_true (by unfold I64; omega), if_pos hv]; rfl
       ·rw [if_neg hv, guardM_true (by unfold I64; omega), if_neg hv]; rfl
     rw [hst, bindM_some, map_succ]
     have hBl : ((List.range i).map (rsI t m)).length = i := by simp
     have hrs : rsI t m i = if stI m (baseN t i) = 4 then ⟨4, (leadN (fun c => vb m (baseN t i + 4 + c)) (lastN t i) : Int), cn m (2 * i)⟩ else if stI m (baseN t i) = 3 then ⟨3, (leadN (fun c => vb m (baseN t i + 4 + c)) (lastN t i) : Int), cn m (2 * i + 1)⟩ else ⟨stI m (baseN t i), 0, 0⟩ := rfl
     rw [hrs]
     generalize (List.range i).map (rsI t m) = B at hBl
     have hst2 := stI_cases m (baseN t i)
     generalize stI m (baseN t i) = st at hst2
     by_cases hlo : (3 : Int) ≤ st
     ·rw [loop_lead (fun c => vb m (baseN t i + 4 + c)) (lastN t i) (fun c => (c : Int)) (by omega) (fun c hc => ?_) (by rw [if_pos hlo, getM_at hr, guardM_true (by unfold I64; omega), if_neg (by omega), bindM_some]; rfl), bindM_some]
      ·by_cases e4 : st = 4
       ·subst e4
        rw [if_pos rfl, guardM_true (by unfold I64; omega), getM_cn (j := 2 * i) (by omega) (by omega), bindM_some, if_neg (by simp), bindM_some, guardM_true (by simp; omega), bindM_some, guardM_true (i64_nat hi (by omega)), if_pos rfl]
       ·have e3 : st = 3 := by omega
        subst e3
        rw [if_neg (by simp), bindM_some, if_pos rfl, guardM_true (by unfold I64; omega), guardM_true (by unfold I64; omega), getM_cn (j := 2 * i + 1) (by omega) (by omega), bindM_some, guardM_true (by simp; omega), bindM_some, guardM_true (i64_nat hi (by omega)), if_neg (by simp), if_pos rfl]
      ·rw [if_pos hlo, getM_at hr, guardM_true (by unfold I64; omega), if_pos (by omega), guardM_true (by unfold I64; omega), guardM_true (by unfold I64; omega), getM_vb (j := baseN t i + 4 + c) (by omega) (by omega), bindM_some]
       cases vb m (baseN t i + 4 + c)
       ·rw [if_neg (by simp), if_neg (by simp)]; rfl
       ·rw [if_pos rfl, if_pos rfl, guardM_true (by unfold I64; omega)]
     ·rw [loop_to (fun _ => (0 : Int)) 0 (o := (0 : Int)) rfl (by omega) (fun i hi => by omega) (by rw [if_neg hlo, bindM_some, if_neg (by simp)]; rfl), bindM_some, if_neg (by omega), bindM_some, if_neg (by omega), bindM_some, guardM_true (by simp; omega), bindM_some, guardM_true (i64_nat hi (by omega)), if_neg (by omega), if_neg (by omega)]
   ·dsimp only
    rw [if_pos (by omega), guardM_true (by unfold I64; omega), getM_vb (j := inN t + i) (by omega) (by omega), ite_some, bindM_some, guardM_true (by simp; omega), guardM_true (i64_nat hi (by omega)), map_succ]
    rfl
 ·rw [decide_eq_false hz, Bool.false_and, if_pos (by simp), if_neg (by intro hc; exact hz hc.1)]

/-! ### The cleared signals -/

def clearL (t : Table) (m : Machine) (i : Nat) : List Bool := (List.range t.signals.toNat).map fun s : Nat => (List.range i).any fun x => vb m (baseN t x + 1) && decide (((t.routes[x]?).map (·.entry)) = some (s : Int))
theorem clearL_len (t : Table) (m : Machine) (i : Nat) : (clearL t m i).length = t.signals.toNat := by unfold clearL; simp
theorem clearL_zero (t : Table) (m : Machine) : clearL t m 0 = List.replicate t.signals.toNat false := by
 unfold clearL
 rw [List.eq_replicate_iff]
 simp
theorem clearL_succ {t : Table} {m : Machine} {i : Nat} {r : Route} (hr : t.routes[i]? = some r) (h0 : 0 ≤ r.entry) : clearL t m (i + 1) = if vb m (baseN t i + 1) = true then (clearL t m i).set r.entry.toNat true else clearL t m i := by
 apply List.ext_getElem?
 intro s
 have hex : (decide (((t.routes[i]?).map (·.entry)) = some (s : Int))) = decide (r.entry.toNat = s) := by
  rw [hr]
  simp only [Option.map_some, Option.some.injEq]
  rw [Bool.eq_iff_iff]
  simp only [decide_eq_true_eq]
  omega
 by_cases hs : s < t.signals.toNat
 ·have hl : (clearL t m i)[s]? = some ((List.range i).any fun x => vb m (baseN t x + 1) && decide (((t.routes[x]?).map (·.entry)) = some (s : Int))) := by unfold clearL; simp [hs]
  have hR : (clearL t m (i + 1))[s]? = some (((List.range i).any fun x => vb m (baseN t x + 1) && decide (((t.routes[x]?).map (·.entry)) = some (s : Int))) || (vb m (baseN t i + 1) && decide (r.entry.toNat = s))) := by
   unfold clearL
   simp only [List.getElem?_map, List.getElem?_range hs, Option.map_some, List.range_succ, List.any_append, List.any_cons, List.any_nil, Bool.or_false, hex]
  rw [hR]
  cases vb m (baseN t i + 1)
  ·rw [if_neg (by simp), hl]; simp
  ·rw [if_pos rfl, List.getElem?_set, hl]
   by_cases e : r.entry.toNat = s
   ·rw [if_pos e, if_pos (by rw [clearL_len]; omega)]; simp [e]
   ·rw [if_neg e]; simp [e]
 ·rw [List.getElem?_eq_none (by rw [clearL_len]; omega)]
  split
  ·rw [List.getElem?_eq_none (by rw [List.length_set, clearL_len]; omega)]
  ·rw [List.getElem?_eq_none (by rw [clearL_len]; omega)]
def clearO (t : Table) (m : Machine) : List Bool := if fitsN t m = true ∧ m.halted = false then clearL t m t.routes.length else List.replicate t.signals.toNat false

theorem cClear_eq {t : Table} (h : TOk t) (hs : smallT t = true) (m : Machine) : compile_Clear t m = some (if checkI t = 0 then clearO t m else []) := by
 unfold compile_Clear clearO
 rw [check_eq t h, bindM_some]
 by_cases hz : checkI t = 0
 ·obtain ⟨hT, h1, h2, h3⟩ := smallT_ok hs
  have hC : COk t := ⟨h, h1, h2, h3, hz⟩
  have hlm := hC.lim
  rw [if_pos hz, if_pos hz, guardM_true (by omega), number_eq h hs, bindM_some, if_pos hz]
  by_cases ha : 2000 < allN t
  ·rw [if_pos ha, if_neg (by intro hc; have := of_decide_eq_true hc.1; omega)]
   dsimp only
   rw [if_neg (by omega), bindM_some, if_pos rfl]
  ·rw [if_neg ha]
   dsimp only
   rw [if_pos rfl]
   cases hh : m.halted with
   | true => rw [if_pos rfl, bindM_some, if_pos rfl, if_neg (by simp)]
   | false =>
    rw [if_neg (by simp), nfits_eq hC (by omega), bindM_some, bindM_some]
    cases hf : fitsN t m with
    | false => rw [if_pos (by simp), if_neg (by simp)]
    | true =>
     have hF := of_decide_eq_true hf
     rw [if_neg (by simp), if_pos ⟨rfl, rfl⟩]
     rw [loop_acc t.routes.length (clearL t m) (o := clearL t m t.routes.length) (clearL_zero t m).symm (by omega) (fun i hi => ?_) (by dsimp only; rw [if_neg (by omega)]; rfl), bindM_some]
     dsimp only
     have hr := List.getElem?_eq_getElem hi
     have hen := hC.entry (List.getElem_mem hi)
     have hb := baseN_in hr
     have hw : widN t.routes[i] = 5 + t.routes[i].sections.length := rfl
     have hin := inN_le t
     unfold compile_numbering_part
     dsimp only
     rw [if_pos (by omega), getM_at hr, getM_at (basesL_at hi), guardM_true (by unfold I64; omega), bindM_some, getM_vb (j := baseN t i + 1) (by omega) (by omega), clearL_succ hr hen.1, guardM_true (i64_nat hi (by omega)), guardM_true (i64_nat hi (by omega))]
     cases vb m (baseN t i + 1)
     ·rw [if_neg (by simp), if_neg (by simp)]
     ·rw [if_pos rfl, if_pos rfl, getM_int hen.1 (List.getElem?_eq_getElem (by rw [clearL_len]; omega))]
 ·rw [if_neg hz, if_neg hz]

theorem RClear_eq {t : Table} (h : TOk t) (hs : smallT t = true) (m : Machine) : ref24_Clear t m = some (if checkI t = 0 then clearO t m else []) := by
 unfold ref24_Clear clearO
 rw [check16_eq t h, bindM_some]
 by_cases hz : checkI t = 0
 ·obtain ⟨hT, h1, h2, h3⟩ := smallT_ok hs
  have hC : COk t := ⟨h, h1, h2, h3, hz⟩
  have hlm := hC.lim
  rw [if_pos hz, if_pos hz, guardM_true (by omega), rfits_eq h hs, bindM_some, decide_eq_true hz, Bool.true_and]
  cases hf : fitsN t m with
  | false => rw [if_pos (by simp), bindM_some, if_pos rfl, if_neg (by simp)]
  | true =>
   rw [if_neg (by simp), bindM_some]
   cases hh : m.halted with
   | true => rw [if_pos rfl, if_neg (by simp)]
   | false =>
    have hF := of_decide_eq_true hf
    rw [if_neg (by simp), if_pos ⟨rfl, rfl⟩, places_eq hC, bindM_some]
    dsimp only
    rw [loop_acc t.routes.length (clearL t m) (o := clearL t m t.routes.length) (clearL_zero t m).symm (by omega) (fun i hi => ?_) (by dsimp only; rw [if_neg (by omega)]; rfl), bindM_some]
    dsimp only
    have hr := List.getElem?_eq_getElem hi
    have hen := hC.entry (List.getElem_mem hi)
    have hb := baseN_in hr
    have hw : widN t.routes[i] = 5 + t.routes[i].sections.length := rfl
    have hin := inN_le t
    rw [if_pos (by omega), getM_at (basesL_at hi), guardM_true (by unfold I64; omega), getM_vb (j := baseN t i + 1) (by omega) (by omega), clearL_succ hr hen.1, getM_at hr, guardM_true (i64_nat hi (by omega)), guardM_true (i64_nat hi (by omega))]
    cases vb m (baseN t i + 1)
    ·rw [if_neg (by simp), if_neg (by simp)]
    ·rw [if_pos rfl, if_pos rfl, getM_int hen.1 (List.getElem?_eq_getElem (by rw [clearL_len]; omega))]
 ·rw [if_neg hz, if_neg hz]

theorem rsI_ok {t : Table} {m : Machine} (hm : m.Wf) (hC : COk t) {i : Nat} (hi : i < t.routes.length) : RouteState.ok (rsI t m i) := by
 have hc : ∀ j, I64 (cn m j) := fun j => by
  unfold cn
  rw [List.getD_eq_getElem?_getD]
  cases e : m.counts[j]? with
  | none => simp [I64]
  | some x => exact hm.counts.2 x (List.mem_of_getElem? e)
 have hr := List.getElem?_eq_getElem hi
 have hsec := hC.secs (List.getElem_mem hi)
 have hln : lastN t i = t.routes[i].sections.length - 1 := by unfold lastN; rw [hr]
 have hl := leadN_le (fun c => vb m (baseN t i + 4 + c)) (lastN t i)
 have hst2 := stI_cases m (baseN t i)
 unfold rsI
 split
 ·exact ⟨by unfold I64; dsimp only; omega, by unfold I64; dsimp only; omega, hc _⟩
 split
 ·exact ⟨by unfold I64; dsimp only; omega, by unfold I64; dsimp only; omega, hc _⟩
 ·exact ⟨by unfold I64; dsimp only; omega, by unfold I64; dsimp only; omega, by unfold I64; dsimp only; omega⟩

theorem states_law {t : Table} {m : Machine} (ht : t.Wf) (hm : m.Wf) : law24_CompileStates t m = some true := by
 unfold law24_CompileStates
 rw [smallT_eq t ht, bindM_some]
 cases hs : smallT t with
 | false => simp only [Bool.not_false, if_true, alive24, bindM_some]
 | true =>
  obtain ⟨hT, h1, h2, h3⟩ := smallT_ok hs
  rw [if_neg (by simp), State_eq hT hs, bindM_some, RState_eq hT hs, bindM_some]
  rw [same_eq _ (by split <;> simp [stateI]; omega) (by split <;> simp [stateI]; omega) (fun x hx => by
   split at hx
   ·rename_i hh
    simp only [stateI, List.mem_map, List.mem_range] at hx
    obtain ⟨i, hi, rfl⟩ := hx
    exact rsI_ok hm ⟨hT, h1, h2, h3, hh.1⟩ hi
   ·cases hx), bindM_some, if_pos rfl, cClear_eq hT hs, bindM_some, RClear_eq hT hs, bindM_some, bools_eq _ (by
    unfold Cnt
    split
    ·rename_i hz
     have hC : COk t := ⟨hT, h1, h2, h3, hz⟩
     have hlm := hC.lim
     unfold clearO
     split
     ·rw [clearL_len]; omega
     ·rw [List.length_replicate]; omega
    ·simp), bindM_some, if_pos rfl, alive24]
  rfl

end Go.Proofs.YtcagmechagiclaaGreatDoor
