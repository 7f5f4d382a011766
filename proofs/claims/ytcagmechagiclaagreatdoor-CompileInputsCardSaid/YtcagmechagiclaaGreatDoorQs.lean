/- Texts of this proof, joined, without what it does not use. No condition. -/
import Derived.Test.YtcagmechagiclaaGreatDoorQr

set_option linter.unusedVariables false
set_option linter.unusedSimpArgs false
set_option maxHeartbeats 400000
set_option maxRecDepth 100000
namespace Go.Proofs.YtcagmechagiclaaGreatDoor
open Go Go.TL

theorem alive24 : law24_alive = some true := by decide +kernel

def sumR (r : Route) : Nat := r.path.length + r.sections.length + r.overSections.length + r.points.length + r.overPoints.length + r.flank.length
def smallT (t : Table) : Bool := t.routes.all (fun r => decide (sumR r ≤ 200)) && decide (t.routes.length ≤ 100 ∧ t.points.length ≤ 100)
theorem smallT_eq (t : Table) (ht : t.Wf) : law24_small t = some (smallT t) := by
 have h0 := len_ok ht.routes.1
 unfold law24_small smallT
 rw [loop_any t.routes (fun r => !decide (sumR r ≤ 200)) (.inr false) (.inl ()) (by omega) (fun i r hr => ?_) (by rw [if_neg (by omega)]; rfl), not_all_any']
 ·cases t.routes.all (fun r => decide (sumR r ≤ 200))
  ·rfl
  ·simp only [Bool.not_true, Bool.false_eq_true, if_false, bindS_inl, Option.some.injEq, Bool.true_and]
   rw [Bool.eq_iff_iff]
   simp only [Bool.and_eq_true, decide_eq_true_eq]
   omega
 ·have hi := (List.getElem?_eq_some_iff.1 hr).1
  have hw := ht.routes.2 r (List.mem_of_getElem? hr)
  have h1 := len_ok hw.path.1
  have h2 := len_ok hw.sections.1
  have h3 := len_ok hw.overSections.1
  have h4 := len_ok hw.points.1
  have h5 := len_ok hw.overPoints.1
  have h6 := len_ok hw.flank.1
  rw [if_pos (by omega), getM_at hr, guardM_true (by unfold I64; omega), guardM_true (by unfold I64; omega), guardM_true (by unfold I64; omega), guardM_true (by unfold I64; omega), guardM_true (by unfold I64; omega)]
  unfold sumR
  by_cases hb : r.path.length + r.sections.length + r.overSections.length + r.points.length + r.overPoints.length + r.flank.length ≤ 200
  ·rw [if_neg (by omega), guardM_true (i64_nat hi (by omega)), if_neg (by simpa using hb)]
  ·rw [if_pos (by omega), if_pos (by rw [decide_eq_false hb]; rfl)]; rfl
theorem smallT_ok {t : Table} (h : smallT t = true) : TOk t ∧ t.routes.length ≤ 100 ∧ t.points.length ≤ 100 ∧ ∀ r ∈ t.routes, sumR r ≤ 200 := by
 unfold smallT at h
 simp only [Bool.and_eq_true, decide_eq_true_eq, List.all_eq_true] at h
 obtain ⟨h1, h2⟩ := h
 refine ⟨⟨by omega, by omega, fun r hr => ?_⟩, h2.1, h2.2, h1⟩
 have := h1 r hr
 unfold sumR at this
 exact ⟨by omega, by omega, by omega, by omega⟩
theorem bools_eq (l : List Bool) (h : Cnt l) : law24_bools l l = some true := by
 unfold law24_bools
 unfold Cnt at h
 rw [if_pos rfl, loop_any l (fun _ => false) (.inr false) (.inl ()) (by omega) (fun i e he => ?_) (by rw [if_neg (by omega)]; rfl)]
 ·rw [List.any_eq_false.2 (fun _ _ => by simp), if_neg (by simp), bindS_inl]
 ·have hi := (List.getElem?_eq_some_iff.1 he).1
  rw [if_pos (by omega), getM_at he, getM_at he, if_neg (by simp), guardM_true (i64_nat hi (by omega)), if_neg (by simp)]

theorem flat_len {β : Type} {f : Nat → List β} {c : Nat} (h : ∀ i, (f i).length = c) (n : Nat) : ((List.range n).flatMap f).length = c * n := by
 induction n with
 | zero => simp
 | succ n ih => rw [List.range_succ, List.flatMap_append, List.length_append, ih]; simp [h, Nat.mul_add]
theorem loop_flat {β ρ : Type} (f : Nat → List β) (pre : List β) (n : Nat) {F : Int × List β → Option ((Int × List β) ⊕ ρ)} {o : ρ} (hn : n ≤ 9223372036854775807) (hF : ∀ i, i < n → F ((i : Int), pre ++ (List.range i).flatMap f) = some (.inl ((i : Int) + 1, (pre ++ (List.range i).flatMap f) ++ f i)))
  (he : F ((n : Int), pre ++ (List.range n).flatMap f) = some (.inr o)) : loopM F (0, pre) = some o := by
 refine loop_to (fun i => ((i : Int), pre ++ (List.range i).flatMap f)) n (by simp) hn (fun i hi => ?_) he
 rw [hF i hi, List.range_succ, List.flatMap_append, List.append_assoc]
 simp

def knB (l : List Bool) (i : Nat) (v : Bool) : Bool := decide (l[i]? = some v)
def knI (l : List Int) (i : Nat) (v : Int) : Bool := decide (l[i]? = some v)
theorem knownB_eq (l : List Bool) (i : Nat) (v : Bool) : compile_known_bool l (i : Int) v = some (knB l i v) := by
 unfold compile_known_bool knB
 by_cases h : i < l.length
 ·rw [if_pos (by omega), getM_at (List.getElem?_eq_getElem h), bindM_some, List.getElem?_eq_getElem h]
  simp [Bool.beq_eq_decide_eq]
 ·rw [if_neg (by omega), List.getElem?_eq_none (by omega)]; simp
theorem knownI_eq (l : List Int) (i : Nat) (v : Int) : compile_known_int l (i : Int) v = some (knI l i v) := by
 unfold compile_known_int knI
 by_cases h : i < l.length
 ·rw [if_pos (by omega), getM_at (List.getElem?_eq_getElem h), bindM_some, List.getElem?_eq_getElem h]
  simp
 ·rw [if_neg (by omega), List.getElem?_eq_none (by omega)]; simp
def inS (p : Inputs) (i : Nat) : List Bool := [knB p.occupied i false, knB p.closed i false]
def inP (p : Inputs) (i : Nat) : List Bool := [knI p.detected i 1, knI p.detected i 2]
def inR (p : Inputs) (i : Nat) : List Bool := [knB p.claimed i false, knB p.passed i true, decide ((i : Int) ∈ p.calls), decide ((i : Int) ∈ p.cancels)]
def inputsL (t : Table) (p : Inputs) : List Bool := (List.range t.sections.toNat).flatMap (inS p) ++ (List.range t.points.length).flatMap (inP p) ++ (List.range t.routes.length).flatMap (inR p)
theorem inputsL_len (t : Table) (p : Inputs) : (inputsL t p).length = 2 * t.sections.toNat + 2 * t.points.length + 4 * t.routes.length := by
 unfold inputsL
 rw [List.length_append, List.length_append, flat_len (c := 2) (fun _ => rfl), flat_len (c := 2) (fun _ => rfl), flat_len (c := 4) (fun _ => rfl)]

theorem Inputs_eq (t : Table) (p : Inputs) (h : TOk t) (hc : Cnt p.calls) (hd : Cnt p.cancels) : compile_Inputs t p = some (if checkI t = 0 then inputsL t p else []) := by
 unfold compile_Inputs
 rw [check_eq t h, bindM_some]
 by_cases hz : checkI t = 0
 ·rw [if_pos hz, if_pos hz]
  have hlm := of_decide_eq_true (check_all hz).1
  have hr := h.routes
  have hp := h.points
  have hs : t.sections = ((t.sections.toNat : Nat) : Int) := by omega
  rw [loop_flat (inS p) [] t.sections.toNat (by omega) (fun i hi => ?_) (by dsimp only; rw [if_neg (by omega)]; rfl), bindM_some]
  ·rw [loop_flat (inP p) _ t.points.length (by omega) (fun i hi => ?_) (by dsimp only; rw [if_neg (by omega)]; rfl), bindM_some]
   ·rw [loop_flat (inR p) _ t.routes.length (by omega) (fun i hi => ?_) (by dsimp only; rw [if_neg (by omega)]; rfl), bindM_some]
    ·rfl
    ·have h1 := flat_len (f := inS p) (c := 2) (fun _ => rfl) t.sections.toNat
     have h2 := flat_len (f := inP p) (c := 2) (fun _ => rfl) t.points.length
     have h3 := flat_len (f := inR p) (c := 4) (fun _ => rfl) i
     dsimp only
     rw [if_pos (by omega)]
     simp only [knownB_eq, bindM_some, contains_eq _ _ hc, contains_eq _ _ hd]
     rw [guardM_true (by simp only [List.length_append, h1, h2, h3, List.length_cons, List.length_nil]; omega), guardM_true (i64_nat hi (by omega))]
     rfl
   ·have h1 := flat_len (f := inS p) (c := 2) (fun _ => rfl) t.sections.toNat
    have h2 := flat_len (f := inP p) (c := 2) (fun _ => rfl) i
    dsimp only
    rw [if_pos (by omega)]
    simp only [knownI_eq, bindM_some]
    rw [guardM_true (by simp only [List.length_append, h1, h2, List.length_cons, List.length_nil]; omega), guardM_true (i64_nat hi (by omega))]
    rfl
  ·have h1 := flat_len (f := inS p) (c := 2) (fun _ => rfl) i
   dsimp only
   rw [if_pos (by omega)]
   simp only [knownB_eq, bindM_some]
   rw [guardM_true (by simp only [List.length_append, h1, List.length_cons, List.length_nil]; omega), guardM_true (i64_nat hi (by omega))]
   rfl
 ·rw [if_neg hz, if_neg hz]

theorem stepB (l : List Bool) (b : List Bool) (i : Nat) (hb : b.length + 1 ≤ 1000000000) {ρ : Type} (k : List Bool → Option ρ) : bindM (
      if (i : Int) < (l.length : Int) then
       getM l (i : Int) fun e16 =>
       guardM ((b ++ ([!(e16)] : List Bool)).length ≤ 1000000000) <|
       some (b ++ ([!(e16)] : List Bool))
      else
       guardM ((b ++ ([false] : List Bool)).length ≤ 1000000000) <|
       some (b ++ ([false] : List Bool))) k = k (b ++ [knB l i false]) := by
 unfold knB
 by_cases h : i < l.length
 ·rw [if_pos (by omega), getM_at (List.getElem?_eq_getElem h), guardM_true (by simp; omega), bindM_some, List.getElem?_eq_getElem h]
  cases l[i] <;> simp
 ·rw [if_neg (by omega), guardM_true (by simp; omega), bindM_some, List.getElem?_eq_none (by omega)]; simp
theorem stepT (l : List Bool) (b : List Bool) (i : Nat) (hb : b.length + 1 ≤ 1000000000) {ρ : Type} (k : List Bool → Option ρ) : bindM (
      if (i : Int) < (l.length : Int) then
       getM l (i : Int) fun e16 =>
       guardM ((b ++ ([e16] : List Bool)).length ≤ 1000000000) <|
       some (b ++ ([e16] : List Bool))
      else
       guardM ((b ++ ([false] : List Bool)).length ≤ 1000000000) <|
       some (b ++ ([false] : List Bool))) k = k (b ++ [knB l i true]) := by
 unfold knB
 by_cases h : i < l.length
 ·rw [if_pos (by omega), getM_at (List.getElem?_eq_getElem h), guardM_true (by simp; omega), bindM_some, List.getElem?_eq_getElem h]
  cases l[i] <;> simp
 ·rw [if_neg (by omega), guardM_true (by simp; omega), bindM_some, List.getElem?_eq_none (by omega)]; simp
theorem stepI (l : List Int) (v : Int) (b : List Bool) (i : Nat) (hb : b.length + 1 ≤ 1000000000) {ρ : Type} (k : List Bool → Option ρ) : bindM (
      if (i : Int) < (l.length : Int) then
       getM l (i : Int) fun e38 =>
       guardM ((b ++ ([decide (e38 = v)] : List Bool)).length ≤ 1000000000) <|
       some (b ++ ([decide (e38 = v)] : List Bool))
      else
       guardM ((b ++ ([false] : List Bool)).length ≤ 1000000000) <|
       some (b ++ ([false] : List Bool))) k = k (b ++ [knI l i v]) := by
 unfold knI
 by_cases h : i < l.length
 ·rw [if_pos (by omega), getM_at (List.getElem?_eq_getElem h), guardM_true (by simp; omega), bindM_some, List.getElem?_eq_getElem h]
  simp
 ·rw [if_neg (by omega), guardM_true (by simp; omega), bindM_some, List.getElem?_eq_none (by omega)]; simp

theorem RInputs_eq (t : Table) (p : Inputs) (h : TOk t) (hc : Cnt p.calls) (hd : Cnt p.cancels) : ref24_Inputs t p = some (if checkI t = 0 then inputsL t p else []) := by
 unfold ref24_Inputs
 rw [check16_eq t h, bindM_some]
 by_cases hz : checkI t = 0
 ·rw [if_pos hz, if_pos hz]
  have hlm := of_decide_eq_true (check_all hz).1
  have hr := h.routes
  have hp := h.points
  have hs : t.sections = ((t.sections.toNat : Nat) : Int) := by omega
  rw [loop_flat (inS p) [] t.sections.toNat (by omega) (fun i hi => ?_) (by dsimp only; rw [if_neg (by omega)]; rfl), bindM_some]
  ·rw [loop_flat (inP p) _ t.points.length (by omega) (fun i hi => ?_) (by dsimp only; rw [if_neg (by omega)]; rfl), bindM_some]
   ·rw [loop_flat (inR p) _ t.routes.length (by omega) (fun i hi => ?_) (by dsimp only; rw [if_neg (by omega)]; rfl), bindM_some]
    ·rfl
    ·have h1 := flat_len (f := inS p) (c := 2) (fun _ => rfl) t.sections.toNat
     have h2 := flat_len (f := inP p) (c := 2) (fun _ => rfl) t.points.length
     have h3 := flat_len (f := inR p) (c := 4) (fun _ => rfl) i
     dsimp only
     rw [if_pos (by omega)]
     generalize hB : ([] ++ List.flatMap (inS p) (List.range t.sections.toNat) ++ List.flatMap (inP p) (List.range t.points.length) ++ List.flatMap (inR p) (List.range i)) = B
     have hBl : B.length ≤ 1000 := by rw [← hB]; simp only [List.nil_append, List.length_append, h1, h2, h3]; omega
     rw [stepB _ _ _ (by omega), stepT _ _ _ (by simp; omega), has02_eq _ _ hc, bindM_some, guardM_true (by simp; omega), has02_eq _ _ hd, bindM_some, guardM_true (by simp; omega), guardM_true (i64_nat hi (by omega))]
     simp [inR, List.append_assoc]
   ·have h1 := flat_len (f := inS p) (c := 2) (fun _ => rfl) t.sections.toNat
    have h2 := flat_len (f := inP p) (c := 2) (fun _ => rfl) i
    dsimp only
    rw [if_pos (by omega)]
    generalize hB : ([] ++ List.flatMap (inS p) (List.range t.sections.toNat) ++ List.flatMap (inP p) (List.range i)) = B
    have hBl : B.length ≤ 1000 := by rw [← hB]; simp only [List.nil_append, List.length_append, h1, h2]; omega
    rw [stepI _ _ _ _ (by omega)]
    unfold inP knI
    by_cases hx : i < p.detected.length
    ·rw [if_pos (by omega), getM_at (List.getElem?_eq_getElem hx), guardM_true (by simp; omega), guardM_true (i64_nat hi (by omega)), List.getElem?_eq_getElem hx]
     simp
    ·rw [if_neg (by omega), guardM_true (by simp; omega), guardM_true (i64_nat hi (by omega)), List.getElem?_eq_none (by omega)]
     simp
  ·have h1 := flat_len (f := inS p) (c := 2) (fun _ => rfl) i
   dsimp only
   rw [if_pos (by omega)]
   generalize hB : ([] ++ List.flatMap (inS p) (List.range i)) = B
   have hBl : B.length ≤ 1000 := by rw [← hB]; simp only [List.nil_append, h1]; omega
   rw [stepB _ _ _ (by omega)]
   unfold inS
   generalize knB p.occupied i false = o
   unfold knB
   by_cases hx : i < p.closed.length
   ·rw [if_pos (by omega), getM_at (List.getElem?_eq_getElem hx), guardM_true (by simp; omega), guardM_true (i64_nat hi (by omega)), List.getElem?_eq_getElem hx]
    cases p.closed[i] <;> simp
   ·rw [if_neg (by omega), guardM_true (by simp; omega), guardM_true (i64_nat hi (by omega)), List.getElem?_eq_none (by omega)]
    simp
 ·rw [if_neg hz, if_neg hz]

theorem inputs_law {t : Table} {p : Inputs} (ht : t.Wf) (hp : p.Wf) : law24_CompileInputs t p = some true := by
 unfold law24_CompileInputs
 rw [smallT_eq t ht, bindM_some]
 cases hs : smallT t with
 | false => simp only [Bool.not_false, if_true, alive24, bindM_some]
 | true =>
  have hT := smallT_ok hs
  have h1 := len_ok hp.calls.1
  have h2 := len_ok hp.cancels.1
  simp only [Bool.not_true, Bool.false_eq_true, if_false]
  rw [Inputs_eq t p hT.1 (by unfold Cnt; omega) (by unfold Cnt; omega), bindM_some, RInputs_eq t p hT.1 (by unfold Cnt; omega) (by unfold Cnt; omega), bindM_some]
  rw [bools_eq _ (by
   unfold Cnt
   split
   ·rename_i hz
    have hlm := of_decide_eq_true (check_all hz).1
    rw [inputsL_len]
    omega
   ·simp), bindM_some, if_pos rfl, alive24]
  rfl

end Go.Proofs.YtcagmechagiclaaGreatDoor
