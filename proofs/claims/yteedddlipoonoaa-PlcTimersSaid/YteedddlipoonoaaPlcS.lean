/- A scan of a machine, in plain Lean. No condition. -/
import Derived.Test.YteedddlipoonoaaPlcH
set_option linter.unusedSimpArgs false
set_option linter.unusedVariables false
namespace Go.Proofs.Yteedddlipoonoaa
open Go Go.TL

/-- The first k variables are the inputs. -/
def inVars (ins vs : List Bool) (k : Nat) : List Bool := vs.mapIdx fun j b => if j < k then ins.getD j false else b
theorem inVars_zero (ins vs : List Bool) : inVars ins vs 0 = vs := by
  apply List.ext_getElem?; intro j; simp [inVars]
theorem inVars_length (ins vs : List Bool) (k : Nat) : (inVars ins vs k).length = vs.length := by simp [inVars]
theorem inVars_get (ins vs : List Bool) (k : Nat) {j : Nat} {b : Bool} (h : vs[j]? = some b) : (inVars ins vs k)[j]? = some (if j < k then ins.getD j false else b) := by simp [inVars, h]
theorem inVars_set (ins vs : List Bool) (k : Nat) : (inVars ins vs k).set k (ins.getD k false) = inVars ins vs (k + 1) := by
  apply List.ext_getElem?
  intro j
  rw [List.getElem?_set]
  by_cases e : k = j
  · subst e
    rw [if_pos rfl, inVars_length]
    by_cases hl : k < vs.length
    · obtain ⟨b, hb⟩ := get_lt hl
      rw [if_pos hl, inVars_get ins vs (k + 1) hb, if_pos (by omega)]
    · rw [if_neg hl, List.getElem?_eq_none (by rw [inVars_length]; omega)]
  · rw [if_neg e]
    cases hb : vs[j]? with
    | none => rw [List.getElem?_eq_none (by rw [inVars_length]; exact List.getElem?_eq_none_iff.1 hb), List.getElem?_eq_none (by rw [inVars_length]; exact List.getElem?_eq_none_iff.1 hb)]
    | some b =>
      rw [inVars_get ins vs k hb, inVars_get ins vs (k + 1) hb]
      by_cases h1 : j < k
      · rw [if_pos h1, if_pos (by omega)]
      · rw [if_neg h1, if_neg (by omega)]

/-- Variables and counts after the first i rungs. -/
def scanTo (rs : List Rung) (vs : List Bool) (cs : List Int) : Nat → List Bool × List Int
  | 0 => (vs, cs)
  | i + 1 => match rs[i]? with
    | some r =>
      let s := scanTo rs vs cs i
      let t := r.tick (s.2.getD i 0) (r.expr.eval s.1)
      (s.1.set r.var.toNat t.2, s.2.set i t.1)
    | none => scanTo rs vs cs i
theorem scanTo_zero (rs : List Rung) (vs : List Bool) (cs : List Int) : scanTo rs vs cs 0 = (vs, cs) := rfl
theorem scanTo_succ {rs : List Rung} {vs : List Bool} {cs : List Int} {i : Nat} {r : Rung} (h : rs[i]? = some r) : scanTo rs vs cs (i + 1) =
    ((scanTo rs vs cs i).1.set r.var.toNat (r.tick ((scanTo rs vs cs i).2.getD i 0) (r.expr.eval (scanTo rs vs cs i).1)).2, (scanTo rs vs cs i).2.set i (r.tick ((scanTo rs vs cs i).2.getD i 0) (r.expr.eval (scanTo rs vs cs i).1)).1) := by
  simp only [scanTo, h]
theorem scanTo_len (rs : List Rung) (vs : List Bool) (cs : List Int) : ∀ i, (scanTo rs vs cs i).1.length = vs.length ∧ (scanTo rs vs cs i).2.length = cs.length
  | 0 => ⟨rfl, rfl⟩
  | i + 1 => by
    have ih := scanTo_len rs vs cs i
    cases h : rs[i]? with
    | none => simp only [scanTo, h]; exact ih
    | some r => rw [scanTo_succ h]; simpa using ih
theorem scanTo_len1 (rs : List Rung) (vs : List Bool) (cs : List Int) (i : Nat) : (scanTo rs vs cs i).1.length = vs.length := (scanTo_len rs vs cs i).1
theorem scanTo_len2 (rs : List Rung) (vs : List Bool) (cs : List Int) (i : Nat) : (scanTo rs vs cs i).2.length = cs.length := (scanTo_len rs vs cs i).2
/-- A count that has not had its turn is as it was. -/
theorem scanTo_later (rs : List Rung) (vs : List Bool) (cs : List Int) : ∀ (i j : Nat), i ≤ j → (scanTo rs vs cs i).2[j]? = cs[j]?
  | 0, _, _ => rfl
  | i + 1, j, hj => by
    have ih := scanTo_later rs vs cs i j (by omega)
    cases h : rs[i]? with
    | none => simp only [scanTo, h]; exact ih
    | some r => rw [scanTo_succ h]; simp only; rw [List.getElem?_set_ne (by omega)]; exact ih
theorem scanTo_now {rs : List Rung} {vs : List Bool} {cs : List Int} {i : Nat} {c : Int} (h : cs[i]? = some c) : (scanTo rs vs cs i).2.getD i 0 = c := by
  rw [List.getD_eq_getElem?_getD, scanTo_later rs vs cs i i (Nat.le_refl _), h]; rfl

def Prg.scan (p : Prg) (m : Mch) (ins : List Bool) : Mch :=
  if m.halted = true ∨ p.fits m = false then p.halt
  else ⟨(scanTo p.rungs (inVars ins m.vars p.inputs.toNat) m.counts p.rungs.length).1, (scanTo p.rungs (inVars ins m.vars p.inputs.toNat) m.counts p.rungs.length).2, false⟩

/-- What is known of a program that has no error. -/
theorem Prg.check_ok {p : Prg} (h : p.check = 0) : p.names.length ≤ 2000 ∧ 0 ≤ p.inputs ∧ p.inputs ≤ p.names.length ∧ (∀ r ∈ p.rungs, p.right r = true) ∧ (p.rungs.map Rung.var).Nodup := by
  unfold Prg.check at h
  split at h
  · cases h
  · split at h
    · cases h
    · split at h
      · cases h
      · rename_i h1 h2 h3
        split at h
        · rename_i h4
          exact ⟨by omega, by omega, by omega, fun r hr => List.all_eq_true.1 (by simpa using h3) r hr, h4⟩
        · cases h

theorem Prg.fits_ok {p : Prg} {m : Mch} (h : p.fits m = true) : p.check = 0 ∧ m.vars.length = p.names.length ∧ m.counts.length = p.rungs.length ∧ ∀ (i : Nat) (c : Int) (r : Rung), m.counts[i]? = some c → p.rungs[i]? = some r → 0 ≤ c ∧ c ≤ r.preset := by
  unfold Prg.fits at h
  simp only [Bool.and_eq_true, decide_eq_true_eq, List.all_eq_true] at h
  obtain ⟨⟨⟨h1, h2⟩, h3⟩, h4⟩ := h
  exact ⟨h1, h2, h3, fun i c r hc hr => by simpa using h4 (c, r) (List.mem_of_getElem? (zip_get hc hr))⟩

/-- The reference's way to count. -/
theorem tick_min {r : Rung} {c : Int} {v : Bool} (hk : r.kind = 2) (hp : 1 ≤ r.preset) (hc : c ≤ r.preset) : r.tick c v = (if v = true then min (c + 1) r.preset else 0, decide ((if v = true then min (c + 1) r.preset else 0) = r.preset)) := by
  unfold Rung.tick
  rw [if_pos hk]
  cases v
  · simp; omega
  · simp only [if_true]
    by_cases h : c < r.preset
    · rw [if_pos h, Int.min_eq_left (by omega)]
    · rw [if_neg h]
      have e : c = r.preset := by omega
      subst e
      rw [Int.min_eq_right (by omega)]

end Go.Proofs.Yteedddlipoonoaa
