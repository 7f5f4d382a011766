/- Machines, scans and what stays of them, in plain Lean. No condition. -/
import Derived.Test.YteedddlipoonoaaPlcT
set_option linter.unusedSimpArgs false
set_option linter.unusedVariables false
namespace Go.Proofs.Yteedddlipoonoaa
open Go Go.TL

theorem few_ok {p : Prg} {m : Mch} {ins : List Bool} (h : few p m ins = true) : p.names.length ≤ 300 ∧ p.rungs.length ≤ 40 ∧ (∀ r ∈ p.rungs, r.expr.size ≤ 1000000) ∧ m.vars.length ≤ 400 ∧ m.counts.length ≤ 100 ∧ ins.length ≤ 400 := by
  unfold few Prg.few at h
  simp only [Bool.and_eq_true, decide_eq_true_eq, List.all_eq_true] at h
  obtain ⟨⟨⟨⟨⟨h1, h2⟩, h3⟩, h4⟩, h5⟩, h6⟩ := h
  exact ⟨by omega, h2, fun r hr => by have := h3 r hr; omega, h4, h5, h6⟩

theorem Prg.start_wf {p : Prg} (hp : p.Wf) : p.start.Wf := by
  unfold Prg.start
  split
  · exact ⟨by simpa using hp.names, by simpa using hp.rungs, fun n hn => by simp at hn; rw [hn.2]; exact by decide⟩
  · exact ⟨by simp, by simp, fun n hn => by simp at hn⟩
theorem Prg.halt_wf {p : Prg} (hp : p.Wf) : p.halt.Wf := ⟨(p.start_wf hp).vars, (p.start_wf hp).counts, (p.start_wf hp).count⟩
theorem Prg.halt_rest (p : Prg) : p.halt.rest = true := by
  unfold Prg.halt Prg.start Mch.rest
  split <;> simp
theorem Mch.same_self (m : Mch) : m.same m = true := by simp [Mch.same]

theorem tick_range {r : Rung} {c : Int} {v : Bool} (h0 : 0 ≤ c) (h1 : c ≤ r.preset) : 0 ≤ (r.tick c v).1 ∧ (r.tick c v).1 ≤ r.preset := by
  unfold Rung.tick
  split
  · split
    · split <;> simp only <;> omega
    · simp only; omega
  · exact ⟨h0, h1⟩

/-- The counts that have had their turn lie within bounds, too. -/
theorem scanTo_range {rs : List Rung} {vs : List Bool} {cs : List Int} (hl : cs.length = rs.length) (h : ∀ (i : Nat) (c : Int) (r : Rung), cs[i]? = some c → rs[i]? = some r → 0 ≤ c ∧ c ≤ r.preset) :
    ∀ (n i : Nat) (c : Int) (r : Rung), (scanTo rs vs cs n).2[i]? = some c → rs[i]? = some r → 0 ≤ c ∧ c ≤ r.preset
  | 0, i, c, r, hc, hr => h i c r hc hr
  | n + 1, i, c, r, hc, hr => by
    cases hn : rs[n]? with
    | none => simp only [scanTo, hn] at hc; exact scanTo_range hl h n i c r hc hr
    | some q =>
      rw [scanTo_succ hn] at hc
      simp only at hc
      rw [List.getElem?_set] at hc
      split at hc
      · rename_i e; subst e
        split at hc
        · rw [hn] at hr; cases hr
          cases hc
          obtain ⟨c0, hc0⟩ := get_lt (xs := cs) (i := n) (by rw [hl]; exact (List.getElem?_eq_some_iff.1 hn).1)
          rw [scanTo_now hc0]
          exact tick_range (h n c0 _ hc0 hn).1 (h n c0 _ hc0 hn).2
        · cases hc
      · exact scanTo_range hl h n i c r hc hr

theorem Prg.fits_of {p : Prg} {m : Mch} (h1 : p.check = 0) (h2 : m.vars.length = p.names.length) (h3 : m.counts.length = p.rungs.length) (h4 : ∀ (i : Nat) (c : Int) (r : Rung), m.counts[i]? = some c → p.rungs[i]? = some r → 0 ≤ c ∧ c ≤ r.preset) : p.fits m = true := by
  unfold Prg.fits
  simp only [Bool.and_eq_true, decide_eq_true_eq, List.all_eq_true]
  refine ⟨⟨⟨h1, h2⟩, h3⟩, fun x hx => ?_⟩
  obtain ⟨i, hi⟩ := List.getElem?_of_mem hx
  rw [List.getElem?_zip_eq_some] at hi
  exact h4 i x.1 x.2 hi.1 hi.2

theorem Prg.start_fits (p : Prg) (h : p.check = 0) : p.fits p.start = true ∧ p.start.halted = false := by
  have h0 := Prg.check_ok h
  unfold Prg.start
  rw [if_pos h]
  refine ⟨Prg.fits_of h (by simp) (by simp) fun i c r hc hr => ?_, rfl⟩
  simp only [List.getElem?_replicate] at hc
  split at hc
  · cases hc
    have := h0.2.2.2.1 r (List.mem_of_getElem? hr)
    unfold Prg.right at this
    simp at this
    omega
  · cases hc

theorem Prg.scan_bad {p : Prg} {m : Mch} (ins : List Bool) (h : m.halted = true ∨ p.fits m = false) : p.scan m ins = p.halt := by unfold Prg.scan; rw [if_pos h]
theorem Prg.scan_good {p : Prg} {m : Mch} (ins : List Bool) (hh : m.halted = false) (hf : p.fits m = true) : p.fits (p.scan m ins) = true ∧ (p.scan m ins).halted = false := by
  obtain ⟨h1, h2, h3, h4⟩ := Prg.fits_ok hf
  unfold Prg.scan
  rw [if_neg (by simp [hh, hf])]
  refine ⟨Prg.fits_of h1 ?_ ?_ ?_, rfl⟩
  · simp only [scanTo_len1, inVars_length]; exact h2
  · simp only [scanTo_len2]; exact h3
  · exact scanTo_range h3 h4 _

theorem Prg.scan_wf {p : Prg} {m : Mch} (hp : p.Wf) (ins : List Bool) : (p.scan m ins).Wf := by
  by_cases hb : m.halted = true ∨ p.fits m = false
  · rw [Prg.scan_bad ins hb]; exact p.halt_wf hp
  · have hh : m.halted = false := by cases h : m.halted <;> simp_all
    have hf : p.fits m = true := by cases h : p.fits m <;> simp_all
    have hg := (Prg.scan_good ins hh hf).1
    obtain ⟨h1, h2, h3, h4⟩ := Prg.fits_ok hg
    refine ⟨by rw [h2]; exact hp.names, by rw [h3]; exact hp.rungs, fun n hn => ?_⟩
    obtain ⟨i, hi⟩ := List.getElem?_of_mem hn
    obtain ⟨r, hr⟩ := get_lt (xs := p.rungs) (i := i) (by rw [← h3]; exact (List.getElem?_eq_some_iff.1 hi).1)
    have hb := h4 i n r hi hr
    have hw := (hp.rung r (List.mem_of_getElem? hr)).preset
    unfold I64 at hw ⊢
    omega

/-- The machine after the first i of the inputs. -/
def Prg.run (p : Prg) (m : Mch) (l : List (List Bool)) (i : Nat) : Mch := foldTo (fun m ins => p.scan m ins) m l i
theorem Prg.run_zero (p : Prg) (m : Mch) (l : List (List Bool)) : p.run m l 0 = m := rfl
theorem Prg.run_succ (p : Prg) (m : Mch) {l : List (List Bool)} {i : Nat} {ins : List Bool} (h : l[i]? = some ins) : p.run m l (i + 1) = p.scan (p.run m l i) ins := foldTo_succ _ _ h

def hal0 (p : Prg) (m : Mch) : Bool := m.halted || !p.fits m
theorem hal0_yes {p : Prg} {m : Mch} (h : hal0 p m = true) : m.halted = true ∨ p.fits m = false := by
  unfold hal0 at h
  cases h1 : m.halted <;> cases h2 : p.fits m <;> simp_all
theorem hal0_no {p : Prg} {m : Mch} (h : hal0 p m = false) : m.halted = false ∧ p.fits m = true := by
  unfold hal0 at h
  cases h1 : m.halted <;> cases h2 : p.fits m <;> simp_all

/-- An input's variable keeps what was put into it. -/
theorem scanTo_input {rs : List Rung} {vs : List Bool} {cs : List Int} {k : Nat} (h : ∀ r ∈ rs, (k : Int) < r.var) : ∀ n, (scanTo rs vs cs n).1[k]? = vs[k]?
  | 0 => rfl
  | n + 1 => by
    cases hn : rs[n]? with
    | none => simp only [scanTo, hn]; exact scanTo_input h n
    | some r =>
      rw [scanTo_succ hn]
      have := h r (List.mem_of_getElem? hn)
      simp only
      rw [List.getElem?_set_ne (by omega)]
      exact scanTo_input h n
theorem Prg.scan_input {p : Prg} {m : Mch} {ins : List Bool} {k : Nat} (hh : m.halted = false) (hf : p.fits m = true) (hk : (k : Int) < p.inputs) : (p.scan m ins).vars[k]? = some (ins.getD k false) := by
  obtain ⟨h1, h2, h3, h4⟩ := Prg.fits_ok hf
  obtain ⟨g1, g2, g3, g4, g5⟩ := Prg.check_ok h1
  unfold Prg.scan
  rw [if_neg (by simp [hh, hf])]
  simp only
  rw [scanTo_input fun r hr => ?_]
  · obtain ⟨b, hb⟩ := get_lt (xs := m.vars) (i := k) (by omega)
    rw [inVars_get _ _ _ hb, if_pos (by omega)]
  · have := g4 r hr
    unfold Prg.right at this
    simp at this
    omega

end Go.Proofs.Yteedddlipoonoaa
