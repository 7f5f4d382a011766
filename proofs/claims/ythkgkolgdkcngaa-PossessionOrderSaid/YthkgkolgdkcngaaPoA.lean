/- Possessions: what the models of package possession and its reference come to. The lists must not be longer than the model of Go allows, and those of a route be short. -/
import Derived.Test.YthkgkolgdkcngaaPlF
set_option linter.unusedVariables false
set_option linter.unusedSimpArgs false
set_option maxHeartbeats 400000
namespace Go.Proofs.Ythkgkolgdkcngaa
open Go Go.TL

abbrev Poss := List Possession
structure PossWf (l : Poss) : Prop where
  len : l.length ≤ 1000000
  el : ∀ p ∈ l, p.Wf
theorem Possession.Wf.okay {p : Possession} (h : p.Wf) : p.ok := ⟨h.sectionV, h.since, Nat.le_trans h.byV (by decide), Nat.le_trans h.withV (by decide)⟩

/-- The place of the first possession of a section. -/
def findI (l : Poss) (s : Int) : Option Nat := l.findIdx? fun p => p.sectionV == s
theorem find_eq (l : Poss) (s : Int) (h : Cnt l) : ref42_find l s = some (idxI (findI l s)) := by
  unfold ref42_find
  rw [loop_find l (fun p => p.sectionV == s) (fun i => .inr (i : Int)) (.inl ()) h]
  · unfold findI
    cases l.findIdx? (fun p => p.sectionV == s) <;> rfl
  · intro i e he
    have hi := (List.getElem?_eq_some_iff.1 he).1
    simp only [lt_cast hi, if_true, getM_at he]
    by_cases hx : e.sectionV = s
    · simp [hx]
    · simp [hx, i64_nat hi h]
  · simp

/-- The sections of the first i possessions, each with the place of its first one. -/
def firstsTo (l : Poss) : Nat → List (Int × Int)
  | 0 => []
  | i + 1 => match l[i]? with
    | some p => match assocE (firstsTo l i) p.sectionV with
      | some _ => firstsTo l i
      | none => firstsTo l i ++ [(p.sectionV, (i : Int))]
    | none => firstsTo l i
theorem assocE_append {β : Type} (fs gs : List (Int × β)) (s : Int) : assocE (fs ++ gs) s = (assocE fs s).or (assocE gs s) := by
  unfold assocE
  rw [List.find?_append]
  cases fs.find? (fun x => decide (x.1 = s)) <;> simp
theorem assoc_firsts (l : Poss) (s : Int) : ∀ i, i ≤ l.length → assocE (firstsTo l i) s = ((l.take i).findIdx? fun p => p.sectionV == s).map fun (j : Nat) => (j : Int)
  | 0, _ => by simp [firstsTo, assocE]
  | i + 1, hi => by
    obtain ⟨p, hp⟩ := get_lt (xs := l) (i := i) (by omega)
    have ih := assoc_firsts l s i (by omega)
    have hlen : (l.take i).length = i := by simp; omega
    simp only [firstsTo, hp]
    rw [List.take_add_one, hp, List.findIdx?_append]
    cases ha : assocE (firstsTo l i) p.sectionV with
    | some j =>
      simp only
      rw [ih]
      cases hs : (l.take i).findIdx? (fun p => p.sectionV == s) with
      | some k => rfl
      | none =>
        have hne : p.sectionV ≠ s := fun e => by
          subst e
          rw [assoc_firsts l p.sectionV i (by omega), hs] at ha
          cases ha
        simp [List.findIdx?_cons, hne]
    | none =>
      simp only
      rw [assocE_append, ih]
      cases hs : (l.take i).findIdx? (fun p => p.sectionV == s) with
      | some k => rfl
      | none =>
        by_cases e : p.sectionV = s
        · subst e; simp [assocE, List.findIdx?_cons]; omega
        · simp [assocE, List.findIdx?_cons, e]
theorem assoc_first (l : Poss) (s : Int) : assocE (firstsTo l l.length) s = (findI l s).map fun (j : Nat) => (j : Int) := by rw [assoc_firsts l s _ (Nat.le_refl _), List.take_length]; rfl
theorem firsts_nodup (l : Poss) : ∀ i, ((firstsTo l i).map (·.1)).Nodup
  | 0 => by simp [firstsTo]
  | i + 1 => by
    have ih := firsts_nodup l i
    simp only [firstsTo]
    cases hp : l[i]? with
    | none => exact ih
    | some p =>
      simp only
      cases ha : assocE (firstsTo l i) p.sectionV with
      | some j => exact ih
      | none =>
        rw [List.map_append, List.nodup_append]
        refine ⟨ih, by simp, fun a ha' b hb e => ?_⟩
        simp only [List.map_cons, List.map_nil, List.mem_singleton] at hb
        subst hb; subst e
        obtain ⟨x, hx, hxe⟩ := List.mem_map.1 ha'
        exact assocA_none ha x hx hxe
theorem first_eq (l : Poss) (h : Cnt l) : possession_first l = some (firstsTo l l.length) := by
  unfold possession_first
  rw [loop_acc l.length (firstsTo l) (o := firstsTo l l.length) (b := []) rfl h]
  · rfl
  · intro i hi
    obtain ⟨p, hp⟩ := get_lt hi
    simp only [lt_cast hi, if_true, getM_at hp, guardM_true (firsts_nodup l i), guardM_true (i64_nat hi h)]
    simp only [firstsTo, hp]
    cases ha : assocE (firstsTo l i) p.sectionV with
    | some j => simp
    | none => simp [putE_new ha]
  · simp

theorem idxI_map (o : Option Nat) : (o.map fun (j : Nat) => (j : Int)).isSome = o.isSome := by cases o <;> rfl
theorem findI_some {l : Poss} {s : Int} {i : Nat} (h : findI l s = some i) : ∃ p, l[i]? = some p ∧ p.sectionV = s ∧ i < l.length := by
  unfold findI at h
  rw [List.findIdx?_eq_some_iff_getElem] at h
  obtain ⟨hlt, hp, _⟩ := h
  exact ⟨l[i], by simp [hlt], by simpa using hp, hlt⟩
theorem findI_isSome {l : Poss} {i : Nat} {p : Possession} (h : l[i]? = some p) : (findI l p.sectionV).isSome = true := by
  unfold findI
  rw [List.findIdx?_isSome, List.any_eq_true]
  exact ⟨p, List.mem_of_getElem? h, by simp⟩
theorem findI_no {l : Poss} {s : Int} (h : findI l s = none) : ∀ p ∈ l, p.sectionV ≠ s := by
  unfold findI at h
  rw [List.findIdx?_eq_none_iff] at h
  intro p hp e
  have := h p hp
  simp [e] at this

/-! ### Equal lists -/

theorem same_eq (xs ys : Poss) (hx : PossWf xs) (hy : PossWf ys) : ref42_Same xs ys = some (decide (xs = ys)) := by
  have h := hx.len
  unfold ref42_Same
  by_cases e : xs.length = ys.length
  · rw [if_pos (by rw [e]), loop_anyI xs.length (fun i => !decide (xs[i]? = ys[i]?)) (.inr false) (.inl ()) (by omega)]
    · have : ((List.range xs.length).any fun i => !decide (xs[i]? = ys[i]?)) = !decide (xs = ys) := by
        rw [Bool.eq_iff_iff, List.any_eq_true]
        simp only [Bool.not_eq_true', decide_eq_false_iff_not, List.mem_range]
        constructor
        · rintro ⟨i, hi, hne⟩ rfl; exact hne rfl
        · intro hne
          refine Decidable.byContradiction fun hc => hne (List.ext_getElem? fun i => ?_)
          rcases Nat.lt_or_ge i xs.length with hi | hi
          · exact Decidable.byContradiction fun hq => hc ⟨i, hi, hq⟩
          · rw [List.getElem?_eq_none hi, List.getElem?_eq_none (by omega)]
      rw [this]
      by_cases hxy : xs = ys <;> simp [hxy]
    · intro i hi
      obtain ⟨x, hx'⟩ := get_lt hi
      obtain ⟨y, hy'⟩ := get_lt (xs := ys) (i := i) (by omega)
      simp only [lt_cast hi, if_true, getM_at hx', getM_at hy', guardM_true (And.intro (hx.el x (List.mem_of_getElem? hx')).okay (hy.el y (List.mem_of_getElem? hy')).okay), guardM_true (i64_nat hi (by omega)), inrM_some, hx', hy']
      by_cases hxy : x = y <;> simp [hxy]
    · simp
  · rw [if_neg (by omega)]
    have : xs ≠ ys := fun q => e (by rw [q])
    simp [this]
theorem sameB_eq (xs ys : List Bool) (h : Cnt xs) : ref42_SameBools xs ys = some (decide (xs = ys)) := by
  unfold ref42_SameBools
  by_cases e : xs.length = ys.length
  · rw [if_pos (by rw [e]), loop_anyI xs.length (fun i => !decide (xs[i]? = ys[i]?)) (.inr false) (.inl ()) h]
    · have : ((List.range xs.length).any fun i => !decide (xs[i]? = ys[i]?)) = !decide (xs = ys) := by
        rw [Bool.eq_iff_iff, List.any_eq_true]
        simp only [Bool.not_eq_true', decide_eq_false_iff_not, List.mem_range]
        constructor
        · rintro ⟨i, hi, hne⟩ rfl; exact hne rfl
        · intro hne
          refine Decidable.byContradiction fun hc => hne (List.ext_getElem? fun i => ?_)
          rcases Nat.lt_or_ge i xs.length with hi | hi
          · exact Decidable.byContradiction fun hq => hc ⟨i, hi, hq⟩
          · rw [List.getElem?_eq_none hi, List.getElem?_eq_none (by omega)]
      rw [this]
      by_cases hxy : xs = ys <;> simp [hxy]
    · intro i hi
      obtain ⟨x, hx'⟩ := get_lt hi
      obtain ⟨y, hy'⟩ := get_lt (xs := ys) (i := i) (by omega)
      simp only [lt_cast hi, if_true, getM_at hx', getM_at hy', guardM_true (i64_nat hi h), inrM_some, hx', hy']
      cases x <;> cases y <;> rfl
    · simp
  · rw [if_neg (by omega)]
    have : xs ≠ ys := fun q => e (by rw [q])
    simp [this]

/-! ### Closed sections -/

def closedI (l : Poss) (n : Int) : List Bool := if n < 0 ∨ 24 < n then [] else (List.range n.toNat).map fun (i : Nat) => (findI l (i : Int)).isSome
def closedTo (l : Poss) (n i : Nat) : List Bool := (List.range n).map fun (j : Nat) => (l.take i).any fun p => p.sectionV == (j : Int)
theorem closedTo_zero (l : Poss) (n : Nat) : closedTo l n 0 = List.replicate n false := by simp [closedTo, List.map_const']
theorem closedTo_get (l : Poss) (n i : Nat) {j : Nat} (h : j < n) : (closedTo l n i)[j]? = some ((l.take i).any fun p => p.sectionV == (j : Int)) := by simp [closedTo, h]
theorem closedTo_succ {l : Poss} {n i : Nat} {p : Possession} (hp : l[i]? = some p) : closedTo l n (i + 1) = if 0 ≤ p.sectionV ∧ p.sectionV < n then (closedTo l n i).set p.sectionV.toNat true else closedTo l n i := by
  apply List.ext_getElem?
  intro j
  by_cases hj : j < n
  · rw [closedTo_get l n _ hj]
    have e : ((l.take (i + 1)).any fun p => p.sectionV == (j : Int)) = (((l.take i).any fun p => p.sectionV == (j : Int)) || p.sectionV == (j : Int)) := by rw [List.take_add_one, hp]; simp
    rw [e]
    split
    · rename_i h
      rw [List.getElem?_set]
      split
      · rename_i hq
        rw [if_pos (by simp [closedTo]; omega)]
        have : (p.sectionV == (j : Int)) = true := by simp; omega
        rw [this]; simp
      · rename_i hq
        rw [closedTo_get l n _ hj]
        have : (p.sectionV == (j : Int)) = false := by simp; omega
        rw [this]; simp
    · rename_i h
      rw [closedTo_get l n _ hj]
      have : (p.sectionV == (j : Int)) = false := by simp; omega
      rw [this]; simp
  · rw [List.getElem?_eq_none (by simp [closedTo]; omega)]
    split
    · rw [List.getElem?_eq_none (by simp [closedTo]; omega)]
    · rw [List.getElem?_eq_none (by simp [closedTo]; omega)]
theorem closedTo_all (l : Poss) (n : Nat) : closedTo l n l.length = (List.range n).map fun (j : Nat) => (findI l (j : Int)).isSome := by
  unfold closedTo
  rw [List.take_length]
  apply List.map_congr_left
  intro j _
  unfold findI
  rw [Bool.eq_iff_iff]
  simp [List.findIdx?_isSome]
theorem closed_eq (l : Poss) (n : Int) (h : Cnt l) : possession_Closed l n = some (closedI l n) := by
  unfold possession_Closed closedI
  by_cases hn : n < 0 ∨ 24 < n
  · rw [if_pos (by simpa using hn), if_pos hn]
  · rw [if_neg (by simpa using hn), if_neg hn, guardM_true (by omega)]
    obtain ⟨k, rfl⟩ := Int.eq_ofNat_of_zero_le (show 0 ≤ n by omega)
    rw [loop_acc l.length (closedTo l k) (o := closedTo l k l.length) (by rw [closedTo_zero]; rfl) h]
    · rw [bindM_some, closedTo_all]; rfl
    · intro i hi
      obtain ⟨p, hp⟩ := get_lt hi
      have hs := closedTo_succ (n := k) hp
      simp only [lt_cast hi, if_true, getM_at hp, guardM_true (i64_nat hi h)]
      by_cases hb : 0 ≤ p.sectionV ∧ p.sectionV < (k : Int)
      · rw [if_pos (by simpa using hb), getM_int hb.1 (closedTo_get l k i (show p.sectionV.toNat < k by omega)), hs, if_pos hb]
      · rw [if_neg (by simpa using hb), hs, if_neg hb]
    · simp
def askTo (l : Poss) (n i : Nat) : List Bool := (List.range n).map fun (j : Nat) => if j < i then (findI l (j : Int)).isSome else false
theorem askTo_zero (l : Poss) (n : Nat) : askTo l n 0 = List.replicate n false := by simp [askTo, List.map_const']
theorem askTo_get (l : Poss) (n i : Nat) {j : Nat} (h : j < n) : (askTo l n i)[j]? = some (if j < i then (findI l (j : Int)).isSome else false) := by simp [askTo, h]
theorem askTo_set (l : Poss) (n i : Nat) : (askTo l n i).set i (findI l (i : Int)).isSome = askTo l n (i + 1) := by
  apply List.ext_getElem?
  intro j
  by_cases hj : j < n
  · rw [askTo_get l n _ hj, List.getElem?_set]
    split
    · rename_i e; subst e; rw [if_pos (by simpa [askTo] using hj), if_pos (by omega)]
    · rename_i e
      rw [askTo_get l n _ hj]
      by_cases h1 : j < i
      · rw [if_pos h1, if_pos (by omega)]
      · rw [if_neg h1, if_neg (by omega)]
  · rw [List.getElem?_eq_none (by simp [askTo]; omega), List.getElem?_eq_none (by simp [askTo]; omega)]
theorem closedR_eq (l : Poss) (n : Int) (h : Cnt l) : ref42_Closed l n = some (closedI l n) := by
  unfold ref42_Closed closedI
  by_cases hn : n < 0 ∨ 24 < n
  · rw [if_pos (by simpa using hn), if_pos hn]
  · rw [if_neg (by simpa using hn), if_neg hn, guardM_true (by omega)]
    obtain ⟨k, rfl⟩ := Int.eq_ofNat_of_zero_le (show 0 ≤ n by omega)
    rw [loop_acc k (askTo l k) (o := askTo l k k) (by rw [askTo_zero]; rfl) (by omega)]
    · rw [bindM_some]
      congr 1
      unfold askTo
      apply List.map_congr_left
      intro j hj
      rw [if_pos (by simpa using hj)]
    · intro i hi
      simp only [lt_cast hi, if_true, find_eq l _ h, bindM_some, getM_at (askTo_get l k i hi), guardM_true (i64_nat hi (by omega)), idxI_some, Int.toNat_natCast, askTo_set]
    · simp

/-! ### Given back -/

def giveI (l : Poss) (s : Int) (who : ByteArray) : Poss × Int :=
  match findI l s with
  | none => ([], 9)
  | some i => match l[i]? with
    | some p => if who ≠ p.byV ∧ who ≠ p.withV then ([], 13) else (l.eraseIdx i, 0)
    | none => ([], 9)
def keptTo (l : Poss) (g i : Nat) : Poss := (l.take i).eraseIdx g
theorem kept_ne {l : Poss} {g i : Nat} {p : Possession} (hp : l[i]? = some p) (h : ¬ i = g) : keptTo l g i ++ [p] = keptTo l g (i + 1) := by
  have hi : i < l.length := (List.getElem?_eq_some_iff.1 hp).1
  unfold keptTo
  rw [List.take_add_one, hp]
  simp only [Option.toList_some]
  have hl : (l.take i).length = i := by simp; omega
  by_cases hg : g < i
  · rw [List.eraseIdx_append_of_lt_length (by omega)]
  · rw [List.eraseIdx_of_length_le (by omega), List.eraseIdx_of_length_le (by simp; omega)]
theorem kept_eq {l : Poss} {i : Nat} {p : Possession} (hp : l[i]? = some p) : keptTo l i i = keptTo l i (i + 1) := by
  have hi : i < l.length := (List.getElem?_eq_some_iff.1 hp).1
  unfold keptTo
  rw [List.take_add_one, hp]
  have hl : (l.take i).length = i := by simp; omega
  rw [List.eraseIdx_of_length_le (by omega), List.eraseIdx_append_of_length_le (by omega), hl]
  simp
theorem kept_zero (l : Poss) (g : Nat) : keptTo l g 0 = [] := by simp [keptTo]
theorem kept_all (l : Poss) (g : Nat) : keptTo l g l.length = l.eraseIdx g := by unfold keptTo; rw [List.take_length]
theorem kept_le (l : Poss) (g i : Nat) : (keptTo l g i).length ≤ l.length := by
  unfold keptTo
  have := List.length_eraseIdx_le (l.take i) g
  simp at this
  omega
theorem delE_at {fs : List (Int × Int)} {s : Int} (hnd : (fs.map (·.1)).Nodup) (q : Int) : assocE (delE fs s) q = if q = s then none else assocE fs q := by
  unfold delE
  cases e : fs.findIdx? (fun x => decide (x.1 = s)) with
  | none =>
    simp only
    split
    · rename_i hq; subst hq
      unfold assocE
      rw [Option.map_eq_none_iff, List.find?_eq_none]
      rw [List.findIdx?_eq_none_iff] at e
      intro x hx; simpa using e x hx
    · rfl
  | some j =>
    simp only
    induction fs generalizing j with
    | nil => simp at e
    | cons x r ih =>
      simp only [List.map_cons, List.nodup_cons] at hnd
      rw [List.findIdx?_cons] at e
      split at e
      · rename_i hx
        cases e
        have hx : x.1 = s := by simpa using hx
        simp only [List.eraseIdx_cons_zero]
        split
        · rename_i hq; subst hq
          unfold assocE
          rw [Option.map_eq_none_iff, List.find?_eq_none]
          intro y hy hye
          simp only [decide_eq_true_eq] at hye
          exact hnd.1 (List.mem_map.2 ⟨y, hy, by rw [hye, hx]⟩)
        · rename_i hq
          have : ¬ x.1 = q := fun h => hq (by rw [← h, hx])
          simp [assocE, List.find?_cons, this]
      · rename_i hx
        cases hj : r.findIdx? (fun x => decide (x.1 = s)) with
        | none => rw [hj] at e; cases e
        | some k =>
          rw [hj] at e
          simp only [Option.map_some, Option.some.injEq] at e
          subst e
          have ih := ih hnd.2 k hj
          have hx : ¬ x.1 = s := by simpa using hx
          simp only [List.eraseIdx_cons_succ]
          unfold assocE at ih ⊢
          by_cases hq : x.1 = q
          · subst hq; simp [List.find?_cons, hx]
          · simp only [List.find?_cons, hq, decide_false]
            exact ih
theorem delE_nodup {fs : List (Int × Int)} {s : Int} (hnd : (fs.map (·.1)).Nodup) : ((delE fs s).map (·.1)).Nodup := by
  unfold delE
  split
  · exact List.Nodup.sublist ((List.eraseIdx_sublist _ _).map _) hnd
  · exact hnd
theorem give_eq (l : Poss) (s : Int) (who : ByteArray) (h : l.length ≤ 1000000) : possession_Give l s who = some (giveI l s who) := by
  have hc : Cnt l := by unfold Cnt; omega
  unfold possession_Give giveI
  simp only [first_eq l hc, bindM_some, guardM_true (firsts_nodup l l.length), assoc_first, idxI_map]
  cases hf : findI l s with
  | none => simp
  | some i =>
    obtain ⟨p, hp, hps, hil⟩ := findI_some hf
    simp only [Option.isSome_some, Bool.not_true, Bool.false_eq_true, if_false, Option.map_some, Option.getD_some, getM_at hp, hp, bindM_ite, bindM_some]
    rw [guardM_true ⟨firsts_nodup l l.length, by simp⟩]
    have hloop : ∀ k : Poss → Option (Poss × Int), bindM (loopM (fun (x16, b17) =>
          if x16 < (l.length : Int) then
            getM l x16 fun e20 =>
            guardM ((delE (firstsTo l l.length) s).map (·.1)).Nodup <|
            if (((assocE (delE (firstsTo l l.length) s) e20.sectionV).isSome) || (!(decide (x16 = (i : Int))))) = true then
              guardM ((b17 ++ ([e20] : List Possession)).length ≤ 1000000000) <|
              guardM (I64 (x16 + (1 : Int))) <|
              some (.inl ((x16 + (1 : Int)), (b17 ++ ([e20] : List Possession))))
            else
              guardM (I64 (x16 + (1 : Int))) <|
              some (.inl ((x16 + (1 : Int)), b17))
          else
            inrM (
              some b17)) ((0 : Int), ([] : List Possession))) k = k (l.eraseIdx i) := by
      intro k
      rw [loop_acc l.length (keptTo l i) (o := l.eraseIdx i) (kept_zero l i).symm hc]
      · rfl
      · intro j hj
        obtain ⟨q, hq⟩ := get_lt hj
        simp only [lt_cast hj, if_true, getM_at hq, guardM_true (delE_nodup (firsts_nodup l l.length)), guardM_true (i64_nat hj hc), delE_at (firsts_nodup l l.length), assoc_first]
        have hle := kept_le l i j
        by_cases hji : j = i
        · subst hji
          rw [hp] at hq; cases hq
          rw [if_neg (by simp [hps]), kept_eq hp]
        · have : (if q.sectionV = s then (none : Option Int) else (findI l q.sectionV).map fun (j : Nat) => (j : Int)).isSome = true ∨ ¬ (j : Int) = (i : Int) := .inr (by omega)
          rw [if_pos (by simpa using this), guardM_true (by simp; omega), kept_ne hq hji]
      · simp [kept_all]
    simp only [hloop]
    by_cases h1 : who = p.byV <;> by_cases h2 : who = p.withV <;> simp [h1, h2]
theorem giveR_eq (l : Poss) (s : Int) (who : ByteArray) (h : l.length ≤ 1000000) : ref42_Give l s who = some (giveI l s who) := by
  have hc : Cnt l := by unfold Cnt; omega
  unfold ref42_Give giveI
  simp only [find_eq l s hc, bindM_some]
  cases hf : findI l s with
  | none => simp [idxI]
  | some i =>
    obtain ⟨p, hp, hps, hil⟩ := findI_some hf
    have e1 : ((i : Int) + 1) = ((i + 1 : Nat) : Int) := by omega
    simp only [idxI, show ¬ (i : Int) < 0 by omega, if_false, getM_at hp, hp, bindM_ite, bindM_some, e1, sub_take, sub_drop]
    rw [guardM_true (by omega), guardM_true (by simp; omega), guardM_true (by unfold I64; omega), guardM_true (by omega), guardM_true (by simp; omega)]
    simp only [List.nil_append, ← List.eraseIdx_eq_take_drop_succ]
    by_cases h1 : who = p.byV <;> by_cases h2 : who = p.withV <;> simp [h1, h2]

/-! ### Taken -/

def lockedI (t : Table) (s : Inter) (n : Int) : Bool := (List.range t.routes.length).any fun i => decide (n ∈ pathI t s (i : Int)) || decide (n ∈ overI t s (i : Int))
theorem locked_eq (t : Table) (s : Inter) (n : Int) (h : TOk t) : possession_locked t s n = some (lockedI t s n) := by
  have hr := h.routes
  unfold possession_locked lockedI
  rw [loop_anyI t.routes.length (fun i => decide (n ∈ pathI t s (i : Int)) || decide (n ∈ overI t s (i : Int))) (.inr true) (.inl ()) (by omega)]
  · split <;> rename_i hh <;> simp [hh]
  · intro i hi
    have h1 := pathI_len t s i h
    have h2 := overI_len t s i h
    simp only [lt_cast hi, if_true, Path_eq t s _ h, Over_eq t s _ h, bindM_some, contains_eq _ n (show Cnt (pathI t s i) by unfold Cnt; omega), contains_eq _ n (show Cnt (overI t s i) by unfold Cnt; omega), guardM_true (i64_nat hi (by omega)), inrM_some]
    by_cases a : n ∈ pathI t s i <;> by_cases b : n ∈ overI t s i <;> simp [a, b]
  · simp
theorem lockedR_eq (t : Table) (s : Inter) (n : Int) (h : TOk t) : ref42_Locked t s n = some (lockedI t s n) := by
  have hr := h.routes
  unfold ref42_Locked lockedI
  rw [loop_anyI t.routes.length (fun i => decide (n ∈ pathI t s (i : Int)) || decide (n ∈ overI t s (i : Int))) (.inr true) (.inl ()) (by omega)]
  · split <;> rename_i hh <;> simp [hh]
  · intro i hi
    have h1 := pathI_len t s i h
    have h2 := overI_len t s i h
    simp only [lt_cast hi, if_true, Path21_eq t s _ h, Over21_eq t s _ h, bindM_some, has02_eq _ n (show Cnt (pathI t s i) by unfold Cnt; omega), has02_eq _ n (show Cnt (overI t s i) by unfold Cnt; omega), guardM_true (i64_nat hi (by omega)), inrM_some]
    by_cases a : n ∈ pathI t s i <;> by_cases b : n ∈ overI t s i <;> simp [a, b]
  · simp

/-- Where a possession goes: ahead of those of greater sections. -/
def placeI (l : Poss) (s : Int) : Nat := (l.findIdx? fun o => decide (s < o.sectionV)).getD l.length
def insI (l : Poss) (p : Possession) : Poss := l.take (placeI l p.sectionV) ++ [p] ++ l.drop (placeI l p.sectionV)
def argB (t : Table) (p : Possession) : Bool := decide (¬ checkI t = 0 ∨ p.sectionV < 0 ∨ t.sections ≤ p.sectionV ∨ p.byV = ⟨#[]⟩ ∨ p.withV = ⟨#[]⟩ ∨ p.byV = p.withV)
def takeI (t : Table) (s : Inter) (l : Poss) (p : Possession) : Poss × Int :=
  if argB t p = true then ([], 1)
  else if (findI l p.sectionV).isSome = true then ([], 8)
  else if 16 ≤ l.length then ([], 16)
  else if lockedI t s p.sectionV = true then ([], 12)
  else (insI l p, 0)
theorem arg_head (t : Table) (p : Possession) : (if checkI t = (0 : Int) then
      if p.sectionV < (0 : Int) then some true
      else if t.sections ≤ p.sectionV then some true
        else if p.byV = (⟨#[]⟩ : ByteArray) then some true
          else if p.withV = (⟨#[]⟩ : ByteArray) then some true
            else some (decide (p.byV = p.withV))
    else some true) = some (argB t p) := by
  simp only [ite_some, Option.some.injEq]
  rw [Bool.eq_iff_iff]
  unfold argB
  simp only [bool_ite, decide_eq_true_eq]
  grind
theorem placeI_le (l : Poss) (s : Int) : placeI l s ≤ l.length := by
  unfold placeI
  cases h : l.findIdx? (fun o => decide (s < o.sectionV)) with
  | none => simp
  | some i => rw [List.findIdx?_eq_some_iff_getElem] at h; obtain ⟨h, _⟩ := h; simp; omega
theorem indexFunc_eq (l : Poss) (p : Possession) (h : Cnt l) : slices_IndexFunc_Possession l (fun a0 => possession_Take_c1 a0 p) = some (idxI (l.findIdx? fun o => decide (p.sectionV < o.sectionV))) := by
  unfold slices_IndexFunc_Possession
  rw [loop_find l (fun o => decide (p.sectionV < o.sectionV)) (fun i => .inr (i : Int)) (.inl ()) h]
  · cases l.findIdx? (fun o => decide (p.sectionV < o.sectionV)) <;> rfl
  · intro i e he
    have hi := (List.getElem?_eq_some_iff.1 he).1
    simp only [lt_cast hi, if_true, getM_at he, possession_Take_c1, bindM_some]
    by_cases hx : p.sectionV < e.sectionV
    · simp [hx]
    · simp [hx, i64_nat hi h]
  · simp
theorem take_eq (t : Table) (s : Inter) (l : Poss) (p : Possession) (h : TOk t) (hl : l.length ≤ 1000000) : possession_Take t s l p = some (takeI t s l p) := by
  have hc : Cnt l := by unfold Cnt; omega
  unfold possession_Take takeI
  simp only [check_eq t h, bindM_some, arg_head, first_eq l hc, guardM_true (firsts_nodup l l.length), assoc_first, idxI_map, locked_eq t s _ h, indexFunc_eq l p hc]
  cases argB t p with
  | true => rfl
  | false =>
    simp only [Bool.false_eq_true, if_false]
    by_cases h1 : (findI l p.sectionV).isSome = true
    · rw [if_pos h1, if_pos h1]
    · rw [if_neg h1, if_neg h1]
      by_cases h2 : 16 ≤ l.length
      · rw [if_pos (by omega), if_pos h2]
      · rw [if_neg (by omega), if_neg h2]
        cases lockedI t s p.sectionV with
        | true => rfl
        | false =>
          simp only [Bool.false_eq_true, if_false]
          have hpl := placeI_le l p.sectionV
          have hplace : (if idxI (l.findIdx? fun o => decide (p.sectionV < o.sectionV)) < (0 : Int) then some (l.length : Int) else some (idxI (l.findIdx? fun o => decide (p.sectionV < o.sectionV)))) = some (placeI l p.sectionV : Int) := by
            unfold placeI
            cases l.findIdx? (fun o => decide (p.sectionV < o.sectionV)) with
            | none => simp [idxI]
            | some i => have hi0 : ¬ (i : Int) < 0 := by omega
                        simp [idxI, hi0]
          rw [hplace, bindM_some, guardM_true (by omega), guardM_true (by omega), sub_take, sub_drop]
          unfold slices_Concat_Possession
          rw [guardM_true ⟨by simp, by simp; omega⟩]
          simp [insI]

theorem takeR_eq (t : Table) (s : Inter) (l : Poss) (p : Possession) (h : TOk t) (hl : l.length ≤ 1000000) : ref42_Take t s l p = some (takeI t s l p) := by
  have hc : Cnt l := by unfold Cnt; omega
  unfold ref42_Take takeI
  simp only [check16_eq t h, bindM_some, arg_head, find_eq l _ hc, lockedR_eq t s _ h]
  cases argB t p with
  | true => rfl
  | false =>
    simp only [Bool.false_eq_true, if_false]
    have hs := idxI_some (findI l p.sectionV)
    by_cases h1 : (findI l p.sectionV).isSome = true
    · rw [h1] at hs; rw [if_pos (of_decide_eq_true hs), if_pos h1]
    · have h1' : (findI l p.sectionV).isSome = false := by simpa using h1
      rw [h1'] at hs; rw [if_neg (of_decide_eq_false hs), if_neg h1]
      by_cases h2 : 16 ≤ l.length
      · rw [if_pos (by omega), if_pos h2]
      · rw [if_neg (by omega), if_neg h2]
        cases lockedI t s p.sectionV with
        | true => rfl
        | false =>
          simp only [Bool.false_eq_true, if_false]
          have hpl := placeI_le l p.sectionV
          have hno := findI_no (l := l) (s := p.sectionV) (by simpa using h1')
          have hbelow : ∀ i q, l[i]? = some q → i < placeI l p.sectionV → q.sectionV < p.sectionV := by
            intro i q hq hi
            have hne := hno q (List.mem_of_getElem? hq)
            have : ¬ p.sectionV < q.sectionV := by
              intro hlt
              unfold placeI at hi
              cases hf : l.findIdx? (fun o => decide (p.sectionV < o.sectionV)) with
              | none =>
                rw [List.findIdx?_eq_none_iff] at hf
                have := hf q (List.mem_of_getElem? hq)
                simp [hlt] at this
              | some j =>
                rw [hf] at hi
                rw [List.findIdx?_eq_some_iff_getElem] at hf
                obtain ⟨_, _, h3⟩ := hf
                have := h3 i (by simpa using hi)
                have he := (List.getElem?_eq_some_iff.1 hq).2
                rw [he] at this
                simp [hlt] at this
            omega
          have hat : ∀ q, l[placeI l p.sectionV]? = some q → ¬ q.sectionV < p.sectionV := by
            intro q hq
            unfold placeI at hq
            cases hf : l.findIdx? (fun o => decide (p.sectionV < o.sectionV)) with
            | none => rw [hf] at hq; simp at hq
            | some j =>
              rw [hf] at hq
              rw [List.findIdx?_eq_some_iff_getElem] at hf
              obtain ⟨h4, h5, _⟩ := hf
              simp only [Option.getD_some] at hq
              have he := (List.getElem?_eq_some_iff.1 hq).2
              rw [he] at h5
              have := of_decide_eq_true h5
              omega
          rw [loop_acc (placeI l p.sectionV) (fun i => l.take i) (o := ((placeI l p.sectionV : Int), l.take (placeI l p.sectionV))) (by simp) (by omega)]
          · simp only [bindM_some, sub_drop]
            rw [guardM_true (by simp; omega), guardM_true (by omega), guardM_true (by simp; omega)]
            rfl
          · intro i hi
            obtain ⟨q, hq⟩ := get_lt (xs := l) (i := i) (by omega)
            have hlt := hbelow i q hq hi
            simp only [lt_cast (show i < l.length by omega), if_true, getM_at hq, bindM_some, hlt, decide_true]
            rw [guardM_true (by simp; omega), guardM_true (i64_nat (n := l.length) (by omega) (by omega)), List.take_add_one, hq]
            rfl
          · by_cases he : placeI l p.sectionV < l.length
            · obtain ⟨q, hq⟩ := get_lt he
              have hn := hat q hq
              simp [lt_cast he, getM_at hq, hn]
            · have : placeI l p.sectionV = l.length := by omega
              simp [this]

end Go.Proofs.Ythkgkolgdkcngaa
