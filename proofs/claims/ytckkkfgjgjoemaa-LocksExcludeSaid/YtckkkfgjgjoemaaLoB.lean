/- The reference's settings: the least that is greater than the last. No condition. -/
import Derived.Test.YtckkkfgjgjoemaaLoA
set_option linter.unusedSimpArgs false
set_option linter.unusedVariables false
namespace Go.Proofs.Ytckkkfgjgjoemaa
open Go Go.TL

theorem asc_lt {D : List Setting} (h : Asc D) {i j : Nat} (hi : i < D.length) (hj : j < D.length) : ltS D[i] D[j] = true ↔ i < j := by
  rw [Asc, List.pairwise_iff_getElem] at h
  constructor
  · intro hl
    rcases Nat.lt_trichotomy i j with h1 | h1 | h1
    · exact h1
    · subst h1; rw [ltS_irrefl] at hl; cases hl
    · exact (ltS_asymm hl (h j i hj hi h1)).elim
  · exact fun hl => h i j hi hj hl

/-- Is 'e' behind the last of those taken? -/
def candB (out : List Setting) (e : Setting) : Bool := out.isEmpty || (out.getLast?).any fun l => ltS l e
/-- The place of the first of the least candidates among the first 'i'. -/
def bestTo (A out : List Setting) : Nat → Int
  | 0 => -1
  | i + 1 => match A[i]? with
    | none => bestTo A out i
    | some e => if candB out e = true ∧ (bestTo A out i < 0 ∨ (A[(bestTo A out i).toNat]?).any (fun b => ltS e b) = true) then (i : Int) else bestTo A out i
theorem bestTo_ok (A out : List Setting) : ∀ i, i ≤ A.length → (bestTo A out i = -1 ∧ ∀ j, j < i → (A[j]?).any (candB out) = false) ∨
    ∃ b : Nat, bestTo A out i = (b : Int) ∧ b < i ∧ ∃ e, A[b]? = some e ∧ candB out e = true ∧ ∀ j e', j < i → A[j]? = some e' → candB out e' = true → ltS e' e = false
  | 0, _ => .inl ⟨rfl, fun j hj => absurd hj (Nat.not_lt_zero j)⟩
  | i + 1, hi => by
    have he : A[i]? = some A[i] := by simp
    have ih := bestTo_ok A out i (by omega)
    unfold bestTo
    rw [he]
    simp only
    by_cases hc : candB out A[i] = true
    · rcases ih with ⟨h1, h2⟩ | ⟨b, h1, h2, e, h3, h4, h5⟩
      · rw [if_pos ⟨hc, .inl (by omega)⟩]
        refine .inr ⟨i, rfl, by omega, A[i], he, hc, fun j e' hj hj' hc' => ?_⟩
        rcases Nat.lt_or_ge j i with h | h
        · have := h2 j h; rw [hj'] at this; simp [hc'] at this
        · have : j = i := by omega
          subst this; rw [he] at hj'; cases hj'; exact ltS_irrefl _
      · rw [h1]
        have e1 : A[((b : Int)).toNat]? = some e := by simpa using h3
        rw [e1]
        by_cases hl : ltS A[i] e = true
        · rw [if_pos ⟨hc, .inr (by simpa using hl)⟩]
          refine .inr ⟨i, rfl, by omega, A[i], he, hc, fun j e' hj hj' hc' => ?_⟩
          rcases Nat.lt_or_ge j i with h | h
          · cases h6 : ltS e' A[i] with
            | false => rfl
            | true => have h7 := h5 j e' h hj' hc'; rw [ltS_trans h6 hl] at h7; cases h7
          · have : j = i := by omega
            subst this; rw [he] at hj'; cases hj'; exact ltS_irrefl _
        · rw [if_neg (by rintro ⟨_, h | h⟩; · omega
                         · exact hl (by simpa using h))]
          refine .inr ⟨b, rfl, by omega, e, h3, h4, fun j e' hj hj' hc' => ?_⟩
          rcases Nat.lt_or_ge j i with h | h
          · exact h5 j e' h hj' hc'
          · have : j = i := by omega
            subst this; rw [he] at hj'; cases hj'; simpa using hl
    · rw [if_neg (fun h => hc h.1)]
      rcases ih with ⟨h1, h2⟩ | ⟨b, h1, h2, e, h3, h4, h5⟩
      · refine .inl ⟨h1, fun j hj => ?_⟩
        rcases Nat.lt_or_ge j i with h | h
        · exact h2 j h
        · have : j = i := by omega
          subst this; rw [he]; simpa using hc
      · refine .inr ⟨b, h1, by omega, e, h3, h4, fun j e' hj hj' hc' => ?_⟩
        rcases Nat.lt_or_ge j i with h | h
        · exact h5 j e' h hj' hc'
        · have : j = i := by omega
          subst this; rw [he] at hj'; cases hj'; exact absurd hc' hc

/-- A round: of D, which is A in order, so many are taken. -/
theorem best_at (A : List Setting) {k : Nat} (hk : k ≤ (ascS A).length) :
    (k = (ascS A).length → bestTo A ((ascS A).take k) A.length = -1) ∧
    ∀ hlt : k < (ascS A).length, ∃ b : Nat, bestTo A ((ascS A).take k) A.length = (b : Int) ∧ A[b]? = some (ascS A)[k] := by
  have hasc := ascS_asc A
  have hcand : ∀ j (hj : j < (ascS A).length), candB ((ascS A).take k) (ascS A)[j] = decide (k ≤ j) := by
    intro j hj
    unfold candB
    by_cases h0 : k = 0
    · subst h0; simp
    · have hl : ((ascS A).take k).getLast? = some (ascS A)[k - 1] := by
        rw [List.getLast?_eq_getElem?, List.length_take, Nat.min_eq_left hk, List.getElem?_take_of_lt (by omega), List.getElem?_eq_getElem (by omega)]
      have he : ((ascS A).take k).isEmpty = false := by
        cases h : (ascS A).take k with
        | nil => rw [h] at hl; cases hl
        | cons => rfl
      rw [hl, he, Bool.eq_iff_iff]
      simp only [Bool.false_or, Option.any_some, asc_lt hasc (show k - 1 < _ by omega) hj, decide_eq_true_eq]
      omega
  have hin : ∀ (j : Nat) (e : Setting), A[j]? = some e → ∃ i, ∃ hi : i < (ascS A).length, e = (ascS A)[i] := by
    intro j e he
    obtain ⟨i, hi, h⟩ := List.mem_iff_getElem.1 (ascS_mem.2 (List.mem_of_getElem? he))
    exact ⟨i, hi, h.symm⟩
  rcases bestTo_ok A ((ascS A).take k) A.length (Nat.le_refl _) with ⟨h1, h2⟩ | ⟨b, h1, h2, e, h3, h4, h5⟩
  · refine ⟨fun _ => h1, fun hlt => ?_⟩
    obtain ⟨j, hj, h⟩ := List.mem_iff_getElem.1 (ascS_mem.1 (List.getElem_mem hlt))
    have := h2 j hj
    rw [List.getElem?_eq_getElem hj, h, Option.any_some, hcand k hlt] at this
    simp at this
  · obtain ⟨i, hi, rfl⟩ := hin b e h3
    rw [hcand i hi] at h4
    have h4' := of_decide_eq_true h4
    refine ⟨fun h => by omega, fun hlt => ⟨b, h1, ?_⟩⟩
    obtain ⟨j, hj, h⟩ := List.mem_iff_getElem.1 (ascS_mem.1 (List.getElem_mem hlt))
    have h6 := h5 j (ascS A)[k] hj (by rw [List.getElem?_eq_getElem hj, h]) (by rw [hcand k hlt]; simp)
    have h7 : ¬ k < i := fun hc => by rw [(asc_lt hasc hlt hi).2 hc] at h6; cases h6
    have : i = k := by omega
    subst this
    exact h3

theorem less_eq (x y : Setting) : ref16_less x y = some (ltS x y) := rfl

theorem selLoop (A out : List Setting) (hA : A.length ≤ 3000000) (ho : out.length ≤ 3000000) : loopM (fun (found11, x12) =>
        if x12 < (A.length : Int) then
          getM A x12 fun e15 =>
          bindM (
            if (out.length : Int) = (0 : Int) then
              if found11 < (0 : Int) then
                some true
              else
                getM A found11 fun e27 =>
                bindM (ref16_less e15 e27) fun r28 =>
                some r28
            else
              guardM (I64 ((out.length : Int) - (1 : Int))) <|
              getM out ((out.length : Int) - (1 : Int)) fun e20 =>
              bindM (ref16_less e20 e15) fun r21 =>
              if r21 = true then
                if found11 < (0 : Int) then
                  some true
                else
                  getM A found11 fun e24 =>
                  bindM (ref16_less e15 e24) fun r25 =>
                  some r25
              else
                some false) fun x16 =>
          if x16 = true then
            guardM (I64 (x12 + (1 : Int))) <|
            some (.inl (x12, (x12 + (1 : Int))))
          else
            guardM (I64 (x12 + (1 : Int))) <|
            some (.inl (found11, (x12 + (1 : Int))))
        else
          inrM (
            some found11)) ((-1 : Int), (0 : Int)) = some (bestTo A out A.length) := by
  refine loop_to (fun i => (bestTo A out i, (i : Int))) A.length rfl (by omega) (fun i hi => ?_) (by dsimp only; rw [if_neg (by omega)]; rfl)
  dsimp only
  have he : A[i]? = some A[i] := by simp
  have hstep : bestTo A out (i + 1) = if candB out A[i] = true ∧ (bestTo A out i < 0 ∨ (A[(bestTo A out i).toNat]?).any (fun b => ltS A[i] b) = true) then (i : Int) else bestTo A out i := by rw [bestTo, he]
  have hinner : ∀ f : Int, f = bestTo A out i → (if f < (0 : Int) then some true else getM A f fun e27 => bindM (ref16_less A[i] e27) fun r28 => some r28) = some (decide (bestTo A out i < 0 ∨ (A[(bestTo A out i).toNat]?).any (fun b => ltS A[i] b) = true)) := by
    rintro f rfl
    rcases bestTo_ok A out i (by omega) with ⟨h1, _⟩ | ⟨b, h1, h2, e, h3, _, _⟩
    · rw [h1]; simp
    · rw [h1, if_neg (by omega), getM_at h3, less_eq, bindM_some]
      have h3' : A[((b : Int)).toNat]? = some e := by simpa using h3
      rw [h3']
      congr 1
      rw [Bool.eq_iff_iff, decide_eq_true_eq]
      simp only [Option.any_some]
      constructor
      · exact .inr
      · rintro (h | h)
        · omega
        · exact h
  have hcond : (if (out.length : Int) = (0 : Int) then
              (if bestTo A out i < (0 : Int) then some true else getM A (bestTo A out i) fun e27 => bindM (ref16_less A[i] e27) fun r28 => some r28)
            else
              guardM (I64 ((out.length : Int) - (1 : Int))) <|
              getM out ((out.length : Int) - (1 : Int)) fun e20 =>
              bindM (ref16_less e20 A[i]) fun r21 =>
              if r21 = true then (if bestTo A out i < (0 : Int) then some true else getM A (bestTo A out i) fun e24 => bindM (ref16_less A[i] e24) fun r25 => some r25)
              else some false) = some (decide (candB out A[i] = true ∧ (bestTo A out i < 0 ∨ (A[(bestTo A out i).toNat]?).any (fun b => ltS A[i] b) = true))) := by
    rw [hinner _ rfl]
    by_cases h0 : out = []
    · subst h0; simp [candB]
    · have hl : 0 < out.length := List.length_pos_iff.2 h0
      have h1 : out[out.length - 1]? = some (out[out.length - 1]) := by rw [List.getElem?_eq_getElem]
      have e2 : ((out.length : Int) - 1) = ((out.length - 1 : Nat) : Int) := by omega
      rw [if_neg (by omega), guardM_true (by unfold I64; omega), e2, getM_at h1, less_eq, bindM_some]
      have hcb : candB out A[i] = ltS out[out.length - 1] A[i] := by
        unfold candB
        rw [List.getLast?_eq_getElem?, h1, Option.any_some]
        cases out with
        | nil => exact absurd rfl h0
        | cons => rfl
      rw [hcb]
      cases ltS out[out.length - 1] A[i] <;> simp
  rw [if_pos (by omega), getM_at he, hcond, bindM_some, hstep]
  split
  · rename_i h
    rw [if_pos (of_decide_eq_true h), guardM_true (i64_nat (n := A.length) hi (by omega))]
    rfl
  · rename_i h
    rw [if_neg (fun h' => h (decide_eq_true h')), guardM_true (i64_nat (n := A.length) hi (by omega))]
    rfl

theorem Settings16_eq (r : Route) (h : Short r) : ref16_Settings r = some (ascS (allS r)) := by
  have hlen : (allS r).length ≤ 3000000 := by have := h.points; have := h.over; have := h.flank; simp [allS]; omega
  have hl1 : (r.points ++ r.overPoints).length ≤ 3000000 := by have := h.points; have := h.over; simp; omega
  have hl2 : r.points.length ≤ 3000000 := by have := h.points; omega
  unfold ref16_Settings
  simp only [List.nil_append]
  rw [guardM_true (by omega), guardM_true (by omega), guardM_true (show (allS r).length ≤ 1000000000 by omega)]
  have hDl := ascS_len (allS r)
  refine loop_to (fun k => (ascS (allS r)).take k) (ascS (allS r)).length (by simp) (by omega) (fun k hk => ?_) ?_
  · rw [selLoop (allS r) _ hlen (by rw [List.length_take]; omega), bindM_some]
    obtain ⟨b, h1, h2⟩ := (best_at (allS r) (Nat.le_of_lt hk)).2 hk
    rw [h1, if_neg (by omega), getM_at h2, guardM_true (by rw [List.length_append, List.length_take]; simp only [List.length_cons, List.length_nil]; omega), List.take_add_one, List.getElem?_eq_getElem hk]
    rfl
  · rw [selLoop (allS r) _ hlen (by rw [List.length_take]; omega), bindM_some, (best_at (allS r) (Nat.le_refl _)).1 rfl, List.take_length]
    rfl

end Go.Proofs.Ytckkkfgjgjoemaa
