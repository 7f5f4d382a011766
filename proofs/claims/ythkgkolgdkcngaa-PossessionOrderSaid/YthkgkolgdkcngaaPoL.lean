/- The laws of chapter 42, as their models say them. No condition but those that the laws name. -/
import Derived.Test.YthkgkolgdkcngaaPoA
set_option linter.unusedVariables false
set_option linter.unusedSimpArgs false
set_option maxHeartbeats 400000
set_option maxRecDepth 100000
namespace Go.Proofs.Ythkgkolgdkcngaa
open Go Go.TL

theorem alive42 : law42_alive = some true := by decide +kernel

def smallR (r : Route) : Bool := decide (r.path.length + r.sections.length + r.overSections.length + r.points.length + r.overPoints.length + r.flank.length ≤ 200)
def smallB (t : Table) (s : Inter) (l : Poss) : Bool := t.routes.all smallR && decide (t.routes.length ≤ 100 ∧ t.points.length ≤ 100 ∧ s.routes.length ≤ 100 ∧ s.lies.length ≤ 100 ∧ l.length ≤ 100)
theorem small_eq (t : Table) (s : Inter) (l : Poss) (ht : t.Wf) : law42_small t s l = some (smallB t s l) := by
  have h0 := len_ok ht.routes.1
  unfold law42_small smallB
  rw [loop_any t.routes (fun r => !smallR r) (.inr false) (.inl ()) (by omega), not_all_any']
  · cases t.routes.all smallR
    · rfl
    · simp only [Bool.not_true, Bool.false_eq_true, if_false, bindS_inl, Option.some.injEq]
      rw [Bool.eq_iff_iff]
      simp only [Bool.and_eq_true, decide_eq_true_eq, Bool.true_and]
      omega
  · intro i r hr
    have hi := (List.getElem?_eq_some_iff.1 hr).1
    have hw := ht.routes.2 r (List.mem_of_getElem? hr)
    have h1 := len_ok hw.path.1; have h2 := len_ok hw.sections.1; have h3 := len_ok hw.overSections.1; have h4 := len_ok hw.points.1; have h5 := len_ok hw.overPoints.1; have h6 := len_ok hw.flank.1
    simp only [lt_cast hi, if_true, getM_at hr, guardM_true (i64_nat hi (by omega)), inrM_some]
    rw [guardM_true (by unfold I64; omega), guardM_true (by unfold I64; omega), guardM_true (by unfold I64; omega), guardM_true (by unfold I64; omega), guardM_true (by unfold I64; omega)]
    unfold smallR
    by_cases hb : r.path.length + r.sections.length + r.overSections.length + r.points.length + r.overPoints.length + r.flank.length ≤ 200
    · rw [if_neg (by omega), if_neg (by simpa using hb)]
    · rw [if_pos (by omega), if_pos (by simpa using hb)]
  · simp
theorem small_ok {t : Table} {s : Inter} {l : Poss} (h : smallB t s l = true) : TOk t ∧ l.length ≤ 100 := by
  unfold smallB at h
  simp only [Bool.and_eq_true, decide_eq_true_eq, List.all_eq_true] at h
  obtain ⟨h1, h2⟩ := h
  refine ⟨⟨by omega, by omega, fun r hr => ?_⟩, by omega⟩
  have := h1 r hr
  unfold smallR at this
  have := of_decide_eq_true this
  exact ⟨by omega, by omega, by omega, by omega⟩

theorem insI_mem {l : Poss} {p q : Possession} : q ∈ insI l p ↔ q ∈ l ∨ q = p := by
  unfold insI
  simp only [List.mem_append, List.mem_singleton]
  have : q ∈ l ↔ q ∈ l.take (placeI l p.sectionV) ∨ q ∈ l.drop (placeI l p.sectionV) := by rw [← List.mem_append, List.take_append_drop]
  rw [this]
  constructor
  · rintro ((h | h) | h)
    · exact .inl (.inl h)
    · exact .inr h
    · exact .inl (.inr h)
  · rintro ((h | h) | h)
    · exact .inl (.inl h)
    · exact .inr h
    · exact .inl (.inr h)
theorem insI_len (l : Poss) (p : Possession) : (insI l p).length = l.length + 1 := by
  have := placeI_le l p.sectionV
  unfold insI; simp; omega
theorem takeI_wf (t : Table) (s : Inter) (l : Poss) (p : Possession) (hl : l.length ≤ 100) (hw : ∀ q ∈ l, q.Wf) (hp : p.Wf) : PossWf (takeI t s l p).1 := by
  unfold takeI
  have hnil : PossWf [] := ⟨by simp, by simp⟩
  split
  · exact hnil
  · split
    · exact hnil
    · split
      · exact hnil
      · split
        · exact hnil
        · refine ⟨by simp only [insI_len]; omega, fun q hq => ?_⟩
          rcases insI_mem.1 hq with h | h
          · exact hw q h
          · rw [h]; exact hp
theorem giveI_wf (l : Poss) (s : Int) (who : ByteArray) (hl : l.length ≤ 1000) (hw : ∀ q ∈ l, q.Wf) : PossWf (giveI l s who).1 := by
  unfold giveI
  have hnil : PossWf [] := ⟨by simp, by simp⟩
  cases findI l s with
  | none => exact hnil
  | some i =>
    simp only
    cases l[i]? with
    | none => exact hnil
    | some p =>
      simp only
      split
      · exact hnil
      · refine ⟨?_, fun q hq => hw q (List.mem_of_mem_eraseIdx hq)⟩
        have := List.length_eraseIdx_le l i
        show (l.eraseIdx i).length ≤ 1000000
        omega

theorem takes_law {t : Table} {s : Inter} {l : Poss} {p : Possession} (ht : t.Wf) (hs : s.Wf) (hl : l.length ≤ reachBytes ∧ ∀ q ∈ l, q.Wf) (hp : p.Wf) : law42_PossessionTakes t s l p = some true := by
  unfold law42_PossessionTakes
  simp only [small_eq t s l ht, alive42, bindM_some]
  cases hb : smallB t s l with
  | false => rfl
  | true =>
    obtain ⟨hT, hL⟩ := small_ok hb
    have hw := takeI_wf t s l p hL hl.2 hp
    simp only [take_eq t s l p hT (by omega), takeR_eq t s l p hT (by omega), bindM_some]
    rw [same_eq _ _ hw hw]
    simp

theorem gives_law {l : Poss} {s : Int} {who : ByteArray} {n : Int} (hl : l.length ≤ reachBytes ∧ ∀ q ∈ l, q.Wf) (hs : I64 s) (hwho : who.size ≤ reachBytes) (hn : I64 n) : law42_PossessionGives l s who n = some true := by
  unfold law42_PossessionGives
  simp only [alive42, bindM_some]
  by_cases h : (1000 : Int) < l.length
  · rw [if_pos h]
  · rw [if_neg h]
    have hc : Cnt l := by unfold Cnt; omega
    have hw := giveI_wf l s who (by omega) hl.2
    simp only [give_eq l s who (by omega), giveR_eq l s who (by omega), bindM_some, closed_eq l n hc, closedR_eq l n hc]
    rw [same_eq _ _ hw hw, sameB_eq _ _ (by unfold Cnt closedI; split <;> simp; omega)]
    simp

/-! ### Order -/

def Asc (l : Poss) : Prop := (l.map (·.sectionV)).Pairwise (· < ·)
instance (l : Poss) : Decidable (Asc l) := by unfold Asc; infer_instance
theorem asc_of : ∀ {l : List Int}, (∀ i x y, l[i]? = some x → l[i + 1]? = some y → x < y) → l.Pairwise (· < ·)
  | [], _ => .nil
  | [a], _ => by simp
  | a :: b :: r, h => by
    have ih := asc_of (l := b :: r) fun i x y hx hy => h (i + 1) x y (by simpa using hx) (by simpa using hy)
    have hab := h 0 a b rfl rfl
    rw [List.pairwise_cons] at ih ⊢
    refine ⟨fun c hc => ?_, List.pairwise_cons.2 ih⟩
    simp only [List.mem_cons] at hc
    rcases hc with rfl | hc
    · exact hab
    · have := ih.1 c hc; omega
theorem ordered_eq (l : Poss) (h : Cnt l) : law42_ordered l = some (decide (Asc l)) := by
  unfold law42_ordered
  rw [loop_anyI l.length (fun i => decide (0 < i ∧ (l[i]?.map (·.sectionV)).getD 0 ≤ (l[i - 1]?.map (·.sectionV)).getD 0)) (.inr false) (.inl ()) h]
  · have : ((List.range l.length).any fun i => decide (0 < i ∧ (l[i]?.map (·.sectionV)).getD 0 ≤ (l[i - 1]?.map (·.sectionV)).getD 0)) = !decide (Asc l) := by
      rw [Bool.eq_iff_iff, List.any_eq_true]
      simp only [Bool.not_eq_true', decide_eq_false_iff_not, List.mem_range, decide_eq_true_eq]
      constructor
      · rintro ⟨i, hi, h0, hle⟩ ha
        unfold Asc at ha
        rw [List.pairwise_iff_getElem] at ha
        have := ha (i - 1) i (by simp; omega) (by simpa using hi) (by omega)
        simp only [List.getElem_map] at this
        rw [List.getElem?_eq_getElem hi, List.getElem?_eq_getElem (show i - 1 < l.length by omega)] at hle
        simp at hle
        omega
      · intro hn
        refine Decidable.byContradiction fun hc => hn (asc_of fun i x y hx hy => ?_)
        simp only [List.getElem?_map, Option.map_eq_some_iff] at hx hy
        obtain ⟨p, hp, rfl⟩ := hx
        obtain ⟨q, hq, rfl⟩ := hy
        refine Decidable.byContradiction fun hlt => hc ⟨i + 1, (List.getElem?_eq_some_iff.1 hq).1, by omega, ?_⟩
        rw [hq, Nat.add_sub_cancel, hp]
        simp; omega
    rw [this]
    by_cases ha : Asc l <;> simp [ha]
  · intro i hi
    obtain ⟨p, hp⟩ := get_lt hi
    obtain ⟨q, hq⟩ := get_lt (xs := l) (i := i - 1) (by omega)
    simp only [lt_cast hi, if_true, getM_at hp, hp, hq, guardM_true (i64_nat hi (by omega)), inrM_some, Option.map_some, Option.getD_some]
    by_cases h0 : 0 < i
    · have e1 : ((i : Int) - 1) = ((i - 1 : Nat) : Int) := by omega
      have e2 : I64 ((i - 1 : Nat) : Int) := by unfold I64; omega
      have e3 : (0 : Int) < (i : Int) := by omega
      simp only [e1, guardM_true e2, getM_at hq, e3, if_true, bindM_some]
      simp [h0]
    · have e3 : ¬ (0 : Int) < (i : Int) := by omega
      simp [h0]
  · simp

theorem place_below {l : Poss} {s : Int} (hno : ∀ q ∈ l, q.sectionV ≠ s) : ∀ q ∈ l.take (placeI l s), q.sectionV < s := by
  intro q hq
  obtain ⟨i, hi, rfl⟩ := List.mem_take_iff_getElem.1 hq
  have hne := hno l[i] (by simp)
  have : ¬ s < (l[i]).sectionV := by
    intro hlt
    unfold placeI at hi
    cases hf : l.findIdx? (fun o => decide (s < o.sectionV)) with
    | none =>
      rw [List.findIdx?_eq_none_iff] at hf
      have := hf l[i] (by simp)
      simp [hlt] at this
    | some j =>
      rw [hf] at hi
      rw [List.findIdx?_eq_some_iff_getElem] at hf
      obtain ⟨_, _, h3⟩ := hf
      have := h3 i (by simp at hi; omega)
      simp [hlt] at this
  omega
theorem place_above {l : Poss} {s : Int} (ha : Asc l) : ∀ q ∈ l.drop (placeI l s), s < q.sectionV := by
  intro q hq
  unfold placeI at hq
  cases hf : l.findIdx? (fun o => decide (s < o.sectionV)) with
  | none => rw [hf] at hq; simp at hq
  | some j =>
    rw [hf] at hq
    rw [List.findIdx?_eq_some_iff_getElem] at hf
    obtain ⟨h4, h5, _⟩ := hf
    have h5 := of_decide_eq_true h5
    simp only [Option.getD_some] at hq
    rw [List.mem_drop_iff_getElem] at hq
    obtain ⟨k, hk, rfl⟩ := hq
    by_cases e : k = 0
    · subst e; exact h5
    · unfold Asc at ha
      rw [List.pairwise_iff_getElem] at ha
      have := ha j (j + k) (by simpa using h4) (by simp; omega) (by omega)
      simp only [List.getElem_map] at this
      omega
theorem insI_asc {l : Poss} {p : Possession} (ha : Asc l) (hno : findI l p.sectionV = none) : Asc (insI l p) := by
  have h1 := place_below (l := l) (findI_no hno)
  have h2 := place_above (s := p.sectionV) ha
  unfold Asc insI
  unfold Asc at ha
  simp only [List.map_append, List.map_cons, List.map_nil, List.append_assoc, List.singleton_append]
  rw [List.pairwise_append]
  refine ⟨?_, ?_, fun a hA b hB => ?_⟩
  · rw [List.map_take]; exact ha.sublist (List.take_sublist _ _)
  · rw [List.pairwise_cons]
    refine ⟨fun b hb => ?_, by rw [List.map_drop]; exact ha.sublist (List.drop_sublist _ _)⟩
    obtain ⟨q, hq, rfl⟩ := List.mem_map.1 hb
    exact h2 q hq
  · obtain ⟨q, hq, rfl⟩ := List.mem_map.1 hA
    have hlt := h1 q hq
    simp only [List.mem_cons] at hB
    rcases hB with rfl | hB
    · exact hlt
    · obtain ⟨r, hr, rfl⟩ := List.mem_map.1 hB
      have := h2 r hr
      omega
theorem takeI_asc {t : Table} {s : Inter} {l : Poss} {p : Possession} (ha : Asc l) : Asc (takeI t s l p).1 := by
  unfold takeI
  have hnil : Asc [] := by simp [Asc]
  split
  · exact hnil
  · split
    · exact hnil
    · rename_i h
      split
      · exact hnil
      · split
        · exact hnil
        · exact insI_asc ha (by simpa using h)
theorem giveI_asc {l : Poss} {s : Int} {who : ByteArray} (ha : Asc l) : Asc (giveI l s who).1 := by
  unfold giveI
  have hnil : Asc [] := by simp [Asc]
  split
  · exact hnil
  · split
    · split
      · exact hnil
      · exact ha.sublist ((List.eraseIdx_sublist _ _).map _)
    · exact hnil
theorem order_law {t : Table} {s : Inter} {l : Poss} {p : Possession} {n : Int} (ht : t.Wf) (hs : s.Wf) (hl : l.length ≤ reachBytes ∧ ∀ q ∈ l, q.Wf) (hp : p.Wf) (hn : I64 n) : law42_PossessionOrder t s l p n = some true := by
  have hl1 := len_ok hl.1
  unfold law42_PossessionOrder
  simp only [small_eq t s l ht, alive42, bindM_some, ordered_eq l (show Cnt l by unfold Cnt; omega)]
  cases hb : smallB t s l with
  | false => simp
  | true =>
    obtain ⟨hT, hL⟩ := small_ok hb
    by_cases ha : Asc l
    · have hw := takeI_wf t s l p hL hl.2 hp
      have hw2 := giveI_wf l n p.byV (by omega) hl.2
      have e1 := ordered_eq (takeI t s l p).1 (by have := hw.len; unfold Cnt; omega)
      have e2 := ordered_eq (giveI l n p.byV).1 (by have := hw2.len; unfold Cnt; omega)
      simp only [take_eq t s l p hT (by omega), give_eq l n _ (show l.length ≤ 1000000 by omega), bindM_some, e1, e2, takeI_asc ha, giveI_asc ha]
      simp [ha]
    · simp [ha]

/-! ### Given back after it was taken -/

theorem findI_any (l : Poss) (s : Int) : (findI l s).isSome = l.any fun p => decide (p.sectionV = s) := by
  unfold findI
  rw [List.findIdx?_isSome]
  congr 1
theorem insI_find {l : Poss} {p : Possession} (s : Int) : (findI (insI l p) s).isSome = ((findI l s).isSome || decide (p.sectionV = s)) := by
  rw [findI_any, findI_any, Bool.eq_iff_iff]
  simp only [List.any_eq_true, Bool.or_eq_true, decide_eq_true_eq]
  constructor
  · rintro ⟨q, hq, e⟩
    rcases insI_mem.1 hq with h | h
    · exact .inl ⟨q, h, e⟩
    · subst h; exact .inr e
  · rintro (⟨q, hq, e⟩ | e)
    · exact ⟨q, insI_mem.2 (.inl hq), e⟩
    · exact ⟨p, insI_mem.2 (.inr rfl), e⟩
theorem insI_at {l : Poss} {p : Possession} (hno : findI l p.sectionV = none) : findI (insI l p) p.sectionV = some (placeI l p.sectionV) := by
  have hle := placeI_le l p.sectionV
  have h := findI_no hno
  unfold findI
  rw [List.findIdx?_eq_some_iff_getElem]
  have hlen := insI_len l p
  refine ⟨by omega, ?_, fun j hj => ?_⟩
  · unfold insI
    rw [List.getElem_append_left (by simp; omega), List.getElem_append_right (by simp; exact Nat.min_le_left _ _)]
    simp
  · unfold insI
    rw [List.getElem_append_left (by simp; omega), List.getElem_append_left (by simp; omega), List.getElem_take]
    have := h l[j] (by simp)
    simpa using this
theorem insI_get {l : Poss} {p : Possession} : (insI l p)[placeI l p.sectionV]? = some p := by
  have hle := placeI_le l p.sectionV
  unfold insI
  rw [List.getElem?_append_left (by simp; omega), List.getElem?_append_right (by simp; exact Nat.min_le_left _ _)]
  simp [Nat.min_eq_left hle]
theorem insI_erase {l : Poss} {p : Possession} : (insI l p).eraseIdx (placeI l p.sectionV) = l := by
  have hle := placeI_le l p.sectionV
  unfold insI
  rw [List.append_assoc, List.eraseIdx_append_of_length_le (by simp; exact Nat.min_le_left _ _)]
  simp [Nat.min_eq_left hle]
theorem give_ins {l : Poss} {p : Possession} (hno : findI l p.sectionV = none) (who : ByteArray) : giveI (insI l p) p.sectionV who = if who ≠ p.byV ∧ who ≠ p.withV then ([], 13) else (l, 0) := by
  unfold giveI
  simp only [insI_at hno, insI_get, insI_erase]
theorem restores_law {t : Table} {s : Inter} {l : Poss} {p : Possession} {other : ByteArray} (ht : t.Wf) (hs : s.Wf) (hl : l.length ≤ reachBytes ∧ ∀ q ∈ l, q.Wf) (hp : p.Wf) (ho : other.size ≤ reachBytes) : law42_PossessionRestores t s l p other = some true := by
  unfold law42_PossessionRestores
  simp only [small_eq t s l ht, alive42, bindM_some]
  cases hb : smallB t s l with
  | false => rfl
  | true =>
    obtain ⟨hT, hL⟩ := small_ok hb
    simp only [take_eq t s l p hT (by omega), bindM_some, Bool.not_true, Bool.false_eq_true, if_false]
    by_cases h0 : argB t p = true
    · simp [takeI, h0]
    by_cases h1 : (findI l p.sectionV).isSome = true
    · simp [takeI, h0, h1]
    by_cases h2 : 16 ≤ l.length
    · simp [takeI, h0, h1, h2]
    by_cases h3 : lockedI t s p.sectionV = true
    · simp [takeI, h0, h1, h2, h3]
    have htk : takeI t s l p = (insI l p, 0) := by simp [takeI, h0, h1, h2, h3]
    rw [htk]
    have hno : findI l p.sectionV = none := by simpa using h1
    have hsec : 0 ≤ t.sections ∧ t.sections ≤ 24 := by
      unfold argB at h0
      have hck : checkI t = 0 := by
        have := h0
        simp only [decide_eq_true_eq, not_or] at this
        exact Decidable.not_not.1 this.1
      have := check_lims hck
      unfold limB at this
      have := of_decide_eq_true this
      omega
    obtain ⟨n, hn⟩ := Int.eq_ofNat_of_zero_le hsec.1
    have hil := insI_len l p
    have hcl : ∀ l : Poss, closedI l t.sections = (List.range n).map fun (i : Nat) => (findI l (i : Int)).isSome := fun l => by
      unfold closedI; rw [if_neg (by omega), hn]; rfl
    have hw : PossWf l := ⟨by omega, hl.2⟩
    simp only [if_true, closed_eq l t.sections (show Cnt l by unfold Cnt; omega), closed_eq (insI l p) t.sections (show Cnt (insI l p) by unfold Cnt; omega), bindM_some, give_eq (insI l p) _ _ (show (insI l p).length ≤ 1000000 by omega), give_ins hno]
    rw [hcl, hcl]
    rw [if_neg (by simp [hn])]
    rw [loop_anyI n (fun _ => false) (.inr false) (.inl ()) (by omega)]
    · have hnone : (List.range n).any (fun _ => false) = false := by simp
      simp only [hnone, Bool.false_eq_true, if_false, bindS_inl]
      have e1 : (if p.byV ≠ p.byV ∧ p.byV ≠ p.withV then (([], 13) : Poss × Int) else (l, 0)) = (l, 0) := if_neg (by simp)
      have e2 : (if p.withV ≠ p.byV ∧ p.withV ≠ p.withV then (([], 13) : Poss × Int) else (l, 0)) = (l, 0) := if_neg (by simp)
      simp only [e1, e2, if_true, same_eq l l hw hw, bindM_some, decide_true, Bool.not_true, Bool.false_eq_true, if_false]
      by_cases o1 : other = p.byV
      · simp [o1]
      · by_cases o2 : other = p.withV
        · simp [o1, o2]
        · simp [o1, o2]
    · intro i hi
      have ha : ((List.range n).map fun (i : Nat) => (findI (insI l p) (i : Int)).isSome)[i]? = some (findI (insI l p) (i : Int)).isSome := by simp [hi]
      have hb : ((List.range n).map fun (i : Nat) => (findI l (i : Int)).isSome)[i]? = some (findI l (i : Int)).isSome := by simp [hi]
      have hlen : ((List.range n).map fun (i : Nat) => (findI (insI l p) (i : Int)).isSome).length = n := by simp
      rw [hlen]
      rw [getM_at ha]
      simp only [lt_cast hi, if_true, getM_at hb, insI_find, guardM_true (i64_nat hi (show n ≤ 9223372036854775807 by omega)), bindM_ite, bindM_some]
      have e3 : decide (p.sectionV = (i : Int)) = decide ((i : Int) = p.sectionV) := by rw [Bool.eq_iff_iff]; simp only [decide_eq_true_eq]; exact eq_comm
      rw [e3]
      cases (findI l (i : Int)).isSome <;> simp
    · simp

end Go.Proofs.Ythkgkolgdkcngaa
