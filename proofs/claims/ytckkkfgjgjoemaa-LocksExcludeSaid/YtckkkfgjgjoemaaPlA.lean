/- Loops of partial functions on plain values: what they come to. No condition. -/
import Derived.Test.YtckkkfgjgjoemaaTlO
set_option linter.unusedVariables false
set_option linter.unusedSimpArgs false
namespace Go.Proofs.Ytckkkfgjgjoemaa
open Go Go.TL

@[simp] theorem guardM_true {α : Type} {p : Prop} [Decidable p] {k : Option α} (h : p) : guardM p k = k := if_pos h
@[simp] theorem bindM_some {α β : Type} (a : α) (k : α → Option β) : bindM (some a) k = k a := rfl
@[simp] theorem bindS_inl {α β : Type} (a : α) (k : α → Option β) : bindS (some (.inl a)) k = k a := rfl
@[simp] theorem bindS_inr {α β : Type} (b : β) (k : α → Option β) : bindS (some (.inr b)) k = some b := rfl
@[simp] theorem inrM_some {α β : Type} (b : β) : (inrM (some b) : Option (α ⊕ β)) = some (.inr b) := rfl
theorem getM_at {α β : Type} {l : List α} {i : Nat} {e : α} {k : α → Option β} (h : l[i]? = some e) : getM l (i : Int) k = k e := by simp [getM, h]
theorem getM_int {α β : Type} {l : List α} {i : Int} {e : α} {k : α → Option β} (h0 : 0 ≤ i) (h : l[i.toNat]? = some e) : getM l i k = k e := by simp [getM, h0, h]
@[simp] theorem ite_bindM {α β : Type} {p : Prop} [Decidable p] (a b : α) (k : α → Option β) : bindM (if p then some a else some b) k = k (if p then a else b) := by split <;> rfl
theorem bindM_ite {α β : Type} {p : Prop} [Decidable p] (a b : Option α) (k : α → Option β) : bindM (if p then a else b) k = if p then bindM a k else bindM b k := by split <;> rfl
theorem ite_some {α : Type} {p : Prop} [Decidable p] (a b : α) : (if p then some a else some b) = some (if p then a else b) := by split <;> rfl
theorem bool_ite {p : Prop} [Decidable p] {a b : Bool} : ((if p then a else b) = true) = ((p ∧ a = true) ∨ (¬ p ∧ b = true)) := by split <;> simp_all
theorem sub_drop {α : Type} (l : List α) (i : Nat) : sub l (i : Int) (l.length : Int) = l.drop i := by simp [sub, ← List.length_drop]
theorem sub_take {α : Type} (l : List α) (i : Nat) : sub l 0 (i : Int) = l.take i := by simp [sub]

variable {σ ρ : Type}
theorem iterM_to {f : σ → Option (σ ⊕ ρ)} (B : Nat → σ) {o : ρ} : ∀ (n k : Nat), (∀ i, k ≤ i → i < k + n → f (B i) = some (.inl (B (i + 1)))) → f (B (k + n)) = some (.inr o) → iterM f (n + 1) (B k) = some o
  | 0, k, _, he => by simp only [Nat.add_zero] at he; simp [iterM, he]
  | n + 1, k, hf, he => by
    simp only [iterM]
    rw [hf k (Nat.le_refl _) (by omega)]
    exact iterM_to B n (k + 1) (fun i h1 h2 => hf i (by omega) (by omega)) (by rw [show k + 1 + n = k + (n + 1) by omega]; exact he)
/-- So many rounds, then out. -/
theorem loop_to {f : σ → Option (σ ⊕ ρ)} (B : Nat → σ) (n : Nat) {o : ρ} {s : σ} (hs : s = B 0) (hn : n ≤ 9223372036854775807) (hf : ∀ i, i < n → f (B i) = some (.inl (B (i + 1)))) (he : f (B n) = some (.inr o)) : loopM f s = some o := by
  subst hs
  exact loopM_of (iterM_to B n 0 (fun i _ h => hf i (by omega)) (by rw [Nat.zero_add]; exact he)) (by unfold roundsM; omega)

/-- Counted rounds, each of which may end the loop. -/
theorem loop_cnt {f : Int → Option (Int ⊕ ρ)} (n : Nat) (c : Nat → Option ρ) (o : ρ) (hn : n ≤ 9223372036854775807) (hf : ∀ i, i < n → f (i : Int) = match c i with
    | some r => some (.inr r)
    | none => some (.inl ((i : Int) + 1))) (he : f (n : Int) = some (.inr o)) : loopM f 0 = some (((List.range n).findSome? c).getD o) := by
  cases h : (List.range n).findSome? c with
  | none =>
    rw [List.findSome?_eq_none_iff] at h
    refine loop_to (fun i => (i : Int)) n rfl hn (fun i hi => ?_) he
    rw [hf i hi, h i (List.mem_range.2 hi)]
    rfl
  | some r =>
    rw [List.findSome?_eq_some_iff] at h
    obtain ⟨l1, a, l2, h1, h2, h3⟩ := h
    have ha : l1.length = a ∧ a < n := by
      have hlen : l1.length < (List.range n).length := by rw [h1]; simp
      have : (List.range n)[l1.length]? = some a := by rw [h1]; simp
      simp only [List.length_range] at hlen
      simp [hlen] at this
      exact ⟨this, by omega⟩
    obtain ⟨ha1, ha2⟩ := ha
    refine loop_to (fun i => (i : Int)) a rfl (by omega) (fun i hi => ?_) ?_
    · have hm : i ∈ l1 := by
        have : (List.range n)[i]? = some i := List.getElem?_range (by omega)
        rw [h1, List.getElem?_append_left (by omega)] at this
        exact List.mem_of_getElem? this
      rw [hf i (by omega), h3 i hm]
      rfl
    · rw [hf a ha2, h2]; rfl

theorem findSome_range {α β : Type} (l : List α) (c : Nat → Option β) (d : α → Option β) (h : ∀ (i : Nat) (e : α), l[i]? = some e → c i = d e) : (List.range l.length).findSome? c = l.findSome? d := by
  induction l generalizing c with
  | nil => rfl
  | cons x r ih =>
    rw [List.length_cons, List.range_succ_eq_map, List.findSome?_cons, List.findSome?_map, List.findSome?_cons, h 0 x rfl]
    cases d x with
    | some b => rfl
    | none => exact ih (c ∘ Nat.succ) fun i e he => h (i + 1) e (by simpa using he)

/-- Through a list; a round that ends the loop. -/
theorem loop_list {α : Type} {f : Int → Option (Int ⊕ ρ)} (l : List α) (d : α → Option ρ) (o : ρ) (hn : l.length ≤ 9223372036854775807) (hf : ∀ (i : Nat) (e : α), l[i]? = some e → f (i : Int) = match d e with
    | some r => some (.inr r)
    | none => some (.inl ((i : Int) + 1))) (he : f (l.length : Int) = some (.inr o)) : loopM f 0 = some ((l.findSome? d).getD o) := by
  rw [loop_cnt l.length (fun i => (l[i]?).bind d) o hn (fun i hi => ?_) he, findSome_range l _ d (fun i e he => by simp [he])]
  rw [hf i l[i] (by simp), List.getElem?_eq_getElem hi]
  rfl
theorem findSome_any {α β : Type} (l : List α) (c : α → Bool) (v : β) : l.findSome? (fun e => if c e = true then some v else none) = if l.any c = true then some v else none := by
  induction l with
  | nil => rfl
  | cons x r ih =>
    rw [List.findSome?_cons, List.any_cons, ih]
    cases c x <;> simp
/-- Is there one? -/
theorem loop_any {α : Type} {f : Int → Option (Int ⊕ ρ)} (l : List α) (c : α → Bool) (v o : ρ) (hn : l.length ≤ 9223372036854775807) (hf : ∀ (i : Nat) (e : α), l[i]? = some e → f (i : Int) = if c e = true then some (.inr v) else some (.inl ((i : Int) + 1))) (he : f (l.length : Int) = some (.inr o)) : loopM f 0 = some (if l.any c = true then v else o) := by
  rw [loop_list l (fun e => if c e = true then some v else none) o hn (fun i e h => by rw [hf i e h]; cases c e <;> simp) he, findSome_any]
  split <;> rfl
theorem loop_anyI {f : Int → Option (Int ⊕ ρ)} (n : Nat) (c : Nat → Bool) (v o : ρ) (hn : n ≤ 9223372036854775807) (hf : ∀ i, i < n → f (i : Int) = if c i = true then some (.inr v) else some (.inl ((i : Int) + 1))) (he : f (n : Int) = some (.inr o)) : loopM f 0 = some (if (List.range n).any c = true then v else o) := by
  rw [loop_cnt n (fun e => if c e = true then some v else none) o hn (fun i h => by rw [hf i h]; cases c i <;> simp) he, findSome_any]
  split <;> rfl
/-- Where is the first one? -/
theorem loop_find {α : Type} {f : Int → Option (Int ⊕ ρ)} (l : List α) (c : α → Bool) (w : Nat → ρ) (o : ρ) (hn : l.length ≤ 9223372036854775807) (hf : ∀ (i : Nat) (e : α), l[i]? = some e → f (i : Int) = if c e = true then some (.inr (w i)) else some (.inl ((i : Int) + 1))) (he : f (l.length : Int) = some (.inr o)) : loopM f 0 = some (match l.findIdx? c with | some i => w i | none => o) := by
  cases h : l.findIdx? c with
  | none =>
    rw [List.findIdx?_eq_none_iff] at h
    refine loop_to (fun i => (i : Int)) l.length rfl hn (fun i hi => ?_) he
    rw [hf i l[i] (by simp), if_neg (by rw [h l[i] (by simp)]; simp)]; rfl
  | some k =>
    rw [List.findIdx?_eq_some_iff_getElem] at h
    obtain ⟨hk, h1, h2⟩ := h
    refine loop_to (fun i => (i : Int)) k rfl (by omega) (fun i hi => ?_) ?_
    · have hl : i < l.length := by omega
      have := h2 i hi
      rw [hf i l[i] (by simp), if_neg (by simpa using this)]; rfl
    · rw [hf k l[k] (by simp), if_pos h1]

/-- With something that grows. -/
theorem loop_acc {β : Type} {f : Int × β → Option ((Int × β) ⊕ ρ)} (n : Nat) (B : Nat → β) {o : ρ} {b : β} (hb : b = B 0) (hn : n ≤ 9223372036854775807) (hf : ∀ i, i < n → f ((i : Int), B i) = some (.inl ((i : Int) + 1, B (i + 1)))) (he : f ((n : Int), B n) = some (.inr o)) : loopM f (0, b) = some o :=
  loop_to (fun i => ((i : Int), B i)) n (by rw [hb]; rfl) hn (fun i hi => by rw [hf i hi]; rfl) he

/-- With something that grows, until a round ends it. -/
theorem loop_accx {β : Type} {f : Int × β → Option ((Int × β) ⊕ ρ)} (n : Nat) (B : Nat → β) (c : Nat → Bool) (v o : ρ) {b : β} (hb : b = B 0) (hn : n ≤ 9223372036854775807) (hf : ∀ i, i < n → (∀ j, j < i → c j = false) → f ((i : Int), B i) = if c i = true then some (.inr v) else some (.inl ((i : Int) + 1, B (i + 1)))) (he : (∀ j, j < n → c j = false) → f ((n : Int), B n) = some (.inr o)) : loopM f (0, b) = some (if (List.range n).any c = true then v else o) := by
  cases h : (List.range n).findIdx? c with
  | none =>
    rw [List.findIdx?_eq_none_iff] at h
    have hall : ∀ j, j < n → c j = false := fun j hj => by simpa using h j (List.mem_range.2 hj)
    have hno : ¬ (List.range n).any c = true := by
      rw [List.any_eq_true]
      rintro ⟨j, hj, hc⟩
      rw [hall j (List.mem_range.1 hj)] at hc; cases hc
    rw [if_neg hno]
    exact loop_acc n B hb hn (fun i hi => by rw [hf i hi (fun j hj => hall j (by omega)), hall i hi]; rfl) (he hall)
  | some k =>
    rw [List.findIdx?_eq_some_iff_getElem] at h
    obtain ⟨hk, h1, h2⟩ := h
    simp only [List.length_range] at hk
    simp only [List.getElem_range] at h1
    have hb' : ∀ j, j < k → c j = false := fun j hj => by have := h2 j hj; simpa using this
    have hyes : (List.range n).any c = true := List.any_eq_true.2 ⟨k, List.mem_range.2 hk, h1⟩
    rw [if_pos hyes]
    exact loop_acc k B hb (by omega) (fun i hi => by rw [hf i (by omega) (fun j hj => hb' j (by omega)), hb' i hi]; rfl) (by rw [hf k hk hb', h1]; rfl)

theorem i64_nat {i n : Nat} (h : i < n) (hn : n ≤ 9223372036854775807) : I64 ((i : Int) + 1) := by unfold I64; omega
theorem getD_any {α : Type} (l : List α) (c : α → Bool) : (l.any fun e => c e) = l.any c := rfl

end Go.Proofs.Ytckkkfgjgjoemaa
