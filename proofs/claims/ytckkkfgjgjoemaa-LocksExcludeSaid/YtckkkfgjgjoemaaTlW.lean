/- Trees in place of memory, part W: calls that write the caller's blocks; loops whose state is given by what changes; drawn regions that make blocks or write them. No condition. -/
import Derived.Test.YtckkkfgjgjoemaaTlV
namespace Go.TL

variable {C : Ctx} {st : St} {g : Gh} {a : Act} {w : World} {P : Program}

/-! ### Calls that write the caller's blocks -/

/-- A block's number by its number in the call: the handed ones, and behind one's own those that the call made. -/
def back (ids : List Nat) (n : Nat) (i : Nat) : Nat :=
  match ids[i]? with
  | some j => j
  | none => n + (i - ids.length)

def fwd (ids : List Nat) (n : Nat) : AV → AV
  | .msl i s o l => .msl (back ids n i) s o l
  | .mptr i s x o => .mptr (back ids n i) s x o
  | .mmap i => .mmap (back ids n i)
  | v => v

/-- The blocks behind a call. -/
def hpBack (ids : List Nat) (hp hp' : List Blk) : List Blk :=
  (hp.zipIdx.map fun p => match placeOf ids p.2 with
    | some i => (hp'.getD i .dead).mapRef (fwd ids hp.length)
    | none => p.1) ++ (hp'.drop ids.length).map (Blk.mapRef (fwd ids hp.length))

def Gh.back (g : Gh) (ids : List Nat) (n B : Nat) (g' : Gh) : Gh :=
  { phi := fun j => match placeOf ids j with
      | some i => g'.phi i
      | none => if j < n then g.phi j else g'.phi (ids.length + (j - n))
    psi := fun j => match placeOf ids j with
      | some i => g'.psi i
      | none => if j < n then g.psi j else g'.psi (ids.length + (j - n))
    X := fun b => g.X b ∨ (B ≤ b ∧ g'.X b) }

theorem placeOf_of : ∀ {ids : List Nat}, ids.Nodup → ∀ {i j : Nat}, ids[i]? = some j → placeOf ids j = some i
  | [], _, i, j, h => by simp at h
  | x :: r, hn, i, j, h => by
    simp only [List.nodup_cons] at hn
    cases i with
    | zero => simp at h; subst h; simp [placeOf]
    | succ i =>
      simp at h
      have hne : x ≠ j := fun e => by subst e; exact hn.1 (List.mem_of_getElem? h)
      simp [placeOf, hne, placeOf_of hn.2 h]

theorem placeOf_none {ids : List Nat} {j : Nat} (h : placeOf ids j = none) : ∀ i : Nat, ids[i]? ≠ some j := by
  induction ids with
  | nil => intro i h; simp at h
  | cons x r ih =>
    simp only [placeOf] at h
    split at h
    · cases h
    · rename_i hne
      simp only [Option.map_eq_none_iff] at h
      intro i hi
      cases i with
      | zero => simp at hi; exact hne hi
      | succ i => simp at hi; exact ih h i hi

section back
variable {ids : List Nat} {n B : Nat} {g' : Gh}

theorem back_place (hnd : ids.Nodup) (hlt : ∀ j ∈ ids, j < n) (i : Nat) : (i < ids.length ∧ placeOf ids (back ids n i) = some i) ∨ (ids.length ≤ i ∧ back ids n i = n + (i - ids.length) ∧ placeOf ids (back ids n i) = none) := by
  unfold TL.back
  cases h : ids[i]? with
  | some j => exact .inl ⟨(List.getElem?_eq_some_iff.1 h).1, placeOf_of hnd h⟩
  | none =>
    have hi := List.getElem?_eq_none_iff.1 h
    refine .inr ⟨hi, rfl, ?_⟩
    cases hp : placeOf ids (n + (i - ids.length)) with
    | none => rfl
    | some k => have := hlt _ (List.mem_of_getElem? (placeOf_some ids _ _ hp)); omega

theorem back_phi (hnd : ids.Nodup) (hlt : ∀ j ∈ ids, j < n) (i : Nat) : (g.back ids n B g').phi (back ids n i) = g'.phi i ∧ (g.back ids n B g').psi (back ids n i) = g'.psi i := by
  rcases back_place hnd hlt i with ⟨_, h⟩ | ⟨hi, he, h⟩
  · simp [Gh.back, h]
  · simp only [Gh.back, h]
    rw [he, if_neg (by omega), if_neg (by omega)]
    constructor <;> congr 1 <;> omega

theorem ARep.fwd {w' : World} (hnd : ids.Nodup) (hlt : ∀ j ∈ ids, j < n) {x : AV} {v : Value} (h : ARep w' g' x v) (hr : x.isRef = true) : ARep w' (g.back ids n B g') (TL.fwd ids n x) v := by
  cases h with
  | msl0 => exact .msl0 _ _ _ _
  | msl id sz off len cap b hb hc hp => exact .msl _ _ _ _ _ b ((back_phi hnd hlt id).1.trans hb) hc (by rw [(back_phi hnd hlt id).2]; exact hp)
  | mptr id sz idx off b hb => exact .mptr _ _ _ _ b ((back_phi hnd hlt id).1.trans hb)
  | mmap id b hb => exact .mmap _ b ((back_phi hnd hlt id).1.trans hb)
  | _ => cases hr

end back

theorem hpBack_get {ids : List Nat} {hp hp' : List Blk} {j : Nat} {B : Blk} (h : (hpBack ids hp hp')[j]? = some B) :
    (∃ i, placeOf ids j = some i ∧ j < hp.length ∧ B = (hp'.getD i .dead).mapRef (fwd ids hp.length)) ∨ (placeOf ids j = none ∧ j < hp.length ∧ hp[j]? = some B) ∨
      (hp.length ≤ j ∧ ∃ B', hp'[ids.length + (j - hp.length)]? = some B' ∧ B = B'.mapRef (fwd ids hp.length)) := by
  unfold hpBack at h
  rw [List.getElem?_append] at h
  split at h
  · rename_i hlt
    simp only [List.length_map, List.length_zipIdx] at hlt
    simp only [List.getElem?_map, List.getElem?_zipIdx, Option.map_map, Option.map_eq_some_iff, Function.comp_def, Nat.zero_add] at h
    obtain ⟨B0, hB0, e⟩ := h
    split at e
    · rename_i i hi; exact .inl ⟨i, hi, hlt, e.symm⟩
    · rename_i hi; exact .inr (.inl ⟨hi, hlt, by rw [hB0, e]⟩)
  · rename_i hge
    simp only [List.length_map, List.length_zipIdx] at hge h
    simp only [List.getElem?_map, List.getElem?_drop, Option.map_eq_some_iff] at h
    obtain ⟨B', hB', e⟩ := h
    exact .inr (.inr ⟨by omega, B', hB', e.symm⟩)

theorem hpBack_length {ids : List Nat} {hp hp' : List Blk} : (hpBack ids hp hp').length = hp.length + (hp'.length - ids.length) := by simp [hpBack]

/-- What is handed to a call: the blocks 'ids', in this order, by their new numbers. -/
def hand (ids : List Nat) (hp : List Blk) : List Blk := ids.map fun i => (hp.getD i .dead).mapRef (toName (placeOf ids))

theorem Sim.handed (hs : Sim C st g a w) {ids : List Nat} (hnd : ids.Nodup) : Out ⟨C.P, 0, w, (hand ids st.hp).length, g.canon ids, fun _ => false⟩ (hand ids st.hp) (g.canon ids) w := by
  have hc := hs.canon
  have hphi : ∀ i b, (g.canon ids).phi i = some b → ∃ j, ids[i]? = some j ∧ g.phi j = some b := by
    intro i b hp
    simp only [Gh.canon, Option.bind_eq_some_iff] at hp
    exact hp
  have hf : ∀ i j, placeOf ids i = some j → (g.canon ids).phi j = g.phi i ∧ (g.canon ids).psi j = g.psi i := by
    intro i j hij
    have := placeOf_some ids i j hij
    simp [Gh.canon, this]
  refine { defers := rfl, size := rfl, fr := fun _ => .junk _, hp := ?_, lt := ?_, inj := ?_, Xlt := hs.Xlt, Xold := fun b h _ => h, os := rfl, tape := rfl, output := rfl, drawn := Nat.le_refl _, grown := Nat.le_refl _, keep := fun _ _ _ => rfl, own := ?_, stay := ?_, kle := ?_ }
  · intro i B hi
    simp only [hand, List.getElem?_map, Option.map_eq_some_iff] at hi
    obtain ⟨j, hj, rfl⟩ := hi
    cases hB : st.hp[j]? with
    | none => simp [List.getD, hB, Blk.mapRef, BRep]
    | some B =>
      rw [List.getD_eq_getElem?_getD, hB]
      exact BRep.mapRef (i := j) (g := g) (g' := g.canon ids) (by simp [Gh.canon, hj]) (by simp [Gh.canon, hj]) (fun _ hb => hb) (ARep.toName hf fun _ hb => hb) (hs.hp j B hB)
  · intro i b hp
    obtain ⟨j, hj, hp'⟩ := hphi i b hp
    have := hs.lt j b hp'
    exact ⟨this.1, by simpa [hand] using (List.getElem?_eq_some_iff.1 hj).1, this.2.2⟩
  · intro i j b Bi Bj hBi hBj hdi hdj hi hj
    obtain ⟨i', hi', hpi⟩ := hphi i b hi
    obtain ⟨j', hj', hpj⟩ := hphi j b hj
    have inv : ∀ (m m' : Nat) (Bm : Blk), ids[m]? = some m' → (hand ids st.hp)[m]? = some Bm → Bm ≠ .dead → ∃ B', st.hp[m']? = some B' ∧ B' ≠ .dead := by
      intro m m' Bm hm hB hd
      simp only [hand, List.getElem?_map, hm, Option.map_some, Option.some.injEq] at hB
      cases hh : st.hp[m']? with
      | none => rw [List.getD_eq_getElem?_getD, hh] at hB; subst hB; exact absurd rfl hd
      | some B' =>
        refine ⟨B', rfl, fun e => ?_⟩
        subst e
        rw [List.getD_eq_getElem?_getD, hh] at hB
        subst hB
        exact hd rfl
    obtain ⟨B1, e1, d1⟩ := inv i i' Bi hi' hBi hdi
    obtain ⟨B2, e2, d2⟩ := inv j j' Bj hj' hBj hdj
    have e := hs.inj i' j' b B1 B2 e1 e2 d1 d2 hpi hpj
    subst e
    exact nodup_inj hnd hi' hj'
  · intro i b hp _
    obtain ⟨j, hj, _⟩ := hphi i b hp
    exact ⟨i, by simpa [hand] using (List.getElem?_eq_some_iff.1 hj).1, hp⟩
  · intro i b _ _ hp; exact ⟨rfl, hp⟩
  · exact Nat.le_refl _

theorem Sim.back (hs : Sim C st g a w) {ids : List Nat} (hnd : ids.Nodup) (hal : ∀ j ∈ ids, aliveAt st.hp j = true) {hp' : List Blk} {g' : Gh} {w' : World} (ho : Out ⟨C.P, 0, w, (hand ids st.hp).length, g.canon ids, fun _ => false⟩ hp' g' w') :
    Sim C ⟨st.fr, hpBack ids st.hp hp'⟩ (g.back ids st.hp.length w.heap.size g') a w' := by
  have hlen : (hand ids st.hp).length = ids.length := by simp [hand]
  have hlt : ∀ j ∈ ids, j < st.hp.length := fun j hj => by obtain ⟨B, hB, _⟩ := aliveAt_inv (hal j hj); exact (List.getElem?_eq_some_iff.1 hB).1
  have hcan : ∀ i b, (g.canon ids).phi i = some b → ∃ j : Nat, ids[i]? = some j ∧ g.phi j = some b := by
    intro i b hp
    simp only [Gh.canon, Option.bind_eq_some_iff] at hp
    exact hp
  have hcan' : ∀ i j : Nat, ids[i]? = some j → (g.canon ids).phi i = g.phi j ∧ (g.canon ids).psi i = g.psi j := by
    intro i j hij; simp [Gh.canon, hij]
  have hklen := ho.kle
  simp only [hlen] at hklen
  have hsz := ho.grown
  simp only at hsz
  have hstay : ∀ i j b : Nat, ids[i]? = some j → g.phi j = some b → g'.psi i = g.psi j ∧ g'.phi i = some b := by
    intro i j b hij hp
    have h1 := hcan' i j hij
    have := ho.stay i b (by simp only [hlen]; exact (List.getElem?_eq_some_iff.1 hij).1) rfl (by rw [h1.1]; exact hp)
    simp only at this
    rw [h1.2] at this; exact this
  -- memory that the call was not handed stays
  have hold : ∀ b, b < w.heap.size → (∀ i j : Nat, ids[i]? = some j → g.phi j ≠ some b) → w'.heap[b]? = w.heap[b]? := by
    intro b hb hne
    refine ho.keep b hb fun i hi hp => ?_
    obtain ⟨j, hj, hp'⟩ := hcan i b hp
    exact hne i j hj hp'
  have hold' : ∀ j b (B : Blk), st.hp[j]? = some B → B ≠ .dead → placeOf ids j = none → g.phi j = some b → w'.heap[b]? = w.heap[b]? := by
    intro j b B hB hd hp hb
    refine hold b (hs.lt j b hb).1 fun i j' hij hp' => ?_
    obtain ⟨B', hB', hd'⟩ := aliveAt_inv (hal j' (List.mem_of_getElem? hij))
    have := hs.inj j j' b B B' hB hB' hd hd' hb hp'
    subst this
    exact placeOf_none hp i hij
  -- where a block of the call lies below the old memory's end, it is one of the handed ones
  have hbelow : ∀ i b, g'.phi i = some b → b < w.heap.size → ∃ i' j : Nat, ids[i']? = some j ∧ g.phi j = some b := by
    intro i b hp hb
    obtain ⟨i', _, h⟩ := ho.own i b hp hb
    obtain ⟨j, hj, hp'⟩ := hcan i' b h
    exact ⟨i', j, hj, hp'⟩
  have hX : ∀ b, g'.X b → (g.back ids st.hp.length w.heap.size g').X b := by
    intro b hb
    by_cases hlt' : b < w.heap.size
    · exact .inl (ho.Xold b hb hlt')
    · exact .inr ⟨by omega, hb⟩
  have hgr : Grow w g w' (g.back ids st.hp.length w.heap.size g') := by
    refine ⟨fun j b hp => ?_, fun j b hp => ?_, fun b hb => .inl hb, fun b hb => ?_⟩
    · simp only [Gh.back]
      cases hpl : placeOf ids j with
      | some i => exact (hstay i j b (placeOf_some ids _ _ hpl) hp).2
      | none => simp only; rw [if_pos (hs.lt j b hp).2.1]; exact hp
    · simp only [Gh.back]
      cases hpl : placeOf ids j with
      | some i => exact (hstay i j b (placeOf_some ids _ _ hpl) hp).1
      | none => simp only; rw [if_pos (hs.lt j b hp).2.1]
    · exact hold b (hs.Xlt b hb) fun i j _ hp => (hs.lt j b hp).2.2 hb
  -- three kinds of blocks
  have hphi : ∀ j b, (g.back ids st.hp.length w.heap.size g').phi j = some b → (∃ i, placeOf ids j = some i ∧ g'.phi i = some b) ∨ (placeOf ids j = none ∧ j < st.hp.length ∧ g.phi j = some b) ∨ (st.hp.length ≤ j ∧ g'.phi (ids.length + (j - st.hp.length)) = some b) := by
    intro j b hp
    simp only [Gh.back] at hp
    cases hpl : placeOf ids j with
    | some i => rw [hpl] at hp; exact .inl ⟨i, rfl, hp⟩
    | none =>
      rw [hpl] at hp
      simp only at hp
      split at hp
      · rename_i hj; exact .inr (.inl ⟨rfl, hj, hp⟩)
      · rename_i hj; exact .inr (.inr ⟨by omega, hp⟩)
  refine { defers := hs.defers, size := hs.size, fr := fun t => (hs.fr t).mono hgr, hp := ?_, lt := ?_, inj := ?_, Xlt := ?_, Xold := ?_, os := ho.os.trans hs.os, tape := ho.tape.trans hs.tape, output := ho.output.trans hs.output, drawn := Nat.le_trans hs.drawn ho.drawn, grown := Nat.le_trans hs.grown hsz, keep := ?_, own := ?_, stay := ?_, kle := ?_ }
  · intro j B hj
    have hF : ∀ x v, ARep w' g' x v → x.isRef = true → ARep w' (g.back ids st.hp.length w.heap.size g') (fwd ids st.hp.length x) v := fun x v hx hr => hx.fwd hnd hlt hr
    rcases hpBack_get hj with ⟨i, hpl, hjl, rfl⟩ | ⟨hpl, hjl, hB⟩ | ⟨hjl, B', hB', rfl⟩
    · have hi : i < ids.length := (List.getElem?_eq_some_iff.1 (placeOf_some ids _ _ hpl)).1
      have hB' : hp'[i]? = some (hp'.getD i .dead) := by rw [List.getD_eq_getElem?_getD, List.getElem?_eq_getElem (by omega)]; rfl
      exact BRep.mapRef (i := i) (g := g') (by simp [Gh.back, hpl]) (by simp [Gh.back, hpl]) hX hF (ho.hp i _ hB')
    · by_cases hd : B = .dead
      · subst hd; trivial
      · exact (hs.hp j B hB).mono hgr (fun hn => by simp [Gh.back, hpl, hjl, hn]) fun b hb => hold' j b B hB hd hpl hb
    · have hpl : placeOf ids j = none := by
        cases hp : placeOf ids j with
        | none => rfl
        | some k => have := hlt _ (List.mem_of_getElem? (placeOf_some ids _ _ hp)); omega
      exact BRep.mapRef (i := ids.length + (j - st.hp.length)) (g := g') (by simp [Gh.back, hpl, show ¬ j < st.hp.length by omega]) (by simp [Gh.back, hpl, show ¬ j < st.hp.length by omega]) hX hF (ho.hp _ B' hB')
  · intro j b hp
    rw [hpBack_length]
    have own' : ∀ i, g'.phi i = some b → ¬ (g.back ids st.hp.length w.heap.size g').X b := by
      intro i hi hx
      rcases hx with hx | ⟨_, hx⟩
      · obtain ⟨i', j', _, hp'⟩ := hbelow i b hi (hs.Xlt b hx)
        exact (hs.lt j' b hp').2.2 hx
      · exact (ho.lt i b hi).2.2 hx
    rcases hphi j b hp with ⟨i, hpl, hp'⟩ | ⟨hpl, hjl, hp'⟩ | ⟨hjl, hp'⟩
    · have := hlt _ (List.mem_of_getElem? (placeOf_some ids _ _ hpl))
      exact ⟨(ho.lt i b hp').1, by omega, own' i hp'⟩
    · have := hs.lt j b hp'
      refine ⟨by omega, by omega, fun hx => ?_⟩
      rcases hx with hx | ⟨hx, _⟩
      · exact this.2.2 hx
      · omega
    · have := (ho.lt _ b hp').2.1
      simp only at this
      exact ⟨(ho.lt _ b hp').1, by omega, own' _ hp'⟩
  · intro j j' b Bj Bj' hBj hBj' hdj hdj' hj hj'
    -- what of the call a block is
    have look : ∀ (j : Nat) (Bj : Blk), (hpBack ids st.hp hp')[j]? = some Bj → Bj ≠ .dead → (g.back ids st.hp.length w.heap.size g').phi j = some b →
        (∃ i B, hp'[i]? = some B ∧ B ≠ .dead ∧ g'.phi i = some b ∧ TL.back ids st.hp.length i = j) ∨ (placeOf ids j = none ∧ ∃ B, st.hp[j]? = some B ∧ B ≠ .dead ∧ g.phi j = some b) := by
      intro j Bj hBj hd hp
      rcases hpBack_get hBj with ⟨i, hpl, hjl, rfl⟩ | ⟨hpl, hjl, hB⟩ | ⟨hjl, B', hB', rfl⟩
      · left
        have hij := placeOf_some ids _ _ hpl
        have hi : i < ids.length := (List.getElem?_eq_some_iff.1 hij).1
        refine ⟨i, hp'.getD i .dead, by rw [List.getD_eq_getElem?_getD, List.getElem?_eq_getElem (by omega)]; rfl, fun e => by rw [e] at hd; exact hd rfl, by simpa [Gh.back, hpl] using hp, by simp [TL.back, hij]⟩
      · right
        exact ⟨hpl, Bj, hB, hd, by simpa [Gh.back, hpl, hjl] using hp⟩
      · left
        have hpl : placeOf ids j = none := by
          cases hp : placeOf ids j with
          | none => rfl
          | some k => have := hlt _ (List.mem_of_getElem? (placeOf_some ids _ _ hp)); omega
        refine ⟨ids.length + (j - st.hp.length), B', hB', fun e => by subst e; exact hd rfl, by simpa [Gh.back, hpl, show ¬ j < st.hp.length by omega] using hp, ?_⟩
        simp only [TL.back]
        rw [List.getElem?_eq_none (by omega)]
        simp only
        omega
    have cross : ∀ (i j : Nat) (B : Blk), g'.phi i = some b → placeOf ids j = none → st.hp[j]? = some B → B ≠ .dead → g.phi j = some b → False := by
      intro i j B hi hpl hB hd hj
      obtain ⟨i', j', hij, hp'⟩ := hbelow i b hi (hs.lt j b hj).1
      obtain ⟨B', hB', hd'⟩ := aliveAt_inv (hal j' (List.mem_of_getElem? hij))
      have := hs.inj j j' b B B' hB hB' hd hd' hj hp'
      subst this
      exact placeOf_none hpl i' hij
    rcases look j Bj hBj hdj hj with ⟨i, B, hB, hd, hi, rfl⟩ | ⟨hpl, B, hB, hd, hi⟩ <;> rcases look j' Bj' hBj' hdj' hj' with ⟨i', B', hB', hd', hi', rfl⟩ | ⟨hpl', B', hB', hd', hi'⟩
    · rw [ho.inj i i' b B B' hB hB' hd hd' hi hi']
    · exact (cross i _ B' hi hpl' hB' hd' hi').elim
    · exact (cross i' _ B hi' hpl hB hd hi).elim
    · exact hs.inj _ _ b B B' hB hB' hd hd' hi hi'
  · intro b hb
    rcases hb with hb | ⟨_, hb⟩
    · have := hs.Xlt b hb; omega
    · exact ho.Xlt b hb
  · intro b hb hlt'
    rcases hb with hb | ⟨hge, _⟩
    · exact hs.Xold b hb hlt'
    · have := hs.grown; omega
  · intro b hb hk
    rw [hold b (by have := hs.grown; omega) fun i j _ hp => ?_]
    · exact hs.keep b hb hk
    · obtain ⟨m, hm, h0⟩ := hs.own j b hp hb
      exact hk m hm h0
  · intro j b hp hb
    have hbw : b < w.heap.size := by have := hs.grown; omega
    have own' : ∀ i, g'.phi i = some b → ∃ m, m < C.k ∧ C.g0.phi m = some b := by
      intro i hi
      obtain ⟨_, j', _, hp'⟩ := hbelow i b hi hbw
      exact hs.own j' b hp' hb
    rcases hphi j b hp with ⟨i, _, hp'⟩ | ⟨_, _, hp'⟩ | ⟨_, hp'⟩
    · exact own' i hp'
    · exact hs.own j b hp' hb
    · exact own' _ hp'
  · intro j b hj hm hp
    have h1 := hs.stay j b hj hm hp
    have hjl := hs.kle
    cases hpl : placeOf ids j with
    | some i =>
      have := hstay i j b (placeOf_some ids _ _ hpl) h1.2
      simp only [Gh.back, hpl]
      exact ⟨this.1.trans h1.1, this.2⟩
    | none =>
      simp only [Gh.back, hpl]
      rw [if_pos (by omega), if_pos (by omega)]
      exact h1
  · rw [hpBack_length]; have := hs.kle; omega

/-- A call that is handed blocks of the caller's, which it may write. -/
theorem ok_callW {o : Oper} {K : St → Prop} {f : Operand} {xs : Array Operand} {ts : Array TypeId} {F : FuncId} {c : D} {cs : List D} (ids : List Nat) (args : List AV) (r : AV) (hp' : List Blk) (ho : o.op = .call { callee := .value f, args := xs, argTypes := ts }) (hd : dstOk C.n o.dst = true)
    (hf : st.fr.ev f = .d c) (hc : fnOf c = some (F, cs)) (hnd : ids.Nodup) (hal : (ids.all fun j => aliveAt st.hp j) = true) (hx : (xs.toList.map fun x => (st.fr.ev x).mapRef (toName (placeOf ids))) ++ cs.map .d = args) (hret : Ret C.P F (hand ids st.hp) (fun _ => false) args r hp')
    (hK : K (St.put ⟨st.fr, hpBack ids st.hp hp'⟩ o.dst (r.mapRef (fwd ids st.hp.length)))) : OpOk C o st K := by
  intro g a w Q hs
  have hfv := hs.ev f
  rw [hf] at hfv
  obtain ⟨vs, hv, hvs⟩ : ∃ vs : Array Value, a.eval f = .func (.func F) #[] vs ∧ Pw (DRep w g.X) cs vs.toList := by
    cases hfv with | d _ _ h => exact fnOf_inv h hc
  have hf' : ∀ i j, placeOf ids i = some j → (g.canon ids).phi j = g.phi i ∧ (g.canon ids).psi j = g.psi i := by
    intro i j hij
    have := placeOf_some ids i j hij
    simp [Gh.canon, this]
  have hargs : Pw (ARep w (g.canon ids)) args (xs.map a.eval ++ vs).toList := by
    rw [← hx, Array.toList_append]
    refine Pw.append ⟨by simp, fun i x v hxi hvi => ?_⟩ ⟨by simpa using hvs.1, fun i x v hxi hvi => ?_⟩
    · simp only [List.getElem?_map, Option.map_eq_some_iff] at hxi
      simp only [Array.toList_map, List.getElem?_map, Option.map_eq_some_iff] at hvi
      obtain ⟨y, hy, rfl⟩ := hxi
      obtain ⟨z, hz, rfl⟩ := hvi
      rw [hy] at hz; cases hz
      exact ARep.mapRef (w := w) (g := g) (g' := g.canon ids) (fun d v hd => hd) (ARep.toName hf' fun _ hb => hb) (hs.ev y)
    · simp only [List.getElem?_map, Option.map_eq_some_iff] at hxi
      obtain ⟨d, hd', rfl⟩ := hxi
      exact .d _ _ (hvs.2 i d v hd' hvi)
  have hal' : ∀ j ∈ ids, aliveAt st.hp j = true := fun j hj => List.all_eq_true.1 hal j hj
  have hlt : ∀ j ∈ ids, j < st.hp.length := fun j hj => by obtain ⟨B, hB, _⟩ := aliveAt_inv (hal' j hj); exact (List.getElem?_eq_some_iff.1 hB).1
  simp only [Oper.wp, run_exec_call ho hv hret.1, Oper.upon_enter]
  refine (hret.2 w (g.canon ids) _ (hs.handed hnd) hargs).mono ?_
  rintro e w' ⟨v, g', rfl, hout, hr⟩
  refine ⟨_, _, hK, (hs.back hnd hal' hout).put' hd ?_⟩
  refine ARep.mapRef (w := w') (g := g') (fun d v hd => hd.mono (fun b hb => ?_) fun _ _ => rfl) (fun x v hx hr => hx.fwd hnd hlt hr) hr
  by_cases hlt' : b < w.heap.size
  · exact .inl (hout.Xold b hb hlt')
  · exact .inr ⟨by omega, hb⟩

end Go.TL
