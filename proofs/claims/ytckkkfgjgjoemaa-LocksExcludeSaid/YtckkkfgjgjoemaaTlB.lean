/- Trees in place of memory, part B: what becomes of the simulation when a slot is written, a block is made, a block is changed, blocks are renamed, frozen or forgotten. No condition. -/
import Derived.Test.YtckkkfgjgjoemaaTlA
namespace Go.TL

variable {C : Ctx} {st : St} {g : Gh} {a : Act} {w : World}

theorem getD_set (xs : Array Value) (d t : Nat) (v : Value) (hd : d < xs.size) : (xs.setIfInBounds d v).getD t undef = if d = t then v else xs.getD t undef := by
  simp only [Array.getD_eq_getD_getElem?, Array.getElem?_setIfInBounds]
  split
  · rename_i h; subst h; simp
  · rfl

theorem Sim.put (h : Sim C st g a w) {d : Nat} (hd : d < C.n) {x : AV} {v : Value} (hx : ARep w g x v) : Sim C ⟨(d, x) :: st.fr, st.hp⟩ g (a.put (some d) v) w := by
  refine { h with size := ?_, fr := ?_ }
  · simpa [Act.put] using h.size
  · intro t
    simp only [Act.put, Fr.get]
    rw [getD_set _ _ _ _ (by rw [h.size]; exact hd)]
    split
    · exact hx
    · exact h.fr t

/-- Slots may be forgotten. -/
theorem Sim.forget (h : Sim C st g a w) {fr : Fr} (hf : ∀ t, Fr.get fr t = st.fr.get t ∨ Fr.get fr t = .junk) : Sim C ⟨fr, st.hp⟩ g a w :=
  by
  refine { h with fr := fun t => ?_ }
  rcases hf t with e | e
  · simp only [e]; exact h.fr t
  · simp only [e]; exact .junk _

theorem Grow.refl (w : World) (g : Gh) : Grow w g w g := ⟨fun _ _ h => h, fun _ _ _ => rfl, fun _ h => h, fun _ _ => rfl⟩

/-- A world with the same heap and the same outside. -/
theorem Sim.sameHeap (h : Sim C st g a w) {w' : World} (hh : w'.heap = w.heap) (ho : w'.os = w.os) (ht : w'.tape = w.tape) (hout : w'.output = w.output) (hdr : w.drawn ≤ w'.drawn) : Sim C st g a w' := by
  have hg : Grow w g w' g := ⟨fun _ _ h => h, fun _ _ _ => rfl, fun _ h => h, fun _ _ => by rw [hh]⟩
  exact { defers := h.defers, size := h.size, fr := fun t => (h.fr t).mono hg
          hp := fun i B hB => (h.hp i B hB).mono hg id fun b _ => by rw [hh]
          lt := by rw [hh]; exact h.lt
          inj := h.inj, Xlt := by rw [hh]; exact h.Xlt, Xold := h.Xold, os := ho.trans h.os, tape := ht.trans h.tape, output := hout.trans h.output, drawn := Nat.le_trans h.drawn hdr
          grown := by rw [hh]; exact h.grown
          keep := by rw [hh]; exact h.keep
          own := h.own, stay := h.stay, kle := h.kle }

theorem Sim.drew (h : Sim C st g a w) : Sim C st g a w.drew := h.sameHeap rfl rfl rfl rfl (Nat.le_succ _)

def upd {α : Type} (f : Nat → α) (i : Nat) (x : α) : Nat → α := fun j => if j = i then x else f j

theorem upd_same {α : Type} (f : Nat → α) (i : Nat) (x : α) : upd f i x i = x := by simp [upd]
theorem upd_ne {α : Type} (f : Nat → α) {i j : Nat} (x : α) (h : j ≠ i) : upd f i x j = f j := by simp [upd, h]

/-- The ghost behind a new block of n cells, the i-th of the call's own. -/
def Gh.new (g : Gh) (i b n : Nat) : Gh := { g with phi := upd g.phi i (some b), psi := upd g.psi i n }

theorem heap_push (w : World) (o : Obj) (b : Nat) (hb : b < w.heap.size) : (w.alloc o).heap[b]? = w.heap[b]? := heap_alloc_old w o b hb

theorem Sim.phi_none (h : Sim C st g a w) {i : Nat} (hi : st.hp.length ≤ i) : g.phi i = none := by
  cases hp : g.phi i with
  | none => rfl
  | some b => have := (h.lt i b hp).2.1; omega

theorem Sim.grow_new (h : Sim C st g a w) (o : Obj) (n : Nat) : Grow w g (w.alloc o) (g.new st.hp.length w.heap.size n) := by
  refine ⟨fun i b hp => ?_, fun i b hp => ?_, fun b hX => hX, fun b hX => heap_push w o b (h.Xlt b hX)⟩
  · have := (h.lt i b hp).2.1
    simpa [Gh.new, upd, show i ≠ st.hp.length by omega] using hp
  · have := (h.lt i b hp).2.1
    simp [Gh.new, upd, show i ≠ st.hp.length by omega]

/-- A new block of the call's own. -/
theorem Sim.alloc (h : Sim C st g a w) {o : Obj} {n : Nat} {B : Blk} (hB : BRep (w.alloc o) (g.new st.hp.length w.heap.size n) st.hp.length B) :
    Sim C ⟨st.fr, st.hp ++ [B]⟩ (g.new st.hp.length w.heap.size n) a (w.alloc o) := by
  have hg := h.grow_new o n
  have hkeep : ∀ i b, (g.new st.hp.length w.heap.size n).phi i = some b → (i = st.hp.length ∧ b = w.heap.size) ∨ (i ≠ st.hp.length ∧ g.phi i = some b) := by
    intro i b hp
    by_cases hi : i = st.hp.length
    · subst hi; simp [Gh.new, upd] at hp; exact .inl ⟨rfl, hp.symm⟩
    · simp [Gh.new, upd, hi] at hp; exact .inr ⟨hi, hp⟩
  refine { defers := h.defers, size := h.size, fr := fun t => (h.fr t).mono hg, hp := ?_, lt := ?_, inj := ?_, Xlt := ?_, Xold := h.Xold, os := h.os, tape := h.tape, output := h.output, drawn := h.drawn, grown := ?_, keep := ?_, own := ?_, stay := ?_, kle := ?_ }
  · intro i B' hi
    simp only [List.getElem?_append] at hi
    split at hi
    · rename_i hlt
      refine (h.hp i B' hi).mono hg (fun hn => by simpa [Gh.new, upd, show i ≠ st.hp.length by omega] using hn) fun b hb => heap_push w o b (h.lt i b hb).1
    · rename_i hge
      have : i = st.hp.length := by
        rcases Nat.lt_or_ge (i - st.hp.length) 1 with h1 | h1
        · omega
        · rw [List.getElem?_eq_none (by simpa using h1)] at hi; cases hi
      subst this
      simp at hi
      subst hi
      exact hB
  · intro i b hp
    simp only [World.size_alloc, List.length_append, List.length_cons, List.length_nil]
    rcases hkeep i b hp with ⟨rfl, rfl⟩ | ⟨_, hp'⟩
    · exact ⟨by omega, by omega, fun hX => by have := h.Xlt _ hX; omega⟩
    · have := h.lt i b hp'; exact ⟨by omega, by omega, this.2.2⟩
  · intro i j b Bi Bj hBi hBj hdi hdj hi hj
    rcases hkeep i b hi with ⟨rfl, rfl⟩ | ⟨h1, hi'⟩ <;> rcases hkeep j _ hj with ⟨rfl, h2⟩ | ⟨h3, hj'⟩
    · rfl
    · have := (h.lt _ _ hj').1; omega
    · have := (h.lt _ _ hi').1; omega
    · have l1 := (h.lt _ _ hi').2.1
      have l2 := (h.lt _ _ hj').2.1
      rw [List.getElem?_append, if_pos l1] at hBi
      rw [List.getElem?_append, if_pos l2] at hBj
      exact h.inj i j b Bi Bj hBi hBj hdi hdj hi' hj'
  · intro b hX; have := h.Xlt b hX; simp only [World.size_alloc]; omega
  · have := h.grown; simp only [World.size_alloc]; omega
  · intro b hb hk; rw [heap_push w o b (by have := h.grown; omega)]; exact h.keep b hb hk
  · intro i b hp hb
    rcases hkeep i b hp with ⟨rfl, rfl⟩ | ⟨_, hp'⟩
    · have := h.grown; omega
    · exact h.own i b hp' hb
  · intro i b hi hm hp
    have hne : i ≠ st.hp.length := by have := h.kle; omega
    have := h.stay i b hi hm hp
    simpa [Gh.new, upd, hne] using this
  · have := h.kle; simp only [List.length_append, List.length_cons, List.length_nil]; omega

/-- A slice that is nil may be taken for a block of the call's own, without elements. -/
theorem Sim.virt (h : Sim C st g a w) (ty sz : Nat) : Sim C ⟨st.fr, st.hp ++ [.flat ty sz []]⟩ g a w := by
  refine { h with hp := ?_, lt := ?_, inj := ?_, kle := ?_ }
  · intro i B hi
    simp only [List.getElem?_append] at hi
    split at hi
    · exact h.hp i B hi
    · rename_i hge
      have : i = st.hp.length := by
        rcases Nat.lt_or_ge (i - st.hp.length) 1 with h1 | h1
        · omega
        · rw [List.getElem?_eq_none (by simpa using h1)] at hi; cases hi
      subst this
      simp at hi
      subst hi
      exact .inl ⟨rfl, h.phi_none (Nat.le_refl _)⟩
  · intro i b hp
    have := h.lt i b hp
    simp only [List.length_append, List.length_cons, List.length_nil]
    exact ⟨this.1, by omega, this.2.2⟩
  · intro i j b Bi Bj hBi hBj hdi hdj hi hj
    have l1 := (h.lt _ _ hi).2.1
    have l2 := (h.lt _ _ hj).2.1
    rw [List.getElem?_append, if_pos l1] at hBi
    rw [List.getElem?_append, if_pos l2] at hBj
    exact h.inj i j b Bi Bj hBi hBj hdi hdj hi hj
  · have := h.kle; simp only [List.length_append, List.length_cons, List.length_nil]; omega

/-- New memory that nobody will write: data may be read from it. -/
def Gh.wide (g : Gh) (b : Nat) : Gh := { g with X := fun c => g.X c ∨ c = b }

theorem Sim.allocX (h : Sim C st g a w) (o : Obj) : Sim C st (g.wide w.heap.size) a (w.alloc o) ∧ Grow w g (w.alloc o) (g.wide w.heap.size) := by
  have hg : Grow w g (w.alloc o) (g.wide w.heap.size) := ⟨fun _ _ h => h, fun _ _ _ => rfl, fun _ h => .inl h, fun b hX => heap_push w o b (h.Xlt b hX)⟩
  refine ⟨{ defers := h.defers, size := h.size, fr := fun t => (h.fr t).mono hg
            hp := fun i B hB => (h.hp i B hB).mono hg id fun b hb => heap_push w o b (h.lt i b hb).1
            lt := ?_, inj := h.inj, Xlt := ?_, Xold := ?_, os := h.os, tape := h.tape, output := h.output, drawn := h.drawn, grown := ?_, keep := ?_, own := h.own, stay := h.stay, kle := h.kle }, hg⟩
  · intro i b hp
    have := h.lt i b hp
    refine ⟨by simp only [World.size_alloc]; omega, this.2.1, fun hX => ?_⟩
    rcases hX with hX | hX
    · exact this.2.2 hX
    · omega
  · intro b hX
    simp only [World.size_alloc]
    rcases hX with hX | hX
    · have := h.Xlt b hX; omega
    · omega
  · intro b hX hb
    rcases hX with hX | hX
    · exact h.Xold b hX hb
    · have := h.grown; omega
  · have := h.grown; simp only [World.size_alloc]; omega
  · intro b hb hk; rw [heap_push w o b (by have := h.grown; omega)]; exact h.keep b hb hk

/-- A block of the call's own is written: everything else stays. -/
theorem Sim.change (h : Sim C st g a w) {i b : Nat} {B0 : Blk} (hB0 : st.hp[i]? = some B0) (hd0 : B0 ≠ .dead) (hp : g.phi i = some b) {w' : World} (hsz : w'.heap.size = w.heap.size) (ho : w'.os = w.os) (ht : w'.tape = w.tape) (hout : w'.output = w.output) (hdr : w.drawn ≤ w'.drawn)
    (hoth : ∀ b', b' ≠ b → w'.heap[b']? = w.heap[b']?) {B : Blk} (hB : BRep w' g i B) : Sim C ⟨st.fr, st.hp.set i B⟩ g a w' := by
  have hnX : ¬ g.X b := (h.lt i b hp).2.2
  have hg : Grow w g w' g := ⟨fun _ _ h => h, fun _ _ _ => rfl, fun _ h => h, fun c hX => hoth c fun e => hnX (e ▸ hX)⟩
  refine { defers := h.defers, size := h.size, fr := fun t => (h.fr t).mono hg, hp := ?_, lt := ?_, inj := ?_, Xlt := ?_, Xold := h.Xold, os := ho.trans h.os, tape := ht.trans h.tape, output := hout.trans h.output, drawn := Nat.le_trans h.drawn hdr, grown := ?_, keep := ?_, own := h.own, stay := h.stay, kle := ?_ }
  · intro j B' hj
    rw [List.getElem?_set] at hj
    split at hj
    · rename_i e; subst e
      split at hj
      · cases hj; exact hB
      · cases hj
    · rename_i hne
      by_cases hdj : B' = .dead
      · subst hdj; trivial
      · exact (h.hp j B' hj).mono hg id fun c hc => hoth c fun e => hne (h.inj i j b B0 B' hB0 hj hd0 hdj hp (e ▸ hc))
  · rw [hsz]; simpa using h.lt
  · have inv : ∀ (j : Nat) (Bj : Blk), (st.hp.set i B)[j]? = some Bj → Bj ≠ .dead → ∃ B', st.hp[j]? = some B' ∧ B' ≠ .dead := by
      intro j Bj hj hd
      rw [List.getElem?_set] at hj
      split at hj
      · rename_i e; subst e; exact ⟨B0, hB0, hd0⟩
      · exact ⟨Bj, hj, hd⟩
    intro j j' c Bj Bj' h1 h2 h3 h4 h5 h6
    obtain ⟨B1, e1, d1⟩ := inv j Bj h1 h3
    obtain ⟨B2, e2, d2⟩ := inv j' Bj' h2 h4
    exact h.inj j j' c B1 B2 e1 e2 d1 d2 h5 h6
  · rw [hsz]; exact h.Xlt
  · rw [hsz]; exact h.grown
  · intro c hc hk
    have hne : c ≠ b := by
      intro e; subst e
      obtain ⟨j, hj, h0⟩ := h.own i c hp hc
      exact hk j hj h0
    rw [hoth c hne]; exact h.keep c hc hk
  · simpa using h.kle

/-! ### Other names, fewer blocks -/

def AV.isRef : AV → Bool
  | .msl .. | .mptr .. | .mmap _ => true
  | _ => false

mutual
def AV.mapRef (F : AV → AV) : AV → AV
  | .junk => .junk
  | .und => .und
  | .d x => .d x
  | .msl i s o l => F (.msl i s o l)
  | .mptr i s x o => F (.mptr i s x o)
  | .mmap i => F (.mmap i)
  | .agg cs => .agg (AV.mapRefs F cs)
  | .tup cs => .tup (AV.mapRefs F cs)
  | .fnc f cs => .fnc f (AV.mapRefs F cs)
  | .ifc t c => .ifc t (AV.mapRef F c)
def AV.mapRefs (F : AV → AV) : List AV → List AV
  | [] => []
  | c :: r => AV.mapRef F c :: AV.mapRefs F r
end

theorem AV.mapRefs_eq (F : AV → AV) : ∀ cs : List AV, AV.mapRefs F cs = cs.map (AV.mapRef F)
  | [] => rfl
  | c :: r => by simp [AV.mapRefs, AV.mapRefs_eq F r]

theorem ARep.mapRef {w w' : World} {g g' : Gh} {F : AV → AV} (hD : ∀ d v, DRep w g.X d v → DRep w' g'.X d v)
    (hF : ∀ x v, ARep w g x v → x.isRef = true → ARep w' g' (F x) v) {x : AV} {v : Value} (h : ARep w g x v) : ARep w' g' (x.mapRef F) v := by
  induction h with
  | junk => exact .junk _
  | und => exact .und
  | d d v h => exact .d d v (hD d v h)
  | msl0 i s o a => exact hF _ _ (.msl0 i s o a) rfl
  | msl i s o l c b h1 h2 h3 => exact hF _ _ (.msl i s o l c b h1 h2 h3) rfl
  | mptr i s x o b h => exact hF _ _ (.mptr i s x o b h) rfl
  | mmap i b h => exact hF _ _ (.mmap i b h) rfl
  | agg cs vs hl _ ih =>
    simp only [AV.mapRef, AV.mapRefs_eq]
    refine .agg _ vs (by simpa using hl) fun i c v hc hv => ?_
    simp only [List.getElem?_map, Option.map_eq_some_iff] at hc
    obtain ⟨c', hc', rfl⟩ := hc
    exact ih i c' v hc' hv
  | tup cs vs hl _ ih =>
    simp only [AV.mapRef, AV.mapRefs_eq]
    refine .tup _ vs (by simpa using hl) fun i c v hc hv => ?_
    simp only [List.getElem?_map, Option.map_eq_some_iff] at hc
    obtain ⟨c', hc', rfl⟩ := hc
    exact ih i c' v hc' hv
  | fnc f cs vs hl _ ih =>
    simp only [AV.mapRef, AV.mapRefs_eq]
    refine .fnc f _ vs (by simpa using hl) fun i c v hc hv => ?_
    simp only [List.getElem?_map, Option.map_eq_some_iff] at hc
    obtain ⟨c', hc', rfl⟩ := hc
    exact ih i c' v hc' hv
  | ifc t c v _ ih => exact .ifc t _ v ih

def Blk.mapRef (F : AV → AV) : Blk → Blk
  | .dead => .dead
  | .hole => .hole
  | .flat ty sz es => .flat ty sz es
  | .box ty cs => .box ty (AV.mapRefs F cs)
  | .map kt vt es => .map kt vt es

theorem BRep.mapRef {w : World} {g g' : Gh} {F : AV → AV} {i j : Nat} (hphi : g'.phi j = g.phi i) (hpsi : g'.psi j = g.psi i) (hX : ∀ b, g.X b → g'.X b)
    (hF : ∀ x v, ARep w g x v → x.isRef = true → ARep w g' (F x) v) {B : Blk} (h : BRep w g i B) : BRep w g' j (B.mapRef F) := by
  cases B with
  | dead => trivial
  | hole => exact hphi.trans h
  | flat ty sz es =>
    rcases h with ⟨he, hp⟩ | ⟨b, cells, hp, hw, hs, hl, h0, h1, hr⟩
    · exact .inl ⟨he, hphi.trans hp⟩
    · refine .inr ⟨b, cells, hphi.trans hp, hw, hpsi.trans hs, hl, h0, h1, fun k e j c he hc => ?_⟩
      obtain ⟨v, hv, hd⟩ := hr k e j c he hc
      exact ⟨v, hv, hd.mono hX fun _ _ => rfl⟩
  | box ty cs =>
    obtain ⟨b, cells, hp, hw, hs, hl, hr⟩ := h
    refine ⟨b, cells, hphi.trans hp, hw, hpsi.trans hs, by simpa [AV.mapRefs_eq] using hl, fun j c v hc hv => ?_⟩
    simp only [AV.mapRefs_eq, List.getElem?_map, Option.map_eq_some_iff] at hc
    obtain ⟨c', hc', rfl⟩ := hc
    exact (hr j c' v hc' hv).mapRef (fun d v h => h.mono hX fun _ _ => rfl) hF
  | map kt vt es =>
    obtain ⟨b, ents, clock, hp, hw, hs, hr⟩ := h
    exact ⟨b, ents, clock, hphi.trans hp, hw, hs, fun k e m he hm => ⟨(hr k e m he hm).1.mono hX fun _ _ => rfl, (hr k e m he hm).2.mono hX fun _ _ => rfl⟩⟩

def Fr.mapRef (F : AV → AV) : Fr → Fr
  | [] => []
  | (t, v) :: r => (t, v.mapRef F) :: Fr.mapRef F r

theorem Fr.get_mapRef (F : AV → AV) : ∀ (fr : Fr) (t : Nat), (Fr.mapRef F fr).get t = (fr.get t).mapRef F
  | [], _ => rfl
  | (k, v) :: r, t => by
    simp only [Fr.mapRef, Fr.get]
    split
    · rfl
    · exact Fr.get_mapRef F r t

/-- A reference by its other name. -/
def toName (f : Nat → Option Nat) : AV → AV
  | .msl i s o l => match f i with | some j => .msl j s o l | none => .junk
  | .mptr i s x o => match f i with | some j => .mptr j s x o | none => .junk
  | .mmap i => match f i with | some j => .mmap j | none => .junk
  | v => v

theorem ARep.toName {w : World} {g g' : Gh} {f : Nat → Option Nat} (hf : ∀ i j, f i = some j → g'.phi j = g.phi i ∧ g'.psi j = g.psi i) (_hX : ∀ b, g.X b → g'.X b) (x : AV) (v : Value) (h : ARep w g x v)
    (hr : x.isRef = true) : ARep w g' (TL.toName f x) v := by
  cases h with
  | msl0 id sz off a =>
    simp only [TL.toName]
    split
    · exact .msl0 _ _ _ _
    · exact .junk _
  | msl id sz off len cap b hb hc hp =>
    simp only [TL.toName]
    split
    · rename_i j hj
      exact .msl _ _ _ _ _ b ((hf _ _ hj).1.trans hb) hc (by rw [(hf _ _ hj).2]; exact hp)
    · exact .junk _
  | mptr id sz idx off b hb =>
    simp only [TL.toName]
    split
    · rename_i j hj
      exact .mptr _ _ _ _ b ((hf _ _ hj).1.trans hb)
    · exact .junk _
  | mmap id b hb =>
    simp only [TL.toName]
    split
    · rename_i j hj
      exact .mmap _ b ((hf _ _ hj).1.trans hb)
    · exact .junk _
  | _ => cases hr

theorem nodup_inj : ∀ {l : List Nat}, l.Nodup → ∀ {i j x : Nat}, l[i]? = some x → l[j]? = some x → i = j
  | [], _, i, _, _, hi, _ => by simp at hi
  | y :: r, hn, i, j, x, hi, hj => by
    simp only [List.nodup_cons] at hn
    cases i with
    | zero =>
      cases j with
      | zero => rfl
      | succ j => simp at hi hj; subst hi; exact absurd (List.mem_of_getElem? hj) hn.1
    | succ i =>
      cases j with
      | zero => simp at hi hj; subst hj; exact absurd (List.mem_of_getElem? hi) hn.1
      | succ j => simp at hi hj; rw [nodup_inj hn.2 hi hj]

/-- The place of i in a list of numbers. -/
def placeOf : List Nat → Nat → Option Nat
  | [], _ => none
  | x :: r, i => if x = i then some 0 else (placeOf r i).map (· + 1)

theorem placeOf_some : ∀ (l : List Nat) (i j : Nat), placeOf l i = some j → l[j]? = some i
  | [], _, _, h => by cases h
  | x :: r, i, j, h => by
    simp only [placeOf] at h
    split at h
    · rename_i e; cases h; simp [e]
    · simp only [Option.map_eq_some_iff] at h
      obtain ⟨k, hk, rfl⟩ := h
      simpa using placeOf_some r i k hk

def Fr.keep (ks : List Nat) (fr : Fr) : Fr := ks.map fun t => (t, fr.get t)

theorem Fr.get_keep (fr : Fr) : ∀ (ks : List Nat) (t : Nat), (Fr.keep ks fr).get t = fr.get t ∨ (Fr.keep ks fr).get t = .junk
  | [], _ => .inr rfl
  | k :: r, t => by
    simp only [Fr.keep, List.map_cons, Fr.get]
    split
    · rename_i e; subst e; exact .inl rfl
    · exact Fr.get_keep fr r t

/-- Only the slots 'ks' and the blocks 'ids' are kept; the blocks get the numbers of their places in 'ids'. -/
def St.canon (ks ids : List Nat) (st : St) : St :=
  ⟨Fr.mapRef (toName (placeOf ids)) (Fr.keep ks st.fr), ids.map fun i => (st.hp.getD i .dead).mapRef (toName (placeOf ids))⟩

def Gh.canon (ids : List Nat) (g : Gh) : Gh :=
  { phi := fun j => (ids[j]?).bind g.phi, psi := fun j => ((ids[j]?).map g.psi).getD 0, X := g.X }

theorem Sim.canon (h : Sim C st g a w) (ks ids : List Nat) (hnd : ids.Nodup) (hk : ∀ i, i < C.k → ids[i]? = some i) : Sim C (st.canon ks ids) (g.canon ids) a w := by
  have hphi : ∀ i b, (g.canon ids).phi i = some b → ∃ j, ids[i]? = some j ∧ g.phi j = some b := by
    intro i b hp
    simp only [Gh.canon, Option.bind_eq_some_iff] at hp
    exact hp
  have hf : ∀ i j, placeOf ids i = some j → (g.canon ids).phi j = g.phi i ∧ (g.canon ids).psi j = g.psi i := by
    intro i j hij
    have := placeOf_some ids i j hij
    simp [Gh.canon, this]
  refine { defers := h.defers, size := h.size, fr := ?_, hp := ?_, lt := ?_, inj := ?_, Xlt := h.Xlt, Xold := h.Xold, os := h.os, tape := h.tape, output := h.output, drawn := h.drawn, grown := h.grown, keep := h.keep, own := ?_, stay := ?_, kle := ?_ }
  · intro t
    simp only [St.canon, Fr.get_mapRef]
    refine ARep.mapRef (w := w) (g := g) (g' := g.canon ids) (fun d v hd => hd) (ARep.toName hf fun _ hb => hb) ?_
    rcases Fr.get_keep st.fr ks t with e | e <;> rw [e]
    · exact h.fr t
    · exact .junk _
  · intro i B hi
    simp only [St.canon, List.getElem?_map, Option.map_eq_some_iff] at hi
    obtain ⟨j, hj, rfl⟩ := hi
    cases hB : st.hp[j]? with
    | none => simp [List.getD, hB, Blk.mapRef, BRep]
    | some B =>
      rw [List.getD_eq_getElem?_getD, hB]
      exact BRep.mapRef (i := j) (g := g) (g' := g.canon ids) (by simp [Gh.canon, hj]) (by simp [Gh.canon, hj]) (fun _ hb => hb) (ARep.toName hf fun _ hb => hb) (h.hp j B hB)
  · intro i b hp
    obtain ⟨j, hj, hp'⟩ := hphi i b hp
    have := h.lt j b hp'
    exact ⟨this.1, by simpa [St.canon] using (List.getElem?_eq_some_iff.1 hj).1, this.2.2⟩
  · intro i j b Bi Bj hBi hBj hdi hdj hi hj
    obtain ⟨i', hi', hpi⟩ := hphi i b hi
    obtain ⟨j', hj', hpj⟩ := hphi j b hj
    have inv : ∀ (m m' : Nat) (Bm : Blk), ids[m]? = some m' → (st.canon ks ids).hp[m]? = some Bm → Bm ≠ .dead → ∃ B', st.hp[m']? = some B' ∧ B' ≠ .dead := by
      intro m m' Bm hm hB hd
      simp only [St.canon, List.getElem?_map, hm, Option.map_some, Option.some.injEq] at hB
      cases hh : st.hp[m']? with
      | none => rw [List.getD_eq_getElem?_getD, hh] at hB; subst hB; exact absurd rfl hd
      | some B' =>
        refine ⟨B', rfl, fun e => ?_⟩
        subst e
        rw [List.getD_eq_getElem?_getD, hh] at hB
        subst hB
        exact hd rfl
    obtain ⟨B1, e1, d1⟩ := inv i i' Bi hi' hBi hdi
    obtain ⟨B2, e2, d2⟩ := inv j j' Bj hj' hBj hdj
    have e := h.inj i' j' b B1 B2 e1 e2 d1 d2 hpi hpj
    subst e
    exact nodup_inj hnd hi' hj'
  · intro i b hp hb
    obtain ⟨j, hj, hp'⟩ := hphi i b hp
    exact h.own j b hp' hb
  · intro i b hi hm hp
    have := h.stay i b hi hm hp
    simpa [Gh.canon, hk i hi] using this
  · simp only [St.canon, List.length_map]
    rcases Nat.lt_or_ge ids.length C.k with hlt | hge
    · have := hk ids.length hlt; simp at this
    · exact hge

/-! ### A block that moves -/

def purge (i : Nat) : AV → AV
  | .msl j s o l => if j = i then .junk else .msl j s o l
  | .mptr j s x o => if j = i then .junk else .mptr j s x o
  | .mmap j => if j = i then .junk else .mmap j
  | v => v

def St.purge (i : Nat) (st : St) : St := ⟨Fr.mapRef (TL.purge i) st.fr, st.hp.map (Blk.mapRef (TL.purge i))⟩

theorem purge_inv {i j : Nat} {B : Blk} (h : (st.purge i).hp[j]? = some B) (hd : B ≠ .dead) : ∃ B', st.hp[j]? = some B' ∧ B' ≠ .dead := by
  simp only [St.purge, List.getElem?_map, Option.map_eq_some_iff] at h
  obtain ⟨B', hB', rfl⟩ := h
  exact ⟨B', hB', fun e => by subst e; exact hd rfl⟩

/-- Nothing but the block itself knows of block i any more. -/
theorem Sim.purge (h : Sim C st g a w) (i : Nat) : Sim C (st.purge i) g a w := by
  have hF : ∀ (x : AV) (v : Value), ARep w g x v → x.isRef = true → ARep w g (TL.purge i x) v := by
    intro x v hx _
    cases x <;> simp only [TL.purge] <;> (try exact hx) <;> split <;> first | exact .junk _ | exact hx
  refine { h with fr := fun t => ?_, hp := ?_, lt := ?_, inj := ?_, kle := ?_ }
  · simp only [St.purge, Fr.get_mapRef]
    exact (h.fr t).mapRef (fun d v hd => hd) hF
  · intro j B hj
    simp only [St.purge, List.getElem?_map, Option.map_eq_some_iff] at hj
    obtain ⟨B', hB', rfl⟩ := hj
    exact BRep.mapRef rfl rfl (fun _ hb => hb) hF (h.hp j B' hB')
  · simpa [St.purge] using h.lt
  · intro j j' b Bj Bj' h1 h2 h3 h4 h5 h6
    obtain ⟨B1, e1, d1⟩ := purge_inv h1 h3
    obtain ⟨B2, e2, d2⟩ := purge_inv h2 h4
    exact h.inj j j' b B1 B2 e1 e2 d1 d2 h5 h6
  · simpa [St.purge] using h.kle

/-- Block i gets a new place in memory; whoever knew the old one is forgotten. -/
theorem Sim.move (h : Sim C st g a w) {i : Nat} (hi : i < st.hp.length) (hm : i < C.k → C.mv i = true) {o : Obj} {n : Nat} {B : Blk} (hB : BRep (w.alloc o) (g.new i w.heap.size n) i B) :
    Sim C ⟨(st.purge i).fr, (st.purge i).hp.set i B⟩ (g.new i w.heap.size n) a (w.alloc o) := by
  have hF : ∀ (x : AV) (v : Value), ARep w g x v → x.isRef = true → ARep (w.alloc o) (g.new i w.heap.size n) (TL.purge i x) v := by
    intro x v hx _
    have hD : ∀ b, g.X b → (w.alloc o).heap[b]? = w.heap[b]? := fun b hb => heap_push w o b (h.Xlt b hb)
    cases hx with
    | msl0 => simp only [TL.purge]; split <;> first | exact .junk _ | exact .msl0 _ _ _ _
    | msl id sz off len cap b hb hc hp =>
      simp only [TL.purge]
      split
      · exact .junk _
      · rename_i hne; exact .msl _ _ _ _ _ b (by simpa [Gh.new, upd, hne] using hb) hc (by simpa [Gh.new, upd, hne] using hp)
    | mptr id sz idx off b hb =>
      simp only [TL.purge]
      split
      · exact .junk _
      · rename_i hne; exact .mptr _ _ _ _ b (by simpa [Gh.new, upd, hne] using hb)
    | mmap id b hb =>
      simp only [TL.purge]
      split
      · exact .junk _
      · rename_i hne; exact .mmap _ b (by simpa [Gh.new, upd, hne] using hb)
    | d d v hd => exact .d _ _ (hd.mono (fun _ hb => hb) hD)
    | _ => contradiction
  have hD : ∀ (d : D) (v : Value), DRep w g.X d v → DRep (w.alloc o) (g.new i w.heap.size n).X d v := fun d v hd => hd.mono (fun _ hb => hb) fun b hb => heap_push w o b (h.Xlt b hb)
  have hphi : ∀ j b, (g.new i w.heap.size n).phi j = some b → (j = i ∧ b = w.heap.size) ∨ (j ≠ i ∧ g.phi j = some b) := by
    intro j b hp
    by_cases hj : j = i
    · subst hj; simp [Gh.new, upd] at hp; exact .inl ⟨rfl, hp.symm⟩
    · simp [Gh.new, upd, hj] at hp; exact .inr ⟨hj, hp⟩
  refine { defers := h.defers, size := h.size, fr := fun t => ?_, hp := ?_, lt := ?_, inj := ?_, Xlt := ?_, Xold := h.Xold, os := h.os, tape := h.tape, output := h.output, drawn := h.drawn, grown := ?_, keep := ?_, own := ?_, stay := ?_, kle := ?_ }
  · simp only [St.purge, Fr.get_mapRef]
    exact (h.fr t).mapRef hD hF
  · intro j B' hj
    by_cases hji : j = i
    · subst hji
      simp only [St.purge] at hj
      rw [List.getElem?_set, if_pos rfl] at hj
      split at hj
      · cases hj; exact hB
      · cases hj
    · rw [List.getElem?_set, if_neg (fun e => hji e.symm)] at hj
      simp only [St.purge, List.getElem?_map, Option.map_eq_some_iff] at hj
      obtain ⟨B0, hB0, rfl⟩ := hj
      have h0 := h.hp j B0 hB0
      cases B0 with
      | dead => trivial
      | hole =>
        have h0 : g.phi j = none := h0
        show (g.new i w.heap.size n).phi j = none
        simpa [Gh.new, upd, hji] using h0
      | flat ty sz es =>
        rcases h0 with ⟨he, hp⟩ | ⟨b, cells, hp, hw, hs, hl, h00, h1, hr⟩
        · exact .inl ⟨he, by simpa [Gh.new, upd, hji] using hp⟩
        · refine .inr ⟨b, cells, by simpa [Gh.new, upd, hji] using hp, (heap_push w o b (h.lt j b hp).1).trans hw, by simpa [Gh.new, upd, hji] using hs, hl, h00, h1, fun k e jj c he hc => ?_⟩
          obtain ⟨v, hv, hd⟩ := hr k e jj c he hc
          exact ⟨v, hv, hD _ _ hd⟩
      | box ty cs =>
        obtain ⟨b, cells, hp, hw, hs, hl, hr⟩ := h0
        refine ⟨b, cells, by simpa [Gh.new, upd, hji] using hp, (heap_push w o b (h.lt j b hp).1).trans hw, by simpa [Gh.new, upd, hji] using hs, by simpa [AV.mapRefs_eq] using hl, fun jj c v hc hv => ?_⟩
        simp only [AV.mapRefs_eq, List.getElem?_map, Option.map_eq_some_iff] at hc
        obtain ⟨c', hc', rfl⟩ := hc
        exact (hr jj c' v hc' hv).mapRef hD hF
      | map kt vt es =>
        obtain ⟨b, ents, clock, hp, hw, hs, hr⟩ := h0
        exact ⟨b, ents, clock, by simpa [Gh.new, upd, hji] using hp, (heap_push w o b (h.lt j b hp).1).trans hw, hs, fun k e m he hm => ⟨hD _ _ (hr k e m he hm).1, hD _ _ (hr k e m he hm).2⟩⟩
  · intro j b hp
    simp only [World.size_alloc, List.length_set, St.purge, List.length_map]
    rcases hphi j b hp with ⟨rfl, rfl⟩ | ⟨_, hp'⟩
    · exact ⟨by omega, hi, fun hX => by have := h.Xlt _ hX; omega⟩
    · have := h.lt j b hp'; exact ⟨by omega, this.2.1, this.2.2⟩
  · intro j j' b Bj Bj' hBj hBj' hdj hdj' hj hj'
    rcases hphi j b hj with ⟨rfl, rfl⟩ | ⟨h1, h1'⟩ <;> rcases hphi j' _ hj' with ⟨rfl, h2⟩ | ⟨h3, h3'⟩
    · rfl
    · have := (h.lt _ _ h3').1; omega
    · have := (h.lt _ _ h1').1; omega
    · rw [List.getElem?_set, if_neg (fun e => h1 e.symm)] at hBj
      rw [List.getElem?_set, if_neg (fun e => h3 e.symm)] at hBj'
      obtain ⟨B1, e1, d1⟩ := purge_inv hBj hdj
      obtain ⟨B2, e2, d2⟩ := purge_inv hBj' hdj'
      exact h.inj j j' b B1 B2 e1 e2 d1 d2 h1' h3'
  · intro b hX; have := h.Xlt b hX; simp only [World.size_alloc]; omega
  · have := h.grown; simp only [World.size_alloc]; omega
  · intro b hb hk; rw [heap_push w o b (by have := h.grown; omega)]; exact h.keep b hb hk
  · intro j b hp hb
    rcases hphi j b hp with ⟨rfl, rfl⟩ | ⟨_, hp'⟩
    · have := h.grown; omega
    · exact h.own j b hp' hb
  · intro j b hj hmj hp
    have hne : j ≠ i := by
      intro e; subst e
      rw [hm hj] at hmj; cases hmj
    have := h.stay j b hj hmj hp
    simpa [Gh.new, upd, hne] using this
  · have := h.kle; simpa [St.purge] using this

/-! ### Holes: numbers that a region will give to new blocks -/

theorem Sim.hole (h : Sim C st g a w) : Sim C ⟨st.fr, st.hp ++ [.hole]⟩ g a w := by
  refine { h with hp := ?_, lt := ?_, inj := ?_, kle := ?_ }
  · intro i B hi
    simp only [List.getElem?_append] at hi
    split at hi
    · exact h.hp i B hi
    · rename_i hge
      have : i = st.hp.length := by
        rcases Nat.lt_or_ge (i - st.hp.length) 1 with h1 | h1
        · omega
        · rw [List.getElem?_eq_none (by simpa using h1)] at hi; cases hi
      subst this
      simp at hi
      subst hi
      exact h.phi_none (Nat.le_refl _)
  · intro i b hp
    have := h.lt i b hp
    simp only [List.length_append, List.length_cons, List.length_nil]
    exact ⟨this.1, by omega, this.2.2⟩
  · intro i j b Bi Bj hBi hBj hdi hdj hi hj
    have l1 := (h.lt _ _ hi).2.1
    have l2 := (h.lt _ _ hj).2.1
    rw [List.getElem?_append, if_pos l1] at hBi
    rw [List.getElem?_append, if_pos l2] at hBj
    exact h.inj i j b Bi Bj hBi hBj hdi hdj hi hj
  · have := h.kle; simp only [List.length_append, List.length_cons, List.length_nil]; omega

theorem Sim.grow_at (h : Sim C st g a w) (o : Obj) (n : Nat) {i : Nat} (hi : g.phi i = none) : Grow w g (w.alloc o) (g.new i w.heap.size n) := by
  refine ⟨fun j b hp => ?_, fun j b hp => ?_, fun b hX => hX, fun b hX => heap_push w o b (h.Xlt b hX)⟩
  · have hj : j ≠ i := fun e => by subst e; rw [hi] at hp; cases hp
    simpa [Gh.new, upd, hj] using hp
  · have hj : j ≠ i := fun e => by subst e; rw [hi] at hp; cases hp
    simp [Gh.new, upd, hj]

/-- A new block that fills a hole. -/
theorem Sim.fill (h : Sim C st g a w) {i : Nat} (hh : st.hp[i]? = some .hole) {o : Obj} {n : Nat} {B : Blk} (hB : BRep (w.alloc o) (g.new i w.heap.size n) i B) :
    Sim C ⟨st.fr, st.hp.set i B⟩ (g.new i w.heap.size n) a (w.alloc o) := by
  have hno : g.phi i = none := h.hp i _ hh
  have hi : i < st.hp.length := (List.getElem?_eq_some_iff.1 hh).1
  have hg := h.grow_at o n hno
  have hphi : ∀ j b, (g.new i w.heap.size n).phi j = some b → (j = i ∧ b = w.heap.size) ∨ (j ≠ i ∧ g.phi j = some b) := by
    intro j b hp
    by_cases hj : j = i
    · subst hj; simp [Gh.new, upd] at hp; exact .inl ⟨rfl, hp.symm⟩
    · simp [Gh.new, upd, hj] at hp; exact .inr ⟨hj, hp⟩
  refine { defers := h.defers, size := h.size, fr := fun t => (h.fr t).mono hg, hp := ?_, lt := ?_, inj := ?_, Xlt := ?_, Xold := h.Xold, os := h.os, tape := h.tape, output := h.output, drawn := h.drawn, grown := ?_, keep := ?_, own := ?_, stay := ?_, kle := ?_ }
  · intro j B' hj
    rw [List.getElem?_set] at hj
    split at hj
    · rename_i e; subst e
      cases hj; exact hB
    · rename_i hne
      refine (h.hp j B' hj).mono hg (fun hn => ?_) fun b hb => heap_push w o b (h.lt j b hb).1
      simpa [Gh.new, upd, show j ≠ i from fun e => hne e.symm] using hn
  · intro j b hp
    simp only [World.size_alloc, List.length_set]
    rcases hphi j b hp with ⟨rfl, rfl⟩ | ⟨_, hp'⟩
    · exact ⟨by omega, hi, fun hX => by have := h.Xlt _ hX; omega⟩
    · have := h.lt j b hp'; exact ⟨by omega, this.2.1, this.2.2⟩
  · intro j j' b Bj Bj' hBj hBj' hdj hdj' hj hj'
    rcases hphi j b hj with ⟨rfl, rfl⟩ | ⟨h1, h1'⟩ <;> rcases hphi j' _ hj' with ⟨rfl, h2⟩ | ⟨h3, h3'⟩
    · rfl
    · have := (h.lt _ _ h3').1; omega
    · have := (h.lt _ _ h1').1; omega
    · rw [List.getElem?_set, if_neg (fun e => h1 e.symm)] at hBj
      rw [List.getElem?_set, if_neg (fun e => h3 e.symm)] at hBj'
      exact h.inj j j' b Bj Bj' hBj hBj' hdj hdj' h1' h3'
  · intro b hX; have := h.Xlt b hX; simp only [World.size_alloc]; omega
  · have := h.grown; simp only [World.size_alloc]; omega
  · intro b hb hk; rw [heap_push w o b (by have := h.grown; omega)]; exact h.keep b hb hk
  · intro j b hp hb
    rcases hphi j b hp with ⟨rfl, rfl⟩ | ⟨_, hp'⟩
    · have := h.grown; omega
    · exact h.own j b hp' hb
  · intro j b hj hmj hp
    have hne : j ≠ i := fun e => by
      subst e
      have := (h.stay j b hj hmj hp).2
      rw [hno] at this; cases this
    have := h.stay j b hj hmj hp
    simpa [Gh.new, upd, hne] using this
  · have := h.kle; simpa using this

end Go.TL
