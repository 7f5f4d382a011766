/- Trees in place of memory, part A: what it is that a tree stands for a value in a world, and the simulation between an abstract state and a frame with its world. No condition. -/
import Derived.Orders
import Derived.Tactics
import Derived.Laws.World
import Derived.Laws.Cells
import Derived.Laws.Rows
import Derived.Laws.AppendOwn
namespace Go.TL

/-- Immutable data. A slice bears its elements; 'sz' is how many cells an element takes. -/
inductive D where
  | bool (b : Bool)
  | int (k : IntKind) (n : Int)
  | str (s : ByteArray)
  | agg (cs : List D)
  | nilsl
  | sl (sz : Nat) (es : List D)
  | nilptr
  | ptr (e : D) (off : Nat)
  | fn (f : FuncId)
  | clo (f : FuncId) (cs : List D)
  | nilfn
  | iface (t : TypeId) (d : D)
  | nilif
  | nilmap
  deriving Inhabited

def D.cells : D → List D
  | .agg cs => cs
  | d => [d]

def D.one : D → Bool
  | .agg _ => false
  | _ => true

/-- 'd' stands for 'v' in the world 'w'; it reads blocks of X alone. -/
inductive DRep (w : World) (X : Nat → Prop) : D → Value → Prop
  | bool (b : Bool) : DRep w X (.bool b) (.bool b)
  | int (k : IntKind) (n : Int) : DRep w X (.int k n) (.int k n)
  | str (s : ByteArray) : DRep w X (.str s) (.string s)
  | agg (cs : List D) (vs : Array Value) (hl : cs.length = vs.size) (h1 : ∀ c ∈ cs, c.one = true) (h : ∀ (i : Nat) (c : D) (v : Value), cs[i]? = some c → vs[i]? = some v → DRep w X c v) : DRep w X (.agg cs) (.agg vs)
  | nilsl (a : Option Addr) : DRep w X .nilsl (.slice a 0 0)
  | sl0 (sz : Nat) (a : Option Addr) (cap : Nat) : DRep w X (.sl sz []) (.slice a 0 cap)
  | sl (sz : Nat) (es : List D) (ad : Addr) (cap : Nat) (val : Nat → Nat → Value) (hX : X ad.block) (hc : es.length ≤ cap)
      (hs : ∀ (i : Nat) (e : D), es[i]? = some e → e.cells.length = sz)
      (h1 : ∀ (i : Nat) (e : D) (j : Nat) (c : D), es[i]? = some e → e.cells[j]? = some c → c.one = true)
      (hv : ∀ (i : Nat) (e : D) (j : Nat) (c : D), es[i]? = some e → e.cells[j]? = some c → w.cell? (ad.add (i * sz + j)) = some (val i j))
      (hr : ∀ (i : Nat) (e : D) (j : Nat) (c : D), es[i]? = some e → e.cells[j]? = some c → DRep w X c (val i j)) : DRep w X (.sl sz es) (.slice (some ad) es.length cap)
  | nilptr : DRep w X .nilptr (.pointer none)
  | ptr (e : D) (off : Nat) (ad : Addr) (val : Nat → Value) (hX : X ad.block) (h1 : ∀ c ∈ e.cells, c.one = true)
      (hv : ∀ (j : Nat) (c : D), e.cells[off + j]? = some c → w.cell? (ad.add j) = some (val j))
      (hr : ∀ (j : Nat) (c : D), e.cells[off + j]? = some c → DRep w X c (val j)) : DRep w X (.ptr e off) (.pointer (some ad))
  | fn (f : FuncId) : DRep w X (.fn f) (.func (.func f) #[] #[])
  | clo (f : FuncId) (cs : List D) (vs : Array Value) (hl : cs.length = vs.size) (h : ∀ (i : Nat) (c : D) (v : Value), cs[i]? = some c → vs[i]? = some v → DRep w X c v) : DRep w X (.clo f cs) (.func (.func f) #[] vs)
  | nilfn : DRep w X .nilfn .nilFunc
  | iface (t : TypeId) (d : D) (v : Value) (h : DRep w X d v) : DRep w X (.iface t d) (.iface t v)
  | nilif : DRep w X .nilif .nilIface
  | nilmap : DRep w X .nilmap (.map none)

theorem cell?_of_heap {w w' : World} {a : Addr} (h : w'.heap[a.block]? = w.heap[a.block]?) : w'.cell? a = w.cell? a := by simp [World.cell?, h]

theorem add_block (a : Addr) (n : Nat) : (a.add n).block = a.block := by unfold Addr.add; split <;> rfl

theorem add_add' (a : Addr) (i j : Nat) : (a.add i).add j = a.add (i + j) := by
  unfold Addr.add
  by_cases hi : i = 0 <;> by_cases hj : j = 0 <;> simp [hi, hj, Nat.add_assoc]

theorem add_mk (b o n : Nat) : (⟨b, o, none⟩ : Addr).add n = ⟨b, o + n, none⟩ := by
  unfold Addr.add
  by_cases h : n = 0 <;> simp [h]

theorem DRep.mono {w w' : World} {X X' : Nat → Prop} {d : D} {v : Value} (h : DRep w X d v) (hX : ∀ b, X b → X' b) (hw : ∀ b, X b → w'.heap[b]? = w.heap[b]?) : DRep w' X' d v := by
  induction h with
  | bool => exact .bool _
  | int => exact .int _ _
  | str => exact .str _
  | agg cs vs hl h1 _ ih => exact .agg cs vs hl h1 fun i c v hc hv => ih i c v hc hv
  | nilsl => exact .nilsl _
  | sl0 => exact .sl0 _ _ _
  | sl sz es ad cap val hx hc hs h1 hv _ ih =>
    exact .sl sz es ad cap val (hX _ hx) hc hs h1 (fun i e j c he hc => (cell?_of_heap (by rw [add_block]; exact hw _ hx)).trans (hv i e j c he hc)) fun i e j c he hc => ih i e j c he hc
  | nilptr => exact .nilptr
  | ptr e off ad val hx h1 hv _ ih =>
    exact .ptr e off ad val (hX _ hx) h1 (fun j c hc => (cell?_of_heap (by rw [add_block]; exact hw _ hx)).trans (hv j c hc)) fun j c hc => ih j c hc
  | fn => exact .fn _
  | clo f cs vs hl _ ih => exact .clo f cs vs hl fun i c v hc hv => ih i c v hc hv
  | nilfn => exact .nilfn
  | iface t d v _ ih => exact .iface t d v ih
  | nilif => exact .nilif
  | nilmap => exact .nilmap

theorem DRep.oneCell {w : World} {X : Nat → Prop} {d : D} {v : Value} (h : DRep w X d v) (h1 : d.one = true) : v.oneCell' = true ∧ v.cells = #[v] := by
  cases h <;> first | exact ⟨rfl, rfl⟩ | cases h1

/-- The cells of a value that stands for d. -/
theorem DRep.cells {w : World} {X : Nat → Prop} {d : D} {v : Value} (h : DRep w X d v) :
    v.cells.size = d.cells.length ∧ (∀ c ∈ d.cells, c.one = true) ∧ ∀ (j : Nat) (c : D), d.cells[j]? = some c → ∃ u, v.cells[j]? = some u ∧ DRep w X c u := by
  have one : ∀ (d : D) (v : Value), DRep w X d v → d.cells = [d] → d.one = true → v.cells = #[v] →
      v.cells.size = d.cells.length ∧ (∀ c ∈ d.cells, c.one = true) ∧ ∀ (j : Nat) (c : D), d.cells[j]? = some c → ∃ u, v.cells[j]? = some u ∧ DRep w X c u := by
    intro d v hd e1 e2 e3
    rw [e1, e3]
    refine ⟨rfl, by simpa using e2, fun j c hc => ?_⟩
    cases j with
    | zero => simp at hc; subst hc; exact ⟨v, by simp, hd⟩
    | succ j => simp at hc
  cases h with
  | agg cs vs hl h1 hr =>
    refine ⟨hl.symm, h1, fun j c hc => ?_⟩
    have hj : j < vs.size := by rw [← hl]; exact (List.getElem?_eq_some_iff.1 hc).1
    exact ⟨vs[j], by simp [Value.cells, hj], hr j c _ hc (by simp [hj])⟩
  | bool b => exact one _ _ (.bool b) rfl rfl rfl
  | int k n => exact one _ _ (.int k n) rfl rfl rfl
  | str s => exact one _ _ (.str s) rfl rfl rfl
  | nilsl a => exact one _ _ (.nilsl a) rfl rfl rfl
  | sl0 a b c => exact one _ _ (.sl0 a b c) rfl rfl rfl
  | sl a b c d e f g h i j k => exact one _ _ (.sl a b c d e f g h i j k) rfl rfl rfl
  | nilptr => exact one _ _ .nilptr rfl rfl rfl
  | ptr a b c d e f g h => exact one _ _ (.ptr a b c d e f g h) rfl rfl rfl
  | fn f => exact one _ _ (.fn f) rfl rfl rfl
  | clo f cs vs hl h => exact one _ _ (.clo f cs vs hl h) rfl rfl rfl
  | nilfn => exact one _ _ .nilfn rfl rfl rfl
  | iface a b c d => exact one _ _ (.iface a b c d) rfl rfl rfl
  | nilif => exact one _ _ .nilif rfl rfl rfl
  | nilmap => exact one _ _ .nilmap rfl rfl rfl

/-- What a slot or a cell of a local block holds: data, or a road to a block of the call's own (by its number). -/
inductive AV where
  | junk
  | und
  | d (d : D)
  | msl (id sz off len : Nat)
  | mptr (id sz idx off : Nat)
  | mmap (id : Nat)
  | agg (cs : List AV)
  | tup (vs : List AV)
  | fnc (f : FuncId) (cap : List AV)
  | ifc (t : TypeId) (v : AV)
  deriving Inhabited

/-- The blocks of the call's own: the elements of a slice; the cells of one variable; the entries of a map. -/
inductive Blk where
  | dead
  | hole
  | flat (ty : TypeId) (sz : Nat) (es : List D)
  | box (ty : TypeId) (cs : List AV)
  | map (kt vt : TypeId) (es : List (D × D))
  deriving Inhabited

/-- Where the blocks lie ('phi'), how many cells they have ('psi'), and which other blocks data may be read from ('X'). -/
structure Gh where
  phi : Nat → Option Nat
  psi : Nat → Nat
  X : Nat → Prop

def AV.one : AV → Bool
  | .d x => x.one
  | .agg _ | .tup _ | .und | .junk => false
  | _ => true

inductive ARep (w : World) (g : Gh) : AV → Value → Prop
  | junk (v : Value) : ARep w g .junk v
  | und : ARep w g .und undef
  | d (d : D) (v : Value) (h : DRep w g.X d v) : ARep w g (.d d) v
  | msl0 (id sz off : Nat) (a : Option Addr) : ARep w g (.msl id sz off 0) (.slice a 0 0)
  | msl (id sz off len cap b : Nat) (hb : g.phi id = some b) (hc : len ≤ cap) (hp : (off + cap) * sz ≤ g.psi id) : ARep w g (.msl id sz off len) (.slice (some ⟨b, off * sz, none⟩) len cap)
  | mptr (id sz idx off b : Nat) (hb : g.phi id = some b) : ARep w g (.mptr id sz idx off) (.pointer (some ⟨b, idx * sz + off, none⟩))
  | mmap (id b : Nat) (hb : g.phi id = some b) : ARep w g (.mmap id) (.map (some b))
  | agg (cs : List AV) (vs : Array Value) (hl : cs.length = vs.size) (h : ∀ (i : Nat) (c : AV) (v : Value), cs[i]? = some c → vs[i]? = some v → ARep w g c v) : ARep w g (.agg cs) (.agg vs)
  | tup (cs : List AV) (vs : Array Value) (hl : cs.length = vs.size) (h : ∀ (i : Nat) (c : AV) (v : Value), cs[i]? = some c → vs[i]? = some v → ARep w g c v) : ARep w g (.tup cs) (.tuple vs)
  | fnc (f : FuncId) (cs : List AV) (vs : Array Value) (hl : cs.length = vs.size) (h : ∀ (i : Nat) (c : AV) (v : Value), cs[i]? = some c → vs[i]? = some v → ARep w g c v) : ARep w g (.fnc f cs) (.func (.func f) #[] vs)
  | ifc (t : TypeId) (c : AV) (v : Value) (h : ARep w g c v) : ARep w g (.ifc t c) (.iface t v)

/-- The second ghost and world say no less than the first: blocks keep their places and sizes, what data may be read from grows, and reads as it did. -/
structure Grow (w : World) (g : Gh) (w' : World) (g' : Gh) : Prop where
  phi : ∀ i b, g.phi i = some b → g'.phi i = some b
  psi : ∀ i b, g.phi i = some b → g'.psi i = g.psi i
  X : ∀ b, g.X b → g'.X b
  mem : ∀ b, g.X b → w'.heap[b]? = w.heap[b]?

theorem ARep.mono {w w' : World} {g g' : Gh} {v : AV} {u : Value} (h : ARep w g v u) (hg : Grow w g w' g') : ARep w' g' v u := by
  induction h with
  | junk => exact .junk _
  | und => exact .und
  | d d v h => exact .d d v (h.mono hg.X hg.mem)
  | msl0 => exact .msl0 _ _ _ _
  | msl id sz off len cap b hb hc hp => exact .msl id sz off len cap b (hg.phi _ _ hb) hc (by rw [hg.psi _ _ hb]; exact hp)
  | mptr id sz idx off b hb => exact .mptr id sz idx off b (hg.phi _ _ hb)
  | mmap id b hb => exact .mmap id b (hg.phi _ _ hb)
  | agg cs vs hl _ ih => exact .agg cs vs hl fun i c v hc hv => ih i c v hc hv
  | tup cs vs hl _ ih => exact .tup cs vs hl fun i c v hc hv => ih i c v hc hv
  | fnc f cs vs hl _ ih => exact .fnc f cs vs hl fun i c v hc hv => ih i c v hc hv
  | ifc t c v _ ih => exact .ifc t c v ih

theorem ARep.oneCell {w : World} {g : Gh} {c : AV} {v : Value} (h : ARep w g c v) (h1 : c.one = true) : v.oneCell' = true ∧ v.cells = #[v] := by
  cases h with
  | d d v h => exact h.oneCell h1
  | junk => cases h1
  | und => cases h1
  | agg => cases h1
  | tup => cases h1
  | _ => exact ⟨rfl, rfl⟩

def AV.cells : AV → List AV
  | .agg cs => cs
  | .d x => x.cells.map .d
  | v => [v]

/-- Has it cells that can be stored one by one? -/
def AV.flat : AV → Bool
  | .tup _ | .und | .junk => false
  | .agg cs => cs.all AV.one
  | _ => true

theorem ARep.cells {w : World} {g : Gh} {c : AV} {v : Value} (h : ARep w g c v) (hf : c.flat = true) :
    v.cells.size = c.cells.length ∧ (∀ x ∈ c.cells, x.one = true) ∧ ∀ (j : Nat) (x : AV), c.cells[j]? = some x → ∃ u, v.cells[j]? = some u ∧ ARep w g x u := by
  have one : ∀ (c : AV) (v : Value), ARep w g c v → c.cells = [c] → c.one = true → v.cells = #[v] →
      v.cells.size = c.cells.length ∧ (∀ x ∈ c.cells, x.one = true) ∧ ∀ (j : Nat) (x : AV), c.cells[j]? = some x → ∃ u, v.cells[j]? = some u ∧ ARep w g x u := by
    intro d v hd e1 e2 e3
    rw [e1, e3]
    refine ⟨rfl, by simpa using e2, fun j c hc => ?_⟩
    cases j with
    | zero => simp at hc; subst hc; exact ⟨v, by simp, hd⟩
    | succ j => simp at hc
  cases h with
  | junk => cases hf
  | und => cases hf
  | tup => cases hf
  | d d v h =>
    obtain ⟨h1, h2, h3⟩ := h.cells
    refine ⟨by simpa [AV.cells] using h1, ?_, fun j x hx => ?_⟩
    · intro x hx
      simp only [AV.cells, List.mem_map] at hx
      obtain ⟨c, hc, rfl⟩ := hx
      exact h2 c hc
    · simp only [AV.cells, List.getElem?_map, Option.map_eq_some_iff] at hx
      obtain ⟨c, hc, rfl⟩ := hx
      obtain ⟨u, hu, hr⟩ := h3 j c hc
      exact ⟨u, hu, .d c u hr⟩
  | agg cs vs hl hr =>
    refine ⟨hl.symm, by simpa [AV.flat, AV.cells] using hf, fun j c hc => ?_⟩
    have hj : j < vs.size := by rw [← hl]; exact (List.getElem?_eq_some_iff.1 hc).1
    exact ⟨vs[j], by simp [Value.cells, hj], hr j c _ hc (by simp [hj])⟩
  | msl0 a b c d => exact one _ _ (.msl0 a b c d) rfl rfl rfl
  | msl a b c d e f g h i => exact one _ _ (.msl a b c d e f g h i) rfl rfl rfl
  | mptr a b c d e f => exact one _ _ (.mptr a b c d e f) rfl rfl rfl
  | mmap a b c => exact one _ _ (.mmap a b c) rfl rfl rfl
  | fnc a b c d e => exact one _ _ (.fnc a b c d e) rfl rfl rfl
  | ifc a b c d => exact one _ _ (.ifc a b c d) rfl rfl rfl

/-- The block number 'i' as the world holds it. -/
def BRep (w : World) (g : Gh) (i : Nat) : Blk → Prop
  | .dead => True
  | .hole => g.phi i = none
  | .flat ty sz es => (es = [] ∧ g.phi i = none) ∨ ∃ b cells, g.phi i = some b ∧ w.heap[b]? = some (.cells cells ty (0, 0)) ∧ g.psi i = cells.size ∧ es.length * sz ≤ cells.size ∧
      (∀ (k : Nat) (e : D), es[k]? = some e → e.cells.length = sz) ∧ (∀ (k : Nat) (e : D) (j : Nat) (c : D), es[k]? = some e → e.cells[j]? = some c → c.one = true) ∧
      ∀ (k : Nat) (e : D) (j : Nat) (c : D), es[k]? = some e → e.cells[j]? = some c → ∃ v, cells[k * sz + j]? = some v ∧ DRep w g.X c v
  | .box ty cs => ∃ b cells, g.phi i = some b ∧ w.heap[b]? = some (.cells cells ty (0, 0)) ∧ g.psi i = cells.size ∧ cs.length = cells.size ∧
      ∀ (j : Nat) (c : AV) (v : Value), cs[j]? = some c → cells[j]? = some v → ARep w g c v
  | .map _ _ es => ∃ b ents clock, g.phi i = some b ∧ w.heap[b]? = some (.map ents clock) ∧ ents.size = es.length ∧
      ∀ (k : Nat) (e : D × D) (m : MapEntry), es[k]? = some e → ents[k]? = some m → DRep w g.X e.1 m.key ∧ DRep w g.X e.2 m.val

theorem BRep.mono {w w' : World} {g g' : Gh} {i : Nat} {B : Blk} (h : BRep w g i B) (hg : Grow w g w' g') (hn : g.phi i = none → g'.phi i = none)
    (hb : ∀ b, g.phi i = some b → w'.heap[b]? = w.heap[b]?) : BRep w' g' i B := by
  cases B with
  | dead => trivial
  | hole => exact hn h
  | flat ty sz es =>
    rcases h with ⟨he, hp⟩ | ⟨b, cells, hp, hw, hs, hl, h0, h1, hr⟩
    · exact .inl ⟨he, hn hp⟩
    · refine .inr ⟨b, cells, hg.phi _ _ hp, (hb b hp).trans hw, (hg.psi _ _ hp).trans hs, hl, h0, h1, fun k e j c he hc => ?_⟩
      obtain ⟨v, hv, hd⟩ := hr k e j c he hc
      exact ⟨v, hv, hd.mono hg.X hg.mem⟩
  | box ty cs =>
    obtain ⟨b, cells, hp, hw, hs, hl, hr⟩ := h
    exact ⟨b, cells, hg.phi _ _ hp, (hb b hp).trans hw, (hg.psi _ _ hp).trans hs, hl, fun j c v hc hv => (hr j c v hc hv).mono hg⟩
  | map kt vt es =>
    obtain ⟨b, ents, clock, hp, hw, hs, hr⟩ := h
    exact ⟨b, ents, clock, hg.phi _ _ hp, (hb b hp).trans hw, hs, fun k e m he hm => ⟨(hr k e m he hm).1.mono hg.X hg.mem, (hr k e m he hm).2.mono hg.X hg.mem⟩⟩

/-- The slots, newest first. -/
abbrev Fr := List (Nat × AV)

def Fr.get : Fr → Nat → AV
  | [], _ => .junk
  | (k, v) :: r, t => if k = t then v else Fr.get r t

structure St where
  fr : Fr
  hp : List Blk

/-- One call: the program, how many slots it has, the world in which it began, which blocks it was handed ('k' of them; those of 'mv' may be moved), and from which blocks data could be read then. -/
structure Ctx where
  P : Program
  n : Nat
  w0 : World
  k : Nat
  g0 : Gh
  mv : Nat → Bool

structure Sim (C : Ctx) (st : St) (g : Gh) (a : Act) (w : World) : Prop where
  defers : a.defers = []
  size : a.tmps.size = C.n
  fr : ∀ t, ARep w g (st.fr.get t) (a.tmps.getD t undef)
  hp : ∀ (i : Nat) (B : Blk), st.hp[i]? = some B → BRep w g i B
  lt : ∀ (i b : Nat), g.phi i = some b → b < w.heap.size ∧ i < st.hp.length ∧ ¬ g.X b
  inj : ∀ (i j b : Nat) (Bi Bj : Blk), st.hp[i]? = some Bi → st.hp[j]? = some Bj → Bi ≠ .dead → Bj ≠ .dead → g.phi i = some b → g.phi j = some b → i = j
  Xlt : ∀ b, g.X b → b < w.heap.size
  Xold : ∀ b, g.X b → b < C.w0.heap.size → C.g0.X b
  os : w.os = C.w0.os
  tape : w.tape = C.w0.tape
  output : w.output = C.w0.output
  drawn : C.w0.drawn ≤ w.drawn
  grown : C.w0.heap.size ≤ w.heap.size
  keep : ∀ b, b < C.w0.heap.size → (∀ i, i < C.k → C.g0.phi i ≠ some b) → w.heap[b]? = C.w0.heap[b]?
  own : ∀ (i b : Nat), g.phi i = some b → b < C.w0.heap.size → ∃ j, j < C.k ∧ C.g0.phi j = some b
  stay : ∀ (i b : Nat), i < C.k → C.mv i = false → C.g0.phi i = some b → g.psi i = C.g0.psi i ∧ g.phi i = some b
  kle : C.k ≤ st.hp.length

end Go.TL
