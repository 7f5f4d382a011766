/- Trees in place of memory, part H: a call of a function by its contract. No condition. -/
import Derived.Test.YtckkkfgjgjoemaaTlG
namespace Go.TL

variable {C : Ctx} {st : St} {g : Gh} {a : Act} {w : World} {P : Program}

/-- What a value holds just now, as data. -/
inductive Snap (hp : List Blk) : AV → D → Prop
  | d (x : D) : Snap hp (.d x) x
  | msl (id sz off len : Nat) (ty : TypeId) (es : List D) (h : hp[id]? = some (.flat ty sz es)) (hl : off + len ≤ es.length) : Snap hp (.msl id sz off len) (.sl sz ((es.drop off).take len))
  | mptrF (id sz idx off : Nat) (ty : TypeId) (es : List D) (e : D) (h : hp[id]? = some (.flat ty sz es)) (he : es[idx]? = some e) : Snap hp (.mptr id sz idx off) (.ptr e off)
  | mptrB (id off : Nat) (ty : TypeId) (cs : List AV) (ds : List D) (h : hp[id]? = some (.box ty cs)) (hl : cs.length = ds.length) (h1 : ∀ d ∈ ds, d.one = true) (hs : ∀ (i : Nat) (c : AV) (d : D), cs[i]? = some c → ds[i]? = some d → Snap hp c d) : Snap hp (.mptr id 0 0 off) (.ptr (.agg ds) off)
  | agg (cs : List AV) (ds : List D) (hl : cs.length = ds.length) (h1 : ∀ d ∈ ds, d.one = true) (hs : ∀ (i : Nat) (c : AV) (d : D), cs[i]? = some c → ds[i]? = some d → Snap hp c d) : Snap hp (.agg cs) (.agg ds)
  | clo (f : FuncId) (cs : List AV) (ds : List D) (hl : cs.length = ds.length) (hs : ∀ (i : Nat) (c : AV) (d : D), cs[i]? = some c → ds[i]? = some d → Snap hp c d) : Snap hp (.fnc f cs) (.clo f ds)
  | ifc (t : TypeId) (c : AV) (d : D) (h : Snap hp c d) : Snap hp (.ifc t c) (.iface t d)

theorem Snap.same {hp : List Blk} {x : AV} {d d' : D} (h : Snap hp x d) (e : d = d') : Snap hp x d' := e ▸ h

theorem snap_rep (hs : ∀ (i : Nat) (B : Blk), st.hp[i]? = some B → BRep w g i B) {x : AV} {d : D} (h : Snap st.hp x d) {Y : Nat → Prop} (hX : ∀ b, g.X b → Y b) (hphi : ∀ i b, g.phi i = some b → Y b) : ∀ {v : Value}, ARep w g x v → DRep w Y d v := by
  induction h with
  | d x => intro v hv; cases hv with | d _ _ h => exact h.mono hX fun _ _ => rfl
  | msl id sz off len ty es h hl =>
    intro v hv
    have hlen : ((es.drop off).take len).length = len := by simp; omega
    have hds : ∀ (i : Nat) (e : D), ((es.drop off).take len)[i]? = some e → es[off + i]? = some e := by
      intro i e he
      rw [List.getElem?_take] at he
      split at he
      · rwa [List.getElem?_drop] at he
      · cases he
    cases hv with
    | msl0 => simp only [List.take_zero]; exact .sl0 _ _ _
    | msl _ _ _ _ cap b hb hc hp =>
      rcases hs id _ h with ⟨_, hn⟩ | ⟨b', cells, hp', hw, _, _, h0, h1, hr⟩
      · rw [hb] at hn; cases hn
      · cases hb.symm.trans hp'
        have hcell : ∀ (i : Nat) (e : D) (j : Nat) (c : D), ((es.drop off).take len)[i]? = some e → e.cells[j]? = some c → ∃ v, cells[(off + i) * sz + j]? = some v ∧ DRep w g.X c v := fun i e j c he hc => hr _ e j c (hds i e he) hc
        have hfin := DRep.sl (w := w) (X := Y) sz ((es.drop off).take len) ⟨b, off * sz, none⟩ cap (fun i j => (cells[(off + i) * sz + j]?).getD undef) (hphi _ _ hb) (by rw [hlen]; exact hc) (fun i e he => h0 _ e (hds i e he)) (fun i e j c he hc => h1 _ e j c (hds i e he) hc)
          (fun i e j c he hc => by
            obtain ⟨v, hv, _⟩ := hcell i e j c he hc
            rw [add_mk, cell_of_row w b _ cells ty (0, 0) hw, show off * sz + (i * sz + j) = (off + i) * sz + j by rw [Nat.add_mul]; omega, hv]; rfl)
          (fun i e j c he hc => by
            obtain ⟨v, hv, hd⟩ := hcell i e j c he hc
            rw [hv]
            exact hd.mono hX fun _ _ => rfl)
        rw [hlen] at hfin
        exact hfin
  | mptrF id sz idx off ty es e h he =>
    intro v hv
    obtain ⟨b, hp, rfl⟩ := mptr_inv hv
    rcases hs id _ h with ⟨h0, _⟩ | ⟨b', cells, hp', hw, _, _, _, h1, hr⟩
    · subst h0; simp at he
    · cases hp.symm.trans hp'
      refine .ptr e off _ (fun j => (cells[idx * sz + (off + j)]?).getD undef) (hphi _ _ hp) (fun c hc => ?_) (fun j c hc => ?_) fun j c hc => ?_
      · obtain ⟨j, hj⟩ := List.getElem?_of_mem hc; exact h1 idx e j c he hj
      · obtain ⟨v, hv, _⟩ := hr idx e _ c he hc
        rw [add_mk, cell_of_row w b _ cells ty (0, 0) hw, Nat.add_assoc, hv]; rfl
      · obtain ⟨v, hv, hd⟩ := hr idx e _ c he hc
        rw [hv]
        exact hd.mono hX fun _ _ => rfl
  | mptrB id off ty cs ds h hl h1 hsn ih =>
    intro v hv
    obtain ⟨b, hp, rfl⟩ := mptr_inv hv
    obtain ⟨b', cells, hp', hw, _, hlen, hr⟩ := hs id _ h
    cases hp.symm.trans hp'
    have key : ∀ (j : Nat) (d : D), ds[j]? = some d → ∃ v, cells[j]? = some v ∧ DRep w Y d v := by
      intro j d hd
      have hj := (List.getElem?_eq_some_iff.1 hd).1
      have hjc : j < cells.size := by omega
      exact ⟨cells[j], by simp [hjc], ih j _ d (List.getElem?_eq_getElem (by omega)) hd (hr j _ _ (List.getElem?_eq_getElem (by omega)) (by simp [hjc]))⟩
    refine .ptr (.agg ds) off _ (fun j => (cells[off + j]?).getD undef) (hphi _ _ hp) h1 (fun j c hc => ?_) fun j c hc => ?_
    · obtain ⟨v, hv, _⟩ := key _ c hc
      rw [add_mk, cell_of_row w b _ cells ty (0, 0) hw, show 0 * 0 + off + j = off + j by omega, hv]; rfl
    · obtain ⟨v, hv, hd⟩ := key _ c hc
      rw [hv]
      exact hd
  | agg cs ds hl h1 hsn ih =>
    intro v hv
    cases hv with
    | agg _ vs hlv hr =>
      refine .agg ds vs (by omega) h1 fun i d v hd hv => ?_
      have hi := (List.getElem?_eq_some_iff.1 hd).1
      exact ih i _ d (List.getElem?_eq_getElem (by omega)) hd (hr i _ v (List.getElem?_eq_getElem (by omega)) hv)
  | clo f cs ds hl hsn ih =>
    intro v hv
    cases hv with
    | fnc _ _ vs hlv hr =>
      refine .clo f ds vs (by omega) fun i d v hd hv => ?_
      have hi := (List.getElem?_eq_some_iff.1 hd).1
      exact ih i _ d (List.getElem?_eq_getElem (by omega)) hd (hr i _ v (List.getElem?_eq_getElem (by omega)) hv)
  | ifc t c d h ih =>
    intro v hv
    cases hv with
    | ifc _ _ v h' => exact .iface t d v (ih h')

/-! ### Data without memory -/

mutual
def D.mem0 : D → Bool
  | .agg cs => D.mem0s cs
  | .clo _ cs => D.mem0s cs
  | .sl _ _ => false
  | .ptr _ _ => false
  | .iface _ d => D.mem0 d
  | _ => true
def D.mem0s : List D → Bool
  | [] => true
  | d :: r => D.mem0 d && D.mem0s r
end

theorem D.mem0s_all : ∀ {ds : List D}, D.mem0s ds = true → ∀ d ∈ ds, D.mem0 d = true
  | [], _, d, hd => by simp at hd
  | x :: r, h, d, hd => by
    simp only [D.mem0s, Bool.and_eq_true] at h
    simp only [List.mem_cons] at hd
    rcases hd with rfl | hd
    · exact h.1
    · exact D.mem0s_all h.2 d hd

theorem DRep.any {X Y : Nat → Prop} {d : D} {v : Value} (h : DRep w X d v) (hm : D.mem0 d = true) : DRep w Y d v := by
  induction h with
  | bool => exact .bool _
  | int => exact .int _ _
  | str => exact .str _
  | agg cs vs hl h1 _ ih =>
    simp only [D.mem0] at hm
    exact .agg cs vs hl h1 fun i c v hc hv => ih i c v hc hv (D.mem0s_all hm c (List.mem_of_getElem? hc))
  | clo f cs vs hl _ ih =>
    simp only [D.mem0] at hm
    exact .clo f cs vs hl fun i c v hc hv => ih i c v hc hv (D.mem0s_all hm c (List.mem_of_getElem? hc))
  | nilsl => exact .nilsl _
  | sl0 => simp [D.mem0] at hm
  | sl => simp [D.mem0] at hm
  | nilptr => exact .nilptr
  | ptr => simp [D.mem0] at hm
  | fn => exact .fn _
  | nilfn => exact .nilfn
  | iface t d v _ ih => exact .iface t d v (ih (by simpa [D.mem0] using hm))
  | nilif => exact .nilif
  | nilmap => exact .nilmap

/-- Data in a value, or in a block, without memory. -/
inductive AMem0 : AV → Prop
  | d (x : D) (h : D.mem0 x = true) : AMem0 (.d x)
  | junk : AMem0 .junk
  | und : AMem0 .und
  | msl (i s o l : Nat) : AMem0 (.msl i s o l)
  | mptr (i s x o : Nat) : AMem0 (.mptr i s x o)
  | mmap (i : Nat) : AMem0 (.mmap i)
  | agg (cs : List AV) (h : ∀ c ∈ cs, AMem0 c) : AMem0 (.agg cs)
  | tup (cs : List AV) (h : ∀ c ∈ cs, AMem0 c) : AMem0 (.tup cs)
  | fnc (f : FuncId) (cs : List AV) (h : ∀ c ∈ cs, AMem0 c) : AMem0 (.fnc f cs)
  | ifc (t : TypeId) (c : AV) (h : AMem0 c) : AMem0 (.ifc t c)

def BMem0 : Blk → Prop
  | .dead => True
  | .hole => True
  | .flat _ _ es => ∀ e ∈ es, D.mem0 e = true
  | .box _ cs => ∀ c ∈ cs, AMem0 c
  | .map _ _ es => ∀ e ∈ es, D.mem0 e.1 = true ∧ D.mem0 e.2 = true

theorem mem0_cells {e c : D} (h : D.mem0 e = true) (hc : c ∈ e.cells) : D.mem0 c = true := by
  cases e with
  | agg cs => simp only [D.mem0] at h; exact D.mem0s_all h c hc
  | _ => simp only [D.cells, List.mem_singleton] at hc; subst hc; exact h

theorem ARep.any {Y : Nat → Prop} {x : AV} {v : Value} (h : ARep w g x v) (hm : AMem0 x) : ARep w { g with X := Y } x v := by
  induction h with
  | junk => exact .junk _
  | und => exact .und
  | d d v h => cases hm with | d _ hm => exact .d d v (h.any hm)
  | msl0 => exact .msl0 _ _ _ _
  | msl id sz off len cap b hb hc hp => exact .msl id sz off len cap b hb hc hp
  | mptr id sz idx off b hb => exact .mptr id sz idx off b hb
  | mmap id b hb => exact .mmap id b hb
  | agg cs vs hl _ ih => cases hm with | agg _ hm => exact .agg cs vs hl fun i c v hc hv => ih i c v hc hv (hm c (List.mem_of_getElem? hc))
  | tup cs vs hl _ ih => cases hm with | tup _ hm => exact .tup cs vs hl fun i c v hc hv => ih i c v hc hv (hm c (List.mem_of_getElem? hc))
  | fnc f cs vs hl _ ih => cases hm with | fnc _ _ hm => exact .fnc f cs vs hl fun i c v hc hv => ih i c v hc hv (hm c (List.mem_of_getElem? hc))
  | ifc t c v _ ih => cases hm with | ifc _ _ hm => exact .ifc t c v (ih hm)

theorem BRep.any {Y : Nat → Prop} {i : Nat} {B : Blk} (h : BRep w g i B) (hm : BMem0 B) : BRep w { g with X := Y } i B := by
  cases B with
  | dead => trivial
  | hole => exact h
  | flat ty sz es =>
    rcases h with h | ⟨b, cells, h1, h2, h3, h4, h5, h6, h7⟩
    · exact .inl h
    · refine .inr ⟨b, cells, h1, h2, h3, h4, h5, h6, fun k e j c he hc => ?_⟩
      obtain ⟨v, hv, hd⟩ := h7 k e j c he hc
      exact ⟨v, hv, hd.any (mem0_cells (hm e (List.mem_of_getElem? he)) (List.mem_of_getElem? hc))⟩
  | box ty cs =>
    obtain ⟨b, cells, h1, h2, h3, h4, h5⟩ := h
    exact ⟨b, cells, h1, h2, h3, h4, fun j c v hc hv => (h5 j c v hc hv).any (hm c (List.mem_of_getElem? hc))⟩
  | map kt vt es =>
    obtain ⟨b, ents, clock, h1, h2, h3, h4⟩ := h
    exact ⟨b, ents, clock, h1, h2, h3, fun k e m he hm' => ⟨(h4 k e m he hm').1.any (hm e (List.mem_of_getElem? he)).1, (h4 k e m he hm').2.any (hm e (List.mem_of_getElem? he)).2⟩⟩

/-! ### The call -/

theorem run_exec_call {o : Oper} {f : Operand} {xs : Array Operand} {ts : Array TypeId} {F : FuncId} {caps : Array Value} (ho : o.op = .call { callee := .value f, args := xs, argTypes := ts }) (hf : a.eval f = .func (.func F) #[] caps) (hc : callB P F = true) :
    (execOp a.eval o).run P w = .ok (.enter F (xs.map a.eval ++ caps)) w := by
  unfold callB at hc
  cases hfn : P.funcs[F]? with
  | none => simp [hfn] at hc
  | some fn =>
    simp only [hfn, Bool.and_eq_true, Bool.not_eq_true'] at hc
    have hb : fn.body.isNone = false := by cases h : fn.body <;> simp_all
    have hcall : (callFunc F (xs.map a.eval ++ caps)).run P w = .ok (.enter F (xs.map a.eval ++ caps)) w := by
      unfold callFunc
      simp only [Sem.run_bind, run_program, Result.andThen_ok, hfn]
      rw [if_neg (by rw [hc.1]; exact Bool.false_ne_true), if_neg (by rw [hb]; exact Bool.false_ne_true)]
      rfl
    simp only [execOp, ho, resolve, hf, Deferred.ofValue, invoke, Sem.run_bind, Sem.run_pure, Result.andThen_ok, Array.empty_append]
    exact hcall

theorem fn_inv {F : FuncId} {v : Value} (h : ARep w g (.d (.fn F)) v) : v = .func (.func F) #[] #[] := by
  cases h with
  | d _ _ h => cases h; rfl

/-- The arguments of a call, as data. -/
def Snaps (hp : List Blk) (xs : List AV) (ds : List D) : Prop := xs.length = ds.length ∧ ∀ (i : Nat) (x : AV) (d : D), xs[i]? = some x → ds[i]? = some d → Snap hp x d

theorem snaps_nil {hp : List Blk} : Snaps hp [] [] := ⟨rfl, fun i x d h => by simp at h⟩
theorem snaps_cons {hp : List Blk} {x : AV} {xs : List AV} {d : D} {ds : List D} (h : Snap hp x d) (h' : Snaps hp xs ds) : Snaps hp (x :: xs) (d :: ds) := by
  refine ⟨by simp [h'.1], fun i y e hy he => ?_⟩
  cases i with
  | zero => simp at hy he; subst hy he; exact h
  | succ i => exact h'.2 i y e (by simpa using hy) (by simpa using he)

def ghost0 (X : Nat → Prop) : Gh := { phi := fun _ => none, psi := fun _ => 0, X := X }

theorem out0 (_hs : Sim C st g a w) (mv : Nat → Bool) {X : Nat → Prop} (hX : ∀ b, X b → b < w.heap.size) : Out ⟨C.P, 0, w, 0, ghost0 X, mv⟩ [] (ghost0 X) w :=
  { defers := rfl, size := rfl, fr := fun _ => .junk _, hp := fun i B h => by simp at h, lt := fun i b h => by simp [ghost0] at h, inj := fun i j b _ _ _ _ _ _ h => by simp [ghost0] at h, Xlt := hX, Xold := fun b h _ => h
    os := rfl, tape := rfl, output := rfl, drawn := Nat.le_refl _, grown := Nat.le_refl _, keep := fun _ _ _ => rfl, own := fun i b h => by simp [ghost0] at h, stay := fun i b h => absurd h (Nat.not_lt_zero i), kle := Nat.zero_le _ }

def shift (n : Nat) : AV → AV
  | .msl i s o l => .msl (n + i) s o l
  | .mptr i s x o => .mptr (n + i) s x o
  | .mmap i => .mmap (n + i)
  | v => v

/-- The ghost behind a call: the callee's blocks behind one's own. -/
def Gh.join (g : Gh) (n B : Nat) (g' : Gh) : Gh :=
  { phi := fun j => if j < n then g.phi j else g'.phi (j - n), psi := fun j => if j < n then g.psi j else g'.psi (j - n), X := fun b => g.X b ∨ (B ≤ b ∧ g'.X b) }

theorem Gh.join_phi (g : Gh) (n B : Nat) (g' : Gh) (i : Nat) : (g.join n B g').phi (n + i) = g'.phi i := by simp [Gh.join, show ¬ n + i < n by omega]
theorem Gh.join_psi (g : Gh) (n B : Nat) (g' : Gh) (i : Nat) : (g.join n B g').psi (n + i) = g'.psi i := by simp [Gh.join, show ¬ n + i < n by omega]

theorem ARep.shift {g' : Gh} {n B : Nat} {w' : World} (hX : ∀ b, g'.X b → b < B → g.X b) {x : AV} {v : Value} (h : ARep w' g' x v) : ARep w' (g.join n B g') (x.mapRef (TL.shift n)) v := by
  have hX' : ∀ b, g'.X b → (g.join n B g').X b := by
    intro b hb
    by_cases hlt : b < B
    · exact .inl (hX b hb hlt)
    · exact .inr ⟨by omega, hb⟩
  refine ARep.mapRef (w := w') (g := g') (fun d v hd => hd.mono hX' fun _ _ => rfl) ?_ h
  intro x v hx _
  cases hx with
  | msl0 => exact .msl0 _ _ _ _
  | msl id sz off len cap b hb hc hp => exact .msl _ _ _ _ _ b ((Gh.join_phi ..).trans hb) hc (by rw [Gh.join_psi]; exact hp)
  | mptr id sz idx off b hb => exact .mptr _ _ _ _ b ((Gh.join_phi ..).trans hb)
  | mmap id b hb => exact .mmap _ b ((Gh.join_phi ..).trans hb)
  | d d v hd => exact .d d v (hd.mono hX' fun _ _ => rfl)
  | _ => contradiction

/-- What stands behind a call that was handed no block to write. -/
theorem Sim.after (hs : Sim C st g a w) {hp' : List Blk} {g' : Gh} {w' : World} {mv : Nat → Bool} {X : Nat → Prop} (ho : Out ⟨C.P, 0, w, 0, ghost0 X, mv⟩ hp' g' w') (hX : ∀ b, g'.X b → b < w.heap.size → g.X b) :
    Sim C ⟨st.fr, st.hp ++ hp'.map (Blk.mapRef (shift st.hp.length))⟩ (g.join st.hp.length w.heap.size g') a w' := by
  have hold : ∀ b, b < w.heap.size → w'.heap[b]? = w.heap[b]? := fun b hb => ho.keep b hb fun i hi => absurd hi (Nat.not_lt_zero i)
  have hnew : ∀ i b, g'.phi i = some b → w.heap.size ≤ b := by
    intro i b hp
    rcases Nat.lt_or_ge b w.heap.size with hlt | hge
    · obtain ⟨_, hj, _⟩ := ho.own i b hp hlt; exact absurd hj (Nat.not_lt_zero _)
    · exact hge
  have hgr : Grow w g w' (g.join st.hp.length w.heap.size g') := by
    refine ⟨fun i b hp => ?_, fun i b hp => ?_, fun b hb => .inl hb, fun b hb => hold b (hs.Xlt b hb)⟩
    · have := (hs.lt i b hp).2.1; simpa [Gh.join, this] using hp
    · have := (hs.lt i b hp).2.1; simp [Gh.join, this]
  have hphi : ∀ i b, (g.join st.hp.length w.heap.size g').phi i = some b → (i < st.hp.length ∧ g.phi i = some b) ∨ (st.hp.length ≤ i ∧ g'.phi (i - st.hp.length) = some b) := by
    intro i b hp
    by_cases hi : i < st.hp.length
    · exact .inl ⟨hi, by simpa [Gh.join, hi] using hp⟩
    · exact .inr ⟨by omega, by simpa [Gh.join, hi] using hp⟩
  have hsz := ho.grown
  simp only at hsz
  refine { defers := hs.defers, size := hs.size, fr := fun t => (hs.fr t).mono hgr, hp := ?_, lt := ?_, inj := ?_, Xlt := ?_, Xold := ?_, os := ho.os.trans hs.os, tape := ho.tape.trans hs.tape, output := ho.output.trans hs.output, drawn := Nat.le_trans hs.drawn ho.drawn, grown := Nat.le_trans hs.grown hsz, keep := ?_, own := ?_, stay := ?_, kle := ?_ }
  · intro i B hi
    rw [List.getElem?_append] at hi
    split at hi
    · rename_i hlt
      exact (hs.hp i B hi).mono hgr (fun hn => by simpa [Gh.join, hlt] using hn) fun b hb => hold b (hs.lt i b hb).1
    · rename_i hge
      simp only [List.getElem?_map, Option.map_eq_some_iff] at hi
      obtain ⟨B', hB', rfl⟩ := hi
      have hX' : ∀ b, g'.X b → (g.join st.hp.length w.heap.size g').X b := by
        intro b hb
        by_cases hlt : b < w.heap.size
        · exact .inl (hX b hb hlt)
        · exact .inr ⟨by omega, hb⟩
      refine BRep.mapRef (i := i - st.hp.length) (g := g') (by simp [Gh.join, hge]) (by simp [Gh.join, hge]) hX' ?_ (ho.hp _ B' hB')
      intro x v hx hr
      have := hx.shift (n := st.hp.length) (g := g) (B := w.heap.size) hX
      cases x <;> first | exact this | cases hr
  · intro i b hp
    simp only [List.length_append, List.length_map]
    rcases hphi i b hp with ⟨hi, hp'⟩ | ⟨hi, hp'⟩
    · have := hs.lt i b hp'
      refine ⟨by omega, by omega, fun hX => ?_⟩
      rcases hX with hX | ⟨hX, _⟩
      · exact this.2.2 hX
      · omega
    · have := ho.lt _ b hp'
      simp only at this
      refine ⟨this.1, by omega, fun hX => ?_⟩
      have hge := hnew _ b hp'
      rcases hX with hX | ⟨_, hX⟩
      · have := hs.Xlt b hX; omega
      · exact this.2.2 hX
  · intro i j b Bi Bj hBi hBj hdi hdj hi hj
    rw [List.getElem?_append] at hBi hBj
    rcases hphi i b hi with ⟨h1, h1'⟩ | ⟨h1, h1'⟩ <;> rcases hphi j b hj with ⟨h2, h2'⟩ | ⟨h2, h2'⟩
    · rw [if_pos h1] at hBi; rw [if_pos h2] at hBj; exact hs.inj i j b Bi Bj hBi hBj hdi hdj h1' h2'
    · have := hnew _ b h2'; have := (hs.lt i b h1').1; omega
    · have := hnew _ b h1'; have := (hs.lt j b h2').1; omega
    · rw [if_neg (by omega)] at hBi hBj
      simp only [List.getElem?_map, Option.map_eq_some_iff] at hBi hBj
      obtain ⟨B1, e1, rfl⟩ := hBi
      obtain ⟨B2, e2, rfl⟩ := hBj
      have := ho.inj _ _ b B1 B2 e1 e2 (fun e => by subst e; exact hdi rfl) (fun e => by subst e; exact hdj rfl) h1' h2'
      omega
  · intro b hb
    rcases hb with hb | ⟨_, hb⟩
    · have := hs.Xlt b hb; omega
    · exact ho.Xlt b hb
  · intro b hb hlt
    rcases hb with hb | ⟨hge, _⟩
    · exact hs.Xold b hb hlt
    · have := hs.grown; omega
  · intro b hb hk
    rw [hold b (by have := hs.grown; omega)]
    exact hs.keep b hb hk
  · intro i b hp hb
    rcases hphi i b hp with ⟨_, hp'⟩ | ⟨_, hp'⟩
    · exact hs.own i b hp' hb
    · have := hnew _ b hp'; have := hs.grown; omega
  · intro i b hi hm hp
    have hlt : i < st.hp.length := by have := hs.kle; omega
    have := hs.stay i b hi hm hp
    simpa [Gh.join, hlt] using this
  · have := hs.kle; simp only [List.length_append, List.length_map]; omega

theorem args_rep (hs : Sim C st g a w) {xs : Array Operand} {ds : List D} (h : Snaps st.hp (xs.toList.map st.fr.ev) ds) {Y : Nat → Prop} (hX : ∀ b, g.X b → Y b) (hphi : ∀ i b, g.phi i = some b → Y b) :
    Pw (ARep w (ghost0 Y)) (ds.map .d) (xs.map a.eval).toList := by
  refine ⟨by have := h.1; simpa using this.symm, fun i x v hx hv => ?_⟩
  simp only [List.getElem?_map, Option.map_eq_some_iff, Array.toList_map] at hx hv
  obtain ⟨d, hd, rfl⟩ := hx
  obtain ⟨y, hy, rfl⟩ := hv
  exact .d _ _ (snap_rep hs.hp (h.2 i (st.fr.ev y) d (by simp [hy]) hd) hX hphi (hs.ev y))

/-- A call whose arguments are data: whatever it hands back. -/
theorem ok_callD {o : Oper} {K : St → Prop} {f : Operand} {xs : Array Operand} {ts : Array TypeId} {F : FuncId} {mv : Nat → Bool} (ds : List D) (r : AV) (hp' : List Blk) (ho : o.op = .call { callee := .value f, args := xs, argTypes := ts }) (hd : dstOk C.n o.dst = true)
    (hf : st.fr.ev f = .d (.fn F)) (hx : xs.toList.map st.fr.ev = ds.map .d) (hret : Ret C.P F [] mv (ds.map .d) r hp')
    (hK : K (St.put ⟨st.fr, st.hp ++ hp'.map (Blk.mapRef (shift st.hp.length))⟩ o.dst (r.mapRef (shift st.hp.length)))) : OpOk C o st K := by
  intro g a w Q hs
  have hfv := hs.ev f
  rw [hf] at hfv
  have hargs : Pw (ARep w (ghost0 g.X)) (ds.map .d) (xs.map a.eval).toList := by
    refine ⟨by have := congrArg List.length hx; simpa using this.symm, fun i x v hxi hv => ?_⟩
    simp only [Array.toList_map, List.getElem?_map, Option.map_eq_some_iff] at hv
    obtain ⟨y, hy, rfl⟩ := hv
    have h1 : (xs.toList.map st.fr.ev)[i]? = some (st.fr.ev y) := by simp [hy]
    rw [hx, hxi] at h1
    cases h1
    have h2 := hs.ev y
    simp only [List.getElem?_map, Option.map_eq_some_iff] at hxi
    obtain ⟨d, _, hd⟩ := hxi
    rw [← hd] at h2 ⊢
    cases h2 with | d _ _ h => exact .d _ _ h
  simp only [Oper.wp, run_exec_call ho (fn_inv hfv) hret.1, Oper.upon_enter, Array.append_empty]
  refine (hret.2 w (ghost0 g.X) _ (out0 hs mv hs.Xlt) hargs).mono ?_
  rintro e w' ⟨v, g', rfl, hout, hr⟩
  have hX : ∀ b, g'.X b → b < w.heap.size → g.X b := fun b hb hlt => hout.Xold b hb hlt
  exact ⟨_, _, hK, (hs.after hout hX).put' hd (hr.shift hX)⟩

/-- A call that may look into one's own blocks, and hands back what bears no old memory. -/
theorem ok_call {o : Oper} {K : St → Prop} {f : Operand} {xs : Array Operand} {ts : Array TypeId} {F : FuncId} {mv : Nat → Bool} (ds : List D) (r : AV) (hp' : List Blk) (ho : o.op = .call { callee := .value f, args := xs, argTypes := ts }) (hd : dstOk C.n o.dst = true)
    (hf : st.fr.ev f = .d (.fn F)) (hx : Snaps st.hp (xs.toList.map st.fr.ev) ds) (hret : Ret C.P F [] mv (ds.map .d) r hp') (hm : AMem0 r) (hm' : ∀ B ∈ hp', BMem0 B)
    (hK : K (St.put ⟨st.fr, st.hp ++ hp'.map (Blk.mapRef (shift st.hp.length))⟩ o.dst (r.mapRef (shift st.hp.length)))) : OpOk C o st K := by
  intro g a w Q hs
  have hfv := hs.ev f
  rw [hf] at hfv
  have hargs := args_rep hs hx (Y := fun b => b < w.heap.size) hs.Xlt fun i b hp => (hs.lt i b hp).1
  simp only [Oper.wp, run_exec_call ho (fn_inv hfv) hret.1, Oper.upon_enter, Array.append_empty]
  refine (hret.2 w (ghost0 fun b => b < w.heap.size) _ (out0 hs mv fun _ h => h) hargs).mono ?_
  rintro e w' ⟨v, g', rfl, hout, hr⟩
  let g2 : Gh := { g' with X := fun b => g'.X b ∧ w.heap.size ≤ b }
  have hout2 : Out ⟨C.P, 0, w, 0, ghost0 fun b => b < w.heap.size, mv⟩ hp' g2 w' :=
    { hout with fr := fun _ => .junk _
                hp := fun i B hB => (hout.hp i B hB).any (hm' B (List.mem_of_getElem? hB))
                lt := fun i b hp => ⟨(hout.lt i b hp).1, (hout.lt i b hp).2.1, fun hX => (hout.lt i b hp).2.2 hX.1⟩
                Xlt := fun b hb => hout.Xlt b hb.1
                Xold := fun b hb hlt => hout.Xold b hb.1 hlt
                inj := hout.inj, own := hout.own, stay := hout.stay }
  have hX : ∀ b, g2.X b → b < w.heap.size → g.X b := fun b hb hlt => absurd hlt (Nat.not_lt.2 hb.2)
  exact ⟨_, _, hK, (hs.after hout2 hX).put' hd ((hr.any hm).shift hX)⟩

/-- A call whose arguments are data, what it hands back taken as data. -/
theorem rd_callD {o : Oper} {ev : Operand → AV} {hp : List Blk} {f : Operand} {xs : Array Operand} {ts : Array TypeId} {F : FuncId} {mv : Nat → Bool} (ds : List D) (r : AV) (hp' : List Blk) (d : D) (ho : o.op = .call { callee := .value f, args := xs, argTypes := ts })
    (hf : ev f = .d (.fn F)) (hx : xs.toList.map ev = ds.map .d) (hret : Ret C.P F [] mv (ds.map .d) r hp') (hsn : Snap hp' r d) : RdOk C o ev hp (.d d) := by
  intro st hhp hag g a w hs Q K' hK
  have hfv := hs.ev f
  rw [hag f (by simp [ho, Op.operands, Call.operands]), hf] at hfv
  have hargs : Pw (ARep w (ghost0 g.X)) (ds.map .d) (xs.map a.eval).toList := by
    refine ⟨by have := congrArg List.length hx; simpa using this.symm, fun i x v hxi hv => ?_⟩
    simp only [Array.toList_map, List.getElem?_map, Option.map_eq_some_iff] at hv
    obtain ⟨y, hy, rfl⟩ := hv
    have h1 : (xs.toList.map ev)[i]? = some (ev y) := by simp [hy]
    rw [hx, hxi] at h1
    cases h1
    have h2 := hs.ev y
    rw [hag y (by simp only [ho, Op.operands, Call.operands]; exact Array.mem_append.2 (.inr (Array.mem_toList_iff.1 (List.mem_of_getElem? hy))))] at h2
    simp only [List.getElem?_map, Option.map_eq_some_iff] at hxi
    obtain ⟨d, _, hd⟩ := hxi
    rw [← hd] at h2 ⊢
    cases h2 with | d _ _ h => exact .d _ _ h
  simp only [Oper.wp, run_exec_call ho (fn_inv hfv) hret.1, Oper.upon_enter, Array.append_empty]
  refine (hret.2 w (ghost0 g.X) _ (out0 hs mv hs.Xlt) hargs).mono ?_
  rintro e w' ⟨v, g', rfl, hout, hr⟩
  have hX : ∀ b, g'.X b → b < w.heap.size → g.X b := fun b hb hlt => hout.Xold b hb hlt
  have hold : ∀ b, b < w.heap.size → w'.heap[b]? = w.heap[b]? := fun b hb => hout.keep b hb fun i hi => absurd hi (Nat.not_lt_zero i)
  have hsz := hout.grown
  simp only at hsz
  let g2 : Gh := { g with X := fun b => g.X b ∨ (w.heap.size ≤ b ∧ b < w'.heap.size) }
  have hgr : Grow w g w' g2 := ⟨fun _ _ h => h, fun _ _ _ => rfl, fun _ h => .inl h, fun b hb => hold b (hs.Xlt b hb)⟩
  refine hK v w' g2 ?_ (.d _ _ (snap_rep (st := ⟨[], hp'⟩) hout.hp hsn (Y := g2.X) (fun b hb => ?_) (fun i b hp => ?_) hr))
  · refine { defers := hs.defers, size := hs.size, fr := fun t => (hs.fr t).mono hgr, hp := fun i B hB => (hs.hp i B hB).mono hgr id fun b hb => hold b (hs.lt i b hb).1, lt := ?_, inj := hs.inj, Xlt := ?_, Xold := ?_
             os := hout.os.trans hs.os, tape := hout.tape.trans hs.tape, output := hout.output.trans hs.output, drawn := Nat.le_trans hs.drawn hout.drawn, grown := Nat.le_trans hs.grown hsz, keep := ?_, own := hs.own, stay := hs.stay, kle := hs.kle }
    · intro i b hp
      have := hs.lt i b hp
      refine ⟨by omega, this.2.1, fun hX => ?_⟩
      rcases hX with hX | ⟨hX, _⟩
      · exact this.2.2 hX
      · omega
    · intro b hb
      rcases hb with hb | ⟨_, hb⟩
      · have := hs.Xlt b hb; omega
      · exact hb
    · intro b hb hlt
      rcases hb with hb | ⟨hge, _⟩
      · exact hs.Xold b hb hlt
      · have := hs.grown; omega
    · intro b hb hk
      rw [hold b (by have := hs.grown; omega)]
      exact hs.keep b hb hk
  · by_cases hlt : b < w.heap.size
    · exact .inl (hX b hb hlt)
    · exact .inr ⟨by omega, hout.Xlt b hb⟩
  · refine .inr ⟨?_, (hout.lt i b hp).1⟩
    rcases Nat.lt_or_ge b w.heap.size with hlt | hge
    · obtain ⟨_, hj, _⟩ := hout.own i b hp hlt; exact absurd hj (Nat.not_lt_zero _)
    · exact hge

end Go.TL
