/- Trees in place of memory, part G: regions, sequences, tests, loops, a function's body, calls. No condition. -/
import Derived.Test.YtckkkfgjgjoemaaTlF
import Derived.Deep.LoopGhost
namespace Go.TL

variable {C : Ctx} {st : St} {g : Gh} {a : Act} {w : World} {P : Program}

/-! ### Regions in the text's order -/

def QN (C : Ctx) (K : St → Prop) : Exit → Act → World → Prop
  | .normal, a, w => Sat C K a w
  | _, _, _ => False

def TOps (C : Ctx) (ops : Array Oper) (l : List Oper) (st : St) (K : St → Prop) : Prop := ∀ g a w, Sim C st g a w → wpList C.P ops (QN C K) l a w

theorem tops_nil {ops : Array Oper} {K : St → Prop} (h : K st) : TOps C ops [] st K := fun g _ _ hs => ⟨st, g, h, hs⟩

theorem tops_cons {ops : Array Oper} {o : Oper} {l : List Oper} {K : St → Prop} (hg : o.guard = none) (h : OpOk C o st fun st' => TOps C ops l st' K) : TOps C ops (o :: l) st K := by
  intro g a w hs
  unfold wpList
  rw [if_pos (by simp [Region.wanted, hg])]
  exact .inl (Oper.wp_mono (fun a w ⟨st', g', hK, hs'⟩ => hK g' a w hs') (h g a w _ hs))

theorem yielded_bool {ops : Array Oper} {i t : Nat} {b : Bool} (hs : Sim C st g a w) (ht : (ops[i]?).bind (·.dst) = some t) (htn : decide (t < C.n) = true) (hv : st.fr.get t = .d (.bool b)) : yielded ops a.tmps i = some b := by
  have h := hs.fr t
  rw [hv] at h
  have hlt : t < a.tmps.size := by rw [hs.size]; simpa using htn
  have he : a.tmps[t]? = some (.bool b) := by
    have := bool_inv h
    rw [Array.getD_eq_getD_getElem?, Array.getElem?_eq_getElem hlt] at this
    rw [Array.getElem?_eq_getElem hlt]
    simpa using this
  unfold yielded
  rw [ht]
  simp [he]

theorem yielded_und {ops : Array Oper} {i t : Nat} (hs : Sim C st g a w) (ht : (ops[i]?).bind (·.dst) = some t) (hv : st.fr.get t = .und) : yielded ops a.tmps i = none := by
  have h := hs.fr t
  rw [hv] at h
  have he : a.tmps.getD t undef = undef := by
    generalize a.tmps.getD t undef = v at *
    cases h
    rfl
  unfold yielded
  rw [ht]
  rw [Array.getD_eq_getD_getElem?] at he
  cases ho : a.tmps[t]? with
  | none => simp [ho]
  | some v =>
    rw [ho] at he
    simp only [Option.getD_some] at he
    subst he
    simp [ho, undef]

theorem tops_yes {ops : Array Oper} {o : Oper} {l : List Oper} {K : St → Prop} {i : Nat} {b : Bool} (t : Nat) (hg : o.guard = some (i, b)) (ht : (ops[i]?).bind (·.dst) = some t) (htn : decide (t < C.n) = true) (hv : st.fr.get t = .d (.bool b))
    (h : OpOk C o st fun st' => TOps C ops l st' K) : TOps C ops (o :: l) st K := by
  intro g a w hs
  unfold wpList
  rw [if_pos (by simp [Region.wanted, hg, yielded_bool hs ht htn hv])]
  exact .inl (Oper.wp_mono (fun a w ⟨st', g', hK, hs'⟩ => hK g' a w hs') (h g a w _ hs))

theorem tops_no {ops : Array Oper} {o : Oper} {l : List Oper} {K : St → Prop} {i : Nat} {b : Bool} (t : Nat) (hg : o.guard = some (i, b)) (ht : (ops[i]?).bind (·.dst) = some t) (htn : decide (t < C.n) = true) (hv : st.fr.get t = .d (.bool (!b)))
    (hd : dstOk C.n o.dst = true) (h : TOps C ops l (st.put o.dst .und) K) : TOps C ops (o :: l) st K := by
  intro g a w hs
  unfold wpList
  rw [if_neg (by simp [Region.wanted, hg, yielded_bool hs ht htn hv])]
  exact h _ _ _ (hs.put' hd .und)

theorem tops_nor {ops : Array Oper} {o : Oper} {l : List Oper} {K : St → Prop} {i : Nat} {b : Bool} (t : Nat) (hg : o.guard = some (i, b)) (ht : (ops[i]?).bind (·.dst) = some t) (hv : st.fr.get t = .und)
    (hd : dstOk C.n o.dst = true) (h : TOps C ops l (st.put o.dst .und) K) : TOps C ops (o :: l) st K := by
  intro g a w hs
  unfold wpList
  rw [if_neg (by simp [Region.wanted, hg, yielded_und hs ht hv])]
  exact h _ _ _ (hs.put' hd .und)

/-! ### Code -/

def TWp (C : Ctx) (c : Code) (st : St) (Q : Exit → St → Prop) : Prop :=
  ∀ g a w, Sim C st g a w → c.wp C.P (fun e a' w' => ∃ st' g', Q e st' ∧ Sim C st' g' a' w') a w

/-- What stands behind a piece that ends by itself; the other ways out are Q's. -/
def thenA (next : St → Prop) (Q : Exit → St → Prop) : Exit → St → Prop
  | .normal, st => next st
  | e, st => Q e st

def inBlockA (id : Nat) (Q : Exit → St → Prop) : Exit → St → Prop
  | .exit id', st => if id' = id then Q .normal st else Q (.exit id') st
  | e, st => Q e st

theorem TWp.mono {c : Code} {Q Q' : Exit → St → Prop} (h : TWp C c st Q) (hq : ∀ e st, Q e st → Q' e st) : TWp C c st Q' :=
  fun g a w hs => Go.wp_mono (h g a w hs) fun _ _ _ ⟨st', g', hQ, hs'⟩ => ⟨st', g', hq _ _ hQ, hs'⟩

theorem twp_region {id : Nat} {ops : Array Oper} {Q : Exit → St → Prop} (h : TOps C ops ops.toList st (Q .normal)) : TWp C (.region id ops false) st Q := fun g a w hs => by
  refine Go.wp_mono (wp_region_list (h g a w hs)) ?_
  intro e a' w' hq
  cases e with
  | normal => exact hq
  | _ => exact hq.elim

theorem twp_seq {x y : Code} {Q : Exit → St → Prop} (h : TWp C x st (thenA (fun st' => TWp C y st' Q) Q)) : TWp C (.seq x y) st Q := fun g a w hs => by
  refine wp_seq (Go.wp_mono (h g a w hs) ?_)
  intro e a' w' hq
  obtain ⟨st', g', hQ, hs'⟩ := hq
  cases e with
  | normal => exact hQ g' a' w' hs'
  | exit id => exact ⟨st', g', hQ, hs'⟩
  | goto l => exact ⟨st', g', hQ, hs'⟩
  | ret => exact ⟨st', g', hQ, hs'⟩
  | panic ch => exact ⟨st', g', hQ, hs'⟩
  | outgrown => exact ⟨st', g', hQ, hs'⟩

/-- The next region, and what follows it. -/
theorem twp_rseq {id : Nat} {ops : Array Oper} {y : Code} {Q : Exit → St → Prop} (h : TOps C ops ops.toList st fun st' => TWp C y st' Q) : TWp C (.seq (.region id ops false) y) st Q := twp_seq (twp_region h)

theorem twp_skip {Q : Exit → St → Prop} (h : Q .normal st) : TWp C .skip st Q := fun g _ _ hs => wp_skip ⟨st, g, h, hs⟩
theorem twp_exit {id : Nat} {Q : Exit → St → Prop} (h : Q (.exit id) st) : TWp C (.exit id) st Q := fun g _ _ hs => wp_exit ⟨st, g, h, hs⟩
theorem twp_ret {Q : Exit → St → Prop} (h : Q .ret st) : TWp C .ret st Q := fun g _ _ hs => wp_ret ⟨st, g, h, hs⟩

theorem twp_cond {c : Operand} {x y : Code} {Q : Exit → St → Prop} (b : Bool) (hc : st.fr.ev c = .d (.bool b)) (h1 : b = true → TWp C x st Q) (h2 : b = false → TWp C y st Q) : TWp C (.cond c x y) st Q := fun g a w hs => by
  have h := hs.ev c
  rw [hc] at h
  refine Go.wp_cond (bool_inv h) ?_
  cases b
  · exact h2 rfl g a w hs
  · exact h1 rfl g a w hs

theorem twp_block {id : Nat} {c : Code} {Q : Exit → St → Prop} (h : TWp C c st (inBlockA id Q)) : TWp C (.block id c) st Q := fun g a w hs => by
  refine Go.wp_block (Go.wp_mono (h g a w hs) ?_)
  intro e a' w' hq
  obtain ⟨st', g', hQ, hs'⟩ := hq
  cases e with
  | exit id' =>
    simp only [Exit.inBlock]
    simp only [inBlockA] at hQ
    split
    · rename_i h; rw [if_pos h] at hQ; exact ⟨st', g', hQ, hs'⟩
    · rename_i h; rw [if_neg h] at hQ; exact ⟨st', g', hQ, hs'⟩
  | normal => exact ⟨st', g', hQ, hs'⟩
  | goto l => exact ⟨st', g', hQ, hs'⟩
  | ret => exact ⟨st', g', hQ, hs'⟩
  | panic ch => exact ⟨st', g', hQ, hs'⟩
  | outgrown => exact ⟨st', g', hQ, hs'⟩

/-- A loop: what holds at a round's head bears a number that every round lowers. -/
theorem twp_loop {c : Code} {Q : Exit → St → Prop} (I : Nat → St → Prop) (n : Nat) (h0 : I n st) (round : ∀ n st, I n st → TWp C c st (thenA (fun st' => ∃ m, m < n ∧ I m st') Q)) : TWp C (.loop c) st Q := fun g a w hs => by
  refine wp_loop_ghost (fun n a w => ∃ st g, I n st ∧ Sim C st g a w) n ⟨st, g, h0, hs⟩ ?_
  rintro n a w ⟨st, g, hI, hs⟩
  refine Go.wp_mono (round n st hI g a w hs) ?_
  intro e a' w' hq
  obtain ⟨st', g', hQ, hs'⟩ := hq
  cases e with
  | normal => obtain ⟨m, hm, hI'⟩ := hQ; exact ⟨m, hm, st', g', hI', hs'⟩
  | exit id => exact ⟨st', g', hQ, hs'⟩
  | goto l => exact ⟨st', g', hQ, hs'⟩
  | ret => exact ⟨st', g', hQ, hs'⟩
  | panic ch => exact ⟨st', g', hQ, hs'⟩
  | outgrown => exact ⟨st', g', hQ, hs'⟩

/-- Slots forgotten, blocks renumbered. -/
theorem twp_canon {c : Code} {Q : Exit → St → Prop} (ks ids : List Nat) (hnd : ids.Nodup) (hk : ∀ i, i < C.k → ids[i]? = some i) (h : TWp C c (st.canon ks ids) Q) : TWp C c st Q := fun _ a w hs => h _ a w (hs.canon ks ids hnd hk)

theorem twp_keep {c : Code} {Q : Exit → St → Prop} (ks : List Nat) (h : TWp C c ⟨Fr.keep ks st.fr, st.hp⟩ Q) : TWp C c st Q := fun g a w hs => h g a w (hs.forget (Fr.get_keep st.fr ks))

theorem tops_keep {ops : Array Oper} {l : List Oper} {K : St → Prop} (ks : List Nat) (h : TOps C ops l ⟨Fr.keep ks st.fr, st.hp⟩ K) : TOps C ops l st K := fun g a w hs => h g a w (hs.forget (Fr.get_keep st.fr ks))

/-- A slot that holds the nil slice is taken for a block of the call's own that is still empty. -/
theorem Sim.upgrade (h : Sim C st g a w) (t ty sz : Nat) (ht : st.fr.get t = .d .nilsl) : Sim C ⟨(t, .msl st.hp.length sz 0 0) :: st.fr, st.hp ++ [.flat ty sz []]⟩ g a w := by
  refine { h.virt ty sz with fr := fun t' => ?_ }
  simp only [Fr.get]
  split
  · rename_i e
    subst e
    have h1 := h.fr t
    rw [ht] at h1
    generalize a.tmps.getD t undef = v at *
    cases h1 with | d _ _ h => cases h; exact .msl0 _ _ _ _
  · exact h.fr t'

theorem twp_upgrade {c : Code} {Q : Exit → St → Prop} (t ty sz : Nat) (ht : st.fr.get t = .d .nilsl) (h : TWp C c ⟨(t, .msl st.hp.length sz 0 0) :: st.fr, st.hp ++ [.flat ty sz []]⟩ Q) : TWp C c st Q := fun g a w hs => h g a w (hs.upgrade t ty sz ht)

/-! ### Functions -/

def noSlots : Act := { tmps := #[], defers := [] }

/-- What is known of memory, the slots apart. -/
def Out (C : Ctx) (hp : List Blk) (g : Gh) (w : World) : Prop := Sim { C with n := 0 } ⟨[], hp⟩ g noSlots w

theorem Sim.out (h : Sim C st g a w) : Out C st.hp g w :=
  { h with defers := rfl, size := rfl, fr := fun _ => .junk _, hp := h.hp, lt := h.lt, inj := h.inj, kle := h.kle }

theorem Out.sim {hp : List Blk} {fr : Fr} (h : Out C hp g w) (hd : a.defers = []) (hs : a.tmps.size = C.n) (hf : ∀ t, ARep w g (fr.get t) (a.tmps.getD t undef)) : Sim C ⟨fr, hp⟩ g a w :=
  { h with defers := hd, size := hs, fr := hf, hp := h.hp, lt := h.lt, inj := h.inj, kle := h.kle }

/-- A function with a body of Go's own text. -/
def callB (P : Program) (F : FuncId) : Bool :=
  match P.funcs[F]? with
  | some fn => !(fn.name == "runtime.NumGoroutine") && fn.body.isSome
  | none => false

/-- THE CONTRACT. Called with arguments that the trees 'args' stand for, in memory that holds the blocks 'hp' (and whatever else), function F returns what 'r' stands for, and the blocks have become 'hp''; all else is as it was. -/
def Ret (P : Program) (F : FuncId) (hp : List Blk) (mv : Nat → Bool) (args : List AV) (r : AV) (hp' : List Blk) : Prop :=
  callB P F = true ∧ ∀ (w : World) (g : Gh) (vs : Array Value), Out ⟨P, 0, w, hp.length, g, mv⟩ hp g w → Pw (ARep w g) args vs.toList →
    Calls P F vs w fun e w' => ∃ v g', e = .returned v ∧ Out ⟨P, 0, w, hp.length, g, mv⟩ hp' g' w' ∧ ARep w' g' r v

def argFr (args : List AV) : Fr := (args.zipIdx 0).map fun x => (x.2, x.1)

theorem get_argFr : ∀ (args : List AV) (k t : Nat), Fr.get ((args.zipIdx k).map fun x => (x.2, x.1)) t = if k ≤ t then (args[t - k]?).getD .junk else .junk
  | [], k, t => by simp [Fr.get]
  | x :: r, k, t => by
    simp only [List.zipIdx_cons, List.map_cons, Fr.get]
    rw [get_argFr r (k + 1) t]
    by_cases h : k = t
    · subst h; simp
    · rw [if_neg h]
      by_cases h1 : k ≤ t
      · rw [if_pos h1, if_pos (by omega), show t - k = (t - (k + 1)) + 1 by omega, List.getElem?_cons_succ]
      · rw [if_neg h1, if_neg (by omega)]

def resultOf (fr : Fr) : List ResultVar → Option AV
  | [.tmp t] => some (fr.get t)
  | [.tmp t, .tmp u] => some (.tup [fr.get t, fr.get u])
  | [.tmp t, .tmp u, .tmp v] => some (.tup [fr.get t, fr.get u, fr.get v])
  | [] => some (.tup [])
  | _ => none

/-- One result: a slot, or a variable of the call's own. -/
inductive ResV (P : Program) (st : St) : ResultVar → AV → Prop
  | tmp (t : Nat) : ResV P st (.tmp t) (st.fr.get t)
  | one {a t id off s ty : Nat} {cs : List AV} {v : AV} (hl : lay P t = some (false, s)) (ha : st.fr.get a = .mptr id 0 0 off) (hb : st.hp[id]? = some (.box ty cs)) (hc : cs[off]? = some v) : ResV P st (.cell a t) v
  | agg {a t id off s ty : Nat} {cs : List AV} {v : AV} (hl : lay P t = some (true, s)) (ha : st.fr.get a = .mptr id 0 0 off) (hb : st.hp[id]? = some (.box ty cs)) (hc : Nat.ble (off + s) cs.length = true) (hv : mkAgg ((cs.drop off).take s) = v) : ResV P st (.cell a t) v

inductive ResVs (P : Program) (st : St) : List ResultVar → List AV → Prop
  | nil : ResVs P st [] []
  | cons {r : ResultVar} {rs : List ResultVar} {x : AV} {xs : List AV} (h : ResV P st r x) (hr : ResVs P st rs xs) : ResVs P st (r :: rs) (x :: xs)

def pack : List AV → AV
  | [x] => x
  | xs => .tup xs

inductive ResOk (P : Program) (st : St) (rs : List ResultVar) (x : AV) : Prop
  | mk (xs : List AV) (h : ResVs P st rs xs) (e : pack xs = x)

theorem res {P : Program} {st : St} {rs : List ResultVar} {x : AV} (h : resultOf st.fr rs = some x) : ResOk P st rs x := by
  match rs, h with
  | [.tmp t], h => cases h; exact .mk _ (.cons (.tmp t) .nil) rfl
  | [.tmp t, .tmp u], h => cases h; exact .mk _ (.cons (.tmp t) (.cons (.tmp u) .nil)) rfl
  | [.tmp t, .tmp u, .tmp x], h => cases h; exact .mk _ (.cons (.tmp t) (.cons (.tmp u) (.cons (.tmp x) .nil))) rfl
  | [], h => cases h; exact .mk [] .nil rfl

def resF (tmps : Array Value) : ResultVar → Sem Value
  | .tmp t => pure (tmps.getD t undef)
  | .cell c t => do loadVar t (← asAddr (tmps.getD c undef))

theorem results_eq (fn : Func) (tmps : Array Value) : results fn tmps = (do
    let vs ← fn.results.mapM (resF tmps)
    pure (if h : vs.size = 1 then vs[0] else .tuple vs)) := by
  unfold results
  congr 2

theorem run_resV {r : ResultVar} {x : AV} (hs : Sim C st g a w) (h : ResV P st r x) : ∃ v, (resF a.tmps r).run P w = .ok v w ∧ ARep w g x v := by
  cases h with
  | tmp t => exact ⟨a.tmps.getD t undef, by simp [resF], hs.fr t⟩
  | @one c t id off s ty cs v hl ha hb hc =>
    have h := hs.fr c
    rw [ha] at h
    obtain ⟨b, hp, he⟩ := mptr_inv h
    obtain ⟨b', cells, hp', hw, _, hlen, hr⟩ := hs.hp id _ hb
    cases hp.symm.trans hp'
    have hoff : off < cells.size := by rw [← hlen]; exact (List.getElem?_eq_some_iff.1 hc).1
    have hcell : w.cell? ⟨b, 0 * 0 + off, none⟩ = some cells[off] := by
      rw [show 0 * 0 + off = off by omega, cell_of_row w b off cells ty (0, 0) hw, Array.getElem?_eq_getElem hoff]
    refine ⟨cells[off], ?_, hr off x _ hc (by simp [hoff])⟩
    simp only [resF, he, asAddr, Sem.run_bind, Sem.run_pure, Result.andThen_ok]
    exact run_loadVar_one hl w _ _ hcell
  | @agg c t id off s ty cs v hl ha hb hc hv =>
    have hc := Nat.le_of_ble_eq_true hc
    subst hv
    have h := hs.fr c
    rw [ha] at h
    obtain ⟨b, hp, he⟩ := mptr_inv h
    obtain ⟨b', cells, hp', hw, _, hlen, hr⟩ := hs.hp id _ hb
    cases hp.symm.trans hp'
    have hlen' : ((cs.drop off).take s).length = s := by simp; omega
    obtain ⟨vs, hvl, h2, h3⟩ := vals_of (R := ARep w g) ((cs.drop off).take s) (fun j => cells[off + j]?) (fun j c hc => by
      rw [List.getElem?_take] at hc
      split at hc
      · rw [List.getElem?_drop] at hc
        have hlt : off + j < cells.size := by rw [← hlen]; exact (List.getElem?_eq_some_iff.1 hc).1
        exact ⟨cells[off + j], by simp [hlt], hr _ c _ hc (by simp [hlt])⟩
      · cases hc)
    refine ⟨.agg vs.toArray, ?_, mkAgg_rep (by simp [hvl]) fun i c v hc hv => h3 i c v hc (by simpa using hv)⟩
    simp only [resF, he, asAddr, Sem.run_bind, Sem.run_pure, Result.andThen_ok]
    exact run_loadVar_agg hl w ⟨b, 0 * 0 + off, none⟩ vs (hvl.trans hlen') (fun j v hv => by
      rw [add_mk, cell_of_row w b _ cells ty (0, 0) hw]; simpa using h2 j v hv)

theorem run_resVs (hs : Sim C st g a w) : ∀ {rs : List ResultVar} {xs : List AV}, ResVs P st rs xs →
    ∃ vs, (rs.mapM (resF a.tmps)).run P w = .ok vs w ∧ Pw (ARep w g) xs vs
  | [], [], .nil => ⟨[], by simp, rfl, fun i x y h => by simp at h⟩
  | r :: rs, x :: xs, .cons h hr => by
    obtain ⟨v, h1, h2⟩ := run_resV hs h
    obtain ⟨vs, h3, h4⟩ := run_resVs hs hr
    refine ⟨v :: vs, ?_, by simp [h4.1], fun i x y hx hy => ?_⟩
    · rw [List.mapM_cons, Sem.run_bind, h1, Result.andThen_ok, Sem.run_bind, h3, Result.andThen_ok, Sem.run_pure]
    · cases i with
      | zero => simp at hx hy; subst hx hy; exact h2
      | succ i => exact h4.2 i x y (by simpa using hx) (by simpa using hy)

theorem run_results {fn : Func} {r : AV} (hs : Sim C st g a w) (h : ResOk P st fn.results.toList r) : ∃ v, (results fn a.tmps).run P w = .ok v w ∧ ARep w g r v := by
  obtain ⟨xs, h, rfl⟩ := h
  obtain ⟨vs, h1, h2⟩ := run_resVs hs h
  have h3 : (fn.results.mapM (resF a.tmps)).run P w = .ok vs.toArray w := by
    rw [Array.mapM_eq_mapM_toList, Sem.run_map, h1]
    rfl
  rw [results_eq]
  refine ⟨if h : vs.toArray.size = 1 then vs.toArray[0] else .tuple vs.toArray, ?_, ?_⟩
  · rw [Sem.run_bind, h3]
    rfl
  · match xs, vs, h2 with
    | [x], [v], h2 => exact h2.2 0 x v rfl rfl
    | [], [], _ => exact .tup [] #[] rfl fun i c v hc => by simp at hc
    | x :: y :: xs, u :: v :: vs, h2 =>
      rw [dif_neg (by simp)]
      exact .tup _ _ (by simpa using h2.1) fun i c z hc hz => h2.2 i c z hc (by simpa using hz)
    | [], _ :: _, h2 => have := h2.1; simp at this
    | [_], [], h2 => have := h2.1; simp at this
    | [_], _ :: _ :: _, h2 => have := h2.1; simp at this
    | _ :: _ :: _, [], h2 => have := h2.1; simp at this
    | _ :: _ :: _, [_], h2 => have := h2.1; simp at this

/-- What is asked where a body ends: the result's slots, and which blocks are handed out, in which order. -/
def Ends (P : Program) (k : Nat) (rs : List ResultVar) (r : AV) (hp' : List Blk) (st : St) : Prop :=
  ∃ (x : AV) (ids : List Nat), ResOk P st rs x ∧ ids.Nodup ∧ (∀ i, i < k → ids[i]? = some i) ∧ x.mapRef (toName (placeOf ids)) = r ∧ ids.map (fun i => (st.hp.getD i .dead).mapRef (toName (placeOf ids))) = hp'

/-- No block is handed out: what is handed out is data. -/
theorem Ends.plain {rs : List ResultVar} {st : St} (d : D) (h : resultOf st.fr rs = some (.d d)) : Ends P 0 rs (.d d) [] st := ⟨_, [], res h, List.nodup_nil, fun _ hi => by omega, rfl, rfl⟩

def bodyQ (P : Program) (k : Nat) (rs : List ResultVar) (r : AV) (hp' : List Blk) : Exit → St → Prop
  | .normal, st | .ret, st => Ends P k rs r hp' st
  | _, _ => False

theorem ret_of_body {F : FuncId} {fn : Func} {c : Code} {hp hp' : List Blk} {mv : Nat → Bool} {args : List AV} {r : AV} (hcb : callB P F = true) (hf : P.funcs[F]? = some fn) (hb : fn.body = some c) (hn : args.length ≤ fn.ntmps)
    (h : ∀ w g, TWp ⟨P, fn.ntmps, w, hp.length, g, mv⟩ c ⟨argFr args, hp⟩ (bodyQ P hp.length fn.results.toList r hp')) : Ret P F hp mv args r hp' := by
  refine ⟨hcb, ?_⟩
  intro w g vs hout hargs
  have hlen : vs.size = args.length := by have := hargs.1; simpa using this.symm
  have hsim : Sim ⟨P, fn.ntmps, w, hp.length, g, mv⟩ ⟨argFr args, hp⟩ g { tmps := vs ++ Array.replicate (fn.ntmps - vs.size) undef, defers := [] } w := by
    refine Out.sim (C := ⟨P, fn.ntmps, w, hp.length, g, mv⟩) hout rfl ?_ fun t => ?_
    · simp only [Array.size_append, Array.size_replicate]; omega
    · unfold argFr
      rw [get_argFr, if_pos (Nat.zero_le _), Nat.sub_zero]
      by_cases ht : t < args.length
      · have h1 : args[t]? = some args[t] := List.getElem?_eq_getElem ht
        have h2 : vs.toList[t]? = some (vs.toList[t]'(by simpa [hlen] using ht)) := List.getElem?_eq_getElem _
        have h3 := hargs.2 t _ _ h1 h2
        rw [h1]
        have h4 : (vs ++ Array.replicate (fn.ntmps - vs.size) undef).getD t undef = vs.toList[t]'(by simpa [hlen] using ht) := by
          rw [Array.getD_eq_getD_getElem?, Array.getElem?_append, if_pos (by omega)]
          simp [show t < vs.size by omega]
        rw [h4]
        exact h3
      · rw [List.getElem?_eq_none (by omega)]
        exact .junk _
  refine calls_of_wp hf hb (Go.wp_mono (h w g g _ w hsim) ?_)
  intro e a' w' hq
  obtain ⟨st', g', hQ, hs'⟩ := hq
  have fin : Ends P hp.length fn.results.toList r hp' st' → a'.defers = [] ∧ ∃ v, (results fn a'.tmps).run P w' = .ok v w' ∧ ∃ v' g', Ending.returned v = .returned v' ∧ Out ⟨P, 0, w, hp.length, g, mv⟩ hp' g' w' ∧ ARep w' g' r v' := by
    rintro ⟨x, ids, hx, hnd, hk, hr, hhp⟩
    obtain ⟨v, hv, hrep⟩ := run_results (P := P) hs' hx
    have hc := hs'.canon [] ids hnd hk
    have ho := hc.out
    refine ⟨hs'.defers, v, hv, v, g'.canon ids, rfl, ?_, ?_⟩
    · simp only [St.canon] at ho
      rw [hhp] at ho
      exact ho
    · rw [← hr]
      refine ARep.mapRef (w := w') (g := g') (g' := g'.canon ids) (fun d v hd => hd) (ARep.toName (fun i j hij => ?_) fun _ hb => hb) hrep
      have := placeOf_some ids i j hij
      simp [Gh.canon, this]
  cases e with
  | normal => exact fin hQ
  | ret => exact fin hQ
  | _ => exact hQ.elim

end Go.TL
