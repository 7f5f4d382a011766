/- Trees in place of memory, part Z: bodies whose result is read as data out of the call's own blocks. No condition. -/
import Derived.Test.YtckkkfgjgjoemaaTlY
namespace Go.TL

variable {C : Ctx} {st : St} {g : Gh} {a : Act} {w : World} {P : Program}

/-- The result, read as data where the body ends. -/
def EndsS (P : Program) (rs : List ResultVar) (d : D) (st : St) : Prop := ∃ x d0, ResOk P st rs x ∧ Snap st.hp x d0 ∧ DLe d0 d

theorem EndsS.d {rs : List ResultVar} (d' : D) {d : D} (h : resultOf st.fr rs = some (.d d')) (e : d' = d) : EndsS P rs d st := ⟨_, d, res h, e ▸ .d d', .refl _⟩
theorem EndsS.one {rs : List ResultVar} {d d0 : D} (x : AV) (h : resultOf st.fr rs = some x) (hs : Snap st.hp x d0) (hd : DLe d0 d) : EndsS P rs d st := ⟨x, d0, res h, hs, hd⟩
theorem EndsS.cell {a t id off s : Nat} {ty : TypeId} {cs : List AV} (x : AV) {d : D} (hl : lay P t = some (true, s)) (ha : st.fr.get a = .mptr id 0 0 off) (hb : st.hp[id]? = some (.box ty cs)) (hc : Nat.ble (off + s) cs.length = true) (hv : mkAgg ((cs.drop off).take s) = x) (hs : Snap st.hp x d) : EndsS P [.cell a t] d st :=
  ⟨_, d, .mk _ (.cons (.agg hl ha hb hc hv) .nil) rfl, hs, .refl _⟩

def bodyQS (P : Program) (rs : List ResultVar) (d : D) : Exit → St → Prop
  | .normal, st | .ret, st => EndsS P rs d st
  | _, _ => False

theorem Sim.endS {mv : Nat → Bool} {w0 : World} {g0 : Gh} {n : Nat} (hs : Sim ⟨P, n, w0, 0, g0, mv⟩ st g a w) : ∃ g', Out ⟨P, 0, w0, 0, g0, mv⟩ [] g' w ∧ ∀ (x : AV) (d : D) (v : Value), ARep w g x v → Snap st.hp x d → ARep w g' (.d d) v := by
  let g' : Gh := { phi := fun _ => none, psi := fun _ => 0, X := fun b => g.X b ∨ ∃ i, g.phi i = some b }
  refine ⟨g', ?_, fun x d v hx hsn => .d _ _ (snap_rep (st := st) hs.hp hsn (Y := g'.X) (fun b hb => .inl hb) (fun i b hp => .inr ⟨i, hp⟩) hx)⟩
  refine { defers := rfl, size := rfl, fr := fun _ => .junk _, hp := fun i B h => by simp at h, lt := fun i b h => by simp [g'] at h, inj := fun i j b _ _ _ _ _ _ h => by simp [g'] at h, Xlt := ?_, Xold := ?_
           os := hs.os, tape := hs.tape, output := hs.output, drawn := hs.drawn, grown := hs.grown, keep := hs.keep, own := fun i b h => by simp [g'] at h, stay := fun i b h => absurd h (Nat.not_lt_zero i), kle := Nat.zero_le _ }
  · intro b hb
    rcases hb with hb | ⟨i, hb⟩
    · exact hs.Xlt b hb
    · exact (hs.lt i b hb).1
  · intro b hb hlt
    rcases hb with hb | ⟨i, hb⟩
    · exact hs.Xold b hb hlt
    · obtain ⟨j, hj, _⟩ := hs.own i b hb hlt
      exact absurd hj (Nat.not_lt_zero j)

theorem ret_bodyS {F : FuncId} {fn : Func} {c : Code} {mv : Nat → Bool} {args : List AV} {d : D} {n : Nat} {rs : List ResultVar} (hcb : callB P F = true) (hf : P.funcs[F]? = some fn) (hb : fn.body = some c) (hn : fn.ntmps = n) (hrs : fn.results.toList = rs) (hle : Nat.ble args.length n = true)
    (h : ∀ w g, TWp ⟨P, n, w, 0, g, mv⟩ c ⟨argFr args, []⟩ (bodyQS P rs d)) : Ret P F [] mv args (.d d) [] := by
  subst hn hrs
  have hn := Nat.le_of_ble_eq_true hle
  refine ⟨hcb, ?_⟩
  intro w g vs hout hargs
  have hlen : vs.size = args.length := by have := hargs.1; simpa using this.symm
  have hsim : Sim ⟨P, fn.ntmps, w, 0, g, mv⟩ ⟨argFr args, []⟩ g { tmps := vs ++ Array.replicate (fn.ntmps - vs.size) undef, defers := [] } w := by
    refine Out.sim (C := ⟨P, fn.ntmps, w, 0, g, mv⟩) hout rfl ?_ fun t => ?_
    · simp only [Array.size_append, Array.size_replicate]; omega
    · unfold argFr
      rw [get_argFr, if_pos (Nat.zero_le _), Nat.sub_zero]
      by_cases ht : t < args.length
      · have h1 : args[t]? = some args[t] := List.getElem?_eq_getElem ht
        have h2 : vs.toList[t]? = some (vs.toList[t]'(by simpa [hlen] using ht)) := List.getElem?_eq_getElem _
        have h3 := hargs.2 t _ _ h1 h2
        rw [h1]
        have h4 : (vs ++ Array.replicate (fn.ntmps - vs.size) undef).getD t undef = vs.toList[t]'(by simpa [hlen] using ht) := by
          rw [Array.getD_eq_getD_getElem?, Array.getElem?_append, if_pos (by omega)]
          simp [show t < vs.size by omega]
        rw [h4]
        exact h3
      · rw [List.getElem?_eq_none (by omega)]
        exact .junk _
  refine calls_of_wp hf hb (Go.wp_mono (h w g g _ w hsim) ?_)
  intro e a' w' hq
  obtain ⟨st', g', hQ, hs'⟩ := hq
  have fin : EndsS P fn.results.toList d st' → a'.defers = [] ∧ ∃ v, (results fn a'.tmps).run P w' = .ok v w' ∧ ∃ v' g', Ending.returned v = .returned v' ∧ Out ⟨P, 0, w, 0, g, mv⟩ [] g' w' ∧ ARep w' g' (.d d) v' := by
    rintro ⟨x, d0, hx, hsn, hd⟩
    obtain ⟨v, hv, hrep⟩ := run_results (P := P) hs' hx
    obtain ⟨g2, h1, h2⟩ := hs'.endS
    have h3 := h2 _ _ _ hrep hsn
    exact ⟨hs'.defers, v, hv, v, g2, rfl, h1, by cases h3 with | d _ _ q => exact .d _ _ (hd _ _ _ q)⟩
  cases e with
  | normal => exact fin hQ
  | ret => exact fin hQ
  | _ => exact hQ.elim

/-! ### Arguments that say more -/

inductive DLa : List D → List D → Prop
  | nil : DLa [] []
  | cons {d d' : D} {ds ds' : List D} (h : DLe d d') (hr : DLa ds ds') : DLa (d :: ds) (d' :: ds')
theorem DLa.same : ∀ ds : List D, DLa ds ds
  | [] => .nil
  | d :: r => .cons (.refl d) (DLa.same r)
theorem DLa.key {ds ds' : List D} (h : DLa ds ds') : ds.length = ds'.length ∧ ∀ (i : Nat) (c c' : D), ds[i]? = some c → ds'[i]? = some c' → DLe c c' := by
  induction h with
  | nil => exact ⟨rfl, fun i c c' h => by simp at h⟩
  | cons h _ ih =>
    refine ⟨by simp [ih.1], fun i c c' hc hc' => ?_⟩
    cases i with
    | zero => simp at hc hc'; subst hc hc'; exact h
    | succ i => exact ih.2 i c c' (by simpa using hc) (by simpa using hc')

theorem Ret.args {F : FuncId} {hp hp' : List Blk} {mv : Nat → Bool} {ds ds' : List D} {r : AV} (h : Ret P F hp mv (ds'.map .d) r hp') (hd : DLa ds ds') : Ret P F hp mv (ds.map .d) r hp' := by
  refine ⟨h.1, fun w g vs ho ha => h.2 w g vs ho ⟨by have := ha.1; simpa [hd.key.1] using this, fun i x v hx hv => ?_⟩⟩
  simp only [List.getElem?_map, Option.map_eq_some_iff] at hx
  obtain ⟨c', hc', rfl⟩ := hx
  have hi : i < ds.length := by rw [hd.key.1]; exact (List.getElem?_eq_some_iff.1 hc').1
  have := ha.2 i (.d ds[i]) v (by simp [hi]) hv
  cases this with | d _ _ hr => exact .d _ _ (hd.key.2 i ds[i] c' (by simp [hi]) hc' _ _ _ hr)
theorem RetD.args {F : FuncId} {ds ds' : List D} {d : D} (h : RetD P F ds' d) (hd : DLa ds ds') : RetD P F ds d := by
  obtain ⟨mv, r, hp', h1, h2⟩ := h
  exact ⟨mv, r, hp', h1.args hd, h2⟩
theorem RetN.args {F : FuncId} {ds ds' : List D} {d : D} (h : RetN P F ds' d) (hd : DLa ds ds') : RetN P F ds d := by
  obtain ⟨mv, r, hp', h1, h2⟩ := h
  exact ⟨mv, r, hp', h1.args hd, h2⟩

/-! ### Several results, read as data where the body ends -/

inductive SnapsW (hp : List Blk) : List AV → List D → Prop
  | nil : SnapsW hp [] []
  | cons {x : AV} {d0 d : D} {xs : List AV} {ds : List D} (h : Snap hp x d0) (hd : DLe d0 d) (hr : SnapsW hp xs ds) : SnapsW hp (x :: xs) (d :: ds)

theorem SnapsW.key {hp : List Blk} {xs : List AV} {ds : List D} (h : SnapsW hp xs ds) : xs.length = ds.length ∧ ∀ (i : Nat) (x : AV) (d : D), xs[i]? = some x → ds[i]? = some d → ∃ d0, Snap hp x d0 ∧ DLe d0 d := by
  induction h with
  | nil => exact ⟨rfl, fun i x d h => by simp at h⟩
  | cons h hd _ ih =>
    refine ⟨by simp [ih.1], fun i x d hx hd' => ?_⟩
    cases i with
    | zero => simp at hx hd'; subst hx hd'; exact ⟨_, h, hd⟩
    | succ i => exact ih.2 i x d (by simpa using hx) (by simpa using hd')

def EndsT (P : Program) (rs : List ResultVar) (ds : List D) (st : St) : Prop := ∃ xs, ResOk P st rs (.tup xs) ∧ SnapsW st.hp xs ds

def bodyQT (P : Program) (rs : List ResultVar) (ds : List D) : Exit → St → Prop
  | .normal, st | .ret, st => EndsT P rs ds st
  | _, _ => False

theorem EndsT.two {rs : List ResultVar} {x y : AV} {a b a0 b0 : D} (h : resultOf st.fr rs = some (.tup [x, y])) (h1 : Snap st.hp x a0) (d1 : DLe a0 a) (h2 : Snap st.hp y b0) (d2 : DLe b0 b) : EndsT P rs [a, b] st :=
  ⟨_, res h, .cons h1 d1 (.cons h2 d2 .nil)⟩

theorem ret_bodyT {F : FuncId} {fn : Func} {c : Code} {mv : Nat → Bool} {args : List AV} {ds : List D} {n : Nat} {rs : List ResultVar} (hcb : callB P F = true) (hf : P.funcs[F]? = some fn) (hb : fn.body = some c) (hn : fn.ntmps = n) (hrs : fn.results.toList = rs) (hle : Nat.ble args.length n = true)
    (h : ∀ w g, TWp ⟨P, n, w, 0, g, mv⟩ c ⟨argFr args, []⟩ (bodyQT P rs ds)) : Ret P F [] mv args (.tup (ds.map .d)) [] := by
  subst hn hrs
  have hn := Nat.le_of_ble_eq_true hle
  refine ⟨hcb, ?_⟩
  intro w g vs hout hargs
  have hlen : vs.size = args.length := by have := hargs.1; simpa using this.symm
  have hsim : Sim ⟨P, fn.ntmps, w, 0, g, mv⟩ ⟨argFr args, []⟩ g { tmps := vs ++ Array.replicate (fn.ntmps - vs.size) undef, defers := [] } w := by
    refine Out.sim (C := ⟨P, fn.ntmps, w, 0, g, mv⟩) hout rfl ?_ fun t => ?_
    · simp only [Array.size_append, Array.size_replicate]; omega
    · unfold argFr
      rw [get_argFr, if_pos (Nat.zero_le _), Nat.sub_zero]
      by_cases ht : t < args.length
      · have h1 : args[t]? = some args[t] := List.getElem?_eq_getElem ht
        have h2 : vs.toList[t]? = some (vs.toList[t]'(by simpa [hlen] using ht)) := List.getElem?_eq_getElem _
        have h3 := hargs.2 t _ _ h1 h2
        rw [h1]
        have h4 : (vs ++ Array.replicate (fn.ntmps - vs.size) undef).getD t undef = vs.toList[t]'(by simpa [hlen] using ht) := by
          rw [Array.getD_eq_getD_getElem?, Array.getElem?_append, if_pos (by omega)]
          simp [show t < vs.size by omega]
        rw [h4]
        exact h3
      · rw [List.getElem?_eq_none (by omega)]
        exact .junk _
  refine calls_of_wp hf hb (Go.wp_mono (h w g g _ w hsim) ?_)
  intro e a' w' hq
  obtain ⟨st', g', hQ, hs'⟩ := hq
  have fin : EndsT P fn.results.toList ds st' → a'.defers = [] ∧ ∃ v, (results fn a'.tmps).run P w' = .ok v w' ∧ ∃ v' g', Ending.returned v = .returned v' ∧ Out ⟨P, 0, w, 0, g, mv⟩ [] g' w' ∧ ARep w' g' (.tup (ds.map .d)) v' := by
    rintro ⟨xs, hx, hsn⟩
    obtain ⟨v, hv, hrep⟩ := run_results (P := P) hs' hx
    obtain ⟨g2, h1, h2⟩ := hs'.endS
    refine ⟨hs'.defers, v, hv, v, g2, rfl, h1, ?_⟩
    have hkey := hsn.key
    have key : xs.length = ds.length ∧ ∀ (i : Nat) (x : AV) (d : D) (u : Value), xs[i]? = some x → ds[i]? = some d → ARep w' g' x u → ARep w' g2 (.d d) u := by
      refine ⟨hkey.1, fun i x d u hx hd hu => ?_⟩
      obtain ⟨d0, q1, q2⟩ := hkey.2 i x d hx hd
      have := h2 _ _ _ hu q1
      cases this with | d _ _ q => exact .d _ _ (q2 _ _ _ q)
    cases hrep with
    | tup _ us hl hr =>
      refine .tup _ us (by rw [List.length_map, ← key.1]; exact hl) fun i c u hci hu => ?_
      simp only [List.getElem?_map, Option.map_eq_some_iff] at hci
      obtain ⟨d, hd, rfl⟩ := hci
      have hi : i < xs.length := by rw [key.1]; exact (List.getElem?_eq_some_iff.1 hd).1
      exact key.2 i xs[i] d u (by simp [hi]) hd (hr i xs[i] u (by simp [hi]) hu)
  cases e with
  | normal => exact fin hQ
  | ret => exact fin hQ
  | _ => exact hQ.elim

end Go.TL
