/- Texts of this proof, joined, without what it does not use. No condition. -/
import Derived.Lib.SlicesCompact
import Derived.Test.YtdhicpmpefkojaaGreatQk

namespace Go.TL
open Go.Sort Go.Proofs

variable {C : Ctx} {st : St} {g : Gh} {a : Act} {w : World} {P : Program}

theorem kB {k : Nat} {ids : List Nat} (h : ((List.range k).all fun i => ids[i]? == some i) = true) (i : Nat) (hi : i < k) : ids[i]? = some i := by
  have := List.all_eq_true.1 h i (List.mem_range.2 hi)
  simpa using this

/-! ### A nil slice in a cell is a block of one's own -/

theorem Sim.upB (h : Sim C st g a w) {i j : Nat} {t e sz : Nat} {cs : List AV} (hb : st.hp[i]? = some (.box t cs)) (hc : cs[j]? = some (.d .nilsl)) : Sim C ⟨st.fr, (st.hp.set i (.box t (cs.set j (.msl st.hp.length sz 0 0)))) ++ [Blk.flat e sz []]⟩ g a w := by
  have hi := (List.getElem?_eq_some_iff.1 hb).1
  have hv := h.virt e sz
  have h2 : Sim C ⟨st.fr, (st.hp ++ [Blk.flat e sz []]).set i (.box t (cs.set j (.msl st.hp.length sz 0 0)))⟩ g a w := by
    have hrep := h.hp i _ hb
    obtain ⟨b, cells, hp, hw, hps, hl, hr⟩ := hrep
    refine { hv with hp := fun k B hk => ?_, lt := fun k b hk => by have := hv.lt k b hk; simpa using this, inj := fun k k' b Bk Bk' h1 h2 d1 d2 p1 p2 => ?_, kle := by simpa using hv.kle }
    · rw [List.getElem?_set] at hk
      split at hk
      · rename_i e1
        subst e1
        split at hk
        · cases hk
          refine ⟨b, cells, hp, hw, hps, by simpa using hl, fun q c v hq hv' => ?_⟩
          rw [List.getElem?_set] at hq
          split at hq
          · rename_i e2
            subst e2
            split at hq
            · cases hq
              have := hr _ _ v hc hv'
              cases this with
              | d _ _ hd => cases hd with
                | nilsl ad => exact .msl0 _ _ _ _
            · cases hq
          · exact hr q c v hq hv'
        · cases hk
      · exact hv.hp k B hk
    · have key : ∀ (k : Nat) (Bk : Blk), ((st.hp ++ [Blk.flat e sz []]).set i (.box t (cs.set j (.msl st.hp.length sz 0 0))))[k]? = some Bk → Bk ≠ .dead → ∃ B', (st.hp ++ [Blk.flat e sz []])[k]? = some B' ∧ B' ≠ .dead := by
        intro k Bk hk hd
        rw [List.getElem?_set] at hk
        split at hk
        · rename_i e1
          subst e1
          exact ⟨.box t cs, by rw [List.getElem?_append, if_pos hi]; exact hb, fun e => by cases e⟩
        · exact ⟨Bk, hk, hd⟩
      obtain ⟨B1, e1, d1'⟩ := key k Bk h1 d1
      obtain ⟨B2, e2, d2'⟩ := key k' Bk' h2 d2
      exact hv.inj k k' b B1 B2 e1 e2 d1' d2' p1 p2
  rwa [List.set_append, if_pos hi] at h2
theorem s_upB {ops : Array Oper} {l : List Oper} {K : St → Prop} {fr : Fr} {hp : List Blk} {α : Type} {f : α → D} (i j N e sz : Nat) {t : TypeId} {cs : List AV} (hN : Nat.beq hp.length N = true) (hb : hp[i]? = some (.box t cs)) (hc : cs[j]? = some (.d .nilsl))
    (h : TOps C ops l ⟨fr, (hp.set i (.box t (cs.set j (.msl N sz 0 ([] : List α).length)))) ++ [Blk.flat e sz (([] : List α).map f)]⟩ K) : TOps C ops l ⟨fr, hp⟩ K := by
  have e := Nat.eq_of_beq_eq_true hN
  subst e
  exact fun g a w hs => h g a w (Sim.upB (st := ⟨fr, hp⟩) hs hb hc)
theorem holds_row {mv : Nat → Bool} {e b : Nat} {xs : List Int} (hout : Out ⟨P, 0, w, 1, g, mv⟩ [.flat e 1 (xs.map (D.int .i64))] g w) (hb : g.phi 0 = some b) :
    Holds (Value.int .i64) w b 0 xs.toArray ∧ b < w.heap.size ∧ ∃ cells, w.heap[b]? = some (.cells cells e (0, 0)) ∧ g.psi 0 = cells.size ∧ xs.length ≤ cells.size := by
  have hB := hout.hp 0 _ rfl
  rcases hB with ⟨_, hn0⟩ | ⟨b', cells, hp0, hw, hpsi, hl, hh0, hh1, hr⟩
  · rw [hb] at hn0; cases hn0
  · cases hb.symm.trans hp0
    refine ⟨fun j hj => ?_, (hout.lt 0 b hb).1, cells, hw, hpsi, by simpa using hl⟩
    have hj' : j < xs.length := by simpa using hj
    obtain ⟨v, hv, hd⟩ := hr j (D.int .i64 (xs[j]'hj')) 0 (D.int .i64 (xs[j]'hj')) (by simp [hj']) rfl
    rw [Nat.mul_one, Nat.add_zero] at hv
    cases hd
    rw [Nat.zero_add]
    refine ⟨?_, by simp [World.frozen?, hw]⟩
    rw [cell_of_row w b j cells e (0, 0) hw, hv, getElem!_pos xs.toArray j hj]
    simp
theorem out_row {mv : Nat → Bool} {e b : Nat} {xs : List Int} (hout : Out ⟨P, 0, w, 1, g, mv⟩ [.flat e 1 (xs.map (D.int .i64))] g w) (hb : g.phi 0 = some b) (ys zs : List Int) (hlen : (ys ++ zs).length = xs.length) (m : Nat) (os : Array Obj) :
    Out ⟨P, 0, w, 1, g, mv⟩ [.flat e 1 (ys.map (D.int .i64))] g (Sort.grow (putRow (Value.int .i64) (Sort.ahead w m) b 0 (ys ++ zs).toArray) os) := by
  obtain ⟨_, hblt, cells, hw, hpsi, hcl⟩ := holds_row hout hb
  have hbw : (Sort.ahead w m).heap[b]? = some (.cells cells e (0, 0)) := hw
  have hahead : Out ⟨P, 0, w, 1, g, mv⟩ [.flat e 1 (xs.map (D.int .i64))] g (Sort.ahead w m) := Sim.sameHeap hout rfl rfl rfl rfl (Nat.le_add_right _ _)
  have hwr : (putRow (Value.int .i64) (Sort.ahead w m) b 0 (ys ++ zs).toArray).heap[b]? = some (.cells (putCells (Value.int .i64) 0 (ys ++ zs).toArray cells) e (0, 0)) := by
    show ((Sort.ahead w m).heap.modify b _)[b]? = _
    rw [Array.getElem?_modify, if_pos rfl, hbw]
    rfl
  have hoth : ∀ b', b' ≠ b → (putRow (Value.int .i64) (Sort.ahead w m) b 0 (ys ++ zs).toArray).heap[b']? = (Sort.ahead w m).heap[b']? := fun b' hb' => by
    show ((Sort.ahead w m).heap.modify b _)[b']? = _
    rw [Array.getElem?_modify, if_neg (fun e => hb' e.symm)]
  have hsz : (putRow (Value.int .i64) (Sort.ahead w m) b 0 (ys ++ zs).toArray).heap.size = (Sort.ahead w m).heap.size := by
    show ((Sort.ahead w m).heap.modify b _).size = _
    simp
  have hch := Sim.change (i := 0) (b := b) (B0 := .flat e 1 (xs.map (D.int .i64))) hahead rfl (fun e => by cases e) hb (w' := putRow (Value.int .i64) (Sort.ahead w m) b 0 (ys ++ zs).toArray) hsz rfl rfl rfl (Nat.le_refl _) hoth
    (B := .flat e 1 (ys.map (D.int .i64))) (.inr ⟨b, _, hb, hwr, ?_, ?_, fun k d hk => ?_, fun k d j c hk hc => ?_, fun k d j c hk hc => ?_⟩)
  · exact Sim.grow hch 0 os
  · rw [hpsi, size_putCells]
  · rw [size_putCells]
    simp only [List.length_map, List.length_append] at hlen ⊢; omega
  · simp only [List.getElem?_map, Option.map_eq_some_iff] at hk
    obtain ⟨x, _, rfl⟩ := hk
    rfl
  · simp only [List.getElem?_map, Option.map_eq_some_iff] at hk
    obtain ⟨x, _, rfl⟩ := hk
    cases j with
    | zero => cases hc; rfl
    | succ j => simp [D.cells] at hc
  · simp only [List.getElem?_map, Option.map_eq_some_iff] at hk
    obtain ⟨x, hx, rfl⟩ := hk
    have hk' := (List.getElem?_eq_some_iff.1 hx).1
    cases j with
    | succ j => simp [D.cells] at hc
    | zero =>
      cases hc
      have hx2 : (ys ++ zs)[k]? = some x := by rw [List.getElem?_append, if_pos hk']; exact hx
      have hk2 := (List.getElem?_eq_some_iff.1 hx2).1
      refine ⟨.int .i64 x, ?_, .int _ _⟩
      rw [Nat.mul_one, Nat.add_zero, get_putCells (Value.int .i64) 0 _ cells k (by omega), if_pos ⟨Nat.zero_le _, by simpa using hk2⟩, Nat.sub_zero, getElem!_pos (ys ++ zs).toArray k (by simpa using hk2)]
      have := (List.getElem?_eq_some_iff.1 hx2).2
      simp only [List.getElem_toArray]
      rw [this]

/-! ### slices.Sort -/

def sgnM (x y : Int) : Option Int := some (if x < y then -1 else if y < x then 1 else 0)
theorem ltM_sgn (x y : Int) : ltM sgnM x y = decide (x < y) := by
  unfold ltM sgnM
  simp only [Option.getD_some]
  by_cases h : x < y
  · rw [if_pos h, decide_eq_true h]; rfl
  · rw [if_neg h, decide_eq_false h]
    split <;> rfl
theorem sgnM_sort : SortOk sgnM where
  tot x y := ⟨_, rfl⟩
  irrefl x := by rw [ltM_sgn]; simp
  trans x y z h1 h2 := by rw [ltM_sgn] at *; simp at *; omega
  ntrans x y z h1 h2 := by rw [ltM_sgn] at *; simp at *; omega
  anti x y h1 h2 := by rw [ltM_sgn] at *; simp at *; omega
/-- Ascending. -/
def sortI (l : List Int) : List Int := sortM sgnM l
theorem sortI_merge (l : List Int) : (l.mergeSort fun x y => decide (x ≤ y)) = sortI l := by
  have h := sortM_merge sgnM_sort l
  have e : (fun x y : Int => !ltM sgnM y x) = fun x y => decide (x ≤ y) := by
    funext x y
    rw [ltM_sgn]
    by_cases h : y < x
    · rw [decide_eq_true h, decide_eq_false (by omega)]; rfl
    · rw [decide_eq_false h, decide_eq_true (by omega)]; rfl
  rw [e] at h
  exact h
theorem sortI_length (l : List Int) : (sortI l).length = l.length := sortM_length _

theorem ret_sortI {F : FuncId} (e : TypeId) (mv : Nat → Bool) (xs : List Int) (hcbF : callB P F = true) (hlen : xs.length < 4611686018427387904)
    (hnone : ∀ (p : Option Addr) (cap : Nat) (w : World), Calls P F #[.slice p 0 cap] w fun e w' => e = .returned (.tuple #[]) ∧ w' = w)
    (hsort : ∀ (blk off cap : Nat) (zs : List Int) (w : World), Holds (Value.int .i64) w blk off zs.toArray → blk < w.heap.size → zs.length < 4611686018427387904 →
      Calls P F #[.slice (some ⟨blk, off, none⟩) zs.length cap] w fun e w' => e = .returned (.tuple #[]) ∧ ∃ n os, w' = Sort.grow (putRow (Value.int .i64) (Sort.ahead w n) blk off (zs.mergeSort fun x y => decide (x ≤ y)).toArray) os) :
    Ret P F [.flat e 1 (xs.map (D.int .i64))] mv [.msl 0 1 0 xs.length] (.tup []) [.flat e 1 ((sortI xs).map (D.int .i64))] := by
  refine ⟨hcbF, fun w g vs hout hargs => ?_⟩
  obtain ⟨v0, rfl⟩ : ∃ v0, vs = #[v0] := by
    have hl : vs.size = 1 := by have := hargs.1; simpa using this.symm
    exact ⟨vs[0], by apply Array.ext; simp [hl]; intro i h1 h2; match i, h2 with | 0, _ => rfl⟩
  have h0 := hargs.2 0 _ _ rfl rfl
  generalize hn : xs.length = n at h0
  cases h0 with
  | msl0 _ _ _ ad =>
    have hxs : xs = [] := List.eq_nil_of_length_eq_zero hn
    subst hxs
    refine (hnone ad 0 w).mono ?_
    rintro e w' ⟨rfl, rfl⟩
    exact ⟨_, g, rfl, hout, .tup [] #[] rfl fun i c v h => by simp at h⟩
  | msl _ _ _ _ cap b hb hc hpz =>
    subst hn
    rw [Nat.zero_mul]
    obtain ⟨hH, hblt, _⟩ := holds_row hout hb
    refine (show Calls P F #[.slice (some ⟨b, 0, none⟩) xs.length cap] w _ from hsort b 0 cap xs w hH hblt hlen).mono ?_
    rintro e' w' ⟨rfl, m, os, rfl⟩
    refine ⟨_, g, rfl, ?_, .tup [] #[] rfl fun i c v h => by simp at h⟩
    have := out_row hout hb (sortI xs) [] (by rw [List.append_nil, sortI_length]) m os
    rw [List.append_nil] at this
    rw [sortI_merge]
    exact this

/-! ### slices.Compact -/

theorem compact_length (xs : List Int) : (Lib.compact xs).length ≤ xs.length := by
  unfold Lib.compact Lib.compactUpTo
  rw [List.length_map]
  exact Nat.le_trans (List.length_filter_le _ _) (by simp)
theorem ret_compactI {F : FuncId} (e : TypeId) (mv : Nat → Bool) (xs : List Int) (hcbF : callB P F = true) (hlen : xs.length ≤ 9223372036854775807)
    (hnone : ∀ (p : Option Addr) (cap : Nat) (w : World), Calls P F #[.slice p 0 cap] w fun e w' => e = .returned (.slice p 0 cap) ∧ w' = w)
    (hcomp : ∀ (blk off cap : Nat) (zs : List Int) (w : World), Holds (Value.int .i64) w blk off zs.toArray → zs.length ≤ 9223372036854775807 → zs.length ≤ cap →
      Calls P F #[.slice (some ⟨blk, off, none⟩) zs.length cap] w fun e w' => e = .returned (.slice (some ⟨blk, off, none⟩) (Lib.compact zs).length cap) ∧ ∃ q, w' = putRow (Value.int .i64) (Sort.ahead w q) blk off (Lib.compact zs ++ List.replicate (zs.length - (Lib.compact zs).length) 0).toArray) :
    Ret P F [.flat e 1 (xs.map (D.int .i64))] mv [.msl 0 1 0 xs.length] (.msl 0 1 0 (Lib.compact xs).length) [.flat e 1 ((Lib.compact xs).map (D.int .i64))] := by
  refine ⟨hcbF, fun w g vs hout hargs => ?_⟩
  obtain ⟨v0, rfl⟩ : ∃ v0, vs = #[v0] := by
    have hl : vs.size = 1 := by have := hargs.1; simpa using this.symm
    exact ⟨vs[0], by apply Array.ext; simp [hl]; intro i h1 h2; match i, h2 with | 0, _ => rfl⟩
  have h0 := hargs.2 0 _ _ rfl rfl
  generalize hn : xs.length = n at h0
  cases h0 with
  | msl0 _ _ _ ad =>
    have hxs : xs = [] := List.eq_nil_of_length_eq_zero hn
    subst hxs
    refine (hnone ad 0 w).mono ?_
    rintro e w' ⟨rfl, rfl⟩
    exact ⟨_, g, rfl, hout, .msl0 _ _ _ _⟩
  | msl _ _ _ _ cap b hb hc hpz =>
    subst hn
    rw [Nat.zero_mul]
    obtain ⟨hH, hblt, _⟩ := holds_row hout hb
    refine (show Calls P F #[.slice (some ⟨b, 0, none⟩) xs.length cap] w _ from hcomp b 0 cap xs w hH hlen (by omega)).mono ?_
    rintro e' w' ⟨rfl, m, rfl⟩
    have hcl := compact_length xs
    refine ⟨_, g, rfl, ?_, ?_⟩
    · have := out_row hout hb (Lib.compact xs) (List.replicate (xs.length - (Lib.compact xs).length) 0) (by simp; omega) m #[]
      have hg : ∀ W : World, Sort.grow W #[] = W := fun W => by unfold Sort.grow; simp
      rwa [hg] at this
    · have := ARep.msl (w := putRow (Value.int .i64) (Sort.ahead w m) b 0 (Lib.compact xs ++ List.replicate (xs.length - (Lib.compact xs).length) 0).toArray) (g := g) 0 1 0 (Lib.compact xs).length cap b hb (by omega) hpz
      simpa using this

/-! ### Into holes -/

theorem w_mkD {α : Type} {f : α → D} {T : Tab} {o : Oper} {ev : Operand → AV} {hp : List Blk} {t e sz by' i : Nat} {a b : Operand} {z : Value} {zd : D} {n : Int} {x : α} (hT : TabOk C.P T) (hi : hp[i]? = some .hole) (ho : o.op = .makeSlice t a b) (hl : lk T.sel t = some (e, sz, by')) (hz : (C.P.info? e).bind (·.zero) = some z) (hzd : ofConst z = .d zd) (hzs : Nat.beq zd.cells.length sz = true)
    (ha : ev a = .d (.int .i64 n)) (hb : ev b = .d (.int .i64 n)) (hby : Nat.ble by' 100000 = true) (hn : 0 ≤ n ∧ n ≤ 1000000000) (hf : f x = zd) : DOk C o ev hp (.msl i sz 0 (List.replicate n.toNat x).length) [(i, .flat e sz ((List.replicate n.toNat x).map f))] :=
  DOk.mk fun st hhp hag g aa w hsim => by
    have h1 := Nat.le_of_ble_eq_true hby
    obtain ⟨m, rfl⟩ := Int.eq_ofNat_of_zero_le hn.1
    have h2 : m ≤ 1000000000 := by omega
    have h3 : by' * m ≤ 100000 * 1000000000 := Nat.mul_le_mul h1 h2
    obtain ⟨vs, hr, row⟩ := core_makeSlice (st := st) sz by' (m : Int) z zd ho (hT.sel hl) hz hzd (Nat.eq_of_beq_eq_true hzs) (by rw [hag a (by simp [ho, Op.operands]), ha]) (by rw [hag b (by simp [ho, Op.operands]), hb]) (by omega) (by omega) (by omega) hsim
    obtain ⟨g', h4, h5⟩ := row.filled (ty := e) hsim (hole_at hi hhp) m (by simp)
    rw [List.map_replicate, hf]
    simp only [List.length_replicate, Int.toNat_natCast] at h4 h5 ⊢
    exact ⟨_, _, g', hr, h4, h5⟩

def toHole (hs : List Nat) : AV → AV
  | .msl i s o l => .msl (hs.getD i 0) s o l
  | .mptr i s x o => .mptr (hs.getD i 0) s x o
  | .mmap i => .mmap (hs.getD i 0)
  | v => v

/-- A call with data whose result lies in several blocks of its own. -/
theorem w_callBs {o : Oper} {ev : Operand → AV} {hp : List Blk} (hs : List Nat) {f : Operand} {xs : Array Operand} {ts : Array TypeId} {F : FuncId} {mv : Nat → Bool} {ds : List D} {r r' : AV} {Bs : List Blk} (hi : ∀ i ∈ hs, hp[i]? = some .hole) (hnd : hs.Nodup) (hl : Bs.length = hs.length) (ho : o.op = .call { callee := .value f, args := xs, argTypes := ts })
    (hf : ev f = .d (.fn F)) (hx : xs.toList.map ev = ds.map .d) (hret : Ret C.P F [] mv (ds.map .d) r Bs) (hm : ∀ B ∈ Bs, BMem0 B) (hmr : AMem0 r) (hrr : r.mapRef (toHole hs) = r') (hBB : ∀ B ∈ Bs, B.mapRef (fun _ => .junk) = B) : DOk C o ev hp r' (hs.zip Bs) := by
  intro st hhp hlen _ hag g a w hsim Q K' hK
  have hih : ∀ i ∈ hs, st.hp[i]? = some .hole := fun i h => hole_at (hi i h) hhp
  have hno : ∀ i ∈ hs, g.phi i = none := fun i h => hsim.hp i _ (hih i h)
  have hil : ∀ i ∈ hs, i < st.hp.length := fun i h => (List.getElem?_eq_some_iff.1 (hih i h)).1
  have hfv := hsim.ev f
  rw [hag f (by simp [ho, Op.operands, Call.operands]), hf] at hfv
  have hargs : Pw (ARep w (ghost0 g.X)) (ds.map .d) (xs.map a.eval).toList := by
    have := dargs (cs := []) (vs := #[]) hsim (fun y hy => hag y (by simp only [ho, Op.operands, Call.operands]; exact Array.mem_append.2 (.inr hy))) hx ⟨rfl, fun i x y h => by simp at h⟩
    simpa using this
  simp only [Oper.wp, run_exec_call ho (fn_inv hfv) hret.1, Oper.upon_enter, Array.append_empty]
  refine (hret.2 w (ghost0 g.X) _ (out0 hsim mv hsim.Xlt) hargs).mono ?_
  rintro e w' ⟨v, g', rfl, hout, hr⟩
  have hold : ∀ b, b < w.heap.size → w'.heap[b]? = w.heap[b]? := fun b hb => hout.keep b hb fun i hi => absurd hi (Nat.not_lt_zero i)
  have hsz := hout.grown
  simp only at hsz
  have hnew : ∀ j b, g'.phi j = some b → w.heap.size ≤ b := by
    intro j b hp
    rcases Nat.lt_or_ge b w.heap.size with hlt | hge
    · exact absurd (hout.own j b hp hlt).1 (Nat.not_lt_zero _)
    · exact hge
  let g2 : Gh := { phi := fun j => match placeOf hs j with | some i => g'.phi i | none => g.phi j, psi := fun j => match placeOf hs j with | some i => g'.psi i | none => g.psi j, X := g.X }
  have hin : ∀ {j i : Nat}, placeOf hs j = some i → j ∈ hs := fun h => List.mem_of_getElem? (placeOf_some hs _ _ h)
  have hgr : Grow w g w' g2 := by
    refine ⟨fun j b hp => ?_, fun j b hp => ?_, fun _ h => h, fun b hb => hold b (hsim.Xlt b hb)⟩
    · cases hpl : placeOf hs j with
      | some i => rw [hno j (hin hpl)] at hp; cases hp
      | none => simpa [g2, hpl] using hp
    · cases hpl : placeOf hs j with
      | some i => rw [hno j (hin hpl)] at hp; cases hp
      | none => simp [g2, hpl]
  have hphi : ∀ j b, g2.phi j = some b → (∃ i, placeOf hs j = some i ∧ g'.phi i = some b) ∨ (placeOf hs j = none ∧ g.phi j = some b) := by
    intro j b hp
    cases hpl : placeOf hs j with
    | some i => exact .inl ⟨i, rfl, by simpa [g2, hpl] using hp⟩
    | none => exact .inr ⟨rfl, by simpa [g2, hpl] using hp⟩
  have hzl : ∀ p ∈ hs.zip Bs, p.1 < st.hp.length := fun p hp => hil _ (List.of_mem_zip hp).1
  have hzn : ((hs.zip Bs).map (·.1)).Nodup := by
    rw [List.map_fst_zip (by omega)]; exact hnd
  have hwr := fun b => wr_get (hs.zip Bs) st.hp b hzl hzn
  have hget : ∀ {j i : Nat} {B : Blk}, hs[i]? = some j → Bs[i]? = some B → (wr (hs.zip Bs) st.hp)[j]? = some B := by
    intro j i B h1 h2
    have : (hs.zip Bs)[i]? = some (j, B) := by rw [List.getElem?_zip_eq_some]; exact ⟨h1, h2⟩
    exact (hwr j).1 (j, B) (List.mem_of_getElem? this) rfl
  have hgetN : ∀ {j : Nat}, placeOf hs j = none → (wr (hs.zip Bs) st.hp)[j]? = st.hp[j]? := by
    intro j hpl
    refine (hwr j).2 fun p hp e => ?_
    obtain ⟨i, hi⟩ := List.getElem?_of_mem (List.of_mem_zip hp).1
    rw [e] at hi
    exact placeOf_none hpl i hi
  have hB : ∀ {j i : Nat} {B : Blk}, placeOf hs j = some i → Bs[i]? = some B → BRep w' g2 j B := by
    intro j i B hpl hBi
    have h1 := BRep.any (Y := fun _ => False) (hout.hp i B hBi) (hm B (List.mem_of_getElem? hBi))
    have h2 := BRep.mapRef (g' := g2) (F := fun _ => .junk) (j := j) (by simp [g2, hpl]) (by simp [g2, hpl]) (fun b hb => False.elim hb) (fun x v _ _ => .junk v) h1
    rwa [hBB B (List.mem_of_getElem? hBi)] at h2
  have hBs : ∀ {j i : Nat}, placeOf hs j = some i → ∃ B, Bs[i]? = some B := by
    intro j i hpl
    have := (List.getElem?_eq_some_iff.1 (placeOf_some hs _ _ hpl)).1
    exact ⟨Bs[i]'(by omega), List.getElem?_eq_getElem _⟩
  have hlw : (wr (hs.zip Bs) st.hp).length = st.hp.length := wr_length _ _
  refine hK v w' g2 ?_ ?_
  · refine { defers := hsim.defers, size := hsim.size, fr := fun t => (hsim.fr t).mono hgr, hp := ?_, lt := ?_, inj := ?_, Xlt := ?_, Xold := hsim.Xold, os := hout.os.trans hsim.os, tape := hout.tape.trans hsim.tape, output := hout.output.trans hsim.output, drawn := Nat.le_trans hsim.drawn hout.drawn, grown := Nat.le_trans hsim.grown hsz, keep := ?_, own := ?_, stay := ?_, kle := ?_ }
    · intro j B hj
      cases hpl : placeOf hs j with
      | some i =>
        obtain ⟨B', hB'⟩ := hBs hpl
        have := hget (placeOf_some hs _ _ hpl) hB'
        simp only at hj
        rw [this] at hj; cases hj
        exact hB hpl hB'
      | none =>
        simp only at hj
        rw [hgetN hpl] at hj
        refine (hsim.hp j B hj).mono hgr (fun hn => by simpa [g2, hpl] using hn) fun b hb => hold b (hsim.lt j b hb).1
    · intro j b hp
      simp only [hlw]
      rcases hphi j b hp with ⟨i, hpl, hp'⟩ | ⟨_, hp'⟩
      · exact ⟨(hout.lt i b hp').1, hil j (hin hpl), fun hX => by have := hsim.Xlt b hX; have := hnew i b hp'; omega⟩
      · have := hsim.lt j b hp'; exact ⟨by omega, this.2.1, this.2.2⟩
    · intro j j' b Bj Bj' hBj hBj' hdj hdj' hj hj'
      simp only at hBj hBj'
      rcases hphi j b hj with ⟨i, hpl, h1⟩ | ⟨hpl, h1⟩ <;> rcases hphi j' b hj' with ⟨i', hpl', h2⟩ | ⟨hpl', h2⟩
      · obtain ⟨B1, e1⟩ := hBs hpl
        obtain ⟨B2, e2⟩ := hBs hpl'
        rw [hget (placeOf_some hs _ _ hpl) e1] at hBj
        rw [hget (placeOf_some hs _ _ hpl') e2] at hBj'
        cases hBj; cases hBj'
        have := hout.inj i i' b _ _ e1 e2 hdj hdj' h1 h2
        subst this
        have h3 := placeOf_some hs _ _ hpl
        rw [placeOf_some hs _ _ hpl'] at h3
        exact (Option.some.inj h3).symm
      · have := (hsim.lt _ _ h2).1; have := hnew i b h1; omega
      · have := (hsim.lt _ _ h1).1; have := hnew i' b h2; omega
      · rw [hgetN hpl] at hBj
        rw [hgetN hpl'] at hBj'
        exact hsim.inj j j' b Bj Bj' hBj hBj' hdj hdj' h1 h2
    · intro b hX; have := hsim.Xlt b hX; omega
    · intro b hb hk; rw [hold b (by have := hsim.grown; omega)]; exact hsim.keep b hb hk
    · intro j b hp hb
      rcases hphi j b hp with ⟨i, _, hp'⟩ | ⟨_, hp'⟩
      · have := hnew i b hp'; have := hsim.grown; omega
      · exact hsim.own j b hp' hb
    · intro j b hj hmj hp
      have hst := hsim.stay j b hj hmj hp
      have hpl : placeOf hs j = none := by
        cases h : placeOf hs j with
        | none => rfl
        | some i => rw [hno j (hin h)] at hst; cases hst.2
      simpa [g2, hpl] using hst
    · simp only [hlw]; exact hsim.kle
  · subst hrr
    have h1 := ARep.any (Y := g.X) hr hmr
    refine ARep.mapRef (w := w') (g := { g' with X := g.X }) (g' := g2) (fun d v hd => hd) (fun x v hx hr => ?_) h1
    have hat : ∀ {id b : Nat}, g'.phi id = some b → g2.phi (hs.getD id 0) = some b ∧ g2.psi (hs.getD id 0) = g'.psi id := by
      intro id b hb
      have hid := (hout.lt id b hb).2.1
      simp only at hid
      have hlt : id < hs.length := by omega
      have hge : hs[id]? = some (hs.getD id 0) := by rw [List.getD_eq_getElem?_getD, List.getElem?_eq_getElem hlt]; rfl
      have hpl := placeOf_of hnd hge
      exact ⟨by simp only [g2, hpl]; exact hb, by simp only [g2, hpl]⟩
    cases hx with
    | msl0 => exact .msl0 _ _ _ _
    | msl id sz off len cap b hb hc hp => exact .msl _ _ _ _ cap b (hat hb).1 hc (by rw [(hat hb).2]; exact hp)
    | mptr id sz idx off b hb => exact .mptr _ _ _ _ b (hat hb).1
    | mmap id b hb => exact .mmap _ b (hat hb).1
    | _ => cases hr

theorem w_stoB {T : Tab} {o : Oper} {ev : Operand → AV} {hp : List Blk} {t : TypeId} {x y : Operand} {id off s : Nat} {bb : Bool} {bt : TypeId} {cs cs' : List AV} {v : AV} (hT : TabOk C.P T) (ho : o.op = .store t x y) (hd : o.dst = none) (hl : lk T.lay t = some (bb, s)) (hx : ev x = .mptr id 0 0 off) (hy : ev y = v) (hf : v.flat = true) (hs : Nat.beq v.cells.length s = true)
    (hb : hp[id]? = some (.box bt cs)) (hc : Nat.ble (off + s) cs.length = true) (hv : spl cs off v.cells = cs') : DOk C o ev hp .junk [(id, .box bt cs')] :=
  w_store_box ho hd (hT.lay hl) hx hy hf (Nat.eq_of_beq_eq_true hs) hb (Nat.le_of_ble_eq_true hc) hv

end Go.TL

set_option maxHeartbeats 8000000
set_option linter.unusedSimpArgs false
set_option linter.unusedVariables false
set_option maxRecDepth 20000
namespace Go.Proofs.YtdhicpmpefkojaaGreat
open Go Go.TL

structure Step where
 el : Int
 inV : Int
 out : Int
deriving DecidableEq, Inhabited
def Step.enc (x : Step) : D := .agg [.int .i64 x.el, .int .i64 x.inV, .int .i64 x.out]
structure Step.Wf (x : Step) : Prop where
 el : I64 x.el
 inV : I64 x.inV
 out : I64 x.out

structure Setting where
 el : Int
 pos : Int
deriving DecidableEq, Inhabited
def Setting.enc (x : Setting) : D := .agg [.int .i64 x.el, .int .i64 x.pos]
structure Setting.Wf (x : Setting) : Prop where
 el : I64 x.el
 pos : I64 x.pos

structure End where
 el : Int
 side : Int
deriving DecidableEq, Inhabited
def End.enc (x : End) : D := .agg [.int .i64 x.el, .int .i64 x.side]
structure End.Wf (x : End) : Prop where
 el : I64 x.el
 side : I64 x.side

structure Route where
 name : ByteArray
 entry : Int
 exit : Int
 path : (List Step)
 points : (List Setting)
 sections : (List Int)
 approach : Int
 length : Int
 over : (List Step)
 overPoints : (List Setting)
 overSections : (List Int)
 flank : (List Setting)
 guards : (List Int)
 gaps : (List End)
deriving DecidableEq, Inhabited
def Route.enc (x : Route) : D := .agg [.str x.name, .int .i64 x.entry, .int .i64 x.exit, .sl 3 (x.path.map Step.enc), .sl 2 (x.points.map Setting.enc), .sl 1 (x.sections.map (D.int .i64)), .int .i64 x.approach, .int .i64 x.length, .sl 3 (x.over.map Step.enc), .sl 2 (x.overPoints.map Setting.enc), .sl 1 (x.overSections.map (D.int .i64)), .sl 2 (x.flank.map Setting.enc), .sl 1 (x.guards.map (D.int .i64)), .sl 2 (x.gaps.map End.enc)]
structure Route.Wf (x : Route) : Prop where
 name : x.name.size ≤ reachBytes
 entry : I64 x.entry
 exit : I64 x.exit
 path : x.path.length ≤ reachBytes ∧ ∀ y ∈ x.path, Step.Wf y
 points : x.points.length ≤ reachBytes ∧ ∀ y ∈ x.points, Setting.Wf y
 sections : x.sections.length ≤ reachBytes ∧ ∀ y ∈ x.sections, I64 y
 approach : I64 x.approach
 length : I64 x.length
 over : x.over.length ≤ reachBytes ∧ ∀ y ∈ x.over, Step.Wf y
 overPoints : x.overPoints.length ≤ reachBytes ∧ ∀ y ∈ x.overPoints, Setting.Wf y
 overSections : x.overSections.length ≤ reachBytes ∧ ∀ y ∈ x.overSections, I64 y
 flank : x.flank.length ≤ reachBytes ∧ ∀ y ∈ x.flank, Setting.Wf y
 guards : x.guards.length ≤ reachBytes ∧ ∀ y ∈ x.guards, I64 y
 gaps : x.gaps.length ≤ reachBytes ∧ ∀ y ∈ x.gaps, End.Wf y

structure Table where
 routes : (List Route)
 points : (List Int)
 homes : (List Int)
 sections : Int
 signals : Int
deriving DecidableEq, Inhabited
def Table.enc (x : Table) : D := .agg [.sl 14 (x.routes.map Route.enc), .sl 1 (x.points.map (D.int .i64)), .sl 1 (x.homes.map (D.int .i64)), .int .i64 x.sections, .int .i64 x.signals]
structure Table.Wf (x : Table) : Prop where
 routes : x.routes.length ≤ reachBytes ∧ ∀ y ∈ x.routes, Route.Wf y
 points : x.points.length ≤ reachBytes ∧ ∀ y ∈ x.points, I64 y
 homes : x.homes.length ≤ reachBytes ∧ ∀ y ∈ x.homes, I64 y
 sections : I64 x.sections
 signals : I64 x.signals

structure RouteState where
 state : Int
 rel : Int
 timer : Int
deriving DecidableEq, Inhabited
def RouteState.enc (x : RouteState) : D := .agg [.int .i64 x.state, .int .i64 x.rel, .int .i64 x.timer]
structure RouteState.Wf (x : RouteState) : Prop where
 state : I64 x.state
 rel : I64 x.rel
 timer : I64 x.timer

structure Inter where
 routes : (List RouteState)
 lies : (List Int)
deriving DecidableEq, Inhabited
def Inter.enc (x : Inter) : D := .agg [.sl 3 (x.routes.map RouteState.enc), .sl 1 (x.lies.map (D.int .i64))]
structure Inter.Wf (x : Inter) : Prop where
 routes : x.routes.length ≤ reachBytes ∧ ∀ y ∈ x.routes, RouteState.Wf y
 lies : x.lies.length ≤ reachBytes ∧ ∀ y ∈ x.lies, I64 y

structure Inputs where
 occupied : (List Bool)
 detected : (List Int)
 closed : (List Bool)
 claimed : (List Bool)
 passed : (List Bool)
 calls : (List Int)
 cancels : (List Int)
deriving DecidableEq, Inhabited
def Inputs.enc (x : Inputs) : D := .agg [.sl 1 (x.occupied.map D.bool), .sl 1 (x.detected.map (D.int .i64)), .sl 1 (x.closed.map D.bool), .sl 1 (x.claimed.map D.bool), .sl 1 (x.passed.map D.bool), .sl 1 (x.calls.map (D.int .i64)), .sl 1 (x.cancels.map (D.int .i64))]
structure Inputs.Wf (x : Inputs) : Prop where
 occupied : x.occupied.length ≤ reachBytes ∧ ∀ y ∈ x.occupied, True
 detected : x.detected.length ≤ reachBytes ∧ ∀ y ∈ x.detected, I64 y
 closed : x.closed.length ≤ reachBytes ∧ ∀ y ∈ x.closed, True
 claimed : x.claimed.length ≤ reachBytes ∧ ∀ y ∈ x.claimed, True
 passed : x.passed.length ≤ reachBytes ∧ ∀ y ∈ x.passed, True
 calls : x.calls.length ≤ reachBytes ∧ ∀ y ∈ x.calls, I64 y
 cancels : x.cancels.length ≤ reachBytes ∧ ∀ y ∈ x.cancels, I64 y

structure A2_int where
 a0 : Int
 a1 : Int
deriving DecidableEq, Inhabited
def A2_int.enc (x : A2_int) : D := .agg [.int .i64 x.a0, .int .i64 x.a1]
structure A2_int.Wf (x : A2_int) : Prop where
 a0 : I64 x.a0
 a1 : I64 x.a1

structure View where
 t : Table
 inV : Inputs
 route : Route
 old : RouteState
 claimed : Bool
 passed : Bool
 cancelled : Bool
 emptied : Bool
deriving DecidableEq, Inhabited
def View.enc (x : View) : D := .agg [.sl 14 (x.t.routes.map Route.enc), .sl 1 (x.t.points.map (D.int .i64)), .sl 1 (x.t.homes.map (D.int .i64)), .int .i64 x.t.sections, .int .i64 x.t.signals, .sl 1 (x.inV.occupied.map D.bool), .sl 1 (x.inV.detected.map (D.int .i64)), .sl 1 (x.inV.closed.map D.bool), .sl 1 (x.inV.claimed.map D.bool), .sl 1 (x.inV.passed.map D.bool), .sl 1 (x.inV.calls.map (D.int .i64)), .sl 1 (x.inV.cancels.map (D.int .i64)), .str x.route.name, .int .i64 x.route.entry, .int .i64 x.route.exit, .sl 3 (x.route.path.map Step.enc), .sl 2 (x.route.points.map Setting.enc), .sl 1 (x.route.sections.map (D.int .i64)), .int .i64 x.route.approach, .int .i64 x.route.length, .sl 3 (x.route.over.map Step.enc), .sl 2 (x.route.overPoints.map Setting.enc), .sl 1 (x.route.overSections.map (D.int .i64)), .sl 2 (x.route.flank.map Setting.enc), .sl 1 (x.route.guards.map (D.int .i64)), .sl 2 (x.route.gaps.map End.enc), .int .i64 x.old.state, .int .i64 x.old.rel, .int .i64 x.old.timer, .bool x.claimed, .bool x.passed, .bool x.cancelled, .bool x.emptied]
structure View.Wf (x : View) : Prop where
 t : Table.Wf x.t
 inV : Inputs.Wf x.inV
 route : Route.Wf x.route
 old : RouteState.Wf x.old
 claimed : True
 passed : True
 cancelled : True
 emptied : True

structure Outputs where
 clear : (List Bool)
 lies : (List Int)
 refused : (List Int)
deriving DecidableEq, Inhabited
def Outputs.enc (x : Outputs) : D := .agg [.sl 1 (x.clear.map D.bool), .sl 1 (x.lies.map (D.int .i64)), .sl 1 (x.refused.map (D.int .i64))]
structure Outputs.Wf (x : Outputs) : Prop where
 clear : x.clear.length ≤ reachBytes ∧ ∀ y ∈ x.clear, True
 lies : x.lies.length ≤ reachBytes ∧ ∀ y ∈ x.lies, I64 y
 refused : x.refused.length ≤ reachBytes ∧ ∀ y ∈ x.refused, I64 y

structure Cycle where
 inter : Inter
 t : Table
 inV : Inputs
 refused : (List Int)
deriving DecidableEq, Inhabited
structure Cycle.Wf (x : Cycle) : Prop where
 inter : Inter.Wf x.inter
 t : Table.Wf x.t
 inV : Inputs.Wf x.inV
 refused : x.refused.length ≤ reachBytes ∧ ∀ y ∈ x.refused, I64 y

def RouteState.ok (x : RouteState) : Prop := I64 x.state ∧ I64 x.rel ∧ I64 x.timer
instance (x : RouteState) : Decidable (RouteState.ok x) := by unfold RouteState.ok; infer_instance
theorem RouteState_lits (x y : RouteState) : ([.int .i64 x.state, .int .i64 x.rel, .int .i64 x.timer] : List Lit) = [.int .i64 y.state, .int .i64 y.rel, .int .i64 y.timer] ↔ decide (x = y) = true := by
 rw [decide_eq_true_eq]
 obtain ⟨_, _, _⟩ := x
 obtain ⟨_, _, _⟩ := y
 simp [RouteState.mk.injEq, bytes_data, and_assoc]
def Setting.ok (x : Setting) : Prop := I64 x.el ∧ I64 x.pos
instance (x : Setting) : Decidable (Setting.ok x) := by unfold Setting.ok; infer_instance
theorem Setting_lits (x y : Setting) : ([.int .i64 x.el, .int .i64 x.pos] : List Lit) = [.int .i64 y.el, .int .i64 y.pos] ↔ decide (x = y) = true := by
 rw [decide_eq_true_eq]
 obtain ⟨_, _⟩ := x
 obtain ⟨_, _⟩ := y
 simp [Setting.mk.injEq, bytes_data, and_assoc]
def A2_int.ok (x : A2_int) : Prop := I64 x.a0 ∧ I64 x.a1
instance (x : A2_int) : Decidable (A2_int.ok x) := by unfold A2_int.ok; infer_instance
theorem A2_int_lits (x y : A2_int) : ([.int .i64 x.a0, .int .i64 x.a1] : List Lit) = [.int .i64 y.a0, .int .i64 y.a1] ↔ decide (x = y) = true := by
 rw [decide_eq_true_eq]
 obtain ⟨_, _⟩ := x
 obtain ⟨_, _⟩ := y
 simp [A2_int.mk.injEq, bytes_data, and_assoc]

end Go.Proofs.YtdhicpmpefkojaaGreat
