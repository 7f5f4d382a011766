/- Texts of this proof, joined, without what it does not use. No condition. -/
import Derived.Lib.SlicesCompact
import Derived.Test.YtdhicpmpefkojaaGreatQm

namespace Go.TL
open Go.Sort Go.Proofs

variable {C : Ctx} {st : St} {g : Gh} {a : Act} {w : World} {P : Program}

theorem kB {k : Nat} {ids : List Nat} (h : ((List.range k).all fun i => ids[i]? == some i) = true) (i : Nat) (hi : i < k) : ids[i]? = some i := by
  have := List.all_eq_true.1 h i (List.mem_range.2 hi)
  simpa using this

/-! ### A nil slice in a cell is a block of one's own -/

theorem Sim.upB (h : Sim C st g a w) {i j : Nat} {t e sz : Nat} {cs : List AV} (hb : st.hp[i]? = some (.box t cs)) (hc : cs[j]? = some (.d .nilsl)) : Sim C ⟨st.fr, (st.hp.set i (.box t (cs.set j (.msl st.hp.length sz 0 0)))) ++ [Blk.flat e sz []]⟩ g a w := by
  have hi := (List.getElem?_eq_some_iff.1 hb).1
  have hv := h.virt e sz
  have h2 : Sim C ⟨st.fr, (st.hp ++ [Blk.flat e sz []]).set i (.box t (cs.set j (.msl st.hp.length sz 0 0)))⟩ g a w := by
    have hrep := h.hp i _ hb
    obtain ⟨b, cells, hp, hw, hps, hl, hr⟩ := hrep
    refine { hv with hp := fun k B hk => ?_, lt := fun k b hk => by have := hv.lt k b hk; simpa using this, inj := fun k k' b Bk Bk' h1 h2 d1 d2 p1 p2 => ?_, kle := by simpa using hv.kle }
    · rw [List.getElem?_set] at hk
      split at hk
      · rename_i e1
        subst e1
        split at hk
        · cases hk
          refine ⟨b, cells, hp, hw, hps, by simpa using hl, fun q c v hq hv' => ?_⟩
          rw [List.getElem?_set] at hq
          split at hq
          · rename_i e2
            subst e2
            split at hq
            · cases hq
              have := hr _ _ v hc hv'
              cases this with
              | d _ _ hd => cases hd with
                | nilsl ad => exact .msl0 _ _ _ _
            · cases hq
          · exact hr q c v hq hv'
        · cases hk
      · exact hv.hp k B hk
    · have key : ∀ (k : Nat) (Bk : Blk), ((st.hp ++ [Blk.flat e sz []]).set i (.box t (cs.set j (.msl st.hp.length sz 0 0))))[k]? = some Bk → Bk ≠ .dead → ∃ B', (st.hp ++ [Blk.flat e sz []])[k]? = some B' ∧ B' ≠ .dead := by
        intro k Bk hk hd
        rw [List.getElem?_set] at hk
        split at hk
        · rename_i e1
          subst e1
          exact ⟨.box t cs, by rw [List.getElem?_append, if_pos hi]; exact hb, fun e => by cases e⟩
        · exact ⟨Bk, hk, hd⟩
      obtain ⟨B1, e1, d1'⟩ := key k Bk h1 d1
      obtain ⟨B2, e2, d2'⟩ := key k' Bk' h2 d2
      exact hv.inj k k' b B1 B2 e1 e2 d1' d2' p1 p2
  rwa [List.set_append, if_pos hi] at h2
theorem s_upB {ops : Array Oper} {l : List Oper} {K : St → Prop} {fr : Fr} {hp : List Blk} {α : Type} {f : α → D} (i j N e sz : Nat) {t : TypeId} {cs : List AV} (hN : Nat.beq hp.length N = true) (hb : hp[i]? = some (.box t cs)) (hc : cs[j]? = some (.d .nilsl))
    (h : TOps C ops l ⟨fr, (hp.set i (.box t (cs.set j (.msl N sz 0 ([] : List α).length)))) ++ [Blk.flat e sz (([] : List α).map f)]⟩ K) : TOps C ops l ⟨fr, hp⟩ K := by
  have e := Nat.eq_of_beq_eq_true hN
  subst e
  exact fun g a w hs => h g a w (Sim.upB (st := ⟨fr, hp⟩) hs hb hc)
theorem holds_row {mv : Nat → Bool} {e b : Nat} {xs : List Int} (hout : Out ⟨P, 0, w, 1, g, mv⟩ [.flat e 1 (xs.map (D.int .i64))] g w) (hb : g.phi 0 = some b) :
    Holds (Value.int .i64) w b 0 xs.toArray ∧ b < w.heap.size ∧ ∃ cells, w.heap[b]? = some (.cells cells e (0, 0)) ∧ g.psi 0 = cells.size ∧ xs.length ≤ cells.size := by
  have hB := hout.hp 0 _ rfl
  rcases hB with ⟨_, hn0⟩ | ⟨b', cells, hp0, hw, hpsi, hl, hh0, hh1, hr⟩
  · rw [hb] at hn0; cases hn0
  · cases hb.symm.trans hp0
    refine ⟨fun j hj => ?_, (hout.lt 0 b hb).1, cells, hw, hpsi, by simpa using hl⟩
    have hj' : j < xs.length := by simpa using hj
    obtain ⟨v, hv, hd⟩ := hr j (D.int .i64 (xs[j]'hj')) 0 (D.int .i64 (xs[j]'hj')) (by simp [hj']) rfl
    rw [Nat.mul_one, Nat.add_zero] at hv
    cases hd
    rw [Nat.zero_add]
    refine ⟨?_, by simp [World.frozen?, hw]⟩
    rw [cell_of_row w b j cells e (0, 0) hw, hv, getElem!_pos xs.toArray j hj]
    simp
theorem out_row {mv : Nat → Bool} {e b : Nat} {xs : List Int} (hout : Out ⟨P, 0, w, 1, g, mv⟩ [.flat e 1 (xs.map (D.int .i64))] g w) (hb : g.phi 0 = some b) (ys zs : List Int) (hlen : (ys ++ zs).length = xs.length) (m : Nat) (os : Array Obj) :
    Out ⟨P, 0, w, 1, g, mv⟩ [.flat e 1 (ys.map (D.int .i64))] g (Sort.grow (putRow (Value.int .i64) (Sort.ahead w m) b 0 (ys ++ zs).toArray) os) := by
  obtain ⟨_, hblt, cells, hw, hpsi, hcl⟩ := holds_row hout hb
  have hbw : (Sort.ahead w m).heap[b]? = some (.cells cells e (0, 0)) := hw
  have hahead : Out ⟨P, 0, w, 1, g, mv⟩ [.flat e 1 (xs.map (D.int .i64))] g (Sort.ahead w m) := Sim.sameHeap hout rfl rfl rfl rfl (Nat.le_add_right _ _)
  have hwr : (putRow (Value.int .i64) (Sort.ahead w m) b 0 (ys ++ zs).toArray).heap[b]? = some (.cells (putCells (Value.int .i64) 0 (ys ++ zs).toArray cells) e (0, 0)) := by
    show ((Sort.ahead w m).heap.modify b _)[b]? = _
    rw [Array.getElem?_modify, if_pos rfl, hbw]
    rfl
  have hoth : ∀ b', b' ≠ b → (putRow (Value.int .i64) (Sort.ahead w m) b 0 (ys ++ zs).toArray).heap[b']? = (Sort.ahead w m).heap[b']? := fun b' hb' => by
    show ((Sort.ahead w m).heap.modify b _)[b']? = _
    rw [Array.getElem?_modify, if_neg (fun e => hb' e.symm)]
  have hsz : (putRow (Value.int .i64) (Sort.ahead w m) b 0 (ys ++ zs).toArray).heap.size = (Sort.ahead w m).heap.size := by
    show ((Sort.ahead w m).heap.modify b _).size = _
    simp
  have hch := Sim.change (i := 0) (b := b) (B0 := .flat e 1 (xs.map (D.int .i64))) hahead rfl (fun e => by cases e) hb (w' := putRow (Value.int .i64) (Sort.ahead w m) b 0 (ys ++ zs).toArray) hsz rfl rfl rfl (Nat.le_refl _) hoth
    (B := .flat e 1 (ys.map (D.int .i64))) (.inr ⟨b, _, hb, hwr, ?_, ?_, fun k d hk => ?_, fun k d j c hk hc => ?_, fun k d j c hk hc => ?_⟩)
  · exact Sim.grow hch 0 os
  · rw [hpsi, size_putCells]
  · rw [size_putCells]
    simp only [List.length_map, List.length_append] at hlen ⊢; omega
  · simp only [List.getElem?_map, Option.map_eq_some_iff] at hk
    obtain ⟨x, _, rfl⟩ := hk
    rfl
  · simp only [List.getElem?_map, Option.map_eq_some_iff] at hk
    obtain ⟨x, _, rfl⟩ := hk
    cases j with
    | zero => cases hc; rfl
    | succ j => simp [D.cells] at hc
  · simp only [List.getElem?_map, Option.map_eq_some_iff] at hk
    obtain ⟨x, hx, rfl⟩ := hk
    have hk' := (List.getElem?_eq_some_iff.1 hx).1
    cases j with
    | succ j => simp [D.cells] at hc
    | zero =>
      cases hc
      have hx2 : (ys ++ zs)[k]? = some x := by rw [List.getElem?_append, if_pos hk']; exact hx
      have hk2 := (List.getElem?_eq_some_iff.1 hx2).1
      refine ⟨.int .i64 x, ?_, .int _ _⟩
      rw [Nat.mul_one, Nat.add_zero, get_putCells (Value.int .i64) 0 _ cells k (by omega), if_pos ⟨Nat.zero_le _, by simpa using hk2⟩, Nat.sub_zero, getElem!_pos (ys ++ zs).toArray k (by simpa using hk2)]
      have := (List.getElem?_eq_some_iff.1 hx2).2
      simp only [List.getElem_toArray]
      rw [this]

/-! ### slices.Sort -/

def sgnM (x y : Int) : Option Int := some (if x < y then -1 else if y < x then 1 else 0)
theorem ltM_sgn (x y : Int) : ltM sgnM x y = decide (x < y) := by
  unfold ltM sgnM
  simp only [Option.getD_some]
  by_cases h : x < y
  · rw [if_pos h, decide_eq_true h]; rfl
  · rw [if_neg h, decide_eq_false h]
    split <;> rfl
theorem sgnM_sort : SortOk sgnM where
  tot x y := ⟨_, rfl⟩
  irrefl x := by rw [ltM_sgn]; simp
  trans x y z h1 h2 := by rw [ltM_sgn] at *; simp at *; omega
  ntrans x y z h1 h2 := by rw [ltM_sgn] at *; simp at *; omega
  anti x y h1 h2 := by rw [ltM_sgn] at *; simp at *; omega
/-- Ascending. -/
def sortI (l : List Int) : List Int := sortM sgnM l
theorem sortI_merge (l : List Int) : (l.mergeSort fun x y => decide (x ≤ y)) = sortI l := by
  have h := sortM_merge sgnM_sort l
  have e : (fun x y : Int => !ltM sgnM y x) = fun x y => decide (x ≤ y) := by
    funext x y
    rw [ltM_sgn]
    by_cases h : y < x
    · rw [decide_eq_true h, decide_eq_false (by omega)]; rfl
    · rw [decide_eq_false h, decide_eq_true (by omega)]; rfl
  rw [e] at h
  exact h
theorem sortI_length (l : List Int) : (sortI l).length = l.length := sortM_length _

theorem ret_sortI {F : FuncId} (e : TypeId) (mv : Nat → Bool) (xs : List Int) (hcbF : callB P F = true) (hlen : xs.length < 4611686018427387904)
    (hnone : ∀ (p : Option Addr) (cap : Nat) (w : World), Calls P F #[.slice p 0 cap] w fun e w' => e = .returned (.tuple #[]) ∧ w' = w)
    (hsort : ∀ (blk off cap : Nat) (zs : List Int) (w : World), Holds (Value.int .i64) w blk off zs.toArray → blk < w.heap.size → zs.length < 4611686018427387904 →
      Calls P F #[.slice (some ⟨blk, off, none⟩) zs.length cap] w fun e w' => e = .returned (.tuple #[]) ∧ ∃ n os, w' = Sort.grow (putRow (Value.int .i64) (Sort.ahead w n) blk off (zs.mergeSort fun x y => decide (x ≤ y)).toArray) os) :
    Ret P F [.flat e 1 (xs.map (D.int .i64))] mv [.msl 0 1 0 xs.length] (.tup []) [.flat e 1 ((sortI xs).map (D.int .i64))] := by
  refine ⟨hcbF, fun w g vs hout hargs => ?_⟩
  obtain ⟨v0, rfl⟩ : ∃ v0, vs = #[v0] := by
    have hl : vs.size = 1 := by have := hargs.1; simpa using this.symm
    exact ⟨vs[0], by apply Array.ext; simp [hl]; intro i h1 h2; match i, h2 with | 0, _ => rfl⟩
  have h0 := hargs.2 0 _ _ rfl rfl
  generalize hn : xs.length = n at h0
  cases h0 with
  | msl0 _ _ _ ad =>
    have hxs : xs = [] := List.eq_nil_of_length_eq_zero hn
    subst hxs
    refine (hnone ad 0 w).mono ?_
    rintro e w' ⟨rfl, rfl⟩
    exact ⟨_, g, rfl, hout, .tup [] #[] rfl fun i c v h => by simp at h⟩
  | msl _ _ _ _ cap b hb hc hpz =>
    subst hn
    rw [Nat.zero_mul]
    obtain ⟨hH, hblt, _⟩ := holds_row hout hb
    refine (show Calls P F #[.slice (some ⟨b, 0, none⟩) xs.length cap] w _ from hsort b 0 cap xs w hH hblt hlen).mono ?_
    rintro e' w' ⟨rfl, m, os, rfl⟩
    refine ⟨_, g, rfl, ?_, .tup [] #[] rfl fun i c v h => by simp at h⟩
    have := out_row hout hb (sortI xs) [] (by rw [List.append_nil, sortI_length]) m os
    rw [List.append_nil] at this
    rw [sortI_merge]
    exact this

/-! ### slices.Compact -/

theorem compact_length (xs : List Int) : (Lib.compact xs).length ≤ xs.length := by
  unfold Lib.compact Lib.compactUpTo
  rw [List.length_map]
  exact Nat.le_trans (List.length_filter_le _ _) (by simp)
theorem ret_compactI {F : FuncId} (e : TypeId) (mv : Nat → Bool) (xs : List Int) (hcbF : callB P F = true) (hlen : xs.length ≤ 9223372036854775807)
    (hnone : ∀ (p : Option Addr) (cap : Nat) (w : World), Calls P F #[.slice p 0 cap] w fun e w' => e = .returned (.slice p 0 cap) ∧ w' = w)
    (hcomp : ∀ (blk off cap : Nat) (zs : List Int) (w : World), Holds (Value.int .i64) w blk off zs.toArray → zs.length ≤ 9223372036854775807 → zs.length ≤ cap →
      Calls P F #[.slice (some ⟨blk, off, none⟩) zs.length cap] w fun e w' => e = .returned (.slice (some ⟨blk, off, none⟩) (Lib.compact zs).length cap) ∧ ∃ q, w' = putRow (Value.int .i64) (Sort.ahead w q) blk off (Lib.compact zs ++ List.replicate (zs.length - (Lib.compact zs).length) 0).toArray) :
    Ret P F [.flat e 1 (xs.map (D.int .i64))] mv [.msl 0 1 0 xs.length] (.msl 0 1 0 (Lib.compact xs).length) [.flat e 1 ((Lib.compact xs).map (D.int .i64))] := by
  refine ⟨hcbF, fun w g vs hout hargs => ?_⟩
  obtain ⟨v0, rfl⟩ : ∃ v0, vs = #[v0] := by
    have hl : vs.size = 1 := by have := hargs.1; simpa using this.symm
    exact ⟨vs[0], by apply Array.ext; simp [hl]; intro i h1 h2; match i, h2 with | 0, _ => rfl⟩
  have h0 := hargs.2 0 _ _ rfl rfl
  generalize hn : xs.length = n at h0
  cases h0 with
  | msl0 _ _ _ ad =>
    have hxs : xs = [] := List.eq_nil_of_length_eq_zero hn
    subst hxs
    refine (hnone ad 0 w).mono ?_
    rintro e w' ⟨rfl, rfl⟩
    exact ⟨_, g, rfl, hout, .msl0 _ _ _ _⟩
  | msl _ _ _ _ cap b hb hc hpz =>
    subst hn
    rw [Nat.zero_mul]
    obtain ⟨hH, hblt, _⟩ := holds_row hout hb
    refine (show Calls P F #[.slice (some ⟨b, 0, none⟩) xs.length cap] w _ from hcomp b 0 cap xs w hH hlen (by omega)).mono ?_
    rintro e' w' ⟨rfl, m, rfl⟩
    have hcl := compact_length xs
    refine ⟨_, g, rfl, ?_, ?_⟩
    · have := out_row hout hb (Lib.compact xs) (List.replicate (xs.length - (Lib.compact xs).length) 0) (by simp; omega) m #[]
      have hg : ∀ W : World, Sort.grow W #[] = W := fun W => by unfold Sort.grow; simp
      rwa [hg] at this
    · have := ARep.msl (w := putRow (Value.int .i64) (Sort.ahead w m) b 0 (Lib.compact xs ++ List.replicate (xs.length - (Lib.compact xs).length) 0).toArray) (g := g) 0 1 0 (Lib.compact xs).length cap b hb (by omega) hpz
      simpa using this

/-! ### Into holes -/

theorem w_mkD {α : Type} {f : α → D} {T : Tab} {o : Oper} {ev : Operand → AV} {hp : List Blk} {t e sz by' i : Nat} {a b : Operand} {z : Value} {zd : D} {n : Int} {x : α} (hT : TabOk C.P T) (hi : hp[i]? = some .hole) (ho : o.op = .makeSlice t a b) (hl : lk T.sel t = some (e, sz, by')) (hz : (C.P.info? e).bind (·.zero) = some z) (hzd : ofConst z = .d zd) (hzs : Nat.beq zd.cells.length sz = true)
    (ha : ev a = .d (.int .i64 n)) (hb : ev b = .d (.int .i64 n)) (hby : Nat.ble by' 100000 = true) (hn : 0 ≤ n ∧ n ≤ 1000000000) (hf : f x = zd) : DOk C o ev hp (.msl i sz 0 (List.replicate n.toNat x).length) [(i, .flat e sz ((List.replicate n.toNat x).map f))] :=
  DOk.mk fun st hhp hag g aa w hsim => by
    have h1 := Nat.le_of_ble_eq_true hby
    obtain ⟨m, rfl⟩ := Int.eq_ofNat_of_zero_le hn.1
    have h2 : m ≤ 1000000000 := by omega
    have h3 : by' * m ≤ 100000 * 1000000000 := Nat.mul_le_mul h1 h2
    obtain ⟨vs, hr, row⟩ := core_makeSlice (st := st) sz by' (m : Int) z zd ho (hT.sel hl) hz hzd (Nat.eq_of_beq_eq_true hzs) (by rw [hag a (by simp [ho, Op.operands]), ha]) (by rw [hag b (by simp [ho, Op.operands]), hb]) (by omega) (by omega) (by omega) hsim
    obtain ⟨g', h4, h5⟩ := row.filled (ty := e) hsim (hole_at hi hhp) m (by simp)
    rw [List.map_replicate, hf]
    simp only [List.length_replicate, Int.toNat_natCast] at h4 h5 ⊢
    exact ⟨_, _, g', hr, h4, h5⟩

def toHole (hs : List Nat) : AV → AV
  | .msl i s o l => .msl (hs.getD i 0) s o l
  | .mptr i s x o => .mptr (hs.getD i 0) s x o
  | .mmap i => .mmap (hs.getD i 0)
  | v => v

/-- A call with data whose result lies in several blocks of its own. -/
theorem w_callBs {o : Oper} {ev : Operand → AV} {hp : List Blk} (hs : List Nat) {f : Operand} {xs : Array Operand} {ts : Array TypeId} {F : FuncId} {mv : Nat → Bool} {ds : List D} {r r' : AV} {Bs : List Blk} (hi : ∀ i ∈ hs, hp[i]? = some .hole) (hnd : hs.Nodup) (hl : Bs.length = hs.length) (ho : o.op = .call { callee := .value f, args := xs, argTypes := ts })
    (hf : ev f = .d (.fn F)) (hx : xs.toList.map ev = ds.map .d) (hret : Ret C.P F [] mv (ds.map .d) r Bs) (hm : ∀ B ∈ Bs, BMem0 B) (hmr : AMem0 r) (hrr : r.mapRef (toHole hs) = r') (hBB : ∀ B ∈ Bs, B.mapRef (fun _ => .junk) = B) : DOk C o ev hp r' (hs.zip Bs) := by
  intro st hhp hlen _ hag g a w hsim Q K' hK
  have hih : ∀ i ∈ hs, st.hp[i]? = some .hole := fun i h => hole_at (hi i h) hhp
  have hno : ∀ i ∈ hs, g.phi i = none := fun i h => hsim.hp i _ (hih i h)
  have hil : ∀ i ∈ hs, i < st.hp.length := fun i h => (List.getElem?_eq_some_iff.1 (hih i h)).1
  have hfv := hsim.ev f
  rw [hag f (by simp [ho, Op.operands, Call.operands]), hf] at hfv
  have hargs : Pw (ARep w (ghost0 g.X)) (ds.map .d) (xs.map a.eval).toList := by
    have := dargs (cs := []) (vs := #[]) hsim (fun y hy => hag y (by simp only [ho, Op.operands, Call.operands]; exact Array.mem_append.2 (.inr hy))) hx ⟨rfl, fun i x y h => by simp at h⟩
    simpa using this
  simp only [Oper.wp, run_exec_call ho (fn_inv hfv) hret.1, Oper.upon_enter, Array.append_empty]
  refine (hret.2 w (ghost0 g.X) _ (out0 hsim mv hsim.Xlt) hargs).mono ?_
  rintro e w' ⟨v, g', rfl, hout, hr⟩
  have hold : ∀ b, b < w.heap.size → w'.heap[b]? = w.heap[b]? := fun b hb => hout.keep b hb fun i hi => absurd hi (Nat.not_lt_zero i)
  have hsz := hout.grown
  simp only at hsz
  have hnew : ∀ j b, g'.phi j = some b → w.heap.size ≤ b := by
    intro j b hp
    rcases Nat.lt_or_ge b w.heap.size with hlt | hge
    · exact absurd (hout.own j b hp hlt).1 (Nat.not_lt_zero _)
    · exact hge
  let g2 : Gh := { phi := fun j => match placeOf hs j with | some i => g'.phi i | none => g.phi j, psi := fun j => match placeOf hs j with | some i => g'.psi i | none => g.psi j, X := g.X }
  have hin : ∀ {j i : Nat}, placeOf hs j = some i → j ∈ hs := fun h => List.mem_of_getElem? (placeOf_some hs _ _ h)
  have hgr : Grow w g w' g2 := by
    refine ⟨fun j b hp => ?_, fun j b hp => ?_, fun _ h => h, fun b hb => hold b (hsim.Xlt b hb)⟩
    · cases hpl : placeOf hs j with
      | some i => rw [hno j (hin hpl)] at hp; cases hp
      | none => simpa [g2, hpl] using hp
    · cases hpl : placeOf hs j with
      | some i => rw [hno j (hin hpl)] at hp; cases hp
      | none => simp [g2, hpl]
  have hphi : ∀ j b, g2.phi j = some b → (∃ i, placeOf hs j = some i ∧ g'.phi i = some b) ∨ (placeOf hs j = none ∧ g.phi j = some b) := by
    intro j b hp
    cases hpl : placeOf hs j with
    | some i => exact .inl ⟨i, rfl, by simpa [g2, hpl] using hp⟩
    | none => exact .inr ⟨rfl, by simpa [g2, hpl] using hp⟩
  have hzl : ∀ p ∈ hs.zip Bs, p.1 < st.hp.length := fun p hp => hil _ (List.of_mem_zip hp).1
  have hzn : ((hs.zip Bs).map (·.1)).Nodup := by
    rw [List.map_fst_zip (by omega)]; exact hnd
  have hwr := fun b => wr_get (hs.zip Bs) st.hp b hzl hzn
  have hget : ∀ {j i : Nat} {B : Blk}, hs[i]? = some j → Bs[i]? = some B → (wr (hs.zip Bs) st.hp)[j]? = some B := by
    intro j i B h1 h2
    have : (hs.zip Bs)[i]? = some (j, B) := by rw [List.getElem?_zip_eq_some]; exact ⟨h1, h2⟩
    exact (hwr j).1 (j, B) (List.mem_of_getElem? this) rfl
  have hgetN : ∀ {j : Nat}, placeOf hs j = none → (wr (hs.zip Bs) st.hp)[j]? = st.hp[j]? := by
    intro j hpl
    refine (hwr j).2 fun p hp e => ?_
    obtain ⟨i, hi⟩ := List.getElem?_of_mem (List.of_mem_zip hp).1
    rw [e] at hi
    exact placeOf_none hpl i hi
  have hB : ∀ {j i : Nat} {B : Blk}, placeOf hs j = some i → Bs[i]? = some B → BRep w' g2 j B := by
    intro j i B hpl hBi
    have h1 := BRep.any (Y := fun _ => False) (hout.hp i B hBi) (hm B (List.mem_of_getElem? hBi))
    have h2 := BRep.mapRef (g' := g2) (F := fun _ => .junk) (j := j) (by simp [g2, hpl]) (by simp [g2, hpl]) (fun b hb => False.elim hb) (fun x v _ _ => .junk v) h1
    rwa [hBB B (List.mem_of_getElem? hBi)] at h2
  have hBs : ∀ {j i : Nat}, placeOf hs j = some i → ∃ B, Bs[i]? = some B := by
    intro j i hpl
    have := (List.getElem?_eq_some_iff.1 (placeOf_some hs _ _ hpl)).1
    exact ⟨Bs[i]'(by omega), List.getElem?_eq_getElem _⟩
  have hlw : (wr (hs.zip Bs) st.hp).length = st.hp.length := wr_length _ _
  refine hK v w' g2 ?_ ?_
  · refine { defers := hsim.defers, size := hsim.size, fr := fun t => (hsim.fr t).mono hgr, hp := ?_, lt := ?_, inj := ?_, Xlt := ?_, Xold := hsim.Xold, os := hout.os.trans hsim.os, tape := hout.tape.trans hsim.tape, output := hout.output.trans hsim.output, drawn := Nat.le_trans hsim.drawn hout.drawn, grown := Nat.le_trans hsim.grown hsz, keep := ?_, own := ?_, stay := ?_, kle := ?_ }
    · intro j B hj
      cases hpl : placeOf hs j with
      | some i =>
        obtain ⟨B', hB'⟩ := hBs hpl
        have := hget (placeOf_some hs _ _ hpl) hB'
        simp only at hj
        rw [this] at hj; cases hj
        exact hB hpl hB'
      | none =>
        simp only at hj
        rw [hgetN hpl] at hj
        refine (hsim.hp j B hj).mono hgr (fun hn => by simpa [g2, hpl] using hn) fun b hb => hold b (hsim.lt j b hb).1
    · intro j b hp
      simp only [hlw]
      rcases hphi j b hp with ⟨i, hpl, hp'⟩ | ⟨_, hp'⟩
      · exact ⟨(hout.lt i b hp').1, hil j (hin hpl), fun hX => by have := hsim.Xlt b hX; have := hnew i b hp'; omega⟩
      · have := hsim.lt j b hp'; exact ⟨by omega, this.2.1, this.2.2⟩
    · intro j j' b Bj Bj' hBj hBj' hdj hdj' hj hj'
      simp only at hBj hBj'
      rcases hphi j b hj with ⟨i, hpl, h1⟩ | ⟨hpl, h1⟩ <;> rcases hphi j' b hj' with ⟨i', hpl', h2⟩ | ⟨hpl', h2⟩
      · obtain ⟨B1, e1⟩ := hBs hpl
        obtain ⟨B2, e2⟩ := hBs hpl'
        rw [hget (placeOf_some hs _ _ hpl) e1] at hBj
        rw [hget (placeOf_some hs _ _ hpl') e2] at hBj'
        cases hBj; cases hBj'
        have := hout.inj i i' b _ _ e1 e2 hdj hdj' h1 h2
        subst this
        have h3 := placeOf_some hs _ _ hpl
        rw [placeOf_some hs _ _ hpl'] at h3
        exact (Option.some.inj h3).symm
      · have := (hsim.lt _ _ h2).1; have := hnew i b h1; omega
      · have := (hsim.lt _ _ h1).1; have := hnew i' b h2; omega
      · rw [hgetN hpl] at hBj
        rw [hgetN hpl'] at hBj'
        exact hsim.inj j j' b Bj Bj' hBj hBj' hdj hdj' h1 h2
    · intro b hX; have := hsim.Xlt b hX; omega
    · intro b hb hk; rw [hold b (by have := hsim.grown; omega)]; exact hsim.keep b hb hk
    · intro j b hp hb
      rcases hphi j b hp with ⟨i, _, hp'⟩ | ⟨_, hp'⟩
      · have := hnew i b hp'; have := hsim.grown; omega
      · exact hsim.own j b hp' hb
    · intro j b hj hmj hp
      have hst := hsim.stay j b hj hmj hp
      have hpl : placeOf hs j = none := by
        cases h : placeOf hs j with
        | none => rfl
        | some i => rw [hno j (hin h)] at hst; cases hst.2
      simpa [g2, hpl] using hst
    · simp only [hlw]; exact hsim.kle
  · subst hrr
    have h1 := ARep.any (Y := g.X) hr hmr
    refine ARep.mapRef (w := w') (g := { g' with X := g.X }) (g' := g2) (fun d v hd => hd) (fun x v hx hr => ?_) h1
    have hat : ∀ {id b : Nat}, g'.phi id = some b → g2.phi (hs.getD id 0) = some b ∧ g2.psi (hs.getD id 0) = g'.psi id := by
      intro id b hb
      have hid := (hout.lt id b hb).2.1
      simp only at hid
      have hlt : id < hs.length := by omega
      have hge : hs[id]? = some (hs.getD id 0) := by rw [List.getD_eq_getElem?_getD, List.getElem?_eq_getElem hlt]; rfl
      have hpl := placeOf_of hnd hge
      exact ⟨by simp only [g2, hpl]; exact hb, by simp only [g2, hpl]⟩
    cases hx with
    | msl0 => exact .msl0 _ _ _ _
    | msl id sz off len cap b hb hc hp => exact .msl _ _ _ _ cap b (hat hb).1 hc (by rw [(hat hb).2]; exact hp)
    | mptr id sz idx off b hb => exact .mptr _ _ _ _ b (hat hb).1
    | mmap id b hb => exact .mmap _ b (hat hb).1
    | _ => cases hr

theorem w_stoB {T : Tab} {o : Oper} {ev : Operand → AV} {hp : List Blk} {t : TypeId} {x y : Operand} {id off s : Nat} {bb : Bool} {bt : TypeId} {cs cs' : List AV} {v : AV} (hT : TabOk C.P T) (ho : o.op = .store t x y) (hd : o.dst = none) (hl : lk T.lay t = some (bb, s)) (hx : ev x = .mptr id 0 0 off) (hy : ev y = v) (hf : v.flat = true) (hs : Nat.beq v.cells.length s = true)
    (hb : hp[id]? = some (.box bt cs)) (hc : Nat.ble (off + s) cs.length = true) (hv : spl cs off v.cells = cs') : DOk C o ev hp .junk [(id, .box bt cs')] :=
  w_store_box ho hd (hT.lay hl) hx hy hf (Nat.eq_of_beq_eq_true hs) hb (Nat.le_of_ble_eq_true hc) hv

end Go.TL

set_option maxHeartbeats 8000000
set_option linter.unusedSimpArgs false
set_option linter.unusedVariables false
set_option maxRecDepth 20000
namespace Go.Proofs.YtdhicpmpefkojaaGreat
open Go Go.TL

structure Step where
 el : Int
 inV : Int
 out : Int
deriving DecidableEq, Inhabited
def Step.enc (x : Step) : D := .agg [.int .i64 x.el, .int .i64 x.inV, .int .i64 x.out]
structure Step.Wf (x : Step) : Prop where
 el : I64 x.el
 inV : I64 x.inV
 out : I64 x.out

structure Setting where
 el : Int
 pos : Int
deriving DecidableEq, Inhabited
def Setting.enc (x : Setting) : D := .agg [.int .i64 x.el, .int .i64 x.pos]
structure Setting.Wf (x : Setting) : Prop where
 el : I64 x.el
 pos : I64 x.pos

structure End where
 el : Int
 side : Int
deriving DecidableEq, Inhabited
def End.enc (x : End) : D := .agg [.int .i64 x.el, .int .i64 x.side]
structure End.Wf (x : End) : Prop where
 el : I64 x.el
 side : I64 x.side

structure Route where
 name : ByteArray
 entry : Int
 exit : Int
 path : (List Step)
 points : (List Setting)
 sections : (List Int)
 approach : Int
 length : Int
 over : (List Step)
 overPoints : (List Setting)
 overSections : (List Int)
 flank : (List Setting)
 guards : (List Int)
 gaps : (List End)
deriving DecidableEq, Inhabited
def Route.enc (x : Route) : D := .agg [.str x.name, .int .i64 x.entry, .int .i64 x.exit, .sl 3 (x.path.map Step.enc), .sl 2 (x.points.map Setting.enc), .sl 1 (x.sections.map (D.int .i64)), .int .i64 x.approach, .int .i64 x.length, .sl 3 (x.over.map Step.enc), .sl 2 (x.overPoints.map Setting.enc), .sl 1 (x.overSections.map (D.int .i64)), .sl 2 (x.flank.map Setting.enc), .sl 1 (x.guards.map (D.int .i64)), .sl 2 (x.gaps.map End.enc)]
structure Route.Wf (x : Route) : Prop where
 name : x.name.size ≤ reachBytes
 entry : I64 x.entry
 exit : I64 x.exit
 path : x.path.length ≤ reachBytes ∧ ∀ y ∈ x.path, Step.Wf y
 points : x.points.length ≤ reachBytes ∧ ∀ y ∈ x.points, Setting.Wf y
 sections : x.sections.length ≤ reachBytes ∧ ∀ y ∈ x.sections, I64 y
 approach : I64 x.approach
 length : I64 x.length
 over : x.over.length ≤ reachBytes ∧ ∀ y ∈ x.over, Step.Wf y
 overPoints : x.overPoints.length ≤ reachBytes ∧ ∀ y ∈ x.overPoints, Setting.Wf y
 overSections : x.overSections.length ≤ reachBytes ∧ ∀ y ∈ x.overSections, I64 y
 flank : x.flank.length ≤ reachBytes ∧ ∀ y ∈ x.flank, Setting.Wf y
 guards : x.guards.length ≤ reachBytes ∧ ∀ y ∈ x.guards, I64 y
 gaps : x.gaps.length ≤ reachBytes ∧ ∀ y ∈ x.gaps, End.Wf y

structure Table where
 routes : (List Route)
 points : (List Int)
 homes : (List Int)
 sections : Int
 signals : Int
deriving DecidableEq, Inhabited
def Table.enc (x : Table) : D := .agg [.sl 14 (x.routes.map Route.enc), .sl 1 (x.points.map (D.int .i64)), .sl 1 (x.homes.map (D.int .i64)), .int .i64 x.sections, .int .i64 x.signals]
structure Table.Wf (x : Table) : Prop where
 routes : x.routes.length ≤ reachBytes ∧ ∀ y ∈ x.routes, Route.Wf y
 points : x.points.length ≤ reachBytes ∧ ∀ y ∈ x.points, I64 y
 homes : x.homes.length ≤ reachBytes ∧ ∀ y ∈ x.homes, I64 y
 sections : I64 x.sections
 signals : I64 x.signals

structure RouteState where
 state : Int
 rel : Int
 timer : Int
deriving DecidableEq, Inhabited
def RouteState.enc (x : RouteState) : D := .agg [.int .i64 x.state, .int .i64 x.rel, .int .i64 x.timer]
structure RouteState.Wf (x : RouteState) : Prop where
 state : I64 x.state
 rel : I64 x.rel
 timer : I64 x.timer

structure Inter where
 routes : (List RouteState)
 lies : (List Int)
deriving DecidableEq, Inhabited
def Inter.enc (x : Inter) : D := .agg [.sl 3 (x.routes.map RouteState.enc), .sl 1 (x.lies.map (D.int .i64))]
structure Inter.Wf (x : Inter) : Prop where
 routes : x.routes.length ≤ reachBytes ∧ ∀ y ∈ x.routes, RouteState.Wf y
 lies : x.lies.length ≤ reachBytes ∧ ∀ y ∈ x.lies, I64 y

structure Inputs where
 occupied : (List Bool)
 detected : (List Int)
 closed : (List Bool)
 claimed : (List Bool)
 passed : (List Bool)
 calls : (List Int)
 cancels : (List Int)
deriving DecidableEq, Inhabited
def Inputs.enc (x : Inputs) : D := .agg [.sl 1 (x.occupied.map D.bool), .sl 1 (x.detected.map (D.int .i64)), .sl 1 (x.closed.map D.bool), .sl 1 (x.claimed.map D.bool), .sl 1 (x.passed.map D.bool), .sl 1 (x.calls.map (D.int .i64)), .sl 1 (x.cancels.map (D.int .i64))]
structure Inputs.Wf (x : Inputs) : Prop where
 occupied : x.occupied.length ≤ reachBytes ∧ ∀ y ∈ x.occupied, True
 detected : x.detected.length ≤ reachBytes ∧ ∀ y ∈ x.detected, I64 y
 closed : x.closed.length ≤ reachBytes ∧ ∀ y ∈ x.closed, True
 claimed : x.claimed.length ≤ reachBytes ∧ ∀ y ∈ x.claimed, True
 passed : x.passed.length ≤ reachBytes ∧ ∀ y ∈ x.passed, True
 calls : x.calls.length ≤ reachBytes ∧ ∀ y ∈ x.calls, I64 y
 cancels : x.cancels.length ≤ reachBytes ∧ ∀ y ∈ x.cancels, I64 y

structure A2_int where
 a0 : Int
 a1 : Int
deriving DecidableEq, Inhabited
def A2_int.enc (x : A2_int) : D := .agg [.int .i64 x.a0, .int .i64 x.a1]
structure A2_int.Wf (x : A2_int) : Prop where
 a0 : I64 x.a0
 a1 : I64 x.a1

structure View where
 t : Table
 inV : Inputs
 route : Route
 old : RouteState
 claimed : Bool
 passed : Bool
 cancelled : Bool
 emptied : Bool
deriving DecidableEq, Inhabited
def View.enc (x : View) : D := .agg [.sl 14 (x.t.routes.map Route.enc), .sl 1 (x.t.points.map (D.int .i64)), .sl 1 (x.t.homes.map (D.int .i64)), .int .i64 x.t.sections, .int .i64 x.t.signals, .sl 1 (x.inV.occupied.map D.bool), .sl 1 (x.inV.detected.map (D.int .i64)), .sl 1 (x.inV.closed.map D.bool), .sl 1 (x.inV.claimed.map D.bool), .sl 1 (x.inV.passed.map D.bool), .sl 1 (x.inV.calls.map (D.int .i64)), .sl 1 (x.inV.cancels.map (D.int .i64)), .str x.route.name, .int .i64 x.route.entry, .int .i64 x.route.exit, .sl 3 (x.route.path.map Step.enc), .sl 2 (x.route.points.map Setting.enc), .sl 1 (x.route.sections.map (D.int .i64)), .int .i64 x.route.approach, .int .i64 x.route.length, .sl 3 (x.route.over.map Step.enc), .sl 2 (x.route.overPoints.map Setting.enc), .sl 1 (x.route.overSections.map (D.int .i64)), .sl 2 (x.route.flank.map Setting.enc), .sl 1 (x.route.guards.map (D.int .i64)), .sl 2 (x.route.gaps.map End.enc), .int .i64 x.old.state, .int .i64 x.old.rel, .int .i64 x.old.timer, .bool x.claimed, .bool x.passed, .bool x.cancelled, .bool x.emptied]
structure View.Wf (x : View) : Prop where
 t : Table.Wf x.t
 inV : Inputs.Wf x.inV
 route : Route.Wf x.route
 old : RouteState.Wf x.old
 claimed : True
 passed : True
 cancelled : True
 emptied : True

structure Outputs where
 clear : (List Bool)
 lies : (List Int)
 refused : (List Int)
deriving DecidableEq, Inhabited
def Outputs.enc (x : Outputs) : D := .agg [.sl 1 (x.clear.map D.bool), .sl 1 (x.lies.map (D.int .i64)), .sl 1 (x.refused.map (D.int .i64))]
structure Outputs.Wf (x : Outputs) : Prop where
 clear : x.clear.length ≤ reachBytes ∧ ∀ y ∈ x.clear, True
 lies : x.lies.length ≤ reachBytes ∧ ∀ y ∈ x.lies, I64 y
 refused : x.refused.length ≤ reachBytes ∧ ∀ y ∈ x.refused, I64 y

structure Cycle where
 inter : Inter
 t : Table
 inV : Inputs
 refused : (List Int)
deriving DecidableEq, Inhabited
structure Cycle.Wf (x : Cycle) : Prop where
 inter : Inter.Wf x.inter
 t : Table.Wf x.t
 inV : Inputs.Wf x.inV
 refused : x.refused.length ≤ reachBytes ∧ ∀ y ∈ x.refused, I64 y

def RouteState.ok (x : RouteState) : Prop := I64 x.state ∧ I64 x.rel ∧ I64 x.timer
instance (x : RouteState) : Decidable (RouteState.ok x) := by unfold RouteState.ok; infer_instance
def Setting.ok (x : Setting) : Prop := I64 x.el ∧ I64 x.pos
instance (x : Setting) : Decidable (Setting.ok x) := by unfold Setting.ok; infer_instance
theorem Setting_lits (x y : Setting) : ([.int .i64 x.el, .int .i64 x.pos] : List Lit) = [.int .i64 y.el, .int .i64 y.pos] ↔ decide (x = y) = true := by
 rw [decide_eq_true_eq]
 obtain ⟨_, _⟩ := x
 obtain ⟨_, _⟩ := y
 simp [Setting.mk.injEq, bytes_data, and_assoc]
def A2_int.ok (x : A2_int) : Prop := I64 x.a0 ∧ I64 x.a1
instance (x : A2_int) : Decidable (A2_int.ok x) := by unfold A2_int.ok; infer_instance
theorem A2_int_lits (x y : A2_int) : ([.int .i64 x.a0, .int .i64 x.a1] : List Lit) = [.int .i64 y.a0, .int .i64 y.a1] ↔ decide (x = y) = true := by
 rw [decide_eq_true_eq]
 obtain ⟨_, _⟩ := x
 obtain ⟨_, _⟩ := y
 simp [A2_int.mk.injEq, bytes_data, and_assoc]

end Go.Proofs.YtdhicpmpefkojaaGreat

set_option maxHeartbeats 8000000
set_option linter.unusedSimpArgs false
set_option linter.unusedVariables false
set_option maxRecDepth 20000
namespace Go.Proofs.YtdhicpmpefkojaaGreat
open Go Go.TL

theorem follows : Tryz.prog.follows .mixedOrders = true := by kernel_rfl
theorem own : ownKnob Tryz.prog.godebug = none := by kernel_rfl
theorem laidOut : laidOutB Tryz.prog = true := by kernel_rfl
def tab : Tab where
 lay := [(3, false, 1), (4, false, 1), (9, false, 1), (22, false, 1), (23, false, 1), (25, true, 5), (26, false, 1), (28, true, 2), (29, false, 1), (31, true, 7), (36, true, 3), (47, true, 3), (48, false, 1), (49, false, 1), (52, true, 14), (63, true, 15), (73, true, 2), (83, false, 1), (97, true, 33), (117, true, 2)]
 fs := [(25, [(0, false, 1), (1, false, 1), (2, false, 1), (3, false, 1), (4, false, 1)]), (28, [(0, false, 1), (1, false, 1)]), (31, [(0, false, 1), (1, false, 1), (2, false, 1), (3, false, 1), (4, false, 1), (5, false, 1), (6, false, 1)]), (36, [(0, false, 1), (1, false, 1), (2, false, 1)]), (47, [(0, false, 1), (1, false, 1), (2, false, 1)]), (52, [(0, false, 1), (1, false, 1), (2, false, 1), (3, false, 1), (4, false, 1), (5, false, 1), (6, false, 1), (7, false, 1), (8, false, 1), (9, false, 1), (10, false, 1), (11, false, 1), (12, false, 1), (13, false, 1)]), (63, [(0, true, 2), (2, true, 5), (7, true, 7), (14, false, 1)]), (73, [(0, false, 1), (1, false, 1)]), (97, [(0, true, 5), (5, true, 7), (12, true, 14), (26, true, 3), (29, false, 1), (30, false, 1), (31, false, 1), (32, false, 1)])]
 sel := [(22, 52, 14, 264), (23, 3, 1, 8), (26, 47, 3, 24), (29, 4, 1, 1), (42, 31, 7, 168), (48, 80, 3, 24), (49, 73, 2, 16), (82, 83, 1, 24), (83, 117, 2, 16), (144, 23, 1, 24), (145, 49, 1, 24)]
 str := []
 boo := [(4, ())]
 con := []
theorem TK : TabOk Tryz.prog tab := tabB_ok (by kernel_rfl)
theorem asel117 : asel Tryz.prog 117 = some (2, 1) := by kernel_rfl
theorem asel121 : asel Tryz.prog 121 = some (24, 1) := by kernel_rfl
theorem callB10 : callB Tryz.prog 10 = true := by kernel_rfl
theorem callB100 : callB Tryz.prog 100 = true := by kernel_rfl
theorem callB101 : callB Tryz.prog 101 = true := by kernel_rfl
theorem callB102 : callB Tryz.prog 102 = true := by kernel_rfl
theorem callB103 : callB Tryz.prog 103 = true := by kernel_rfl
theorem callB104 : callB Tryz.prog 104 = true := by kernel_rfl
theorem callB105 : callB Tryz.prog 105 = true := by kernel_rfl
theorem callB106 : callB Tryz.prog 106 = true := by kernel_rfl
theorem callB107 : callB Tryz.prog 107 = true := by kernel_rfl
theorem callB108 : callB Tryz.prog 108 = true := by kernel_rfl
theorem callB109 : callB Tryz.prog 109 = true := by kernel_rfl
theorem callB11 : callB Tryz.prog 11 = true := by kernel_rfl
theorem callB110 : callB Tryz.prog 110 = true := by kernel_rfl
theorem callB115 : callB Tryz.prog 115 = true := by kernel_rfl
theorem callB116 : callB Tryz.prog 116 = true := by kernel_rfl
theorem callB128 : callB Tryz.prog 128 = true := by kernel_rfl
theorem callB129 : callB Tryz.prog 129 = true := by kernel_rfl
theorem callB131 : callB Tryz.prog 131 = true := by kernel_rfl
theorem callB15 : callB Tryz.prog 15 = true := by kernel_rfl
theorem callB16 : callB Tryz.prog 16 = true := by kernel_rfl
theorem callB17 : callB Tryz.prog 17 = true := by kernel_rfl
theorem callB19 : callB Tryz.prog 19 = true := by kernel_rfl
theorem callB24 : callB Tryz.prog 24 = true := by kernel_rfl
theorem callB25 : callB Tryz.prog 25 = true := by kernel_rfl
theorem callB26 : callB Tryz.prog 26 = true := by kernel_rfl
theorem callB27 : callB Tryz.prog 27 = true := by kernel_rfl
theorem callB28 : callB Tryz.prog 28 = true := by kernel_rfl
theorem callB29 : callB Tryz.prog 29 = true := by kernel_rfl
theorem callB30 : callB Tryz.prog 30 = true := by kernel_rfl
theorem callB31 : callB Tryz.prog 31 = true := by kernel_rfl
theorem callB32 : callB Tryz.prog 32 = true := by kernel_rfl
theorem callB33 : callB Tryz.prog 33 = true := by kernel_rfl
theorem callB39 : callB Tryz.prog 39 = true := by kernel_rfl
theorem callB4 : callB Tryz.prog 4 = true := by kernel_rfl
theorem callB40 : callB Tryz.prog 40 = true := by kernel_rfl
theorem callB41 : callB Tryz.prog 41 = true := by kernel_rfl
theorem callB42 : callB Tryz.prog 42 = true := by kernel_rfl
theorem callB43 : callB Tryz.prog 43 = true := by kernel_rfl
theorem callB45 : callB Tryz.prog 45 = true := by kernel_rfl
theorem callB46 : callB Tryz.prog 46 = true := by kernel_rfl
theorem callB47 : callB Tryz.prog 47 = true := by kernel_rfl
theorem callB49 : callB Tryz.prog 49 = true := by kernel_rfl
theorem callB50 : callB Tryz.prog 50 = true := by kernel_rfl
theorem callB51 : callB Tryz.prog 51 = true := by kernel_rfl
theorem callB52 : callB Tryz.prog 52 = true := by kernel_rfl
theorem callB53 : callB Tryz.prog 53 = true := by kernel_rfl
theorem callB54 : callB Tryz.prog 54 = true := by kernel_rfl
theorem callB55 : callB Tryz.prog 55 = true := by kernel_rfl
theorem callB56 : callB Tryz.prog 56 = true := by kernel_rfl
theorem callB57 : callB Tryz.prog 57 = true := by kernel_rfl
theorem callB58 : callB Tryz.prog 58 = true := by kernel_rfl
theorem callB59 : callB Tryz.prog 59 = true := by kernel_rfl
theorem callB60 : callB Tryz.prog 60 = true := by kernel_rfl
theorem callB61 : callB Tryz.prog 61 = true := by kernel_rfl
theorem callB62 : callB Tryz.prog 62 = true := by kernel_rfl
theorem callB63 : callB Tryz.prog 63 = true := by kernel_rfl
theorem callB64 : callB Tryz.prog 64 = true := by kernel_rfl
theorem callB65 : callB Tryz.prog 65 = true := by kernel_rfl
theorem callB66 : callB Tryz.prog 66 = true := by kernel_rfl
theorem callB67 : callB Tryz.prog 67 = true := by kernel_rfl
theorem callB68 : callB Tryz.prog 68 = true := by kernel_rfl
theorem callB69 : callB Tryz.prog 69 = true := by kernel_rfl
theorem callB70 : callB Tryz.prog 70 = true := by kernel_rfl
theorem callB77 : callB Tryz.prog 77 = true := by kernel_rfl
theorem callB78 : callB Tryz.prog 78 = true := by kernel_rfl
theorem callB79 : callB Tryz.prog 79 = true := by kernel_rfl
theorem callB8 : callB Tryz.prog 8 = true := by kernel_rfl
theorem callB80 : callB Tryz.prog 80 = true := by kernel_rfl
theorem callB81 : callB Tryz.prog 81 = true := by kernel_rfl
theorem callB82 : callB Tryz.prog 82 = true := by kernel_rfl
theorem callB83 : callB Tryz.prog 83 = true := by kernel_rfl
theorem callB84 : callB Tryz.prog 84 = true := by kernel_rfl
theorem callB85 : callB Tryz.prog 85 = true := by kernel_rfl
theorem callB86 : callB Tryz.prog 86 = true := by kernel_rfl
theorem callB87 : callB Tryz.prog 87 = true := by kernel_rfl
theorem callB88 : callB Tryz.prog 88 = true := by kernel_rfl
theorem callB89 : callB Tryz.prog 89 = true := by kernel_rfl
theorem callB9 : callB Tryz.prog 9 = true := by kernel_rfl
theorem callB90 : callB Tryz.prog 90 = true := by kernel_rfl
theorem callB94 : callB Tryz.prog 94 = true := by kernel_rfl
theorem callB95 : callB Tryz.prog 95 = true := by kernel_rfl
theorem callB96 : callB Tryz.prog 96 = true := by kernel_rfl
theorem callB97 : callB Tryz.prog 97 = true := by kernel_rfl
theorem callB98 : callB Tryz.prog 98 = true := by kernel_rfl
theorem callB99 : callB Tryz.prog 99 = true := by kernel_rfl
theorem keyt73 : (Tryz.prog.keyTypeAt 30 73 && !Tryz.prog.eqGuardType Tryz.prog.depth 73 && (match Tryz.prog.underlying 73 with | some (.struct _) => true | _ => false) && [TypeDesc.int .i64, TypeDesc.int .i64].length == Tryz.prog.cellsOf 73) = true := by kernel_rfl
theorem keytA117 : (Tryz.prog.keyTypeAt 30 117 && !Tryz.prog.eqGuardType Tryz.prog.depth 117) = true := by kernel_rfl
theorem kinds73 : kinds Tryz.prog 30 73 = some [.int .i64, .int .i64] := by kernel_rfl
theorem kindsA117 : kindsA Tryz.prog 117 = some (List.replicate 2 (TypeDesc.int .i64)) := by kernel_rfl
theorem lay23 : lay Tryz.prog 23 = some (false, 1) := by kernel_rfl
theorem lay49 : lay Tryz.prog 49 = some (false, 1) := by kernel_rfl
theorem mty92 : mty Tryz.prog 92 = some (9, .string, 4) := by kernel_rfl
theorem plc25 : plc Tryz.prog 25 = some [(0, 1), (1, 1), (2, 1), (3, 1), (4, 1)] := by kernel_rfl
theorem plc28 : plc Tryz.prog 28 = some [(0, 1), (1, 1)] := by kernel_rfl
theorem plc31 : plc Tryz.prog 31 = some [(0, 1), (1, 1), (2, 1), (3, 1), (4, 1), (5, 1), (6, 1)] := by kernel_rfl
theorem plc36 : plc Tryz.prog 36 = some [(0, 1), (1, 1), (2, 1)] := by kernel_rfl
theorem plc47 : plc Tryz.prog 47 = some [(0, 1), (1, 1), (2, 1)] := by kernel_rfl
theorem plc52 : plc Tryz.prog 52 = some [(0, 1), (1, 1), (2, 1), (3, 1), (4, 1), (5, 1), (6, 1), (7, 1), (8, 1), (9, 1), (10, 1), (11, 1), (12, 1), (13, 1)] := by kernel_rfl
theorem plc63 : plc Tryz.prog 63 = some [(0, 2), (2, 5), (7, 7), (14, 1)] := by kernel_rfl
theorem plc80 : plc Tryz.prog 80 = some [(0, 1), (1, 1), (2, 1)] := by kernel_rfl
theorem plc97 : plc Tryz.prog 97 = some [(0, 5), (5, 7), (12, 14), (26, 3), (29, 1), (30, 1), (31, 1), (32, 1)] := by kernel_rfl
theorem sel144 : sel Tryz.prog 144 = some (23, 1, 24) := by kernel_rfl
theorem sel145 : sel Tryz.prog 145 = some (49, 1, 24) := by kernel_rfl
theorem sel23 : sel Tryz.prog 23 = some (3, 1, 8) := by kernel_rfl
theorem sel49 : sel Tryz.prog 49 = some (73, 2, 16) := by kernel_rfl
theorem zero117 : (Tryz.prog.info? 117).bind (·.zero) = Option.some (Go.Value.agg #[Go.Value.int Go.IntKind.i64 0, Go.Value.int Go.IntKind.i64 0]) := by kernel_rfl
theorem zero121 : (Tryz.prog.info? 121).bind (·.zero) = Option.some (Go.Value.agg #[Go.Value.bool Bool.false, Go.Value.bool Bool.false, Go.Value.bool Bool.false, Go.Value.bool Bool.false, Go.Value.bool Bool.false, Go.Value.bool Bool.false, Go.Value.bool Bool.false, Go.Value.bool Bool.false, Go.Value.bool Bool.false, Go.Value.bool Bool.false, Go.Value.bool Bool.false, Go.Value.bool Bool.false, Go.Value.bool Bool.false, Go.Value.bool Bool.false, Go.Value.bool Bool.false, Go.Value.bool Bool.false, Go.Value.bool Bool.false, Go.Value.bool Bool.false, Go.Value.bool Bool.false, Go.Value.bool Bool.false, Go.Value.bool Bool.false, Go.Value.bool Bool.false, Go.Value.bool Bool.false, Go.Value.bool Bool.false]) := by kernel_rfl
theorem zero23 : (Tryz.prog.info? 23).bind (·.zero) = Option.some (Go.Value.slice Option.none 0 0) := by kernel_rfl
theorem zero25 : (Tryz.prog.info? 25).bind (·.zero) = Option.some (Go.Value.agg #[Go.Value.slice Option.none 0 0, Go.Value.slice Option.none 0 0, Go.Value.slice Option.none 0 0, Go.Value.int Go.IntKind.i64 0, Go.Value.int Go.IntKind.i64 0]) := by kernel_rfl
theorem zero28 : (Tryz.prog.info? 28).bind (·.zero) = Option.some (Go.Value.agg #[Go.Value.slice Option.none 0 0, Go.Value.slice Option.none 0 0]) := by kernel_rfl
theorem zero3 : (Tryz.prog.info? 3).bind (·.zero) = Option.some (Go.Value.int Go.IntKind.i64 0) := by kernel_rfl
theorem zero31 : (Tryz.prog.info? 31).bind (·.zero) = Option.some (Go.Value.agg #[Go.Value.slice Option.none 0 0, Go.Value.slice Option.none 0 0, Go.Value.slice Option.none 0 0, Go.Value.slice Option.none 0 0, Go.Value.slice Option.none 0 0, Go.Value.slice Option.none 0 0, Go.Value.slice Option.none 0 0]) := by kernel_rfl
theorem zero36 : (Tryz.prog.info? 36).bind (·.zero) = Option.some (Go.Value.agg #[Go.Value.slice Option.none 0 0, Go.Value.slice Option.none 0 0, Go.Value.slice Option.none 0 0]) := by kernel_rfl
theorem zero4 : (Tryz.prog.info? 4).bind (·.zero) = Option.some (Go.Value.bool Bool.false) := by kernel_rfl
theorem zero47 : (Tryz.prog.info? 47).bind (·.zero) = Option.some (Go.Value.agg #[Go.Value.int Go.IntKind.i64 0, Go.Value.int Go.IntKind.i64 0, Go.Value.int Go.IntKind.i64 0]) := by kernel_rfl
theorem zero49 : (Tryz.prog.info? 49).bind (·.zero) = Option.some (Go.Value.slice Option.none 0 0) := by kernel_rfl
theorem zero52 : (Tryz.prog.info? 52).bind (·.zero) = Option.some (Go.Value.agg #[Go.Value.string { data := #[] }, Go.Value.int Go.IntKind.i64 0, Go.Value.int Go.IntKind.i64 0, Go.Value.slice Option.none 0 0, Go.Value.slice Option.none 0 0, Go.Value.slice Option.none 0 0, Go.Value.int Go.IntKind.i64 0, Go.Value.int Go.IntKind.i64 0, Go.Value.slice Option.none 0 0, Go.Value.slice Option.none 0 0, Go.Value.slice Option.none 0 0, Go.Value.slice Option.none 0 0, Go.Value.slice Option.none 0 0, Go.Value.slice Option.none 0 0]) := by kernel_rfl
theorem zero63 : (Tryz.prog.info? 63).bind (·.zero) = Option.some (Go.Value.agg #[Go.Value.slice Option.none 0 0, Go.Value.slice Option.none 0 0, Go.Value.slice Option.none 0 0, Go.Value.slice Option.none 0 0, Go.Value.slice Option.none 0 0, Go.Value.int Go.IntKind.i64 0, Go.Value.int Go.IntKind.i64 0, Go.Value.slice Option.none 0 0, Go.Value.slice Option.none 0 0, Go.Value.slice Option.none 0 0, Go.Value.slice Option.none 0 0, Go.Value.slice Option.none 0 0, Go.Value.slice Option.none 0 0, Go.Value.slice Option.none 0 0, Go.Value.slice Option.none 0 0]) := by kernel_rfl
theorem zero73 : (Tryz.prog.info? 73).bind (·.zero) = Option.some (Go.Value.agg #[Go.Value.int Go.IntKind.i64 0, Go.Value.int Go.IntKind.i64 0]) := by kernel_rfl
theorem zero80 : (Tryz.prog.info? 80).bind (·.zero) = Option.some (Go.Value.agg #[Go.Value.int Go.IntKind.i64 0, Go.Value.int Go.IntKind.i64 0, Go.Value.int Go.IntKind.i64 0]) := by kernel_rfl
theorem zero83 : (Tryz.prog.info? 83).bind (·.zero) = Option.some (Go.Value.slice Option.none 0 0) := by kernel_rfl
theorem zero97 : (Tryz.prog.info? 97).bind (·.zero) = Option.some (Go.Value.agg #[Go.Value.slice Option.none 0 0, Go.Value.slice Option.none 0 0, Go.Value.slice Option.none 0 0, Go.Value.int Go.IntKind.i64 0, Go.Value.int Go.IntKind.i64 0, Go.Value.slice Option.none 0 0, Go.Value.slice Option.none 0 0, Go.Value.slice Option.none 0 0, Go.Value.slice Option.none 0 0, Go.Value.slice Option.none 0 0, Go.Value.slice Option.none 0 0, Go.Value.slice Option.none 0 0, Go.Value.string { data := #[] }, Go.Value.int Go.IntKind.i64 0, Go.Value.int Go.IntKind.i64 0, Go.Value.slice Option.none 0 0, Go.Value.slice Option.none 0 0, Go.Value.slice Option.none 0 0, Go.Value.int Go.IntKind.i64 0, Go.Value.int Go.IntKind.i64 0, Go.Value.slice Option.none 0 0, Go.Value.slice Option.none 0 0, Go.Value.slice Option.none 0 0, Go.Value.slice Option.none 0 0, Go.Value.slice Option.none 0 0, Go.Value.slice Option.none 0 0, Go.Value.int Go.IntKind.i64 0, Go.Value.int Go.IntKind.i64 0, Go.Value.int Go.IntKind.i64 0, Go.Value.bool Bool.false, Go.Value.bool Bool.false, Go.Value.bool Bool.false, Go.Value.bool Bool.false]) := by kernel_rfl
theorem plcA117 : plcA Tryz.prog 117 = some [(0, 1), (1, 1)] := by kernel_rfl
theorem Setting_eq {w : World} {n k : Nat} {g : Gh} {mv : Nat → Bool} {o : Oper} {ev : Operand → AV} {hp : List Blk} {a b : Operand} {t' : TypeId} {x y : Setting} (ho : o.op = .binOp .eql 73 a b t') (hx : ev a = .d x.enc) (hy : ev b = .d y.enc) (h1 : x.ok) (h2 : y.ok) : RdOk ⟨Tryz.prog, n, w, k, g, mv⟩ o ev hp (.d (.bool (decide (x = y)))) :=
 eq_yes ho hx hy kinds73 keyt73 rfl rfl ⟨⟨rfl, h1.1⟩, ⟨rfl, h1.2⟩, trivial⟩ ⟨⟨rfl, h2.1⟩, ⟨rfl, h2.2⟩, trivial⟩ (Setting_lits x y)
theorem Setting_ne {w : World} {n k : Nat} {g : Gh} {mv : Nat → Bool} {o : Oper} {ev : Operand → AV} {hp : List Blk} {a b : Operand} {t' : TypeId} {x y : Setting} (ho : o.op = .binOp .neq 73 a b t') (hx : ev a = .d x.enc) (hy : ev b = .d y.enc) (h1 : x.ok) (h2 : y.ok) : RdOk ⟨Tryz.prog, n, w, k, g, mv⟩ o ev hp (.d (.bool (!decide (x = y)))) :=
 eq_not ho hx hy kinds73 keyt73 rfl rfl ⟨⟨rfl, h1.1⟩, ⟨rfl, h1.2⟩, trivial⟩ ⟨⟨rfl, h2.1⟩, ⟨rfl, h2.2⟩, trivial⟩ (Setting_lits x y)
theorem A2_int_eq {w : World} {n k : Nat} {g : Gh} {mv : Nat → Bool} {o : Oper} {ev : Operand → AV} {hp : List Blk} {a b : Operand} {t' : TypeId} {x y : A2_int} (ho : o.op = .binOp .eql 117 a b t') (hx : ev a = .d x.enc) (hy : ev b = .d y.enc) (h1 : x.ok) (h2 : y.ok) : RdOk ⟨Tryz.prog, n, w, k, g, mv⟩ o ev hp (.d (.bool (decide (x = y)))) :=
 eqA_yes ho hx hy kindsA117 keytA117 rfl rfl ⟨⟨rfl, h1.1⟩, ⟨rfl, h1.2⟩, trivial⟩ ⟨⟨rfl, h2.1⟩, ⟨rfl, h2.2⟩, trivial⟩ (A2_int_lits x y)
end Go.Proofs.YtdhicpmpefkojaaGreat

set_option maxHeartbeats 8000000
set_option linter.unusedSimpArgs false
set_option linter.unusedVariables false
set_option maxRecDepth 20000
namespace Go.Proofs.YtdhicpmpefkojaaGreat
open Go Go.TL

theorem HasTy.fld {P : Program} {cs : List D} {fs : Array Field} (h2 : ∀ (i : Nat) (f : Field), fs[i]? = some f → HasTy P f.type ((cs.drop f.offset).take (P.cellsOf f.type))) {i off n : Nat} {f : Field} {t : TypeId} (hf : fs[i]? = some f) (ht : f.type = t) (ho : f.offset = off) (hc : P.cellsOf t = n) : HasTy P t ((cs.drop off).take n) := by
 have := h2 i f hf
 rw [ht, ho, hc] at this
 exact this
theorem ty3 (cs : List D) (h : HasTy Tryz.prog 3 cs) : ∃ x : Int, I64 x ∧ ofCellsD Tryz.prog 3 cs = (D.int .i64) x := by
 obtain ⟨x, rfl, w⟩ := h.int_inv Tryz.underlying3
 exact ⟨x, w, by simp [ofCellsD, Tryz.underlying3]⟩
theorem cells80 : Tryz.prog.cellsOf 80 = 3 := by kernel_rfl
theorem cells3 : Tryz.prog.cellsOf 3 = 1 := by kernel_rfl
theorem len_is3 {cs : List D} (h : cs.length = 3) : ∃ a0 a1 a2, cs = [a0, a1, a2] := by
 match cs, h with
 | [a0, a1, a2], _ => exact ⟨a0, a1, a2, rfl⟩
theorem ty80c (cs : List D) (h : HasTy Tryz.prog 80 cs) : ∃ x : Step, x.Wf ∧ cs = [.int .i64 x.el, .int .i64 x.inV, .int .i64 x.out] := by
 obtain ⟨h1, h2⟩ := h.struct_inv Tryz.underlying80
 rw [cells80] at h1
 obtain ⟨a0, a1, a2, rfl⟩ := len_is3 h1
 obtain ⟨x0, e0, w0⟩ := (show HasTy Tryz.prog 3 [a0] from HasTy.fld h2 (i := 0) rfl rfl rfl cells3).int_inv Tryz.underlying3
 replace e0 : [a0] = [D.int .i64 x0] := e0
 simp only [List.cons.injEq, and_true] at e0
 obtain ⟨x1, e1, w1⟩ := (show HasTy Tryz.prog 3 [a1] from HasTy.fld h2 (i := 1) rfl rfl rfl cells3).int_inv Tryz.underlying3
 replace e1 : [a1] = [D.int .i64 x1] := e1
 simp only [List.cons.injEq, and_true] at e1
 obtain ⟨x2, e2, w2⟩ := (show HasTy Tryz.prog 3 [a2] from HasTy.fld h2 (i := 2) rfl rfl rfl cells3).int_inv Tryz.underlying3
 replace e2 : [a2] = [D.int .i64 x2] := e2
 simp only [List.cons.injEq, and_true] at e2
 subst e0 e1 e2
 exact ⟨⟨x0, x1, x2⟩, ⟨w0, w1, w2⟩, rfl⟩
theorem ty80 (cs : List D) (h : HasTy Tryz.prog 80 cs) : ∃ x : Step, x.Wf ∧ ofCellsD Tryz.prog 80 cs = x.enc := by
 obtain ⟨x, w, rfl⟩ := ty80c cs h
 exact ⟨x, w, by simp [ofCellsD, Tryz.underlying80, Step.enc]⟩
theorem cells73 : Tryz.prog.cellsOf 73 = 2 := by kernel_rfl
theorem len_is2 {cs : List D} (h : cs.length = 2) : ∃ a0 a1, cs = [a0, a1] := by
 match cs, h with
 | [a0, a1], _ => exact ⟨a0, a1, rfl⟩
theorem ty73c (cs : List D) (h : HasTy Tryz.prog 73 cs) : ∃ x : Setting, x.Wf ∧ cs = [.int .i64 x.el, .int .i64 x.pos] := by
 obtain ⟨h1, h2⟩ := h.struct_inv Tryz.underlying73
 rw [cells73] at h1
 obtain ⟨a0, a1, rfl⟩ := len_is2 h1
 obtain ⟨x0, e0, w0⟩ := (show HasTy Tryz.prog 3 [a0] from HasTy.fld h2 (i := 0) rfl rfl rfl cells3).int_inv Tryz.underlying3
 replace e0 : [a0] = [D.int .i64 x0] := e0
 simp only [List.cons.injEq, and_true] at e0
 obtain ⟨x1, e1, w1⟩ := (show HasTy Tryz.prog 3 [a1] from HasTy.fld h2 (i := 1) rfl rfl rfl cells3).int_inv Tryz.underlying3
 replace e1 : [a1] = [D.int .i64 x1] := e1
 simp only [List.cons.injEq, and_true] at e1
 subst e0 e1
 exact ⟨⟨x0, x1⟩, ⟨w0, w1⟩, rfl⟩
theorem ty73 (cs : List D) (h : HasTy Tryz.prog 73 cs) : ∃ x : Setting, x.Wf ∧ ofCellsD Tryz.prog 73 cs = x.enc := by
 obtain ⟨x, w, rfl⟩ := ty73c cs h
 exact ⟨x, w, by simp [ofCellsD, Tryz.underlying73, Setting.enc]⟩
theorem cells181 : Tryz.prog.cellsOf 181 = 2 := by kernel_rfl
theorem ty181c (cs : List D) (h : HasTy Tryz.prog 181 cs) : ∃ x : End, x.Wf ∧ cs = [.int .i64 x.el, .int .i64 x.side] := by
 obtain ⟨h1, h2⟩ := h.struct_inv Tryz.underlying181
 rw [cells181] at h1
 obtain ⟨a0, a1, rfl⟩ := len_is2 h1
 obtain ⟨x0, e0, w0⟩ := (show HasTy Tryz.prog 3 [a0] from HasTy.fld h2 (i := 0) rfl rfl rfl cells3).int_inv Tryz.underlying3
 replace e0 : [a0] = [D.int .i64 x0] := e0
 simp only [List.cons.injEq, and_true] at e0
 obtain ⟨x1, e1, w1⟩ := (show HasTy Tryz.prog 3 [a1] from HasTy.fld h2 (i := 1) rfl rfl rfl cells3).int_inv Tryz.underlying3
 replace e1 : [a1] = [D.int .i64 x1] := e1
 simp only [List.cons.injEq, and_true] at e1
 subst e0 e1
 exact ⟨⟨x0, x1⟩, ⟨w0, w1⟩, rfl⟩
theorem ty181 (cs : List D) (h : HasTy Tryz.prog 181 cs) : ∃ x : End, x.Wf ∧ ofCellsD Tryz.prog 181 cs = x.enc := by
 obtain ⟨x, w, rfl⟩ := ty181c cs h
 exact ⟨x, w, by simp [ofCellsD, Tryz.underlying181, End.enc]⟩
theorem cells52 : Tryz.prog.cellsOf 52 = 14 := by kernel_rfl
theorem cells9 : Tryz.prog.cellsOf 9 = 1 := by kernel_rfl
theorem cells48 : Tryz.prog.cellsOf 48 = 1 := by kernel_rfl
theorem cells49 : Tryz.prog.cellsOf 49 = 1 := by kernel_rfl
theorem cells23 : Tryz.prog.cellsOf 23 = 1 := by kernel_rfl
theorem cells50 : Tryz.prog.cellsOf 50 = 1 := by kernel_rfl
theorem len_is14 {cs : List D} (h : cs.length = 14) : ∃ a0 a1 a2 a3 a4 a5 a6 a7 a8 a9 a10 a11 a12 a13, cs = [a0, a1, a2, a3, a4, a5, a6, a7, a8, a9, a10, a11, a12, a13] := by
 match cs, h with
 | [a0, a1, a2, a3, a4, a5, a6, a7, a8, a9, a10, a11, a12, a13], _ => exact ⟨a0, a1, a2, a3, a4, a5, a6, a7, a8, a9, a10, a11, a12, a13, rfl⟩
theorem ty52c (cs : List D) (h : HasTy Tryz.prog 52 cs) : ∃ x : Route, x.Wf ∧ cs = [.str x.name, .int .i64 x.entry, .int .i64 x.exit, .sl 3 (x.path.map Step.enc), .sl 2 (x.points.map Setting.enc), .sl 1 (x.sections.map (D.int .i64)), .int .i64 x.approach, .int .i64 x.length, .sl 3 (x.over.map Step.enc), .sl 2 (x.overPoints.map Setting.enc), .sl 1 (x.overSections.map (D.int .i64)), .sl 2 (x.flank.map Setting.enc), .sl 1 (x.guards.map (D.int .i64)), .sl 2 (x.gaps.map End.enc)] := by
 obtain ⟨h1, h2⟩ := h.struct_inv Tryz.underlying52
 rw [cells52] at h1
 obtain ⟨a0, a1, a2, a3, a4, a5, a6, a7, a8, a9, a10, a11, a12, a13, rfl⟩ := len_is14 h1
 obtain ⟨x0, e0, w0⟩ := (show HasTy Tryz.prog 9 [a0] from HasTy.fld h2 (i := 0) rfl rfl rfl cells9).str_inv Tryz.underlying9
 replace e0 : [a0] = [D.str x0] := e0
 simp only [List.cons.injEq, and_true] at e0
 obtain ⟨x1, e1, w1⟩ := (show HasTy Tryz.prog 3 [a1] from HasTy.fld h2 (i := 1) rfl rfl rfl cells3).int_inv Tryz.underlying3
 replace e1 : [a1] = [D.int .i64 x1] := e1
 simp only [List.cons.injEq, and_true] at e1
 obtain ⟨x2, e2, w2⟩ := (show HasTy Tryz.prog 3 [a2] from HasTy.fld h2 (i := 2) rfl rfl rfl cells3).int_inv Tryz.underlying3
 replace e2 : [a2] = [D.int .i64 x2] := e2
 simp only [List.cons.injEq, and_true] at e2
 obtain ⟨x3, e3, l3, m3⟩ := (show HasTy Tryz.prog 48 [a3] from HasTy.fld h2 (i := 3) rfl rfl rfl cells48).list Tryz.underlying48 Step.enc Step.Wf (fun cs _ h => ty80 cs h)
 rw [cells80] at e3
 have w3 := And.intro l3 m3
 replace e3 : [a3] = [D.sl 3 (x3.map Step.enc)] := e3
 simp only [List.cons.injEq, and_true] at e3
 obtain ⟨x4, e4, l4, m4⟩ := (show HasTy Tryz.prog 49 [a4] from HasTy.fld h2 (i := 4) rfl rfl rfl cells49).list Tryz.underlying49 Setting.enc Setting.Wf (fun cs _ h => ty73 cs h)
 rw [cells73] at e4
 have w4 := And.intro l4 m4
 replace e4 : [a4] = [D.sl 2 (x4.map Setting.enc)] := e4
 simp only [List.cons.injEq, and_true] at e4
 obtain ⟨x5, e5, l5, m5⟩ := (show HasTy Tryz.prog 23 [a5] from HasTy.fld h2 (i := 5) rfl rfl rfl cells23).list Tryz.underlying23 (D.int .i64) I64 (fun cs _ h => ty3 cs h)
 rw [cells3] at e5
 have w5 := And.intro l5 m5
 replace e5 : [a5] = [D.sl 1 (x5.map (D.int .i64))] := e5
 simp only [List.cons.injEq, and_true] at e5
 obtain ⟨x6, e6, w6⟩ := (show HasTy Tryz.prog 3 [a6] from HasTy.fld h2 (i := 6) rfl rfl rfl cells3).int_inv Tryz.underlying3
 replace e6 : [a6] = [D.int .i64 x6] := e6
 simp only [List.cons.injEq, and_true] at e6
 obtain ⟨x7, e7, w7⟩ := (show HasTy Tryz.prog 3 [a7] from HasTy.fld h2 (i := 7) rfl rfl rfl cells3).int_inv Tryz.underlying3
 replace e7 : [a7] = [D.int .i64 x7] := e7
 simp only [List.cons.injEq, and_true] at e7
 obtain ⟨x8, e8, l8, m8⟩ := (show HasTy Tryz.prog 48 [a8] from HasTy.fld h2 (i := 8) rfl rfl rfl cells48).list Tryz.underlying48 Step.enc Step.Wf (fun cs _ h => ty80 cs h)
 rw [cells80] at e8
 have w8 := And.intro l8 m8
 replace e8 : [a8] = [D.sl 3 (x8.map Step.enc)] := e8
 simp only [List.cons.injEq, and_true] at e8
 obtain ⟨x9, e9, l9, m9⟩ := (show HasTy Tryz.prog 49 [a9] from HasTy.fld h2 (i := 9) rfl rfl rfl cells49).list Tryz.underlying49 Setting.enc Setting.Wf (fun cs _ h => ty73 cs h)
 rw [cells73] at e9
 have w9 := And.intro l9 m9
 replace e9 : [a9] = [D.sl 2 (x9.map Setting.enc)] := e9
 simp only [List.cons.injEq, and_true] at e9
 obtain ⟨x10, e10, l10, m10⟩ := (show HasTy Tryz.prog 23 [a10] from HasTy.fld h2 (i := 10) rfl rfl rfl cells23).list Tryz.underlying23 (D.int .i64) I64 (fun cs _ h => ty3 cs h)
 rw [cells3] at e10
 have w10 := And.intro l10 m10
 replace e10 : [a10] = [D.sl 1 (x10.map (D.int .i64))] := e10
 simp only [List.cons.injEq, and_true] at e10
 obtain ⟨x11, e11, l11, m11⟩ := (show HasTy Tryz.prog 49 [a11] from HasTy.fld h2 (i := 11) rfl rfl rfl cells49).list Tryz.underlying49 Setting.enc Setting.Wf (fun cs _ h => ty73 cs h)
 rw [cells73] at e11
 have w11 := And.intro l11 m11
 replace e11 : [a11] = [D.sl 2 (x11.map Setting.enc)] := e11
 simp only [List.cons.injEq, and_true] at e11
 obtain ⟨x12, e12, l12, m12⟩ := (show HasTy Tryz.prog 23 [a12] from HasTy.fld h2 (i := 12) rfl rfl rfl cells23).list Tryz.underlying23 (D.int .i64) I64 (fun cs _ h => ty3 cs h)
 rw [cells3] at e12
 have w12 := And.intro l12 m12
 replace e12 : [a12] = [D.sl 1 (x12.map (D.int .i64))] := e12
 simp only [List.cons.injEq, and_true] at e12
 obtain ⟨x13, e13, l13, m13⟩ := (show HasTy Tryz.prog 50 [a13] from HasTy.fld h2 (i := 13) rfl rfl rfl cells50).list Tryz.underlying50 End.enc End.Wf (fun cs _ h => ty181 cs h)
 rw [cells181] at e13
 have w13 := And.intro l13 m13
 replace e13 : [a13] = [D.sl 2 (x13.map End.enc)] := e13
 simp only [List.cons.injEq, and_true] at e13
 subst e0 e1 e2 e3 e4 e5 e6 e7 e8 e9 e10 e11 e12 e13
 exact ⟨⟨x0, x1, x2, x3, x4, x5, x6, x7, x8, x9, x10, x11, x12, x13⟩, ⟨w0, w1, w2, w3, w4, w5, w6, w7, w8, w9, w10, w11, w12, w13⟩, rfl⟩
theorem ty52 (cs : List D) (h : HasTy Tryz.prog 52 cs) : ∃ x : Route, x.Wf ∧ ofCellsD Tryz.prog 52 cs = x.enc := by
 obtain ⟨x, w, rfl⟩ := ty52c cs h
 exact ⟨x, w, by simp [ofCellsD, Tryz.underlying52, Route.enc]⟩
theorem cells25 : Tryz.prog.cellsOf 25 = 5 := by kernel_rfl
theorem cells22 : Tryz.prog.cellsOf 22 = 1 := by kernel_rfl
theorem len_is5 {cs : List D} (h : cs.length = 5) : ∃ a0 a1 a2 a3 a4, cs = [a0, a1, a2, a3, a4] := by
 match cs, h with
 | [a0, a1, a2, a3, a4], _ => exact ⟨a0, a1, a2, a3, a4, rfl⟩
theorem ty25c (cs : List D) (h : HasTy Tryz.prog 25 cs) : ∃ x : Table, x.Wf ∧ cs = [.sl 14 (x.routes.map Route.enc), .sl 1 (x.points.map (D.int .i64)), .sl 1 (x.homes.map (D.int .i64)), .int .i64 x.sections, .int .i64 x.signals] := by
 obtain ⟨h1, h2⟩ := h.struct_inv Tryz.underlying25
 rw [cells25] at h1
 obtain ⟨a0, a1, a2, a3, a4, rfl⟩ := len_is5 h1
 obtain ⟨x0, e0, l0, m0⟩ := (show HasTy Tryz.prog 22 [a0] from HasTy.fld h2 (i := 0) rfl rfl rfl cells22).list Tryz.underlying22 Route.enc Route.Wf (fun cs _ h => ty52 cs h)
 rw [cells52] at e0
 have w0 := And.intro l0 m0
 replace e0 : [a0] = [D.sl 14 (x0.map Route.enc)] := e0
 simp only [List.cons.injEq, and_true] at e0
 obtain ⟨x1, e1, l1, m1⟩ := (show HasTy Tryz.prog 23 [a1] from HasTy.fld h2 (i := 1) rfl rfl rfl cells23).list Tryz.underlying23 (D.int .i64) I64 (fun cs _ h => ty3 cs h)
 rw [cells3] at e1
 have w1 := And.intro l1 m1
 replace e1 : [a1] = [D.sl 1 (x1.map (D.int .i64))] := e1
 simp only [List.cons.injEq, and_true] at e1
 obtain ⟨x2, e2, l2, m2⟩ := (show HasTy Tryz.prog 23 [a2] from HasTy.fld h2 (i := 2) rfl rfl rfl cells23).list Tryz.underlying23 (D.int .i64) I64 (fun cs _ h => ty3 cs h)
 rw [cells3] at e2
 have w2 := And.intro l2 m2
 replace e2 : [a2] = [D.sl 1 (x2.map (D.int .i64))] := e2
 simp only [List.cons.injEq, and_true] at e2
 obtain ⟨x3, e3, w3⟩ := (show HasTy Tryz.prog 3 [a3] from HasTy.fld h2 (i := 3) rfl rfl rfl cells3).int_inv Tryz.underlying3
 replace e3 : [a3] = [D.int .i64 x3] := e3
 simp only [List.cons.injEq, and_true] at e3
 obtain ⟨x4, e4, w4⟩ := (show HasTy Tryz.prog 3 [a4] from HasTy.fld h2 (i := 4) rfl rfl rfl cells3).int_inv Tryz.underlying3
 replace e4 : [a4] = [D.int .i64 x4] := e4
 simp only [List.cons.injEq, and_true] at e4
 subst e0 e1 e2 e3 e4
 exact ⟨⟨x0, x1, x2, x3, x4⟩, ⟨w0, w1, w2, w3, w4⟩, rfl⟩
theorem ty25 (cs : List D) (h : HasTy Tryz.prog 25 cs) : ∃ x : Table, x.Wf ∧ ofCellsD Tryz.prog 25 cs = x.enc := by
 obtain ⟨x, w, rfl⟩ := ty25c cs h
 exact ⟨x, w, by simp [ofCellsD, Tryz.underlying25, Table.enc]⟩
theorem ty4 (cs : List D) (h : HasTy Tryz.prog 4 cs) : ∃ x : Bool, (fun _ => True) x ∧ ofCellsD Tryz.prog 4 cs = D.bool x := by
 obtain ⟨x, rfl⟩ := h.bool_inv Tryz.underlying4
 exact ⟨x, trivial, by simp [ofCellsD, Tryz.underlying4]⟩
theorem cells4 : Tryz.prog.cellsOf 4 = 1 := by kernel_rfl
theorem cells31 : Tryz.prog.cellsOf 31 = 7 := by kernel_rfl
theorem cells29 : Tryz.prog.cellsOf 29 = 1 := by kernel_rfl
theorem len_is7 {cs : List D} (h : cs.length = 7) : ∃ a0 a1 a2 a3 a4 a5 a6, cs = [a0, a1, a2, a3, a4, a5, a6] := by
 match cs, h with
 | [a0, a1, a2, a3, a4, a5, a6], _ => exact ⟨a0, a1, a2, a3, a4, a5, a6, rfl⟩
theorem ty31c (cs : List D) (h : HasTy Tryz.prog 31 cs) : ∃ x : Inputs, x.Wf ∧ cs = [.sl 1 (x.occupied.map D.bool), .sl 1 (x.detected.map (D.int .i64)), .sl 1 (x.closed.map D.bool), .sl 1 (x.claimed.map D.bool), .sl 1 (x.passed.map D.bool), .sl 1 (x.calls.map (D.int .i64)), .sl 1 (x.cancels.map (D.int .i64))] := by
 obtain ⟨h1, h2⟩ := h.struct_inv Tryz.underlying31
 rw [cells31] at h1
 obtain ⟨a0, a1, a2, a3, a4, a5, a6, rfl⟩ := len_is7 h1
 obtain ⟨x0, e0, l0, m0⟩ := (show HasTy Tryz.prog 29 [a0] from HasTy.fld h2 (i := 0) rfl rfl rfl cells29).list Tryz.underlying29 D.bool (fun _ => True) (fun cs _ h => ty4 cs h)
 rw [cells4] at e0
 have w0 := And.intro l0 m0
 replace e0 : [a0] = [D.sl 1 (x0.map D.bool)] := e0
 simp only [List.cons.injEq, and_true] at e0
 obtain ⟨x1, e1, l1, m1⟩ := (show HasTy Tryz.prog 23 [a1] from HasTy.fld h2 (i := 1) rfl rfl rfl cells23).list Tryz.underlying23 (D.int .i64) I64 (fun cs _ h => ty3 cs h)
 rw [cells3] at e1
 have w1 := And.intro l1 m1
 replace e1 : [a1] = [D.sl 1 (x1.map (D.int .i64))] := e1
 simp only [List.cons.injEq, and_true] at e1
 obtain ⟨x2, e2, l2, m2⟩ := (show HasTy Tryz.prog 29 [a2] from HasTy.fld h2 (i := 2) rfl rfl rfl cells29).list Tryz.underlying29 D.bool (fun _ => True) (fun cs _ h => ty4 cs h)
 rw [cells4] at e2
 have w2 := And.intro l2 m2
 replace e2 : [a2] = [D.sl 1 (x2.map D.bool)] := e2
 simp only [List.cons.injEq, and_true] at e2
 obtain ⟨x3, e3, l3, m3⟩ := (show HasTy Tryz.prog 29 [a3] from HasTy.fld h2 (i := 3) rfl rfl rfl cells29).list Tryz.underlying29 D.bool (fun _ => True) (fun cs _ h => ty4 cs h)
 rw [cells4] at e3
 have w3 := And.intro l3 m3
 replace e3 : [a3] = [D.sl 1 (x3.map D.bool)] := e3
 simp only [List.cons.injEq, and_true] at e3
 obtain ⟨x4, e4, l4, m4⟩ := (show HasTy Tryz.prog 29 [a4] from HasTy.fld h2 (i := 4) rfl rfl rfl cells29).list Tryz.underlying29 D.bool (fun _ => True) (fun cs _ h => ty4 cs h)
 rw [cells4] at e4
 have w4 := And.intro l4 m4
 replace e4 : [a4] = [D.sl 1 (x4.map D.bool)] := e4
 simp only [List.cons.injEq, and_true] at e4
 obtain ⟨x5, e5, l5, m5⟩ := (show HasTy Tryz.prog 23 [a5] from HasTy.fld h2 (i := 5) rfl rfl rfl cells23).list Tryz.underlying23 (D.int .i64) I64 (fun cs _ h => ty3 cs h)
 rw [cells3] at e5
 have w5 := And.intro l5 m5
 replace e5 : [a5] = [D.sl 1 (x5.map (D.int .i64))] := e5
 simp only [List.cons.injEq, and_true] at e5
 obtain ⟨x6, e6, l6, m6⟩ := (show HasTy Tryz.prog 23 [a6] from HasTy.fld h2 (i := 6) rfl rfl rfl cells23).list Tryz.underlying23 (D.int .i64) I64 (fun cs _ h => ty3 cs h)
 rw [cells3] at e6
 have w6 := And.intro l6 m6
 replace e6 : [a6] = [D.sl 1 (x6.map (D.int .i64))] := e6
 simp only [List.cons.injEq, and_true] at e6
 subst e0 e1 e2 e3 e4 e5 e6
 exact ⟨⟨x0, x1, x2, x3, x4, x5, x6⟩, ⟨w0, w1, w2, w3, w4, w5, w6⟩, rfl⟩
theorem ty31 (cs : List D) (h : HasTy Tryz.prog 31 cs) : ∃ x : Inputs, x.Wf ∧ ofCellsD Tryz.prog 31 cs = x.enc := by
 obtain ⟨x, w, rfl⟩ := ty31c cs h
 exact ⟨x, w, by simp [ofCellsD, Tryz.underlying31, Inputs.enc]⟩
theorem ty42 (cs : List D) (h : HasTy Tryz.prog 42 cs) : ∃ l : (List Inputs), (fun l => l.length ≤ reachBytes ∧ ∀ x ∈ l, Inputs.Wf x) l ∧ ofCellsD Tryz.prog 42 cs = (fun (l : List Inputs) => D.sl 7 (l.map Inputs.enc)) l := by
 obtain ⟨l, rfl, h1, h2⟩ := h.list Tryz.underlying42 Inputs.enc Inputs.Wf (fun cs _ h => ty31 cs h)
 exact ⟨l, ⟨h1, h2⟩, by simp [ofCellsD, Tryz.underlying42, cells31]⟩

end Go.Proofs.YtdhicpmpefkojaaGreat

set_option maxHeartbeats 8000000
set_option linter.unusedSimpArgs false
set_option linter.unusedVariables false
set_option maxRecDepth 20000
namespace Go.Proofs.YtdhicpmpefkojaaGreat
open Go Go.TL

def law21_Small (p0 : Table) (p1 : Inter) : Option Bool :=
 bindS (
  loopM (fun x3 =>
   if x3 < (p0.routes.length : Int) then
    getM p0.routes x3 fun e6 =>
    if ((decide ((30 : Int) < (e6.sections.length : Int))) || ((decide ((30 : Int) < (e6.overSections.length : Int))) || ((decide ((30 : Int) < (e6.points.length : Int))) || ((decide ((30 : Int) < (e6.overPoints.length : Int))) || ((decide ((30 : Int) < (e6.flank.length : Int))) || (decide ((30 : Int) < (e6.path.length : Int)))))))) = true then
     inrM (
      inrM (
       some false))
    else
     guardM (I64 (x3 + (1 : Int))) <|
     some (.inl (x3 + (1 : Int)))
   else
    inrM (
     some (.inl ()))) (0 : Int)) fun _ =>
 some ((decide ((p0.routes.length : Int) ≤ (50 : Int))) && ((decide ((p0.points.length : Int) ≤ (40 : Int))) && ((decide ((p0.homes.length : Int) ≤ (40 : Int))) && ((decide ((p1.routes.length : Int) ≤ (50 : Int))) && (decide ((p1.lies.length : Int) ≤ (40 : Int)))))))

def law22_Few (p0 : Inputs) : Option Bool :=
 some ((decide ((p0.occupied.length : Int) ≤ (100 : Int))) && ((decide ((p0.detected.length : Int) ≤ (100 : Int))) && ((decide ((p0.closed.length : Int) ≤ (100 : Int))) && ((decide ((p0.claimed.length : Int) ≤ (100 : Int))) && ((decide ((p0.passed.length : Int) ≤ (100 : Int))) && ((decide ((p0.calls.length : Int) ≤ (100 : Int))) && (decide ((p0.cancels.length : Int) ≤ (100 : Int)))))))))

def law23_Table  : Option Table :=
 some (⟨([(⟨(⟨#[97]⟩ : ByteArray), (0 : Int), (1 : Int), ([(⟨(1 : Int), (0 : Int), (1 : Int)⟩ : Step)] : List Step), ([] : List Setting), ([(1 : Int)] : List Int), (0 : Int), (20000 : Int), ([] : List Step), ([] : List Setting), ([] : List Int), ([] : List Setting), ([] : List Int), ([] : List End)⟩ : Route), (⟨(⟨#[98]⟩ : ByteArray), (1 : Int), (-1 : Int), ([(⟨(2 : Int), (0 : Int), (1 : Int)⟩ : Step)] : List Step), ([] : List Setting), ([(2 : Int)] : List Int), (1 : Int), (20000 : Int), ([] : List Step), ([] : List Setting), ([] : List Int), ([] : List Setting), ([] : List Int), ([] : List End)⟩ : Route)] : List Route), ([] : List Int), ([] : List Int), (3 : Int), (2 : Int)⟩ : Table)

def law23_free (p0 : (List Int)) : Option Inputs :=
 guardM (0 ≤ (3 : Int) ∧ (3 : Int) ≤ 1000000000) <|
 guardM (0 ≤ (3 : Int) ∧ (3 : Int) ≤ 1000000000) <|
 guardM (0 ≤ (2 : Int) ∧ (2 : Int) ≤ 1000000000) <|
 guardM (0 ≤ (2 : Int) ∧ (2 : Int) ≤ 1000000000) <|
 bindM (
  loopM (fun (x10, b11) =>
   if x10 < (p0.length : Int) then
    getM p0 x10 fun e14 =>
    getM b11 e14 fun e15 =>
    guardM (I64 (x10 + (1 : Int))) <|
    some (.inl ((x10 + (1 : Int)), (b11.set e14.toNat true)))
   else
    inrM (
     some b11)) ((0 : Int), (List.replicate (3 : Int).toNat false))) fun b5 =>
 some (⟨b5, ([] : List Int), (List.replicate (3 : Int).toNat false), (List.replicate (2 : Int).toNat false), (List.replicate (2 : Int).toNat false), ([] : List Int), ([] : List Int)⟩ : Inputs)

def table_within (p0 : Int) (p1 : Int) : Option Bool :=
 some ((decide ((0 : Int) ≤ p0)) && (decide (p0 < p1)))

def table_pointsRight (p0 : Table) : Option Bool :=
 if (p0.homes.length : Int) = (p0.points.length : Int) then
  bindS (
   loopM (fun x4 =>
    if x4 < (p0.points.length : Int) then
     getM p0.points x4 fun e7 =>
     bindM (
      if e7 < (0 : Int) then
       some true
      else
       if (0 : Int) < x4 then
        guardM (I64 (x4 - (1 : Int))) <|
        getM p0.points (x4 - (1 : Int)) fun e15 =>
        if e7 ≤ e15 then
         some true
        else
         getM p0.homes x4 fun e17 =>
         bindM (table_within e17 p0.sections) fun r18 =>
         some (!(r18))
       else
        getM p0.homes x4 fun e12 =>
        bindM (table_within e12 p0.sections) fun r13 =>
        some (!(r13))) fun x8 =>
     if x8 = true then
      inrM (
       inrM (
        some false))
     else
      guardM (I64 (x4 + (1 : Int))) <|
      some (.inl (x4 + (1 : Int)))
    else
     inrM (
      some (.inl ()))) (0 : Int)) fun _ =>
  some true
 else
  some false

def slices_Concat_int (p0 : List (List Int)) : Option (List Int) :=
 guardM (p0.length ≤ 1000 ∧ p0.flatten.length ≤ 1000000000) <|
 some p0.flatten

def table_routeRight (p0 : Table) (p1 : Route) : Option Bool :=
 bindM (
  bindM (table_within p1.entry p0.signals) fun r3 =>
  if (!(r3)) = true then
   some true
  else
   if p1.exit = (-1 : Int) then
    some false
   else
    bindM (table_within p1.exit p0.signals) fun r6 =>
    some (!(r6))) fun x1 =>
 if x1 = true then
  some false
 else
  if ((decide ((p1.path.length : Int) < (1 : Int))) || ((decide ((12 : Int) < (p1.path.length : Int))) || (decide ((p1.sections.length : Int) = (0 : Int))))) = true then
   some false
  else
   bindS (
    bindM (slices_Concat_int ([p1.sections, p1.overSections] : List (List Int))) fun r13 =>
    loopM (fun (x17, b18) =>
     if x17 < (r13.length : Int) then
      getM r13 x17 fun e21 =>
      bindM (
       bindM (table_within e21 p0.sections) fun r24 =>
       if (!(r24)) = true then
        some true
       else
        guardM (e21 < 24) <|
        getM b18 e21 fun e26 =>
        some e26) fun x22 =>
      if x22 = true then
       inrM (
        inrM (
         some false))
      else
       guardM (e21 < 24) <|
       getM b18 e21 fun e31 =>
       guardM (I64 (x17 + (1 : Int))) <|
       some (.inl ((x17 + (1 : Int)), (b18.set e21.toNat true)))
     else
      inrM (
       some (.inl b18))) ((0 : Int), (List.replicate 24 false))) fun b11 =>
   bindM (
    bindM (table_within p1.approach p0.sections) fun r37 =>
    if r37 = true then
     some (decide ((1 : Int) ≤ p1.length))
    else
     some false) fun x35 =>
   some x35

def slices_Index_int (p0 : (List Int)) (p1 : Int) : Option Int :=
 bindS (
  loopM (fun x3 =>
   if x3 < (p0.length : Int) then
    getM p0 x3 fun e6 =>
    if p1 = e6 then
     inrM (
      inrM (
       some x3))
    else
     guardM (I64 (x3 + (1 : Int))) <|
     some (.inl (x3 + (1 : Int)))
   else
    inrM (
     some (.inl ()))) (0 : Int)) fun _ =>
 some (-1 : Int)

def table_Index (p0 : Table) (p1 : Int) : Option Int :=
 bindM (slices_Index_int p0.points p1) fun r1 =>
 some r1

def table_settingsRight (p0 : Table) (p1 : (List Setting)) : Option Bool :=
 bindS (
  loopM (fun x3 =>
   if x3 < (p1.length : Int) then
    getM p1 x3 fun e6 =>
    bindM (
     if (0 : Int) < x3 then
      guardM (I64 (x3 - (1 : Int))) <|
      getM p1 (x3 - (1 : Int)) fun e12 =>
      if e6.el ≤ e12.el then
       some true
      else
       bindM (table_Index p0 e6.el) fun r14 =>
       some (decide (r14 < (0 : Int)))
     else
      bindM (table_Index p0 e6.el) fun r10 =>
      some (decide (r10 < (0 : Int)))) fun x7 =>
    if x7 = true then
     inrM (
      inrM (
       some false))
    else
     if ((!(decide (e6.pos = (1 : Int)))) && (!(decide (e6.pos = (2 : Int))))) = true then
      inrM (
       inrM (
        some false))
     else
      guardM (I64 (x3 + (1 : Int))) <|
      some (.inl (x3 + (1 : Int)))
   else
    inrM (
     some (.inl ()))) (0 : Int)) fun _ =>
 some true

def conflict_Agree (p0 : (List Setting)) (p1 : (List Setting)) : Option Bool :=
 bindS (
  loopM (fun x3 =>
   if x3 < (p0.length : Int) then
    bindS (
     getM p0 x3 fun e7 =>
     loopM (fun x9 =>
      if x9 < (p1.length : Int) then
       getM p1 x9 fun e12 =>
       if ((decide (e7.el = e12.el)) && (!(decide (e7.pos = e12.pos)))) = true then
        inrM (
         inrM (
          inrM (
           inrM (
            some false))))
       else
        guardM (I64 (x9 + (1 : Int))) <|
        some (.inl (x9 + (1 : Int)))
      else
       inrM (
        some (.inl ()))) (0 : Int)) fun _ =>
    guardM (I64 (x3 + (1 : Int))) <|
    some (.inl (x3 + (1 : Int)))
   else
    inrM (
     some (.inl ()))) (0 : Int)) fun _ =>
 some true

def table_Check (p0 : Table) : Option Int :=
 bindM (
  if (48 : Int) < (p0.routes.length : Int) then
   some true
  else
   if (32 : Int) < (p0.points.length : Int) then
    some true
   else
    bindM (table_within p0.sections (25 : Int)) fun r5 =>
    if (!(r5)) = true then
     some true
    else
     bindM (table_within p0.signals (21 : Int)) fun r7 =>
     some (!(r7))) fun x1 =>
 if x1 = true then
  some (2 : Int)
 else
  bindM (table_pointsRight p0) fun r9 =>
  if (!(r9)) = true then
   some (1 : Int)
  else
   bindS (
    loopM (fun x13 =>
     if x13 < (p0.routes.length : Int) then
      getM p0.routes x13 fun e16 =>
      bindM (table_routeRight p0 e16) fun r17 =>
      if (!(r17)) = true then
       inrM (
        inrM (
         some (1 : Int)))
      else
       guardM (I64 (x13 + (1 : Int))) <|
       some (.inl (x13 + (1 : Int)))
     else
      inrM (
       some (.inl ()))) (0 : Int)) fun _ =>
   bindS (
    loopM (fun x25 =>
     if x25 < (p0.routes.length : Int) then
      getM p0.routes x25 fun e28 =>
      bindM (
       bindM (table_settingsRight p0 e28.points) fun r31 =>
       if (!(r31)) = true then
        some true
       else
        bindM (table_settingsRight p0 e28.overPoints) fun r33 =>
        if (!(r33)) = true then
         some true
        else
         bindM (table_settingsRight p0 e28.flank) fun r35 =>
         some (!(r35))) fun x29 =>
      if x29 = true then
       inrM (
        inrM (
         some (1 : Int)))
      else
       guardM (I64 (x25 + (1 : Int))) <|
       some (.inl (x25 + (1 : Int)))
     else
      inrM (
       some (.inl ()))) (0 : Int)) fun _ =>
   bindS (
    loopM (fun x43 =>
     if x43 < (p0.routes.length : Int) then
      getM p0.routes x43 fun e46 =>
      bindM (
       bindM (conflict_Agree e46.points e46.overPoints) fun r49 =>
       if (!(r49)) = true then
        some true
       else
        bindM (conflict_Agree e46.points e46.flank) fun r51 =>
        if (!(r51)) = true then
         some true
        else
         bindM (conflict_Agree e46.overPoints e46.flank) fun r53 =>
         some (!(r53))) fun x47 =>
      if x47 = true then
       inrM (
        inrM (
         some (10 : Int)))
      else
       guardM (I64 (x43 + (1 : Int))) <|
       some (.inl (x43 + (1 : Int)))
     else
      inrM (
       some (.inl ()))) (0 : Int)) fun _ =>
   bindS (
    loopM (fun (x64, b65) =>
     if x64 < (p0.routes.length : Int) then
      getM p0.routes x64 fun e68 =>
      guardM (b65.map (·.1)).Nodup <|
      if (((assocE b65 e68.name).getD false)) = true then
       inrM (
        inrM (
         some (8 : Int)))
      else
       guardM (b65.map (·.1)).Nodup <|
       guardM (I64 (x64 + (1 : Int))) <|
       some (.inl ((x64 + (1 : Int)), (putE b65 e68.name true)))
     else
      inrM (
       some (.inl b65))) ((0 : Int), ([] : List (ByteArray × Bool)))) fun m59 =>
   some (0 : Int)

def interlock_Start (p0 : Table) : Option Inter :=
 bindM (table_Check p0) fun r1 =>
 if r1 = (0 : Int) then
  guardM (0 ≤ (p0.routes.length : Int) ∧ (p0.routes.length : Int) ≤ 1000000000) <|
  bindM (
   loopM (fun (x9, b10) =>
    if x9 < (p0.points.length : Int) then
     guardM ((b10 ++ ([(1 : Int)] : List Int)).length ≤ 1000000000) <|
     guardM (I64 (x9 + (1 : Int))) <|
     some (.inl ((x9 + (1 : Int)), (b10 ++ ([(1 : Int)] : List Int))))
    else
     inrM (
      some b10)) ((0 : Int), ([] : List Int))) fun b4 =>
  some (⟨(List.replicate (p0.routes.length : Int).toNat (⟨(0 : Int), (0 : Int), (0 : Int)⟩ : RouteState)), b4⟩ : Inter)
 else
  some (⟨([] : List RouteState), ([] : List Int)⟩ : Inter)

def slices_Clone_int (p0 : (List Int)) : Option ((List Int)) :=
 nilM p0 (
  some ([] : List Int)) (
  guardM ((([] : List Int) ++ p0).length ≤ 1000000000) <|
  some (([] : List Int) ++ p0))

def idset_Make (p0 : (List Int)) : Option ((List Int)) :=
 bindM (slices_Clone_int p0) fun r1 =>
 guardM (r1.length ≤ 1000000000) <|
 guardM ((sortI r1).length ≤ 1000000000) <|
 some (Go.Lib.compact (sortI r1))

def locks_routeFits (p0 : RouteState) (p1 : Int) : Option Bool :=
 bindM (
  if p0.state = (0 : Int) then
   some (decide (p0.state = (0 : Int)))
  else
   if p0.state = (1 : Int) then
    some (decide (p0.state = (1 : Int)))
   else
    some (decide (p0.state = (2 : Int)))) fun x1 =>
 if x1 = true then
  some ((decide (p0.rel = (0 : Int))) && (decide (p0.timer = (0 : Int))))
 else
  if p0.state = (3 : Int) then
   if ((decide (p0.rel < (0 : Int))) || (decide (p1 ≤ p0.rel))) = true then
    some false
   else
    bindM (
     if p0.timer = (0 : Int) then
      some true
     else
      guardM (I64 (p1 - (1 : Int))) <|
      if p0.rel = (p1 - (1 : Int)) then
       if (0 : Int) < p0.timer then
        some (decide (p0.timer < (4 : Int)))
       else
        some false
      else
       some false) fun x10 =>
    some x10
  else
   if p0.state = (4 : Int) then
    some ((decide ((0 : Int) ≤ p0.rel)) && ((decide (p0.rel < p1)) && ((decide ((0 : Int) ≤ p0.timer)) && (decide (p0.timer < (12 : Int))))))
   else
    some false

def locks_fits (p0 : Table) (p1 : Inter) : Option Bool :=
 bindM (
  bindM (table_Check p0) fun r3 =>
  if r3 = (0 : Int) then
   if (p1.routes.length : Int) = (p0.routes.length : Int) then
    some (!(decide ((p1.lies.length : Int) = (p0.points.length : Int))))
   else
    some true
  else
   some true) fun x1 =>
 if x1 = true then
  some false
 else
  bindS (
   loopM (fun x9 =>
    if x9 < (p1.routes.length : Int) then
     getM p1.routes x9 fun e12 =>
     getM p0.routes x9 fun e13 =>
     bindM (locks_routeFits e12 (e13.sections.length : Int)) fun r14 =>
     if (!(r14)) = true then
      inrM (
       inrM (
        some false))
     else
      guardM (I64 (x9 + (1 : Int))) <|
      some (.inl (x9 + (1 : Int)))
    else
     inrM (
      some (.inl ()))) (0 : Int)) fun _ =>
  bindS (
   loopM (fun x22 =>
    if x22 < (p1.lies.length : Int) then
     getM p1.lies x22 fun e25 =>
     if ((!(decide (e25 = (1 : Int)))) && (!(decide (e25 = (2 : Int))))) = true then
      inrM (
       inrM (
        some false))
     else
      guardM (I64 (x22 + (1 : Int))) <|
      some (.inl (x22 + (1 : Int)))
    else
     inrM (
      some (.inl ()))) (0 : Int)) fun _ =>
  some true

def locks_path (p0 : Route) (p1 : RouteState) : Option ((List Int)) :=
 if p1.state = (0 : Int) then
  some ([] : List Int)
 else
  guardM (0 ≤ p1.rel ∧ p1.rel ≤ (p0.sections.length : Int) ∧ (p0.sections.length : Int) ≤ (p0.sections.length : Int)) <|
  bindM (slices_Clone_int (sub p0.sections p1.rel (p0.sections.length : Int))) fun r3 =>
  some r3

def locks_over (p0 : Route) (p1 : RouteState) : Option ((List Int)) :=
 if p1.state = (0 : Int) then
  some ([] : List Int)
 else
  bindM (slices_Clone_int p0.overSections) fun r2 =>
  some r2

def locks_locked (p0 : Route) (p1 : RouteState) : Option ((List A2_int)) :=
 bindM (
  bindM (locks_path p0 p1) fun r3 =>
  loopM (fun (x7, b8) =>
   if x7 < (r3.length : Int) then
    getM r3 x7 fun e11 =>
    guardM ((b8 ++ ([(⟨e11, (0 : Int)⟩ : A2_int)] : List A2_int)).length ≤ 1000000000) <|
    guardM (I64 (x7 + (1 : Int))) <|
    some (.inl ((x7 + (1 : Int)), (b8 ++ ([(⟨e11, (0 : Int)⟩ : A2_int)] : List A2_int))))
   else
    inrM (
     some b8)) ((0 : Int), ([] : List A2_int))) fun b1 =>
 bindM (
  bindM (locks_over p0 p1) fun r17 =>
  loopM (fun (x21, b22) =>
   if x21 < (r17.length : Int) then
    getM r17 x21 fun e25 =>
    guardM ((b22 ++ ([(⟨e25, (1 : Int)⟩ : A2_int)] : List A2_int)).length ≤ 1000000000) <|
    guardM (I64 (x21 + (1 : Int))) <|
    some (.inl ((x21 + (1 : Int)), (b22 ++ ([(⟨e25, (1 : Int)⟩ : A2_int)] : List A2_int))))
   else
    inrM (
     some b22)) ((0 : Int), b1)) fun b15 =>
 some b15

def conflict_Follows (p0 : Route) (p1 : Route) : Option Bool :=
 some ((decide ((0 : Int) ≤ p0.exit)) && (decide (p1.entry = p0.exit)))

def locks_has (p0 : (List A2_int)) (p1 : Int) (p2 : Int) : Option Bool :=
 bindS (
  loopM (fun x3 =>
   if x3 < (p0.length : Int) then
    getM p0 x3 fun e6 =>
    guardM (A2_int.ok e6 ∧ A2_int.ok (⟨p1, p2⟩ : A2_int)) <|
    if e6 = (⟨p1, p2⟩ : A2_int) then
     inrM (
      inrM (
       some true))
    else
     guardM (I64 (x3 + (1 : Int))) <|
     some (.inl (x3 + (1 : Int)))
   else
    inrM (
     some (.inl ()))) (0 : Int)) fun _ =>
 some false

def locks_clash (p0 : Route) (p1 : Route) (p2 : (List A2_int)) (p3 : (List A2_int)) : Option Bool :=
 bindM (conflict_Follows p0 p1) fun r1 =>
 bindM (conflict_Follows p1 p0) fun r2 =>
 bindS (
  loopM (fun x5 =>
   if x5 < (p2.length : Int) then
    getM p2 x5 fun e8 =>
    bindM (
     bindM (locks_has p3 e8.a0 (0 : Int)) fun r11 =>
     if r11 = true then
      if e8.a1 = (0 : Int) then
       some true
      else
       some (!(r1))
     else
      some false) fun x9 =>
    if x9 = true then
     inrM (
      inrM (
       some true))
    else
     bindM (
      bindM (locks_has p3 e8.a0 (1 : Int)) fun r19 =>
      if r19 = true then
       if (!(r2)) = true then
        if e8.a1 = (0 : Int) then
         some true
        else
         some (!(r1))
       else
        some false
      else
       some false) fun x17 =>
     if x17 = true then
      inrM (
       inrM (
        some true))
     else
      guardM (I64 (x5 + (1 : Int))) <|
      some (.inl (x5 + (1 : Int)))
   else
    inrM (
     some (.inl ()))) (0 : Int)) fun _ =>
 some false

def slices_Contains_int (p0 : (List Int)) (p1 : Int) : Option Bool :=
 bindM (slices_Index_int p0 p1) fun r1 =>
 some (decide ((0 : Int) ≤ r1))

def idset_Has (p0 : (List Int)) (p1 : Int) : Option Bool :=
 bindM (slices_Contains_int p0 p1) fun r1 =>
 some r1

def slices_Concat_Setting (p0 : List (List Setting)) : Option (List Setting) :=
 guardM (p0.length ≤ 1000 ∧ p0.flatten.length ≤ 1000000000) <|
 some p0.flatten

def cmp_isNaN_int (p0 : Int) : Option Bool :=
 some (!(decide (p0 = p0)))

def cmp_Compare_int (p0 : Int) (p1 : Int) : Option Int :=
 bindM (cmp_isNaN_int p0) fun r1 =>
 bindM (cmp_isNaN_int p1) fun r2 =>
 if r1 = true then
  if r2 = true then
   some (0 : Int)
  else
   some (-1 : Int)
 else
  if r2 = true then
   some (1 : Int)
  else
   if p0 < p1 then
    some (-1 : Int)
   else
    if p1 < p0 then
     some (1 : Int)
    else
     some (0 : Int)

def cmp_Or_int (p0 : (List Int)) : Option Int :=
 bindS (
  loopM (fun x3 =>
   if x3 < (p0.length : Int) then
    getM p0 x3 fun e6 =>
    if e6 = (0 : Int) then
     guardM (I64 (x3 + (1 : Int))) <|
     some (.inl (x3 + (1 : Int)))
    else
     inrM (
      inrM (
       some e6))
   else
    inrM (
     some (.inl ()))) (0 : Int)) fun _ =>
 some (0 : Int)

def table_Settings_c1 (p0 : Setting) (p1 : Setting) : Option Int :=
 bindM (cmp_Compare_int p0.el p1.el) fun r1 =>
 bindM (cmp_Compare_int p0.pos p1.pos) fun r2 =>
 bindM (cmp_Or_int ([r1, r2] : List Int)) fun r3 =>
 some r3

def table_Settings (p0 : Route) : Option ((List Setting)) :=
 bindM (slices_Concat_Setting ([p0.points, p0.overPoints, p0.flank] : List (List Setting))) fun r1 =>
 guardM (r1.length ≤ 1000000000) <|
 bindM (
  loopM (fun (x8, b9) =>
   if x8 < ((sortM table_Settings_c1 r1).length : Int) then
    getM (sortM table_Settings_c1 r1) x8 fun e12 =>
    bindM (
     if x8 = (0 : Int) then
      some true
     else
      guardM (I64 (x8 - (1 : Int))) <|
      getM (sortM table_Settings_c1 r1) (x8 - (1 : Int)) fun e17 =>
      guardM (Setting.ok e12 ∧ Setting.ok e17) <|
      some (!(decide (e12 = e17)))) fun x13 =>
    if x13 = true then
     guardM ((b9 ++ ([e12] : List Setting)).length ≤ 1000000000) <|
     guardM (I64 (x8 + (1 : Int))) <|
     some (.inl ((x8 + (1 : Int)), (b9 ++ ([e12] : List Setting))))
    else
     guardM (I64 (x8 + (1 : Int))) <|
     some (.inl ((x8 + (1 : Int)), b9))
   else
    inrM (
     some b9)) ((0 : Int), ([] : List Setting))) fun b3 =>
 some b3

def locks_bound (p0 : Table) (p1 : Route) (p2 : RouteState) : Option ((List Setting)) :=
 if p2.state = (0 : Int) then
  some ([] : List Setting)
 else
  bindM (
   loopM (fun (x7, b8) =>
    if x7 < (p1.points.length : Int) then
     getM p1.points x7 fun e11 =>
     guardM (0 ≤ (0 : Int) ∧ (0 : Int) ≤ p2.rel ∧ p2.rel ≤ (p1.sections.length : Int)) <|
     bindM (table_Index p0 e11.el) fun r13 =>
     getM p0.homes r13 fun e14 =>
     bindM (idset_Has (sub p1.sections (0 : Int) p2.rel) e14) fun r15 =>
     if (!(r15)) = true then
      guardM ((b8 ++ ([e11] : List Setting)).length ≤ 1000000000) <|
      guardM (I64 (x7 + (1 : Int))) <|
      some (.inl ((x7 + (1 : Int)), (b8 ++ ([e11] : List Setting))))
     else
      guardM (I64 (x7 + (1 : Int))) <|
      some (.inl ((x7 + (1 : Int)), b8))
    else
     inrM (
      some b8)) ((0 : Int), ([] : List Setting))) fun b2 =>
  bindM (table_Settings (⟨(⟨#[]⟩ : ByteArray), (0 : Int), (0 : Int), ([] : List Step), b2, ([] : List Int), (0 : Int), (0 : Int), ([] : List Step), p1.overPoints, ([] : List Int), p1.flank, ([] : List Int), ([] : List End)⟩ : Route)) fun r21 =>
  some r21

def locks_Sound (p0 : Table) (p1 : Inter) : Option Bool :=
 bindM (locks_fits p0 p1) fun r1 =>
 if (!(r1)) = true then
  some false
 else
  bindM (
   loopM (fun (x8, b9) =>
    if x8 < (p0.routes.length : Int) then
     getM p0.routes x8 fun e12 =>
     getM p1.routes x8 fun e13 =>
     bindM (locks_locked e12 e13) fun r14 =>
     guardM ((b9 ++ ([r14] : List (List A2_int))).length ≤ 1000000000) <|
     guardM (I64 (x8 + (1 : Int))) <|
     some (.inl ((x8 + (1 : Int)), (b9 ++ ([r14] : List (List A2_int)))))
    else
     inrM (
      some b9)) ((0 : Int), ([] : List (List A2_int)))) fun b3 =>
  bindS (
   loopM (fun x20 =>
    if x20 < (p0.routes.length : Int) then
     bindS (
      loopM (fun x25 =>
       if x25 < x20 then
        getM p0.routes x20 fun e28 =>
        getM p0.routes x25 fun e29 =>
        getM b3 x20 fun e30 =>
        getM b3 x25 fun e31 =>
        bindM (locks_clash e28 e29 e30 e31) fun r32 =>
        if r32 = true then
         inrM (
          inrM (
           inrM (
            inrM (
             some false))))
        else
         guardM (I64 (x25 + (1 : Int))) <|
         some (.inl (x25 + (1 : Int)))
       else
        inrM (
         some (.inl ()))) (0 : Int)) fun _ =>
     guardM (I64 (x20 + (1 : Int))) <|
     some (.inl (x20 + (1 : Int)))
    else
     inrM (
      some (.inl ()))) (0 : Int)) fun _ =>
  bindS (
   loopM (fun x44 =>
    if x44 < (p0.routes.length : Int) then
     bindS (
      getM p0.routes x44 fun e48 =>
      getM p1.routes x44 fun e49 =>
      bindM (locks_bound p0 e48 e49) fun r50 =>
      loopM (fun x52 =>
       if x52 < (r50.length : Int) then
        getM r50 x52 fun e55 =>
        bindM (table_Index p0 e55.el) fun r56 =>
        getM p1.lies r56 fun e57 =>
        if e57 = e55.pos then
         guardM (I64 (x52 + (1 : Int))) <|
         some (.inl (x52 + (1 : Int)))
        else
         inrM (
          inrM (
           inrM (
            inrM (
             some false))))
       else
        inrM (
         some (.inl ()))) (0 : Int)) fun _ =>
     guardM (I64 (x44 + (1 : Int))) <|
     some (.inl (x44 + (1 : Int)))
    else
     inrM (
      some (.inl ()))) (0 : Int)) fun _ =>
  some true

def slices_Clone_RouteState (p0 : (List RouteState)) : Option ((List RouteState)) :=
 nilM p0 (
  some ([] : List RouteState)) (
  guardM ((([] : List RouteState) ++ p0).length ≤ 1000000000) <|
  some (([] : List RouteState) ++ p0))

def interlock_clone (p0 : Inter) : Option Inter :=
 bindM (slices_Clone_RouteState p0.routes) fun r1 =>
 bindM (slices_Clone_int p0.lies) fun r2 =>
 some (⟨r1, r2⟩ : Inter)

def slices_IndexFunc_int (p0 : (List Int)) (p1 : Int → Option Bool) : Option Int :=
 bindS (
  loopM (fun x3 =>
   if x3 < (p0.length : Int) then
    getM p0 x3 fun e6 =>
    bindM (p1 e6) fun r7 =>
    if r7 = true then
     inrM (
      inrM (
       some x3))
    else
     guardM (I64 (x3 + (1 : Int))) <|
     some (.inl (x3 + (1 : Int)))
   else
    inrM (
     some (.inl ()))) (0 : Int)) fun _ =>
 some (-1 : Int)

def slices_ContainsFunc_int (p0 : (List Int)) (p1 : Int → Option Bool) : Option Bool :=
 bindM (slices_IndexFunc_int p0 p1) fun r1 =>
 some (decide ((0 : Int) ≤ r1))

def progress_fits_c1 (p0 : Int) : Option Bool :=
 some ((!(decide (p0 = (1 : Int)))) && (!(decide (p0 = (2 : Int)))))

def progress_fits (p0 : Table) (p1 : Inter) : Option Bool :=
 bindM (
  bindM (table_Check p0) fun r3 =>
  if r3 = (0 : Int) then
   if (p1.routes.length : Int) = (p0.routes.length : Int) then
    some (!(decide ((p1.lies.length : Int) = (p0.points.length : Int))))
   else
    some true
  else
   some true) fun x1 =>
 if x1 = true then
  some false
 else
  bindS (
   loopM (fun x9 =>
    if x9 < (p1.routes.length : Int) then
     getM p1.routes x9 fun e12 =>
     getM p0.routes x9 fun e13 =>
     if ((decide (e12.state < (0 : Int))) || (decide ((4 : Int) < e12.state))) = true then
      inrM (
       inrM (
        some false))
     else
      if ((!(((decide (e12.state = (3 : Int))) || (decide (e12.state = (4 : Int)))))) && ((!(decide (e12.rel = (0 : Int)))) || (!(decide (e12.timer = (0 : Int)))))) = true then
       inrM (
        inrM (
         some false))
      else
       if ((decide (e12.rel < (0 : Int))) || ((decide ((e13.sections.length : Int) ≤ e12.rel)) || (decide (e12.timer < (0 : Int))))) = true then
        inrM (
         inrM (
          some false))
       else
        bindM (
         if e12.state = (3 : Int) then
          if (0 : Int) < e12.timer then
           guardM (I64 ((e13.sections.length : Int) - (1 : Int))) <|
           if e12.rel = ((e13.sections.length : Int) - (1 : Int)) then
            some (decide ((4 : Int) ≤ e12.timer))
           else
            some true
          else
           some false
         else
          some false) fun x29 =>
        if x29 = true then
         inrM (
          inrM (
           some false))
        else
         if ((decide (e12.state = (4 : Int))) && (decide ((12 : Int) ≤ e12.timer))) = true then
          inrM (
           inrM (
            some false))
         else
          guardM (I64 (x9 + (1 : Int))) <|
          some (.inl (x9 + (1 : Int)))
    else
     inrM (
      some (.inl ()))) (0 : Int)) fun _ =>
  bindM (slices_ContainsFunc_int p1.lies progress_fits_c1) fun r44 =>
  some (!(r44))

def locks_Path (p0 : Table) (p1 : Inter) (p2 : Int) : Option ((List Int)) :=
 bindM (
  if p2 < (0 : Int) then
   some true
  else
   if (p0.routes.length : Int) ≤ p2 then
    some true
   else
    bindM (locks_fits p0 p1) fun r5 =>
    some (!(r5))) fun x1 =>
 if x1 = true then
  some ([] : List Int)
 else
  getM p0.routes p2 fun e7 =>
  getM p1.routes p2 fun e8 =>
  bindM (locks_path e7 e8) fun r9 =>
  some r9

def progress_Occupied (p0 : Inputs) (p1 : Int) : Option Bool :=
 bindM (
  if p1 < (0 : Int) then
   some true
  else
   if (p0.occupied.length : Int) ≤ p1 then
    some true
   else
    getM p0.occupied p1 fun e5 =>
    some e5) fun x1 =>
 some x1

def progress_Emptied (p0 : Table) (p1 : Inter) (p2 : Inputs) (p3 : Int) : Option Bool :=
 bindS (
  bindM (locks_Path p0 p1 p3) fun r2 =>
  loopM (fun x4 =>
   if x4 < (r2.length : Int) then
    getM r2 x4 fun e7 =>
    bindM (progress_Occupied p2 e7) fun r8 =>
    if r8 = true then
     inrM (
      inrM (
       some false))
    else
     guardM (I64 (x4 + (1 : Int))) <|
     some (.inl (x4 + (1 : Int)))
   else
    inrM (
     some (.inl ()))) (0 : Int)) fun _ =>
 some true

def progress_proved (p0 : Table) (p1 : Inputs) (p2 : Route) : Option Bool :=
 bindS (
  bindM (slices_Concat_int ([p2.sections, p2.overSections] : List (List Int))) fun r2 =>
  loopM (fun x4 =>
   if x4 < (r2.length : Int) then
    getM r2 x4 fun e7 =>
    bindM (progress_Occupied p1 e7) fun r8 =>
    if r8 = true then
     inrM (
      inrM (
       some false))
    else
     guardM (I64 (x4 + (1 : Int))) <|
     some (.inl (x4 + (1 : Int)))
   else
    inrM (
     some (.inl ()))) (0 : Int)) fun _ =>
 bindS (
  bindM (table_Settings p2) fun r15 =>
  loopM (fun x17 =>
   if x17 < (r15.length : Int) then
    getM r15 x17 fun e20 =>
    bindM (table_Index p0 e20.el) fun r21 =>
    bindM (
     if (p1.detected.length : Int) ≤ r21 then
      some true
     else
      getM p1.detected r21 fun e25 =>
      some (!(decide (e25 = e20.pos)))) fun x22 =>
    if x22 = true then
     inrM (
      inrM (
       some false))
    else
     guardM (I64 (x17 + (1 : Int))) <|
     some (.inl (x17 + (1 : Int)))
   else
    inrM (
     some (.inl ()))) (0 : Int)) fun _ =>
 some true

def progress_view_clear (p0 : View) : Option RouteState :=
 getM p0.route.sections (0 : Int) fun e1 =>
 bindM (progress_Occupied p0.inV e1) fun r2 =>
 if r2 = true then
  some (⟨(3 : Int), (0 : Int), (0 : Int)⟩ : RouteState)
 else
  bindM (
   if (p0.cancelled) = true then
    if (!(p0.claimed)) = true then
     bindM (progress_Occupied p0.inV p0.route.approach) fun r8 =>
     some (!(r8))
    else
     some false
   else
    some false) fun x4 =>
  if x4 = true then
   some (⟨(0 : Int), (0 : Int), (0 : Int)⟩ : RouteState)
  else
   bindM (
    if (p0.cancelled) = true then
     some true
    else
     bindM (progress_proved p0.t p0.inV p0.route) fun r13 =>
     some (!(r13))) fun x10 =>
   if x10 = true then
    some (⟨(4 : Int), (0 : Int), (0 : Int)⟩ : RouteState)
   else
    some (⟨(2 : Int), (0 : Int), (0 : Int)⟩ : RouteState)

def progress_view_used (p0 : View) : Option RouteState :=
 guardM (I64 ((p0.route.sections.length : Int) - (1 : Int))) <|
 if (p0.claimed) = true then
  some (⟨(3 : Int), p0.old.rel, (0 : Int)⟩ : RouteState)
 else
  if ((p0.cancelled) && (p0.emptied)) = true then
   some (⟨(4 : Int), p0.old.rel, (0 : Int)⟩ : RouteState)
  else
   getM p0.route.sections p0.old.rel fun e5 =>
   bindM (progress_Occupied p0.inV e5) fun r6 =>
   if (!(r6)) = true then
    if p0.old.rel = ((p0.route.sections.length : Int) - (1 : Int)) then
     some (⟨(0 : Int), (0 : Int), (0 : Int)⟩ : RouteState)
    else
     bindM (
      if (p0.passed) = true then
       some true
      else
       guardM (I64 (p0.old.rel + (1 : Int))) <|
       getM p0.route.sections (p0.old.rel + (1 : Int)) fun e13 =>
       bindM (progress_Occupied p0.inV e13) fun r14 =>
       some r14) fun x9 =>
     if x9 = true then
      guardM (I64 (p0.old.rel + (1 : Int))) <|
      some (⟨(3 : Int), (p0.old.rel + (1 : Int)), (0 : Int)⟩ : RouteState)
     else
      some (⟨(3 : Int), p0.old.rel, (0 : Int)⟩ : RouteState)
   else
    if p0.old.rel < ((p0.route.sections.length : Int) - (1 : Int)) then
     some (⟨(3 : Int), p0.old.rel, (0 : Int)⟩ : RouteState)
    else
     guardM (I64 (p0.old.timer + (1 : Int))) <|
     if (p0.old.timer + (1 : Int)) = (4 : Int) then
      some (⟨(0 : Int), (0 : Int), (0 : Int)⟩ : RouteState)
     else
      some (⟨(3 : Int), p0.old.rel, (p0.old.timer + (1 : Int))⟩ : RouteState)

def progress_view_held (p0 : View) : Option RouteState :=
 getM p0.route.sections p0.old.rel fun e1 =>
 bindM (progress_Occupied p0.inV e1) fun r2 =>
 if r2 = true then
  some (⟨(3 : Int), p0.old.rel, (0 : Int)⟩ : RouteState)
 else
  if ((p0.claimed) || (!(p0.emptied))) = true then
   some (⟨(4 : Int), p0.old.rel, (0 : Int)⟩ : RouteState)
  else
   guardM (I64 (p0.old.timer + (1 : Int))) <|
   if (p0.old.timer + (1 : Int)) = (12 : Int) then
    some (⟨(0 : Int), (0 : Int), (0 : Int)⟩ : RouteState)
   else
    some (⟨(4 : Int), p0.old.rel, (p0.old.timer + (1 : Int))⟩ : RouteState)

def progress_Next (p0 : Table) (p1 : Inter) (p2 : Inputs) (p3 : Int) : Option RouteState :=
 bindM (
  if p3 < (0 : Int) then
   some true
  else
   if (p0.routes.length : Int) ≤ p3 then
    some true
   else
    bindM (progress_fits p0 p1) fun r5 =>
    some (!(r5))) fun x1 =>
 if x1 = true then
  some (⟨(0 : Int), (0 : Int), (0 : Int)⟩ : RouteState)
 else
  bindM (
   getM p0.routes p3 fun e29 =>
   getM p1.routes p3 fun e30 =>
   if (p2.claimed.length : Int) ≤ p3 then
    if p3 < (p2.passed.length : Int) then
     getM p2.passed p3 fun e42 =>
     bindM (slices_Contains_int p2.cancels p3) fun r43 =>
     bindM (progress_Emptied p0 p1 p2 p3) fun r44 =>
     some (e29.name, e29.entry, e29.exit, e29.path, e29.points, e29.sections, e29.approach, e29.length, e29.over, e29.overPoints, e29.overSections, e29.flank, e29.guards, e29.gaps, e30.state, e30.rel, e30.timer, true, e42, r43, r44)
    else
     bindM (slices_Contains_int p2.cancels p3) fun r40 =>
     bindM (progress_Emptied p0 p1 p2 p3) fun r41 =>
     some (e29.name, e29.entry, e29.exit, e29.path, e29.points, e29.sections, e29.approach, e29.length, e29.over, e29.overPoints, e29.overSections, e29.flank, e29.guards, e29.gaps, e30.state, e30.rel, e30.timer, true, false, r40, r41)
   else
    getM p2.claimed p3 fun e32 =>
    if p3 < (p2.passed.length : Int) then
     getM p2.passed p3 fun e36 =>
     bindM (slices_Contains_int p2.cancels p3) fun r37 =>
     bindM (progress_Emptied p0 p1 p2 p3) fun r38 =>
     some (e29.name, e29.entry, e29.exit, e29.path, e29.points, e29.sections, e29.approach, e29.length, e29.over, e29.overPoints, e29.overSections, e29.flank, e29.guards, e29.gaps, e30.state, e30.rel, e30.timer, e32, e36, r37, r38)
    else
     bindM (slices_Contains_int p2.cancels p3) fun r34 =>
     bindM (progress_Emptied p0 p1 p2 p3) fun r35 =>
     some (e29.name, e29.entry, e29.exit, e29.path, e29.points, e29.sections, e29.approach, e29.length, e29.over, e29.overPoints, e29.overSections, e29.flank, e29.guards, e29.gaps, e30.state, e30.rel, e30.timer, e32, false, r34, r35)) fun (c7, c8, c9, c10, c11, c12, c13, c14, c15, c16, c17, c18, c19, c20, c21, c22, c23, c24, c25, c26, c27) =>
  bindS (
   if c21 = (1 : Int) then
    if c26 = true then
     inrM (
      some (⟨(0 : Int), (0 : Int), (0 : Int)⟩ : RouteState))
    else
     bindM (progress_proved p0 p2 (⟨c7, c8, c9, c10, c11, c12, c13, c14, c15, c16, c17, c18, c19, c20⟩ : Route)) fun r49 =>
     if (!(r49)) = true then
      inrM (
       some (⟨c21, c22, c23⟩ : RouteState))
     else
      some (.inl ())
   else
    if c21 = (2 : Int) then
     some (.inl ())
    else
     if c21 = (3 : Int) then
      inrM (
       bindM (progress_view_used (⟨p0, p2, (⟨c7, c8, c9, c10, c11, c12, c13, c14, c15, c16, c17, c18, c19, c20⟩ : Route), (⟨c21, c22, c23⟩ : RouteState), c24, c25, c26, c27⟩ : View)) fun r55 =>
       some r55)
     else
      if c21 = (4 : Int) then
       inrM (
        bindM (progress_view_held (⟨p0, p2, (⟨c7, c8, c9, c10, c11, c12, c13, c14, c15, c16, c17, c18, c19, c20⟩ : Route), (⟨c21, c22, c23⟩ : RouteState), c24, c25, c26, c27⟩ : View)) fun r58 =>
        some r58)
      else
       inrM (
        some (⟨(0 : Int), (0 : Int), (0 : Int)⟩ : RouteState))) fun _ =>
  bindM (progress_view_clear (⟨p0, p2, (⟨c7, c8, c9, c10, c11, c12, c13, c14, c15, c16, c17, c18, c19, c20⟩ : Route), (⟨c21, c22, c23⟩ : RouteState), c24, c25, c26, c27⟩ : View)) fun r60 =>
  some r60

def locks_restrictive (p0 : (List Bool)) (p1 : Int) : Option Bool :=
 bindM (
  if p1 < (0 : Int) then
   some true
  else
   if (p0.length : Int) ≤ p1 then
    some true
   else
    getM p0 p1 fun e5 =>
    some e5) fun x1 =>
 some x1

def locks_Free (p0 : Table) (p1 : Inter) (p2 : Inputs) (p3 : Int) : Option Int :=
 bindM (
  bindM (locks_Sound p0 p1) fun r3 =>
  if (!(r3)) = true then
   some true
  else
   if p3 < (0 : Int) then
    some true
   else
    some (decide ((p0.routes.length : Int) ≤ p3))) fun x1 =>
 if x1 = true then
  some (1 : Int)
 else
  getM p1.routes p3 fun e7 =>
  if e7.state = (0 : Int) then
   getM p0.routes p3 fun e9 =>
   bindM (locks_locked e9 (⟨(1 : Int), (0 : Int), (0 : Int)⟩ : RouteState)) fun r10 =>
   bindS (
    loopM (fun x13 =>
     if x13 < (r10.length : Int) then
      getM r10 x13 fun e16 =>
      bindM (locks_restrictive p2.closed e16.a0) fun r17 =>
      if r17 = true then
       inrM (
        inrM (
         some (13 : Int)))
      else
       guardM (I64 (x13 + (1 : Int))) <|
       some (.inl (x13 + (1 : Int)))
     else
      inrM (
       some (.inl ()))) (0 : Int)) fun _ =>
   bindS (
    loopM (fun x25 =>
     if x25 < (p0.routes.length : Int) then
      getM p0.routes x25 fun e28 =>
      bindM (
       if x25 = p3 then
        some false
       else
        getM p1.routes x25 fun e32 =>
        bindM (locks_locked e28 e32) fun r33 =>
        bindM (locks_clash e9 e28 r10 r33) fun r34 =>
        some r34) fun x29 =>
      if x29 = true then
       inrM (
        inrM (
         some (12 : Int)))
      else
       guardM (I64 (x25 + (1 : Int))) <|
       some (.inl (x25 + (1 : Int)))
     else
      inrM (
       some (.inl ()))) (0 : Int)) fun _ =>
   bindM (table_Settings e9) fun r40 =>
   bindS (
    loopM (fun x43 =>
     if x43 < (p0.routes.length : Int) then
      getM p0.routes x43 fun e46 =>
      bindM (
       if x43 = p3 then
        some false
       else
        getM p1.routes x43 fun e50 =>
        bindM (locks_bound p0 e46 e50) fun r51 =>
        bindM (conflict_Agree r40 r51) fun r52 =>
        some (!(r52))) fun x47 =>
      if x47 = true then
       inrM (
        inrM (
         some (10 : Int)))
      else
       guardM (I64 (x43 + (1 : Int))) <|
       some (.inl (x43 + (1 : Int)))
     else
      inrM (
       some (.inl ()))) (0 : Int)) fun _ =>
   bindS (
    loopM (fun x60 =>
     if x60 < (r40.length : Int) then
      getM r40 x60 fun e63 =>
      bindM (table_Index p0 e63.el) fun r64 =>
      bindM (
       getM p1.lies r64 fun e67 =>
       if e67 = e63.pos then
        some false
       else
        getM p0.homes r64 fun e69 =>
        bindM (locks_restrictive p2.occupied e69) fun r70 =>
        some r70) fun x65 =>
      if x65 = true then
       inrM (
        inrM (
         some (14 : Int)))
      else
       guardM (I64 (x60 + (1 : Int))) <|
       some (.inl (x60 + (1 : Int)))
     else
      inrM (
       some (.inl ()))) (0 : Int)) fun _ =>
   some (0 : Int)
  else
   some (11 : Int)

def interlock_signals (p0 : Table) (p1 : Inter) : Option ((List Bool)) :=
 guardM (0 ≤ p0.signals ∧ p0.signals ≤ 1000000000) <|
 bindM (
  loopM (fun (x7, b8) =>
   if x7 < (p0.routes.length : Int) then
    getM p0.routes x7 fun e11 =>
    getM p1.routes x7 fun e12 =>
    if e12.state = (2 : Int) then
     getM b8 e11.entry fun e14 =>
     guardM (I64 (x7 + (1 : Int))) <|
     some (.inl ((x7 + (1 : Int)), (b8.set e11.entry.toNat true)))
    else
     guardM (I64 (x7 + (1 : Int))) <|
     some (.inl ((x7 + (1 : Int)), b8))
   else
    inrM (
     some b8)) ((0 : Int), (List.replicate p0.signals.toNat false))) fun b2 =>
 some b2

def interlock_cycle_call (p0 : Cycle) (p1 : Int) : Option Cycle :=
 bindM (locks_Free p0.t p0.inter p0.inV p1) fun r1 =>
 if r1 = (0 : Int) then
  getM p0.inter.routes p1 fun e4 =>
  getM p0.t.routes p1 fun e5 =>
  bindM (table_Settings e5) fun r6 =>
  loopM (fun (x10, b11) =>
   if x10 < (r6.length : Int) then
    getM r6 x10 fun e14 =>
    bindM (table_Index p0.t e14.el) fun r15 =>
    getM b11 r15 fun e16 =>
    guardM (I64 (x10 + (1 : Int))) <|
    some (.inl ((x10 + (1 : Int)), (b11.set r15.toNat e14.pos)))
   else
    inrM (
     some (⟨(⟨(p0.inter.routes.set p1.toNat (⟨(1 : Int), (0 : Int), (0 : Int)⟩ : RouteState)), b11⟩ : Inter), p0.t, p0.inV, p0.refused⟩ : Cycle))) ((0 : Int), p0.inter.lies)
 else
  guardM ((p0.refused ++ ([p1] : List Int)).length ≤ 1000000000) <|
  some (⟨p0.inter, p0.t, p0.inV, (p0.refused ++ ([p1] : List Int))⟩ : Cycle)

def interlock_Cycle (p0 : Table) (p1 : Inter) (p2 : Inputs) : Option (Inter × Outputs) :=
 bindM (idset_Make p2.calls) fun r1 =>
 bindM (locks_Sound p0 p1) fun r2 =>
 if (!(r2)) = true then
  bindM (slices_Clone_int p1.lies) fun r4 =>
  bindM (
   bindM (table_Check p0) fun r7 =>
   if r7 = (0 : Int) then
    guardM (0 ≤ p0.signals ∧ p0.signals ≤ 1000000000) <|
    some (List.replicate p0.signals.toNat false)
   else
    some ([] : List Bool)) fun c5 =>
  bindM (interlock_clone p1) fun r10 =>
  some (r10, (⟨c5, r4, r1⟩ : Outputs))
 else
  bindM (interlock_clone p1) fun r11 =>
  bindM (
   loopM (fun (x17, b18) =>
    if x17 < (r11.routes.length : Int) then
     bindM (progress_Next p0 p1 p2 x17) fun r21 =>
     getM b18 x17 fun e22 =>
     guardM (I64 (x17 + (1 : Int))) <|
     some (.inl ((x17 + (1 : Int)), (b18.set x17.toNat r21)))
    else
     inrM (
      some b18)) ((0 : Int), r11.routes)) fun b12 =>
  bindM (
   loopM (fun (x34, b35, b36, b37) =>
    if x34 < (r1.length : Int) then
     getM r1 x34 fun e40 =>
     bindM (interlock_cycle_call (⟨(⟨b36, b37⟩ : Inter), p0, p2, b35⟩ : Cycle) e40) fun r41 =>
     guardM (I64 (x34 + (1 : Int))) <|
     some (.inl ((x34 + (1 : Int)), r41.refused, r41.inter.routes, r41.inter.lies))
    else
     inrM (
      some (b36, b37, b35))) ((0 : Int), ([] : List Int), b12, r11.lies)) fun (b25, b26, b27) =>
  bindM (interlock_signals p0 (⟨b25, b26⟩ : Inter)) fun r44 =>
  bindM (slices_Clone_int b26) fun r45 =>
  some ((⟨b25, b26⟩ : Inter), (⟨r44, r45, b27⟩ : Outputs))

def slices_IndexFunc_RouteState (p0 : (List RouteState)) (p1 : RouteState → Option Bool) : Option Int :=
 bindS (
  loopM (fun x3 =>
   if x3 < (p0.length : Int) then
    getM p0 x3 fun e6 =>
    bindM (p1 e6) fun r7 =>
    if r7 = true then
     inrM (
      inrM (
       some x3))
    else
     guardM (I64 (x3 + (1 : Int))) <|
     some (.inl (x3 + (1 : Int)))
   else
    inrM (
     some (.inl ()))) (0 : Int)) fun _ =>
 some (-1 : Int)

def slices_ContainsFunc_RouteState (p0 : (List RouteState)) (p1 : RouteState → Option Bool) : Option Bool :=
 bindM (slices_IndexFunc_RouteState p0 p1) fun r1 =>
 some (decide ((0 : Int) ≤ r1))

def interlock_Idle_c1 (p0 : RouteState) : Option Bool :=
 some (!(decide (p0.state = (0 : Int))))

def interlock_Idle (p0 : Inter) : Option Bool :=
 bindM (slices_ContainsFunc_RouteState p0.routes interlock_Idle_c1) fun r1 =>
 some (!(r1))

def law23_alive  : Option Bool :=
 bindM (law23_Table) fun r1 =>
 bindM (law23_free []) fun r2 =>
 bindM (interlock_Start r1) fun r3 =>
 bindM (interlock_Cycle r1 r3 (⟨r2.occupied, r2.detected, r2.closed, r2.claimed, r2.passed, ([(0 : Int), (5 : Int), (0 : Int)] : List Int), r2.cancels⟩ : Inputs)) fun (r5, r6) =>
 bindM (law23_free ([(0 : Int)] : List Int)) fun r7 =>
 bindM (interlock_Cycle r1 r5 r7) fun (r9, r10) =>
 bindM (law23_free ([(1 : Int)] : List Int)) fun r11 =>
 bindM (interlock_Cycle r1 r9 r11) fun (r13, r14) =>
 if ((!(decide ((r5.routes.length : Int) = (2 : Int)))) || ((!(decide ((r9.routes.length : Int) = (2 : Int)))) || ((!(decide ((r13.routes.length : Int) = (2 : Int)))) || ((!(decide ((r10.clear.length : Int) = (2 : Int)))) || ((!(decide ((r14.clear.length : Int) = (2 : Int)))) || (!(decide ((r6.refused.length : Int) = (1 : Int))))))))) = true then
  some false
 else
  bindM (
   getM r5.routes (0 : Int) fun e23 =>
   if e23.state = (1 : Int) then
    getM r6.refused (0 : Int) fun e25 =>
    if e25 = (5 : Int) then
     getM r9.routes (0 : Int) fun e27 =>
     if e27.state = (2 : Int) then
      getM r10.clear (0 : Int) fun e29 =>
      if e29 = true then
       getM r10.clear (1 : Int) fun e31 =>
       if (!(e31)) = true then
        getM r13.routes (0 : Int) fun e33 =>
        if e33.state = (3 : Int) then
         getM r14.clear (0 : Int) fun e35 =>
         if (!(e35)) = true then
          bindM (interlock_Idle r13) fun r37 =>
          if (!(r37)) = true then
           bindM (interlock_Start r1) fun r39 =>
           bindM (interlock_Idle r39) fun r40 =>
           some r40
          else
           some false
         else
          some false
        else
         some false
       else
        some false
      else
       some false
     else
      some false
    else
     some false
   else
    some false) fun x21 =>
  some x21

def ref16_sections (p0 : Table) (p1 : (List Int)) : Option Bool :=
 bindS (
  loopM (fun x3 =>
   if x3 < (p1.length : Int) then
    bindS (
     getM p1 x3 fun e7 =>
     if ((decide (e7 < (0 : Int))) || (decide (p0.sections ≤ e7))) = true then
      inrM (
       inrM (
        inrM (
         some false)))
     else
      loopM (fun x14 =>
       if x14 < x3 then
        getM p1 x14 fun e17 =>
        if e17 = e7 then
         inrM (
          inrM (
           inrM (
            inrM (
             some false))))
        else
         guardM (I64 (x14 + (1 : Int))) <|
         some (.inl (x14 + (1 : Int)))
       else
        inrM (
         some (.inl ()))) (0 : Int)) fun _ =>
    guardM (I64 (x3 + (1 : Int))) <|
    some (.inl (x3 + (1 : Int)))
   else
    inrM (
     some (.inl ()))) (0 : Int)) fun _ =>
 some true

def ref16_right (p0 : Table) (p1 : Route) : Option Bool :=
 if ((decide (p1.entry < (0 : Int))) || ((decide (p0.signals ≤ p1.entry)) || ((decide (p1.exit < (-1 : Int))) || ((decide (p0.signals ≤ p1.exit)) || ((decide ((p1.path.length : Int) < (1 : Int))) || ((decide ((12 : Int) < (p1.path.length : Int))) || (decide (p1.length < (1 : Int))))))))) = true then
  some false
 else
  guardM ((([] : List Int) ++ p1.sections).length ≤ 1000000000) <|
  guardM (((([] : List Int) ++ p1.sections) ++ p1.overSections).length ≤ 1000000000) <|
  bindM (
   if (0 : Int) < (p1.sections.length : Int) then
    bindM (ref16_sections p0 ((([] : List Int) ++ p1.sections) ++ p1.overSections)) fun r13 =>
    if r13 = true then
     if (0 : Int) ≤ p1.approach then
      some (decide (p1.approach < p0.sections))
     else
      some false
    else
     some false
   else
    some false) fun x10 =>
  some x10

def ref16_Index (p0 : Table) (p1 : Int) : Option Int :=
 bindS (
  loopM (fun x3 =>
   if x3 < (p0.points.length : Int) then
    getM p0.points x3 fun e6 =>
    if e6 = p1 then
     inrM (
      inrM (
       some x3))
    else
     guardM (I64 (x3 + (1 : Int))) <|
     some (.inl (x3 + (1 : Int)))
   else
    inrM (
     some (.inl ()))) (0 : Int)) fun _ =>
 some (-1 : Int)

def ref16_settings (p0 : Table) (p1 : (List Setting)) : Option Bool :=
 bindS (
  loopM (fun x3 =>
   if x3 < (p1.length : Int) then
    getM p1 x3 fun e6 =>
    bindM (
     bindM (ref16_Index p0 e6.el) fun r9 =>
     if r9 < (0 : Int) then
      some true
     else
      if e6.pos < (1 : Int) then
       some true
      else
       if (2 : Int) < e6.pos then
        some true
       else
        if (0 : Int) < x3 then
         guardM (I64 (x3 - (1 : Int))) <|
         getM p1 (x3 - (1 : Int)) fun e15 =>
         some (decide (e6.el ≤ e15.el))
        else
         some false) fun x7 =>
    if x7 = true then
     inrM (
      inrM (
       some false))
    else
     guardM (I64 (x3 + (1 : Int))) <|
     some (.inl (x3 + (1 : Int)))
   else
    inrM (
     some (.inl ()))) (0 : Int)) fun _ =>
 some true

def ref16_agree (p0 : (List Setting)) (p1 : (List Setting)) : Option Bool :=
 bindS (
  loopM (fun x3 =>
   if x3 < (p0.length : Int) then
    bindS (
     getM p0 x3 fun e7 =>
     loopM (fun x9 =>
      if x9 < (p1.length : Int) then
       getM p1 x9 fun e12 =>
       if ((decide (e7.el = e12.el)) && (!(decide (e7.pos = e12.pos)))) = true then
        inrM (
         inrM (
          inrM (
           inrM (
            some false))))
       else
        guardM (I64 (x9 + (1 : Int))) <|
        some (.inl (x9 + (1 : Int)))
      else
       inrM (
        some (.inl ()))) (0 : Int)) fun _ =>
    guardM (I64 (x3 + (1 : Int))) <|
    some (.inl (x3 + (1 : Int)))
   else
    inrM (
     some (.inl ()))) (0 : Int)) fun _ =>
 some true

def ref16_Find (p0 : Table) (p1 : ByteArray) : Option Int :=
 bindS (
  loopM (fun x3 =>
   if x3 < (p0.routes.length : Int) then
    getM p0.routes x3 fun e6 =>
    if e6.name = p1 then
     inrM (
      inrM (
       some x3))
    else
     guardM (I64 (x3 + (1 : Int))) <|
     some (.inl (x3 + (1 : Int)))
   else
    inrM (
     some (.inl ()))) (0 : Int)) fun _ =>
 some (-1 : Int)

def ref16_Check (p0 : Table) : Option Int :=
 if ((decide ((48 : Int) < (p0.routes.length : Int))) || ((decide ((32 : Int) < (p0.points.length : Int))) || ((decide (p0.sections < (0 : Int))) || ((decide ((24 : Int) < p0.sections)) || ((decide (p0.signals < (0 : Int))) || (decide ((20 : Int) < p0.signals))))))) = true then
  some (2 : Int)
 else
  if (p0.homes.length : Int) = (p0.points.length : Int) then
   bindS (
    loopM (fun x10 =>
     if x10 < (p0.points.length : Int) then
      getM p0.points x10 fun e13 =>
      bindM (
       if e13 < (0 : Int) then
        some true
       else
        if (0 : Int) < x10 then
         guardM (I64 (x10 - (1 : Int))) <|
         getM p0.points (x10 - (1 : Int)) fun e22 =>
         if e13 ≤ e22 then
          some true
         else
          getM p0.homes x10 fun e24 =>
          if e24 < (0 : Int) then
           some true
          else
           getM p0.homes x10 fun e26 =>
           some (decide (p0.sections ≤ e26))
        else
         getM p0.homes x10 fun e18 =>
         if e18 < (0 : Int) then
          some true
         else
          getM p0.homes x10 fun e20 =>
          some (decide (p0.sections ≤ e20))) fun x14 =>
      if x14 = true then
       inrM (
        inrM (
         some (1 : Int)))
      else
       guardM (I64 (x10 + (1 : Int))) <|
       some (.inl (x10 + (1 : Int)))
     else
      inrM (
       some (.inl ()))) (0 : Int)) fun _ =>
   bindS (
    loopM (fun x34 =>
     if x34 < (p0.routes.length : Int) then
      getM p0.routes x34 fun e37 =>
      bindM (
       bindM (ref16_right p0 e37) fun r40 =>
       if (!(r40)) = true then
        some true
       else
        bindM (ref16_settings p0 e37.points) fun r42 =>
        if (!(r42)) = true then
         some true
        else
         bindM (ref16_settings p0 e37.overPoints) fun r44 =>
         if (!(r44)) = true then
          some true
         else
          bindM (ref16_settings p0 e37.flank) fun r46 =>
          some (!(r46))) fun x38 =>
      if x38 = true then
       inrM (
        inrM (
         some (1 : Int)))
      else
       guardM (I64 (x34 + (1 : Int))) <|
       some (.inl (x34 + (1 : Int)))
     else
      inrM (
       some (.inl ()))) (0 : Int)) fun _ =>
   bindS (
    loopM (fun x54 =>
     if x54 < (p0.routes.length : Int) then
      getM p0.routes x54 fun e57 =>
      bindM (
       bindM (ref16_agree e57.points e57.overPoints) fun r60 =>
       if (!(r60)) = true then
        some true
       else
        bindM (ref16_agree e57.points e57.flank) fun r62 =>
        if (!(r62)) = true then
         some true
        else
         bindM (ref16_agree e57.overPoints e57.flank) fun r64 =>
         some (!(r64))) fun x58 =>
      if x58 = true then
       inrM (
        inrM (
         some (10 : Int)))
      else
       guardM (I64 (x54 + (1 : Int))) <|
       some (.inl (x54 + (1 : Int)))
     else
      inrM (
       some (.inl ()))) (0 : Int)) fun _ =>
   bindS (
    loopM (fun x72 =>
     if x72 < (p0.routes.length : Int) then
      getM p0.routes x72 fun e75 =>
      bindM (ref16_Find p0 e75.name) fun r76 =>
      if r76 = x72 then
       guardM (I64 (x72 + (1 : Int))) <|
       some (.inl (x72 + (1 : Int)))
      else
       inrM (
        inrM (
         some (8 : Int)))
     else
      inrM (
       some (.inl ()))) (0 : Int)) fun _ =>
   some (0 : Int)
  else
   some (1 : Int)

def ref21_fitsRoute (p0 : RouteState) (p1 : Int) : Option Bool :=
 bindM (
  if p0.state = (0 : Int) then
   some (decide (p0.state = (0 : Int)))
  else
   if p0.state = (1 : Int) then
    some (decide (p0.state = (1 : Int)))
   else
    some (decide (p0.state = (2 : Int)))) fun x1 =>
 if x1 = true then
  some ((decide (p0.rel = (0 : Int))) && (decide (p0.timer = (0 : Int))))
 else
  if p0.state = (3 : Int) then
   bindM (
    if (0 : Int) ≤ p0.rel then
     if p0.rel < p1 then
      if (0 : Int) ≤ p0.timer then
       if p0.timer < (4 : Int) then
        if p0.timer = (0 : Int) then
         some true
        else
         guardM (I64 (p1 - (1 : Int))) <|
         some (decide (p0.rel = (p1 - (1 : Int))))
       else
        some false
      else
       some false
     else
      some false
    else
     some false) fun x8 =>
   some x8
  else
   if p0.state = (4 : Int) then
    some ((decide ((0 : Int) ≤ p0.rel)) && ((decide (p0.rel < p1)) && ((decide ((0 : Int) ≤ p0.timer)) && (decide (p0.timer < (12 : Int))))))
   else
    some false

def ref21_Fits (p0 : Table) (p1 : Inter) : Option Bool :=
 bindM (
  bindM (ref16_Check p0) fun r3 =>
  if r3 = (0 : Int) then
   if (p1.routes.length : Int) = (p0.routes.length : Int) then
    some (!(decide ((p1.lies.length : Int) = (p0.points.length : Int))))
   else
    some true
  else
   some true) fun x1 =>
 if x1 = true then
  some false
 else
  bindS (
   loopM (fun x9 =>
    if x9 < (p1.routes.length : Int) then
     getM p1.routes x9 fun e12 =>
     getM p0.routes x9 fun e13 =>
     bindM (ref21_fitsRoute e12 (e13.sections.length : Int)) fun r14 =>
     if (!(r14)) = true then
      inrM (
       inrM (
        some false))
     else
      guardM (I64 (x9 + (1 : Int))) <|
      some (.inl (x9 + (1 : Int)))
    else
     inrM (
      some (.inl ()))) (0 : Int)) fun _ =>
  bindS (
   loopM (fun x22 =>
    if x22 < (p1.lies.length : Int) then
     bindM (
      getM p1.lies x22 fun e27 =>
      if e27 = (1 : Int) then
       some false
      else
       getM p1.lies x22 fun e29 =>
       some (!(decide (e29 = (2 : Int))))) fun x25 =>
     if x25 = true then
      inrM (
       inrM (
        some false))
     else
      guardM (I64 (x22 + (1 : Int))) <|
      some (.inl (x22 + (1 : Int)))
    else
     inrM (
      some (.inl ()))) (0 : Int)) fun _ =>
  some true

def ref16_less (p0 : Setting) (p1 : Setting) : Option Bool :=
 some ((decide (p0.el < p1.el)) || ((decide (p0.el = p1.el)) && (decide (p0.pos < p1.pos))))

def ref16_Settings (p0 : Route) : Option ((List Setting)) :=
 guardM ((([] : List Setting) ++ p0.points).length ≤ 1000000000) <|
 guardM (((([] : List Setting) ++ p0.points) ++ p0.overPoints).length ≤ 1000000000) <|
 guardM ((((([] : List Setting) ++ p0.points) ++ p0.overPoints) ++ p0.flank).length ≤ 1000000000) <|
 loopM (fun b5 =>
  bindM (
   loopM (fun (found11, x12) =>
    if x12 < ((((([] : List Setting) ++ p0.points) ++ p0.overPoints) ++ p0.flank).length : Int) then
     getM (((([] : List Setting) ++ p0.points) ++ p0.overPoints) ++ p0.flank) x12 fun e15 =>
     bindM (
      if (b5.length : Int) = (0 : Int) then
       if found11 < (0 : Int) then
        some true
       else
        getM (((([] : List Setting) ++ p0.points) ++ p0.overPoints) ++ p0.flank) found11 fun e27 =>
        bindM (ref16_less e15 e27) fun r28 =>
        some r28
      else
       guardM (I64 ((b5.length : Int) - (1 : Int))) <|
       getM b5 ((b5.length : Int) - (1 : Int)) fun e20 =>
       bindM (ref16_less e20 e15) fun r21 =>
       if r21 = true then
        if found11 < (0 : Int) then
         some true
        else
         getM (((([] : List Setting) ++ p0.points) ++ p0.overPoints) ++ p0.flank) found11 fun e24 =>
         bindM (ref16_less e15 e24) fun r25 =>
         some r25
       else
        some false) fun x16 =>
     if x16 = true then
      guardM (I64 (x12 + (1 : Int))) <|
      some (.inl (x12, (x12 + (1 : Int))))
     else
      guardM (I64 (x12 + (1 : Int))) <|
      some (.inl (found11, (x12 + (1 : Int))))
    else
     inrM (
      some found11)) ((-1 : Int), (0 : Int))) fun found7 =>
  if found7 < (0 : Int) then
   inrM (
    some b5)
  else
   getM (((([] : List Setting) ++ p0.points) ++ p0.overPoints) ++ p0.flank) found7 fun e35 =>
   guardM ((b5 ++ ([e35] : List Setting)).length ≤ 1000000000) <|
   some (.inl (b5 ++ ([e35] : List Setting)))) ([] : List Setting)

def ref21_has (p0 : (List Setting)) (p1 : Setting) : Option Bool :=
 bindS (
  loopM (fun i3 =>
   if i3 < (p0.length : Int) then
    getM p0 i3 fun e6 =>
    guardM (Setting.ok e6 ∧ Setting.ok p1) <|
    if e6 = p1 then
     inrM (
      inrM (
       some true))
    else
     guardM (I64 (i3 + (1 : Int))) <|
     some (.inl (i3 + (1 : Int)))
   else
    inrM (
     some (.inl ()))) (0 : Int)) fun _ =>
 some false

def ref02_Has (p0 : (List Int)) (p1 : Int) : Option Bool :=
 bindS (
  loopM (fun i3 =>
   if i3 < (p0.length : Int) then
    getM p0 i3 fun e6 =>
    if e6 = p1 then
     inrM (
      inrM (
       some true))
    else
     guardM (I64 (i3 + (1 : Int))) <|
     some (.inl (i3 + (1 : Int)))
   else
    inrM (
     some (.inl ()))) (0 : Int)) fun _ =>
 some false

def ref21_bound (p0 : Table) (p1 : Inter) (p2 : Int) : Option ((List Setting)) :=
 getM p1.routes p2 fun e1 =>
 if e1.state = (0 : Int) then
  some ([] : List Setting)
 else
  getM p0.routes p2 fun e3 =>
  getM p1.routes p2 fun e4 =>
  guardM (0 ≤ (0 : Int) ∧ (0 : Int) ≤ e4.rel ∧ e4.rel ≤ (e3.sections.length : Int)) <|
  bindM (ref16_Settings e3) fun r6 =>
  bindM (
   loopM (fun (x12, b13) =>
    if x12 < (r6.length : Int) then
     getM r6 x12 fun e16 =>
     bindM (ref16_Index p0 e16.el) fun r17 =>
     bindM (
      getM r6 x12 fun e20 =>
      bindM (ref21_has e3.points e20) fun r21 =>
      if r21 = true then
       getM p0.homes r17 fun e23 =>
       bindM (ref02_Has (sub e3.sections (0 : Int) e4.rel) e23) fun r24 =>
       some (!(r24))
      else
       some false) fun x18 =>
     bindM (
      if x18 = true then
       some true
      else
       getM r6 x12 fun e28 =>
       bindM (ref21_has e3.overPoints e28) fun r29 =>
       if r29 = true then
        some true
       else
        getM r6 x12 fun e31 =>
        bindM (ref21_has e3.flank e31) fun r32 =>
        some r32) fun x25 =>
     if x25 = true then
      getM r6 x12 fun e34 =>
      guardM ((b13 ++ ([e34] : List Setting)).length ≤ 1000000000) <|
      guardM (I64 (x12 + (1 : Int))) <|
      some (.inl ((x12 + (1 : Int)), (b13 ++ ([e34] : List Setting))))
     else
      guardM (I64 (x12 + (1 : Int))) <|
      some (.inl ((x12 + (1 : Int)), b13))
    else
     inrM (
      some b13)) ((0 : Int), ([] : List Setting))) fun b7 =>
  some b7

def ref21_path (p0 : Table) (p1 : Inter) (p2 : Int) : Option ((List Int)) :=
 getM p1.routes p2 fun e1 =>
 if e1.state = (0 : Int) then
  some ([] : List Int)
 else
  getM p0.routes p2 fun e3 =>
  getM p1.routes p2 fun e4 =>
  guardM (0 ≤ e4.rel ∧ e4.rel ≤ (e3.sections.length : Int) ∧ (e3.sections.length : Int) ≤ (e3.sections.length : Int)) <|
  guardM ((([] : List Int) ++ (sub e3.sections e4.rel (e3.sections.length : Int))).length ≤ 1000000000) <|
  some (([] : List Int) ++ (sub e3.sections e4.rel (e3.sections.length : Int)))

def ref21_meet (p0 : (List Int)) (p1 : (List Int)) : Option Bool :=
 bindS (
  loopM (fun i3 =>
   if i3 < (p0.length : Int) then
    getM p0 i3 fun e6 =>
    bindM (ref02_Has p1 e6) fun r7 =>
    if r7 = true then
     inrM (
      inrM (
       some true))
    else
     guardM (I64 (i3 + (1 : Int))) <|
     some (.inl (i3 + (1 : Int)))
   else
    inrM (
     some (.inl ()))) (0 : Int)) fun _ =>
 some false

def ref21_over (p0 : Table) (p1 : Inter) (p2 : Int) : Option ((List Int)) :=
 getM p1.routes p2 fun e1 =>
 if e1.state = (0 : Int) then
  some ([] : List Int)
 else
  getM p0.routes p2 fun e3 =>
  guardM ((([] : List Int) ++ e3.overSections).length ≤ 1000000000) <|
  some (([] : List Int) ++ e3.overSections)

def ref21_follows (p0 : Table) (p1 : Int) (p2 : Int) : Option Bool :=
 bindM (
  getM p0.routes p1 fun e3 =>
  if (0 : Int) ≤ e3.exit then
   getM p0.routes p2 fun e5 =>
   getM p0.routes p1 fun e6 =>
   some (decide (e5.entry = e6.exit))
  else
   some false) fun x1 =>
 some x1

def ref21_apart (p0 : Table) (p1 : Inter) (p2 : Int) (p3 : Int) : Option Bool :=
 bindM (
  bindM (ref21_path p0 p1 p2) fun r3 =>
  bindM (ref21_path p0 p1 p3) fun r4 =>
  bindM (ref21_meet r3 r4) fun r5 =>
  if r5 = true then
   some true
  else
   bindM (ref21_over p0 p1 p2) fun r7 =>
   bindM (ref21_path p0 p1 p3) fun r8 =>
   bindM (ref21_meet r7 r8) fun r9 =>
   if r9 = true then
    bindM (ref21_follows p0 p2 p3) fun r11 =>
    some (!(r11))
   else
    some false) fun x1 =>
 if x1 = true then
  some false
 else
  bindM (
   bindM (ref21_over p0 p1 p2) fun r15 =>
   bindM (ref21_over p0 p1 p3) fun r16 =>
   bindM (ref21_meet r15 r16) fun r17 =>
   if (!(r17)) = true then
    some true
   else
    bindM (ref21_follows p0 p2 p3) fun r19 =>
    if r19 = true then
     some true
    else
     bindM (ref21_follows p0 p3 p2) fun r21 =>
     some r21) fun x13 =>
  some x13

def ref21_Sound (p0 : Table) (p1 : Inter) : Option Bool :=
 bindM (ref21_Fits p0 p1) fun r1 =>
 if (!(r1)) = true then
  some false
 else
  bindS (
   loopM (fun x5 =>
    if x5 < (p0.routes.length : Int) then
     bindS (
      bindM (ref21_bound p0 p1 x5) fun r9 =>
      bindS (
       loopM (fun x12 =>
        if x12 < (r9.length : Int) then
         getM r9 x12 fun e15 =>
         bindM (ref16_Index p0 e15.el) fun r16 =>
         getM p1.lies r16 fun e17 =>
         getM r9 x12 fun e18 =>
         if e17 = e18.pos then
          guardM (I64 (x12 + (1 : Int))) <|
          some (.inl (x12 + (1 : Int)))
         else
          inrM (
           inrM (
            inrM (
             inrM (
              inrM (
               some false)))))
        else
         inrM (
          some (.inl ()))) (0 : Int)) fun _ =>
      loopM (fun x28 =>
       if x28 < (p0.routes.length : Int) then
        bindM (
         if x5 = x28 then
          some false
         else
          bindM (ref21_apart p0 p1 x5 x28) fun r34 =>
          some (!(r34))) fun x31 =>
        if x31 = true then
         inrM (
          inrM (
           inrM (
            inrM (
             some false))))
        else
         guardM (I64 (x28 + (1 : Int))) <|
         some (.inl (x28 + (1 : Int)))
       else
        inrM (
         some (.inl ()))) (0 : Int)) fun _ =>
     guardM (I64 (x5 + (1 : Int))) <|
     some (.inl (x5 + (1 : Int)))
    else
     inrM (
      some (.inl ()))) (0 : Int)) fun _ =>
  some true

def ref22_Occupied (p0 : Inputs) (p1 : Int) : Option Bool :=
 bindM (
  if p1 < (0 : Int) then
   some true
  else
   if (p0.occupied.length : Int) ≤ p1 then
    some true
   else
    getM p0.occupied p1 fun e5 =>
    some e5) fun x1 =>
 some x1

def law23_InterlockSafe (p0 : Table) (p1 : (List Inputs)) : Option Bool :=
 bindM (interlock_Start p0) fun r1 =>
 bindM (
  bindM (law21_Small p0 r1) fun r4 =>
  if (!(r4)) = true then
   some true
  else
   if (20 : Int) < (p1.length : Int) then
    some true
   else
    some (!(decide ((r1.lies.length : Int) = (p0.points.length : Int))))) fun x2 =>
 if x2 = true then
  bindM (law23_alive) fun r8 =>
  some r8
 else
  bindS (
   loopM (fun (x16, c17, c18) =>
    if x16 < (p1.length : Int) then
     bindS (
      getM p1 x16 fun e24 =>
      bindM (law22_Few e24) fun r25 =>
      if (!(r25)) = true then
       bindM (law23_alive) fun r27 =>
       inrM (
        inrM (
         inrM (
          some r27)))
      else
       getM p1 x16 fun e31 =>
       bindM (interlock_Cycle p0 (⟨c17, c18⟩ : Inter) e31) fun (r33, r34) =>
       bindM (
        if (0 : Int) < (p0.routes.length : Int) then
         if (c17.length : Int) = (p0.routes.length : Int) then
          bindM (ref21_Sound p0 r33) fun r39 =>
          some (!(r39))
         else
          some false
        else
         some false) fun x35 =>
       if x35 = true then
        inrM (
         inrM (
          inrM (
           some false)))
       else
        if ((!(decide ((r33.lies.length : Int) = (c18.length : Int)))) || (!(decide ((r34.lies.length : Int) = (c18.length : Int))))) = true then
         inrM (
          inrM (
           inrM (
            some false)))
        else
         bindS (
          loopM (fun x51 =>
           if x51 < (c18.length : Int) then
            bindM (
             getM r33.lies x51 fun e56 =>
             getM r34.lies x51 fun e57 =>
             if e56 = e57 then
              getM r33.lies x51 fun e59 =>
              getM c18 x51 fun e60 =>
              if e59 = e60 then
               some false
              else
               if (p0.homes.length : Int) ≤ x51 then
                some true
               else
                getM p1 x16 fun e63 =>
                getM p0.homes x51 fun e64 =>
                bindM (ref22_Occupied e63 e64) fun r65 =>
                some r65
             else
              some true) fun x54 =>
            if x54 = true then
             inrM (
              inrM (
               inrM (
                inrM (
                 inrM (
                  some false)))))
            else
             guardM (I64 (x51 + (1 : Int))) <|
             some (.inl (x51 + (1 : Int)))
           else
            inrM (
             some (.inl ()))) (0 : Int)) fun _ =>
         some (.inl (r33.routes, r33.lies))) fun (c21, c22) =>
     guardM (I64 (x16 + (1 : Int))) <|
     some (.inl ((x16 + (1 : Int)), c21, c22))
    else
     inrM (
      some (.inl (c17, c18)))) ((0 : Int), r1.routes, r1.lies)) fun (c9, c10) =>
  bindM (law23_alive) fun r76 =>
  some r76

end Go.Proofs.YtdhicpmpefkojaaGreat

set_option linter.unusedVariables false
set_option linter.unusedSimpArgs false
namespace Go.Proofs.YtdhicpmpefkojaaGreat
open Go Go.TL

@[simp] theorem guardM_true {α : Type} {p : Prop} [Decidable p] {k : Option α} (h : p) : guardM p k = k := if_pos h
@[simp] theorem bindM_some {α β : Type} (a : α) (k : α → Option β) : bindM (some a) k = k a := rfl
@[simp] theorem bindS_inl {α β : Type} (a : α) (k : α → Option β) : bindS (some (.inl a)) k = k a := rfl
@[simp] theorem bindS_inr {α β : Type} (b : β) (k : α → Option β) : bindS (some (.inr b)) k = some b := rfl
@[simp] theorem inrM_some {α β : Type} (b : β) : (inrM (some b) : Option (α ⊕ β)) = some (.inr b) := rfl
theorem getM_at {α β : Type} {l : List α} {i : Nat} {e : α} {k : α → Option β} (h : l[i]? = some e) : getM l (i : Int) k = k e := by simp [getM, h]
theorem getM_int {α β : Type} {l : List α} {i : Int} {e : α} {k : α → Option β} (h0 : 0 ≤ i) (h : l[i.toNat]? = some e) : getM l i k = k e := by simp [getM, h0, h]
@[simp] theorem ite_bindM {α β : Type} {p : Prop} [Decidable p] (a b : α) (k : α → Option β) : bindM (if p then some a else some b) k = k (if p then a else b) := by split <;> rfl
theorem bindM_ite {α β : Type} {p : Prop} [Decidable p] (a b : Option α) (k : α → Option β) : bindM (if p then a else b) k = if p then bindM a k else bindM b k := by split <;> rfl
theorem ite_some {α : Type} {p : Prop} [Decidable p] (a b : α) : (if p then some a else some b) = some (if p then a else b) := by split <;> rfl
theorem bool_ite {p : Prop} [Decidable p] {a b : Bool} : ((if p then a else b) = true) = ((p ∧ a = true) ∨ (¬ p ∧ b = true)) := by split <;> simp_all
theorem sub_drop {α : Type} (l : List α) (i : Nat) : sub l (i : Int) (l.length : Int) = l.drop i := by simp [sub, ← List.length_drop]
theorem sub_take {α : Type} (l : List α) (i : Nat) : sub l 0 (i : Int) = l.take i := by simp [sub]

variable {σ ρ : Type}
theorem iterM_to {f : σ → Option (σ ⊕ ρ)} (B : Nat → σ) {o : ρ} : ∀ (n k : Nat), (∀ i, k ≤ i → i < k + n → f (B i) = some (.inl (B (i + 1)))) → f (B (k + n)) = some (.inr o) → iterM f (n + 1) (B k) = some o
 | 0, k, _, he => by simp only [Nat.add_zero] at he; simp [iterM, he]
 | n + 1, k, hf, he => by
  simp only [iterM]
  rw [hf k (Nat.le_refl _) (by omega)]
  exact iterM_to B n (k + 1) (fun i h1 h2 => hf i (by omega) (by omega)) (by rw [show k + 1 + n = k + (n + 1) by omega]; exact he)
/-- So many rounds, then out. -/
theorem loop_to {f : σ → Option (σ ⊕ ρ)} (B : Nat → σ) (n : Nat) {o : ρ} {s : σ} (hs : s = B 0) (hn : n ≤ 9223372036854775807) (hf : ∀ i, i < n → f (B i) = some (.inl (B (i + 1)))) (he : f (B n) = some (.inr o)) : loopM f s = some o := by
 subst hs
 exact loopM_of (iterM_to B n 0 (fun i _ h => hf i (by omega)) (by rw [Nat.zero_add]; exact he)) (by unfold roundsM; omega)

/-- Counted rounds, each of which may end the loop. -/
theorem loop_cnt {f : Int → Option (Int ⊕ ρ)} (n : Nat) (c : Nat → Option ρ) (o : ρ) (hn : n ≤ 9223372036854775807) (hf : ∀ i, i < n → f (i : Int) = match c i with
  | some r => some (.inr r)
  | none => some (.inl ((i : Int) + 1))) (he : f (n : Int) = some (.inr o)) : loopM f 0 = some (((List.range n).findSome? c).getD o) := by
 cases h : (List.range n).findSome? c with
 | none =>
  rw [List.findSome?_eq_none_iff] at h
  refine loop_to (fun i => (i : Int)) n rfl hn (fun i hi => ?_) he
  rw [hf i hi, h i (List.mem_range.2 hi)]
  rfl
 | some r =>
  rw [List.findSome?_eq_some_iff] at h
  obtain ⟨l1, a, l2, h1, h2, h3⟩ := h
  have ha : l1.length = a ∧ a < n := by
   have hlen : l1.length < (List.range n).length := by rw [h1]; simp
   have : (List.range n)[l1.length]? = some a := by rw [h1]; simp
   simp only [List.length_range] at hlen
   simp [hlen] at this
   exact ⟨this, by omega⟩
  obtain ⟨ha1, ha2⟩ := ha
  refine loop_to (fun i => (i : Int)) a rfl (by omega) (fun i hi => ?_) ?_
  ·have hm : i ∈ l1 := by
    have : (List.range n)[i]? = some i := List.getElem?_range (by omega)
    rw [h1, List.getElem?_append_left (by omega)] at this
    exact List.mem_of_getElem? this
   rw [hf i (by omega), h3 i hm]
   rfl
  ·rw [hf a ha2, h2]; rfl

theorem findSome_range {α β : Type} (l : List α) (c : Nat → Option β) (d : α → Option β) (h : ∀ (i : Nat) (e : α), l[i]? = some e → c i = d e) : (List.range l.length).findSome? c = l.findSome? d := by
 induction l generalizing c with
 | nil => rfl
 | cons x r ih =>
  rw [List.length_cons, List.range_succ_eq_map, List.findSome?_cons, List.findSome?_map, List.findSome?_cons, h 0 x rfl]
  cases d x with
  | some b => rfl
  | none => exact ih (c ∘ Nat.succ) fun i e he => h (i + 1) e (by simpa using he)

/-- Through a list; a round that ends the loop. -/
theorem loop_list {α : Type} {f : Int → Option (Int ⊕ ρ)} (l : List α) (d : α → Option ρ) (o : ρ) (hn : l.length ≤ 9223372036854775807) (hf : ∀ (i : Nat) (e : α), l[i]? = some e → f (i : Int) = match d e with
  | some r => some (.inr r)
  | none => some (.inl ((i : Int) + 1))) (he : f (l.length : Int) = some (.inr o)) : loopM f 0 = some ((l.findSome? d).getD o) := by
 rw [loop_cnt l.length (fun i => (l[i]?).bind d) o hn (fun i hi => ?_) he, findSome_range l _ d (fun i e he => by simp [he])]
 rw [hf i l[i] (by simp), List.getElem?_eq_getElem hi]
 rfl
theorem findSome_any {α β : Type} (l : List α) (c : α → Bool) (v : β) : l.findSome? (fun e => if c e = true then some v else none) = if l.any c = true then some v else none := by
 induction l with
 | nil => rfl
 | cons x r ih =>
  rw [List.findSome?_cons, List.any_cons, ih]
  cases c x <;> simp
/-- Is there one? -/
theorem loop_any {α : Type} {f : Int → Option (Int ⊕ ρ)} (l : List α) (c : α → Bool) (v o : ρ) (hn : l.length ≤ 9223372036854775807) (hf : ∀ (i : Nat) (e : α), l[i]? = some e → f (i : Int) = if c e = true then some (.inr v) else some (.inl ((i : Int) + 1))) (he : f (l.length : Int) = some (.inr o)) : loopM f 0 = some (if l.any c = true then v else o) := by
 rw [loop_list l (fun e => if c e = true then some v else none) o hn (fun i e h => by rw [hf i e h]; cases c e <;> simp) he, findSome_any]
 split <;> rfl
theorem loop_anyI {f : Int → Option (Int ⊕ ρ)} (n : Nat) (c : Nat → Bool) (v o : ρ) (hn : n ≤ 9223372036854775807) (hf : ∀ i, i < n → f (i : Int) = if c i = true then some (.inr v) else some (.inl ((i : Int) + 1))) (he : f (n : Int) = some (.inr o)) : loopM f 0 = some (if (List.range n).any c = true then v else o) := by
 rw [loop_cnt n (fun e => if c e = true then some v else none) o hn (fun i h => by rw [hf i h]; cases c i <;> simp) he, findSome_any]
 split <;> rfl
/-- Where is the first one? -/
theorem loop_find {α : Type} {f : Int → Option (Int ⊕ ρ)} (l : List α) (c : α → Bool) (w : Nat → ρ) (o : ρ) (hn : l.length ≤ 9223372036854775807) (hf : ∀ (i : Nat) (e : α), l[i]? = some e → f (i : Int) = if c e = true then some (.inr (w i)) else some (.inl ((i : Int) + 1))) (he : f (l.length : Int) = some (.inr o)) : loopM f 0 = some (match l.findIdx? c with | some i => w i | none => o) := by
 cases h : l.findIdx? c with
 | none =>
  rw [List.findIdx?_eq_none_iff] at h
  refine loop_to (fun i => (i : Int)) l.length rfl hn (fun i hi => ?_) he
  rw [hf i l[i] (by simp), if_neg (by rw [h l[i] (by simp)]; simp)]; rfl
 | some k =>
  rw [List.findIdx?_eq_some_iff_getElem] at h
  obtain ⟨hk, h1, h2⟩ := h
  refine loop_to (fun i => (i : Int)) k rfl (by omega) (fun i hi => ?_) ?_
  ·have hl : i < l.length := by omega
   have := h2 i hi
   rw [hf i l[i] (by simp), if_neg (by simpa using this)]; rfl
  ·rw [hf k l[k] (by simp), if_pos h1]

/-- With something that grows. -/
theorem loop_acc {β : Type} {f : Int × β → Option ((Int × β) ⊕ ρ)} (n : Nat) (B : Nat → β) {o : ρ} {b : β} (hb : b = B 0) (hn : n ≤ 9223372036854775807) (hf : ∀ i, i < n → f ((i : Int), B i) = some (.inl ((i : Int) + 1, B (i + 1)))) (he : f ((n : Int), B n) = some (.inr o)) : loopM f (0, b) = some o :=
 loop_to (fun i => ((i : Int), B i)) n (by rw [hb]; rfl) hn (fun i hi => by rw [hf i hi]; rfl) he

/-- With something that grows, until a round ends it. -/
theorem loop_accx {β : Type} {f : Int × β → Option ((Int × β) ⊕ ρ)} (n : Nat) (B : Nat → β) (c : Nat → Bool) (v o : ρ) {b : β} (hb : b = B 0) (hn : n ≤ 9223372036854775807) (hf : ∀ i, i < n → (∀ j, j < i → c j = false) → f ((i : Int), B i) = if c i = true then some (.inr v) else some (.inl ((i : Int) + 1, B (i + 1)))) (he : (∀ j, j < n → c j = false) → f ((n : Int), B n) = some (.inr o)) : loopM f (0, b) = some (if (List.range n).any c = true then v else o) := by
 cases h : (List.range n).findIdx? c with
 | none =>
  rw [List.findIdx?_eq_none_iff] at h
  have hall : ∀ j, j < n → c j = false := fun j hj => by simpa using h j (List.mem_range.2 hj)
  have hno : ¬ (List.range n).any c = true := by
   rw [List.any_eq_true]
   rintro ⟨j, hj, hc⟩
   rw [hall j (List.mem_range.1 hj)] at hc; cases hc
  rw [if_neg hno]
  exact loop_acc n B hb hn (fun i hi => by rw [hf i hi (fun j hj => hall j (by omega)), hall i hi]; rfl) (he hall)
 | some k =>
  rw [List.findIdx?_eq_some_iff_getElem] at h
  obtain ⟨hk, h1, h2⟩ := h
  simp only [List.length_range] at hk
  simp only [List.getElem_range] at h1
  have hb' : ∀ j, j < k → c j = false := fun j hj => by have := h2 j hj; simpa using this
  have hyes : (List.range n).any c = true := List.any_eq_true.2 ⟨k, List.mem_range.2 hk, h1⟩
  rw [if_pos hyes]
  exact loop_acc k B hb (by omega) (fun i hi => by rw [hf i (by omega) (fun j hj => hb' j (by omega)), hb' i hi]; rfl) (by rw [hf k hk hb', h1]; rfl)

theorem i64_nat {i n : Nat} (h : i < n) (hn : n ≤ 9223372036854775807) : I64 ((i : Int) + 1) := by unfold I64; omega
end Go.Proofs.YtdhicpmpefkojaaGreat

set_option linter.unusedSimpArgs false
set_option linter.unusedVariables false
namespace Go.Proofs.YtdhicpmpefkojaaGreat
open Go Go.TL

def sgn (x y : Int) : Int := if x < y then -1 else if y < x then 1 else 0

theorem compare_eq (x y : Int) : cmp_Compare_int x y = some (sgn x y) := by
 simp only [cmp_Compare_int, cmp_isNaN_int, decide_true, Bool.not_true, bindM_some, Bool.false_eq_true, if_false, sgn]
 split
 ·rfl
 ·split <;> rfl

theorem or_eq (x y : Int) : cmp_Or_int [x, y] = some (if x = 0 then y else x) := by
 unfold cmp_Or_int
 by_cases hx : x = 0
 ·by_cases hy : y = 0
  ·rw [loopM_of (n := 3) (r := (.inl () : Unit ⊕ Int)) (by simp [iterM, getM, guardM, I64, hx, hy, inrM]) (by decide)]
   simp [bindS, hx, hy]
  ·rw [loopM_of (n := 3) (r := (.inr y : Unit ⊕ Int)) (by simp [iterM, getM, guardM, I64, hx, hy, inrM]) (by decide)]
   simp [bindS, hx]
 ·rw [loopM_of (n := 3) (r := (.inr x : Unit ⊕ Int)) (by simp [iterM, getM, guardM, I64, hx, inrM]) (by decide)]
  simp [bindS, hx]

theorem settings_c1_eq (x y : Setting) : table_Settings_c1 x y = some (if sgn x.el y.el = 0 then sgn x.pos y.pos else sgn x.el y.el) := by
 simp only [table_Settings_c1, compare_eq, bindM_some, or_eq]

theorem table_Settings_c1_sort : SortOk table_Settings_c1 := by
 have hl : ∀ x y, ltM table_Settings_c1 x y = decide (x.el < y.el ∨ x.el = y.el ∧ x.pos < y.pos) := by
  intro x y
  simp only [ltM, settings_c1_eq, Option.getD_some, sgn]
  rw [decide_eq_decide]
  split <;> split <;> (try split) <;> (try split) <;> omega
 refine ⟨fun x y => ⟨_, settings_c1_eq x y⟩, fun x => ?_, fun x y z h1 h2 => ?_, fun x y z h1 h2 => ?_, fun x y h1 h2 => ?_⟩
 ·rw [hl]; simp
 ·rw [hl, decide_eq_true_eq] at *; omega
 ·rw [hl, decide_eq_false_iff_not] at *; omega
 ·rw [hl, decide_eq_false_iff_not] at *
  obtain ⟨a, b⟩ := x; obtain ⟨c, d⟩ := y
  simp only at h1 h2
  have h3 : a = c := by omega
  have h4 : b = d := by omega
  rw [h3, h4]

end Go.Proofs.YtdhicpmpefkojaaGreat
