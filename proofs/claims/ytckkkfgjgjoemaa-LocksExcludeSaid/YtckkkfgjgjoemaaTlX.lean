/- Trees in place of memory, part X: drawn regions that make blocks or write them; memory made and at once read as data; loops whose state is given by what changes. No condition. -/
import Derived.Test.YtckkkfgjgjoemaaTlW
namespace Go.TL

variable {C : Ctx} {st : St} {g : Gh} {a : Act} {w : World} {P : Program}

theorem DOk.mk {o : Oper} {ev : Operand → AV} {hpn : List Blk} {x : AV} {ws : List (Nat × Blk)} (h : ∀ st : St, HpLe hpn st.hp → (∀ y ∈ o.op.operands, st.fr.ev y = ev y) → ∀ g a w, Sim C st g a w → ∃ v w' g', (execOp a.eval o).run C.P w = .ok (.value v) w' ∧ Sim C ⟨st.fr, wr ws st.hp⟩ g' a w' ∧ ARep w' g' x v) : DOk C o ev hpn x ws := by
  intro st h1 _ _ h2 g a w hs Q K' hK
  obtain ⟨v, w', g', hr, hs', hx⟩ := h st h1 h2 g a w hs
  simp only [Oper.wp, hr, Oper.upon_value]
  exact hK v w' g' hs' hx

theorem DOk.mkS {o : Oper} {ev : Operand → AV} {hpn : List Blk} {ws : List (Nat × Blk)} (_hd : o.dst = none) (h : ∀ st : St, HpLe hpn st.hp → (∀ y ∈ o.op.operands, st.fr.ev y = ev y) → ∀ g a w, Sim C st g a w → ∃ w' g', (execOp a.eval o).run C.P w = .ok .skip w' ∧ Sim C ⟨st.fr, wr ws st.hp⟩ g' a w') : DOk C o ev hpn .junk ws := by
  intro st h1 _ _ h2 g a w hs Q K' hK
  obtain ⟨w', g', hr, hs'⟩ := h st h1 h2 g a w hs
  simp only [Oper.wp, hr, Oper.upon_skip]
  exact hK undef w' g' hs' (.junk _)

theorem RdOk.mkW {o : Oper} {ev : Operand → AV} {hp : List Blk} {x : AV} (h : ∀ st : St, HpLe hp st.hp → (∀ y ∈ o.op.operands, st.fr.ev y = ev y) → ∀ g a w, Sim C st g a w → ∃ v w' g', (execOp a.eval o).run C.P w = .ok (.value v) w' ∧ Sim C st g' a w' ∧ ARep w' g' x v) : RdOk C o ev hp x := by
  intro st h1 h2 g a w hs Q K' hK
  obtain ⟨v, w', g', hr, hs', hx⟩ := h st h1 h2 g a w hs
  simp only [Oper.wp, hr, Oper.upon_value]
  exact hK v w' g' hs' hx

/-! ### Made, and at once read as data -/

theorem RowOf.frozen {ty : TypeId} {sz : Nat} {es : List D} {vs : Array Value} (hs : Sim C st g a w) (r : RowOf w g.X sz es vs) : ∃ g', Sim C st g' a (w.alloc (.cells vs ty)) ∧ ∀ n, n = es.length → ARep (w.alloc (.cells vs ty)) g' (.d (.sl sz es)) (.slice (some ⟨w.heap.size, 0, none⟩) n n) := by
  obtain ⟨hs', hg⟩ := hs.allocX (.cells vs ty)
  refine ⟨_, hs', fun n hn => .d _ _ ?_⟩
  subst hn
  let g1 : Gh := { phi := fun j => if j = 0 then some w.heap.size else none, psi := fun _ => vs.size, X := g.X }
  have hrep : ∀ (j : Nat) (B : Blk), [Blk.flat ty sz es][j]? = some B → BRep (w.alloc (.cells vs ty)) g1 j B := by
    intro j B hj
    match j, hj with
    | 0, hj =>
      cases hj
      refine .inr ⟨w.heap.size, vs, by simp [g1], heap_alloc_new w _, rfl, r.le, r.h0, r.h1, fun i e j c he hc => ?_⟩
      obtain ⟨v, hv, hd⟩ := r.rep i e j c he hc
      exact ⟨v, hv, hd.mono (fun _ h => h) fun b hb => heap_push w _ b (hs.Xlt b hb)⟩
    | j + 1, hj => simp at hj
  refine snap_rep (st := ⟨[], [.flat ty sz es]⟩) (g := g1) hrep ((Snap.msl 0 sz 0 es.length ty es rfl (by omega)).same (by simp)) (fun b hb => .inl hb) (fun j b hp => ?_) (v := .slice (some ⟨w.heap.size, 0, none⟩) es.length es.length) ?_
  · simp only [g1] at hp
    split at hp
    · cases hp; exact .inr rfl
    · cases hp
  · have := ARep.msl (w := w.alloc (.cells vs ty)) (g := g1) 0 sz 0 es.length es.length w.heap.size (by simp [g1]) (Nat.le_refl _) (by simp only [Nat.zero_add, g1]; exact r.le)
    simpa using this

section made
variable {o : Oper} {ev : Operand → AV} {hp : List Blk} {x y : Operand} {t e : TypeId} {sz by' : Nat} {z : Value}

theorem rd_make {n : Nat} {zd : D} (ho : o.op = .makeSlice t x y) (hl : sel C.P t = some (e, sz, by')) (hz : (C.P.info? e).bind (·.zero) = some z) (hzd : ofConst z = .d zd) (hzs : zd.cells.length = sz)
    (hx : ev x = .d (.int .i64 n)) (hy : ev y = .d (.int .i64 n)) (hb : by' * n ≤ 281474976710656) (hm : n ≤ 9223372036854775807) : RdOk C o ev hp (.d (.sl sz (List.replicate n zd))) :=
  RdOk.mkW fun st hhp hag g a w hs => by
    obtain ⟨vs, hr, row⟩ := core_makeSlice (st := st) sz by' n z zd ho hl hz hzd hzs (by rw [hag x (by simp [ho, Op.operands]), hx]) (by rw [hag y (by simp [ho, Op.operands]), hy]) (by omega) (by rw [← Int.natCast_mul]; omega) (by omega) hs
    obtain ⟨g', h1, h2⟩ := row.frozen (ty := e) hs
    exact ⟨_, _, g', hr, h1, by have := h2 n (by simp); simpa using this⟩

theorem rd_litF {parts : Array (Nat × Operand)} {n : Nat} {ds : List D} (xs : List Operand) (ho : o.op = .buildSlice t n parts) (hl : sel C.P t = some (e, sz, by')) (hz : (C.P.info? e).bind (·.zero) = some z) (hp' : denseParts parts xs)
    (hx : evD (xs.map ev) = some ds) (hn : Nat.beq ds.length n = true) (hs : (ds.all fun d => Nat.beq d.cells.length sz) = true) (hsmall : Nat.ble (n * sz) 16777216 = true) : RdOk C o ev hp (.d (.sl sz ds)) :=
  RdOk.mkW fun st hhp hag g a w hsim => by
    have hmem : ∀ x ∈ xs, x ∈ o.op.operands := by
      intro x hx
      simp only [ho, Op.operands]
      obtain ⟨i, hi⟩ := List.getElem?_of_mem hx
      have : (xs.zipIdx.map fun x => (x.2, x.1))[i]? = some (i, x) := by simp [hi]
      rw [← hp'] at this
      simp only [List.mem_toArray, List.mem_map]
      exact ⟨(i, x), List.mem_of_getElem? this, rfl⟩
    have hev : xs.map st.fr.ev = ds.map AV.d := by
      rw [← evD_some hx]
      exact List.map_congr_left fun x hx => hag x (hmem x hx)
    obtain ⟨vs, hr, row, _⟩ := core_buildSlice (st := st) sz by' xs ds z ho hl hz hp' hev (Nat.eq_of_beq_eq_true hn) (fun d hd => Nat.eq_of_beq_eq_true (List.all_eq_true.1 hs d hd)) (Nat.le_of_ble_eq_true hsmall) hsim
    obtain ⟨g', h1, h2⟩ := row.frozen (ty := e) hsim
    exact ⟨_, _, g', hr, h1, h2 n (Nat.eq_of_beq_eq_true hn).symm⟩

/-! ### Into holes -/

theorem hole_at {hpn hp' : List Blk} {i : Nat} (h : hpn[i]? = some .hole) (hle : HpLe hpn hp') : hp'[i]? = some .hole := hle i _ h fun e => by cases e

theorem w_alloc {i : Nat} {cs : List AV} (hi : hp[i]? = some .hole) (ho : o.op = .alloc t) (hz : (C.P.info? t).bind (·.zero) = some z) (hf : (ofConst z).flat = true) (hc : (ofConst z).cells = cs) : DOk C o ev hp (.mptr i 0 0 0) [(i, .box t cs)] :=
  DOk.mk fun st hhp hag g a w hs => by
    subst hc
    obtain ⟨inf, hinf, hz'⟩ := zero_inv hz
    have hpw := ((ofConst_rep w g z).pw hf).1
    have hno : g.phi i = none := hs.hp i _ (hole_at hi hhp)
    have hg := hs.grow_at (.cells z.cells t) z.cells.size hno
    refine ⟨.pointer (some ⟨w.heap.size, 0, none⟩), w.alloc (.cells z.cells t), _, by simp [execOp, ho, Instr.alloc, zeroValue, typeInfo, hinf, hz', newVar, newRow], hs.fill (n := z.cells.size) (hole_at hi hhp) ?_, .mptr _ 0 0 0 w.heap.size (by simp [Gh.new, upd])⟩
    exact ⟨w.heap.size, z.cells, by simp [Gh.new, upd], heap_alloc_new w _, by simp [Gh.new, upd], by simpa using hpw.1, fun j c v hc hv => (hpw.2 j c v hc (by simpa using hv)).mono hg⟩

theorem RowOf.filled {ty : TypeId} {sz : Nat} {es : List D} {vs : Array Value} {i : Nat} (hs : Sim C st g a w) (hi : st.hp[i]? = some .hole) (r : RowOf w g.X sz es vs) (n : Nat) (hn : n = es.length) : ∃ g', Sim C ⟨st.fr, st.hp.set i (.flat ty sz es)⟩ g' a (w.alloc (.cells vs ty)) ∧ ARep (w.alloc (.cells vs ty)) g' (.msl i sz 0 n) (.slice (some ⟨w.heap.size, 0, none⟩) n n) := by
  subst hn
  have hno : g.phi i = none := hs.hp i _ hi
  have hg := hs.grow_at (.cells vs ty) vs.size hno
  refine ⟨_, hs.fill (n := vs.size) hi (.inr ⟨w.heap.size, vs, by simp [Gh.new, upd], heap_alloc_new w _, by simp [Gh.new, upd], r.le, r.h0, r.h1, fun k e j c he hc => ?_⟩), ?_⟩
  · obtain ⟨v, hv, hd⟩ := r.rep k e j c he hc
    exact ⟨v, hv, hd.mono hg.X hg.mem⟩
  · have := ARep.msl (w := w.alloc (.cells vs ty)) (g := g.new i w.heap.size vs.size) i sz 0 es.length es.length w.heap.size (by simp [Gh.new, upd]) (Nat.le_refl _) (by simp only [Nat.zero_add, Gh.new, upd, if_true]; exact r.le)
    simpa using this

theorem w_make {i n : Nat} {zd : D} (hi : hp[i]? = some .hole) (ho : o.op = .makeSlice t x y) (hl : sel C.P t = some (e, sz, by')) (hz : (C.P.info? e).bind (·.zero) = some z) (hzd : ofConst z = .d zd) (hzs : zd.cells.length = sz)
    (hx : ev x = .d (.int .i64 n)) (hy : ev y = .d (.int .i64 n)) (hb : by' * n ≤ 281474976710656) (hm : n ≤ 9223372036854775807) : DOk C o ev hp (.msl i sz 0 n) [(i, .flat e sz (List.replicate n zd))] :=
  DOk.mk fun st hhp hag g a w hs => by
    obtain ⟨vs, hr, row⟩ := core_makeSlice (st := st) sz by' n z zd ho hl hz hzd hzs (by rw [hag x (by simp [ho, Op.operands]), hx]) (by rw [hag y (by simp [ho, Op.operands]), hy]) (by omega) (by rw [← Int.natCast_mul]; omega) (by omega) hs
    obtain ⟨g', h1, h2⟩ := row.filled (ty := e) hs (hole_at hi hhp) n (by simp)
    exact ⟨_, _, g', hr, h1, by simpa using h2⟩

/-- A call with data whose result is one row of its own. -/
theorem w_callRow {i : Nat} {f : Operand} {xs : Array Operand} {ts : Array TypeId} {F : FuncId} {mv : Nat → Bool} {ds es : List D} {n : Nat} {ty : TypeId} (hi : hp[i]? = some .hole) (ho : o.op = .call { callee := .value f, args := xs, argTypes := ts })
    (hf : ev f = .d (.fn F)) (hx : xs.toList.map ev = ds.map .d) (hret : Ret C.P F [] mv (ds.map .d) (.msl 0 sz 0 n) [.flat ty sz es]) (hm : (es.all D.mem0) = true) : DOk C o ev hp (.msl i sz 0 n) [(i, .flat ty sz es)] := by
  intro st hhp hlen _ hag g a w hs Q K' hK
  have hih := hole_at hi hhp
  have hno : g.phi i = none := hs.hp i _ hih
  have hil : i < st.hp.length := (List.getElem?_eq_some_iff.1 hih).1
  have hfv := hs.ev f
  rw [hag f (by simp [ho, Op.operands, Call.operands]), hf] at hfv
  have hargs : Pw (ARep w (ghost0 g.X)) (ds.map .d) (xs.map a.eval).toList := by
    have := dargs (cs := []) (vs := #[]) hs (fun y hy => hag y (by simp only [ho, Op.operands, Call.operands]; exact Array.mem_append.2 (.inr hy))) hx ⟨rfl, fun i x y h => by simp at h⟩
    simpa using this
  simp only [Oper.wp, run_exec_call ho (fn_inv hfv) hret.1, Oper.upon_enter, Array.append_empty]
  refine (hret.2 w (ghost0 g.X) _ (out0 hs mv hs.Xlt) hargs).mono ?_
  rintro e w' ⟨v, g', rfl, hout, hr⟩
  have hold : ∀ b, b < w.heap.size → w'.heap[b]? = w.heap[b]? := fun b hb => hout.keep b hb fun i hi => absurd hi (Nat.not_lt_zero i)
  have hsz := hout.grown
  simp only at hsz
  have hnew : ∀ j b, g'.phi j = some b → w.heap.size ≤ b := by
    intro j b hp
    rcases Nat.lt_or_ge b w.heap.size with hlt | hge
    · obtain ⟨_, hj, _⟩ := hout.own j b hp hlt; exact absurd hj (Nat.not_lt_zero _)
    · exact hge
  have hmem : ∀ e ∈ es, D.mem0 e = true := fun e he => List.all_eq_true.1 hm e he
  let g2 : Gh := { phi := upd g.phi i (g'.phi 0), psi := upd g.psi i (g'.psi 0), X := g.X }
  have hgr : Grow w g w' g2 := by
    refine ⟨fun j b hp => ?_, fun j b hp => ?_, fun _ h => h, fun b hb => hold b (hs.Xlt b hb)⟩
    · have hj : j ≠ i := fun e => by subst e; rw [hno] at hp; cases hp
      simpa [g2, upd, hj] using hp
    · have hj : j ≠ i := fun e => by subst e; rw [hno] at hp; cases hp
      simp [g2, upd, hj]
  have hphi : ∀ j b, g2.phi j = some b → (j = i ∧ g'.phi 0 = some b) ∨ (j ≠ i ∧ g.phi j = some b) := by
    intro j b hp
    by_cases hj : j = i
    · subst hj; exact .inl ⟨rfl, by simpa [g2, upd] using hp⟩
    · exact .inr ⟨hj, by simpa [g2, upd, hj] using hp⟩
  have hB : BRep w' g2 i (.flat ty sz es) := by
    rcases hout.hp 0 _ rfl with ⟨he, hp⟩ | ⟨b, cells, hp, hw, hs', hl, h0, h1, hr⟩
    · exact .inl ⟨he, by simpa [g2, upd] using hp⟩
    · refine .inr ⟨b, cells, by simpa [g2, upd] using hp, hw, by simpa [g2, upd] using hs', hl, h0, h1, fun k e j c he hc => ?_⟩
      obtain ⟨v, hv, hd⟩ := hr k e j c he hc
      exact ⟨v, hv, hd.any (mem0_cells (hmem e (List.mem_of_getElem? he)) (List.mem_of_getElem? hc))⟩
  refine hK v w' g2 ?_ ?_
  · refine { defers := hs.defers, size := hs.size, fr := fun t => (hs.fr t).mono hgr, hp := ?_, lt := ?_, inj := ?_, Xlt := ?_, Xold := hs.Xold, os := hout.os.trans hs.os, tape := hout.tape.trans hs.tape, output := hout.output.trans hs.output, drawn := Nat.le_trans hs.drawn hout.drawn, grown := Nat.le_trans hs.grown hsz, keep := ?_, own := ?_, stay := ?_, kle := ?_ }
    · intro j B hj
      simp only [wr, List.foldl_cons, List.foldl_nil] at hj
      rw [List.getElem?_set] at hj
      split at hj
      · rename_i e; subst e
        cases hj; exact hB
      · rename_i hne
        refine (hs.hp j B hj).mono hgr (fun hn => ?_) fun b hb => hold b (hs.lt j b hb).1
        simpa [g2, upd, show j ≠ i from fun e => hne e.symm] using hn
    · intro j b hp
      simp only [wr, List.foldl_cons, List.foldl_nil, List.length_set]
      rcases hphi j b hp with ⟨rfl, hp'⟩ | ⟨_, hp'⟩
      · exact ⟨(hout.lt 0 b hp').1, hil, fun hX => by have := hs.Xlt b hX; have := hnew 0 b hp'; omega⟩
      · have := hs.lt j b hp'; exact ⟨by omega, this.2.1, this.2.2⟩
    · intro j j' b Bj Bj' hBj hBj' hdj hdj' hj hj'
      simp only [wr, List.foldl_cons, List.foldl_nil] at hBj hBj'
      rcases hphi j b hj with ⟨rfl, h1⟩ | ⟨h1, h1'⟩ <;> rcases hphi j' b hj' with ⟨rfl, h2⟩ | ⟨h3, h3'⟩
      · rfl
      · have := (hs.lt _ _ h3').1; have := hnew 0 b h1; omega
      · have := (hs.lt _ _ h1').1; have := hnew 0 b h2; omega
      · rw [List.getElem?_set, if_neg (fun e => h1 e.symm)] at hBj
        rw [List.getElem?_set, if_neg (fun e => h3 e.symm)] at hBj'
        exact hs.inj j j' b Bj Bj' hBj hBj' hdj hdj' h1' h3'
    · intro b hX; have := hs.Xlt b hX; omega
    · intro b hb hk; rw [hold b (by have := hs.grown; omega)]; exact hs.keep b hb hk
    · intro j b hp hb
      rcases hphi j b hp with ⟨rfl, hp'⟩ | ⟨_, hp'⟩
      · have := hnew 0 b hp'; have := hs.grown; omega
      · exact hs.own j b hp' hb
    · intro j b hj hmj hp
      have hst := hs.stay j b hj hmj hp
      have hne : j ≠ i := fun e => by subst e; rw [hno] at hst; cases hst.2
      simpa [g2, upd, hne] using hst
    · have := hs.kle; simpa [wr] using this
  · cases hr with
    | msl0 => exact .msl0 _ _ _ _
    | msl _ _ _ _ cap b hb hc hp => exact .msl _ _ _ _ cap b (by simpa [g2, upd] using hb) hc (by simpa [g2, upd] using hp)

/-! ### Stores -/

theorem w_store_box {id off s : Nat} {bb : Bool} {bt : TypeId} {cs cs' : List AV} {v : AV} (ho : o.op = .store t x y) (hd : o.dst = none) (hl : lay C.P t = some (bb, s)) (hx : ev x = .mptr id 0 0 off) (hy : ev y = v) (hf : v.flat = true) (hs : v.cells.length = s)
    (hb : hp[id]? = some (.box bt cs)) (hc : off + s ≤ cs.length) (hv : spl cs off v.cells = cs') : DOk C o ev hp .junk [(id, .box bt cs')] :=
  DOk.mkS hd fun st hhp hag g a w hsim => by
    subst hv
    obtain ⟨w', h1, h2⟩ := core_store_box (st := st) id off s bb cs v ho hd hl (by rw [hag x (by simp [ho, Op.operands]), hx]) (by rw [hag y (by simp [ho, Op.operands]), hy]) hf hs (hhp id _ hb fun e => by cases e) hc hsim
    rw [hd] at h2
    exact ⟨w', g, h1, h2⟩

theorem w_store_flat {id idx off s : Nat} {bb : Bool} {bt : TypeId} {es : List D} {d v d' : D} (ho : o.op = .store t x y) (hd : o.dst = none) (hl : lay C.P t = some (bb, s)) (hx : ev x = .mptr id sz idx off) (hy : ev y = .d v) (hs : v.cells.length = s)
    (hb : hp[id]? = some (.flat bt sz es)) (he : es[idx]? = some d) (hone : d.one = false ∨ v.one = true) (hc : off + s ≤ d.cells.length) (hv : d.upd off v = d') : DOk C o ev hp .junk [(id, .flat bt sz (es.set idx d'))] :=
  DOk.mkS hd fun st hhp hag g a w hsim => by
    subst hv
    obtain ⟨w', h1, h2⟩ := core_store_flat (st := st) id sz idx off s bb es d v ho hd hl (by rw [hag x (by simp [ho, Op.operands]), hx]) (by rw [hag y (by simp [ho, Op.operands]), hy]) hs (hhp id _ hb fun e => by cases e) he hone hc hsim
    rw [hd] at h2
    exact ⟨w', g, h1, h2⟩

end made

/-! ### The steps -/

section steps
variable {ops : Array Oper} {l : List Oper} {K : St → Prop} {fr : Fr} {hp : List Blk} {acc : List Rec} {d : Nat} {op : Op} {ty : TypeId} {pos : String} {after : Array Edge} {gd : Option (Nat × Bool)}

theorem d_wr (rs : List Nat) (ws : List (Nat × Blk)) (v : AV) (hd : decide (d < C.n) = true) (hon : onA ops fr ⟨some d, op, ty, pos, after, gd⟩ = some true) (hw : (ws.all fun p => rs.contains p.1 && decide (p.1 < hp.length)) = true) (hr : DOk C ⟨some d, op, ty, pos, after, gd⟩ fr.ev (mask rs hp) v ws)
    (h : TDr C ops K l ((d, v) :: fr) (wr ws hp) (acc ++ [⟨true, d, v, rs, ws⟩])) : TDr C ops K (⟨some d, op, ty, pos, after, gd⟩ :: l) fr hp acc :=
  .step _ l fr hp acc d v rs ws v (.inl ⟨rfl, hd, rfl⟩) hon (fun p hp => by have := List.all_eq_true.1 hw p hp; simp at this; exact ⟨this.2, .inr this.1⟩) hr h

/-- A store; 'd' is a number that no slot bears. -/
theorem d_st (d : Nat) (rs : List Nat) (ws : List (Nat × Blk)) (hon : onA ops fr ⟨none, op, ty, pos, after, gd⟩ = some true) (hw : (ws.all fun p => rs.contains p.1 && decide (p.1 < hp.length)) = true) (hr : DOk C ⟨none, op, ty, pos, after, gd⟩ fr.ev (mask rs hp) .junk ws)
    (h : TDr C ops K l ((d, .junk) :: fr) (wr ws hp) (acc ++ [⟨true, d, .junk, rs, ws⟩])) : TDr C ops K (⟨none, op, ty, pos, after, gd⟩ :: l) fr hp acc :=
  .step _ l fr hp acc d .junk rs ws .junk (.inr ⟨rfl, rfl⟩) hon (fun p hp => by have := List.all_eq_true.1 hw p hp; simp at this; exact ⟨this.2, .inr this.1⟩) hr h

theorem twp_hole {c : Code} {Q : Exit → St → Prop} (h : TWp C c ⟨fr, hp ++ [.hole]⟩ Q) : TWp C c ⟨fr, hp⟩ Q := fun g a w hs => h g a w (Sim.hole (st := ⟨fr, hp⟩) hs)

theorem tops_hole (h : TOps C ops l ⟨fr, hp ++ [.hole]⟩ K) : TOps C ops l ⟨fr, hp⟩ K := fun g a w hs => h g a w (Sim.hole (st := ⟨fr, hp⟩) hs)

theorem s_callW {f : Operand} {xs : Array Operand} {ts : Array TypeId} {F : FuncId} {c : D} {cs : List D} (ids : List Nat) {args : List AV} {r r' : AV} {hh hp' hp2 : List Blk} (hd : decide (d < C.n) = true) (hf : fr.ev f = .d c) (hc : fnOf c = some (F, cs)) (hnd : ids.Nodup) (hal : (ids.all fun j => aliveAt hp j) = true)
    (hx : (xs.toList.map fun x => (fr.ev x).mapRef (toName (placeOf ids))) ++ cs.map .d = args) (hhd : hand ids hp = hh) (hret : Ret C.P F hh (fun _ => false) args r hp') (hr : r.mapRef (fwd ids hp.length) = r') (hb : hpBack ids hp hp' = hp2)
    (h : TOps C ops l ⟨(d, r') :: fr, hp2⟩ K) : TOps C ops (⟨some d, .call { callee := .value f, args := xs, argTypes := ts }, ty, pos, after, none⟩ :: l) ⟨fr, hp⟩ K := by
  subst hr hb hhd; exact tops_cons rfl (ok_callW ids args r hp' rfl hd hf hc hnd hal hx hret h)

theorem s_eqNil {t t' e : TypeId} {x : Operand} {dd : D} {n : Nat} (hd : decide (d < C.n) = true) (hu : C.P.underlying t = some (.slice e)) (hx : fr.ev x = .d dd) (hn : (AV.d dd).slLen = some n)
    (h : ∀ b : Bool, (b = true → n = 0) → TOps C ops l ⟨(d, .d (.bool b)) :: fr, hp⟩ K) : TOps C ops (⟨some d, .binOp .eql t x (.const (.slice none 0 0)) t', ty, pos, after, none⟩ :: l) ⟨fr, hp⟩ K :=
  tops_cons rfl (eqNil rfl hd hu hx hn rfl rfl h)

theorem tops_freeze' {st' : St} (i : Nat) (hk : C.k ≤ i) (hal : aliveAt hp i = true) (hks : ∀ j, j < C.k → C.mv j = false ∧ aliveAt hp j = true) (he : St.freeze i ⟨fr, hp⟩ = st') (h : TOps C ops l st' K) : TOps C ops l ⟨fr, hp⟩ K := tops_freeze i hk hal hks (he ▸ h)

end steps

/-! ### Truths compared -/

def cmpBool (op : BinOp) (p q : Bool) : Option Bool :=
  match op with
  | .eql => some (p == q)
  | .neq => some (!(p == q))
  | _ => none

theorem run_eqBool {t : TypeId} (hu : P.underlying t = some .bool) (p q : Bool) (w : World) : (Op.equal t (.bool p) (.bool q)).run P w = .ok (p == q) w := by
  have h : (Op.equalIn (9999 + 1) t (.bool p) (.bool q)).run P w = .ok (p == q) w := by
    unfold Op.equalIn
    simp [run_underlying hu]
  exact h

theorem cmp_bool {o : Oper} {ev : Operand → AV} {hp : List Blk} {op : BinOp} {t t' : TypeId} {x y : Operand} {p q r : Bool} (hu : C.P.underlying t = some .bool) (ho : o.op = .binOp op t x y t') (hx : ev x = .d (.bool p)) (hy : ev y = .d (.bool q)) (hr : cmpBool op p q = some r) : RdOk C o ev hp (.d (.bool r)) :=
  RdOk.mk fun st hhp hag g a w hs => by
    have h := hs.ev x
    rw [hag x (by simp [ho, Op.operands]), hx] at h
    have hi := hs.ev y
    rw [hag y (by simp [ho, Op.operands]), hy] at hi
    refine ⟨.bool r, ?_, .d _ _ (.bool r)⟩
    have hg : (eqGuard op t x y (.bool p) (.bool q)).run C.P w = .ok () w := by
      unfold eqGuard
      cases op <;> simp
    simp only [execOp, ho, bool_inv h, bool_inv hi, Sem.run_bind, hg, Result.andThen_ok]
    cases op <;> simp only [cmpBool] at hr <;> cases hr <;> simp [binOp, run_eqBool hu]

/-! ### Results and forms -/

theorem Ends.cellD {a t id off s : Nat} {ty : TypeId} {cs : List AV} {d : D} (hl : lay P t = some (true, s)) (ha : st.fr.get a = .mptr id 0 0 off) (hb : st.hp[id]? = some (.box ty cs)) (hc : Nat.ble (off + s) cs.length = true) (hv : mkAgg ((cs.drop off).take s) = .d d) : Ends P 0 [.cell a t] (.d d) [] st :=
  ⟨_, [], .mk _ (.cons (.agg hl ha hb hc hv) .nil) rfl, List.nodup_nil, fun _ hi => by omega, rfl, rfl⟩

theorem Ends.cell1 {a t id off s : Nat} {ty : TypeId} {cs : List AV} {d : D} (hl : lay P t = some (false, s)) (ha : st.fr.get a = .mptr id 0 0 off) (hb : st.hp[id]? = some (.box ty cs)) (hv : cs[off]? = some (.d d)) : Ends P 0 [.cell a t] (.d d) [] st :=
  ⟨_, [], .mk _ (.cons (.one hl ha hb hv) .nil) rfl, List.nodup_nil, fun _ hi => by omega, rfl, rfl⟩

theorem blk_hole {hp r r' : List Blk} (h : hp = .hole :: r) (hr : r = r') : hp = .hole :: r' := hr ▸ h

theorem rd_makeFuncD {o : Oper} {ev : Operand → AV} {hp : List Blk} {F : FuncId} {caps : Array Operand} {ds : List D} (ho : o.op = .makeFunc (.func F) #[] caps) (hx : evD (caps.toList.map ev) = some ds) : RdOk C o ev hp (.d (.clo F ds)) :=
  RdOk.mk fun st hhp hag g a w hs => by
    refine ⟨.func (.func F) #[] (caps.map a.eval), by simp [execOp, ho, Instr.makeFunc], .d _ _ (.clo _ _ _ ?_ fun i c v hc hv => ?_)⟩
    · have := congrArg List.length (evD_some hx); simpa using this.symm
    · simp only [Array.getElem?_map, Option.map_eq_some_iff] at hv
      obtain ⟨z, hz, rfl⟩ := hv
      have h1 : (caps.toList.map ev)[i]? = some (.d c) := by rw [evD_some hx]; simp [hc]
      simp only [List.getElem?_map, Option.map_eq_some_iff] at h1
      obtain ⟨y, hy, hyc⟩ := h1
      have e : y = z := by rw [← Array.getElem?_toList, hy] at hz; exact Option.some.inj hz
      subst e
      have h := hs.ev y
      rw [hag y (by simp only [ho, Op.operands]; exact Array.mem_append.2 (.inr (Array.mem_toList_iff.1 (List.mem_of_getElem? hy)))), hyc] at h
      cases h with | d _ _ h => exact h

theorem rd_fieldvD {o : Oper} {ev : Operand → AV} {hp : List Blk} {s : TypeId} {x : Operand} {f fo n : Nat} {u : AV} {d : D} (ho : o.op = .field s x f) (hf : fldv C.P s f = some (fo, false, n)) (hx : ev x = u) (hagg : u.isAgg = true) (hv : u.cells[fo]? = some (.d d)) : RdOk C o ev hp (.d d) := rd_fieldv ho hf hx hagg hv
theorem rd_fieldvAD {o : Oper} {ev : Operand → AV} {hp : List Blk} {s : TypeId} {x : Operand} {f fo n : Nat} {u : AV} {ds : List D} (ho : o.op = .field s x f) (hf : fldv C.P s f = some (fo, true, n)) (hx : ev x = u) (hagg : u.isAgg = true) (hle : Nat.ble (fo + n) u.cells.length = true) (hv : mkAgg ((u.cells.drop fo).take n) = .d (.agg ds)) : RdOk C o ev hp (.d (.agg ds)) := rd_fieldvA ho hf hx hagg hle hv

/-! ### Data that say less -/

/-- Whatever the first stands for, the second stands for. -/
def DLe (d d' : D) : Prop := ∀ (w : World) (X : Nat → Prop) (v : Value), DRep w X d v → DRep w X d' v
theorem DLe.refl (d : D) : DLe d d := fun _ _ _ h => h
theorem DLe.nil (sz : Nat) : DLe .nilsl (.sl sz []) := fun _ _ _ h => by cases h; exact .sl0 _ _ _
inductive DLes : List D → List D → Prop
  | nil : DLes [] []
  | cons {d d' : D} {ds ds' : List D} (h : DLe d d') (h1 : d'.one = true) (hr : DLes ds ds') : DLes (d :: ds) (d' :: ds')
theorem DLe.agg {ds ds' : List D} (h : DLes ds ds') : DLe (.agg ds) (.agg ds') := by
  have key : ds.length = ds'.length ∧ (∀ d ∈ ds', d.one = true) ∧ ∀ (i : Nat) (c c' : D), ds[i]? = some c → ds'[i]? = some c' → DLe c c' := by
    induction h with
    | nil => exact ⟨rfl, fun d hd => by simp at hd, fun i c c' h => by simp at h⟩
    | cons h h1 _ ih =>
      refine ⟨by simp [ih.1], fun d hd => ?_, fun i c c' hc hc' => ?_⟩
      · rcases List.mem_cons.1 hd with rfl | hd
        · exact h1
        · exact ih.2.1 d hd
      cases i with
      | zero => simp at hc hc'; subst hc hc'; exact h
      | succ i => exact ih.2.2 i c c' (by simpa using hc) (by simpa using hc')
  intro w X v hv
  cases hv with
  | agg _ vs hl _ hr =>
    refine .agg _ vs (key.1 ▸ hl) key.2.1 fun i c v hc hv => ?_
    have hi : i < ds.length := by rw [key.1]; exact (List.getElem?_eq_some_iff.1 hc).1
    exact key.2.2 i ds[i] c (by simp [hi]) hc w X v (hr i ds[i] v (by simp [hi]) hv)

theorem Ret.weak {F : FuncId} {hp hp' : List Blk} {mv : Nat → Bool} {args : List AV} {d d' : D} (h : Ret P F hp mv args (.d d) hp') (hd : DLe d d') : Ret P F hp mv args (.d d') hp' :=
  ⟨h.1, fun w g vs ho ha => (h.2 w g vs ho ha).mono fun e w' ⟨v, g', he, ho', hr⟩ => ⟨v, g', he, ho', by cases hr with | d _ _ hr => exact .d _ _ (hd _ _ _ hr)⟩⟩

section weak
variable {ops : Array Oper} {l : List Oper} {K : St → Prop} {fr : Fr} {hp : List Blk}

theorem Sim.weak {C : Ctx} {fr : Fr} {hp : List Blk} {g : Gh} {a : Act} {w : World} (h : Sim C ⟨fr, hp⟩ g a w) (t : Nat) {d d' : D} (hv : Fr.get fr t = .d d) (hd : DLe d d') : Sim C ⟨(t, .d d') :: fr, hp⟩ g a w := by
  refine { h with fr := fun s => ?_ }
  simp only [Fr.get]
  split
  · rename_i e; subst e
    have := h.fr t
    simp only [hv] at this
    cases this with | d _ _ hr => exact .d _ _ (hd _ _ _ hr)
  · exact h.fr s
theorem s_weak (t : Nat) {d : D} (d' : D) (hv : Fr.get fr t = .d d) (hd : DLe d d') (h : TOps C ops l ⟨(t, .d d') :: fr, hp⟩ K) : TOps C ops l ⟨fr, hp⟩ K := fun g a w hs => h g a w (Sim.weak hs t hv hd)
theorem c_weak {c : Code} {Q : Exit → St → Prop} (t : Nat) {d : D} (d' : D) (hv : Fr.get fr t = .d d) (hd : DLe d d') (h : TWp C c ⟨(t, .d d') :: fr, hp⟩ Q) : TWp C c ⟨fr, hp⟩ Q := fun g a w hs => h g a w (Sim.weak hs t hv hd)
end weak

/-! ### Loops -/

/-- A loop: 'var' are the slots that change, 'inv' those that stay; 'chg' the blocks that change, among 'hp0'. -/
theorem twp_whileK {c : Code} {Q : Exit → St → Prop} {α : Type} {fr : Fr} {hp : List Blk} (var : α → Fr) (chg : α → List (Nat × Blk)) (ok : α → Prop) (m : α → Nat) (vk ik ids : List Nat) (x0 : α) {inv : Fr} {hp0 : List Blk} (hnd : ids.Nodup) (hk : ∀ i, i < C.k → ids[i]? = some i) (h0 : ok x0)
    (hI : SubK fr ik inv) (hI' : Fr.mapRef (toName (placeOf ids)) inv = inv) (hV : Fr.mapRef (toName (placeOf ids)) (Fr.keep vk fr) = var x0) (hH : ids.map (fun i => (hp.getD i .dead).mapRef (toName (placeOf ids))) = hp0) (hC : hp0 = wr (chg x0) hp0)
    (round : ∀ x, ok x → TWp C c ⟨var x ++ inv, wr (chg x) hp0⟩ (thenA (fun st' => ∃ y ids', ids'.Nodup ∧ (∀ i, i < C.k → ids'[i]? = some i) ∧ ok y ∧ m y < m x ∧ st'.canon (vk ++ ik) ids' = ⟨var y ++ inv, wr (chg y) hp0⟩) Q)) : TWp C (.loop c) ⟨fr, hp⟩ Q := by
  refine twp_while (fun x => (⟨var x ++ inv, wr (chg x) hp0⟩ : St)) ok m (vk ++ ik) ids x0 hnd hk h0 ?_ round
  simp only [St.canon]
  have e1 : Fr.keep (vk ++ ik) fr = Fr.keep vk fr ++ inv := by
    rw [hI.keep]; simp [Fr.keep]
  have e2 : ∀ (F : AV → AV) (a b : Fr), Fr.mapRef F (a ++ b) = Fr.mapRef F a ++ Fr.mapRef F b := by
    intro F a b
    induction a with
    | nil => rfl
    | cons x r ih => obtain ⟨t, v⟩ := x; simp [Fr.mapRef, ih]
  rw [e1, e2, hI', hV, hH]
  congr 1

end Go.TL
