/- Trees in place of memory, part R: rows of zeros appended to nil, capacities of nil, nil cut, literals that fill holes, rows forgotten. No condition. -/
import Derived.Test.YtckkkfgjgjoemaaTlQ
import Derived.Lib.AppendZeros
set_option linter.unusedVariables false
set_option linter.unusedSimpArgs false
namespace Go.TL

variable {C : Ctx} {st : St} {g : Gh} {a : Act} {w : World} {P : Program} {o : Oper} {K : St → Prop} {ev : Operand → AV} {hp : List Blk}

theorem nilsl_inv {X : Nat → Prop} {v : Value} (h : ARep w g (.d .nilsl) v) : ∃ ad, v = .slice ad 0 0 := by
  cases h with | d _ _ h => cases h; exact ⟨_, rfl⟩

theorem run_zeros (w : World) (t tn ty e : TypeId) (i : TypeInfo) (z : Value) (k kn : IntKind) (ht : P.underlying t = some (.slice e)) (htn : P.underlying tn = some (.int kn)) (hi : P.info? e = some i) (hz : i.zero = some z)
    (n : Nat) (ad : Option Addr) (h0 : 0 < n) (hs : 0 < i.size) (h63 : (n : Int) ≤ 9223372036854775807) (h48 : n * i.bytes ≤ 281474976710656) :
    (Builtin.append_ #[t, tn] ty #[.slice ad 0 0, .int k n]).run P w =
      .ok (.slice (some ⟨w.heap.size, 0, none⟩) n (grownCap w n 0 e)) (w.drew.alloc (.cells (Builtin.zeroCells z.cells n ++ Builtin.zeroCells z.cells (grownCap w n 0 e - n)) e)) := by
  cases ad with
  | none => exact Lib.run_append_nil_zeros w t tn ty e i z k kn ht htn hi hz n h0 hs h63 h48
  | some b =>
    have hn : n ≠ 0 := by omega
    have hw : IntKind.i64.wrap (n : Int) = n := by rw [IntKind.wrap_i64]; omega
    have h63' : ¬ (9223372036854775807 < (n : Int)) := by omega
    have h48' : ¬ (281474976710656 < Builtin.nextslicecap n 0 * i.bytes) := by rw [nextslicecap_zero h0]; omega
    have h48i : ¬ (281474976710656 < (n : Int) * (i.bytes : Int)) := by
      rw [← Int.natCast_mul]
      omega
    have hneg : ¬ ((n : Int) < 0) := by omega
    have hns : ¬ (n * i.size = 0) := Nat.mul_ne_zero hn (by omega)
    have hf := run_firstCells_some (P := P) w.drew i.size 0 b 0 0 [] (by simp) (fun j v h => by simp at h)
    simp [Builtin.append_, run_underlying ht, run_underlying htn, sizeOf, typeInfo, zeroValue, hi, hz, asInt, asIntOf, hw, hn, hneg, hns, h63', h48', h48i, Question.forced, hf, newRow, grownCap]

theorem ok_zeros {t tn e : TypeId} {x y : Operand} {sz by' n : Nat} {z : Value} {k kn : IntKind} (ho : o.op = .call { callee := .builtin .append, args := #[x, y], argTypes := #[t, tn] }) (hd : dstOk C.n o.dst = true) (hl : sel C.P t = some (e, sz, by')) (htn : C.P.underlying tn = some (.int kn))
    (hz : (C.P.info? e).bind (·.zero) = some z) (hx : st.fr.ev x = .d .nilsl) (hy : st.fr.ev y = .d (.int k n)) (hzc : z.cells.size = sz) (h0 : 0 < n) (hs0 : 0 < sz) (hlen : n * by' ≤ 281474976710656) (hlen' : n ≤ 9223372036854775807)
    (hK : K (St.put ⟨st.fr, st.hp ++ [.flat e sz []]⟩ o.dst (.msl st.hp.length sz 0 n))) : OpOk C o st K :=
  OpOk.change fun g a w hsim => by
    obtain ⟨inf, hun, hi, hsz, hby⟩ := sel_inv hl
    obtain ⟨i', hi', hzero⟩ := zero_inv hz
    cases hi.symm.trans hi'
    have hvx := hsim.ev x
    rw [hx] at hvx
    obtain ⟨ad, hex⟩ := nilsl_inv (X := g.X) hvx
    have hvy := hsim.ev y
    rw [hy] at hvy
    have hey := int_inv hvy
    have hr := run_zeros (P := C.P) w t tn o.type e inf z k kn hun htn hi hzero n ad h0 (by omega) (by omega) (by rw [hby]; exact hlen)
    rw [← hex, ← hey] at hr
    have hcap : n ≤ grownCap w n 0 e := grownCap_ge w n 0 e
    obtain ⟨h1, _⟩ := newFlat (ty := e) (sz := sz) (es := []) (vs := Builtin.zeroCells z.cells n ++ Builtin.zeroCells z.cells (grownCap w n 0 e - n)) hsim.drew (by simp) (fun i e h => by simp at h) (fun i e j c h => by simp at h) (fun i e j c h => by simp at h)
    have h3 : ARep (w.drew.alloc (.cells (Builtin.zeroCells z.cells n ++ Builtin.zeroCells z.cells (grownCap w n 0 e - n)) e)) (g.new st.hp.length w.heap.size (Builtin.zeroCells z.cells n ++ Builtin.zeroCells z.cells (grownCap w n 0 e - n)).size) (.msl st.hp.length sz 0 n) (.slice (some ⟨w.heap.size, 0, none⟩) n (grownCap w n 0 e)) := by
      have := ARep.msl (w := w.drew.alloc (.cells (Builtin.zeroCells z.cells n ++ Builtin.zeroCells z.cells (grownCap w n 0 e - n)) e)) (g := g.new st.hp.length w.heap.size (Builtin.zeroCells z.cells n ++ Builtin.zeroCells z.cells (grownCap w n 0 e - n)).size) st.hp.length sz 0 n (grownCap w n 0 e) w.heap.size (by simp [Gh.new, upd]) hcap (by
        simp only [Gh.new, upd, if_true, Array.size_append, size_zeroCells, hzc, Nat.zero_add, ← Nat.add_mul]
        rw [show n + (grownCap w n 0 e - n) = grownCap w n 0 e by omega]
        exact Nat.le_refl _)
      simpa using this
    refine ⟨_, _, ?_, _, _, hK, h1.put' hd h3⟩
    simp only [execOp, ho]
    simp [resolve, invoke, builtin, hr]

section steps
variable {ops : Array Oper} {l : List Oper} {fr : Fr} {d : Nat} {ty : TypeId} {pos : String} {after : Array Edge} {t tn e : TypeId} {x y : Operand} {sz by' n : Nat} {z : Value} {k kn : IntKind}
theorem s_zeros (hd : decide (d < C.n) = true) (hl : sel C.P t = some (e, sz, by')) (htn : C.P.underlying tn = some (.int kn)) (hz : (C.P.info? e).bind (·.zero) = some z) (hx : fr.ev x = .d .nilsl) (hy : fr.ev y = .d (.int k n)) (hzc : z.cells.size = sz) (h0 : 0 < n) (hs0 : 0 < sz) (hlen : n * by' ≤ 281474976710656) (hlen' : n ≤ 9223372036854775807)
    (h : TOps C ops l ⟨(d, .msl hp.length sz 0 n) :: fr, hp ++ [.flat e sz []]⟩ K) : TOps C ops (⟨some d, .call { callee := .builtin .append, args := #[x, y], argTypes := #[t, tn] }, ty, pos, after, none⟩ :: l) ⟨fr, hp⟩ K :=
  tops_cons rfl (ok_zeros rfl hd hl htn hz hx hy hzc h0 hs0 hlen hlen' h)
end steps

section rds
variable {t e : TypeId} {x : Operand} {sz by' : Nat}
theorem cap_nil (ho : o.op = .call { callee := .builtin .cap, args := #[x], argTypes := #[t] }) (hl : sel C.P t = some (e, sz, by')) (hx : ev x = .d .nilsl) : RdOk C o ev hp (.d (.int .i64 0)) :=
  RdOk.mk fun st hhp hag g a w hs => by
    have h := hs.ev x
    rw [hag x (by simp [ho, Op.operands, Call.operands]), hx] at h
    obtain ⟨inf, hu, hi, _, _⟩ := sel_inv hl
    obtain ⟨ad, he⟩ := nilsl_inv (X := g.X) h
    refine ⟨goInt 0, ?_, .d _ _ (.int _ _)⟩
    simp only [execOp, ho]
    simp [resolve, invoke, builtin, Builtin.cap_, run_underlying hu, he]

theorem cut_nil {lo hi : Option Operand} (ho : o.op = .slice t x lo hi none) (hl : sel C.P t = some (e, sz, by')) (hx : ev x = .d .nilsl) (hlo : bnd 0 (lo.map ev) = some 0) (hhi : bnd 0 (hi.map ev) = some 0) : RdOk C o ev hp (.d .nilsl) :=
  RdOk.mk fun st hhp hag g a w hs => by
    have h := hs.ev x
    rw [hag x (by simp [ho, Op.operands]), hx] at h
    have bound : ∀ (q : Option Operand), (∀ y, q = some y → y ∈ o.op.operands) → bnd 0 (q.map ev) = some 0 → (q.map a.eval = none ∧ (0 : Nat) = 0) ∨ ∃ k, q.map a.eval = some (.int k ((0 : Nat) : Int)) := by
      intro q hq hb
      cases q with
      | none => exact .inl ⟨rfl, rfl⟩
      | some y =>
        have hy := hs.ev y
        rw [hag y (hq y rfl)] at hy
        simp only [Option.map_some] at hb ⊢
        unfold bnd at hb
        split at hb
        · rename_i e; cases e
        · rename_i k m e
          rw [Option.some.inj e] at hy
          cases hb
          exact .inr ⟨k, by rw [int_inv hy]; rfl⟩
        · cases hb
    have hlo' := bound lo (fun y hy => by subst hy; simp [ho, Op.operands]) hlo
    have hhi' := bound hi (fun y hy => by subst hy; simp [ho, Op.operands]) hhi
    obtain ⟨ad, he⟩ := nilsl_inv (X := g.X) h
    have := run_cut hl w ad 0 0 (lo.map a.eval) (hi.map a.eval) 0 0 hlo' hhi' (Nat.le_refl _) (Nat.le_refl _)
    refine ⟨.slice ad 0 0, ?_, .d _ _ (.nilsl _)⟩
    simp only [execOp, ho, he, Option.map_none, Sem.run_bind, this, Result.andThen_ok, Sem.run_pure]
    simp

/-- A literal that fills a hole. -/
theorem w_litD {i : Nat} {parts : Array (Nat × Operand)} {n : Nat} {ds : List D} {z : Value} (xs : List Operand) (hi : hp[i]? = some .hole) (ho : o.op = .buildSlice t n parts) (hl : sel C.P t = some (e, sz, by')) (hz : (C.P.info? e).bind (·.zero) = some z) (hp' : denseParts parts xs)
    (hx : evD (xs.map ev) = some ds) (hn : Nat.beq ds.length n = true) (hs : (ds.all fun d => Nat.beq d.cells.length sz) = true) (hsmall : Nat.ble (n * sz) 16777216 = true) : DOk C o ev hp (.msl i sz 0 n) [(i, .flat e sz ds)] :=
  DOk.mk fun st hhp hag g a w hsim => by
    have hmem : ∀ x ∈ xs, x ∈ o.op.operands := by
      intro x hx
      simp only [ho, Op.operands]
      obtain ⟨i, hi⟩ := List.getElem?_of_mem hx
      have : (xs.zipIdx.map fun x => (x.2, x.1))[i]? = some (i, x) := by simp [hi]
      rw [← hp'] at this
      simp only [List.mem_toArray, List.mem_map]
      exact ⟨(i, x), List.mem_of_getElem? this, rfl⟩
    have hev : xs.map st.fr.ev = ds.map AV.d := by
      rw [← evD_some hx]
      exact List.map_congr_left fun x hx => hag x (hmem x hx)
    obtain ⟨vs, hr, row, _⟩ := core_buildSlice (st := st) sz by' xs ds z ho hl hz hp' hev (Nat.eq_of_beq_eq_true hn) (fun d hd => Nat.eq_of_beq_eq_true (List.all_eq_true.1 hs d hd)) (Nat.le_of_ble_eq_true hsmall) hsim
    obtain ⟨g', h1, h2⟩ := row.filled (ty := e) hsim (hole_at hi hhp) n (Nat.eq_of_beq_eq_true hn).symm
    exact ⟨_, _, g', hr, h1, h2⟩
end rds

end Go.TL
