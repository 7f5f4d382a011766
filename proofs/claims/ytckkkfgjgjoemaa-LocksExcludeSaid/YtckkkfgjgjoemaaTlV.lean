/- Trees in place of memory, part V: closures, interfaces, comparisons with nil; blocks frozen; calls that write the caller's blocks; loops whose state is given by what changes. No condition. -/
import Derived.Test.YtckkkfgjgjoemaaTlU
import Derived.Laws.Small
namespace Go.TL

variable {C : Ctx} {st : St} {g : Gh} {a : Act} {w : World} {P : Program}

/-! ### Closures -/

theorem rd_makeFunc {o : Oper} {ev : Operand → AV} {hp : List Blk} {F : FuncId} {caps : Array Operand} (ho : o.op = .makeFunc (.func F) #[] caps) : RdOk C o ev hp (.fnc F (caps.toList.map ev)) :=
  RdOk.mk fun st hhp hag g a w hs => by
    refine ⟨.func (.func F) #[] (caps.map a.eval), by simp [execOp, ho, Instr.makeFunc], .fnc _ _ _ (by simp) fun i c v hc hv => ?_⟩
    simp only [List.getElem?_map, Option.map_eq_some_iff] at hc
    simp only [Array.getElem?_map, Option.map_eq_some_iff] at hv
    obtain ⟨y, hy, rfl⟩ := hc
    obtain ⟨z, hz, rfl⟩ := hv
    have e : y = z := by rw [← Array.getElem?_toList, hy] at hz; exact Option.some.inj hz
    subst e
    have h := hs.ev y
    rw [hag y (by simp only [ho, Op.operands]; exact Array.mem_append.2 (.inr (Array.mem_toList_iff.1 (List.mem_of_getElem? hy))))] at h
    exact h

/-- What function a datum is, and what it has caught. -/
def fnOf : D → Option (FuncId × List D)
  | .fn F => some (F, [])
  | .clo F cs => some (F, cs)
  | _ => none

theorem fnOf_inv {c : D} {F : FuncId} {cs : List D} {X : Nat → Prop} {v : Value} (h : DRep w X c v) (hc : fnOf c = some (F, cs)) : ∃ vs : Array Value, v = .func (.func F) #[] vs ∧ Pw (DRep w X) cs vs.toList := by
  cases h with
  | fn f => cases hc; exact ⟨#[], rfl, rfl, fun i x y h => by simp at h⟩
  | clo f cs vs hl h => cases hc; exact ⟨vs, rfl, by simpa using hl, fun i x y hx hy => h i x y hx (by simpa using hy)⟩
  | _ => cases hc

theorem Out.frozen {hp' : List Blk} {g' : Gh} {w' : World} {mv : Nat → Bool} (hs : Sim C st g a w) (hout : Out ⟨C.P, 0, w, 0, ghost0 g.X, mv⟩ hp' g' w') :
    ∃ g2, Sim C st g2 a w' ∧ ∀ (r : AV) (d : D) (v : Value), ARep w' g' r v → Snap hp' r d → ARep w' g2 (.d d) v := by
  have hX : ∀ b, g'.X b → b < w.heap.size → g.X b := fun b hb hlt => hout.Xold b hb hlt
  have hold : ∀ b, b < w.heap.size → w'.heap[b]? = w.heap[b]? := fun b hb => hout.keep b hb fun i hi => absurd hi (Nat.not_lt_zero i)
  have hsz := hout.grown
  simp only at hsz
  let g2 : Gh := { g with X := fun b => g.X b ∨ (w.heap.size ≤ b ∧ b < w'.heap.size) }
  have hgr : Grow w g w' g2 := ⟨fun _ _ h => h, fun _ _ _ => rfl, fun _ h => .inl h, fun b hb => hold b (hs.Xlt b hb)⟩
  refine ⟨g2, ?_, fun r d v hr hsn => (.d _ _ (snap_rep (st := ⟨[], hp'⟩) hout.hp hsn (Y := g2.X) (fun b hb => ?_) (fun i b hp => ?_) hr))⟩
  · refine { defers := hs.defers, size := hs.size, fr := fun t => (hs.fr t).mono hgr, hp := fun i B hB => (hs.hp i B hB).mono hgr id fun b hb => hold b (hs.lt i b hb).1, lt := ?_, inj := hs.inj, Xlt := ?_, Xold := ?_
             os := hout.os.trans hs.os, tape := hout.tape.trans hs.tape, output := hout.output.trans hs.output, drawn := Nat.le_trans hs.drawn hout.drawn, grown := Nat.le_trans hs.grown hsz, keep := ?_, own := hs.own, stay := hs.stay, kle := hs.kle }
    · intro i b hp
      have := hs.lt i b hp
      refine ⟨by omega, this.2.1, fun hX => ?_⟩
      rcases hX with hX | ⟨hX, _⟩
      · exact this.2.2 hX
      · omega
    · intro b hb
      rcases hb with hb | ⟨_, hb⟩
      · have := hs.Xlt b hb; omega
      · exact hb
    · intro b hb hlt
      rcases hb with hb | ⟨hge, _⟩
      · exact hs.Xold b hb hlt
      · have := hs.grown; omega
    · intro b hb hk
      rw [hold b (by have := hs.grown; omega)]
      exact hs.keep b hb hk
  · by_cases hlt : b < w.heap.size
    · exact .inl (hX b hb hlt)
    · exact .inr ⟨by omega, hout.Xlt b hb⟩
  · refine .inr ⟨?_, (hout.lt i b hp).1⟩
    rcases Nat.lt_or_ge b w.heap.size with hlt | hge
    · obtain ⟨_, hj, _⟩ := hout.own i b hp hlt; exact absurd hj (Nat.not_lt_zero _)
    · exact hge

/-- Several results, each read as data. -/
inductive SnapT (hp : List Blk) : AV → List D → Prop
  | mk (xs : List AV) (ds : List D) (h : Snaps hp xs ds) : SnapT hp (.tup xs) ds

/-- Called with this data the function returns several results, which are this data. -/
def RetT (P : Program) (F : FuncId) (ds : List D) (rs : List D) : Prop := ∃ mv r hp', Ret P F [] mv (ds.map .d) r hp' ∧ SnapT hp' r rs

theorem dargs {ev : Operand → AV} {xs : Array Operand} {ds cs : List D} {vs : Array Value} (hs : Sim C st g a w) (hag : ∀ y ∈ xs, st.fr.ev y = ev y) (hx : xs.toList.map ev = ds.map .d) (hc : Pw (DRep w g.X) cs vs.toList) :
    Pw (ARep w (ghost0 g.X)) ((ds ++ cs).map .d) (xs.map a.eval ++ vs).toList := by
  rw [List.map_append, Array.toList_append]
  refine Pw.append ?_ ?_
  · refine ⟨by have := congrArg List.length hx; simpa using this.symm, fun i x v hxi hv => ?_⟩
    simp only [Array.toList_map, List.getElem?_map, Option.map_eq_some_iff] at hv
    obtain ⟨y, hy, rfl⟩ := hv
    have h1 : (xs.toList.map ev)[i]? = some (ev y) := by simp [hy]
    rw [hx, hxi] at h1
    cases h1
    have h2 := hs.ev y
    rw [hag y (Array.mem_toList_iff.1 (List.mem_of_getElem? hy))] at h2
    simp only [List.getElem?_map, Option.map_eq_some_iff] at hxi
    obtain ⟨d, _, hd⟩ := hxi
    rw [← hd] at h2 ⊢
    cases h2 with | d _ _ h => exact .d _ _ h
  · refine ⟨by simpa using hc.1, fun i x v hxi hv => ?_⟩
    simp only [List.getElem?_map, Option.map_eq_some_iff] at hxi
    obtain ⟨d, hd, rfl⟩ := hxi
    exact .d _ _ (hc.2 i d v hd hv)

section calls
variable {o : Oper} {ev : Operand → AV} {hp : List Blk} {f : Operand} {xs : Array Operand} {ts : Array TypeId} {F : FuncId}

/-- A call of a closure, or of a function, with data. -/
theorem rd_callC {c : D} {cs ds : List D} {d : D} (ho : o.op = .call { callee := .value f, args := xs, argTypes := ts }) (hf : ev f = .d c) (hc : fnOf c = some (F, cs)) (hx : xs.toList.map ev = ds.map .d) (hret : RetD C.P F (ds ++ cs) d) : RdOk C o ev hp (.d d) := by
  obtain ⟨mv, r, hp', hret, hsn⟩ := hret
  intro st hhp hag g a w hs Q K' hK
  have hfv := hs.ev f
  rw [hag f (by simp [ho, Op.operands, Call.operands]), hf] at hfv
  obtain ⟨vs, hv, hvs⟩ : ∃ vs : Array Value, a.eval f = .func (.func F) #[] vs ∧ Pw (DRep w g.X) cs vs.toList := by
    cases hfv with | d _ _ h => exact fnOf_inv h hc
  have hargs := dargs hs (fun y hy => hag y (by simp only [ho, Op.operands, Call.operands]; exact Array.mem_append.2 (.inr hy))) hx hvs
  simp only [Oper.wp, run_exec_call ho hv hret.1, Oper.upon_enter]
  refine (hret.2 w (ghost0 g.X) _ (out0 hs mv hs.Xlt) hargs).mono ?_
  rintro e w' ⟨v, g', rfl, hout, hr⟩
  obtain ⟨g2, h1, h2⟩ := Out.frozen hs hout
  exact hK v w' g2 h1 (h2 _ _ _ hr hsn)

/-- ... that yields several results. -/
theorem rd_callCT {c : D} {cs ds rs : List D} (ho : o.op = .call { callee := .value f, args := xs, argTypes := ts }) (hf : ev f = .d c) (hc : fnOf c = some (F, cs)) (hx : xs.toList.map ev = ds.map .d) (hret : RetT C.P F (ds ++ cs) rs) : RdOk C o ev hp (.tup (rs.map .d)) := by
  obtain ⟨mv, r, hp', hret, hsn⟩ := hret
  intro st hhp hag g a w hs Q K' hK
  have hfv := hs.ev f
  rw [hag f (by simp [ho, Op.operands, Call.operands]), hf] at hfv
  obtain ⟨vs, hv, hvs⟩ : ∃ vs : Array Value, a.eval f = .func (.func F) #[] vs ∧ Pw (DRep w g.X) cs vs.toList := by
    cases hfv with | d _ _ h => exact fnOf_inv h hc
  have hargs := dargs hs (fun y hy => hag y (by simp only [ho, Op.operands, Call.operands]; exact Array.mem_append.2 (.inr hy))) hx hvs
  simp only [Oper.wp, run_exec_call ho hv hret.1, Oper.upon_enter]
  refine (hret.2 w (ghost0 g.X) _ (out0 hs mv hs.Xlt) hargs).mono ?_
  rintro e w' ⟨v, g', rfl, hout, hr⟩
  cases hsn with
  | mk ys ds' hsn =>
    cases hr with
    | tup _ us hl hr =>
      obtain ⟨g2, h1, h2⟩ := Out.frozen hs hout
      refine hK _ w' g2 h1 (.tup _ us (by rw [List.length_map, ← hsn.1]; exact hl) fun i c u hci hu => ?_)
      simp only [List.getElem?_map, Option.map_eq_some_iff] at hci
      obtain ⟨d, hd, rfl⟩ := hci
      have hi : i < ys.length := by rw [hsn.1]; exact (List.getElem?_eq_some_iff.1 hd).1
      exact h2 _ _ _ (hr i ys[i] u (by simp [hi]) hu) (hsn.2 i ys[i] d (by simp [hi]) hd)

end calls

/-! ### Interfaces -/

/-- A type that is no interface. -/
def conc (P : Program) (t : TypeId) : Bool :=
  match P.underlying t with
  | some (.interface _) => false
  | some _ => true
  | none => false

theorem conc_inv {t : TypeId} (h : conc P t = true) : ∃ u, P.underlying t = some u ∧ ∀ ms, u ≠ .interface ms := by
  unfold conc at h
  split at h
  · cases h
  · rename_i u hne hu; exact ⟨u, hu, fun ms e => hne ms e⟩
  · cases h

section ifc
variable {o : Oper} {ev : Operand → AV} {hp : List Blk} {x y : Operand} {t : TypeId}

theorem rd_mkIface {d : D} (ho : o.op = .makeInterface t x) (hc : conc C.P t = true) (hx : ev x = .d d) : RdOk C o ev hp (.d (.iface t d)) :=
  RdOk.mk fun st hhp hag g a w hs => by
    have h := hs.ev x
    rw [hag x (by simp [ho, Op.operands]), hx] at h
    obtain ⟨u, hu, hne⟩ := conc_inv hc
    refine ⟨.iface t (a.eval x), ?_, .d _ _ (.iface _ _ _ (by cases h with | d _ _ h => exact h))⟩
    simp only [execOp, ho]
    cases u <;> first | (exfalso; exact hne _ rfl) | simp [Instr.makeInterface, run_underlying hu]

theorem rd_assertYes {xt : TypeId} {d : D} (ho : o.op = .typeAssert x xt t true) (hc : conc C.P t = true) (hx : ev x = .d (.iface t d)) : RdOk C o ev hp (.tup [.d d, .d (.bool true)]) :=
  RdOk.mk fun st hhp hag g a w hs => by
    have h := hs.ev x
    rw [hag x (by simp [ho, Op.operands]), hx] at h
    generalize he : a.eval x = vx at *
    obtain ⟨u, hu, hne⟩ := conc_inv hc
    cases h with
    | d _ _ h =>
      cases h with
      | iface _ _ v h =>
        refine ⟨.tuple #[v, .bool true], ?_, .tup _ _ rfl fun i c v hc hv => ?_⟩
        · simp only [execOp, ho, he]
          cases u <;> first | (exfalso; exact hne _ rfl) | simp [Instr.typeAssert, run_underlying hu]
        · match i, hc, hv with
          | 0, hc, hv => simp at hc hv; subst hc hv; exact .d _ _ h
          | 1, hc, hv => simp at hc hv; subst hc hv; exact .d _ _ (.bool true)
          | i + 2, hc, _ => simp at hc

theorem run_zeroValue {t : TypeId} {z : Value} (hz : (P.info? t).bind (·.zero) = some z) (w : World) : (zeroValue t).run P w = .ok z w := by
  obtain ⟨i, hi, hzi⟩ := zero_inv hz
  simp [zeroValue, typeInfo, hi, hzi]

theorem rd_assertNo {xt t' : TypeId} {d : D} {z : Value} {zd : D} (ho : o.op = .typeAssert x xt t true) (hc : conc C.P t = true) (hx : ev x = .d (.iface t' d)) (hne' : Nat.beq t' t = false) (hz : (C.P.info? t).bind (·.zero) = some z) (hzd : ofConst z = .d zd) : RdOk C o ev hp (.tup [.d zd, .d (.bool false)]) :=
  RdOk.mk fun st hhp hag g a w hs => by
    have h := hs.ev x
    rw [hag x (by simp [ho, Op.operands]), hx] at h
    generalize he : a.eval x = vx at *
    obtain ⟨u, hu, hne⟩ := conc_inv hc
    have hneq : ¬ t' = t := fun e => by subst e; simp at hne'
    cases h with
    | d _ _ h =>
      cases h with
      | iface _ _ v h =>
        refine ⟨.tuple #[z, .bool false], ?_, .tup _ _ rfl fun i c v hc hv => ?_⟩
        · simp only [execOp, ho, he]
          cases u <;> first | (exfalso; exact hne _ rfl) | simp [Instr.typeAssert, run_underlying hu, hneq, run_zeroValue hz]
        · match i, hc, hv with
          | 0, hc, hv => simp at hc hv; subst hc hv; rw [← hzd]; exact ofConst_rep w g _
          | 1, hc, hv => simp at hc hv; subst hc hv; exact .d _ _ (.bool false)
          | i + 2, hc, _ => simp at hc

/-! ### Slices compared with nil; the lesser and the greater -/

theorem run_eqNil {t e : TypeId} (hu : P.underlying t = some (.slice e)) (b : Option Addr) (n cap : Nat) (w : World) : (binOp .eql t (.slice b n cap) (.slice none 0 0)).run P w = .ok (.bool b.isNone) w := by
  have h : (Op.equalIn (9999 + 1) t (.slice b n cap) (.slice none 0 0)).run P w = .ok b.isNone w := by
    unfold Op.equalIn
    cases b <;> simp [run_underlying hu]
  have h' : (Op.equal t (.slice b n cap) (.slice none 0 0)).run P w = .ok b.isNone w := h
  simp [binOp, h']

theorem guard_sl {op : BinOp} {t : TypeId} {b b' : Option Addr} {n n' cap cap' : Nat} (w : World) : (eqGuard op t x y (.slice b n cap) (.slice b' n' cap')).run P w = .ok () w := by
  unfold eqGuard
  cases op <;> simp

/-- A slice compared with nil: where it has elements it is not nil; else nobody can say. -/
theorem eqNil {o : Oper} {K : St → Prop} {t t' e : TypeId} {x y : Operand} {d : D} {n : Nat} (ho : o.op = .binOp .eql t x y t') (hd : dstOk C.n o.dst = true) (hu : C.P.underlying t = some (.slice e)) (hx : st.fr.ev x = .d d) (hn : (AV.d d).slLen = some n) (hy : st.fr.ev y = .d .nilsl) (hy' : y = .const (.slice none 0 0))
    (h : ∀ b : Bool, (b = true → n = 0) → K (st.put o.dst (.d (.bool b)))) : OpOk C o st K := by
  subst hy'
  intro g a w Q hs
  have hv := hs.ev x
  rw [hx] at hv
  obtain ⟨b, len, cap, hv, hb⟩ : ∃ b len cap, a.eval x = .slice b len cap ∧ (b.isNone = true → n = 0) := by
    generalize a.eval x = v at *
    cases hv with
    | d _ _ h =>
      cases h with
      | nilsl ad => exact ⟨_, _, _, rfl, fun _ => by simpa [AV.slLen] using hn.symm⟩
      | sl0 => exact ⟨_, _, _, rfl, fun _ => by simpa [AV.slLen] using hn.symm⟩
      | sl => exact ⟨_, _, _, rfl, fun h => by cases h⟩
      | _ => cases hn
  have hr : (execOp a.eval o).run C.P w = .ok (.value (.bool b.isNone)) w := by
    have he : a.eval (.const (.slice none 0 0)) = .slice none 0 0 := rfl
    simp only [execOp, ho, hv, he, Sem.run_bind, guard_sl, Result.andThen_ok, run_eqNil hu]
    rfl
  simp only [Oper.wp, hr, Oper.upon_value]
  exact ⟨_, g, h _ hb, hs.put' hd (.d _ _ (.bool _))⟩

theorem rd_min {o : Oper} {ev : Operand → AV} {hp : List Blk} {x y : Operand} {ts : Array TypeId} {k : IntKind} {m n r : Int} (ho : o.op = .call { callee := .builtin .min, args := #[x, y], argTypes := ts }) (hx : ev x = .d (.int k m)) (hy : ev y = .d (.int k n)) (hr : min m n = r) : RdOk C o ev hp (.d (.int k r)) :=
  RdOk.mk fun st hhp hag g a w hs => by
    have h := hs.ev x
    rw [hag x (by simp [ho, Op.operands, Call.operands]), hx] at h
    have hi := hs.ev y
    rw [hag y (by simp [ho, Op.operands, Call.operands]), hy] at hi
    refine ⟨.int k r, ?_, .d _ _ (.int k r)⟩
    subst hr
    simp only [execOp, ho]
    simp [resolve, invoke, builtin, int_inv h, int_inv hi, run_min_int2]
    simp only [Int.min_def]; split <;> split <;> first | rfl | omega

theorem rd_max {o : Oper} {ev : Operand → AV} {hp : List Blk} {x y : Operand} {ts : Array TypeId} {k : IntKind} {m n r : Int} (ho : o.op = .call { callee := .builtin .max, args := #[x, y], argTypes := ts }) (hx : ev x = .d (.int k m)) (hy : ev y = .d (.int k n)) (hr : max m n = r) : RdOk C o ev hp (.d (.int k r)) :=
  RdOk.mk fun st hhp hag g a w hs => by
    have h := hs.ev x
    rw [hag x (by simp [ho, Op.operands, Call.operands]), hx] at h
    have hi := hs.ev y
    rw [hag y (by simp [ho, Op.operands, Call.operands]), hy] at hi
    refine ⟨.int k r, ?_, .d _ _ (.int k r)⟩
    subst hr
    simp only [execOp, ho]
    simp [resolve, invoke, builtin, int_inv h, int_inv hi, run_max_int2]
    simp only [Int.max_def]; split <;> split <;> first | rfl | omega

end ifc

/-! ### A field of a struct by value -/

/-- Where a field lies, whether it is a struct, how many cells it has. -/
def fldv (P : Program) (s : TypeId) (f : Nat) : Option (Nat × Bool × Nat) :=
  match P.underlying s with
  | some (.struct fs) => match fs[f]? with
    | some fl => match lay P fl.type with
      | some (b, n) => some (fl.offset, b, n)
      | none => none
    | none => none
  | _ => none

theorem rd_fieldv {o : Oper} {ev : Operand → AV} {hp : List Blk} {s : TypeId} {x : Operand} {f fo n : Nat} {u v : AV} (ho : o.op = .field s x f) (hf : fldv C.P s f = some (fo, false, n)) (hx : ev x = u) (hagg : u.isAgg = true) (hv : u.cells[fo]? = some v) : RdOk C o ev hp v := by
  unfold fldv at hf
  split at hf
  · rename_i fs hu
    split at hf
    · rename_i fl hfl
      split at hf
      · rename_i b n' hl
        cases hf
        exact rd_field _ _ false _ u v fs fl ho hu hfl rfl rfl hl hx hagg (by simpa using hv)
      · cases hf
    · cases hf
  · cases hf

theorem rd_fieldvA {o : Oper} {ev : Operand → AV} {hp : List Blk} {s : TypeId} {x : Operand} {f fo n : Nat} {u v : AV} (ho : o.op = .field s x f) (hf : fldv C.P s f = some (fo, true, n)) (hx : ev x = u) (hagg : u.isAgg = true) (hle : Nat.ble (fo + n) u.cells.length = true) (hv : mkAgg ((u.cells.drop fo).take n) = v) : RdOk C o ev hp v := by
  unfold fldv at hf
  split at hf
  · rename_i fs hu
    split at hf
    · rename_i fl hfl
      split at hf
      · rename_i b n' hl
        cases hf
        exact rd_field _ _ true _ u v fs fl ho hu hfl rfl rfl hl hx hagg ⟨Nat.le_of_ble_eq_true hle, hv.symm⟩
      · cases hf
    · cases hf
  · cases hf

/-! ### A block frozen: from now on it is data -/

def Blk.alive : Blk → Bool
  | .dead => false
  | _ => true

/-- What a reference to block i, which holds B, reads as. -/
def frz (i : Nat) (B : Blk) (al : Nat → Bool) : AV → AV
  | .mptr j s x o => if j = i then (match B with
      | .box _ cs => if s = 0 ∧ x = 0 then (match allD cs with | some ds => .d (.ptr (.agg ds) o) | none => .junk) else .junk
      | .flat _ sz es => if s = sz then (match es[x]? with | some e => .d (.ptr e o) | none => .junk) else .junk
      | _ => .junk) else if al j then .mptr j s x o else .junk
  | .msl j s o l => if j = i then (match B with
      | .flat _ sz es => if s = sz ∧ o + l ≤ es.length then .d (.sl sz ((es.drop o).take l)) else .junk
      | _ => .junk) else if al j then .msl j s o l else .junk
  | .mmap j => if j = i then .junk else if al j then .mmap j else .junk
  | v => v

def aliveAt (hp : List Blk) (j : Nat) : Bool := (hp.getD j .dead).alive

def St.freeze (i : Nat) (st : St) : St :=
  ⟨Fr.mapRef (frz i (st.hp.getD i .dead) (aliveAt st.hp)) st.fr, (st.hp.map (Blk.mapRef (frz i (st.hp.getD i .dead) (aliveAt st.hp)))).set i .dead⟩

theorem aliveAt_inv {hp : List Blk} {j : Nat} (h : aliveAt hp j = true) : ∃ B, hp[j]? = some B ∧ B ≠ .dead := by
  unfold aliveAt at h
  cases hB : hp[j]? with
  | none => rw [List.getD_eq_getElem?_getD, hB] at h; cases h
  | some B => exact ⟨B, rfl, fun e => by subst e; rw [List.getD_eq_getElem?_getD, hB] at h; cases h⟩

theorem Sim.freeze (h : Sim C st g a w) (i : Nat) (hk : C.k ≤ i) (hal : aliveAt st.hp i = true) (hks : ∀ j, j < C.k → C.mv j = false ∧ aliveAt st.hp j = true) : ∃ g', Sim C (st.freeze i) g' a w := by
  obtain ⟨B, hB, hBd⟩ := aliveAt_inv hal
  have hgB : st.hp.getD i .dead = B := by rw [List.getD_eq_getElem?_getD, hB]; rfl
  have hil : i < st.hp.length := (List.getElem?_eq_some_iff.1 hB).1
  let g' : Gh := { phi := fun j => if g.phi j = g.phi i then none else g.phi j, psi := g.psi, X := fun b => g.X b ∨ g.phi i = some b }
  have hphi : ∀ j b, g'.phi j = some b → g.phi j = some b ∧ g.phi i ≠ some b := by
    intro j b hp
    simp only [g'] at hp
    split at hp
    · cases hp
    · rename_i hne; exact ⟨hp, fun e => hne (hp.trans e.symm)⟩
  have keep : ∀ j b, aliveAt st.hp j = true → j ≠ i → g.phi j = some b → g'.phi j = some b := by
    intro j b ha hne hp
    obtain ⟨Bj, hBj, hBjd⟩ := aliveAt_inv ha
    simp only [g']
    rw [if_neg]
    · exact hp
    · intro e
      exact hne (h.inj j i b Bj B hBj hB hBjd hBd hp (e ▸ hp))
  have hX : ∀ b, g.X b → g'.X b := fun b hb => .inl hb
  have hD : ∀ (d : D) (v : Value), DRep w g.X d v → DRep w g'.X d v := fun d v hd => hd.mono hX fun _ _ => rfl
  -- the block itself, read as data
  let g1 : Gh := { phi := fun j => if j = i then g.phi i else none, psi := g.psi, X := g.X }
  let hp1 : List Blk := (List.replicate st.hp.length Blk.dead).set i B
  have hp1i : hp1[i]? = some B := by simp [hp1, hil]
  have hY : ∀ j b, g1.phi j = some b → g'.X b := by
    intro j b hp
    simp only [g1] at hp
    split at hp
    · exact .inr hp
    · cases hp
  have hrep : (∀ ty cs, B = .box ty cs → ∃ ds, allD cs = some ds) → ∀ (j : Nat) (Bj : Blk), hp1[j]? = some Bj → BRep w g1 j Bj := by
    intro hdat j Bj hj
    by_cases hji : j = i
    · subst hji
      rw [hp1i] at hj
      cases hj
      have h0 := h.hp j B hB
      cases B with
      | dead => trivial
      | hole =>
        have h0 : g.phi j = none := h0
        show g1.phi j = none
        simpa [g1] using h0
      | flat ty sz es =>
        rcases h0 with ⟨he, hp⟩ | ⟨b, cells, hp, hw, hs, hl, h0, h1, hr⟩
        · exact .inl ⟨he, by simpa [g1] using hp⟩
        · exact .inr ⟨b, cells, by simpa [g1] using hp, hw, hs, hl, h0, h1, hr⟩
      | box ty cs =>
        obtain ⟨b, cells, hp, hw, hs, hl, hr⟩ := h0
        obtain ⟨ds, hds⟩ := hdat ty cs rfl
        obtain ⟨rfl, _⟩ := allD_some cs ds hds
        refine ⟨b, cells, by simpa [g1] using hp, hw, hs, hl, fun jj c v hc hv => ?_⟩
        have := hr jj c v hc hv
        simp only [List.getElem?_map, Option.map_eq_some_iff] at hc
        obtain ⟨d, _, rfl⟩ := hc
        cases this with | d _ _ hd => exact .d _ _ hd
      | map kt vt es =>
        obtain ⟨b, ents, clock, hp, hw, hs, hr⟩ := h0
        exact ⟨b, ents, clock, by simpa [g1] using hp, hw, hs, hr⟩
    · simp only [hp1] at hj
      rw [List.getElem?_set_ne (fun e => hji e.symm), List.getElem?_replicate] at hj
      split at hj
      · cases hj; trivial
      · cases hj
  have hF : ∀ (x : AV) (v : Value), ARep w g x v → x.isRef = true → ARep w g' (frz i (st.hp.getD i .dead) (aliveAt st.hp) x) v := by
    intro x v hx hr
    rw [hgB]
    cases hx with
    | msl0 j s o ad =>
      simp only [frz]
      split
      · cases B with
        | flat ty sz es =>
          simp only
          split
          · simp only [List.take_zero]; exact .d _ _ (.sl0 _ _ _)
          · exact .junk _
        | _ => exact .junk _
      · split
        · exact .msl0 _ _ _ _
        · exact .junk _
    | msl j s o l cap b hb hc hp =>
      simp only [frz]
      split
      · rename_i hji
        subst hji
        cases B with
        | flat ty sz es =>
          simp only
          split
          · rename_i hh
            obtain ⟨rfl, hle⟩ := hh
            exact .d _ _ (snap_rep (st := ⟨[], hp1⟩) (g := g1) (hrep fun _ _ e => by cases e) (Snap.msl j s o l ty es hp1i hle) hX hY (.msl j s o l cap b (by simpa [g1] using hb) hc hp))
          · exact .junk _
        | _ => exact .junk _
      · rename_i hne
        split
        · rename_i hal'
          exact .msl _ _ _ _ _ b (keep j b hal' hne hb) hc hp
        · exact .junk _
    | mptr j s x o b hb =>
      simp only [frz]
      split
      · rename_i hji
        subst hji
        cases B with
        | flat ty sz es =>
          simp only
          split
          · rename_i hs
            subst hs
            split
            · rename_i e he
              exact .d _ _ (snap_rep (st := ⟨[], hp1⟩) (g := g1) (hrep fun _ _ e => by cases e) (Snap.mptrF j s x o ty es e hp1i he) hX hY (.mptr j s x o b (by simpa [g1] using hb)))
            · exact .junk _
          · exact .junk _
        | box ty cs =>
          simp only
          split
          · rename_i hh
            obtain ⟨rfl, rfl⟩ := hh
            split
            · rename_i ds hds
              obtain ⟨hcs, h1⟩ := allD_some cs ds hds
              exact .d _ _ (snap_rep (st := ⟨[], hp1⟩) (g := g1) (hrep fun _ _ e => by cases e; exact ⟨ds, hds⟩) (Snap.mptrB j o ty cs ds hp1i (by rw [hcs]; simp) h1 (fun i c d hc hd => by
                rw [hcs] at hc
                simp only [List.getElem?_map, hd, Option.map_some, Option.some.injEq] at hc
                subst hc; exact .d d)) hX hY (.mptr j 0 0 o b (by simpa [g1] using hb)))
            · exact .junk _
          · exact .junk _
        | _ => exact .junk _
      · rename_i hne
        split
        · rename_i hal'; exact .mptr _ _ _ _ b (keep j b hal' hne hb)
        · exact .junk _
    | mmap j b hb =>
      simp only [frz]
      split
      · exact .junk _
      · rename_i hne
        split
        · rename_i hal'; exact .mmap _ b (keep j b hal' hne hb)
        · exact .junk _
    | _ => cases hr
  have inv : ∀ (j : Nat) (Bj : Blk), (st.freeze i).hp[j]? = some Bj → Bj ≠ .dead → j ≠ i ∧ ∃ B', st.hp[j]? = some B' ∧ B' ≠ .dead ∧ Bj = B'.mapRef (frz i (st.hp.getD i .dead) (aliveAt st.hp)) := by
    intro j Bj hj hd
    simp only [St.freeze] at hj
    rw [List.getElem?_set] at hj
    split at hj
    · split at hj
      · cases hj; exact absurd rfl hd
      · cases hj
    · rename_i hne
      simp only [List.getElem?_map, Option.map_eq_some_iff] at hj
      obtain ⟨B', hB', rfl⟩ := hj
      exact ⟨fun e => hne e.symm, B', hB', fun e => by subst e; exact hd rfl, rfl⟩
  refine ⟨g', { defers := h.defers, size := h.size, fr := fun t => ?_, hp := ?_, lt := ?_, inj := ?_, Xlt := ?_, Xold := ?_, os := h.os, tape := h.tape, output := h.output, drawn := h.drawn, grown := h.grown, keep := h.keep, own := ?_, stay := ?_, kle := ?_ }⟩
  · simp only [St.freeze, Fr.get_mapRef]
    exact (h.fr t).mapRef hD hF
  · intro j Bj hj
    by_cases hd : Bj = .dead
    · subst hd; trivial
    · obtain ⟨hne, B', hB', hd', rfl⟩ := inv j Bj hj hd
      have hal' : aliveAt st.hp j = true := by
        unfold aliveAt; rw [List.getD_eq_getElem?_getD, hB']
        cases B' <;> first | rfl | exact absurd rfl hd'
      refine BRep.mapRef (i := j) (g := g) (g' := g') ?_ rfl hX hF (h.hp j B' hB')
      cases hp : g.phi j with
      | none => simp only [g']; split <;> first | rfl | exact hp
      | some b => exact keep j b hal' hne hp
  · intro j b hp
    obtain ⟨h1, h2⟩ := hphi j b hp
    have := h.lt j b h1
    refine ⟨this.1, by simpa [St.freeze] using this.2.1, fun hx => ?_⟩
    rcases hx with hx | hx
    · exact this.2.2 hx
    · exact h2 hx
  · intro j j' b Bj Bj' hBj hBj' hdj hdj' hj hj'
    obtain ⟨_, B1, e1, d1, _⟩ := inv j Bj hBj hdj
    obtain ⟨_, B2, e2, d2, _⟩ := inv j' Bj' hBj' hdj'
    exact h.inj j j' b B1 B2 e1 e2 d1 d2 (hphi j b hj).1 (hphi j' b hj').1
  · intro b hb
    rcases hb with hb | hb
    · exact h.Xlt b hb
    · exact (h.lt i b hb).1
  · intro b hb hlt
    rcases hb with hb | hb
    · exact h.Xold b hb hlt
    · obtain ⟨j, hj, h0⟩ := h.own i b hb hlt
      obtain ⟨hm, ha⟩ := hks j hj
      obtain ⟨Bj, hBj, hBjd⟩ := aliveAt_inv ha
      have := h.inj j i b Bj B hBj hB hBjd hBd (h.stay j b hj hm h0).2 hb
      omega
  · intro j b hp hb
    exact h.own j b (hphi j b hp).1 hb
  · intro j b hj hm hp
    have hst := h.stay j b hj hm hp
    exact ⟨hst.1, keep j b (hks j hj).2 (by omega) hst.2⟩
  · have := h.kle; simpa [St.freeze] using this

theorem tops_freeze {ops : Array Oper} {l : List Oper} {K : St → Prop} {fr : Fr} {hp : List Blk} (i : Nat) (hk : C.k ≤ i) (hal : aliveAt hp i = true) (hks : ∀ j, j < C.k → C.mv j = false ∧ aliveAt hp j = true) (h : TOps C ops l (St.freeze i ⟨fr, hp⟩) K) : TOps C ops l ⟨fr, hp⟩ K := fun _ a w hs => by
  obtain ⟨g', hs'⟩ := hs.freeze i hk hal hks
  exact h g' a w hs'
theorem twp_freeze {c : Code} {Q : Exit → St → Prop} {fr : Fr} {hp : List Blk} (i : Nat) (hk : C.k ≤ i) (hal : aliveAt hp i = true) (hks : ∀ j, j < C.k → C.mv j = false ∧ aliveAt hp j = true) (h : TWp C c (St.freeze i ⟨fr, hp⟩) Q) : TWp C c ⟨fr, hp⟩ Q := fun _ a w hs => by
  obtain ⟨g', hs'⟩ := hs.freeze i hk hal hks
  exact h g' a w hs'

end Go.TL
