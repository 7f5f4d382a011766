/- Trees in place of memory, part Q: branches that meet again; entries deleted with no result kept. No condition. -/
import Derived.Test.YtckkkfgjgjoemaaTlP
import Derived.Test.YtckkkfgjgjoemaaTlN
set_option linter.unusedVariables false
set_option linter.unusedSimpArgs false
set_option linter.unusedSectionVars false
namespace Go.TL

variable {C : Ctx} {st : St} {g : Gh} {a : Act} {w : World} {P : Program}

/-! ### Branches that meet again -/

/-- These slots have these values, and the blocks are these. -/
def Same (ks : List Nat) (fr : Fr) (hp : List Blk) (st : St) : Prop := SubK st.fr ks fr ∧ st.hp = hp

theorem twp_cut {x y : Code} {Q : Exit → St → Prop} {fr inv : Fr} {hp : List Blk} (sets : Fr) (chg : List (Nat × Blk)) (ks : List Nat) (hI : SubK fr ks inv) (h1 : TWp C x ⟨fr, hp⟩ (thenA (Same (sets.map (·.1) ++ ks) (sets ++ inv) (wr chg hp)) Q)) (h2 : TWp C y ⟨sets ++ inv, wr chg hp⟩ Q) : TWp C (.seq x y) ⟨fr, hp⟩ Q := by
  refine twp_seq (h1.mono ?_)
  intro e st' hq
  cases e with
  | normal =>
    obtain ⟨hs, hh⟩ := hq
    obtain ⟨fr', hp'⟩ := st'
    exact twp_norm _ hs hh h2
  | _ => exact hq

/-! ### A deleted entry -/

theorem s_del0 {ops : Array Oper} {l : List Oper} {K : St → Prop} {fr : Fr} {hp : List Blk} {ty : TypeId} {pos : String} {after : Array Edge} {x y : Operand} {t tk kt et kt' et' : TypeId} {d : TypeDesc} {id : Nat} {es es' : List (D × D)} {k : D} {j : Nat} {v0 : D} (hl : mty C.P t = some (kt, d, et)) (hx : fr.ev x = .mmap id) (hb : hp[id]? = some (.map kt' et' es)) (hy : fr.ev y = .d k) (hks : ∀ e ∈ es, keyD d e.1 = true) (hnd : (es.map (·.1)).Nodup) (hj : es[j]? = some (k, v0)) (he : es.eraseIdx j = es')
    (h : TOps C ops l ⟨fr, hp.set id (.map kt' et' es')⟩ K) : TOps C ops (⟨none, .call { callee := .builtin .delete, args := #[x, y], argTypes := #[t, tk] }, ty, pos, after, none⟩ :: l) ⟨fr, hp⟩ K := by
  subst he; exact tops_cons rfl (ok_del_at rfl rfl hl hx hb hy hks hnd hj h)

/-! ### Lookups without comma-ok -/

section look0
variable {o : Oper} {ev : Operand → AV} {hp : List Blk} {x y : Operand} {t kt et kt' et' : TypeId} {d : TypeDesc} {id : Nat} {es : List (D × D)} {k v zd : D} {z : Value}
theorem rd_look0_yes {j : Nat} (ho : o.op = .lookup t x y false) (hl : mty C.P t = some (kt, d, et)) (hx : ev x = .mmap id) (hb : hp[id]? = some (.map kt' et' es)) (hy : ev y = .d k) (hks : ∀ e ∈ es, keyD d e.1 = true) (hnd : (es.map (·.1)).Nodup) (hj : es[j]? = some (k, v)) : RdOk C o ev hp (.d v) :=
  RdOk.mk fun st hhp hag g a w hs => by
    have hk : keyD d k = true := hks (k, v) (List.mem_of_getElem? hj)
    obtain ⟨b, ents, clock, hp', hex, hw, hE, hey, hkk⟩ := look_core hs hl (by rw [hag x (by simp [ho, Op.operands]), hx]) (hhp id _ hb fun e => by cases e) (by rw [hag y (by simp [ho, Op.operands]), hy]) hk
    obtain ⟨e, _, _, hv, hf⟩ := find_yes hE hks hnd hj
    obtain ⟨hu, hd⟩ := mty_inv hl
    refine ⟨e.val, ?_, .d _ _ hv⟩
    simp only [execOp, ho, hex, hey]
    simp [Instr.lookup, run_underlying hu, MapKept.run_getObj_map hw, MapKept.run_checkKey hd hkk, MapKept.run_findKey hd hf, Result.andThen]

theorem rd_look0_no (ho : o.op = .lookup t x y false) (hl : mty C.P t = some (kt, d, et)) (hz : (C.P.info? et).bind (·.zero) = some z) (hzd : ofConst z = .d zd) (hx : ev x = .mmap id) (hb : hp[id]? = some (.map kt' et' es)) (hy : ev y = .d k) (hk : keyD d k = true) (hks : ∀ e ∈ es, keyD d e.1 = true) (hne : ∀ e ∈ es, e.1 ≠ k) : RdOk C o ev hp (.d zd) :=
  RdOk.mk fun st hhp hag g a w hs => by
    obtain ⟨b, ents, clock, hp', hex, hw, hE, hey, hkk⟩ := look_core hs hl (by rw [hag x (by simp [ho, Op.operands]), hx]) (hhp id _ hb fun e => by cases e) (by rw [hag y (by simp [ho, Op.operands]), hy]) hk
    have hf := find_no hE hks hk hne
    obtain ⟨hu, hd⟩ := mty_inv hl
    refine ⟨z, ?_, by rw [← hzd]; exact ofConst_rep w g _⟩
    simp only [execOp, ho, hex, hey]
    simp [Instr.lookup, run_underlying hu, MapKept.run_getObj_map hw, MapKept.run_checkKey hd hkk, MapKept.run_findKey hd hf, run_zeroValue hz, Result.andThen]
end look0

/-! ### Maps with keys of one kind, as lists of pairs -/

structure KeyF (d : TypeDesc) {α : Type} (kf : α → D) : Prop where
  key : ∀ a, keyD d (kf a) = true
  inj : ∀ a b, kf a = kf b → a = b
theorem keyF_str : KeyF .string D.str := ⟨fun _ => rfl, fun a b h => by cases h; rfl⟩
theorem keyF_int (k : IntKind) : KeyF (.int k) (D.int k) := ⟨fun _ => by simp [keyD], fun a b h => by cases h; rfl⟩

def pairMap {α β : Type} (kf : α → D) (f : β → D) (fs : List (α × β)) : List (D × D) := fs.map fun x => (kf x.1, f x.2)
def assocE {α β : Type} [DecidableEq α] (fs : List (α × β)) (s : α) : Option β := (fs.find? fun x => decide (x.1 = s)).map (·.2)
section pm
variable {α β : Type} [DecidableEq α] {kf : α → D} {f : β → D} {fs : List (α × β)} {s : α} {b : β} {dk : TypeDesc}
theorem assocA_none (h : assocE fs s = none) : ∀ x ∈ fs, x.1 ≠ s := by
  intro x hx e
  unfold assocE at h
  simp only [Option.map_eq_none_iff, List.find?_eq_none] at h
  have := h x hx
  simp [e] at this
theorem assocA_some (h : assocE fs s = some b) : ∃ j : Nat, fs[j]? = some (s, b) := by
  unfold assocE at h
  simp only [Option.map_eq_some_iff] at h
  obtain ⟨x, hx, rfl⟩ := h
  have h1 := List.find?_some hx
  simp at h1
  subst h1
  obtain ⟨j, hj⟩ := List.getElem?_of_mem (List.mem_of_find?_eq_some hx)
  exact ⟨j, hj⟩
theorem pairMap_key (hk : KeyF dk kf) : ∀ e ∈ pairMap kf f fs, keyD dk e.1 = true := fun e he => by
  unfold pairMap at he
  simp only [List.mem_map] at he
  obtain ⟨x, _, rfl⟩ := he
  exact hk.key _
theorem pairMap_nodup (hk : KeyF dk kf) (h : (fs.map (·.1)).Nodup) : ((pairMap kf f fs).map (·.1)).Nodup := by
  have : (pairMap kf f fs).map (·.1) = (fs.map (·.1)).map kf := by simp [pairMap]
  rw [this]
  exact h.map _ fun a b hab e => hab (hk.inj _ _ e)
theorem pairMap_ne (hk : KeyF dk kf) (h : ∀ x ∈ fs, x.1 ≠ s) : ∀ e ∈ pairMap kf f fs, e.1 ≠ kf s := fun e he => by
  unfold pairMap at he
  simp only [List.mem_map] at he
  obtain ⟨x, hx, rfl⟩ := he
  exact fun q => h x hx (hk.inj _ _ q)

variable {o : Oper} {ev : Operand → AV} {hp : List Blk} {x y u : Operand} {t kt et kt' et' : TypeId} {id : Nat} {zd : D} {z : Value}
theorem rd_look_pm (hk : KeyF dk kf) (f : β → D) (fs : List (α × β)) (s : α) (ho : o.op = .lookup t x y true) (hl : mty C.P t = some (kt, dk, et)) (hz : (C.P.info? et).bind (·.zero) = some z) (hzd : ofConst z = .d zd)
    (hx : ev x = .mmap id) (hb : hp[id]? = some (.map kt' et' (pairMap kf f fs))) (hy : ev y = .d (kf s)) (hnd : (fs.map (·.1)).Nodup) : RdOk C o ev hp (.tup [.d (match assocE fs s with | some b => f b | none => zd), .d (.bool (assocE fs s).isSome)]) := by
  cases h : assocE fs s with
  | none => exact rd_look_no ho hl hz hzd hx hb hy (hk.key _) (pairMap_key hk) (pairMap_ne hk (assocA_none h))
  | some b =>
    obtain ⟨j, hj⟩ := assocA_some h
    exact rd_look_yes (j := j) ho hl hx hb hy (pairMap_key hk) (pairMap_nodup hk hnd) (by simp [pairMap, hj])
theorem rd_look0_pm (hk : KeyF dk kf) (f : β → D) (fs : List (α × β)) (s : α) (ho : o.op = .lookup t x y false) (hl : mty C.P t = some (kt, dk, et)) (hz : (C.P.info? et).bind (·.zero) = some z) (hzd : ofConst z = .d zd)
    (hx : ev x = .mmap id) (hb : hp[id]? = some (.map kt' et' (pairMap kf f fs))) (hy : ev y = .d (kf s)) (hnd : (fs.map (·.1)).Nodup) : RdOk C o ev hp (.d (match assocE fs s with | some b => f b | none => zd)) := by
  cases h : assocE fs s with
  | none => exact rd_look0_no ho hl hz hzd hx hb hy (hk.key _) (pairMap_key hk) (pairMap_ne hk (assocA_none h))
  | some b =>
    obtain ⟨j, hj⟩ := assocA_some h
    exact rd_look0_yes (j := j) ho hl hx hb hy (pairMap_key hk) (pairMap_nodup hk hnd) (by simp [pairMap, hj])

variable {ops : Array Oper} {l : List Oper} {K : St → Prop} {fr : Fr} {ty : TypeId} {pos : String} {after : Array Edge}
theorem s_put_pm (hk : KeyF dk kf) (f : β → D) {fs : List (α × β)} {s : α} {b : β} {es' : List (D × D)} (hl : mty C.P t = some (kt, dk, et)) (hx : fr.ev x = .mmap id) (hb : hp[id]? = some (.map kt' et' (pairMap kf f fs))) (hy : fr.ev y = .d (kf s)) (hu : fr.ev u = .d (f b)) (hn : assocE fs s = none) (he : pairMap kf f (fs ++ [(s, b)]) = es')
    (h : TOps C ops l ⟨fr, hp.set id (.map kt' et' es')⟩ K) : TOps C ops (⟨none, .mapUpdate t x y u, ty, pos, after, none⟩ :: l) ⟨fr, hp⟩ K :=
  s_put_new hl hx hb hy hu (hk.key _) (pairMap_key hk) (pairMap_ne hk (assocA_none hn)) (by rw [← he]; simp [pairMap]) h
end pm

/-! ### Arrays of single cells, in blocks of their own -/

section arr
variable {o : Oper} {K : St → Prop} {t : TypeId}
theorem arr_row {w : World} {g : Gh} {n : Nat} {zd : D} {v : Value} (h : ARep w g (.d (.agg (List.replicate n zd))) v) (h1 : zd.one = true) : RowOf w g.X 1 (List.replicate n zd) v.cells := by
  have hf : (AV.d (.agg (List.replicate n zd))).flat = true := rfl
  obtain ⟨hp, _⟩ := h.pw hf
  have hc : zd.cells = [zd] := by cases zd <;> first | rfl | cases h1
  have hsz : v.cells.size = n := by have := hp.1; simpa [AV.cells, D.cells] using this.symm
  refine ⟨by simp [hsz], fun i e he => ?_, fun i e j c he hcj => ?_, fun i e j c he hcj => ?_⟩
  · rw [List.getElem?_replicate] at he; split at he <;> cases he; rw [hc]; rfl
  · rw [List.getElem?_replicate] at he; split at he <;> cases he
    rw [hc] at hcj
    cases j with
    | zero => simp at hcj; subst hcj; exact h1
    | succ j => simp at hcj
  · rw [List.getElem?_replicate] at he
    split at he
    · rename_i hi
      cases he
      rw [hc] at hcj
      cases j with
      | succ j => simp at hcj
      | zero =>
        simp at hcj; subst hcj
        have h1 : (AV.d (.agg (List.replicate n zd))).cells[i]? = some (.d zd) := by simp [AV.cells, D.cells, hi]
        have h2 : v.cells.toList[i]? = some (v.cells.toList[i]'(by simp [hsz, hi])) := by simp [hsz, hi]
        have h3 := hp.2 i _ _ h1 h2
        refine ⟨v.cells.toList[i]'(by simp [hsz, hi]), by simp [hsz, hi], ?_⟩
        cases h3 with | d _ _ h => exact h
    · cases he

theorem ok_allocArr {n : Nat} {zd : D} {z : Value} (ho : o.op = .alloc t) (hd : dstOk C.n o.dst = true) (hz : (C.P.info? t).bind (·.zero) = some z) (hzd : ofConst z = .d (.agg (List.replicate (n + 1) zd))) (h1 : zd.one = true)
    (hK : K (St.put ⟨st.fr, st.hp ++ [.flat t 1 (List.replicate (n + 1) zd)]⟩ o.dst (.mptr st.hp.length 1 0 0))) : OpOk C o st K :=
  OpOk.change fun g a w hs => by
    cases hi : C.P.info? t with
    | none => simp [hi] at hz
    | some i =>
      simp [hi] at hz
      have hrow := arr_row (w := w) (g := g) (by rw [← hzd]; exact ofConst_rep w g z) h1
      obtain ⟨hsim, h2⟩ := newFlat (ty := t) hs hrow.le hrow.h0 hrow.h1 hrow.rep
      have h3 : ARep (w.alloc (Obj.cells z.cells t)) (g.new st.hp.length w.heap.size z.cells.size) (.mptr st.hp.length 1 0 0) (.pointer (some ⟨w.heap.size, 0, none⟩)) := .mptr _ 1 0 0 w.heap.size (by simp [Gh.new, upd])
      exact ⟨_, _, by simp [execOp, ho, Instr.alloc, zeroValue, typeInfo, hi, hz, newVar, newRow], _, _, hK, hsim.put' hd h3⟩
theorem s_allocArr {ops : Array Oper} {l : List Oper} {fr : Fr} {hp : List Blk} {d : Nat} {ty : TypeId} {pos : String} {after : Array Edge} (n : Nat) {zd : D} {z : Value} (hd : decide (d < C.n) = true) (hz : (C.P.info? t).bind (·.zero) = some z) (hzd : ofConst z = .d (.agg (List.replicate (n + 1) zd))) (h1 : zd.one = true)
    (h : TOps C ops l ⟨(d, .mptr hp.length 1 0 0) :: fr, hp ++ [.flat t 1 (List.replicate (n + 1) zd)]⟩ K) : TOps C ops (⟨some d, .alloc t, ty, pos, after, none⟩ :: l) ⟨fr, hp⟩ K :=
  tops_cons rfl (ok_allocArr rfl hd hz hzd h1 h)

theorem index_arr0 {ev : Operand → AV} {hp : List Blk} {x y : Operand} {id n s : Nat} {k : IntKind} {i : Int} (ho : o.op = .indexAddr t x y) (hl : asel C.P t = some (n, s)) (hx : ev x = .mptr id s 0 0) (hy : ev y = .d (.int k i)) (h : 0 ≤ i ∧ i < n) : RdOk C o ev hp (.mptr id s i.toNat 0) :=
  RdOk.mk fun st hhp hag g a w hs => by
    have h := hs.ev x
    rw [hag x (by simp [ho, Op.operands]), hx] at h
    obtain ⟨b, hp, he⟩ := mptr_inv h
    have hi := hs.ev y
    rw [hag y (by simp [ho, Op.operands]), hy] at hi
    obtain ⟨e, inf, hu, hinf, hsz⟩ := asel_inv hl
    rename_i h0
    refine ⟨.pointer (some ((⟨b, 0 * s + 0, none⟩ : Addr).add (i.toNat * s))), ?_, ?_⟩
    · simp only [execOp, ho, he, int_inv hi]
      simp [Instr.indexAt, run_underlying hu, asIntOf, h0.1, h0.2, sizeOf, typeInfo, hinf, hsz, Instr.sureAddr]
    · rw [add_mk]; simp only [Nat.zero_mul, Nat.zero_add]; exact .mptr id s i.toNat 0 b hp
end arr

end Go.TL
