/- Trees in place of memory, part Y: lists as loops go through them; ends of bodies up to an equation. No condition. -/
import Derived.Test.YtckkkfgjgjoemaaTlX
namespace Go.TL

variable {P : Program} {st : St}

/-! ### Ends, up to an equation -/

theorem Ends.plainE {rs : List ResultVar} (d' : D) {d : D} (h : resultOf st.fr rs = some (.d d')) (e : d' = d) : Ends P 0 rs (.d d) [] st := e ▸ Ends.plain d' h
theorem Ends.plainB {rs : List ResultVar} (b' : Bool) {b : Bool} (h : resultOf st.fr rs = some (.d (.bool b'))) (e : b' = b) : Ends P 0 rs (.d (.bool b)) [] st := e ▸ Ends.plain _ h
theorem Ends.plainI {rs : List ResultVar} {k : IntKind} (n' : Int) {n : Int} (h : resultOf st.fr rs = some (.d (.int k n'))) (e : n' = n) : Ends P 0 rs (.d (.int k n)) [] st := e ▸ Ends.plain _ h
theorem Ends.cellE {a t id off s : Nat} {ty : TypeId} {cs : List AV} (d' : D) {d : D} (hl : lay P t = some (true, s)) (ha : st.fr.get a = .mptr id 0 0 off) (hb : st.hp[id]? = some (.box ty cs)) (hc : Nat.ble (off + s) cs.length = true) (hv : mkAgg ((cs.drop off).take s) = .d d') (e : d' = d) : Ends P 0 [.cell a t] (.d d) [] st :=
  e ▸ Ends.cellD hl ha hb hc hv

theorem av_int {k : IntKind} {m n : Int} (h : m = n) : AV.d (.int k m) = .d (.int k n) := h ▸ rfl
theorem av_bool {b c : Bool} (h : b = c) : AV.d (.bool b) = .d (.bool c) := h ▸ rfl
theorem arith_to {C : Ctx} {hp : List Blk} {o : Oper} {ev : Operand → AV} {op : BinOp} {t t' : TypeId} {x y : Operand} {m n r' r : Int} (ho : o.op = .binOp op t x y t') (hx : ev x = .d (.int .i64 m)) (hy : ev y = .d (.int .i64 n)) (hr : arRaw op m n = some r') (e : r' = r) (hb : -9223372036854775808 ≤ r ∧ r ≤ 9223372036854775807) : RdOk C o ev hp (.d (.int .i64 r)) :=
  arith_ok ho hx hy (e ▸ hr) hb
theorem cmp_to {C : Ctx} {hp : List Blk} {o : Oper} {ev : Operand → AV} {op : BinOp} {t t' : TypeId} {x y : Operand} {k : IntKind} {m n : Int} {b' b : Bool} (ho : o.op = .binOp op t x y t') (hx : ev x = .d (.int k m)) (hy : ev y = .d (.int k n)) (hb : cmpInt op m n = some b') (e : b' = b) : RdOk C o ev hp (.d (.bool b)) :=
  cmp_int ho hx hy (e ▸ hb)

theorem snap_boxD {hp : List Blk} {id off : Nat} {ty : TypeId} {cs : List AV} {ds : List D} (h : hp[id]? = some (.box ty cs)) (he : allD cs = some ds) : Snap hp (.mptr id 0 0 off) (.ptr (.agg ds) off) := by
  obtain ⟨hc, h1⟩ := allD_some cs ds he
  refine .mptrB id off ty cs ds h (by rw [hc]; simp) h1 fun i c d hci hd => ?_
  rw [hc] at hci
  simp only [List.getElem?_map, hd, Option.map_some, Option.some.injEq] at hci
  subst hci; exact .d d

theorem idx_int {α : Type} {f : α → D} {xs : List α} {v : Int} {x : α} (h0 : 0 ≤ v) (h : xs[v.toNat]? = some x) : 0 ≤ v ∧ (xs.map f)[v.toNat]? = some (f x) := ⟨h0, by simp [h]⟩

/-! ### A variable's cells, in plain form -/

inductive NormC : List AV → List AV → Prop
  | nil {cs : List AV} (h : cs = []) : NormC cs []
  | cons {cs r r' : List AV} {v : AV} (h : cs = v :: r) (hr : NormC r r') : NormC cs (v :: r')
theorem NormC.eq {cs cs' : List AV} (h : NormC cs cs') : cs = cs' := by
  induction h with
  | nil h => exact h
  | cons h _ ih => rw [h, ih]
section
variable {cs r r' : List AV}
theorem nc_d {d : D} (h : cs = .d d :: r) (hr : NormC r r') : NormC cs (.d d :: r') := .cons h hr
theorem nc_msl {i s o l : Nat} (h : cs = .msl i s o l :: r) (hr : NormC r r') : NormC cs (.msl i s o l :: r') := .cons h hr
theorem nc_mptr {i s x o : Nat} (h : cs = .mptr i s x o :: r) (hr : NormC r r') : NormC cs (.mptr i s x o :: r') := .cons h hr
theorem nc_mmap {i : Nat} (h : cs = .mmap i :: r) (hr : NormC r r') : NormC cs (.mmap i :: r') := .cons h hr
theorem nc_fnc {f : FuncId} {vs : List AV} (h : cs = .fnc f vs :: r) (hr : NormC r r') : NormC cs (.fnc f vs :: r') := .cons h hr
theorem nc_ifc {t : TypeId} {u : AV} (h : cs = .ifc t u :: r) (hr : NormC r r') : NormC cs (.ifc t u :: r') := .cons h hr
end
theorem blk_boxN {hp r r' : List Blk} {t : Nat} {cs cs' : List AV} (h : hp = .box t cs :: r) (hc : NormC cs cs') (hr : r = r') : hp = .box t cs' :: r' := by rw [h, hc.eq, hr]

/-! ### All so far -/

def I64 (n : Int) : Prop := -9223372036854775808 ≤ n ∧ n ≤ 9223372036854775807
instance (n : Int) : Decidable (I64 n) := inferInstanceAs (Decidable (_ ∧ _))

def allTo {α : Type} (p : α → Bool) (xs : List α) (i : Nat) : Prop := (xs.take i).all p = true
theorem allTo_zero {α : Type} {p : α → Bool} {xs : List α} : allTo p xs 0 := rfl
theorem allTo_succ {α : Type} {p : α → Bool} {xs : List α} {i : Nat} {x : α} (h : allTo p xs i) (hx : xs[i]? = some x) (hp : p x = true) : allTo p xs (i + 1) := by
  unfold allTo at *
  rw [List.take_add_one, hx]
  simp only [Option.toList_some, List.all_append, h, List.all_cons, hp, List.all_nil, Bool.and_self]
theorem allTo_end {α : Type} {p : α → Bool} {xs : List α} {i : Nat} (h : allTo p xs i) (hi : ¬ i < xs.length) : xs.all p = true := by
  unfold allTo at h
  rwa [List.take_of_length_le (Nat.le_of_not_lt hi)] at h
theorem allTo_no {α : Type} {p : α → Bool} {xs : List α} {i : Nat} {x : α} (hx : xs[i]? = some x) (hp : p x = false) : xs.all p = false := by
  rw [Bool.eq_false_iff]
  intro h
  rw [List.all_eq_true] at h
  rw [h x (List.mem_of_getElem? hx)] at hp
  cases hp

def anyTo {α : Type} (p : α → Bool) (xs : List α) (i : Nat) : Prop := (xs.take i).any p = false
theorem anyTo_zero {α : Type} {p : α → Bool} {xs : List α} : anyTo p xs 0 := rfl
theorem anyTo_succ {α : Type} {p : α → Bool} {xs : List α} {i : Nat} {x : α} (h : anyTo p xs i) (hx : xs[i]? = some x) (hp : p x = false) : anyTo p xs (i + 1) := by
  unfold anyTo at *
  rw [List.take_add_one, hx]
  simp only [Option.toList_some, List.any_append, h, List.any_cons, hp, List.any_nil, Bool.or_self]
theorem anyTo_end {α : Type} {p : α → Bool} {xs : List α} {i : Nat} (h : anyTo p xs i) (hi : ¬ i < xs.length) : xs.any p = false := by
  unfold anyTo at h
  rwa [List.take_of_length_le (Nat.le_of_not_lt hi)] at h
theorem anyTo_yes {α : Type} {p : α → Bool} {xs : List α} {i : Nat} {x : α} (hx : xs[i]? = some x) (hp : p x = true) : xs.any p = true := by
  rw [List.any_eq_true]
  exact ⟨x, List.mem_of_getElem? hx, hp⟩

/-- What a fold has come to after the first i elements. -/
def foldTo {α β : Type} (f : β → α → β) (b : β) (xs : List α) (i : Nat) : β := (xs.take i).foldl f b
theorem foldTo_zero {α β : Type} (f : β → α → β) (b : β) (xs : List α) : foldTo f b xs 0 = b := rfl
theorem foldTo_succ {α β : Type} (f : β → α → β) (b : β) {xs : List α} {i : Nat} {x : α} (hx : xs[i]? = some x) : foldTo f b xs (i + 1) = f (foldTo f b xs i) x := by
  unfold foldTo
  rw [List.take_add_one, hx]
  simp
theorem foldTo_end {α β : Type} (f : β → α → β) (b : β) {xs : List α} {i : Nat} (hi : ¬ i < xs.length) : foldTo f b xs i = xs.foldl f b := by
  unfold foldTo; rw [List.take_of_length_le (Nat.le_of_not_lt hi)]

theorem drop_cons {α : Type} {xs : List α} {i : Nat} {x : α} (h : xs[i]? = some x) : xs.drop i = x :: xs.drop (i + 1) := by
  have hi : i < xs.length := (List.getElem?_eq_some_iff.1 h).1
  have hx : xs[i] = x := (List.getElem?_eq_some_iff.1 h).2
  rw [← hx]; exact List.drop_eq_getElem_cons hi
theorem drop_nil {α : Type} {xs : List α} {i : Nat} (h : xs.length ≤ i) : xs.drop i = [] := List.drop_eq_nil_of_le h

/-! ### Lists turned, element by element -/

def mix {α : Type} (f : α → α) (xs : List α) (i : Nat) : List α := (xs.take i).map f ++ xs.drop i
theorem mix_zero {α : Type} (f : α → α) (xs : List α) : mix f xs 0 = xs := by simp [mix]
theorem mix_all {α : Type} (f : α → α) (xs : List α) {i : Nat} (h : xs.length ≤ i) : mix f xs i = xs.map f := by simp [mix, List.take_of_length_le h, List.drop_eq_nil_of_le h]

/-- Both lists are alike up to i. -/
def likeTo {α : Type} (xs ys : List α) (i : Nat) : Prop := ∀ j, j < i → xs[j]? = ys[j]?
theorem likeTo_zero {α : Type} {xs ys : List α} : likeTo xs ys 0 := fun j hj => absurd hj (Nat.not_lt_zero j)
theorem like_all {α : Type} {xs ys : List α} {i : Nat} (hl : xs.length = ys.length) (h : likeTo xs ys i) (hi : xs.length ≤ i) : xs = ys := by
  apply List.ext_getElem?
  intro j
  rcases Nat.lt_or_ge j i with hj | hj
  · exact h j hj
  · rw [List.getElem?_eq_none (by omega), List.getElem?_eq_none (by omega)]
theorem like_succ {α : Type} {xs ys : List α} {i : Nat} (h : likeTo xs ys i) (hi : xs[i]? = ys[i]?) : likeTo xs ys (i + 1) := fun j hj => by
  rcases Nat.lt_or_ge j i with hlt | hge
  · exact h j hlt
  · rw [show j = i by omega]; exact hi
theorem like_ne {α : Type} {xs ys : List α} {i : Nat} {x y : α} (hx : xs[i]? = some x) (hy : ys[i]? = some y) (h : ¬ x = y) : ¬ xs = ys := by
  intro e; subst e; rw [hx] at hy; exact h (Option.some.inj hy)
theorem len_ne {α : Type} {xs ys : List α} (h : ¬ xs.length = ys.length) : ¬ xs = ys := fun e => h (congrArg List.length e)

theorem set_get {α : Type} {l : List α} {i : Nat} {x : α} (h : l[i]? = some x) : l.set i x = l := by
  apply List.ext_getElem?
  intro j
  rw [List.getElem?_set]
  split
  · rename_i e; subst e; rw [if_pos (List.getElem?_eq_some_iff.1 h).1, h]
  · rfl
theorem map_set {α : Type} (f : α → D) {xs : List α} {i : Nat} {x : α} : (xs.map f).set i (f x) = (xs.set i x).map f := (List.map_set ..).symm

theorem get_lt {α : Type} {xs : List α} {i : Nat} (h : i < xs.length) : ∃ x, xs[i]? = some x := ⟨_, List.getElem?_eq_getElem h⟩

theorem mem0_map {α : Type} (f : α → D) (hf : ∀ x, D.mem0 (f x) = true) (xs : List α) : ∀ e ∈ xs.map f, D.mem0 e = true := fun e he => by
  simp only [List.mem_map] at he
  obtain ⟨m, _, rfl⟩ := he
  exact hf m
theorem mem0_all {α : Type} (f : α → D) (hf : ∀ x, D.mem0 (f x) = true) (xs : List α) : (xs.map f).all D.mem0 = true := List.all_eq_true.2 (mem0_map f hf xs)

theorem RetN.unit {F : FuncId} {ds : List D} {d : D} (h : Ret P F [] (fun _ => false) (ds.map .d) (.d d) []) (hm : D.mem0 d = true) : RetN P F ds d := .lit h hm
theorem RetD.of {F : FuncId} {ds : List D} {d : D} {mv : Nat → Bool} (h : Ret P F [] mv (ds.map .d) (.d d) []) : RetD P F ds d := ⟨mv, _, _, h, .d d⟩
theorem RetD.to {F : FuncId} {ds : List D} {d d' : D} (h : RetD P F ds d) (e : d = d') : RetD P F ds d' := e ▸ h
theorem RetT.of {F : FuncId} {ds rs : List D} {mv : Nat → Bool} (h : Ret P F [] mv (ds.map .d) (.tup (rs.map .d)) []) : RetT P F ds rs := ⟨mv, _, _, h, .mk _ _ (snaps_d rfl)⟩
theorem Ends.tup2 {rs : List ResultVar} (a' b' : D) {a b : D} (h : resultOf st.fr rs = some (.tup [.d a', .d b'])) (e1 : a' = a) (e2 : b' = b) : Ends P 0 rs (.tup [.d a, .d b]) [] st := by
  subst e1 e2
  exact ⟨_, [], res h, List.nodup_nil, fun _ hi => by omega, rfl, rfl⟩
theorem d_int {k : IntKind} {m n : Int} (h : m = n) : D.int k m = .int k n := h ▸ rfl
theorem d_bool {b c : Bool} (h : b = c) : D.bool b = .bool c := h ▸ rfl
theorem Ends.tup {rs : List ResultVar} {ds : List D} (h : resultOf st.fr rs = some (.tup (ds.map .d))) : Ends P 0 rs (.tup (ds.map .d)) [] st := by
  refine ⟨_, [], res h, List.nodup_nil, fun _ hi => by omega, ?_, rfl⟩
  have : ∀ l : List D, AV.mapRefs (toName (placeOf [])) (l.map .d) = l.map .d := by
    intro l
    induction l with
    | nil => rfl
    | cons d r ih => simp only [List.map_cons, AV.mapRefs, AV.mapRef, ih]
  simp only [AV.mapRef, this]

end Go.TL
