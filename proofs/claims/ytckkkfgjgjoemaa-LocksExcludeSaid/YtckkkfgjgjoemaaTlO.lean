/- Functions of the program as partial functions on plain values, and what a walk asks of them. No condition. -/
import Derived.Test.YtckkkfgjgjoemaaTlJ
set_option linter.unusedVariables false
set_option linter.unusedSimpArgs false
namespace Go.TL

/-! ### Partial values -/

def guardM {α : Type} (p : Prop) [Decidable p] (k : Option α) : Option α := if p then k else none
def getM {α β : Type} (l : List α) (i : Int) (k : α → Option β) : Option β := if 0 ≤ i then (match l[i.toNat]? with | some x => k x | none => none) else none
def inrM {α β : Type} (m : Option β) : Option (α ⊕ β) := m.map .inr
def bindS {α β : Type} (m : Option (α ⊕ β)) (k : α → Option β) : Option β := match m with
  | some (.inl a) => k a
  | some (.inr b) => some b
  | none => none
def bindM {α β : Type} (m : Option α) (k : α → Option β) : Option β := match m with
  | some a => k a
  | none => none
def sub {α : Type} (l : List α) (i j : Int) : List α := (l.drop i.toNat).take (j.toNat - i.toNat)

section
variable {α β γ : Type}
theorem guard_inv {p : Prop} [Decidable p] {k : Option α} {r : α} (h : guardM p k = some r) : p ∧ k = some r := by
  unfold guardM at h
  split at h
  · exact ⟨by assumption, h⟩
  · cases h
theorem get_inv {l : List α} {i : Int} {k : α → Option β} {r : β} (h : getM l i k = some r) : ∃ x, (0 ≤ i ∧ l[i.toNat]? = some x) ∧ k x = some r := by
  unfold getM at h
  split at h
  · split at h
    · exact ⟨_, ⟨by assumption, by assumption⟩, h⟩
    · cases h
  · cases h
theorem bind_inv {m : Option α} {k : α → Option β} {r : β} (h : bindM m k = some r) : ∃ x, m = some x ∧ k x = some r := by
  cases m with
  | none => cases h
  | some a => exact ⟨a, rfl, h⟩
theorem inr_inv {m : Option β} {x : α ⊕ β} (h : inrM m = some x) : ∃ v, m = some v ∧ x = .inr v := by
  cases m with
  | none => cases h
  | some a => cases h; exact ⟨a, rfl, rfl⟩
theorem ite_T {p : Prop} [Decidable p] {a b : Option α} {c : α} (h : decide p = true) (hm : (if p then a else b) = some c) : a = some c := by rw [if_pos (of_decide_eq_true h)] at hm; exact hm
theorem ite_F {p : Prop} [Decidable p] {a b : Option α} {c : α} (h : decide p = false) (hm : (if p then a else b) = some c) : b = some c := by rw [if_neg (of_decide_eq_false h)] at hm; exact hm
theorem iteN_T {p : Prop} [Decidable p] {a b : Option α} {c : α} (h : (!decide p) = true) (hm : (if p then b else a) = some c) : a = some c := by rw [if_neg (of_decide_eq_false (by simpa using h))] at hm; exact hm
theorem iteN_F {p : Prop} [Decidable p] {a b : Option α} {c : α} (h : (!decide p) = false) (hm : (if p then b else a) = some c) : b = some c := by rw [if_pos (of_decide_eq_true (by simpa using h))] at hm; exact hm
theorem iteB_T {p : Bool} {a b : Option α} {c : α} (h : p = true) (hm : (if p = true then a else b) = some c) : a = some c := by rw [if_pos h] at hm; exact hm
theorem iteB_F {p : Bool} {a b : Option α} {c : α} (h : p = false) (hm : (if p = true then a else b) = some c) : b = some c := by rw [if_neg (by rw [h]; simp)] at hm; exact hm

/-- Is a slice nil? An empty one may be: both ways must come to the same. -/
def nilM {ρ : Type} [DecidableEq ρ] (l : List α) (a b : Option ρ) : Option ρ := match l with
  | [] => match a, b with
    | some x, some y => if x = y then some x else none
    | _, _ => none
  | _ => b
theorem nil_T {ρ : Type} [DecidableEq ρ] {l : List α} {f : α → D} {a b : Option ρ} {o : ρ} (h : (l.map f).length = 0) (hm : nilM l a b = some o) : l = [] ∧ a = some o := by
  cases l with
  | nil =>
    refine ⟨rfl, ?_⟩
    simp only [nilM] at hm
    split at hm
    · split at hm
      · exact hm
      · cases hm
    · cases hm
  | cons x r => simp at h
theorem nil_F {ρ : Type} [DecidableEq ρ] {l : List α} {a b : Option ρ} {o : ρ} (hm : nilM l a b = some o) : b = some o := by
  cases l with
  | nil =>
    simp only [nilM] at hm
    split at hm
    · split at hm
      · rename_i e; subst e; exact hm
      · cases hm
    · cases hm
  | cons x r => exact hm

/-! ### Loops -/

def iterM {σ ρ : Type} (f : σ → Option (σ ⊕ ρ)) : Nat → σ → Option ρ
  | 0, _ => none
  | n + 1, s => match f s with
    | none => none
    | some (.inl s') => iterM f n s'
    | some (.inr r) => some r
def roundsM : Nat := 73786976294838206464
/-- A loop: f makes one round. -/
def loopM {σ ρ : Type} (f : σ → Option (σ ⊕ ρ)) (s : σ) : Option ρ := iterM f roundsM s

theorem iterM_mono {σ ρ : Type} {f : σ → Option (σ ⊕ ρ)} : ∀ {n m : Nat} {s : σ} {r : ρ}, iterM f n s = some r → n ≤ m → iterM f m s = some r
  | 0, _, _, _, h, _ => by cases h
  | n + 1, 0, _, _, _, hm => absurd hm (Nat.not_succ_le_zero n)
  | n + 1, m + 1, s, r, h, hm => by
    simp only [iterM] at h ⊢
    split at h
    · cases h
    · exact iterM_mono h (Nat.le_of_succ_le_succ hm)
    · exact h
theorem loopM_of {σ ρ : Type} {f : σ → Option (σ ⊕ ρ)} {n : Nat} {s : σ} {r : ρ} (h : iterM f n s = some r) (hn : n ≤ roundsM) : loopM f s = some r := iterM_mono h hn
end

theorem k0 {ids : List Nat} (i : Nat) (h : i < 0) : ids[i]? = some i := absurd h (Nat.not_lt_zero i)

/-! ### Walks -/

variable {C : Ctx}

theorem TWp.monoT {c : Code} {st : St} {n n' : St → Prop} {Q : Exit → St → Prop} (h : TWp C c st (thenA n Q)) (hn : ∀ st, n st → n' st) : TWp C c st (thenA n' Q) := h.mono fun e st hq => by
  cases e with
  | normal => exact hn st hq
  | _ => exact hq

theorem w_loop {c : Code} {Q : Exit → St → Prop} {σ ρ : Type} {f : σ → Option (σ ⊕ ρ)} {s0 : σ} {o : ρ} (hm : loopM f s0 = some o) {fr : Fr} {hp : List Blk} (var : σ → Fr) (chg : σ → List (Nat × Blk)) (vk ik ids : List Nat) {inv : Fr} {hp0 : List Blk} (hnd : nodupB ids = true) (hk : ∀ i, i < C.k → ids[i]? = some i)
    (hI : normK fr ik = some inv) (hI' : Fr.mapRef (toName (placeOf ids)) inv = inv) (hV : Fr.mapRef (toName (placeOf ids)) (Fr.keep vk fr) = var s0) (hH : ids.map (fun i => (hp.getD i .dead).mapRef (toName (placeOf ids))) = hp0) (hC : hp0 = wr (chg s0) hp0)
    (round : ∀ s x, f s = some x → (∀ v, x = .inr v → v = o) → TWp C c ⟨var s ++ inv, wr (chg s) hp0⟩ (thenA (fun st' => ∃ s' ids', x = .inl s' ∧ nodupB ids' = true ∧ (∀ i, i < C.k → ids'[i]? = some i) ∧ st'.canon (vk ++ ik) ids' = ⟨var s' ++ inv, wr (chg s') hp0⟩) Q)) : TWp C (.loop c) ⟨fr, hp⟩ Q := by
  refine twp_whileK (α := σ × Nat) (fun x => var x.1) (fun x => chg x.1) (fun x => iterM f x.2 x.1 = some o) (fun x => x.2) vk ik ids (s0, roundsM) (nodupB_spec hnd) hk hm (normK_sub hI) hI' hV hH hC ?_
  rintro ⟨s, n⟩ hs
  cases n with
  | zero => cases hs
  | succ n =>
    simp only [iterM] at hs
    cases hf : f s with
    | none => rw [hf] at hs; cases hs
    | some x =>
      rw [hf] at hs
      refine (round s x hf fun v hv => by subst hv; exact Option.some.inj hs).monoT ?_
      rintro st' ⟨s', ids', hx, h1, h2, h3⟩
      subst hx
      exact ⟨(s', n), ids', nodupB_spec h1, h2, hs, Nat.lt_succ_self n, h3⟩

/-- Branches that meet again, some of which leave. -/
theorem w_joinS {x y : Code} {Q : Exit → St → Prop} {J ρ : Type} {m : Option (J ⊕ ρ)} {k : J → Option ρ} {o : ρ} (hm : bindS m k = some o) {fr : Fr} {hp : List Blk} (sets : J → Fr) (chg : J → List (Nat × Blk)) (sk ks : List Nat) {inv : Fr} (hI : normK fr ks = some inv)
    (h1 : ∀ z, m = some z → (∀ v, z = .inr v → v = o) → TWp C x ⟨fr, hp⟩ (thenA (fun st => ∃ j ids, z = .inl j ∧ nodupB ids = true ∧ (∀ i, i < C.k → ids[i]? = some i) ∧ st.canon (sk ++ ks) ids = ⟨sets j ++ inv, wr (chg j) hp⟩) Q))
    (h2 : ∀ j, k j = some o → TWp C y ⟨sets j ++ inv, wr (chg j) hp⟩ Q) : TWp C (.seq x y) ⟨fr, hp⟩ Q := by
  cases hz : m with
  | none => rw [hz] at hm; cases hm
  | some z =>
    rw [hz] at hm
    refine twp_seq ((h1 z hz fun v hv => by subst hv; exact Option.some.inj hm).monoT ?_)
    rintro st ⟨j, ids, hj, hnd, hk, he⟩
    subst hj
    refine twp_canon (sk ++ ks) ids (nodupB_spec hnd) hk ?_
    rw [he]
    exact h2 j hm

/-- Branches that meet again. -/
theorem w_joinM {x y : Code} {Q : Exit → St → Prop} {J ρ : Type} {m : Option J} {k : J → Option ρ} {o : ρ} (hm : bindM m k = some o) {fr : Fr} {hp : List Blk} (sets : J → Fr) (chg : J → List (Nat × Blk)) (sk ks : List Nat) {inv : Fr} (hI : normK fr ks = some inv)
    (h1 : ∀ z, m = some z → TWp C x ⟨fr, hp⟩ (thenA (fun st => ∃ j ids, z = j ∧ nodupB ids = true ∧ (∀ i, i < C.k → ids[i]? = some i) ∧ st.canon (sk ++ ks) ids = ⟨sets j ++ inv, wr (chg j) hp⟩) Q))
    (h2 : ∀ j, k j = some o → TWp C y ⟨sets j ++ inv, wr (chg j) hp⟩ Q) : TWp C (.seq x y) ⟨fr, hp⟩ Q := by
  cases hz : m with
  | none => rw [hz] at hm; cases hm
  | some z =>
    rw [hz] at hm
    refine twp_seq ((h1 z hz).monoT ?_)
    rintro st ⟨j, ids, hj, hnd, hk, he⟩
    subst hj
    refine twp_canon (sk ++ ks) ids (nodupB_spec hnd) hk ?_
    rw [he]
    exact h2 z hm

/-- Branches that meet again, told without a model. -/
theorem w_cut {x y : Code} {Q : Exit → St → Prop} {fr : Fr} {hp : List Blk} (sets : Fr) (sk ks : List Nat) {inv : Fr} (hI : normK fr ks = some inv)
    (h1 : TWp C x ⟨fr, hp⟩ (thenA (fun st => ∃ ids, nodupB ids = true ∧ (∀ i, i < C.k → ids[i]? = some i) ∧ st.canon (sk ++ ks) ids = ⟨sets ++ inv, hp⟩) Q))
    (h2 : TWp C y ⟨sets ++ inv, hp⟩ Q) : TWp C (.seq x y) ⟨fr, hp⟩ Q := by
  refine twp_seq (h1.monoT ?_)
  rintro st ⟨ids, hnd, hk, he⟩
  refine twp_canon (sk ++ ks) ids (nodupB_spec hnd) hk ?_
  rw [he]
  exact h2

theorem st_eq {fr fr' : Fr} {hp hp' : List Blk} (h1 : fr = fr') (h2 : hp = hp') : (⟨fr, hp⟩ : St) = ⟨fr', hp'⟩ := by rw [h1, h2]
theorem fr_cons {t : Nat} {v v' : AV} {r r' : Fr} (h1 : v = v') (h2 : r = r') : (t, v) :: r = (t, v') :: r' := by rw [h1, h2]

def flatTo {α : Type} (xss : List (List α)) (i : Nat) : List α := (xss.take i).flatten
theorem flat_zero {α : Type} (xss : List (List α)) : flatTo xss 0 = [] := by simp [flatTo]
theorem flat_succ {α : Type} {xss : List (List α)} {i : Nat} {x : List α} (h : xss[i]? = some x) : flatTo xss (i + 1) = flatTo xss i ++ x := by unfold flatTo; rw [List.take_add_one, h]; simp
theorem flat_all {α : Type} {xss : List (List α)} {i : Nat} (h : ¬ i < xss.length) : flatTo xss i = xss.flatten := by unfold flatTo; rw [List.take_of_length_le (by omega)]
theorem flat_le {α : Type} (xss : List (List α)) (i : Nat) : (flatTo xss i).length ≤ xss.flatten.length := by
  unfold flatTo
  have h := List.take_append_drop i xss
  have : xss.flatten.length = (xss.take i).flatten.length + (xss.drop i).flatten.length := by rw [← List.length_append, ← List.flatten_append, h]
  omega

/-! ### What asks for facts -/

section rd
variable {T : Tab} {o : Oper} {ev : Operand → AV} {hp : List Blk} {α : Type} {f : α → D} {xs ys : List α}

theorem x_ix {t e sz by' : Nat} {a b : Operand} {k : IntKind} {i : Int} {x : α} (hT : TabOk C.P T) (ho : o.op = .indexAddr t a b) (hl : lk T.sel t = some (e, sz, by')) (ha : ev a = .d (.sl sz (xs.map f))) (hb : ev b = .d (.int k i)) (h : 0 ≤ i ∧ xs[i.toNat]? = some x) : RdOk C o ev hp (.d (.ptr (f x) 0)) :=
  index_sl ho (hT.sel hl) ha hb (idx_int h.1 h.2)
theorem x_ixo {t e sz by' n id : Nat} {a b : Operand} {k : IntKind} {i : Int} {x : α} (hT : TabOk C.P T) (ho : o.op = .indexAddr t a b) (hl : lk T.sel t = some (e, sz, by')) (ha : ev a = .msl id sz 0 n) (hb : ev b = .d (.int k i)) (h : 0 ≤ i ∧ xs[i.toNat]? = some x) (hn : n = xs.length) : RdOk C o ev hp (.mptr id sz i.toNat 0) := by
  have hlt := (List.getElem?_eq_some_iff.1 h.2).1
  exact index_msl ho (hT.sel hl) ha hb ⟨h.1, by omega⟩ (Nat.zero_add _)
theorem x_ixa {t n s id : Nat} {a b : Operand} {k : IntKind} {i : Int} {x : α} (ho : o.op = .indexAddr t a b) (hl : asel C.P t = some (n, s)) (ha : ev a = .mptr id s 0 0) (hb : ev b = .d (.int k i)) (h : 0 ≤ i ∧ xs[i.toNat]? = some x) (hn : i < (n : Int)) : RdOk C o ev hp (.mptr id s i.toNat 0) := index_arr0 ho hl ha hb ⟨h.1, hn⟩
theorem x_ldo {t s id sz idx off bt : Nat} {b : Bool} {a : Operand} {x : α} {v : AV} (hT : TabOk C.P T) (ho : o.op = .load t a) (hl : lk T.lay t = some (b, s)) (ha : ev a = .mptr id sz idx off) (hb : hp[id]? = some (.flat bt sz (xs.map f))) (hx : xs[idx]? = some x) (hv : loadE b s [] (.d (.ptr (f x) off)) = some v) : RdOk C o ev hp v := by
  have he : (xs.map f)[idx]? = some (f x) := el_map hx
  cases b with
  | false =>
    simp only [loadE] at hv
    split at hv
    · rename_i d hd; cases hv; exact load_flat ho (hT.lay hl) ha hb he hd
    · cases hv
  | true =>
    simp only [loadE] at hv
    split at hv
    · rename_i h1 h2 h3
      cases hv
      have h1 := Nat.eq_of_beq_eq_true h1
      subst h1
      exact load_flatW ho (hT.lay hl) ha hb he (Nat.eq_of_beq_eq_true h2) h3
    · split at hv
      · rename_i hle; cases hv; exact rd_load_flatAgg id sz idx off s _ _ ho (hT.lay hl) ha hb he (Nat.le_of_ble_eq_true hle)
      · cases hv
theorem x_len {t e sz sz' by' : Nat} {a : Operand} (hT : TabOk C.P T) (ho : o.op = .call { callee := .builtin .len, args := #[a], argTypes := #[t] }) (hl : lk T.sel t = some (e, sz', by')) (ha : ev a = .d (.sl sz (xs.map f))) : RdOk C o ev hp (.d (.int .i64 (xs.length : Int))) :=
  len_d ho (hT.sel hl) ha (List.length_map _)
theorem x_ar {op : BinOp} {t t' : TypeId} {x y : Operand} {m n r : Int} (ho : o.op = .binOp op t x y t') (hx : ev x = .d (.int .i64 m)) (hy : ev y = .d (.int .i64 n)) (hr : arRaw op m n = some r) (hb : I64 r) : RdOk C o ev hp (.d (.int .i64 r)) := arith_ok ho hx hy hr hb
theorem x_cut {t e sz by' : Nat} {a : Operand} {lo hi : Option Operand} {l r : Int} (hT : TabOk C.P T) (ho : o.op = .slice t a lo hi none) (hl : lk T.sel t = some (e, sz, by')) (ha : ev a = .d (.sl sz (xs.map f))) (hlo : bnd 0 (lo.map ev) = some l) (hhi : bnd xs.length (hi.map ev) = some r) (h : 0 ≤ l ∧ l ≤ r ∧ r ≤ xs.length) : RdOk C o ev hp (.d (.sl sz ((sub xs l r).map f))) := by
  have h1 : bnd 0 (lo.map ev) = some ((l.toNat : Nat) : Int) := by rw [hlo, Int.toNat_of_nonneg h.1]
  have h2 : bnd (xs.map f).length (hi.map ev) = some ((r.toNat : Nat) : Int) := by rw [List.length_map, hhi, Int.toNat_of_nonneg (by omega)]
  have := rd_cut (hp := hp) sz by' (xs.map f) l.toNat r.toNat ho (hT.sel hl) ha h1 h2 (by omega) (by rw [List.length_map]; omega)
  simpa [sub, List.map_take, List.map_drop] using this
theorem x_lit {t e sz by' n : Nat} {parts : Array (Nat × Operand)} {z : Value} (l : List Operand) (hT : TabOk C.P T) (ho : o.op = .buildSlice t n parts) (hl : lk T.sel t = some (e, sz, by')) (hz : (C.P.info? e).bind (·.zero) = some z) (hp' : denseParts parts l) {ds : List D}
    (hx : evD (l.map ev) = some ds) (hn : Nat.beq ds.length n = true) (hs : (ds.all fun d => Nat.beq d.cells.length sz) = true) (hsmall : Nat.ble (n * sz) 16777216 = true) : RdOk C o ev hp (.d (.sl sz ds)) := rd_litF l ho (hT.sel hl) hz hp' hx hn hs hsmall
theorem x_make {t e sz by' : Nat} {a b : Operand} {z : Value} {zd : D} {n : Int} (hT : TabOk C.P T) (ho : o.op = .makeSlice t a b) (hl : lk T.sel t = some (e, sz, by')) (hz : (C.P.info? e).bind (·.zero) = some z) (hzd : ofConst z = .d zd) (hzs : Nat.beq zd.cells.length sz = true) (ha : ev a = .d (.int .i64 n)) (hb : ev b = .d (.int .i64 n)) (hby : Nat.ble by' 100000 = true) (hn : 0 ≤ n ∧ n ≤ 1000000000) {x : α} (hf : f x = zd) : RdOk C o ev hp (.d (.sl sz ((List.replicate n.toNat x).map f))) := by
  obtain ⟨m, rfl⟩ := Int.eq_ofNat_of_zero_le hn.1
  have h1 := Nat.le_of_ble_eq_true hby
  have h2 : m ≤ 1000000000 := by omega
  have h3 : by' * m ≤ 100000 * 1000000000 := Nat.mul_le_mul h1 h2
  have := rd_make (hp := hp) (n := m) ho (hT.sel hl) hz hzd (Nat.eq_of_beq_eq_true hzs) ha hb (by omega) (by omega)
  rw [List.map_replicate, hf]
  exact this
end rd

/-! ### Steps that change blocks -/

theorem index_arrC {o : Oper} {ev : Operand → AV} {hp : List Blk} {t : TypeId} {x y : Operand} {id off n s j : Nat} {k : IntKind} {i : Int} (ho : o.op = .indexAddr t x y) (hl : asel C.P t = some (n, s)) (hx : ev x = .mptr id 0 0 off) (hy : ev y = .d (.int k i)) (h0 : 0 ≤ i) (h1 : i < n) (hj : off + i.toNat * s = j) : RdOk C o ev hp (.mptr id 0 0 j) :=
  hj ▸ rd_indexAddr_arr id 0 0 off n s k i ho hl hx hy h0 h1
theorem x_conv {o : Oper} {ev : Operand → AV} {hp : List Blk} {s t : TypeId} {x : Operand} {n : Int} {us : TypeDesc} (ho : o.op = .convert s t x) (hs : C.P.underlying s = some us) (ht : C.P.underlying t = some (.int .i64)) (hx : ev x = .d (.int .i64 n)) (hb : I64 n) : RdOk C o ev hp (.d (.int .i64 n)) := by
  have := rd_convInt (C := C) (hp := hp) .i64 .i64 n us ho hs ht hx
  rwa [wrap64 hb] at this
theorem s_xb {ops : Array Oper} {op : Op} {ty : TypeId} {pos : String} {after : Array Edge} {gd : Option (Nat × Bool)} {l : List Oper} {K : St → Prop} {fr : Fr} {hp : List Blk} {d : Nat} {e : Bool} (hd : decide (d < C.n) = true) (hon : onE ops gd fr = some true)
    (hr : RdOk C ⟨some d, op, ty, pos, after, gd⟩ fr.ev hp (.d (.bool e))) (k : ∀ b, e = b → TOps C ops l ⟨(d, .d (.bool b)) :: fr, hp⟩ K) : TOps C ops (⟨some d, op, ty, pos, after, gd⟩ :: l) ⟨fr, hp⟩ K := s_x hd hon hr (k e rfl)

/-! ### Maps -/

def putE {α β : Type} [DecidableEq α] (fs : List (α × β)) (k : α) (v : β) : List (α × β) := match fs.findIdx? fun x => decide (x.1 = k) with
  | some j => fs.set j (k, v)
  | none => fs ++ [(k, v)]
section pm
variable {α β : Type} [DecidableEq α] {dk : TypeDesc} {kf : α → D}
variable {o : Oper} {ev : Operand → AV} {hp : List Blk} {x y u : Operand} {t kt et kt' et' : TypeId} {id : Nat} {zd : D} {z : Value}
theorem x_look (hk : KeyF dk kf) (f : β → D) (fs : List (α × β)) (s : α) (z0 : β) (ho : o.op = .lookup t x y true) (hl : mty C.P t = some (kt, dk, et)) (hz : (C.P.info? et).bind (·.zero) = some z) (hzd : ofConst z = .d (f z0))
    (hx : ev x = .mmap id) (hb : hp[id]? = some (.map kt' et' (pairMap kf f fs))) (hy : ev y = .d (kf s)) (hnd : (fs.map (·.1)).Nodup) : RdOk C o ev hp (.tup [.d (f ((assocE fs s).getD z0)), .d (.bool (assocE fs s).isSome)]) := by
  have := rd_look_pm (C := C) hk f fs s ho hl hz hzd hx hb hy hnd
  cases h : assocE fs s with
  | none => rw [h] at this; exact this
  | some b => rw [h] at this; exact this
theorem x_look0 (hk : KeyF dk kf) (f : β → D) (fs : List (α × β)) (s : α) (z0 : β) (ho : o.op = .lookup t x y false) (hl : mty C.P t = some (kt, dk, et)) (hz : (C.P.info? et).bind (·.zero) = some z) (hzd : ofConst z = .d (f z0))
    (hx : ev x = .mmap id) (hb : hp[id]? = some (.map kt' et' (pairMap kf f fs))) (hy : ev y = .d (kf s)) (hnd : (fs.map (·.1)).Nodup) : RdOk C o ev hp (.d (f ((assocE fs s).getD z0))) := by
  have := rd_look0_pm (C := C) hk f fs s ho hl hz hzd hx hb hy hnd
  cases h : assocE fs s with
  | none => rw [h] at this; exact this
  | some b => rw [h] at this; exact this
theorem s_putE {ops : Array Oper} {l : List Oper} {K : St → Prop} {fr : Fr} {ty : TypeId} {pos : String} {after : Array Edge} (hk : KeyF dk kf) (f : β → D) {fs : List (α × β)} {s : α} {b : β} (hl : mty C.P t = some (kt, dk, et)) (hx : fr.ev x = .mmap id) (hb : hp[id]? = some (.map kt' et' (pairMap kf f fs))) (hy : fr.ev y = .d (kf s)) (hu : fr.ev u = .d (f b)) (hnd : (fs.map (·.1)).Nodup)
    (h : TOps C ops l ⟨fr, hp.set id (.map kt' et' (pairMap kf f (putE fs s b)))⟩ K) : TOps C ops (⟨none, .mapUpdate t x y u, ty, pos, after, none⟩ :: l) ⟨fr, hp⟩ K := by
  cases e : fs.findIdx? fun x => decide (x.1 = s) with
  | none =>
    have hn : assocE fs s = none := by
      unfold assocE
      rw [Option.map_eq_none_iff, List.find?_eq_none]
      rw [List.findIdx?_eq_none_iff] at e
      intro x hx
      simpa using e x hx
    refine s_put_pm hk f hl hx hb hy hu hn rfl ?_
    simpa only [putE, e] using h
  | some j =>
    rw [List.findIdx?_eq_some_iff_getElem] at e
    obtain ⟨hlt, hj, _⟩ := e
    have hj' : fs[j]? = some (s, fs[j].2) := by
      rw [List.getElem?_eq_getElem hlt, ← of_decide_eq_true hj]
    refine s_put_at (j := j) (v0 := f fs[j].2) hl hx hb hy hu (pairMap_key hk) (pairMap_nodup hk hnd) (by simp [pairMap, hj']) rfl ?_
    have e' : (fs.findIdx? fun x => decide (x.1 = s)) = some j := by rw [List.findIdx?_eq_some_iff_getElem]; exact ⟨hlt, hj, by assumption⟩
    simp only [putE, e'] at h
    simpa [pairMap, List.map_set] using h
def delE {α β : Type} [DecidableEq α] (fs : List (α × β)) (k : α) : List (α × β) := match fs.findIdx? fun x => decide (x.1 = k) with
  | some j => fs.eraseIdx j
  | none => fs
theorem s_delE {ops : Array Oper} {l : List Oper} {K : St → Prop} {fr : Fr} {ty : TypeId} {tk : TypeId} {pos : String} {after : Array Edge} (hk : KeyF dk kf) (f : β → D) {fs : List (α × β)} {s : α} (hl : mty C.P t = some (kt, dk, et)) (hx : fr.ev x = .mmap id) (hb : hp[id]? = some (.map kt' et' (pairMap kf f fs))) (hy : fr.ev y = .d (kf s)) (hg : (fs.map (·.1)).Nodup ∧ (assocE fs s).isSome = true)
    (h : TOps C ops l ⟨fr, hp.set id (.map kt' et' (pairMap kf f (delE fs s)))⟩ K) : TOps C ops (⟨none, .call { callee := .builtin .delete, args := #[x, y], argTypes := #[t, tk] }, ty, pos, after, none⟩ :: l) ⟨fr, hp⟩ K := by
  cases e : fs.findIdx? fun x => decide (x.1 = s) with
  | none =>
    have hn : assocE fs s = none := by
      unfold assocE
      rw [Option.map_eq_none_iff, List.find?_eq_none]
      rw [List.findIdx?_eq_none_iff] at e
      intro x hx
      simpa using e x hx
    rw [hn] at hg
    exact absurd hg.2 (by simp)
  | some j =>
    have e' := e
    rw [List.findIdx?_eq_some_iff_getElem] at e
    obtain ⟨hlt, hj, _⟩ := e
    have hj' : fs[j]? = some (s, fs[j].2) := by
      rw [List.getElem?_eq_getElem hlt, ← of_decide_eq_true hj]
    refine s_del0 (j := j) (v0 := f fs[j].2) hl hx hb hy (pairMap_key hk) (pairMap_nodup hk hg.1) (by simp [pairMap, hj']) rfl ?_
    simp only [delE, e'] at h
    simpa [pairMap, List.eraseIdx_eq_take_drop_succ, List.map_take, List.map_drop] using h
end pm

/-! ### Arrays, built -/

def plcA (P : Program) (t : TypeId) : Option (List (Nat × Nat)) := match P.underlying t with
  | some (.array n e) => (P.info? e).map fun i => (List.range n).map fun k => (k * i.size, i.size)
  | _ => none
theorem fill_le {p p' : Nat → Option (Nat × Nat)} (hp : ∀ i x, p i = some x → p' i = some x) : ∀ (parts : List (Nat × Value)) (cells c : Array Value), Instr.fill p cells parts = some c → Instr.fill p' cells parts = some c
  | [], cells, c, h => h
  | (i, v) :: r, cells, c, h => by
    simp only [Instr.fill] at h ⊢
    cases e : p i with
    | none => rw [e] at h; cases h
    | some x =>
      rw [e] at h
      rw [hp i x e]
      simp only at h ⊢
      split at h
      · cases h
      · rename_i hc
        rw [if_neg hc]
        exact fill_le hp r _ c h
theorem build_a {o : Oper} {ev : Operand → AV} {hp : List Blk} {t : TypeId} {parts : Array (Nat × Operand)} {z : Value} {zc cs : List AV} {pl : List (Nat × Nat)} {ds : List D} (ho : o.op = .build t parts) (hpl : plcA C.P t = some pl) (hz : (C.P.info? t).bind (·.zero) = some z) (hzf : (ofConst z).flat = true) (hzc : (ofConst z).cells = zc)
    (hf : fillA pl zc (parts.toList.map fun p => (p.1, ev p.2)) = some cs) (hv : mkAgg cs = .d (.agg ds)) : RdOk C o ev hp (.d (.agg ds)) :=
  RdOk.mk fun st hhp hag g a w hs => by
    rw [← hv]
    subst hzc
    have hz' := ofConst_rep w g z
    have hpz := (hz'.pw hzf).1
    have hparts : Pw (fun (x : Nat × AV) (y : Nat × Value) => x.1 = y.1 ∧ ARep w g x.2 y.2) (parts.toList.map fun p => (p.1, ev p.2)) (parts.map fun p => (p.1, a.eval p.2)).toList := by
      refine ⟨by simp, fun i x y hx hy => ?_⟩
      simp only [List.getElem?_map, Option.map_eq_some_iff, Array.toList_map] at hx hy
      obtain ⟨p, hp, rfl⟩ := hx
      obtain ⟨q, hq, rfl⟩ := hy
      rw [hp] at hq
      cases hq
      refine ⟨rfl, ?_⟩
      have := hs.ev p.2
      rw [hag p.2 (by
        simp only [ho, Op.operands]
        have := List.mem_of_getElem? hp
        first | exact Array.mem_map.2 ⟨p, Array.mem_toList_iff.1 this, rfl⟩ | (simp only [List.mem_toArray, List.mem_map]; exact ⟨p, this, rfl⟩))] at this
      exact this
    unfold plcA at hpl
    split at hpl
    · rename_i n e hu
      obtain ⟨inf, hinf, hpl⟩ := Option.map_eq_some_iff.1 hpl
      obtain ⟨cells', h1, h2⟩ := fill_rep pl.toArray _ _ _ _ z.cells hparts hpz (by simpa using hf)
      refine ⟨.agg cells', ?_, mkAgg_rep (by have := h2.1; simpa using this) fun i c v hc hv => h2.2 i c v hc (by simpa using hv)⟩
      obtain ⟨infz, hinfz, hzz⟩ := Option.bind_eq_some_iff.1 hz
      have hzv : (zeroValue t).run C.P w = .ok z w := by simp [zeroValue, typeInfo, hinfz, hzz]
      have hsz : (sizeOf e).run C.P w = .ok inf.size w := by simp [sizeOf, typeInfo, hinf]
      have h1' : Instr.fill (fun i => some (i * inf.size, inf.size)) z.cells (parts.map fun p => (p.1, a.eval p.2)).toList = some cells' := by
        refine fill_le ?_ _ _ _ h1
        intro i x hx
        subst hpl
        simp only [List.getElem?_toArray, List.getElem?_map, Option.map_eq_some_iff] at hx
        obtain ⟨k, hk, rfl⟩ := hx
        have := (List.getElem?_eq_some_iff.1 hk).2
        simp at this
        rw [this]
      have hb : (Instr.build t (parts.map fun p => (p.1, a.eval p.2))).run C.P w = .ok (.agg cells') w := by
        unfold Instr.build
        rw [Sem.run_bind, hzv, Result.andThen_ok, Sem.run_bind, run_underlying hu, Result.andThen_ok]
        simp only
        rw [Sem.run_bind, hsz, Result.andThen_ok]
        simp only [h1', Sem.run_pure]
      simp only [execOp, ho]
      simp only [Sem.run_bind]
      have hb' : (Instr.build t (parts.map fun x => (x.1, a.eval x.2))).run C.P w = .ok (.agg cells') w := hb
      rw [hb']
      rfl
    · cases hpl

theorem bytes_iff {s u : ByteArray} : s.data.toList = u.data.toList ↔ s = u := ⟨fun h => by cases s; cases u; congr 1; exact Array.toList_inj.1 h, fun h => by rw [h]⟩
theorem bytes_data {s u : ByteArray} : s.data = u.data ↔ s = u := ⟨fun h => by cases s; cases u; congr 1, fun h => by rw [h]⟩
theorem bytes_fit {s : ByteArray} (h : s.size ≤ maxLen) : s.data.toList.length ≤ maxLen := by simpa using h

section st
variable {T : Tab} {ops : Array Oper} {l : List Oper} {K : St → Prop} {fr : Fr} {hp : List Blk} {d : Nat} {ty : TypeId} {pos : String} {after : Array Edge} {α : Type} {f : α → D} {xs ys : List α}

theorem s_nilO {x : Operand} (N ety sz : Nat) (hd : decide (d < C.n) = true) (hN : Nat.beq hp.length N = true) (hx : fr.ev x = .d .nilsl) (h : TOps C ops l ⟨(d, .msl N sz 0 ([] : List α).length) :: fr, hp ++ [.flat ety sz (([] : List α).map f)]⟩ K) : TOps C ops (⟨some d, .assign x, ty, pos, after, none⟩ :: l) ⟨fr, hp⟩ K := by
  have e := Nat.eq_of_beq_eq_true hN
  subst e
  exact s_assignNil ety sz hd hx h

def boxE : AV → Option (List AV)
  | .d (.agg ds) => some (ds.map .d)
  | .d d => some [.d d]
  | .agg cs => match (AV.agg cs).flat with
    | true => some cs
    | false => none
  | .msl i s o l => some [.msl i s o l]
  | .mptr i s o l => some [.mptr i s o l]
  | .mmap i => some [.mmap i]
  | _ => none
theorem boxE_ok {v : AV} {cs : List AV} (h : boxE v = some cs) : v.flat = true ∧ v.cells = cs := by
  cases v with
  | d d => cases d <;> cases h <;> exact ⟨rfl, rfl⟩
  | agg cs =>
    simp only [boxE] at h
    split at h
    · rename_i hf; cases h; exact ⟨hf, rfl⟩
    · cases h
  | msl => cases h; exact ⟨rfl, rfl⟩
  | mptr => cases h; exact ⟨rfl, rfl⟩
  | mmap => cases h; exact ⟨rfl, rfl⟩
  | _ => cases h
theorem s_bx {x : Operand} {t : TypeId} {cs : List AV} (N : Nat) (hd : decide (d < C.n) = true) (hN : Nat.beq hp.length N = true) (hx : boxE (fr.ev x) = some cs) (h : TOps C ops l ⟨(d, .mptr N 0 0 0) :: fr, hp ++ [.box t cs]⟩ K) : TOps C ops (⟨some d, .box t x, ty, pos, after, none⟩ :: l) ⟨fr, hp⟩ K := by
  have e := Nat.eq_of_beq_eq_true hN
  subst e
  exact s_box hd rfl (boxE_ok hx).1 (boxE_ok hx).2 h
theorem s_al {t : TypeId} {z : Value} {cs : List AV} (N : Nat) (hd : decide (d < C.n) = true) (hN : Nat.beq hp.length N = true) (hz : (C.P.info? t).bind (·.zero) = some z) (hc : boxE (ofConst z) = some cs) (h : TOps C ops l ⟨(d, .mptr N 0 0 0) :: fr, hp ++ [.box t cs]⟩ K) : TOps C ops (⟨some d, .alloc t, ty, pos, after, none⟩ :: l) ⟨fr, hp⟩ K := by
  have e := Nat.eq_of_beq_eq_true hN
  subst e
  exact s_alloc hd hz (boxE_ok hc).1 (boxE_ok hc).2 h
theorem s_ala {t : TypeId} {z : Value} {zd : D} (N n : Nat) (hd : decide (d < C.n) = true) (hN : Nat.beq hp.length N = true) (hz : (C.P.info? t).bind (·.zero) = some z) (hzd : ofConst z = .d (.agg (List.replicate (n + 1) zd))) (h1 : zd.one = true) {x : α} (hf : f x = zd) (h : TOps C ops l ⟨(d, .mptr N 1 0 0) :: fr, hp ++ [.flat t 1 ((List.replicate (n + 1) x).map f)]⟩ K) : TOps C ops (⟨some d, .alloc t, ty, pos, after, none⟩ :: l) ⟨fr, hp⟩ K := by
  have e := Nat.eq_of_beq_eq_true hN
  subst e
  rw [List.map_replicate, hf] at h
  exact s_allocArr n hd hz hzd h1 h
theorem s_mkO {t e sz by' : Nat} {a b : Operand} {z : Value} {zd : D} {n : Int} (N : Nat) (hT : TabOk C.P T) (hd : decide (d < C.n) = true) (hN : Nat.beq hp.length N = true) (hl : lk T.sel t = some (e, sz, by')) (hz : (C.P.info? e).bind (·.zero) = some z) (hzd : ofConst z = .d zd) (hzs : Nat.beq zd.cells.length sz = true) (ha : fr.ev a = .d (.int .i64 n)) (hb : fr.ev b = .d (.int .i64 n)) (hby : Nat.ble by' 100000 = true) (hn : 0 ≤ n ∧ n ≤ 1000000000) {x : α} (hf : f x = zd)
    (h : TOps C ops l ⟨(d, .msl N sz 0 (List.replicate n.toNat x).length) :: fr, hp ++ [.flat e sz ((List.replicate n.toNat x).map f)]⟩ K) : TOps C ops (⟨some d, .makeSlice t a b, ty, pos, after, none⟩ :: l) ⟨fr, hp⟩ K := by
  obtain ⟨m, rfl⟩ := Int.eq_ofNat_of_zero_le hn.1
  have h1 := Nat.le_of_ble_eq_true hby
  have h2 : m ≤ 1000000000 := by omega
  have h3 : by' * m ≤ 100000 * 1000000000 := Nat.mul_le_mul h1 h2
  have e := Nat.eq_of_beq_eq_true hN
  subst e
  rw [List.map_replicate, hf] at h
  simp only [Int.toNat_natCast, List.length_replicate] at h
  exact s_makeSlice (n := m) hd (hT.sel hl) hz hzd (Nat.eq_of_beq_eq_true hzs) ha hb (by omega) (by omega) h
theorem s_litO {t e sz by' n : Nat} {parts : Array (Nat × Operand)} {z : Value} (N : Nat) (os : List Operand) (xs : List α) (hT : TabOk C.P T) (hd : decide (d < C.n) = true) (hN : Nat.beq hp.length N = true) (hl : lk T.sel t = some (e, sz, by')) (hz : (C.P.info? e).bind (·.zero) = some z) (hp' : denseParts parts os)
    (hx : evD (os.map fr.ev) = some (xs.map f)) (hn : Nat.beq (xs.map f).length n = true) (hs : ((xs.map f).all fun d => Nat.beq d.cells.length sz) = true) (hsmall : Nat.ble (n * sz) 16777216 = true) (h : TOps C ops l ⟨(d, .msl N sz 0 xs.length) :: fr, hp ++ [.flat e sz (xs.map f)]⟩ K) : TOps C ops (⟨some d, .buildSlice t n parts, ty, pos, after, none⟩ :: l) ⟨fr, hp⟩ K := by
  have e := Nat.eq_of_beq_eq_true hN
  subst e
  have e2 := Nat.eq_of_beq_eq_true hn
  rw [List.length_map] at e2
  rw [e2] at h
  exact s_litD os hd (hT.sel hl) hz hp' hx hn hs hsmall h
theorem s_app {t e sz by' n id : Nat} {x y : Operand} {u : AV} {z : Value} {fr' : Fr} {hp1 : List Blk} (ys : List α) (hT : TabOk C.P T) (hd : decide (d < C.n) = true) (hl : lk T.sel t = some (e, sz, by')) (hz : (C.P.info? e).bind (·.zero) = some z) (hzs : Nat.beq z.cells.size sz = true) (hby : Nat.ble by' 100000 = true) (hx : fr.ev x = .msl id sz 0 n) (hb : hp[id]? = some (.flat e sz (xs.map f))) (hn : n = xs.length) (hmv : id < C.k → C.mv id = true)
    (hy : fr.ev y = u) (hu : SrcA hp sz (ys.map f) u) (hg : (xs ++ ys).length ≤ 1000000000) (hfr : Fr.mapRef (purge id) fr = fr') (hhp : hp.map (Blk.mapRef (purge id)) = hp1)
    (h : TOps C ops l ⟨(d, .msl id sz 0 (xs ++ ys).length) :: fr', hp1.set id (.flat e sz ((xs ++ ys).map f))⟩ K) : TOps C ops (⟨some d, .call { callee := .builtin .append, args := #[x, y], argTypes := #[t, t] }, ty, pos, after, none⟩ :: l) ⟨fr, hp⟩ K := by
  have h1 := Nat.le_of_ble_eq_true hby
  have h3 : (xs ++ ys).length * by' ≤ 1000000000 * 100000 := Nat.mul_le_mul hg h1
  exact s_append (m := (xs ++ ys).length) (ds := ys.map f) (es' := (xs ++ ys).map f) hd (hT.sel hl) hz (Nat.eq_of_beq_eq_true hzs) hx hb (by rw [hn, List.length_map]) hmv hy hu (by rw [List.map_append]) (by simp) (by omega) (by omega) hfr hhp h
theorem s_sto {t s id sz idx off bt : Nat} {b : Bool} {a y : Operand} {x x' : α} {v : D} (hT : TabOk C.P T) (hl : lk T.lay t = some (b, s)) (ha : fr.ev a = .mptr id sz idx off) (hy : fr.ev y = .d v) (hs : Nat.beq v.cells.length s = true) (hb : hp[id]? = some (.flat bt sz (xs.map f))) (hx : xs[idx]? = some x) (hone : ((!(f x).one) || v.one) = true) (hle : Nat.ble (off + s) (f x).cells.length = true) (hu : (f x).upd off v = f x') (h : TOps C ops l ⟨fr, hp.set id (.flat bt sz ((xs.set idx x').map f))⟩ K) : TOps C ops (⟨none, .store t a y, ty, pos, after, none⟩ :: l) ⟨fr, hp⟩ K := by
  rw [List.map_set] at h
  refine s_store_flat (e := f x) (e' := f x') (hT.lay hl) ha hy (Nat.eq_of_beq_eq_true hs) hb (el_map hx) ?_ (Nat.le_of_ble_eq_true hle) hu h
  simp only [Bool.or_eq_true, Bool.not_eq_true'] at hone
  exact hone
theorem s_lno (t n' : Nat) {id sz n : Nat} (hv : Fr.get fr t = .msl id sz 0 n) (he : n = n') (h : TOps C ops l ⟨(t, .msl id sz 0 n') :: fr, hp⟩ K) : TOps C ops l ⟨fr, hp⟩ K := s_eq t _ hv (by rw [he]) h
theorem src_d {hp : List Blk} {sz : Nat} {ds : List D} : SrcA hp sz ds (.d (.sl sz ds)) := ⟨rfl, rfl⟩
theorem src_o {hp : List Blk} {id sz ty n : Nat} {ds : List D} (h : hp[id]? = some (.flat ty sz ds)) (hn : n = ds.length) : SrcA hp sz ds (.msl id sz 0 n) := ⟨rfl, ty, ds, h, by omega, by subst hn; simp⟩
theorem snap_map {id sz ty : Nat} (h : hp[id]? = some (.flat ty sz (xs.map f))) : Snap hp (.msl id sz 0 xs.length) (.sl sz (xs.map f)) := snap_full h (by simp)
end st

theorem RetT.args {P : Program} {F : FuncId} {ds ds' rs : List D} (h : RetT P F ds' rs) (hd : DLa ds ds') : RetT P F ds rs := by
  obtain ⟨mv, r, hp', h1, h2⟩ := h
  exact ⟨mv, r, hp', h1.args hd, h2⟩

theorem x_callT {o : Oper} {ev : Operand → AV} {hp : List Blk} {f : Operand} {xs : Array Operand} {ts : Array TypeId} {F : FuncId} {ds rs : List D} (ho : o.op = .call { callee := .value f, args := xs, argTypes := ts }) (hf : ev f = .d (.fn F)) (hx : xs.toList.map ev = ds.map .d) (hret : RetT C.P F ds rs) : RdOk C o ev hp (.tup (rs.map .d)) :=
  rd_callCT (cs := []) ho hf rfl hx (by rw [List.append_nil]; exact hret)

/-! ### Blocks that are written no more -/

theorem c_frz {c : Code} {Q : Exit → St → Prop} {fr fr' : Fr} {hp hp' : List Blk} (i : Nat) (hk : C.k = 0) (hal : aliveAt hp i = true) (hf : Fr.mapRef (frz i (hp.getD i .dead) (aliveAt hp)) fr = fr') (hh : (hp.map (Blk.mapRef (frz i (hp.getD i .dead) (aliveAt hp)))).set i .dead = hp') (h : TWp C c ⟨fr', hp'⟩ Q) : TWp C c ⟨fr, hp⟩ Q := by
  subst hf hh
  exact twp_freeze i (by omega) hal (fun j hj => by omega) h
theorem c_frzO {c : Code} {Q : Exit → St → Prop} {fr fr' : Fr} {hp hp' : List Blk} (t i : Nat) (ks : List Nat) (hk : C.k = 0) (hal : aliveAt hp i = true) {sz n ty : Nat} {es : List D} (ht : fr.get t = .msl i sz 0 n) (hb : hp[i]? = some (.flat ty sz es)) (hn : n = es.length) (hf : Fr.mapRef (frz i (.flat ty sz es) (aliveAt hp)) (Fr.keep ks fr) = fr') (hh : (hp.map (Blk.mapRef (frz i (.flat ty sz es) (aliveAt hp)))).set i .dead = hp')
    (h : TWp C c ⟨(t, .d (.sl sz es)) :: fr', hp'⟩ Q) : TWp C c ⟨fr, hp⟩ Q := by
  have hB : hp.getD i .dead = .flat ty sz es := by rw [List.getD_eq_getElem?_getD, hb]; rfl
  intro g a w hs
  obtain ⟨g', hs'⟩ := hs.freeze i (by omega) hal (fun j hj => by omega)
  subst hf hh
  refine h g' a w ?_
  simp only [St.freeze, hB] at hs'
  refine { hs' with fr := fun u => ?_ }
  have hu := hs'.fr u
  simp only [Fr.get]
  split
  · rename_i e
    subst e
    rw [Fr.get_mapRef, ht] at hu
    simp only [AV.mapRef, frz, if_true] at hu
    rw [if_pos ⟨trivial, by omega⟩] at hu
    subst hn
    simpa using hu
  · rw [Fr.get_mapRef]
    rcases Fr.get_keep fr ks u with e | e
    · rw [e, ← Fr.get_mapRef]; exact hu
    · rw [e]; exact .junk _

/-- A call with data whose result lies in one block of its own. -/
theorem w_callB {C : Ctx} {o : Oper} {ev : Operand → AV} {hp : List Blk} {i : Nat} {f : Operand} {xs : Array Operand} {ts : Array TypeId} {F : FuncId} {mv : Nat → Bool} {ds : List D} {r r' : AV} {B : Blk} (hi : hp[i]? = some .hole) (ho : o.op = .call { callee := .value f, args := xs, argTypes := ts })
    (hf : ev f = .d (.fn F)) (hx : xs.toList.map ev = ds.map .d) (hret : Ret C.P F [] mv (ds.map .d) r [B]) (hm : BMem0 B) (hrr : (r = .mmap 0 ∧ r' = .mmap i) ∨ ∃ sz n, r = .msl 0 sz 0 n ∧ r' = .msl i sz 0 n) (hBB : B.mapRef (fun _ => .junk) = B) : DOk C o ev hp r' [(i, B)] := by
  intro st hhp hlen _ hag g a w hs Q K' hK
  have hih := hole_at hi hhp
  have hno : g.phi i = none := hs.hp i _ hih
  have hil : i < st.hp.length := (List.getElem?_eq_some_iff.1 hih).1
  have hfv := hs.ev f
  rw [hag f (by simp [ho, Op.operands, Call.operands]), hf] at hfv
  have hargs : Pw (ARep w (ghost0 g.X)) (ds.map .d) (xs.map a.eval).toList := by
    have := dargs (cs := []) (vs := #[]) hs (fun y hy => hag y (by simp only [ho, Op.operands, Call.operands]; exact Array.mem_append.2 (.inr hy))) hx ⟨rfl, fun i x y h => by simp at h⟩
    simpa using this
  simp only [Oper.wp, run_exec_call ho (fn_inv hfv) hret.1, Oper.upon_enter, Array.append_empty]
  refine (hret.2 w (ghost0 g.X) _ (out0 hs mv hs.Xlt) hargs).mono ?_
  rintro e w' ⟨v, g', rfl, hout, hr⟩
  have hold : ∀ b, b < w.heap.size → w'.heap[b]? = w.heap[b]? := fun b hb => hout.keep b hb fun i hi => absurd hi (Nat.not_lt_zero i)
  have hsz := hout.grown
  simp only at hsz
  have hnew : ∀ j b, g'.phi j = some b → w.heap.size ≤ b := by
    intro j b hp
    rcases Nat.lt_or_ge b w.heap.size with hlt | hge
    · obtain ⟨_, hj, _⟩ := hout.own j b hp hlt; exact absurd hj (Nat.not_lt_zero _)
    · exact hge
  let g2 : Gh := { phi := upd g.phi i (g'.phi 0), psi := upd g.psi i (g'.psi 0), X := g.X }
  have hgr : Grow w g w' g2 := by
    refine ⟨fun j b hp => ?_, fun j b hp => ?_, fun _ h => h, fun b hb => hold b (hs.Xlt b hb)⟩
    · have hj : j ≠ i := fun e => by subst e; rw [hno] at hp; cases hp
      simpa [g2, upd, hj] using hp
    · have hj : j ≠ i := fun e => by subst e; rw [hno] at hp; cases hp
      simp [g2, upd, hj]
  have hphi : ∀ j b, g2.phi j = some b → (j = i ∧ g'.phi 0 = some b) ∨ (j ≠ i ∧ g.phi j = some b) := by
    intro j b hp
    by_cases hj : j = i
    · subst hj; exact .inl ⟨rfl, by simpa [g2, upd] using hp⟩
    · exact .inr ⟨hj, by simpa [g2, upd, hj] using hp⟩
  have hB : BRep w' g2 i B := by
    have h1 := BRep.any (Y := fun _ => False) (hout.hp 0 B rfl) hm
    have h2 := BRep.mapRef (g' := g2) (F := fun _ => .junk) (j := i) (by simp [g2, upd]) (by simp [g2, upd]) (fun b hb => False.elim hb) (fun x v _ _ => .junk v) h1
    rwa [hBB] at h2
  refine hK v w' g2 ?_ ?_
  · refine { defers := hs.defers, size := hs.size, fr := fun t => (hs.fr t).mono hgr, hp := ?_, lt := ?_, inj := ?_, Xlt := ?_, Xold := hs.Xold, os := hout.os.trans hs.os, tape := hout.tape.trans hs.tape, output := hout.output.trans hs.output, drawn := Nat.le_trans hs.drawn hout.drawn, grown := Nat.le_trans hs.grown hsz, keep := ?_, own := ?_, stay := ?_, kle := ?_ }
    · intro j B hj
      simp only [wr, List.foldl_cons, List.foldl_nil] at hj
      rw [List.getElem?_set] at hj
      split at hj
      · rename_i e; subst e
        cases hj; exact hB
      · rename_i hne
        refine (hs.hp j B hj).mono hgr (fun hn => ?_) fun b hb => hold b (hs.lt j b hb).1
        simpa [g2, upd, show j ≠ i from fun e => hne e.symm] using hn
    · intro j b hp
      simp only [wr, List.foldl_cons, List.foldl_nil, List.length_set]
      rcases hphi j b hp with ⟨rfl, hp'⟩ | ⟨_, hp'⟩
      · exact ⟨(hout.lt 0 b hp').1, hil, fun hX => by have := hs.Xlt b hX; have := hnew 0 b hp'; omega⟩
      · have := hs.lt j b hp'; exact ⟨by omega, this.2.1, this.2.2⟩
    · intro j j' b Bj Bj' hBj hBj' hdj hdj' hj hj'
      simp only [wr, List.foldl_cons, List.foldl_nil] at hBj hBj'
      rcases hphi j b hj with ⟨rfl, h1⟩ | ⟨h1, h1'⟩ <;> rcases hphi j' b hj' with ⟨rfl, h2⟩ | ⟨h3, h3'⟩
      · rfl
      · have := (hs.lt _ _ h3').1; have := hnew 0 b h1; omega
      · have := (hs.lt _ _ h1').1; have := hnew 0 b h2; omega
      · rw [List.getElem?_set, if_neg (fun e => h1 e.symm)] at hBj
        rw [List.getElem?_set, if_neg (fun e => h3 e.symm)] at hBj'
        exact hs.inj j j' b Bj Bj' hBj hBj' hdj hdj' h1' h3'
    · intro b hX; have := hs.Xlt b hX; omega
    · intro b hb hk; rw [hold b (by have := hs.grown; omega)]; exact hs.keep b hb hk
    · intro j b hp hb
      rcases hphi j b hp with ⟨rfl, hp'⟩ | ⟨_, hp'⟩
      · have := hnew 0 b hp'; have := hs.grown; omega
      · exact hs.own j b hp' hb
    · intro j b hj hmj hp
      have hst := hs.stay j b hj hmj hp
      have hne : j ≠ i := fun e => by subst e; rw [hno] at hst; cases hst.2
      simpa [g2, upd, hne] using hst
    · have := hs.kle; simpa [wr] using this
  · rcases hrr with ⟨rfl, rfl⟩ | ⟨sz, n, rfl, rfl⟩
    · cases hr with
      | mmap _ b hb => exact .mmap _ b (by simpa [g2, upd] using hb)
    · cases hr with
      | msl0 => exact .msl0 _ _ _ _
      | msl _ _ _ _ cap b hb hc hp => exact .msl _ _ _ _ cap b (by simpa [g2, upd] using hb) hc (by simpa [g2, upd] using hp)

theorem mapsTo_mem0 {kt vt : Nat} {α β : Type} {kf : α → D} {f : β → D} {fs : List (α × β)} (hk : ∀ x, D.mem0 (kf x) = true) (hf : ∀ x, D.mem0 (f x) = true) : BMem0 (.map kt vt (pairMap kf f fs)) := by
  intro e he
  obtain ⟨x, hx, rfl⟩ := List.mem_map.1 he
  exact ⟨hk _, hf _⟩
theorem flat_mem0 {t sz : Nat} {α : Type} {f : α → D} {xs : List α} (hf : ∀ x, D.mem0 (f x) = true) : BMem0 (.flat t sz (xs.map f)) := by
  intro e he
  obtain ⟨x, hx, rfl⟩ := List.mem_map.1 he
  exact hf _

end Go.TL
